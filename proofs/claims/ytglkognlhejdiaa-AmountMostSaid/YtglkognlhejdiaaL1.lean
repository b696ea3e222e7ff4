/- The walk of AmountNear; conditions: the numbers are of their kinds. -/
import Derived.Test.YtglkognlhejdiaaWk
namespace Go.Proofs.Ytglkognlhejdiaa
open Go.RowKit
set_option linter.unusedVariables false
set_option linter.unusedSimpArgs false

theorem mul_lt32 (c b : Int) (b0 : 0 ≤ b) (b1 : b < 4294967296) (c0 : 0 ≤ c) (c1 : c < 4294967296) : 0 ≤ c * b ∧ c * b ≤ 18446744065119617025 := by
  refine ⟨Int.mul_nonneg c0 b0, ?_⟩
  have h1 : c * b ≤ 4294967295 * b := Int.mul_le_mul_of_nonneg_right (by omega) b0
  omega

set_option maxHeartbeats 400000 in
theorem near_walk (a b c : Int) (a0 : 0 ≤ a) (a1 : a < 4294967296) (b0 : 0 ≤ b) (b1 : b < 4294967296) (c0 : 0 ≤ c) (c1 : c < 4294967296) (w : World) :
    Calls Try.prog 3 #[.int .u32 a, .int .u32 b, .int .u32 c] w fun e w' => e = .returned (.bool true) ∧ Below w.heap.size w w' := by
  have hf := fee_any a b c a0 (by omega) b0 (by omega) c0 (by omega)
  obtain ⟨m0, m1⟩ := mul_lt32 c b b0 b1 c0 c1
  by_cases h : feeT a b c > 1125899906842624
  · have e1 : capV (feeT a b c) = 0 := by unfold capV; rw [if_pos h]
    have e2 : capE (feeT a b c) = 60 := by unfold capE; rw [if_pos h]
    rw [e1, e2] at hf
    clear e1 e2 h
    go_enter Try.func3, Try.ntmps3
    go_wp2_with fail
    refine (hf _).mono ?_
    rintro e w1 ⟨rfl, hb⟩
    go_wp2_with fail
    refine (shown_any _).mono ?_
    rintro e w2 ⟨rfl, hb2⟩
    go_wp2
    go_ret
    exact ⟨rfl, hb.trans (hb2.mono hb.size)⟩
  · have e1 : capV (feeT a b c) = feeT a b c := by unfold capV; rw [if_neg h]
    have e2 : capE (feeT a b c) = 0 := by unfold capE; rw [if_neg h]
    rw [e1, e2] at hf
    have hF : feeT a b c = a + c * b / 1000000 := rfl
    generalize feeT a b c = F at *
    have k1 : a ≤ F := by omega
    have k2 : (F - a) * 1000000 ≤ c * b := by omega
    have k3 : c * b < (F - a + 1) * 1000000 := by omega
    have k4 : F ≤ 1125899906842624 := by omega
    have k5 : (F - a + 1) * 1000000 < 18446744073709551616 := by omega
    clear e1 e2 h hF
    go_enter Try.func3, Try.ntmps3
    go_wp2_with fail
    refine (hf _).mono ?_
    rintro e w1 ⟨rfl, hb⟩
    go_wp2_with fail
    refine (shown_any _).mono ?_
    rintro e w2 ⟨rfl, hb2⟩
    go_wp2
    go_ret
    exact ⟨rfl, hb.trans (hb2.mono hb.size)⟩
end Go.Proofs.Ytglkognlhejdiaa
