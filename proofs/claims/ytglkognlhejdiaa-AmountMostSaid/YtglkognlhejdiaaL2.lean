/- The walk of AmountParted, and a fee that is, or is not, an error; conditions: the numbers are of their kinds. -/
import Derived.Test.YtglkognlhejdiaaL1
namespace Go.Proofs.Ytglkognlhejdiaa
open Go.RowKit
set_option linter.unusedVariables false
set_option linter.unusedSimpArgs false

/-- A fee that is no error. -/
theorem fee_ok (base rate n : Int) (F : Int) (hF : feeT base rate n = F) (hle : F ≤ 1125899906842624) (a0 : 0 ≤ base) (a1 : base < 18446744073709551616) (b0 : 0 ≤ rate) (b1 : rate < 18446744073709551616) (c0 : 0 ≤ n) (c1 : n < 18446744073709551616) (w : World) :
    Calls Try.prog 9 #[.int .u64 base, .int .u64 rate, .int .u64 n] w fun e w' => e = .returned (.tuple #[.int .u64 F, .int .i64 0]) ∧ Below w.heap.size w w' := by
  have h := fee_any base rate n a0 a1 b0 b1 c0 c1 w
  rw [hF, show capV F = F from by unfold capV; rw [if_neg (by omega)], show capE F = 0 from by unfold capE; rw [if_neg (by omega)]] at h
  exact h
theorem fee_no (base rate n : Int) (hle : 1125899906842624 < feeT base rate n) (a0 : 0 ≤ base) (a1 : base < 18446744073709551616) (b0 : 0 ≤ rate) (b1 : rate < 18446744073709551616) (c0 : 0 ≤ n) (c1 : n < 18446744073709551616) (w : World) :
    Calls Try.prog 9 #[.int .u64 base, .int .u64 rate, .int .u64 n] w fun e w' => e = .returned (.tuple #[.int .u64 0, .int .i64 60]) ∧ Below w.heap.size w w' := by
  have h := fee_any base rate n a0 a1 b0 b1 c0 c1 w
  rw [show capV (feeT base rate n) = 0 from by unfold capV; rw [if_pos (by omega)], show capE (feeT base rate n) = 60 from by unfold capE; rw [if_pos (by omega)]] at h
  exact h

set_option maxHeartbeats 400000 in
theorem parted_walk (r a b : Int) (r0 : 0 ≤ r) (r1 : r < 4294967296) (a0 : 0 ≤ a) (a1 : a < 4294967296) (b0 : 0 ≤ b) (b1 : b < 4294967296) (w : World) :
    Calls Try.prog 4 #[.int .u32 r, .int .u32 a, .int .u32 b] w fun e w' => e = .returned (.bool true) ∧ Below w.heap.size w w' := by
  obtain ⟨m0, m1⟩ := mul_lt32 a r r0 r1 a0 a1
  obtain ⟨n0, n1⟩ := mul_lt32 b r r0 r1 b0 b1
  have hd : (a + b) * r = a * r + b * r := Int.add_mul ..
  have hx := fee_ok 0 r a (a * r / 1000000) (by unfold feeT; omega) (by omega) (by omega) (by omega) r0 (by omega) a0 (by omega)
  have hy := fee_ok 0 r b (b * r / 1000000) (by unfold feeT; omega) (by omega) (by omega) (by omega) r0 (by omega) b0 (by omega)
  have hz := fee_ok 0 r (a + b) ((a * r + b * r) / 1000000) (by unfold feeT; rw [hd]; omega) (by omega) (by omega) (by omega) r0 (by omega) (by omega) (by omega)
  have k1 : a * r / 1000000 + b * r / 1000000 ≤ (a * r + b * r) / 1000000 := by omega
  have k2 : (a * r + b * r) / 1000000 ≤ a * r / 1000000 + b * r / 1000000 + 1 := by omega
  have k3 : 0 ≤ a * r / 1000000 ∧ a * r / 1000000 ≤ 1125899906842624 := by omega
  have k4 : 0 ≤ b * r / 1000000 ∧ b * r / 1000000 ≤ 1125899906842624 := by omega
  clear hd
  generalize a * r / 1000000 = x at *
  generalize b * r / 1000000 = y at *
  generalize (a * r + b * r) / 1000000 = z at *
  clear m0 m1 n0 n1
  obtain ⟨k5, k6⟩ := k3
  obtain ⟨k7, k8⟩ := k4
  go_enter Try.func4, Try.ntmps4
  go_wp2_with fail
  refine (hx _).mono ?_
  rintro e w1 ⟨rfl, hb1⟩
  go_wp2_with fail
  refine (hy _).mono ?_
  rintro e w2 ⟨rfl, hb2⟩
  go_wp2_with fail
  refine (hz _).mono ?_
  rintro e w3 ⟨rfl, hb3⟩
  go_wp2_with fail
  refine (shown_any _).mono ?_
  rintro e w4 ⟨rfl, hb4⟩
  go_wp2
  go_ret
  have h12 := hb1.trans (hb2.mono hb1.size)
  have h13 := h12.trans (hb3.mono h12.size)
  exact ⟨rfl, h13.trans (hb4.mono h13.size)⟩
end Go.Proofs.Ytglkognlhejdiaa
