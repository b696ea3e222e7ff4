/- The walk of amount.Sub (as in the seat of the amounts); no condition. -/
import Derived.Test.YtgehdkbjcpdjoaaDoorMi
import Derived.Shelf.Spec.BitsCarry
namespace Go.Proofs.YtgehdkbjcpdjoaaDoor
open Go.RowKit
set_option linter.unusedVariables false
set_option linter.unusedSimpArgs false

theorem sub64 (x y : Int) (hx : 0 ≤ x) (hy : 0 ≤ y) (hy' : y < 18446744073709551616) (w : World) : (callFunc 20 #[.int .u64 x, .int .u64 y, .int .u64 0]).run Tryd.prog w =
    .ok (.value (.tuple #[.int .u64 ((x - y) % 18446744073709551616), .int .u64 (if x < y then 1 else 0)])) w := by
  obtain ⟨x, rfl⟩ := Int.eq_ofNat_of_zero_le hx
  obtain ⟨y, rfl⟩ := Int.eq_ofNat_of_zero_le hy
  have e1 : (((x + 18446744073709551616 - y - 0) % 18446744073709551616 : Nat) : Int) = ((x : Int) - y) % 18446744073709551616 := by omega
  have e2 : ((if x < y + 0 then 1 else 0 : Nat) : Int) = if (x : Int) < y then 1 else 0 := by split <;> split <;> omega
  rw [← e1, ← e2]
  rw [run_callFunc_extern Tryd.func20 (by kernel_rfl) (by kernel_rfl) (by kernel_rfl) (e := sub64Entry) (by kernel_rfl), show (Value.int IntKind.u64 0) = .int .u64 ((0 : Nat) : Int) from rfl, run_sub64 x y 0 (by omega)]
  rfl

/-! ### amount.Add -/
def subV (a b : Int) : Int := if a < b then 0 else a - b
def subE (a b : Int) : Int := if a < b then 61 else 0
set_option maxHeartbeats 400000 in
theorem sub_any (a b : Int) (a0 : 0 ≤ a) (a1 : a < 18446744073709551616) (b0 : 0 ≤ b) (b1 : b < 18446744073709551616) (w : World) :
    Calls Tryd.prog 11 #[.int .u64 a, .int .u64 b] w fun e w' => e = .returned (.tuple #[.int .u64 (subV a b), .int .i64 (subE a b)]) ∧ w' = w := by
  unfold subV subE
  by_cases h : a < b
  · have h1 := sub64 a b a0 b0 b1
    rw [if_pos h] at h1
    go_enter Tryd.func11, Tryd.ntmps11
    go_wp2_with (first | simp only [h1])
    go_ret2
    exact ⟨by simp [h], rfl⟩
  · have h1 := sub64 a b a0 b0 b1
    rw [if_neg h] at h1
    have e : (a - b) % 18446744073709551616 = a - b := by omega
    rw [e] at h1
    go_enter Tryd.func11, Tryd.ntmps11
    go_wp2_with (first | simp only [h1])
    go_ret2
    exact ⟨by simp [h], rfl⟩

/-! ### amount.Fee -/
theorem sub_ok (a b d : Int) (h : a - b = d) (d0 : 0 ≤ d) (a0 : 0 ≤ a) (a1 : a < 18446744073709551616) (b0 : 0 ≤ b) (b1 : b < 18446744073709551616) (w : World) :
    Calls Tryd.prog 11 #[.int .u64 a, .int .u64 b] w fun e w' => e = .returned (.tuple #[.int .u64 d, .int .i64 0]) ∧ w = w' := by
  have h1 := sub_any a b a0 a1 b0 b1 w
  rw [show subV a b = d from by unfold subV; rw [if_neg (by omega)]; exact h, show subE a b = 0 from by unfold subE; rw [if_neg (by omega)]] at h1
  exact h1.mono fun _ _ ⟨p, q⟩ => ⟨p, q.symm⟩
theorem sub_no (a b : Int) (h : a < b) (a0 : 0 ≤ a) (a1 : a < 18446744073709551616) (b0 : 0 ≤ b) (b1 : b < 18446744073709551616) (w : World) :
    Calls Tryd.prog 11 #[.int .u64 a, .int .u64 b] w fun e w' => e = .returned (.tuple #[.int .u64 0, .int .i64 61]) ∧ w = w' := by
  have h1 := sub_any a b a0 a1 b0 b1 w
  rw [show subV a b = 0 from by unfold subV; rw [if_pos h], show subE a b = 61 from by unfold subE; rw [if_pos h]] at h1
  exact h1.mono fun _ _ ⟨p, q⟩ => ⟨p, q.symm⟩


end Go.Proofs.YtgehdkbjcpdjoaaDoor
