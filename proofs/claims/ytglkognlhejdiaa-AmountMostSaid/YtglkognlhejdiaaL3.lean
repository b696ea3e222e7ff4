/- The walks of AmountParts, amount.Enough and AmountRises; conditions: the numbers are of their kinds. -/
import Derived.Test.YtglkognlhejdiaaL2
namespace Go.Proofs.Ytglkognlhejdiaa
open Go.RowKit
set_option linter.unusedVariables false
set_option linter.unusedSimpArgs false

theorem sub_ok (a b d : Int) (h : a - b = d) (d0 : 0 ≤ d) (a0 : 0 ≤ a) (a1 : a < 18446744073709551616) (b0 : 0 ≤ b) (b1 : b < 18446744073709551616) (w : World) :
    Calls Try.prog 12 #[.int .u64 a, .int .u64 b] w fun e w' => e = .returned (.tuple #[.int .u64 d, .int .i64 0]) ∧ w = w' := by
  have h1 := sub_any a b a0 a1 b0 b1 w
  rw [show subV a b = d from by unfold subV; rw [if_neg (by omega)]; exact h, show subE a b = 0 from by unfold subE; rw [if_neg (by omega)]] at h1
  exact h1.mono fun _ _ ⟨p, q⟩ => ⟨p, q.symm⟩
theorem sub_no (a b : Int) (h : a < b) (a0 : 0 ≤ a) (a1 : a < 18446744073709551616) (b0 : 0 ≤ b) (b1 : b < 18446744073709551616) (w : World) :
    Calls Try.prog 12 #[.int .u64 a, .int .u64 b] w fun e w' => e = .returned (.tuple #[.int .u64 0, .int .i64 61]) ∧ w = w' := by
  have h1 := sub_any a b a0 a1 b0 b1 w
  rw [show subV a b = 0 from by unfold subV; rw [if_pos h], show subE a b = 61 from by unfold subE; rw [if_pos h]] at h1
  exact h1.mono fun _ _ ⟨p, q⟩ => ⟨p, q.symm⟩

set_option maxHeartbeats 400000 in
theorem parts_walk (a b c : Int) (a0 : 0 ≤ a) (a1 : a < 18446744073709551616) (b0 : 0 ≤ b) (b1 : b < 18446744073709551616) (c0 : 0 ≤ c) (c1 : c < 18446744073709551616) (w : World) :
    Calls Try.prog 5 #[.int .u64 a, .int .u64 b, .int .u64 c] w fun e w' => e = .returned (.bool true) ∧ Below w.heap.size w w' := by
  have hx := add_three a b c a0 b0 c0
  have hy := add_three c a b c0 a0 b0
  rw [show c + a + b = a + b + c from by omega] at hy
  by_cases h : a + b + c > 1125899906842624
  · rw [show capV (a + b + c) = 0 from by unfold capV; rw [if_pos h], show capE (a + b + c) = 60 from by unfold capE; rw [if_pos h]] at hx hy
    go_enter Try.func5, Try.ntmps5
    go_wp2_with fail
    refine (hx _ _ (World.cell?_alloc_at _ _ _ _ rfl) (World.cell?_alloc_at _ _ _ _ rfl) (World.cell?_alloc_at _ _ _ _ rfl)).mono ?_
    rintro e w1 ⟨rfl, rfl⟩
    go_wp2_with fail
    refine (hy _ _ (World.cell?_alloc_at _ _ _ _ (by simp)) (World.cell?_alloc_at _ _ _ _ (by simp)) (World.cell?_alloc_at _ _ _ _ (by simp))).mono ?_
    rintro e w1 ⟨rfl, rfl⟩
    go_wp2_with fail
    refine (shown_any _).mono ?_
    rintro e w4 ⟨rfl, hb⟩
    go_wp2
    go_ret
    have hb0 : Below w.heap.size w ((w.alloc (.cells #[.int .u64 a, .int .u64 b, .int .u64 c] 23)).alloc (.cells #[.int .u64 c, .int .u64 a, .int .u64 b] 23)) := ((Below.refl _ _).alloc (Nat.le_refl _) _).alloc (by simp) _
    exact ⟨rfl, hb0.trans (hb.mono hb0.size)⟩
  · have hz := sub_ok (a + b + c) c (a + b) (by omega) (by omega) (by omega) (by omega) c0 c1
    have hw := sub_ok (a + b) b a (by omega) a0 (by omega) (by omega) b0 b1
    rw [show capV (a + b + c) = a + b + c from by unfold capV; rw [if_neg h], show capE (a + b + c) = 0 from by unfold capE; rw [if_neg h]] at hx hy
    go_enter Try.func5, Try.ntmps5
    go_wp2_with fail
    refine (hx _ _ (World.cell?_alloc_at _ _ _ _ rfl) (World.cell?_alloc_at _ _ _ _ rfl) (World.cell?_alloc_at _ _ _ _ rfl)).mono ?_
    rintro e w1 ⟨rfl, rfl⟩
    go_wp2_with fail
    refine (hy _ _ (World.cell?_alloc_at _ _ _ _ (by simp)) (World.cell?_alloc_at _ _ _ _ (by simp)) (World.cell?_alloc_at _ _ _ _ (by simp))).mono ?_
    rintro e w1 ⟨rfl, rfl⟩
    go_wp2_with fail
    refine (shown_any _).mono ?_
    rintro e w4 ⟨rfl, hb⟩
    go_wp2_with fail
    refine (hz _).mono ?_
    rintro e w5 ⟨rfl, rfl⟩
    go_wp2_with fail
    refine (hw _).mono ?_
    rintro e w5 ⟨rfl, rfl⟩
    go_wp2
    go_ret
    have hb0 : Below w.heap.size w ((w.alloc (.cells #[.int .u64 a, .int .u64 b, .int .u64 c] 23)).alloc (.cells #[.int .u64 c, .int .u64 a, .int .u64 b] 23)) := ((Below.refl _ _).alloc (Nat.le_refl _) _).alloc (by simp) _
    exact ⟨rfl, hb0.trans (hb.mono hb0.size)⟩

/-! ### amount.Enough -/
def enough (i o b r : Int) : Bool := decide (feeT b r o ≤ 1125899906842624) && decide (o + feeT b r o ≤ i)
theorem feeT_nn (b r o : Int) (b0 : 0 ≤ b) (r0 : 0 ≤ r) (o0 : 0 ≤ o) : 0 ≤ feeT b r o := by
  have := Int.mul_nonneg o0 r0
  unfold feeT; omega
set_option maxHeartbeats 400000 in
theorem enough_any (i o b r : Int) (i0 : 0 ≤ i) (i1 : i < 18446744073709551616) (o0 : 0 ≤ o) (o1 : o < 18446744073709551616) (b0 : 0 ≤ b) (b1 : b < 18446744073709551616) (r0 : 0 ≤ r) (r1 : r < 18446744073709551616) (w : World) :
    Calls Try.prog 16 #[.int .u64 i, .int .u64 o, .int .u64 b, .int .u64 r] w fun e w' => e = .returned (.bool (enough i o b r)) ∧ Below w.heap.size w w' := by
  have hn := feeT_nn b r o b0 r0 o0
  unfold enough
  by_cases h : feeT b r o ≤ 1125899906842624
  · have hf := fee_ok b r o _ rfl h b0 b1 r0 r1 o0 o1
    generalize feeT b r o = F at *
    by_cases h2 : i < o
    · have hs := sub_no i o h2 i0 i1 o0 o1
      rw [show decide (o + F ≤ i) = false from by simp; omega]
      go_enter Try.func16, Try.ntmps16
      go_wp2_with fail
      refine (hf _).mono ?_
      rintro e w1 ⟨rfl, hb1⟩
      go_wp2_with fail
      refine (hs _).mono ?_
      rintro e w1 ⟨rfl, rfl⟩
      go_wp2
      go_ret
      exact ⟨by simp, hb1⟩
    · have hs := sub_ok i o (i - o) rfl (by omega) i0 i1 o0 o1
      by_cases h3 : F ≤ i - o
      · rw [show decide (o + F ≤ i) = true from by simp; omega]
        go_enter Try.func16, Try.ntmps16
        go_wp2_with fail
        refine (hf _).mono ?_
        rintro e w1 ⟨rfl, hb1⟩
        go_wp2_with fail
        refine (hs _).mono ?_
        rintro e w1 ⟨rfl, rfl⟩
        go_wp2
        go_ret
        exact ⟨by simp [h], hb1⟩
      · rw [show decide (o + F ≤ i) = false from by simp; omega]
        go_enter Try.func16, Try.ntmps16
        go_wp2_with fail
        refine (hf _).mono ?_
        rintro e w1 ⟨rfl, hb1⟩
        go_wp2_with fail
        refine (hs _).mono ?_
        rintro e w1 ⟨rfl, rfl⟩
        go_wp2
        go_ret
        exact ⟨by simp; omega, hb1⟩
  · have hf := fee_no b r o (by omega) b0 b1 r0 r1 o0 o1
    have hs := sub_any i o i0 i1 o0 o1
    rw [show decide (feeT b r o ≤ 1125899906842624) = false from by simp; omega]
    go_enter Try.func16, Try.ntmps16
    go_wp2_with fail
    refine (hf _).mono ?_
    rintro e w1 ⟨rfl, hb1⟩
    go_wp2_with fail
    refine (hs _).mono ?_
    rintro e w1 ⟨rfl, rfl⟩
    go_wp2
    go_ret
    exact ⟨by simp, hb1⟩
end Go.Proofs.Ytglkognlhejdiaa
