/- The walk of AmountRises; conditions: the numbers are of their kinds. -/
import Derived.Test.YtglkognlhejdiaaL3
namespace Go.Proofs.Ytglkognlhejdiaa
open Go.RowKit
set_option linter.unusedVariables false
set_option linter.unusedSimpArgs false

theorem feeT_mono (b r x y : Int) (r0 : 0 ≤ r) (h : x ≤ y) : feeT b r x ≤ feeT b r y := by
  have := Int.mul_le_mul_of_nonneg_right h r0
  unfold feeT; omega
theorem enough_mono (i x y b r : Int) (r0 : 0 ≤ r) (h : x ≤ y) (he : enough i y b r = true) : enough i x b r = true := by
  have := feeT_mono b r x y r0 h
  simp [enough] at he ⊢
  omega

set_option maxHeartbeats 400000 in
theorem rises_core (i o l a b p r : Int) (i0 : 0 ≤ i) (i1 : i < 18446744073709551616) (a0 : 0 ≤ a) (a1 : a < 18446744073709551616) (b0 : 0 ≤ b) (b1 : b < 18446744073709551616) (p0 : 0 ≤ p) (p1 : p < 18446744073709551616) (r0 : 0 ≤ r) (r1 : r < 18446744073709551616)
    (hab : a ≤ b) (ha : min o l = a) (hb : max o l = b) (w : World) :
    Calls Try.prog 7 #[.int .u64 i, .int .u64 o, .int .u64 l, .int .u64 p, .int .u64 r] w fun e w' => e = .returned (.bool true) ∧ Below w.heap.size w w' := by
  have hm := feeT_mono p r a b r0 hab
  have hfa := fee_any p r a p0 p1 r0 r1 a0 a1
  have hfb := fee_any p r b p0 p1 r0 r1 b0 b1
  have hea := enough_any i a p r i0 i1 a0 a1 p0 p1 r0 r1
  have heb := enough_any i b p r i0 i1 b0 b1 p0 p1 r0 r1
  have hmo := enough_mono i a b p r r0 hab
  by_cases hB : feeT p r b ≤ 1125899906842624
  · have hA : feeT p r a ≤ 1125899906842624 := by omega
    rw [show capV (feeT p r b) = feeT p r b from by unfold capV; rw [if_neg (by omega)], show capE (feeT p r b) = 0 from by unfold capE; rw [if_neg (by omega)]] at hfb
    rw [show capV (feeT p r a) = feeT p r a from by unfold capV; rw [if_neg (by omega)], show capE (feeT p r a) = 0 from by unfold capE; rw [if_neg (by omega)]] at hfa
    generalize feeT p r a = x at *
    generalize feeT p r b = y at *
    cases hE : enough i b p r with
    | false =>
      rw [hE] at heb
      clear hmo hE
      go_enter Try.func7, Try.ntmps7
      go_wp2_with fail
      refine (hfa _).mono ?_
      rintro e w1 ⟨rfl, hb1⟩
      go_wp2_with fail
      refine (hfb _).mono ?_
      rintro e w2 ⟨rfl, hb2⟩
      go_wp2_with fail
      refine (heb _).mono ?_
      rintro e w3 ⟨rfl, hb3⟩
      go_wp2_with fail
      refine (shown_any _).mono ?_
      rintro e w4 ⟨rfl, hb4⟩
      go_wp2
      go_ret
      have h12 := hb1.trans (hb2.mono hb1.size)
      have h13 := h12.trans (hb3.mono h12.size)
      exact ⟨rfl, h13.trans (hb4.mono h13.size)⟩
    | true =>
      rw [hE] at heb
      rw [hmo hE] at hea
      clear hmo hE
      go_enter Try.func7, Try.ntmps7
      go_wp2_with fail
      refine (hfa _).mono ?_
      rintro e w1 ⟨rfl, hb1⟩
      go_wp2_with fail
      refine (hfb _).mono ?_
      rintro e w2 ⟨rfl, hb2⟩
      go_wp2_with fail
      refine (heb _).mono ?_
      rintro e w3 ⟨rfl, hb3⟩
      go_wp2_with fail
      refine (hea _).mono ?_
      rintro e w5 ⟨rfl, hb5⟩
      go_wp2_with fail
      refine (shown_any _).mono ?_
      rintro e w4 ⟨rfl, hb4⟩
      go_wp2
      go_ret
      have h12 := hb1.trans (hb2.mono hb1.size)
      have h13 := h12.trans (hb3.mono h12.size)
      have h14 := h13.trans (hb5.mono h13.size)
      exact ⟨rfl, h14.trans (hb4.mono h14.size)⟩
  · have hE : enough i b p r = false := by simp [enough]; omega
    rw [hE] at heb
    rw [show capV (feeT p r b) = 0 from by unfold capV; rw [if_pos (by omega)], show capE (feeT p r b) = 60 from by unfold capE; rw [if_pos (by omega)]] at hfb
    clear hmo hE hm hB hab
    generalize capV (feeT p r a) = x at *
    generalize capE (feeT p r a) = y at *
    go_enter Try.func7, Try.ntmps7
    go_wp2_with fail
    refine (hfa _).mono ?_
    rintro e w1 ⟨rfl, hb1⟩
    go_wp2_with fail
    refine (hfb _).mono ?_
    rintro e w2 ⟨rfl, hb2⟩
    go_wp2_with fail
    refine (heb _).mono ?_
    rintro e w3 ⟨rfl, hb3⟩
    go_wp2_with fail
    refine (shown_any _).mono ?_
    rintro e w4 ⟨rfl, hb4⟩
    go_wp2
    go_ret
    have h12 := hb1.trans (hb2.mono hb1.size)
    have h13 := h12.trans (hb3.mono h12.size)
    exact ⟨rfl, h13.trans (hb4.mono h13.size)⟩

theorem rises_walk (i o l p r : Int) (i0 : 0 ≤ i) (i1 : i < 18446744073709551616) (a0 : 0 ≤ o) (a1 : o < 18446744073709551616) (b0 : 0 ≤ l) (b1 : l < 18446744073709551616) (p0 : 0 ≤ p) (p1 : p < 18446744073709551616) (r0 : 0 ≤ r) (r1 : r < 18446744073709551616) (w : World) :
    Calls Try.prog 7 #[.int .u64 i, .int .u64 o, .int .u64 l, .int .u64 p, .int .u64 r] w fun e w' => e = .returned (.bool true) ∧ Below w.heap.size w w' := by
  refine rises_core i o l (min o l) (max o l) p r i0 i1 ?_ ?_ ?_ ?_ p0 p1 r0 r1 ?_ rfl rfl w <;> omega
end Go.Proofs.Ytglkognlhejdiaa
