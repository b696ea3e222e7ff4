/- The walks of amount.Most and AmountMost; conditions: the numbers are of their kinds. -/
import Derived.Test.YtglkognlhejdiaaL6
import Derived.RegionTactic
namespace Go.Proofs.Ytglkognlhejdiaa
open Go.RowKit
set_option linter.unusedVariables false
set_option linter.unusedSimpArgs false

/-- The boxes of in, low, base and rate. -/
structure Boxes (w : World) (bi bl bb br : Nat) (i l b r : Int) : Prop where
  hi : w.cell? ⟨bi, 0, none⟩ = some (.int .u64 i)
  hl : w.cell? ⟨bl, 0, none⟩ = some (.int .u64 l)
  hb : w.cell? ⟨bb, 0, none⟩ = some (.int .u64 b)
  hr : w.cell? ⟨br, 0, none⟩ = some (.int .u64 r)
theorem Boxes.below {w w' : World} {bi bl bb br : Nat} {i l b r : Int} (h : Boxes w bi bl bb br i l b r) (k : Below w.heap.size w w') : Boxes w' bi bl bb br i l b r :=
  ⟨(k.cell (World.block_lt_of_cell? w _ h.hi)).trans h.hi, (k.cell (World.block_lt_of_cell? w _ h.hl)).trans h.hl, (k.cell (World.block_lt_of_cell? w _ h.hb)).trans h.hb, (k.cell (World.block_lt_of_cell? w _ h.hr)).trans h.hr⟩

set_option maxHeartbeats 400000 in
theorem closure_any (bi bl bb br : Nat) (i l b r k : Int) (i0 : 0 ≤ i) (i1 : i < 18446744073709551616) (l0 : 0 ≤ l) (b0 : 0 ≤ b) (b1 : b < 18446744073709551616) (r0 : 0 ≤ r) (r1 : r < 18446744073709551616)
    (k0 : 0 ≤ k) (k1 : k < 4611686018427387904) (hk : l + k + 1 < 18446744073709551616) (w : World) (h : Boxes w bi bl bb br i l b r) :
    Calls Try.prog 24 #[.int .i64 k, .pointer (some ⟨bi, 0, none⟩), .pointer (some ⟨bl, 0, none⟩), .pointer (some ⟨bb, 0, none⟩), .pointer (some ⟨br, 0, none⟩)] w fun e w' => e = .returned (.bool (!enough i (l + k + 1) b r)) ∧ Below w.heap.size w w' := by
  have he := enough_any i (l + k + 1) b r i0 i1 (by omega) hk b0 b1 r0 r1
  obtain ⟨h1, h2, h3, h4⟩ := h
  go_enter Try.func24, Try.ntmps24
  go_wp2_with fail
  refine (he _).mono ?_
  rintro e w1 ⟨rfl, hb1⟩
  go_wp2
  go_ret
  exact ⟨rfl, hb1⟩

def SPost (i l b r n : Int) (w : World) (e : Ending) (w' : World) : Prop :=
  ∃ k : Int, e = .returned (.int .i64 k) ∧ 0 ≤ k ∧ k ≤ n ∧ (k = 0 ∨ enough i (l + k) b r = true) ∧ (k = n ∨ enough i (l + k + 1) b r = false) ∧ Below w.heap.size w w'

set_option maxHeartbeats 1000000 in
theorem search_any (bi bl bb br : Nat) (i l b r n : Int) (i0 : 0 ≤ i) (i1 : i < 18446744073709551616) (l0 : 0 ≤ l) (b0 : 0 ≤ b) (b1 : b < 18446744073709551616) (r0 : 0 ≤ r) (r1 : r < 18446744073709551616)
    (n0 : 0 ≤ n) (n1 : n ≤ 4611686018427387904) (hk : l + n < 18446744073709551616) (w : World) (h : Boxes w bi bl bb br i l b r) :
    Calls Try.prog 23 #[.int .i64 n, .func (.func 24) #[] #[.pointer (some ⟨bi, 0, none⟩), .pointer (some ⟨bl, 0, none⟩), .pointer (some ⟨bb, 0, none⟩), .pointer (some ⟨br, 0, none⟩)]] w (SPost i l b r n w) := by
  have HX := Lib.hid h; clear h
  go_enter Try.func23, Try.ntmps23
  go_wp2
  go_loopw [5, 6] (fun s5 s6 wr => ∃ lo hi : Int, s5 = .int .i64 lo ∧ s6 = .int .i64 hi ∧ 0 ≤ lo ∧ lo ≤ hi ∧ hi ≤ n ∧ Hid (lo = 0 ∨ enough i (l + lo) b r = true) ∧ Hid (hi = n ∨ enough i (l + hi + 1) b r = false) ∧ Hid (Below w.heap.size w wr)) (fun s5 s6 _ => (intOf s6 - intOf s5).toNat)
  case atStart => exact ⟨0, n, rfl, rfl, by omega, by omega, by omega, Lib.hid (.inl rfl), Lib.hid (.inl rfl), Lib.hid (Below.refl _ _)⟩
  case round =>
    obtain ⟨lo, hi, rfl, rfl, h0, h1, h2, H1, H2, HB⟩ := hrel
    by_cases hlt : lo < hi
    · have hc := closure_any bi bl bb br i l b r ((lo + hi) / 2) i0 i1 l0 b0 b1 r0 r1 (by omega) (by omega) (by omega) _ (HX.out.below HB.out)
      cases hp : enough i (l + (lo + hi) / 2 + 1) b r with
      | true =>
        rw [hp] at hc
        have HP := Lib.hid hp; clear hp
        go_wp2_with fail
        refine hc.mono ?_
        rintro e w1 ⟨rfl, hb1⟩
        clear hc
        go_wp2
        go_roundw
        case rel => exact ⟨(lo + hi) / 2 + 1, hi, rfl, rfl, by omega, by omega, by omega, Lib.hid (.inr (by rw [← Int.add_assoc]; exact HP.out)), H2, Lib.hid (bt HB.out hb1)⟩
        case measure => simp [intOf]; omega
      | false =>
        rw [hp] at hc
        have HP := Lib.hid hp; clear hp
        go_wp2_with fail
        refine hc.mono ?_
        rintro e w1 ⟨rfl, hb1⟩
        clear hc
        go_wp2
        go_roundw
        case rel => exact ⟨lo, (lo + hi) / 2, rfl, rfl, by omega, by omega, by omega, H1, Lib.hid (.inr HP.out), Lib.hid (bt HB.out hb1)⟩
        case measure => simp [intOf]; omega
    · obtain rfl : lo = hi := by omega
      go_wp2
      go_ret
      exact ⟨lo, rfl, h0, h2, H1.out, H2.out, HB.out⟩
end Go.Proofs.Ytglkognlhejdiaa
