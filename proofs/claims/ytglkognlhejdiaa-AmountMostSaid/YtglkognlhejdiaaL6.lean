/- The walk of AmountTells; conditions: the numbers are of their kinds. -/
import Derived.Test.YtglkognlhejdiaaL5
import Derived.Test.YtglkognlhejdiaaArgs
namespace Go.Proofs.Ytglkognlhejdiaa
open Go.RowKit
set_option linter.unusedVariables false
set_option linter.unusedSimpArgs false

set_option maxHeartbeats 400000 in
theorem add_sl (A : Option Addr) (l : List Int) (c : Nat) (w : World) (hl : l.length < 9223372036854775807) (hb : ∀ x ∈ l, 0 ≤ x) (hc : ∀ i : Nat, i < l.length → ∃ b off, A = some ⟨b, off, none⟩ ∧ w.cell? ⟨b, off + i, none⟩ = some (.int .u64 (l.getD i 0))) :
    Calls Try.prog 11 #[.slice A l.length c] w fun e w' => e = .returned (.tuple #[.int .u64 (addV 0 l).1, .int .i64 (addV 0 l).2]) ∧ w' = w := by
  have HB := Lib.hid hb; clear hb
  have HC := Lib.hid hc; clear hc
  generalize hr : addV 0 l = r
  have HR := Lib.hid hr; clear hr
  go_enter Try.func11, Try.ntmps11
  go_wp2
  go_loop [2, 8] (fun s i => ∃ (k : Nat) (a : Int), k ≤ l.length ∧ i = .int .i64 k ∧ s = .int .u64 a ∧ 0 ≤ a ∧ a ≤ 1125899906842624 ∧ Hid (addV a (l.drop k) = r)) (fun _ i => l.length - (intOf i).toNat)
  case atStart => exact ⟨0, 0, by omega, rfl, rfl, by decide, by decide, Lib.hid HR.out⟩
  case round =>
    obtain ⟨k, a, hk, rfl, rfl, ha0, ha1, HA⟩ := hrel
    by_cases hlt : k < l.length
    · obtain ⟨b, off, rfl, hcell⟩ := HC.out k hlt
      have hx0 : 0 ≤ l.getD k 0 := HB.out _ (by rw [List.getD_eq_getElem?_getD, List.getElem?_eq_getElem hlt]; simp)
      have HA2 := Lib.hid (HA.out.symm.trans (addV_drop a l k hlt)).symm
      clear HA
      generalize l.getD k 0 = x at *
      go_wp2
      · have h := HA2.out
        rw [if_pos (by assumption)] at h
        subst h
        go_ret2
        exact ⟨rfl, rfl⟩
      · have h := HA2.out
        rw [if_neg (by omega)] at h
        go_round
        case rel => exact ⟨k + 1, _, by omega, by go_num, rfl, by omega, by omega, Lib.hid h⟩
        case measure => simp [intOf]; omega
    · obtain rfl : k = l.length := by omega
      have HA2 := Lib.hid HA.out; clear HA
      go_wp2
      go_ret2
      have := HA2.out
      simp [addV] at this
      subst this
      exact ⟨rfl, rfl⟩

set_option maxHeartbeats 400000 in
theorem radd_sl (A : Option Addr) (l : List Int) (c : Nat) (w : World) (hl : l.length < 9223372036854775807) (hb : ∀ x ∈ l, 0 ≤ x) (hb1 : ∀ x ∈ l, x < 18446744073709551616) (hc : ∀ i : Nat, i < l.length → ∃ b off, A = some ⟨b, off, none⟩ ∧ w.cell? ⟨b, off + i, none⟩ = some (.int .u64 (l.getD i 0))) :
    Calls Try.prog 13 #[.slice A l.length c] w fun e w' => e = .returned (.tuple #[.int .u64 (addV 0 l).1, .int .i64 (addV 0 l).2]) ∧ w = w' := by
  have HB := Lib.hid hb; clear hb
  have HB1 := Lib.hid hb1; clear hb1
  have HC := Lib.hid hc; clear hc
  generalize hr : addV 0 l = r
  have HR := Lib.hid hr; clear hr
  go_enter Try.func13, Try.ntmps13
  go_wp2
  go_loop [4, 5] (fun s i => ∃ (k : Nat) (a : Int), k ≤ l.length ∧ i = .int .i64 k ∧ s = .int .u64 a ∧ 0 ≤ a ∧ a ≤ 1125899906842624 ∧ Hid (addV a (l.drop k) = r)) (fun _ i => l.length - (intOf i).toNat)
  case atStart => exact ⟨0, 0, by omega, rfl, rfl, by decide, by decide, Lib.hid HR.out⟩
  case round =>
    obtain ⟨k, a, hk, rfl, rfl, ha0, ha1, HA⟩ := hrel
    by_cases hlt : k < l.length
    · obtain ⟨b, off, rfl, hcell⟩ := HC.out k hlt
      have hx0 : 0 ≤ l.getD k 0 := HB.out _ (by rw [List.getD_eq_getElem?_getD, List.getElem?_eq_getElem hlt]; simp)
      have hx1 : l.getD k 0 < 18446744073709551616 := HB1.out _ (by rw [List.getD_eq_getElem?_getD, List.getElem?_eq_getElem hlt]; simp)
      have HA2 := Lib.hid (HA.out.symm.trans (addV_drop a l k hlt)).symm
      clear HA
      generalize l.getD k 0 = x at *
      by_cases hx : 1125899906842624 < x
      · go_wp2
        have h := HA2.out
        rw [if_pos (by omega)] at h
        subst h
        go_ret2
        exact ⟨rfl, rfl⟩
      · by_cases hy : 1125899906842624 < a + x
        · have h := HA2.out
          rw [if_pos (by omega)] at h
          subst h
          clear HA2 HR
          go_wp2
          go_ret2
          exact ⟨rfl, rfl⟩
        · have h := HA2.out
          rw [if_neg (by omega), show min x 1125899906842625 = x from by omega] at h
          have H := Lib.hid h
          clear h HA2
          go_wp2
          go_round
          case rel => exact ⟨k + 1, _, by omega, by go_num, rfl, by omega, by omega, H⟩
          case measure => simp [intOf]; omega
    · obtain rfl : k = l.length := by omega
      have HA2 := Lib.hid HA.out; clear HA
      go_wp2
      go_ret2
      have := HA2.out
      simp [addV] at this
      subst this
      exact ⟨rfl, rfl⟩


theorem bt {w a b : World} (h : Below w.heap.size w a) (k : Below a.heap.size a b) : Below w.heap.size w b := h.trans (k.mono h.size)

set_option maxHeartbeats 400000 in
theorem tells_walk (A : Option Addr) (l : List Int) (cap : Nat) (a b c d : Int) (w : World) (hl : IsInts .u64 w A l.length cap l)
    (a0 : 0 ≤ a) (a1 : a < 18446744073709551616) (b0 : 0 ≤ b) (b1 : b < 18446744073709551616) (c0 : 0 ≤ c) (c1 : c < 18446744073709551616) (d0 : 0 ≤ d) (d1 : d < 18446744073709551616) :
    Calls Try.prog 6 #[.slice A l.length cap, .int .u64 a, .int .u64 b, .int .u64 c, .int .u64 d] w fun e w' => e = .returned (.bool true) ∧ Below w.heap.size w w' := by
  by_cases h : 100 < l.length
  · clear hl
    go_enter Try.func6, Try.ntmps6
    go_wp2_with (go_at_call 10; refine (shown_any _).mono ?_; rintro e w1 ⟨rfl, hb1⟩)
    go_ret
    exact ⟨rfl, hb1⟩
  · obtain ⟨_, hlc, hcm, _, hcell, hwf⟩ := hl
    have hn0 : ∀ x ∈ l, 0 ≤ x := fun x hx => (bounds_u64 (hwf x hx)).1
    have hn1 : ∀ x ∈ l, x < 18446744073709551616 := fun x hx => by have := (bounds_u64 (hwf x hx)).2; omega
    have hlen : l.length < 9223372036854775807 := by omega
    have ha := fun W (hb : Below w.heap.size w W) => add_sl A l cap W hlen hn0 fun i hi => by
      obtain ⟨b, off, h1, h2, h3⟩ := hcell i hi
      exact ⟨b, off, h1, (hb.cell (p := ⟨b, off + i, none⟩) h2).trans h3⟩
    have hr := fun W (hb : Below w.heap.size w W) => radd_sl A l cap W hlen hn0 hn1 fun i hi => by
      obtain ⟨b, off, h1, h2, h3⟩ := hcell i hi
      exact ⟨b, off, h1, (hb.cell (p := ⟨b, off + i, none⟩) h2).trans h3⟩
    clear hcell hwf hn0 hn1 hlen hlc hcm
    have hs := sub_any a b a0 a1 b0 b1
    have hrs := rsub_any a b a0 a1 b0 b1
    have hf := fee_any a b c a0 a1 b0 b1 c0 c1
    have hrf := rfee_any a b c a0 a1 b0 b1 c0 c1
    have he := enough_any a b c d a0 a1 b0 b1 c0 c1 d0 d1
    have hre := renough_any a b c d a0 a1 b0 b1 c0 c1 d0 d1
    generalize (addV 0 l).1 = v1 at *
    generalize (addV 0 l).2 = v2 at *
    generalize subV a b = v3 at *
    generalize subE a b = v4 at *
    generalize capV (feeT a b c) = v5 at *
    generalize capE (feeT a b c) = v6 at *
    generalize enough a b c d = v7 at *
    go_enter Try.func6, Try.ntmps6
    go_wp2_with fail
    refine (shown_any _).mono ?_
    rintro e w1 ⟨rfl, hb1⟩
    go_wp2_with fail
    refine (ha _ hb1).mono ?_
    rintro e w2 ⟨rfl, rfl⟩
    go_wp2_with fail
    refine (hr _ hb1).mono ?_
    rintro e w2 ⟨rfl, rfl⟩
    go_wp2_with fail
    refine (hs _).mono ?_
    rintro e w2 ⟨rfl, rfl⟩
    go_wp2_with fail
    refine (hrs _).mono ?_
    rintro e w2 ⟨rfl, rfl⟩
    go_wp2_with fail
    refine (hf _).mono ?_
    rintro e w3 ⟨rfl, hb3⟩
    go_wp2_with fail
    refine (hrf _).mono ?_
    rintro e w4 ⟨rfl, hb4⟩
    go_wp2_with fail
    refine (he _).mono ?_
    rintro e w5 ⟨rfl, hb5⟩
    go_wp2_with fail
    refine (hre _).mono ?_
    rintro e w6 ⟨rfl, hb6⟩
    go_wp2
    go_ret
    exact ⟨rfl, bt (bt (bt (bt hb1 hb3) hb4) hb5) hb6⟩
end Go.Proofs.Ytglkognlhejdiaa
