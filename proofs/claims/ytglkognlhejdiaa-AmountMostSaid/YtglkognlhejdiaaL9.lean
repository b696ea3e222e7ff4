/- The walk of AmountMost; conditions: the numbers are of their kinds. -/
import Derived.Test.YtglkognlhejdiaaL8
namespace Go.Proofs.Ytglkognlhejdiaa
open Go.RowKit
set_option linter.unusedVariables false
set_option linter.unusedSimpArgs false

set_option maxHeartbeats 1000000 in
theorem law_most (i b r : Int) (i0 : 0 ≤ i) (i1 : i < 18446744073709551616) (b0 : 0 ≤ b) (b1 : b < 18446744073709551616) (r0 : 0 ≤ r) (r1 : r < 18446744073709551616) (w : World) :
    Calls Try.prog 8 #[.int .u64 i, .int .u64 b, .int .u64 r] w fun e w' => e = .returned (.bool true) ∧ Below w.heap.size w w' := by
  have hm := most_any i b r i0 i1 b0 b1 r0 r1
  have hr0 := renough_any i 0 b r i0 i1 (by omega) (by omega) b0 b1 r0 r1
  cases hE : enough i 0 b r with
  | false =>
    rw [hE] at hr0
    have HE := Lib.hid hE; clear hE
    go_enter Try.func8, Try.ntmps8
    go_wp2_with fail
    refine (hm _).mono ?_
    rintro e w1 ⟨m, rfl, m0, m1, h1, h2, hb1⟩
    obtain rfl := h1 HE.out
    clear h1 h2
    go_wp2_with fail
    refine (shown_any _).mono ?_
    rintro e w2 ⟨rfl, hb2⟩
    go_wp2_with fail
    refine (hr0 _).mono ?_
    rintro e w3 ⟨rfl, hb3⟩
    go_wp2_with fail
    refine (shown_any _).mono ?_
    rintro e w4 ⟨rfl, hb4⟩
    go_wp2
    go_ret
    exact ⟨rfl, bt (bt (bt hb1 hb2) hb3) hb4⟩
  | true =>
    rw [hE] at hr0
    have HE := Lib.hid hE; clear hE
    go_enter Try.func8, Try.ntmps8
    go_wp2_with fail
    refine (hm _).mono ?_
    rintro e w1 ⟨m, rfl, m0, m1, h1, h2, hb1⟩
    obtain ⟨h3, h4⟩ := h2 HE.out
    have k1 := renough_any i m b r i0 i1 m0 (by omega) b0 b1 r0 r1
    have k2 := enough_any i m b r i0 i1 m0 (by omega) b0 b1 r0 r1
    rw [h3] at k1 k2
    clear h1 h2 h3
    cases hx : (m == 18446744073709551615) with
    | true =>
      clear h4
      go_wp2_with fail
      refine (shown_any _).mono ?_
      rintro e w2 ⟨rfl, hb2⟩
      go_wp2_with fail
      refine (hr0 _).mono ?_
      rintro e w3 ⟨rfl, hb3⟩
      go_wp2_with fail
      refine (k1 _).mono ?_
      rintro e w4 ⟨rfl, hb4⟩
      go_wp2_with fail
      refine (k2 _).mono ?_
      rintro e w5 ⟨rfl, hb5⟩
      go_wp2
      go_ret
      exact ⟨rfl, bt (bt (bt (bt hb1 hb2) hb3) hb4) hb5⟩
    | false =>
      have hne : m ≠ 18446744073709551615 := by simpa using hx
      have k3 := renough_any i (m + 1) b r i0 i1 (by omega) (by omega) b0 b1 r0 r1
      rw [h4] at k3
      have hlt : m < 18446744073709551615 := by omega
      clear h4 hne
      go_wp2_with fail
      refine (shown_any _).mono ?_
      rintro e w2 ⟨rfl, hb2⟩
      go_wp2_with fail
      refine (hr0 _).mono ?_
      rintro e w3 ⟨rfl, hb3⟩
      go_wp2_with fail
      refine (k1 _).mono ?_
      rintro e w4 ⟨rfl, hb4⟩
      go_wp2_with fail
      refine (k3 _).mono ?_
      rintro e w6 ⟨rfl, hb6⟩
      go_wp2_with fail
      refine (k2 _).mono ?_
      rintro e w5 ⟨rfl, hb5⟩
      go_wp2
      go_ret
      exact ⟨rfl, bt (bt (bt (bt (bt hb1 hb2) hb3) hb4) hb6) hb5⟩
end Go.Proofs.Ytglkognlhejdiaa
