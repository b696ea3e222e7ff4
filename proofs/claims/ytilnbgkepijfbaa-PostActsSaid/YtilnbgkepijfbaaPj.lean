/- The walk of PostCloses; no condition. -/
import Derived.Test.YtilnbgkepijfbaaPi
namespace Go.Proofs.Ytilnbgkepijfbaa
open Go.RowKit
set_option linter.unusedVariables false
set_option linter.unusedSimpArgs false

section
variable {w0 w : World} {g rb : Nat} {bs : List Bx}
theorem send_more (h : Mine w0 g rb bs w) (x : Letter) :
    Calls Try.prog 9 #[.pointer (some ⟨g, 0, none⟩), x.val] w fun e w' => e = .returned (.int .i64 (sendE bs x)) ∧ Mine w0 g rb (sendS bs x) w' ∧ w.grownBy w' (some rb) :=
  (send_any g rb bs x w h.p).mono fun e w' ⟨h1, h2, h3⟩ => ⟨h1, h.grow h3 h2, h3⟩
theorem take_more (h : Mine w0 g rb bs w) (k : Int) :
    Calls Try.prog 10 #[.pointer (some ⟨g, 0, none⟩), .int .i64 k] w fun e w' => e = .returned (.tuple #[(takeV bs k).val, .int .i64 (takeE bs k)]) ∧ Mine w0 g rb (takeS bs k) w' ∧ w.grownBy w' (some rb) :=
  (take_op g rb bs k w h.p).mono fun e w' ⟨h1, h2, h3⟩ => ⟨h1, h.grow h3 h2, h3⟩
theorem close_more (h : Mine w0 g rb bs w) (k : Int) :
    Calls Try.prog 14 #[.pointer (some ⟨g, 0, none⟩), .int .i64 k] w fun e w' => (∃ v, e = .returned (.tuple #[v, .int .i64 (closeE bs k)]) ∧ w'.ownsRow w.heap.size 33 4 v (closeV bs k).length (cellsOf (closeV bs k))) ∧ Mine w0 g rb (closeS bs k) w' ∧ w.grownBy w' (some rb) :=
  (close_any g rb bs k w h.p).mono fun e w' ⟨v, h1, h2, h3, h4⟩ => ⟨⟨v, h1, h2⟩, h.grow h4 h3, h4⟩
end
theorem cellsOf_len (l : List Letter) : (cellsOf l).length = l.length * 4 := by
  induction l with
  | nil => rfl
  | cons x l ih => show (x.cells ++ cellsOf l).length = _; rw [List.length_append, ih]; simp [Letter.cells]; omega
theorem cellsOf_get (l : List Letter) (i j : Nat) (x : Letter) (h : l[i]? = some x) (hj : j < 4) : (cellsOf l)[i * 4 + j]? = x.cells[j]? := by
  induction l generalizing i with
  | nil => simp at h
  | cons y l ih =>
    show (y.cells ++ cellsOf l)[i * 4 + j]? = _
    have hy : y.cells.length = 4 := rfl
    cases i with
    | zero => simp at h; subst h; rw [Nat.zero_mul, Nat.zero_add, List.getElem?_append_left (by omega)]
    | succ i =>
      simp at h
      rw [List.getElem?_append_right (by omega), ← ih i h]
      congr 1; omega

/-- The letters l lie in the slice v. -/
structure Slips (w : World) (ad : Option Addr) (n cap : Nat) (l : List Letter) : Prop where
  many : n = l.length
  room : n ≤ cap
  most : cap ≤ maxLen
  at' : ∀ i x, l[i]? = some x → ∃ gb, ad = some ⟨gb, 0, none⟩ ∧ gb < w.heap.size ∧ w.cell? ⟨gb, i * 4, none⟩ = some (.int .i64 x.to) ∧ w.cell? ⟨gb, i * 4 + 1, none⟩ = some (.int .i64 x.frm) ∧ w.cell? ⟨gb, i * 4 + 2, none⟩ = some (.int .i64 x.kind) ∧ w.cell? ⟨gb, i * 4 + 3, none⟩ = some (.string x.text)
theorem slips_of {w : World} {base : Nat} {v : Value} {l : List Letter} (h : w.ownsRow base 33 4 v l.length (cellsOf l)) : ∃ ad cap, v = .slice ad l.length cap ∧ Slips w ad l.length cap l := by
  have hc := fun (g : Nat) (hg : v.ownBlock = some g) => h.cells hg
  rcases h.2 with ⟨rfl, hn⟩ | ⟨g, cap, cur, rfl, hb, hgg, h1, h2, _⟩
  · refine ⟨none, 0, by rw [hn], rfl, by omega, Nat.zero_le _, fun i x hi => ?_⟩
    have := (List.getElem?_eq_some_iff.1 hi).1
    omega
  · refine ⟨some ⟨g, 0, none⟩, cap, rfl, rfl, h1, h2, fun i x hi => ⟨g, rfl, (Array.getElem?_eq_some_iff.1 hgg).1, ?_⟩⟩
    have hc' : ∀ j, j < 4 → ∀ u, x.cells[j]? = some u → w.cell? ⟨g, i * 4 + j, none⟩ = some u := by
      intro j hj u hu
      have := hc g rfl (i * 4 + j) u ((cellsOf_get l i j x hi hj).trans hu)
      rwa [Addr.add_mid, Nat.zero_add] at this
    exact ⟨hc' 0 (by omega) _ rfl, hc' 1 (by omega) _ rfl, hc' 2 (by omega) _ rfl, hc' 3 (by omega) _ rfl⟩

theorem Slips.below {a b : World} {ad : Option Addr} {n cap : Nat} {l : List Letter} (h : Slips a ad n cap l) (k : Below a.heap.size a b) : Slips b ad n cap l := by
  refine ⟨h.many, h.room, h.most, fun i x hi => ?_⟩
  obtain ⟨gb, he, hl, h0, h1, h2, h3⟩ := h.at' i x hi
  exact ⟨gb, he, Nat.lt_of_lt_of_le hl k.size, (k.cell (p := ⟨gb, i * 4, none⟩) hl).trans h0, (k.cell (p := ⟨gb, i * 4 + 1, none⟩) hl).trans h1, (k.cell (p := ⟨gb, i * 4 + 2, none⟩) hl).trans h2, (k.cell (p := ⟨gb, i * 4 + 3, none⟩) hl).trans h3⟩

def mail (t : ByteArray) (n : Nat) : List Letter := (List.range n).map fun (k : Nat) => (⟨1, 0, (k : Int), t⟩ : Letter)
theorem mail_len (t : ByteArray) (n : Nat) : (mail t n).length = n := by simp [mail]
theorem mail_succ (t : ByteArray) (n : Nat) : mail t (n + 1) = mail t n ++ [⟨1, 0, (n : Int), t⟩] := by simp [mail, List.range_succ]
theorem mail_get (t : ByteArray) (n i : Nat) (h : i < n) : (mail t n)[i]? = some ⟨1, 0, (i : Int), t⟩ := by simp [mail, h]
def pair (l : List Letter) (c : Bool) : List Bx := [⟨[], false⟩, ⟨l, c⟩]

set_option maxHeartbeats 8000000 in
theorem closes_walk (n : Int) (t : ByteArray) (w : World) (hn : (Lit.int .u8 n).wf = true) (ht : t.size ≤ maxLen) :
    Calls Try.prog 6 #[.int .u8 n, .string t] w fun e w' => e = .returned (.bool true) ∧ Below w.heap.size w w' := by
  have hn0 : 0 ≤ n ∧ n ≤ 255 := by simp [Lit.wf, show IntKind.u8.min = 0 from rfl, show IntKind.u8.max = 255 from rfl] at hn; omega
  obtain ⟨hn0, hn1⟩ := hn0
  have htm : (t.size : Int) ≤ 9223372036854775807 := by simp [maxLen] at ht; omega
  clear hn
  have hnew := new_any 2 w (by omega) (by omega)
  by_cases hbig : t.size > 300
  · have hb2 : (t.size : Int) > 300 := by omega
    go_enter Try.func6, Try.ntmps6
    go_wp2_with fail
    refine hnew.mono ?_
    intro e w1 h1
    obtain ⟨g, rb, rfl, HM⟩ := h1.mine (Below.refl _ _)
    have HM := Lib.hid HM
    clear h1 hnew
    go_wp2_with fail
    refine (shown_any w1).mono ?_
    rintro e w2 ⟨rfl, hb3⟩
    have HB := Lib.hid (bt HM.out.b hb3)
    clear hb3
    go_wp2
    go_ret
    exact ⟨rfl, HB.out⟩
  · have hb2 : ¬ (t.size : Int) > 300 := by omega
    obtain ⟨m, hm⟩ : ∃ m : Nat, n % 9 = (m : Int) := ⟨(n % 9).toNat, by omega⟩
    have hm8 : m ≤ 8 := by omega
    have HMM := Lib.hid hm
    clear hbig ht hm
    go_enter Try.func6, Try.ntmps6
    go_wp2_with fail
    refine hnew.mono ?_
    intro e w1 h1
    obtain ⟨g, rb, rfl, HM⟩ := h1.mine (Below.refl _ _)
    have HM := Lib.hid HM
    clear h1 hnew
    go_wp2_with fail
    refine (shown_any w1).mono ?_
    rintro e w2 ⟨rfl, hb3⟩
    have HM := Lib.hid (show Mine w g rb (pair [] false) w2 from HM.out.quiet hb3)
    clear hb3
    go_wp2
    rw [HMM.out]
    go_loopw [7] (fun s7 wr => ∃ i : Nat, Value.int .i64 i = s7 ∧ i ≤ m ∧ Hid (Mine w g rb (pair (mail t i) false) wr)) (fun s7 _ => m - (intOf s7).toNat)
    case atStart => exact ⟨0, rfl, by omega, HM⟩
    case round =>
      clear HM
      obtain ⟨i, hs, hi, HM⟩ := hrel
      subst hs
      by_cases hlt : i < m
      · have hi1 : (i : Int) < (m : Int) := by omega
        have hl := mail_len t i
        have hi8 : ¬ i = 8 := by omega
        have hE : sendE (pair (mail t i) false) ⟨1, 0, (i : Int), t⟩ = 0 := by
          show (if (mail t i).length = 8 then (160 : Int) else 0) = 0
          rw [hl, if_neg hi8]
        have hS : sendS (pair (mail t i) false) ⟨1, 0, (i : Int), t⟩ = pair (mail t (i + 1)) false := by
          show (if (mail t i).length = 8 then _ else _) = _
          rw [hl, if_neg hi8, mail_succ]; rfl
        have hc := send_mine HM.out ⟨1, 0, (i : Int), t⟩
        rw [hE, hS] at hc
        clear hE hS hl HM hi8
        go_wp2_with fail
        refine hc.mono ?_
        rintro e w2 ⟨rfl, HM⟩
        have HM := Lib.hid HM
        clear hc
        go_wp2
        go_roundw
        case rel => exact ⟨i + 1, by go_num, by omega, HM⟩
        case measure => simp [intOf]; omega
      · obtain rfl : i = m := by omega
        have hc := close_more HM.out 1
        have hE : closeE (pair (mail t i) false) 1 = 0 := rfl
        have hV : closeV (pair (mail t i) false) 1 = mail t i := rfl
        have hS : closeS (pair (mail t i) false) 1 = pair [] true := rfl
        rw [hE, hV, hS, mail_len] at hc
        go_wp2_with fail
        refine hc.mono ?_
        rintro e w3 ⟨⟨v, rfl, hown⟩, HM3, _⟩
        have hsz : wr.heap.size > rb := by have := HM.out.p.row; obtain ⟨cs, hb, _⟩ := this; exact hb.lt
        have hvb : v.ownBlock ≠ some rb := fun e => by have := (hown.lt rb e).1; omega
        have HM3 := Lib.hid HM3
        have HOW := Lib.hid hown
        clear hc hE hV hS hown HM hsz
        have hc := close_more HM3.out 1
        have hE : closeE (pair [] true) 1 = 135 := rfl
        have hV : closeV (pair [] true) 1 = [] := rfl
        have hS : closeS (pair [] true) 1 = pair [] true := rfl
        rw [hE, hV, hS] at hc
        go_wp2_with fail
        refine hc.mono ?_
        rintro e w4 ⟨⟨v', rfl, _⟩, HM4, hg4⟩
        have HM4 := Lib.hid HM4
        have HOW4 := Lib.hid (HOW.out.kept hg4 (.inr hvb))
        clear hc hE hV hS HOW hg4 HM3
        have hc := take_more HM4.out 1
        have hE : takeE (pair [] true) 1 = 3 := rfl
        have hV : takeV (pair [] true) 1 = Letter.zero := rfl
        have hS : takeS (pair [] true) 1 = pair [] true := rfl
        rw [hE, hV, hS] at hc
        go_wp2_with fail
        refine hc.mono ?_
        rintro e w5 ⟨rfl, HM5, hg5⟩
        have HM5 := Lib.hid HM5
        have HOW5 := HOW4.out.kept hg5 (.inr hvb)
        rw [← mail_len t i, mail_len t i] at HOW5
        clear hc hE hV hS HOW4 hg5 HM4
        have hsl := slips_of (l := mail t i) (by rw [mail_len]; exact HOW5)
        rw [mail_len] at hsl
        obtain ⟨ad, cap, rfl, hsl⟩ := hsl
        have HSL := Lib.hid hsl
        have hc1 := hsl.room
        have hc2 := hsl.most
        clear HOW5 hvb hsl
        unfold Letter.val Letter.zero
        go_wp2_with fail
        have HM6 := Lib.hid (HM5.out.alloc (.cells #[.int .i64 0, .int .i64 0, .int .i64 0, .string ⟨#[]⟩] 33))
        have HSL6 := Lib.hid (HSL.out.below ((Below.refl _ w5).alloc (Nat.le_refl _) (.cells #[.int .i64 0, .int .i64 0, .int .i64 0, .string ⟨#[]⟩] 33)))
        generalize w5.alloc (.cells #[.int .i64 0, .int .i64 0, .int .i64 0, .string ⟨#[]⟩] 33) = w6 at *
        clear HM5 HSL
        have him : (i : Int) ≤ 8 := by omega
        go_loopw [14] (fun s14 wx => ∃ k : Nat, Value.int .i64 k = s14 ∧ k ≤ i ∧ w6 = wx) (fun s14 _ => i - (intOf s14).toNat)
        case atStart => exact ⟨0, rfl, by omega, rfl⟩
        case round =>
          obtain ⟨k, hs, hk, hww⟩ := hrel
          subst hs hww
          by_cases hlt2 : k < i
          · have hi1 : (k : Int) < (i : Int) := by omega
            obtain ⟨gb, hgb, hl, c0, c1, c2, c3⟩ := HSL6.out.at' k _ (mail_get t i k hlt2)
            subst hgb
            simp only at c0 c1 c2 c3
            go_wp2
            go_roundw
            case rel => exact ⟨k + 1, by go_num, by omega, trivial⟩
            case measure => simp [intOf]; omega
          · obtain rfl : k = i := by omega
            have hi1 : ¬ (k : Int) < (k : Int) := by omega
            go_wp2_with fail
            have hc := send_mine HM6.out ⟨1, 0, 0, ⟨#[]⟩⟩
            have hE : sendE (pair [] true) ⟨1, 0, 0, ⟨#[]⟩⟩ = 135 := rfl
            have hS : sendS (pair [] true) ⟨1, 0, 0, ⟨#[]⟩⟩ = pair [] true := rfl
            rw [hE, hS] at hc
            refine hc.mono ?_
            rintro e w7 ⟨rfl, HM7⟩
            have HM7 := Lib.hid HM7
            clear hc hE hS HM6
            go_wp2_with fail
            have hc := send_mine HM7.out Letter.zero
            have hE : sendE (pair [] true) Letter.zero = 0 := rfl
            have hS : sendS (pair [] true) Letter.zero = [⟨[Letter.zero], false⟩, ⟨[], true⟩] := rfl
            rw [hE, hS] at hc
            refine hc.mono ?_
            rintro e w8 ⟨rfl, HM8⟩
            have HM8 := Lib.hid HM8
            clear hc hE hS HM7
            go_wp2_with fail
            have hc := room_mine HM8.out 1
            have hE : roomOf [⟨[Letter.zero], false⟩, ⟨[], true⟩] 1 = 0 := rfl
            rw [hE] at hc
            refine hc.mono ?_
            rintro e w9 ⟨rfl, HM9, _⟩
            have HM9 := Lib.hid HM9
            clear hc hE HM8
            go_wp2_with fail
            have hc := room_mine HM9.out 0
            have hE : roomOf [⟨[Letter.zero], false⟩, ⟨[], true⟩] 0 = 7 := rfl
            rw [hE] at hc
            refine hc.mono ?_
            rintro e w10 ⟨rfl, HM10, _⟩
            have HM10 := Lib.hid HM10
            clear hc hE HM9
            go_wp2_with fail
            have hc := all_mine HM10.out
            have hE : allOf [⟨[Letter.zero], false⟩, ⟨[], true⟩] = 1 := rfl
            rw [hE] at hc
            refine hc.mono ?_
            rintro e w11 ⟨rfl, HM11, _⟩
            have HM11 := Lib.hid HM11
            clear hc hE HM10
            go_wp2
            go_ret
            exact ⟨rfl, HM11.out.b⟩
end Go.Proofs.Ytilnbgkepijfbaa
