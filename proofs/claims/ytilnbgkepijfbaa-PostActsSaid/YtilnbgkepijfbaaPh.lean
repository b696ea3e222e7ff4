/- A post of one's own, and the walk of shown; no condition. -/
import Derived.Test.YtilnbgkepijfbaaPg
namespace Go.Proofs.Ytilnbgkepijfbaa
open Go.RowKit
set_option linter.unusedVariables false
set_option linter.unusedSimpArgs false

/-- A post that is newer than w, in a world in which all that w had is as it was. -/
structure Mine (w : World) (g rb : Nat) (bs : List Bx) (wr : World) : Prop where
  g' : w.heap.size ≤ g
  r' : w.heap.size ≤ rb
  p : PostAt wr g rb bs
  b : Below w.heap.size w wr
theorem below_own {w a b : World} {rb : Nat} (h : Below w.heap.size w a) (k : a.grownBy b (some rb)) (hr : w.heap.size ≤ rb) : Below w.heap.size w b :=
  ⟨k.os.trans h.os, k.tape.trans h.tape, k.output.trans h.output, Nat.le_trans h.size k.size,
    fun i hi => (k.block i (Nat.lt_of_lt_of_le hi h.size) (fun e => by injection e with e; omega)).trans (h.block i hi)⟩
section
variable {w a b : World} {g rb : Nat} {bs bs' : List Bx}
theorem Mine.grow (h : Mine w g rb bs a) (k : a.grownBy b (some rb)) (q : PostAt b g rb bs') : Mine w g rb bs' b := ⟨h.g', h.r', q, below_own h.b k h.r'⟩
theorem Mine.quiet (h : Mine w g rb bs a) (k : Below a.heap.size a b) : Mine w g rb bs b := ⟨h.g', h.r', h.p.below k, bt h.b k⟩
theorem Mine.alloc (h : Mine w g rb bs a) (o : Obj) : Mine w g rb bs (a.alloc o) := h.quiet ((Below.refl _ _).alloc (Nat.le_refl _) o)
theorem Mine.drew (h : Mine w g rb bs a) : Mine w g rb bs a.drew := ⟨h.g', h.r', h.p.by (only_drew (only_refl a none)) (by simp) (by simp), h.b.drew⟩
end
theorem New.mine {n : Nat} {w0 w : World} {e : Ending} {w' : World} (h : New n w e w') (hb : Below w0.heap.size w0 w) : ∃ g rb, e = .returned (.pointer (some ⟨g, 0, none⟩)) ∧ Mine w0 g rb (List.replicate n ⟨[], false⟩) w' := by
  obtain ⟨g, rb, he, hk, h1, h2, h3⟩ := h
  have := hb.size
  exact ⟨g, rb, he, by omega, by omega, h3, bt hb hk⟩
theorem send_mine {w0 w : World} {g rb : Nat} {bs : List Bx} (h : Mine w0 g rb bs w) (x : Letter) :
    Calls Try.prog 9 #[.pointer (some ⟨g, 0, none⟩), x.val] w fun e w' => e = .returned (.int .i64 (sendE bs x)) ∧ Mine w0 g rb (sendS bs x) w' :=
  (send_any g rb bs x w h.p).mono fun e w' ⟨h1, h2, h3⟩ => ⟨h1, h.grow h3 h2⟩
theorem take_mine {w0 w : World} {g rb : Nat} {bs : List Bx} (h : Mine w0 g rb bs w) (k : Int) :
    Calls Try.prog 10 #[.pointer (some ⟨g, 0, none⟩), .int .i64 k] w fun e w' => e = .returned (.tuple #[(takeV bs k).val, .int .i64 (takeE bs k)]) ∧ Mine w0 g rb (takeS bs k) w' :=
  (take_op g rb bs k w h.p).mono fun e w' ⟨h1, h2, h3⟩ => ⟨h1, h.grow h3 h2⟩
theorem close_mine {w0 w : World} {g rb : Nat} {bs : List Bx} (h : Mine w0 g rb bs w) (k : Int) :
    Calls Try.prog 14 #[.pointer (some ⟨g, 0, none⟩), .int .i64 k] w fun e w' => (∃ v, e = .returned (.tuple #[v, .int .i64 (closeE bs k)]) ∧ w'.ownsRow w.heap.size 33 4 v (closeV bs k).length (cellsOf (closeV bs k))) ∧ Mine w0 g rb (closeS bs k) w' :=
  (close_any g rb bs k w h.p).mono fun e w' ⟨v, h1, h2, h3, h4⟩ => ⟨⟨v, h1, h2⟩, h.grow h4 h3⟩
theorem len_mine {w0 w : World} {g rb : Nat} {bs : List Bx} (h : Mine w0 g rb bs w) (k : Int) :
    Calls Try.prog 13 #[.pointer (some ⟨g, 0, none⟩), .int .i64 k] w fun e w' => e = .returned (.int .i64 (lenOf bs k)) ∧ Mine w0 g rb bs w' ∧ Below w.heap.size w w' :=
  (len_any g rb bs k w h.p).mono fun e w' ⟨h1, h2⟩ => ⟨h1, h.quiet h2, h2⟩
theorem room_mine {w0 w : World} {g rb : Nat} {bs : List Bx} (h : Mine w0 g rb bs w) (k : Int) :
    Calls Try.prog 12 #[.pointer (some ⟨g, 0, none⟩), .int .i64 k] w fun e w' => e = .returned (.int .i64 (roomOf bs k)) ∧ Mine w0 g rb bs w' ∧ Below w.heap.size w w' :=
  (room_any g rb bs k w h.p).mono fun e w' ⟨h1, h2⟩ => ⟨h1, h.quiet h2, h2⟩
theorem all_mine {w0 w : World} {g rb : Nat} {bs : List Bx} (h : Mine w0 g rb bs w) :
    Calls Try.prog 11 #[.pointer (some ⟨g, 0, none⟩)] w fun e w' => e = .returned (.int .i64 (allOf bs : Nat)) ∧ Mine w0 g rb bs w' ∧ Below w.heap.size w w' :=
  (all_any g rb bs w h.p).mono fun e w' ⟨h1, h2⟩ => ⟨h1, h.quiet h2, h2⟩

/-! ### shown -/
def fill (n : Nat) : List Letter := (List.range n).map fun (k : Nat) => (⟨0, 0, (k : Int), ⟨#[]⟩⟩ : Letter)
theorem fill_len (n : Nat) : (fill n).length = n := by simp [fill]
theorem fill_succ (n : Nat) : fill (n + 1) = fill n ++ [⟨0, 0, (n : Int), ⟨#[]⟩⟩] := by simp [fill, List.range_succ]

set_option maxHeartbeats 4000000 in
theorem shown_any (w : World) : Calls Try.prog 7 #[] w fun e w' => e = .returned (.bool true) ∧ Below w.heap.size w w' := by
  go_enter Try.func7, Try.ntmps7
  go_wp2_with fail
  refine (new_any 1 w (by omega) (by omega)).mono ?_
  intro e w1 h1
  obtain ⟨g, rb, rfl, HM⟩ := h1.mine (Below.refl _ _)
  clear h1
  have HM := Lib.hid HM
  go_wp2
  go_loopw [2] (fun s2 wr => ∃ i : Nat, Value.int .i64 i = s2 ∧ i ≤ 8 ∧ Hid (Mine w g rb [⟨fill i, false⟩] wr)) (fun s2 _ => 8 - (intOf s2).toNat)
  case atStart => exact ⟨0, rfl, by omega, HM⟩
  case round =>
    obtain ⟨i, hs, hi, HM⟩ := hrel
    subst hs
    by_cases hlt : i < 8
    · have hi1 : (i : Int) < 8 := by omega
      have hl := fill_len i
      have hE : sendE [⟨fill i, false⟩] ⟨0, 0, (i : Int), ⟨#[]⟩⟩ = 0 := by simp [sendE, boxOf, hl]; omega
      have hS : sendS [⟨fill i, false⟩] ⟨0, 0, (i : Int), ⟨#[]⟩⟩ = [⟨fill (i + 1), false⟩] := by
        have : ¬ i = 8 := by omega
        simp [sendS, boxOf, hl, this, fill_succ]
      have hc := send_mine HM.out ⟨0, 0, (i : Int), ⟨#[]⟩⟩
      rw [hE, hS] at hc
      clear hE hS hl HM
      go_wp2_with fail
      refine hc.mono ?_
      rintro e w2 ⟨rfl, HM⟩
      have HM := Lib.hid HM
      clear hc
      go_wp2
      go_roundw
      case rel => exact ⟨i + 1, by go_num, by omega, HM⟩
      case measure => simp [intOf]; omega
    · obtain rfl : i = 8 := by omega
      have hc := take_mine HM.out 0
      have hV : takeV [⟨fill 8, false⟩] 0 = Letter.zero := by rfl
      have hE : takeE [⟨fill 8, false⟩] 0 = 0 := by rfl
      rw [hV, hE] at hc
      go_wp2_with fail
      refine hc.mono ?_
      rintro e w2 ⟨rfl, HM2⟩
      have HM2 := Lib.hid HM2
      clear hc hV hE HM
      unfold Letter.val Letter.zero
      go_wp2_with fail
      have HM3 := Lib.hid (HM2.out.alloc (.cells #[.int .i64 0, .int .i64 0, .int .i64 0, .string ⟨#[]⟩] 33))
      have hb3 := Blk.new w2 _ 33 #[.int .i64 0, .int .i64 0, .int .i64 0, .string ⟨#[]⟩] rfl
      generalize w2.alloc (.cells #[.int .i64 0, .int .i64 0, .int .i64 0, .string ⟨#[]⟩] 33) = w3 at *
      have hc := len_mine HM3.out 0
      refine hc.mono ?_
      rintro e w4 ⟨rfl, HM4, hb4⟩
      have hk4 := hb3.by (only_below hb4 none) (by simp)
      have HM4 := Lib.hid HM4
      have c0 := hk4.cell 0
      have c1 := hk4.cell 1
      have c2 := hk4.cell 2
      have c3 := hk4.cell 3
      simp at c0 c1 c2 c3
      have hlt4 := hk4.lt
      have hl : lenOf (takeS [⟨fill 8, false⟩] 0) 0 = 7 := rfl
      rw [hl]
      clear hc hb3 hb4 HM3 hk4 hl HM2
      go_wp2_with fail
      have hc := room_mine HM4.out 0
      have hr : roomOf (takeS [⟨fill 8, false⟩] 0) 0 = 1 := rfl
      rw [hr] at hc
      refine hc.mono ?_
      rintro e w5 ⟨rfl, HM5, hb5⟩
      have HM5 := Lib.hid HM5
      clear hc hr hb5 HM4
      go_wp2
      go_ret
      exact ⟨rfl, HM5.out.b⟩
end Go.Proofs.Ytilnbgkepijfbaa
