/- The walks of Post.Len, Room and Send; no condition. -/
import Derived.Test.YtilnbgkepijfbaaPb
namespace Go.Proofs.Ytilnbgkepijfbaa
open Go.RowKit
set_option linter.unusedVariables false
set_option linter.unusedSimpArgs false

def boxOf (bs : List Bx) (k : Int) : Option Bx := if 0 ≤ k then bs[k.toNat]? else none
def lenOf (bs : List Bx) (k : Int) : Int := match boxOf bs k with | some b => b.l.length | none => 0
def roomOf (bs : List Bx) (k : Int) : Int := match boxOf bs k with | some b => if b.c then 0 else 8 - b.l.length | none => 0

theorem boxOf_none {bs : List Bx} {k : Int} (h : boxOf bs k = none) : k < 0 ∨ (bs.length : Int) ≤ k := by
  unfold boxOf at h
  split at h
  · rw [List.getElem?_eq_none_iff] at h; omega
  · omega
theorem boxOf_some {bs : List Bx} {k : Int} {b : Bx} (h : boxOf bs k = some b) : ∃ j : Nat, k = j ∧ j < bs.length ∧ bs[j]? = some b := by
  unfold boxOf at h
  split at h
  · exact ⟨k.toNat, by omega, (List.getElem?_eq_some_iff.1 h).1, h⟩
  · cases h

theorem PostAt.cell0 {w : World} {g rb : Nat} {bs : List Bx} (h : PostAt w g rb bs) : w.cell? ⟨g, 0, none⟩ = some (.slice (some ⟨rb, 0, none⟩) bs.length bs.length) := h.ptr.cell 0

set_option maxHeartbeats 1000000 in
theorem len_any (g rb : Nat) (bs : List Bx) (k : Int) (w : World) (h : PostAt w g rb bs) :
    Calls Try.prog 13 #[.pointer (some ⟨g, 0, none⟩), .int .i64 k] w fun e w' => e = .returned (.int .i64 (lenOf bs k)) ∧ Below w.heap.size w w' := by
  unfold lenOf
  cases hk : boxOf bs k with
  | none =>
    have ha := at_out g rb bs.length k w (boxOf_none hk) h.few h.cell0
    clear hk h
    go_enter Try.func13, Try.ntmps13
    go_wp2_with fail
    refine ha.mono ?_
    rintro e w1 ⟨q, cs, rfl, hb, hq, h1, h2, h3⟩
    have c1 : w1.cell? ⟨q, 33, none⟩ = some (.int .i64 0) := by rw [show w1.cell? ⟨q, 33, none⟩ = cs[33]? from Blk.cell (t := 76) h1 33]; exact h2
    have hlt : q < w1.heap.size := Blk.lt (t := 76) h1
    clear h1 h2 h3 ha
    go_wp2
    go_ret
    exact ⟨rfl, hb.alloc hb.size _⟩
  | some b =>
    obtain ⟨j, rfl, hj, hbj⟩ := boxOf_some hk
    obtain ⟨p, f, cs, hb, hr⟩ := h
    obtain ⟨hd, hx⟩ := hr j b hbj
    have ha := at_in g rb bs.length j w hj f (p.cell 0)
    have c1 : w.cell? ⟨rb, j * 35 + 33, none⟩ = some (.int .i64 b.l.length) := (hb.cell _).trans hx.many
    have hlt := hb.lt
    have hlen := hx.len
    clear hk hbj hr hx hb p
    go_enter Try.func13, Try.ntmps13
    go_wp2_with fail
    refine ha.mono ?_
    rintro e w1 ⟨rfl, hb1⟩
    have c2 := (hb1.cell (p := ⟨rb, j * 35 + 33, none⟩) hlt).trans c1
    have hlt2 := World.block_lt_of_cell? w1 _ c2
    clear ha c1
    go_wp2
    go_ret
    exact ⟨rfl, hb1.alloc hb1.size _⟩

theorem first_two (b : Nat) (x1 x2 : Bool) (e1 e2 : Int) (w : World) (h : Blk w b 70 #[.bool x1, .int .i64 e1, .bool x2, .int .i64 e2]) :
    Calls Try.prog 24 #[.slice (some ⟨b, 0, none⟩) 2 2] w fun e w' => e = .returned (.int .i64 (firstOf [(x1, e1), (x2, e2)])) ∧ Below w.heap.size w w' := by
  refine first_any b 2 [(x1, e1), (x2, e2)] w (by simp) ?_
  intro i hi
  match i, hi with
  | 0, _ => exact ⟨h.cell 0, h.cell 1⟩
  | 1, _ => exact ⟨h.cell 2, h.cell 3⟩
theorem first_three (b : Nat) (x1 x2 x3 : Bool) (e1 e2 e3 : Int) (w : World) (h : Blk w b 70 #[.bool x1, .int .i64 e1, .bool x2, .int .i64 e2, .bool x3, .int .i64 e3]) :
    Calls Try.prog 24 #[.slice (some ⟨b, 0, none⟩) 3 3] w fun e w' => e = .returned (.int .i64 (firstOf [(x1, e1), (x2, e2), (x3, e3)])) ∧ Below w.heap.size w w' := by
  refine first_any b 3 [(x1, e1), (x2, e2), (x3, e3)] w (by simp) ?_
  intro i hi
  match i, hi with
  | 0, _ => exact ⟨h.cell 0, h.cell 1⟩
  | 1, _ => exact ⟨h.cell 2, h.cell 3⟩
  | 2, _ => exact ⟨h.cell 4, h.cell 5⟩
theorem bt {w a b : World} (h : Below w.heap.size w a) (k : Below a.heap.size a b) : Below w.heap.size w b := h.trans (k.mono h.size)
theorem keep_alloc {w : World} {a : Addr} {v : Value} (o : Obj) (d : w.cell? a = some v) : (w.alloc o).cell? a = some v :=
  (World.cell?_alloc_lt w o a (World.block_lt_of_cell? w _ d)).trans d
theorem keep_call {w w' : World} {o : Obj} {a : Addr} {v : Value} (d : w.cell? a = some v) (h : Below (w.alloc o).drew.heap.size (w.alloc o).drew w') : w'.cell? a = some v :=
  (h.cell (World.block_lt_of_cell? _ _ (keep_alloc o d))).trans (keep_alloc o d)
theorem Blk.new (w : World) (n : Nat) (t : TypeId) (cs : Array Value) (h : n = w.heap.size) : Blk (w.alloc (.cells cs t)) n t cs := heap_new_at w _ n h

set_option maxHeartbeats 1000000 in
theorem room_any (g rb : Nat) (bs : List Bx) (k : Int) (w : World) (h : PostAt w g rb bs) :
    Calls Try.prog 12 #[.pointer (some ⟨g, 0, none⟩), .int .i64 k] w fun e w' => e = .returned (.int .i64 (roomOf bs k)) ∧ Below w.heap.size w w' := by
  unfold roomOf
  cases hk : boxOf bs k with
  | none =>
    have ha := at_out g rb bs.length k w (boxOf_none hk) h.few h.cell0
    clear hk h
    go_enter Try.func12, Try.ntmps12
    go_wp2_with fail
    refine ha.mono ?_
    rintro e w1 ⟨q, cs, rfl, hb, hq, h1, h2, h3⟩
    have c1 : w1.cell? ⟨q, 33, none⟩ = some (.int .i64 0) := by rw [show w1.cell? ⟨q, 33, none⟩ = cs[33]? from Blk.cell (t := 76) h1 33]; exact h2
    have c3 : w1.cell? ⟨q, 34, none⟩ = some (.bool false) := by rw [show w1.cell? ⟨q, 34, none⟩ = cs[34]? from Blk.cell (t := 76) h1 34]; exact h3
    have hlt : q < w1.heap.size := Blk.lt (t := 76) h1
    clear h1 h2 h3 ha
    go_wp2_with fail
    generalize hW : w1.alloc (.cells #[.bool true, .int .i64 3] 70) = w2
    have d0 : w2.cell? ⟨w1.heap.size, 0, none⟩ = some (.bool true) := by rw [← hW]; exact (Blk.new w1 _ 70 _ rfl).cell 0
    have d1 : w2.cell? ⟨w1.heap.size, 1, none⟩ = some (.int .i64 3) := by rw [← hW]; exact (Blk.new w1 _ 70 _ rfl).cell 1
    have d2 : w2.cell? ⟨q, 34, none⟩ = some (.bool false) := by rw [← hW, World.cell?_alloc_lt _ _ _ (by exact hlt)]; exact c3
    have d3 : w2.cell? ⟨q, 33, none⟩ = some (.int .i64 0) := by rw [← hW, World.cell?_alloc_lt _ _ _ (by exact hlt)]; exact c1
    have hb2 : Below w.heap.size w w2 := by rw [← hW]; exact hb.alloc hb.size _
    have HB2 := Lib.hid hb2
    clear hW c1 c3 hb hb2
    go_region_held3 (fun w' => w'.cell? ⟨w1.heap.size, 0, none⟩ = some (.bool true) ∧ w'.cell? ⟨w1.heap.size, 1, none⟩ = some (.int .i64 3) ∧ w'.cell? ⟨q, 34, none⟩ = some (.bool false))
      (first | exact ⟨d0, d1, d2⟩ | exact ⟨keep_call d0 hb4, keep_call d1 hb4, keep_call d2 hb4⟩ | go_keep)
      (first | (go_at_call 24; refine (first_two _ true false 3 135 _ (Blk.new _ _ 70 _ rfl).drew).mono ?_; rintro e w4 ⟨rfl, hb4⟩; have HB4 := Lib.hid hb4))
    go_wp2
    go_ret
    exact ⟨rfl, bt (bt HB2.out ((Below.alloc (Below.refl w2.heap.size w2) (Nat.le_refl _) _).drew)) hb4⟩
  | some b =>
    obtain ⟨j, rfl, hj, hbj⟩ := boxOf_some hk
    obtain ⟨p, f, cs, hb, hr⟩ := h
    obtain ⟨hd, hx⟩ := hr j b hbj
    have ha := at_in g rb bs.length j w hj f (p.cell 0)
    have c1 : w.cell? ⟨rb, j * 35 + 33, none⟩ = some (.int .i64 b.l.length) := (hb.cell _).trans hx.many
    have c2 : w.cell? ⟨rb, j * 35 + 34, none⟩ = some (.bool b.c) := (hb.cell _).trans hx.shut
    have hlt := hb.lt
    have hlen := hx.len
    clear hk hbj hr hx hb p
    obtain ⟨bl, bc⟩ := b
    simp only at c1 c2 hlen ⊢
    go_enter Try.func12, Try.ntmps12
    go_wp2_with fail
    refine ha.mono ?_
    rintro e w1 ⟨rfl, hb1⟩
    have e1 := (hb1.cell (p := ⟨rb, j * 35 + 33, none⟩) hlt).trans c1
    have e2 := (hb1.cell (p := ⟨rb, j * 35 + 34, none⟩) hlt).trans c2
    have hlt2 := World.block_lt_of_cell? w1 _ e2
    clear ha c1 c2
    go_wp2_with fail
    generalize hW : w1.alloc (.cells #[.bool false, .int .i64 0] 70) = w2
    have d0 : w2.cell? ⟨w1.heap.size, 0, none⟩ = some (.bool false) := by rw [← hW]; exact (Blk.new w1 _ 70 _ rfl).cell 0
    have d1 : w2.cell? ⟨w1.heap.size, 1, none⟩ = some (.int .i64 0) := by rw [← hW]; exact (Blk.new w1 _ 70 _ rfl).cell 1
    have d2 : w2.cell? ⟨rb, j * 35 + 34, none⟩ = some (.bool bc) := by rw [← hW]; exact keep_alloc _ e2
    have d3 : w2.cell? ⟨rb, j * 35 + 33, none⟩ = some (.int .i64 bl.length) := by rw [← hW]; exact keep_alloc _ e1
    have hb2 : Below w.heap.size w w2 := by rw [← hW]; exact hb1.alloc hb1.size _
    have HB2 := Lib.hid hb2
    clear hW e1 e2 hb1 hb2
    go_region_held3 (fun w' => w'.cell? ⟨w1.heap.size, 0, none⟩ = some (.bool false) ∧ w'.cell? ⟨w1.heap.size, 1, none⟩ = some (.int .i64 0) ∧ w'.cell? ⟨rb, j * 35 + 34, none⟩ = some (.bool bc))
      (first | exact ⟨d0, d1, d2⟩ | exact ⟨keep_call d0 hb4, keep_call d1 hb4, keep_call d2 hb4⟩ | go_keep)
      (first | (go_at_call 24; refine (first_two _ false bc 0 135 _ (Blk.new _ _ 70 _ rfl).drew).mono ?_; rintro e w4 ⟨rfl, hb4⟩; have HB4 := Lib.hid hb4))
    have d4 := keep_call d3 hb4
    have hlt4 := World.block_lt_of_cell? w4 _ d4
    have hfin := bt (bt HB2.out ((Below.alloc (Below.refl w2.heap.size w2) (Nat.le_refl _) (.cells #[.bool false, .int .i64 0, .bool bc, .int .i64 135] 70)).drew)) hb4
    have HFIN := Lib.hid hfin
    clear hfin hb4 HB4 HB2 d0 d1 d2 d3
    cases bc with
    | true =>
      have hf : firstOf [(false, 0), (true, 135)] = 135 := rfl
      rw [hf]
      clear hf
      go_wp2
      go_ret
      exact ⟨rfl, HFIN.out⟩
    | false =>
      have hf : firstOf [(false, 0), (false, 135)] = 0 := rfl
      rw [hf]
      clear hf
      go_wp2
      go_ret
      exact ⟨rfl, HFIN.out⟩
end Go.Proofs.Ytilnbgkepijfbaa
