/- The walk of Post.Take; no condition. -/
import Derived.Test.YtilnbgkepijfbaaPd
namespace Go.Proofs.Ytilnbgkepijfbaa
open Go.RowKit
set_option linter.unusedVariables false
set_option linter.unusedSimpArgs false

def takeE (bs : List Bx) (k : Int) : Int := match boxOf bs k with | some b => (match b.l with | [] => 3 | _ :: _ => 0) | none => 3
def takeV (bs : List Bx) (k : Int) : Letter := match boxOf bs k with | some b => (match b.l with | [] => Letter.zero | x :: _ => x) | none => Letter.zero
def takeS (bs : List Bx) (k : Int) : List Bx := match boxOf bs k with | some b => (match b.l with | [] => bs | _ :: l => bs.set k.toNat ⟨l, b.c⟩) | none => bs

set_option maxHeartbeats 4000000 in
theorem take_none (g rb : Nat) (bs : List Bx) (k : Int) (w : World) (h : PostAt w g rb bs) (hk : boxOf bs k = none) :
    Calls Try.prog 10 #[.pointer (some ⟨g, 0, none⟩), .int .i64 k] w (Left g rb bs (.tuple #[Letter.zero.val, .int .i64 3]) w) := by
  have hb0 : Below w.heap.size w (w.alloc (.cells #[.int .i64 0, .int .i64 0, .int .i64 0, .string ⟨#[]⟩] 33)) := (Below.refl _ _).alloc (Nat.le_refl _) _
  have ha := at_out g rb bs.length k _ (boxOf_none hk) h.few (h.below hb0).cell0
  have HP := Lib.hid h
  clear hk h
  go_enter Try.func10, Try.ntmps10
  go_wp2_with fail
  refine ha.mono ?_
  rintro e w1 ⟨q, cs, rfl, hb, hq, h1, h2, h3⟩
  have c1 : w1.cell? ⟨q, 33, none⟩ = some (.int .i64 0) := by rw [show w1.cell? ⟨q, 33, none⟩ = cs[33]? from Blk.cell (t := 76) h1 33]; exact h2
  have hlt : q < w1.heap.size := Blk.lt (t := 76) h1
  have HB1 := Lib.hid (bt hb0 hb)
  have lx : w.heap.size < w1.heap.size := by have := hb.size; simp at this; omega
  have hr := (Blk.new w _ 33 #[.int .i64 0, .int .i64 0, .int .i64 0, .string ⟨#[]⟩] rfl).by (only_below hb none) (by simp)
  have HR := Lib.hid hr
  clear h1 h2 h3 ha hb hb0 hr
  go_wp2_with fail
  generalize hW : w1.alloc (.cells #[.bool true, .int .i64 3] 70) = w2
  have d0 : w2.cell? ⟨w1.heap.size, 0, none⟩ = some (.bool true) := by rw [← hW]; exact (Blk.new w1 _ 70 _ rfl).cell 0
  have d1 : w2.cell? ⟨w1.heap.size, 1, none⟩ = some (.int .i64 3) := by rw [← hW]; exact (Blk.new w1 _ 70 _ rfl).cell 1
  have d3 : w2.cell? ⟨q, 33, none⟩ = some (.int .i64 0) := by rw [← hW]; exact keep_alloc _ c1
  have hb2 : Below w.heap.size w w2 := by rw [← hW]; exact HB1.out.alloc HB1.out.size _
  have HR2 : Hid (Blk w2 w.heap.size 33 #[.int .i64 0, .int .i64 0, .int .i64 0, .string ⟨#[]⟩]) := Lib.hid (by rw [← hW]; exact HR.out.alloc _)
  have HB2 := Lib.hid hb2
  clear hW c1 hb2 HB1 HR
  go_region_held3 (fun w' => w'.cell? ⟨w1.heap.size, 0, none⟩ = some (.bool true) ∧ w'.cell? ⟨w1.heap.size, 1, none⟩ = some (.int .i64 3) ∧ w'.cell? ⟨q, 33, none⟩ = some (.int .i64 0))
    (first | exact ⟨d0, d1, d3⟩ | exact ⟨keep_call d0 hb4, keep_call d1 hb4, keep_call d3 hb4⟩ | go_keep)
    (first | (go_at_call 24; refine (first_two _ true true 3 3 _ (Blk.new _ _ 70 _ rfl).drew).mono ?_; rintro e w4 ⟨rfl, hb4⟩; have HB4 := Lib.hid hb4))
  have hb3 := bt ((Below.alloc (Below.refl w2.heap.size w2) (Nat.le_refl _) (.cells #[.bool true, .int .i64 3, .bool true, .int .i64 3] 70)).drew) hb4
  have HFIN := Lib.hid (bt HB2.out hb3)
  have hr4 := HR2.out.by (only_below hb3 none) (by simp)
  have z0 := hr4.cell 0
  have z1 := hr4.cell 1
  have z2 := hr4.cell 2
  have z3 := hr4.cell 3
  have fz := fun i => hr4.free i
  have hlt4 := hr4.lt
  have hf : firstOf [(true, 3), (true, 3)] = 3 := rfl
  rw [hf]
  have HR4 := Lib.hid hr4
  clear hb3 hb4 HB4 HB2 d0 d1 d3 hf hr4 HR2
  simp at z0 z1 z2 z3
  go_wp2
  have hfin := (((HR4.out.set 0 (.int .i64 0)).set 1 (.int .i64 0)).set 2 (.int .i64 0)).set 3 (.string ⟨#[]⟩)
  have hbel := (((HFIN.out.setCell (p := ⟨w.heap.size, 0, none⟩) (Nat.le_refl _) (.int .i64 0)).setCell (p := ⟨w.heap.size, 1, none⟩) (Nat.le_refl _) (.int .i64 0)).setCell (p := ⟨w.heap.size, 2, none⟩) (Nat.le_refl _) (.int .i64 0)).setCell (p := ⟨w.heap.size, 3, none⟩) (Nat.le_refl _) (.string ⟨#[]⟩)
  generalize (((w4.setCell ⟨w.heap.size, 0, none⟩ (.int .i64 0)).setCell ⟨w.heap.size, 1, none⟩ (.int .i64 0)).setCell ⟨w.heap.size, 2, none⟩ (.int .i64 0)).setCell ⟨w.heap.size, 3, none⟩ (.string ⟨#[]⟩) = w5 at *
  have g0 : w5.cell? ⟨w.heap.size, 0, none⟩ = some (.int .i64 0) := hfin.cell 0
  have g1 : w5.cell? ⟨w.heap.size, 1, none⟩ = some (.int .i64 0) := hfin.cell 1
  have g2 : w5.cell? ⟨w.heap.size, 2, none⟩ = some (.int .i64 0) := hfin.cell 2
  have g3 : w5.cell? ⟨w.heap.size, 3, none⟩ = some (.string ⟨#[]⟩) := hfin.cell 3
  exact bodyPost_ret (v := .tuple #[Letter.zero.val, .int .i64 3]) (by simp [results, Try.results10, go_sem, g0, g1, g2, g3, Letter.zero, Letter.val]) rfl (Left.mk' HP.out hbel)

theorem only_new {a w : World} {row : Option Nat} (h : a.grownBy w row) {p : Addr} (hp : a.heap.size ≤ p.block) (u : Value) : a.grownBy (w.setCell p u) row :=
  ⟨h.os, h.tape, h.output, by simpa [World.setCell] using h.size, fun i hi hne => (Below.heap_setCell w p u i (by omega)).trans (h.block i hi hne)⟩
theorem Blk.other {w : World} {g : Nat} {t : TypeId} {cs : Array Value} (h : Blk w g t cs) {p : Addr} (hp : g ≠ p.block) (u : Value) : Blk (w.setCell p u) g t cs := (Below.heap_setCell w p u g hp).trans h

set_option maxHeartbeats 8000000 in
theorem take_some (g rb : Nat) (bs : List Bx) (j : Nat) (b : Bx) (w : World) (h : PostAt w g rb bs) (hj : j < bs.length) (hbj : bs[j]? = some b) :
    Calls Try.prog 10 #[.pointer (some ⟨g, 0, none⟩), .int .i64 j] w
      (match b.l with | [] => Left g rb bs (.tuple #[Letter.zero.val, .int .i64 3]) w | x :: l => Left g rb (bs.set j ⟨l, b.c⟩) (.tuple #[x.val, .int .i64 0]) w) := by
  have HP := Lib.hid h
  obtain ⟨p, f, cs, hb, hr⟩ := h
  obtain ⟨hd, hx⟩ := hr j b hbj
  have hb0 : Below w.heap.size w (w.alloc (.cells #[.int .i64 0, .int .i64 0, .int .i64 0, .string ⟨#[]⟩] 33)) := (Below.refl _ _).alloc (Nat.le_refl _) _
  have ha := at_in g rb bs.length j (w.alloc (.cells #[.int .i64 0, .int .i64 0, .int .i64 0, .string ⟨#[]⟩] 33)) hj f ((HP.out.below hb0).ptr.cell 0)
  have c1 : w.cell? ⟨rb, j * 35 + 33, none⟩ = some (.int .i64 b.l.length) := (hb.cell _).trans hx.many
  have hlt := hb.lt
  have hlen := hx.len
  have HX := Lib.hid hx
  have HB := Lib.hid hb
  clear hr hx hb p
  obtain ⟨bl, bc⟩ := b
  simp only at c1 hlen hbj ⊢
  go_enter Try.func10, Try.ntmps10
  go_wp2_with fail
  refine ha.mono ?_
  rintro e w1 ⟨rfl, hb1⟩
  have HB1 := Lib.hid (bt hb0 hb1)
  have e1 := (HB1.out.cell (p := ⟨rb, j * 35 + 33, none⟩) hlt).trans c1
  have hlt2 := World.block_lt_of_cell? w1 _ e1
  have lx : w.heap.size < w1.heap.size := by have := hb1.size; simp at this; omega
  have hr := (Blk.new w _ 33 #[.int .i64 0, .int .i64 0, .int .i64 0, .string ⟨#[]⟩] rfl).by (only_below hb1 none) (by simp)
  have HR := Lib.hid hr
  clear ha c1 hb0 hb1 hr
  go_wp2_with fail
  generalize hW : w1.alloc (.cells #[.bool false, .int .i64 0] 70) = w2
  have d0 : w2.cell? ⟨w1.heap.size, 0, none⟩ = some (.bool false) := by rw [← hW]; exact (Blk.new w1 _ 70 _ rfl).cell 0
  have d1 : w2.cell? ⟨w1.heap.size, 1, none⟩ = some (.int .i64 0) := by rw [← hW]; exact (Blk.new w1 _ 70 _ rfl).cell 1
  have d3 : w2.cell? ⟨rb, j * 35 + 33, none⟩ = some (.int .i64 bl.length) := by rw [← hW]; exact keep_alloc _ e1
  have hb2 : Below w.heap.size w w2 := by rw [← hW]; exact HB1.out.alloc HB1.out.size _
  have HR2 : Hid (Blk w2 w.heap.size 33 #[.int .i64 0, .int .i64 0, .int .i64 0, .string ⟨#[]⟩]) := Lib.hid (by rw [← hW]; exact HR.out.alloc _)
  have HB2 := Lib.hid hb2
  clear hW e1 HB1 hb2 HR
  generalize hful : ((bl.length : Int) == 0) = ful
  have HFU := Lib.hid hful
  go_region_held3 (fun w' => w'.cell? ⟨w1.heap.size, 0, none⟩ = some (.bool false) ∧ w'.cell? ⟨w1.heap.size, 1, none⟩ = some (.int .i64 0) ∧ w'.cell? ⟨rb, j * 35 + 33, none⟩ = some (.int .i64 bl.length))
    (first | exact ⟨d0, d1, d3⟩ | exact ⟨keep_call d0 hb4, keep_call d1 hb4, keep_call d3 hb4⟩ | go_keep)
    (first | (go_at_call 24; refine (first_two _ false ful 0 3 _ (Blk.new _ _ 70 _ rfl).drew).mono ?_; rintro e w4 ⟨rfl, hb4⟩; have HB4 := Lib.hid hb4))
  have hb3 := bt ((Below.alloc (Below.refl w2.heap.size w2) (Nat.le_refl _) (.cells #[.bool false, .int .i64 0, .bool ful, .int .i64 3] 70)).drew) hb4
  have HFIN := Lib.hid (bt HB2.out hb3)
  have hr4 := HR2.out.by (only_below hb3 none) (by simp)
  have HR4 := Lib.hid hr4
  clear hb3 hb4 HB4 HB2 d0 d1 d3 HR2 hful
  cases ful with
  | true =>
    have hnil : bl = [] := by
      have := HFU.out
      exact List.eq_nil_of_length_eq_zero (by simpa using this)
    subst hnil
    have z0 := hr4.cell 0
    have z1 := hr4.cell 1
    have z2 := hr4.cell 2
    have z3 := hr4.cell 3
    have fz := fun i => hr4.free i
    have hlt4 := hr4.lt
    have hf : firstOf [(false, 0), (true, 3)] = 3 := rfl
    rw [hf]
    clear hf hr4
    simp at z0 z1 z2 z3
    go_wp2
    have hfin := (((HR4.out.set 0 (.int .i64 0)).set 1 (.int .i64 0)).set 2 (.int .i64 0)).set 3 (.string ⟨#[]⟩)
    have hbel := (((HFIN.out.setCell (p := ⟨w.heap.size, 0, none⟩) (Nat.le_refl _) (.int .i64 0)).setCell (p := ⟨w.heap.size, 1, none⟩) (Nat.le_refl _) (.int .i64 0)).setCell (p := ⟨w.heap.size, 2, none⟩) (Nat.le_refl _) (.int .i64 0)).setCell (p := ⟨w.heap.size, 3, none⟩) (Nat.le_refl _) (.string ⟨#[]⟩)
    generalize (((w4.setCell ⟨w.heap.size, 0, none⟩ (.int .i64 0)).setCell ⟨w.heap.size, 1, none⟩ (.int .i64 0)).setCell ⟨w.heap.size, 2, none⟩ (.int .i64 0)).setCell ⟨w.heap.size, 3, none⟩ (.string ⟨#[]⟩) = w5 at *
    have g0 : w5.cell? ⟨w.heap.size, 0, none⟩ = some (.int .i64 0) := hfin.cell 0
    have g1 : w5.cell? ⟨w.heap.size, 1, none⟩ = some (.int .i64 0) := hfin.cell 1
    have g2 : w5.cell? ⟨w.heap.size, 2, none⟩ = some (.int .i64 0) := hfin.cell 2
    have g3 : w5.cell? ⟨w.heap.size, 3, none⟩ = some (.string ⟨#[]⟩) := hfin.cell 3
    exact bodyPost_ret (v := .tuple #[Letter.zero.val, .int .i64 3]) (by simp [results, Try.results10, go_sem, g0, g1, g2, g3, Letter.zero, Letter.val]) rfl (Left.mk' HP.out hbel)
  | false =>
    obtain ⟨x, l, rfl⟩ : ∃ x l, bl = x :: l := by
      have := HFU.out
      cases bl with
      | nil => simp at this
      | cons x l => exact ⟨x, l, rfl⟩
    have hf : firstOf [(false, 0), (false, 3)] = 0 := rfl
    rw [hf]
    clear hf hr4
    have hk := HB.out.by (only_below HFIN.out none) (by simp)
    have ht := take_any rb (j * 35) hd x l bc cs w4 hk HX.out
    clear hk
    go_wp2_with fail
    refine ht.mono ?_
    rintro e w5 ⟨rfl, hk5, hg5⟩
    have hne : some w.heap.size ≠ some rb := by intro e; injection e with e; omega
    have hr5 := HR4.out.by hg5 hne
    have HR5 := Lib.hid hr5
    have HK5 := Lib.hid (And.intro hk5 hg5)
    have z0 := hr5.cell 0
    have z1 := hr5.cell 1
    have z2 := hr5.cell 2
    have z3 := hr5.cell 3
    have fz := fun i => hr5.free i
    have hlt5 := hr5.lt
    clear hr5 hk5 hg5 ht
    simp at z0 z1 z2 z3
    unfold Letter.val
    go_wp2
    have hfin := (((HR5.out.set 0 (.int .i64 x.to)).set 1 (.int .i64 x.frm)).set 2 (.int .i64 x.kind)).set 3 (.string x.text)
    have hrb : rb ≠ w.heap.size := by omega
    have hk6 := (((HK5.out.1.other (p := ⟨w.heap.size, 0, none⟩) hrb (.int .i64 x.to)).other (p := ⟨w.heap.size, 1, none⟩) hrb (.int .i64 x.frm)).other (p := ⟨w.heap.size, 2, none⟩) hrb (.int .i64 x.kind)).other (p := ⟨w.heap.size, 3, none⟩) hrb (.string x.text)
    have hgr := only_new (only_new (only_new (only_new (only_trans (only_below HFIN.out (some rb)) HK5.out.2) (p := ⟨w.heap.size, 0, none⟩) (Nat.le_refl _) (.int .i64 x.to)) (p := ⟨w.heap.size, 1, none⟩) (Nat.le_refl _) (.int .i64 x.frm)) (p := ⟨w.heap.size, 2, none⟩) (Nat.le_refl _) (.int .i64 x.kind)) (p := ⟨w.heap.size, 3, none⟩) (Nat.le_refl _) (.string x.text)
    generalize (((w5.setCell ⟨w.heap.size, 0, none⟩ (.int .i64 x.to)).setCell ⟨w.heap.size, 1, none⟩ (.int .i64 x.frm)).setCell ⟨w.heap.size, 2, none⟩ (.int .i64 x.kind)).setCell ⟨w.heap.size, 3, none⟩ (.string x.text) = w6 at *
    have g0 : w6.cell? ⟨w.heap.size, 0, none⟩ = some (.int .i64 x.to) := hfin.cell 0
    have g1 : w6.cell? ⟨w.heap.size, 1, none⟩ = some (.int .i64 x.frm) := hfin.cell 1
    have g2 : w6.cell? ⟨w.heap.size, 2, none⟩ = some (.int .i64 x.kind) := hfin.cell 2
    have g3 : w6.cell? ⟨w.heap.size, 3, none⟩ = some (.string x.text) := hfin.cell 3
    refine bodyPost_ret (v := .tuple #[x.val, .int .i64 0]) (by simp [results, Try.results10, go_sem, g0, g1, g2, g3, Letter.val]) rfl ⟨rfl, HP.out.turn hgr hj HB.out hk6 (fun i hi => takeC_far _ _ _ _ _ HX.out.hh hi) ⟨_, HX.out.take⟩, hgr⟩

theorem take_op (g rb : Nat) (bs : List Bx) (k : Int) (w : World) (h : PostAt w g rb bs) :
    Calls Try.prog 10 #[.pointer (some ⟨g, 0, none⟩), .int .i64 k] w (Left g rb (takeS bs k) (.tuple #[(takeV bs k).val, .int .i64 (takeE bs k)]) w) := by
  unfold takeS takeE takeV
  cases hk : boxOf bs k with
  | none => exact take_none g rb bs k w h hk
  | some b =>
    obtain ⟨j, rfl, hlt, hbj⟩ := boxOf_some hk
    have := take_some g rb bs j b w h hlt hbj
    simp only [Int.toNat_natCast]
    cases e : b.l with
    | nil => rw [e] at this; exact this
    | cons x l => rw [e] at this; exact this
end Go.Proofs.Ytilnbgkepijfbaa
