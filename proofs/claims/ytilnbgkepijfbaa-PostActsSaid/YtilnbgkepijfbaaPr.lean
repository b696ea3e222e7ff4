/- The walk of the reference's Take; no condition. -/
import Derived.Test.YtilnbgkepijfbaaPq
namespace Go.Proofs.Ytilnbgkepijfbaa
open Go.RowKit
set_option linter.unusedVariables false
set_option linter.unusedSimpArgs false

def RTook (rb : Nat → Prop) (n : Nat) (E : Int) (x : Letter) (bs : List Bx) (w : World) (e : Ending) (w' : World) : Prop :=
  ∃ r' cap', e = .returned (.tuple #[.slice (some ⟨r', 0, none⟩) n cap', x.val, .int .i64 E]) ∧ Below w.heap.size w w' ∧ RefAt w' rb r' cap' bs

/-- The zero letter is stored anew, and read out. -/
theorem zero_out {w w1 w5 : World} {H : Nat} (hH : w.heap.size ≤ H) (hb : Below w.heap.size w w1) (hr : Blk w1 H 52 #[.int .i64 0, .int .i64 0, .int .i64 0, .string ⟨#[]⟩])
    (h5 : w5 = (((w1.setCell ⟨H, 0, none⟩ (.int .i64 0)).setCell ⟨H, 1, none⟩ (.int .i64 0)).setCell ⟨H, 2, none⟩ (.int .i64 0)).setCell ⟨H, 3, none⟩ (.string ⟨#[]⟩)) :
    Below w.heap.size w w5 ∧ w5.cell? ⟨H, 0, none⟩ = some (.int .i64 0) ∧ w5.cell? ⟨H, 1, none⟩ = some (.int .i64 0) ∧ w5.cell? ⟨H, 2, none⟩ = some (.int .i64 0) ∧ w5.cell? ⟨H, 3, none⟩ = some (.string ⟨#[]⟩) := by
  have hfin := (((hr.set 0 (.int .i64 0)).set 1 (.int .i64 0)).set 2 (.int .i64 0)).set 3 (.string ⟨#[]⟩)
  have hbel := (((hb.setCell (p := ⟨H, 0, none⟩) hH (.int .i64 0)).setCell (p := ⟨H, 1, none⟩) hH (.int .i64 0)).setCell (p := ⟨H, 2, none⟩) hH (.int .i64 0)).setCell (p := ⟨H, 3, none⟩) hH (.string ⟨#[]⟩)
  rw [← h5] at hfin hbel
  exact ⟨hbel, hfin.cell 0, hfin.cell 1, hfin.cell 2, hfin.cell 3⟩

set_option maxHeartbeats 2000000 in
theorem rtake_none (rb : Nat → Prop) (r cap : Nat) (bs : List Bx) (k : Int) (w : World) (h : RefAt w rb r cap bs) (hk : boxOf bs k = none) :
    Calls Try.prog 17 #[.slice (some ⟨r, 0, none⟩) bs.length cap, .int .i64 k] w (RTook rb bs.length 3 Letter.zero bs w) := by
  have hb0 : Below w.heap.size w (w.alloc (.cells #[.int .i64 0, .int .i64 0, .int .i64 0, .string ⟨#[]⟩] 52)) := (Below.refl _ _).alloc (Nat.le_refl _) _
  have ha := in_no (some ⟨r, 0, none⟩) bs.length cap k (w.alloc (.cells #[.int .i64 0, .int .i64 0, .int .i64 0, .string ⟨#[]⟩] 52)) h.few (boxOf_none hk)
  have HR := Lib.hid h
  clear hk h
  go_enter Try.func17, Try.ntmps17
  go_wp2_with fail
  refine ha.mono ?_
  rintro e w1 ⟨rfl, hb⟩
  have hr := (Blk.new w _ 52 #[.int .i64 0, .int .i64 0, .int .i64 0, .string ⟨#[]⟩] rfl).by (only_below hb none) (by simp)
  have HB := Lib.hid (bt hb0 hb)
  have HRR := Lib.hid hr
  have z0 := hr.cell 0
  have z1 := hr.cell 1
  have z2 := hr.cell 2
  have z3 := hr.cell 3
  have fz := fun i => hr.free i
  have hlt := hr.lt
  simp at z0 z1 z2 z3
  clear hr hb hb0 ha
  go_wp2
  obtain ⟨w5, h5⟩ : ∃ w5, w5 = (((w1.setCell ⟨w.heap.size, 0, none⟩ (.int .i64 0)).setCell ⟨w.heap.size, 1, none⟩ (.int .i64 0)).setCell ⟨w.heap.size, 2, none⟩ (.int .i64 0)).setCell ⟨w.heap.size, 3, none⟩ (.string ⟨#[]⟩) := ⟨_, rfl⟩
  obtain ⟨hbel, g0, g1, g2, g3⟩ := zero_out (Nat.le_refl _) HB.out HRR.out h5
  rw [← h5]
  refine bodyPost_ret (v := .tuple #[.slice (some ⟨r, 0, none⟩) bs.length cap, Letter.zero.val, .int .i64 3]) (by simp [results, Try.results17, go_sem, g0, g1, g2, g3, Letter.zero, Letter.val]) rfl ?_
  exact ⟨r, cap, rfl, hbel, HR.out.below hbel⟩

set_option maxHeartbeats 2000000 in
theorem rtake_empty (rb : Nat → Prop) (r cap : Nat) (bs : List Bx) (j : Nat) (c0 : Bool) (w : World) (h : RefAt w rb r cap bs) (hj : j < bs.length) (hbj : bs[j]? = some ⟨[], c0⟩) :
    Calls Try.prog 17 #[.slice (some ⟨r, 0, none⟩) bs.length cap, .int .i64 (j : Int)] w (RTook rb bs.length 3 Letter.zero bs w) := by
  have hb0 : Below w.heap.size w (w.alloc (.cells #[.int .i64 0, .int .i64 0, .int .i64 0, .string ⟨#[]⟩] 52)) := (Below.refl _ _).alloc (Nat.le_refl _) _
  have ha := in_yes (some ⟨r, 0, none⟩) bs.length cap j (w.alloc (.cells #[.int .i64 0, .int .i64 0, .int .i64 0, .string ⟨#[]⟩] 52)) h.few hj
  obtain ⟨ad, c, h0, h1, h2⟩ := h.at' j _ hbj
  have hl := h.lt
  have h00 : (0 : Int) ≤ (j : Int) := by omega
  have h11 : (j : Int) < (bs.length : Int) := by omega
  have HR := Lib.hid h
  simp only [List.length_nil] at h0
  clear h h1 h2 hbj
  go_enter Try.func17, Try.ntmps17
  go_wp2_with fail
  refine ha.mono ?_
  rintro e w1 ⟨rfl, hb⟩
  have hr := (Blk.new w _ 52 #[.int .i64 0, .int .i64 0, .int .i64 0, .string ⟨#[]⟩] rfl).by (only_below hb none) (by simp)
  have HB := Lib.hid (bt hb0 hb)
  have c1 := (HB.out.cell (p := ⟨r, j * 2, none⟩) hl).trans h0
  have hl1 := World.block_lt_of_cell? w1 _ c1
  have HRR := Lib.hid hr
  have z0 := hr.cell 0
  have z1 := hr.cell 1
  have z2 := hr.cell 2
  have z3 := hr.cell 3
  have fz := fun i => hr.free i
  have hlt := hr.lt
  simp at z0 z1 z2 z3
  clear hr hb hb0 ha h0
  go_wp2
  obtain ⟨w5, h5⟩ : ∃ w5, w5 = (((w1.setCell ⟨w.heap.size, 0, none⟩ (.int .i64 0)).setCell ⟨w.heap.size, 1, none⟩ (.int .i64 0)).setCell ⟨w.heap.size, 2, none⟩ (.int .i64 0)).setCell ⟨w.heap.size, 3, none⟩ (.string ⟨#[]⟩) := ⟨_, rfl⟩
  obtain ⟨hbel, g0, g1, g2, g3⟩ := zero_out (Nat.le_refl _) HB.out HRR.out h5
  rw [← h5]
  refine bodyPost_ret (v := .tuple #[.slice (some ⟨r, 0, none⟩) bs.length cap, Letter.zero.val, .int .i64 3]) (by simp [results, Try.results17, go_sem, g0, g1, g2, g3, Letter.zero, Letter.val]) rfl ?_
  exact ⟨r, cap, rfl, hbel, HR.out.below hbel⟩

theorem below_row {w a b : World} {H : Nat} (h : Below w.heap.size w a) (k : a.grownBy b (some H)) (hH : w.heap.size ≤ H := by omega) : Below w.heap.size w b := below_own h k hH
/-- What the last region holds: the block H may be written, all else that w8 had is as it was. -/
def Held (H : Nat) (w8 w' : World) : Prop := w8.grownBy w' (some H) ∧ ∃ cs, Blk w' H 52 cs ∧ cs.size = 4
theorem Held.call {H : Nat} {w8 a b : World} (h : Held H w8 a) (k : Below a.heap.size a b) : Held H w8 b := by
  obtain ⟨h1, cs, h2, h3⟩ := h
  exact ⟨only_trans h1 (only_below k _), cs, h2.by (only_below k none) (by simp), h3⟩
theorem Held.store {H : Nat} {w8 a : World} (h : Held H w8 a) (i : Nat) (v : Value) : Held H w8 (a.setCell ⟨H, i, none⟩ v) := by
  obtain ⟨h1, cs, h2, h3⟩ := h
  exact ⟨only_set h1 _ _, _, h2.set i v, by simpa using h3⟩
theorem Held.cells {H : Nat} {w8 a : World} (h : Held H w8 a) : ∃ c0 c1 c2 c3, a.cell? ⟨H, 0, none⟩ = some c0 ∧ a.cell? ⟨H, 1, none⟩ = some c1 ∧ a.cell? ⟨H, 2, none⟩ = some c2 ∧ a.cell? ⟨H, 3, none⟩ = some c3 ∧ (∀ i, a.frozen? ⟨H, i, none⟩ = false) ∧ H < a.heap.size := by
  obtain ⟨h1, ⟨l⟩, h2, h3⟩ := h
  match l, h3 with
  | [c0, c1, c2, c3], _ => exact ⟨c0, c1, c2, c3, h2.cell 0, h2.cell 1, h2.cell 2, h2.cell 3, fun i => h2.free i, h2.lt⟩
theorem cell_store {w : World} {g H i j : Nat} {v u : Value} (h : w.cell? ⟨g, i, none⟩ = some u) (hne : g ≠ H) : (w.setCell ⟨H, j, none⟩ v).cell? ⟨g, i, none⟩ = some u :=
  (World.cell?_of_block (Below.heap_setCell w ⟨H, j, none⟩ v g hne)).trans h
theorem letter_out {w4 w5 : World} {H : Nat} {cs : Array Value} {x : Letter} (hr : Blk w4 H 52 cs) (hs : cs.size = 4)
    (h5 : w5 = (((w4.setCell ⟨H, 0, none⟩ (.int .i64 x.to)).setCell ⟨H, 1, none⟩ (.int .i64 x.frm)).setCell ⟨H, 2, none⟩ (.int .i64 x.kind)).setCell ⟨H, 3, none⟩ (.string x.text)) :
    w5.cell? ⟨H, 0, none⟩ = some (.int .i64 x.to) ∧ w5.cell? ⟨H, 1, none⟩ = some (.int .i64 x.frm) ∧ w5.cell? ⟨H, 2, none⟩ = some (.int .i64 x.kind) ∧ w5.cell? ⟨H, 3, none⟩ = some (.string x.text) := by
  have hfin := (((hr.set 0 (.int .i64 x.to)).set 1 (.int .i64 x.frm)).set 2 (.int .i64 x.kind)).set 3 (.string x.text)
  rw [← h5] at hfin
  obtain ⟨l⟩ := cs
  match l, hs with
  | [c0, c1, c2, c3], _ => exact ⟨hfin.cell 0, hfin.cell 1, hfin.cell 2, hfin.cell 3⟩

set_option maxRecDepth 100000 in
set_option maxHeartbeats 1000000 in
theorem rtake_some (rb : Nat → Prop) (r cap : Nat) (bs : List Bx) (j : Nat) (x : Letter) (l : List Letter) (bc : Bool) (w : World) (h : RefAt w rb r cap bs) (hrb : ∀ x, rb x → x < w.heap.size) (hj : j < bs.length) (hbj : bs[j]? = some ⟨x :: l, bc⟩) :
    Calls Try.prog 17 #[.slice (some ⟨r, 0, none⟩) bs.length cap, .int .i64 (j : Int)] w (RTook rb bs.length 0 x (bs.set j ⟨l, bc⟩) w) := by
  have hb0 : Below w.heap.size w (w.alloc (.cells #[.int .i64 0, .int .i64 0, .int .i64 0, .string ⟨#[]⟩] 52)) := (Below.refl _ _).alloc (Nat.le_refl _) _
  have ha := in_yes (some ⟨r, 0, none⟩) bs.length cap j (w.alloc (.cells #[.int .i64 0, .int .i64 0, .int .i64 0, .string ⟨#[]⟩] 52)) h.few hj
  obtain ⟨ad, c, h0, h1, h2⟩ := h.at' j _ hbj
  have h8 := h.len j _ hbj
  have hl := h.lt
  have h00 : (0 : Int) ≤ (j : Int) := by omega
  have h11 : (j : Int) < (bs.length : Int) := by omega
  have HR := Lib.hid h
  obtain ⟨gb, rfl, hgb, a0, a1, a2, a3⟩ := h2.s.at' 0 x rfl
  have hroom := h2.s.room
  have HN := Lib.hid h2
  simp only [List.length_cons] at h0 h8 hroom h1
  have hl0 : (0 : Int) < (l.length : Int) + 1 := by omega
  have hl1' : ¬ ((l.length : Int) + 1 = 0) := by omega
  clear h h2 hbj
  go_enter Try.func17, Try.ntmps17
  go_wp2_with fail
  refine ha.mono ?_
  rintro e w1 ⟨rfl, hb⟩
  have hr := (Blk.new w _ 52 #[.int .i64 0, .int .i64 0, .int .i64 0, .string ⟨#[]⟩] rfl).by (only_below hb none) (by simp)
  have HRR := Lib.hid hr
  have hlt := hr.lt
  have HB := Lib.hid (bt hb0 hb)
  have c1 := (HB.out.cell (p := ⟨r, j * 2, none⟩) hl).trans h0
  have c2 := (HB.out.cell (p := ⟨r, j * 2 + 1, none⟩) hl).trans h1
  have b0 := (HB.out.cell (p := ⟨gb, 0 * 4, none⟩) hgb).trans a0
  have b1 := (HB.out.cell (p := ⟨gb, 0 * 4 + 1, none⟩) hgb).trans a1
  have b2 := (HB.out.cell (p := ⟨gb, 0 * 4 + 2, none⟩) hgb).trans a2
  have b3 := (HB.out.cell (p := ⟨gb, 0 * 4 + 3, none⟩) hgb).trans a3
  simp only [Nat.zero_mul, Nat.zero_add] at b0 b1 b2 b3
  have hl1 := World.block_lt_of_cell? w1 _ c1
  have hl2 := World.block_lt_of_cell? w1 _ b0
  clear hr hb hb0 ha h0 h1 a0 a1 a2 a3
  by_cases hc1 : c = 1
  · have hnil : l = [] := List.eq_nil_of_length_eq_zero (by omega)
    subst hc1 hnil
    simp only [List.length_nil, Nat.zero_add] at c1 hl0 hl1' ⊢
    go_wp2_with (at_builtin; refine wpList_copy_letters (by rfl) _ _ (by rfl) ((w1.alloc (.cells #[.slice (some ⟨gb, 0, none⟩) 1 1, .bool bc] 62)).alloc (.cells x.cells.toArray 52)) (w1.heap.size + 1 + 1) (by simp) (by rfl) ⟨gb, 0, none⟩ 0 ([] : List Letter) (by first | omega | simp) (by rfl) (by simp [cellsOf]) ?_; intro ad7 cp7 w7 hown7 hgrow7; have hbl7 := (((Blk.new w1 _ 62 #[.slice (some ⟨gb, 0, none⟩) 1 1, .bool bc] rfl).alloc (.cells x.cells.toArray 52)).alloc (.cells #[] 52)).by hgrow7 (by intro e; injection e with e; omega); have y0 := hbl7.cell 0; have y1 := hbl7.cell 1; simp at y0 y1; have fz7 := fun i => hbl7.free i; have hs7 := hbl7.lt)
    obtain ⟨ad', cap', hv', hsl7, hbk7⟩ := slips_of52 hown7
    injection hv' with e1 _ e3
    subst e1 e3
    have hs0 := HB.out.size
    have hHl := HRR.out.lt
    have hb8 := (((((HB.out.alloc hs0 (.cells #[.slice (some ⟨gb, 0, none⟩) 1 1, .bool bc] 62)).alloc (by simp; omega) (.cells x.cells.toArray 52)).alloc (by simp; omega) (.cells #[] 52)).grown hgrow7 (by simp; omega) (by intro i e; injection e with e; omega)).setCell (p := ⟨w1.heap.size, 0, none⟩) hs0 (.slice ad7 0 cp7))
    have hx8 := ((((Blk.new (w1.alloc (.cells #[.slice (some ⟨gb, 0, none⟩) 1 1, .bool bc] 62)) (w1.heap.size + 1) 52 x.cells.toArray (by simp)).alloc (.cells #[] 52)).by hgrow7 (by intro e; injection e with e; omega)).other (p := ⟨w1.heap.size, 0, none⟩) (by simp) (.slice ad7 0 cp7))
    have hz8 := ((((HRR.out.alloc (.cells #[.slice (some ⟨gb, 0, none⟩) 1 1, .bool bc] 62)).alloc (.cells x.cells.toArray 52)).alloc (.cells #[] 52)).by hgrow7 (by intro e; injection e with e; omega)).other (p := ⟨w1.heap.size, 0, none⟩) (by simp; omega) (.slice ad7 0 cp7)
    have hq8 : Blk (w7.setCell ⟨w1.heap.size, 0, none⟩ (.slice ad7 0 cp7)) w1.heap.size 62 #[.slice ad7 0 cp7, .bool bc] := hbl7.set 0 _
    have hn8 : Note (w7.setCell ⟨w1.heap.size, 0, none⟩ (.slice ad7 0 cp7)) (fun x => rb x ∨ x = w.heap.size) ad7 0 cp7 [] :=
      ⟨hsl7.by (only_set (only_refl w7 (some w1.heap.size)) 0 _) (fun x e => by have := hbk7 x e; simp; omega), fun x e e2 => by
        have := hbk7 x e
        rcases e2 with e2 | e2
        · have := hrb _ e2; omega
        · omega, fun x e => by have := hbk7 x e; simp [World.setCell]; omega⟩
    have hadb := hbk7
    clear hown7 hgrow7 hbl7 y0 y1 hs7 fz7 hsl7 hbk7
    generalize w7.setCell ⟨w1.heap.size, 0, none⟩ (.slice ad7 0 cp7) = w8 at *
    have HB8 := Lib.hid hb8
    have HZ8 := Lib.hid hz8
    have HN8 := Lib.hid hn8
    have q0 := hq8.cell 0
    have q1 := hq8.cell 1
    have x0 := hx8.cell 0
    have x1 := hx8.cell 1
    have x2 := hx8.cell 2
    have x3 := hx8.cell 3
    simp [Letter.cells] at q0 q1 x0 x1 x2 x3
    have hq8l := hq8.lt
    have hx8l := hx8.lt
    have hput := fun W (hR : RefAt W (fun x => rb x ∨ x = w.heap.size) r cap bs) (hw : ∀ x, (rb x ∨ x = w.heap.size) → x < W.heap.size) (hN : Note W (fun x => rb x ∨ x = w.heap.size) ad7 0 cp7 []) => put_any (fun x => rb x ∨ x = w.heap.size) r cap j bs ⟨[], bc⟩ ad7 cp7 W hR hw hj hN (by first | (show l.length ≤ 8; omega) | simp)
    simp only [List.length_nil] at hput
    have HPUT := Lib.hid hput
    have hbd := below_drewN (Below.refl w8.heap.size w8) 1
    have hheld : Held w.heap.size w8 w8.drew := ⟨only_drew (only_refl w8 _), _, hz8.drew, rfl⟩
    have hne1 : w1.heap.size ≠ w.heap.size := by omega
    have hne2 : w1.heap.size + 1 ≠ w.heap.size := by omega
    have HHELD := Lib.hid hheld
    have HR2 := Lib.hid (HR.out.more (Nat.le_refl _))
    have hzl8 := hz8.lt
    have HSTART := And.intro (show w8.drew.cell? ⟨w1.heap.size, 0, none⟩ = _ from q0) (And.intro (show w8.drew.cell? ⟨w1.heap.size, 1, none⟩ = _ from q1) (And.intro (show w8.drew.cell? ⟨w1.heap.size + 1, 0, none⟩ = _ from x0) (And.intro (show w8.drew.cell? ⟨w1.heap.size + 1, 1, none⟩ = _ from x1) (And.intro (show w8.drew.cell? ⟨w1.heap.size + 1, 2, none⟩ = _ from x2) (And.intro (show w8.drew.cell? ⟨w1.heap.size + 1, 3, none⟩ = _ from x3) HHELD)))))
    have q0' := q0
    have q1' := q1
    have x0' := x0
    have x1' := x1
    have x2' := x2
    have x3' := x3
    clear hb8 hz8 hn8 hq8 hx8 hput hheld c1 c2 b0 b1 b2 b3
    go_region_held3 (fun w' => w'.cell? ⟨w1.heap.size, 0, none⟩ = some (.slice ad7 0 cp7) ∧ w'.cell? ⟨w1.heap.size, 1, none⟩ = some (.bool bc) ∧ w'.cell? ⟨w1.heap.size + 1, 0, none⟩ = some (.int .i64 x.to) ∧ w'.cell? ⟨w1.heap.size + 1, 1, none⟩ = some (.int .i64 x.frm) ∧ w'.cell? ⟨w1.heap.size + 1, 2, none⟩ = some (.int .i64 x.kind) ∧ w'.cell? ⟨w1.heap.size + 1, 3, none⟩ = some (.string x.text) ∧ Hid (Held w.heap.size w8 w'))
      (first | with_reducible exact HSTART | with_reducible exact HKEEP | with_reducible exact HSTORE | with_reducible assumption)
      (first | (go_at_call 27; have hh := ‹_ ∧ _ ∧ _ ∧ _ ∧ _ ∧ _ ∧ Hid (Held w.heap.size w8 _)›; have hW := hh.2.2.2.2.2.2.out; have hww := below_row HB8.out hW.1; refine (HPUT.out _ (HR2.out.below hww) (fun y e => by rcases e with e | e; exact Nat.lt_of_lt_of_le (hrb y e) hww.size; have := hW.1.size; omega) (HN8.out.by hW.1 (fun y e => .inr (by injection e with e; exact e.symm)))).mono ?_; rintro e w4 ⟨r', cap', rfl, hb4, hR4⟩; have HR4 := Lib.hid hR4; have hH4 := hW.call hb4; have HBE := Lib.hid (bt hww hb4); have HH4 := Lib.hid hH4; obtain ⟨zc0, zc1, zc2, zc3, z0, z1, z2, z3, fz, hz4l⟩ := hH4.cells; have k0 := hH4.1.cell q0' (by simpa using hne1); have k1 := hH4.1.cell q1' (by simpa using hne1); have k2 := hH4.1.cell x0' (by simpa using hne2); have k3 := hH4.1.cell x1' (by simpa using hne2); have k4 := hH4.1.cell x2' (by simpa using hne2); have k5 := hH4.1.cell x3' (by simpa using hne2); have HKEEP := And.intro k0 (And.intro k1 (And.intro k2 (And.intro k3 (And.intro k4 (And.intro k5 (Lib.hid hH4)))))); have HSTORE := And.intro (cell_store (j := 3) (v := .string x.text) (cell_store (j := 2) (v := .int .i64 x.kind) (cell_store (j := 1) (v := .int .i64 x.frm) (cell_store (j := 0) (v := .int .i64 x.to) k0 hne1) hne1) hne1) hne1) (And.intro (cell_store (j := 3) (v := .string x.text) (cell_store (j := 2) (v := .int .i64 x.kind) (cell_store (j := 1) (v := .int .i64 x.frm) (cell_store (j := 0) (v := .int .i64 x.to) k1 hne1) hne1) hne1) hne1) (And.intro (cell_store (j := 3) (v := .string x.text) (cell_store (j := 2) (v := .int .i64 x.kind) (cell_store (j := 1) (v := .int .i64 x.frm) (cell_store (j := 0) (v := .int .i64 x.to) k2 hne2) hne2) hne2) hne2) (And.intro (cell_store (j := 3) (v := .string x.text) (cell_store (j := 2) (v := .int .i64 x.kind) (cell_store (j := 1) (v := .int .i64 x.frm) (cell_store (j := 0) (v := .int .i64 x.to) k3 hne2) hne2) hne2) hne2) (And.intro (cell_store (j := 3) (v := .string x.text) (cell_store (j := 2) (v := .int .i64 x.kind) (cell_store (j := 1) (v := .int .i64 x.frm) (cell_store (j := 0) (v := .int .i64 x.to) k4 hne2) hne2) hne2) hne2) (And.intro (cell_store (j := 3) (v := .string x.text) (cell_store (j := 2) (v := .int .i64 x.kind) (cell_store (j := 1) (v := .int .i64 x.frm) (cell_store (j := 0) (v := .int .i64 x.to) k5 hne2) hne2) hne2) hne2) (Lib.hid ((((hH4.store 0 (.int .i64 x.to)).store 1 (.int .i64 x.frm)).store 2 (.int .i64 x.kind)).store 3 (.string x.text)))))))); clear hH4 hb4 hR4 hh k0 k1 k2 k3 k4 k5))
    obtain ⟨zc, hz4, hzs⟩ := HH4.out.2
    obtain ⟨w5, h5⟩ : ∃ w5, w5 = (((w4.setCell ⟨w.heap.size, 0, none⟩ (.int .i64 x.to)).setCell ⟨w.heap.size, 1, none⟩ (.int .i64 x.frm)).setCell ⟨w.heap.size, 2, none⟩ (.int .i64 x.kind)).setCell ⟨w.heap.size, 3, none⟩ (.string x.text) := ⟨_, rfl⟩
    obtain ⟨g0, g1, g2, g3⟩ := letter_out hz4 hzs h5
    have hg5 : w4.grownBy w5 (some w.heap.size) := by rw [h5]; exact only_set (only_set (only_set (only_set (only_refl _ _) _ _) _ _) _ _) _ _
    have hR5 := (HR4.out.by hg5 (fun y e => .inr (by injection e with e; exact e.symm))).less
    have hb5 := below_row HBE.out hg5
    go_wp2
    rw [← h5]
    refine bodyPost_ret (v := .tuple #[.slice (some ⟨r', 0, none⟩) bs.length cap', x.val, .int .i64 0]) (by simp [results, Try.results17, go_sem, g0, g1, g2, g3, Letter.val]) rfl ?_
    exact ⟨r', cap', rfl, hb5, hR5⟩
  · have hc2 : 1 < c := by omega
    have hnews : ∀ (q : Nat) (u : Value), (cellsOf l)[q]? = some u → (((w1.alloc (.cells #[.slice (some ⟨gb, 0, none⟩) (l.length + 1) c, .bool bc] 62)).alloc (.cells x.cells.toArray 52)).alloc (.cells #[] 52)).cell? ((⟨gb, 4, none⟩ : Addr).add q) = some u := by
      intro q u hu
      have h1 := HN.out.s.news (4 + q) u (by show (x.cells ++ cellsOf l)[4 + q]? = _; rw [List.getElem?_append_right (by simp [Letter.cells])]; simpa [Letter.cells] using hu)
      rw [Addr.add_mid]
      exact keep_alloc _ (keep_alloc _ (keep_alloc _ ((HB.out.cell (p := ⟨gb, 4 + q, none⟩) hgb).trans h1)))
    go_wp2_with (at_builtin; refine wpList_copy_letters (by rfl) _ _ (by rfl) ((w1.alloc (.cells #[.slice (some ⟨gb, 0, none⟩) (l.length + 1) c, .bool bc] 62)).alloc (.cells x.cells.toArray 52)) (w1.heap.size + 1 + 1) (by simp) (by rfl) ⟨gb, 4, none⟩ (c - 1) l (by first | omega | simp) (by rfl) hnews ?_; intro ad7 cp7 w7 hown7 hgrow7; have hbl7 := (((Blk.new w1 _ 62 #[.slice (some ⟨gb, 0, none⟩) (l.length + 1) c, .bool bc] rfl).alloc (.cells x.cells.toArray 52)).alloc (.cells #[] 52)).by hgrow7 (by intro e; injection e with e; omega); have y0 := hbl7.cell 0; have y1 := hbl7.cell 1; simp at y0 y1; have fz7 := fun i => hbl7.free i; have hs7 := hbl7.lt)
    obtain ⟨ad', cap', hv', hsl7, hbk7⟩ := slips_of52 hown7
    injection hv' with e1 _ e3
    subst e1 e3
    have hs0 := HB.out.size
    have hHl := HRR.out.lt
    have hb8 := (((((HB.out.alloc hs0 (.cells #[.slice (some ⟨gb, 0, none⟩) (l.length + 1) c, .bool bc] 62)).alloc (by simp; omega) (.cells x.cells.toArray 52)).alloc (by simp; omega) (.cells #[] 52)).grown hgrow7 (by simp; omega) (by intro i e; injection e with e; omega)).setCell (p := ⟨w1.heap.size, 0, none⟩) hs0 (.slice ad7 l.length cp7))
    have hx8 := ((((Blk.new (w1.alloc (.cells #[.slice (some ⟨gb, 0, none⟩) (l.length + 1) c, .bool bc] 62)) (w1.heap.size + 1) 52 x.cells.toArray (by simp)).alloc (.cells #[] 52)).by hgrow7 (by intro e; injection e with e; omega)).other (p := ⟨w1.heap.size, 0, none⟩) (by simp) (.slice ad7 l.length cp7))
    have hz8 := ((((HRR.out.alloc (.cells #[.slice (some ⟨gb, 0, none⟩) (l.length + 1) c, .bool bc] 62)).alloc (.cells x.cells.toArray 52)).alloc (.cells #[] 52)).by hgrow7 (by intro e; injection e with e; omega)).other (p := ⟨w1.heap.size, 0, none⟩) (by simp; omega) (.slice ad7 l.length cp7)
    have hq8 : Blk (w7.setCell ⟨w1.heap.size, 0, none⟩ (.slice ad7 l.length cp7)) w1.heap.size 62 #[.slice ad7 l.length cp7, .bool bc] := hbl7.set 0 _
    have hn8 : Note (w7.setCell ⟨w1.heap.size, 0, none⟩ (.slice ad7 l.length cp7)) (fun x => rb x ∨ x = w.heap.size) ad7 l.length cp7 l :=
      ⟨hsl7.by (only_set (only_refl w7 (some w1.heap.size)) 0 _) (fun x e => by have := hbk7 x e; simp; omega), fun x e e2 => by
        have := hbk7 x e
        rcases e2 with e2 | e2
        · have := hrb _ e2; omega
        · omega, fun x e => by have := hbk7 x e; simp [World.setCell]; omega⟩
    have hadb := hbk7
    clear hown7 hgrow7 hbl7 y0 y1 hs7 fz7 hsl7 hbk7
    generalize w7.setCell ⟨w1.heap.size, 0, none⟩ (.slice ad7 l.length cp7) = w8 at *
    have HB8 := Lib.hid hb8
    have HZ8 := Lib.hid hz8
    have HN8 := Lib.hid hn8
    have q0 := hq8.cell 0
    have q1 := hq8.cell 1
    have x0 := hx8.cell 0
    have x1 := hx8.cell 1
    have x2 := hx8.cell 2
    have x3 := hx8.cell 3
    simp [Letter.cells] at q0 q1 x0 x1 x2 x3
    have hq8l := hq8.lt
    have hx8l := hx8.lt
    have hput := fun W (hR : RefAt W (fun x => rb x ∨ x = w.heap.size) r cap bs) (hw : ∀ x, (rb x ∨ x = w.heap.size) → x < W.heap.size) (hN : Note W (fun x => rb x ∨ x = w.heap.size) ad7 l.length cp7 l) => put_any (fun x => rb x ∨ x = w.heap.size) r cap j bs ⟨l, bc⟩ ad7 cp7 W hR hw hj hN (by first | (show l.length ≤ 8; omega) | simp)
    simp only [List.length_nil] at hput
    have HPUT := Lib.hid hput
    have hbd := below_drewN (Below.refl w8.heap.size w8) 1
    have hheld : Held w.heap.size w8 w8.drew := ⟨only_drew (only_refl w8 _), _, hz8.drew, rfl⟩
    have hne1 : w1.heap.size ≠ w.heap.size := by omega
    have hne2 : w1.heap.size + 1 ≠ w.heap.size := by omega
    have HHELD := Lib.hid hheld
    have HR2 := Lib.hid (HR.out.more (Nat.le_refl _))
    have hzl8 := hz8.lt
    have HSTART := And.intro (show w8.drew.cell? ⟨w1.heap.size, 0, none⟩ = _ from q0) (And.intro (show w8.drew.cell? ⟨w1.heap.size, 1, none⟩ = _ from q1) (And.intro (show w8.drew.cell? ⟨w1.heap.size + 1, 0, none⟩ = _ from x0) (And.intro (show w8.drew.cell? ⟨w1.heap.size + 1, 1, none⟩ = _ from x1) (And.intro (show w8.drew.cell? ⟨w1.heap.size + 1, 2, none⟩ = _ from x2) (And.intro (show w8.drew.cell? ⟨w1.heap.size + 1, 3, none⟩ = _ from x3) HHELD)))))
    have q0' := q0
    have q1' := q1
    have x0' := x0
    have x1' := x1
    have x2' := x2
    have x3' := x3
    clear hb8 hz8 hn8 hq8 hx8 hput hheld c1 c2 b0 b1 b2 b3
    go_region_held3 (fun w' => w'.cell? ⟨w1.heap.size, 0, none⟩ = some (.slice ad7 l.length cp7) ∧ w'.cell? ⟨w1.heap.size, 1, none⟩ = some (.bool bc) ∧ w'.cell? ⟨w1.heap.size + 1, 0, none⟩ = some (.int .i64 x.to) ∧ w'.cell? ⟨w1.heap.size + 1, 1, none⟩ = some (.int .i64 x.frm) ∧ w'.cell? ⟨w1.heap.size + 1, 2, none⟩ = some (.int .i64 x.kind) ∧ w'.cell? ⟨w1.heap.size + 1, 3, none⟩ = some (.string x.text) ∧ Hid (Held w.heap.size w8 w'))
      (first | with_reducible exact HSTART | with_reducible exact HKEEP | with_reducible exact HSTORE | with_reducible assumption)
      (first | (go_at_call 27; have hh := ‹_ ∧ _ ∧ _ ∧ _ ∧ _ ∧ _ ∧ Hid (Held w.heap.size w8 _)›; have hW := hh.2.2.2.2.2.2.out; have hww := below_row HB8.out hW.1; refine (HPUT.out _ (HR2.out.below hww) (fun y e => by rcases e with e | e; exact Nat.lt_of_lt_of_le (hrb y e) hww.size; have := hW.1.size; omega) (HN8.out.by hW.1 (fun y e => .inr (by injection e with e; exact e.symm)))).mono ?_; rintro e w4 ⟨r', cap', rfl, hb4, hR4⟩; have HR4 := Lib.hid hR4; have hH4 := hW.call hb4; have HBE := Lib.hid (bt hww hb4); have HH4 := Lib.hid hH4; obtain ⟨zc0, zc1, zc2, zc3, z0, z1, z2, z3, fz, hz4l⟩ := hH4.cells; have k0 := hH4.1.cell q0' (by simpa using hne1); have k1 := hH4.1.cell q1' (by simpa using hne1); have k2 := hH4.1.cell x0' (by simpa using hne2); have k3 := hH4.1.cell x1' (by simpa using hne2); have k4 := hH4.1.cell x2' (by simpa using hne2); have k5 := hH4.1.cell x3' (by simpa using hne2); have HKEEP := And.intro k0 (And.intro k1 (And.intro k2 (And.intro k3 (And.intro k4 (And.intro k5 (Lib.hid hH4)))))); have HSTORE := And.intro (cell_store (j := 3) (v := .string x.text) (cell_store (j := 2) (v := .int .i64 x.kind) (cell_store (j := 1) (v := .int .i64 x.frm) (cell_store (j := 0) (v := .int .i64 x.to) k0 hne1) hne1) hne1) hne1) (And.intro (cell_store (j := 3) (v := .string x.text) (cell_store (j := 2) (v := .int .i64 x.kind) (cell_store (j := 1) (v := .int .i64 x.frm) (cell_store (j := 0) (v := .int .i64 x.to) k1 hne1) hne1) hne1) hne1) (And.intro (cell_store (j := 3) (v := .string x.text) (cell_store (j := 2) (v := .int .i64 x.kind) (cell_store (j := 1) (v := .int .i64 x.frm) (cell_store (j := 0) (v := .int .i64 x.to) k2 hne2) hne2) hne2) hne2) (And.intro (cell_store (j := 3) (v := .string x.text) (cell_store (j := 2) (v := .int .i64 x.kind) (cell_store (j := 1) (v := .int .i64 x.frm) (cell_store (j := 0) (v := .int .i64 x.to) k3 hne2) hne2) hne2) hne2) (And.intro (cell_store (j := 3) (v := .string x.text) (cell_store (j := 2) (v := .int .i64 x.kind) (cell_store (j := 1) (v := .int .i64 x.frm) (cell_store (j := 0) (v := .int .i64 x.to) k4 hne2) hne2) hne2) hne2) (And.intro (cell_store (j := 3) (v := .string x.text) (cell_store (j := 2) (v := .int .i64 x.kind) (cell_store (j := 1) (v := .int .i64 x.frm) (cell_store (j := 0) (v := .int .i64 x.to) k5 hne2) hne2) hne2) hne2) (Lib.hid ((((hH4.store 0 (.int .i64 x.to)).store 1 (.int .i64 x.frm)).store 2 (.int .i64 x.kind)).store 3 (.string x.text)))))))); clear hH4 hb4 hR4 hh k0 k1 k2 k3 k4 k5))
    obtain ⟨zc, hz4, hzs⟩ := HH4.out.2
    obtain ⟨w5, h5⟩ : ∃ w5, w5 = (((w4.setCell ⟨w.heap.size, 0, none⟩ (.int .i64 x.to)).setCell ⟨w.heap.size, 1, none⟩ (.int .i64 x.frm)).setCell ⟨w.heap.size, 2, none⟩ (.int .i64 x.kind)).setCell ⟨w.heap.size, 3, none⟩ (.string x.text) := ⟨_, rfl⟩
    obtain ⟨g0, g1, g2, g3⟩ := letter_out hz4 hzs h5
    have hg5 : w4.grownBy w5 (some w.heap.size) := by rw [h5]; exact only_set (only_set (only_set (only_set (only_refl _ _) _ _) _ _) _ _) _ _
    have hR5 := (HR4.out.by hg5 (fun y e => .inr (by injection e with e; exact e.symm))).less
    have hb5 := below_row HBE.out hg5
    go_wp2
    rw [← h5]
    refine bodyPost_ret (v := .tuple #[.slice (some ⟨r', 0, none⟩) bs.length cap', x.val, .int .i64 0]) (by simp [results, Try.results17, go_sem, g0, g1, g2, g3, Letter.val]) rfl ?_
    exact ⟨r', cap', rfl, hb5, hR5⟩
end Go.Proofs.Ytilnbgkepijfbaa
