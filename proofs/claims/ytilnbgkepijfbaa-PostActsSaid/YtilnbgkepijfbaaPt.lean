/- The walk of the reference's Send. -/
import Derived.Test.YtilnbgkepijfbaaPs
import Derived.Deep.AppendLies
import Derived.Deep.RegionLaw
namespace Go.Proofs.Ytilnbgkepijfbaa
open Go.RowKit
set_option linter.unusedVariables false
set_option linter.unusedSimpArgs false

theorem own_empty {W : World} {base H : Nat} (hH : Blk W H 52 #[]) (hb : base ≤ H) : W.ownsRow base 52 4 (.slice (some ⟨H, 0, none⟩) 0 0) 0 [] :=
  ⟨rfl, .inr ⟨H, 0, #[], rfl, hb, hH, Nat.le_refl _, Nat.zero_le _, rfl, rfl⟩⟩

/-- At a step of a region: the letters of a slice are copied onto an empty row of one's own. -/
theorem step_copy {ops : Array Oper} {o : Oper} {a : Act} {K : Act → World → Prop} {Q : Exit → Act → World → Prop} {E : Prop} {W : World} (hgd : o.guard = none) (s x : Operand)
    (ho : o.op = .call { callee := .builtin .append, args := #[s, x], argTypes := #[55, 55] }) (base H : Nat) (hs : a.eval s = .slice (some ⟨H, 0, none⟩) 0 0) (hH : Blk W H 52 #[]) (hb : base ≤ H)
    (ad : Addr) (c : Nat) (l : List Letter) (hl8 : l.length ≤ 8) (hx : a.eval x = .slice (some ad) l.length c) (hnews : ∀ (j : Nat) (u : Value), (cellsOf l)[j]? = some u → W.cell? (ad.add j) = some u)
    (h : ∀ ad' c' w', w'.ownsRow base 52 4 (.slice ad' l.length c') l.length (cellsOf l) → W.grownBy w' (some H) → K (a.put o.dst (.slice ad' l.length c')) w') :
    if Region.wanted o (yielded ops a.tmps) = true then Oper.wp Try.prog o a W K Q else E := by
  have hw : Region.wanted o (yielded ops a.tmps) = true := by simp [Region.wanted, hgd]
  rw [if_pos hw]
  obtain ⟨i0, z0, hi0, hz0, hz1, hz2, hz3⟩ := info52
  refine wp_append_own W s x 55 ho base 52 i0 z0 4 40 Try.underlying55 hi0 hz0 hz1 hz2 hz3 (by omega) _ 0 [] hs (own_empty hH hb) ad l.length c (cellsOf l) hx (cellsOf_len l) hnews (by
    intro u hu
    simp only [cellsOf, List.mem_flatMap] at hu
    obtain ⟨q, _, hq⟩ := hu
    exact ones_letter q u hq) (by unfold maxLen; omega) (by omega) (by have := hH.lt; omega) ?_
  intro v' w' hown hgrow _
  have hown' : w'.ownsRow base 52 4 v' l.length (cellsOf l) := by simpa using hown
  obtain ⟨ad', c', rfl, _⟩ := slips_of52 hown'
  have := h ad' c' w' hown' hgrow
  exact this

theorem Note.cellsAt {w : World} {rb : Nat → Prop} {a : Addr} {n cap : Nat} {l : List Letter} (h : Note w rb (some a) n cap l) (j : Nat) (u : Value) (hu : (cellsOf l)[j]? = some u) : w.cell? (a.add j) = some u ∧ (a.add j).block < w.heap.size := by
  have hj := (List.getElem?_eq_some_iff.1 hu).1
  rw [cellsOf_len] at hj
  obtain ⟨x, hx⟩ : ∃ x, l[0]? = some x := ⟨_, List.getElem?_eq_getElem (by omega)⟩
  obtain ⟨gb, hg, hlt, _⟩ := h.s.at' 0 x hx
  injection hg with hg
  subst hg
  rw [Addr.add_mid, Nat.zero_add]
  exact ⟨h.s.news j u hu, hlt⟩


/-- The first append of the statement: a slice's letters, copied onto an empty row of one's own; all worlds are told from w2 on. -/
theorem step_copyB {ops : Array Oper} {o : Oper} {a : Act} {K : Act → World → Prop} {Q : Exit → Act → World → Prop} {E : Prop} {W : World} (hgd : o.guard = none) (s x : Operand)
    (ho : o.op = .call { callee := .builtin .append, args := #[s, x], argTypes := #[55, 55] }) (w2 : World) (H : Nat) (hs : a.eval s = .slice (some ⟨H, 0, none⟩) 0 0)
    (ad : Addr) (c : Nat) (l : List Letter) (hl8 : l.length ≤ 8) (hx : a.eval x = .slice (some ad) l.length c) (hnews : ∀ (j : Nat) (u : Value), (cellsOf l)[j]? = some u → w2.cell? (ad.add j) = some u ∧ (ad.add j).block < w2.heap.size)
    (hB : Below w2.heap.size w2 W) (hH : Blk W H 52 #[]) (hb : w2.heap.size ≤ H)
    (h : ∀ ad' c' w', w'.ownsRow w2.heap.size 52 4 (.slice ad' l.length c') l.length (cellsOf l) → Below w2.heap.size w2 w' → (∀ g t cs, Blk W g t cs → g ≠ H → Blk w' g t cs) → K (a.put o.dst (.slice ad' l.length c')) w') :
    if Region.wanted o (yielded ops a.tmps) = true then Oper.wp Try.prog o a W K Q else E :=
  step_copy hgd s x ho w2.heap.size H hs hH hb ad c l hl8 hx (fun j u hu => (hB.cell (p := ad.add j) (hnews j u hu).2).trans (hnews j u hu).1)
    (fun ad' c' w' h1 h2 => h ad' c' w' h1 (hB.grown h2 hB.size (fun k e => by injection e with e; omega)) (fun g t cs hg hne => hg.by h2 (by intro e; injection e with e; exact hne e)))

/-- The second one: one letter more behind them. -/
theorem step_moreB {ops : Array Oper} {o : Oper} {a : Act} {K : Act → World → Prop} {Q : Exit → Act → World → Prop} {E : Prop} {W : World} (hgd : o.guard = none) (s x : Operand)
    (ho : o.op = .call { callee := .builtin .append, args := #[s, x], argTypes := #[55, 55] }) (w2 : World) (ad : Option Addr) (n c : Nat) (l : List Letter) (y : Letter) (hl8 : n ≤ 8) (hs : a.eval s = .slice ad n c)
    (gb m : Nat) (hx : a.eval x = .slice (some ⟨gb, 0, none⟩) 1 m)
    (hB : Below w2.heap.size w2 W) (hown : W.ownsRow w2.heap.size 52 4 (.slice ad n c) n (cellsOf l)) (hX : Blk W gb 52 y.cells.toArray)
    (h : ∀ g' c' w', w'.ownsRow w2.heap.size 52 4 (.slice (some ⟨g', 0, none⟩) (n + 1) c') (n + 1) (cellsOf l ++ y.cells) → Below w2.heap.size w2 w' → K (a.put o.dst (.slice (some ⟨g', 0, none⟩) (n + 1) c')) w') :
    if Region.wanted o (yielded ops a.tmps) = true then Oper.wp Try.prog o a W K Q else E := by
  obtain ⟨i0, z0, hi0, hz0, hz1, hz2, hz3⟩ := info52
  refine step_append_lies W hgd s x 55 ho w2.heap.size 52 i0 z0 4 40 Try.underlying55 hi0 hz0 hz1 hz2 hz3 (by omega) _ n (cellsOf l) hs hown ⟨gb, 0, none⟩ 1 m y.cells hx (by simp [Letter.cells]) (World.news_of_block hX) (ones_letter y) (by omega) (by unfold maxLen; omega) (by omega) hB.size _ rfl ?_
  intro g' c' w' h1 h2 _ _
  exact h g' c' w' h1 (hB.grown h2 hB.size (fun k e => (hown.lt k e).1))

theorem more_note {w8 w9 : World} {B n q gg c' : Nat} {rb : Nat → Prop} {l : List Letter} {y : Letter} (hown : w8.ownsRow B 52 4 (.slice (some ⟨gg, 0, none⟩) (n + 1) c') (n + 1) (cellsOf l ++ y.cells)) (hn : n = l.length)
    (k : w8.grownBy w9 (some q)) (hq : q < B) (hrb : ∀ x, rb x → x < B) : Note w9 rb (some ⟨gg, 0, none⟩) (l ++ [y]).length c' (l ++ [y]) := by
  have h1 : w8.ownsRow B 52 4 (.slice (some ⟨gg, 0, none⟩) (l ++ [y]).length c') (l ++ [y]).length (cellsOf (l ++ [y])) := by
    have e : (l ++ [y]).length = n + 1 := by simp [hn]
    have e2 : cellsOf (l ++ [y]) = cellsOf l ++ y.cells := by simp [cellsOf]
    rw [e, e2]; exact hown
  obtain ⟨ad', c2, hv, hs, hb⟩ := slips_of52 h1
  injection hv with e1 e2 e3
  subst e1 e3
  have hbb := hb _ rfl
  refine ⟨hs.by k (fun x e => by injection e with e; subst e; simp at hbb ⊢; omega), fun x e => ?_, fun x e => ?_⟩
  · injection e with e; subst e
    intro hx; have := hrb _ hx; simp at hbb this; omega
  · injection e with e; subst e
    have := k.size; simp at hbb ⊢; omega

/-- The end of Send: the box is put into a copy of the row. -/
theorem rsend_put (rb : Nat → Prop) (r cap j : Nat) (bs : List Bx) (bl : List Letter) (y : Letter) (w w2 w8 : World) (q gg c' : Nat) (h : RefAt w rb r cap bs) (hrb : ∀ x, rb x → x < w.heap.size) (hj : j < bs.length) (h7 : bl.length < 8)
    (hb2 : Below w.heap.size w w2) (hb8 : Below w2.heap.size w2 w8) (hq : w.heap.size ≤ q) (hq2 : q < w2.heap.size)
    (hown : w8.ownsRow w2.heap.size 52 4 (.slice (some ⟨gg, 0, none⟩) (bl.length + 1) c') (bl.length + 1) (cellsOf bl ++ y.cells)) :
    Calls Try.prog 27 #[.slice (some ⟨r, 0, none⟩) bs.length cap, .int .i64 (j : Int), .agg #[.slice (some ⟨gg, 0, none⟩) (bl.length + 1) c', .bool false]] (w8.setCell ⟨q, 0, none⟩ (.slice (some ⟨gg, 0, none⟩) (bl.length + 1) c'))
      fun e w' => ∃ r' cap', e = .returned (.slice (some ⟨r', 0, none⟩) bs.length cap') ∧ Below w.heap.size w w' ∧ RefAt w' rb r' cap' (bs.set j ⟨bl ++ [y], false⟩) := by
  have hb9 : Below w.heap.size w (w8.setCell ⟨q, 0, none⟩ (.slice (some ⟨gg, 0, none⟩) (bl.length + 1) c')) := (hb2.trans (hb8.mono hb2.size)).setCell (p := ⟨q, 0, none⟩) hq _
  have hg : w8.grownBy (w8.setCell ⟨q, 0, none⟩ (.slice (some ⟨gg, 0, none⟩) (bl.length + 1) c')) (some q) := only_set (only_refl _ _) _ _
  have hn := more_note (rb := rb) hown rfl hg hq2 (fun x hx => Nat.lt_of_lt_of_le (hrb x hx) hb2.size)
  have hp := put_any rb r cap j bs ⟨bl ++ [y], false⟩ (some ⟨gg, 0, none⟩) c' _ (h.below hb9) (fun x hx => Nat.lt_of_lt_of_le (hrb x hx) hb9.size) hj hn (by simp; omega)
  simp only [List.length_append, List.length_cons, List.length_nil, Nat.zero_add] at hp
  refine hp.mono ?_
  rintro e w' ⟨r', cap', rfl, hb, hr⟩
  exact ⟨r', cap', by rw [List.length_set], hb9.trans (hb.mono hb9.size), hr⟩

set_option maxHeartbeats 2000000 in
theorem rsend_some (rb : Nat → Prop) (r cap : Nat) (bs : List Bx) (j : Nat) (xf xk : Int) (xs : ByteArray) (bl : List Letter) (w : World) (h : RefAt w rb r cap bs) (hrb : ∀ x, rb x → x < w.heap.size) (hj : j < bs.length) (hbj : bs[j]? = some ⟨bl, false⟩) (h7 : bl.length < 8) :
    Calls Try.prog 16 #[.slice (some ⟨r, 0, none⟩) bs.length cap, (⟨(j : Int), xf, xk, xs⟩ : Letter).val] w (RSent rb bs.length 0 (bs.set j ⟨bl ++ [⟨(j : Int), xf, xk, xs⟩], false⟩) w) := by
  have hb0 : Below w.heap.size w (w.alloc (.cells #[.int .i64 (j : Int), .int .i64 xf, .int .i64 xk, .string xs] 52)) := (Below.refl _ _).alloc (Nat.le_refl _) _
  have ha := in_yes (some ⟨r, 0, none⟩) bs.length cap j (w.alloc (.cells #[.int .i64 (j : Int), .int .i64 xf, .int .i64 xk, .string xs] 52)) h.few hj
  obtain ⟨ad, c, h0, h1, h2⟩ := h.at' j _ hbj
  have hl := h.lt
  have h00 : (0 : Int) ≤ (j : Int) := by omega
  have h11 : (j : Int) < (bs.length : Int) := by omega
  have HR := Lib.hid h
  have HN := Lib.hid h2
  simp only at h0 h1
  clear h h2 hbj
  unfold Letter.val
  go_enter Try.func16, Try.ntmps16
  go_wp2_with fail
  refine ha.mono ?_
  rintro e w1 ⟨rfl, hb⟩
  have HB := Lib.hid (bt hb0 hb)
  have hx := (Blk.new w _ 52 #[.int .i64 (j : Int), .int .i64 xf, .int .i64 xk, .string xs] rfl).by (only_below hb none) (by simp)
  have HX := Lib.hid hx
  have x0 : w1.cell? ⟨w.heap.size, 0, none⟩ = some (.int .i64 (j : Int)) := hx.cell 0
  have hxl := hx.lt
  have c1 := (HB.out.cell (p := ⟨r, j * 2, none⟩) hl).trans h0
  have c2 := (HB.out.cell (p := ⟨r, j * 2 + 1, none⟩) hl).trans h1
  have hl1 := World.block_lt_of_cell? w1 _ c1
  clear ha hb hb0 h0 h1 hx
  have n1 : ¬ (bl.length : Int) ≥ 8 := by omega
  go_wp2_with fail
  have hq := Blk.new w1 _ 62 #[.slice ad bl.length c, .bool false] rfl
  have hx2 := HX.out.alloc (.cells #[.slice ad bl.length c, .bool false] 62)
  have hbw2 := HB.out.alloc HB.out.size (.cells #[.slice ad bl.length c, .bool false] 62)
  generalize w1.alloc (.cells #[.slice ad bl.length c, .bool false] 62) = w2 at *
  have HBW := Lib.hid hbw2
  clear hbw2
  cases ad with
  | none =>
    have q0 := hq.cell 0
    have q1 := hq.cell 1
    have x1 : w2.cell? ⟨w.heap.size, 0, none⟩ = some (.int .i64 (j : Int)) := hx2.cell 0
    have x2 : w2.cell? ⟨w.heap.size, 1, none⟩ = some (.int .i64 xf) := hx2.cell 1
    have x3 : w2.cell? ⟨w.heap.size, 2, none⟩ = some (.int .i64 xk) := hx2.cell 2
    have x4 : w2.cell? ⟨w.heap.size, 3, none⟩ = some (.string xs) := hx2.cell 3
    simp at q0 q1
    have fzq := fun i => hq.free i
    have hql := hq.lt
    have hxl2 := hx2.lt
    have hnil : bl = [] := by
      cases bl with
      | nil => rfl
      | cons x l => obtain ⟨gb, hg, _⟩ := HN.out.s.at' 0 x rfl; cases hg
    subst hnil
    simp only [List.length_nil] at *
    have HQ := Lib.hid hq
    have HX2 := Lib.hid hx2
    clear hq hx2 c1 c2 x0
    go_region_law (first
      | (refine step_moreB (by rfl) _ _ (by rfl) w2 _ 0 _ [] ⟨(j : Int), xf, xk, xs⟩ (by omega) (by rfl) _ _ (by rfl) ?_ ?_ ?_ ?_; (first | exact ((Below.refl _ _).alloc (Nat.le_refl _) _).drew | exact (((Below.refl _ _).alloc (Nat.le_refl _) _).alloc (by simp) _).drew); (refine own_empty ?_ ?_; (first | (refine Blk.drew (Blk.new _ _ _ _ ?_); (first | rfl | (focus (simp; done)))) | (refine Blk.drew (Blk.alloc (Blk.new _ _ _ _ ?_) _); (first | rfl | (focus (simp; done))))); (first | exact Nat.le_refl _ | (focus (simp; done)) | (focus (simp; omega)))); (first | (refine Blk.drew (Blk.new _ _ _ _ ?_); (first | rfl | (focus (simp; done)))) | (refine Blk.drew (Blk.alloc (Blk.new _ _ _ _ ?_) _); (first | rfl | (focus (simp; done))))); intro gg cap' w8 hown8 hb8; have HB8 := Lib.hid hb8; have v1 := (hb8.cell (p := ⟨w.heap.size, 0, none⟩) hxl2).trans x1; have v2 := (hb8.cell (p := ⟨w1.heap.size, 0, none⟩) hql).trans q0; have v3 := (hb8.cell (p := ⟨w1.heap.size, 1, none⟩) hql).trans q1; have fz8 : ∀ i, w8.frozen? ⟨w1.heap.size, i, none⟩ = false := (fun i => (hb8.frozen (p := ⟨w1.heap.size, i, none⟩) hql).trans (fzq i)); have vl := Nat.lt_of_lt_of_le hxl2 hb8.size; have vl2 := Nat.lt_of_lt_of_le hql hb8.size; clear hb8))
    all_goals
      have hput := rsend_put rb r cap j bs [] ⟨(j : Int), xf, xk, xs⟩ w w2 w8 w1.heap.size gg cap' HR.out hrb hj h7 HBW.out HB8.out HB.out.size hql hown8
      have HPUT := Lib.hid hput
      clear hput hown8
      go_wp2_with fail
      refine HPUT.out.mono ?_
      rintro e w9 ⟨r', cap'', rfl, hb9, hr9⟩
      have HB9 := Lib.hid hb9
      have HR9 := Lib.hid hr9
      clear hb9 hr9
      go_wp2
      go_ret2
      exact ⟨r', cap'', rfl, HB9.out, HR9.out⟩
  | some a =>
    have q0 := hq.cell 0
    have q1 := hq.cell 1
    have x1 : w2.cell? ⟨w.heap.size, 0, none⟩ = some (.int .i64 (j : Int)) := hx2.cell 0
    have x2 : w2.cell? ⟨w.heap.size, 1, none⟩ = some (.int .i64 xf) := hx2.cell 1
    have x3 : w2.cell? ⟨w.heap.size, 2, none⟩ = some (.int .i64 xk) := hx2.cell 2
    have x4 : w2.cell? ⟨w.heap.size, 3, none⟩ = some (.string xs) := hx2.cell 3
    simp at q0 q1
    have fzq := fun i => hq.free i
    have hql := hq.lt
    have hxl2 := hx2.lt
    have HNEWS : Hid (∀ (j : Nat) (u : Value), (cellsOf bl)[j]? = some u → w2.cell? (a.add j) = some u ∧ (a.add j).block < w2.heap.size) := Lib.hid (fun j u hu => by
      obtain ⟨h1, h2⟩ := HN.out.cellsAt j u hu
      exact ⟨(HBW.out.cell (p := a.add j) h2).trans h1, Nat.lt_of_lt_of_le h2 HBW.out.size⟩)
    have HQ := Lib.hid hq
    have HX2 := Lib.hid hx2
    clear hq hx2 c1 c2 x0
    go_region_law (first
      | (refine step_copyB (by rfl) _ _ (by rfl) w2 _ (by rfl) a c bl (by omega) (by rfl) HNEWS.out ?_ ?_ ?_ ?_; (first | exact ((Below.refl _ _).alloc (Nat.le_refl _) _).drew | exact (((Below.refl _ _).alloc (Nat.le_refl _) _).alloc (by simp) _).drew); (first | (refine Blk.drew (Blk.new _ _ _ _ ?_); (first | rfl | (focus (simp; done)))) | (refine Blk.drew (Blk.alloc (Blk.new _ _ _ _ ?_) _); (first | rfl | (focus (simp; done))))); (first | exact Nat.le_refl _ | (focus (simp; done)) | (simp; omega)); intro ad7 cp7 w7 hown7 hb7 hk7; have HB7 := Lib.hid hb7; have HK7 := Lib.hid hk7; have y1 := (hb7.cell (p := ⟨w.heap.size, 0, none⟩) hxl2).trans x1; have y2 := (hb7.cell (p := ⟨w.heap.size, 1, none⟩) hxl2).trans x2; have y3 := (hb7.cell (p := ⟨w.heap.size, 2, none⟩) hxl2).trans x3; have y4 := (hb7.cell (p := ⟨w.heap.size, 3, none⟩) hxl2).trans x4; have yl := Nat.lt_of_lt_of_le hxl2 hb7.size; clear hb7 hk7)
      | (refine step_moreB (by rfl) _ _ (by rfl) w2 ad7 bl.length cp7 bl ⟨(j : Int), xf, xk, xs⟩ (by omega) (by rfl) _ _ (by rfl) ?_ ?_ ?_ ?_; (first | exact HB7.out | exact HB7.out.alloc HB7.out.size _); (first | exact hown7 | exact hown7.alloc _); (first | (refine Blk.new _ _ _ _ ?_; (first | rfl | (focus (simp; done)))) | (refine HK7.out _ _ _ ?_ ?_; (first | (refine Blk.drew (Blk.new _ _ _ _ ?_); (first | rfl | (focus (simp; done)))) | (refine Blk.drew (Blk.alloc (Blk.new _ _ _ _ ?_) _); (first | rfl | (focus (simp; done))))); (first | (focus (simp; done)) | (simp; omega)))); intro gg cap' w8 hown8 hb8; have HB8 := Lib.hid hb8; have v1 := (hb8.cell (p := ⟨w.heap.size, 0, none⟩) hxl2).trans x1; have v2 := (hb8.cell (p := ⟨w1.heap.size, 0, none⟩) hql).trans q0; have v3 := (hb8.cell (p := ⟨w1.heap.size, 1, none⟩) hql).trans q1; have fz8 : ∀ i, w8.frozen? ⟨w1.heap.size, i, none⟩ = false := (fun i => (hb8.frozen (p := ⟨w1.heap.size, i, none⟩) hql).trans (fzq i)); have vl := Nat.lt_of_lt_of_le hxl2 hb8.size; have vl2 := Nat.lt_of_lt_of_le hql hb8.size; clear hb8))
    all_goals
      have hput := rsend_put rb r cap j bs bl ⟨(j : Int), xf, xk, xs⟩ w w2 w8 w1.heap.size gg cap' HR.out hrb hj h7 HBW.out HB8.out HB.out.size hql hown8
      have HPUT := Lib.hid hput
      clear hput hown8
      go_wp2_with fail
      refine HPUT.out.mono ?_
      rintro e w9 ⟨r', cap'', rfl, hb9, hr9⟩
      have HB9 := Lib.hid hb9
      have HR9 := Lib.hid hr9
      clear hb9 hr9
      go_wp2
      go_ret2
      exact ⟨r', cap'', rfl, HB9.out, HR9.out⟩
end Go.Proofs.Ytilnbgkepijfbaa
