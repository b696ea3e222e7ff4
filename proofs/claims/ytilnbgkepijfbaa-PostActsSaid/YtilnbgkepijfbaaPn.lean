/- The walk of the reference's put; no condition. -/
import Derived.Test.YtilnbgkepijfbaaPm
namespace Go.Proofs.Ytilnbgkepijfbaa
open Go.RowKit
set_option linter.unusedVariables false
set_option linter.unusedSimpArgs false

theorem info62 : ∃ i z, Try.prog.info? 62 = some i ∧ i.zero = some z ∧ i.size = 2 ∧ i.bytes = 32 ∧ z.cells.size = 2 := by
  have h : (Try.prog.info? 62).map (fun i => (i.zero, i.size, i.bytes)) = some (some (.agg #[.slice none 0 0, .bool false]), 2, 32) := by kernel_rfl
  obtain ⟨i, hi, hzz⟩ := Option.map_eq_some_iff.1 h
  simp only [Prod.mk.injEq] at hzz
  exact ⟨i, _, hi, hzz.1, hzz.2.1, hzz.2.2, rfl⟩

/-- The n cells from cell 0 of block r on. -/
def rowOf' (w : World) (r n : Nat) : List Value := (List.range n).map (fun j => (w.cell? ⟨r, j, none⟩).getD undef)
theorem rowOf'_len (w : World) (r n : Nat) : (rowOf' w r n).length = n := by simp [rowOf']
theorem RefAt.each {w : World} {rb : Nat → Prop} {r cap : Nat} {bs : List Bx} (h : RefAt w rb r cap bs) (j : Nat) (hj : j < bs.length * 2) : ∃ u, w.cell? ⟨r, j, none⟩ = some u ∧ u.oneCell' = true := by
  obtain ⟨b, hb⟩ : ∃ b, bs[j / 2]? = some b := ⟨_, List.getElem?_eq_getElem (by omega)⟩
  obtain ⟨ad, c, h0, h1, _⟩ := h.at' _ b hb
  by_cases e : j % 2 = 0
  · rw [show j = j / 2 * 2 from by omega]; exact ⟨_, h0, rfl⟩
  · rw [show j = j / 2 * 2 + 1 from by omega]; exact ⟨_, h1, rfl⟩
theorem RefAt.row {w : World} {rb : Nat → Prop} {r cap : Nat} {bs : List Bx} (h : RefAt w rb r cap bs) (j : Nat) (u : Value) (hu : (rowOf' w r (bs.length * 2))[j]? = some u) : w.cell? ⟨r, j, none⟩ = some u := by
  have hj : j < bs.length * 2 := by have := (List.getElem?_eq_some_iff.1 hu).1; rwa [rowOf'_len] at this
  obtain ⟨v, hv, _⟩ := h.each j hj
  have : (rowOf' w r (bs.length * 2))[j]? = some v := by simp [rowOf', hj, hv]
  rw [this] at hu
  injection hu with hu
  rw [← hu]; exact hv
theorem RefAt.row' {w : World} {rb : Nat → Prop} {r cap : Nat} {bs : List Bx} (h : RefAt w rb r cap bs) (j : Nat) (hj : j < bs.length * 2) : (rowOf' w r (bs.length * 2))[j]? = w.cell? ⟨r, j, none⟩ := by
  obtain ⟨v, hv, _⟩ := h.each j hj
  simp [rowOf', hj, hv]
theorem RefAt.ones {w : World} {rb : Nat → Prop} {r cap : Nat} {bs : List Bx} (h : RefAt w rb r cap bs) : ∀ u ∈ rowOf' w r (bs.length * 2), u.oneCell' = true := by
  intro u hu
  obtain ⟨j, hj⟩ := List.getElem?_of_mem hu
  have hj2 : j < bs.length * 2 := by have := (List.getElem?_eq_some_iff.1 hj).1; rwa [rowOf'_len] at this
  obtain ⟨v, hv, h1⟩ := h.each j hj2
  rw [h.row j u hj] at hv
  injection hv with hv
  subst hv
  exact h1

/-- A row of one's own, as a block. -/
theorem own_blk {w : World} {base : Nat} {e : TypeId} {size g n cap : Nat} {xs : List Value} (h : w.ownsRow base e size (.slice (some ⟨g, 0, none⟩) n cap) n xs) :
    ∃ cur, Blk w g e cur ∧ base ≤ g ∧ n ≤ cap ∧ cap ≤ maxLen ∧ ∀ (j : Nat) (u : Value), xs[j]? = some u → cur[j]? = some u := by
  rcases h.2 with ⟨h1, _⟩ | ⟨g', cap', cur, h1, hb, hgg, h2, h3, h4, h5⟩
  · cases h1
  · injection h1 with h1 h6 h7
    injection h1 with h1
    injection h1 with h1
    subst h1 h7
    refine ⟨cur, hgg, hb, h2, h3, fun j u hu => ?_⟩
    rw [← h5, List.getElem?_take] at hu
    split at hu
    · simpa using hu
    · cases hu

/-- What put answers: a new row of boxes, of which box k is b. -/
def Put (rb : Nat → Prop) (bs : List Bx) (w : World) (e : Ending) (w' : World) : Prop :=
  ∃ r' cap', e = .returned (.slice (some ⟨r', 0, none⟩) bs.length cap') ∧ Below w.heap.size w w' ∧ RefAt w' rb r' cap' bs

/-- A row of boxes copied, and one of them written. -/
theorem RefAt.copy {w w1 w2 : World} {rb : Nat → Prop} {r cap r' cap' k : Nat} {bs : List Bx} (h : RefAt w rb r cap bs) (hb : Below w.heap.size w w1) (hrb : ∀ x, rb x → x < w.heap.size) (hk : k < bs.length) {b : Bx} {ad : Option Addr} {c : Nat}
    (hn : Note w rb ad b.l.length c b.l) (h8 : b.l.length ≤ 8) {cur : Array Value} (hg : Blk w1 r' 62 cur) (hr : w.heap.size ≤ r') (hc : bs.length ≤ cap') (hm : cap' ≤ maxLen)
    (hcur : ∀ j, j < bs.length * 2 → cur[j]? = w.cell? ⟨r, j, none⟩) (hw2 : w2 = (w1.setCell ⟨r', k * 2, none⟩ (.slice ad b.l.length c)).setCell ⟨r', k * 2 + 1, none⟩ (.bool b.c)) :
    Below w.heap.size w w2 ∧ RefAt w2 rb r' cap' (bs.set k b) := by
  have hb2 : Below w.heap.size w w2 := by rw [hw2]; exact (hb.setCell (p := ⟨r', k * 2, none⟩) hr _).setCell (p := ⟨r', k * 2 + 1, none⟩) hr _
  have hg2 : Blk w2 r' 62 ((cur.setIfInBounds (k * 2) (.slice ad b.l.length c)).setIfInBounds (k * 2 + 1) (.bool b.c)) := by rw [hw2]; exact (hg.set _ _).set _ _
  refine ⟨hb2, ⟨by rw [List.length_set]; exact hc, hm, fun e => by have := hrb _ e; omega, hg2.lt, by rw [List.length_set]; exact h.few, ?_, ?_⟩⟩
  · intro j x hj
    by_cases e : k = j
    · subst e
      rw [List.getElem?_set_self hk] at hj
      injection hj with hj
      subst hj
      exact h8
    · rw [List.getElem?_set_ne e] at hj
      exact h.len j x hj
  · intro j x hj
    by_cases e : k = j
    · subst e
      rw [List.getElem?_set_self hk] at hj
      injection hj with hj
      subst hj
      obtain ⟨u0, hu0, _⟩ := h.each (k * 2) (by omega)
      obtain ⟨u1, hu1, _⟩ := h.each (k * 2 + 1) (by omega)
      refine ⟨ad, c, ?_, ?_, hn.below hb2⟩
      · rw [hg2.cell, getElem?_set _ _ _ _ (by omega)]
        exact getElem?_set_same _ _ _ _ ((hcur _ (by omega)).trans hu0)
      · rw [hg2.cell]
        exact getElem?_set_same _ _ _ u1 (by rw [getElem?_set _ _ _ _ (by omega)]; exact (hcur _ (by omega)).trans hu1)
    · rw [List.getElem?_set_ne e] at hj
      have hjl := (List.getElem?_eq_some_iff.1 hj).1
      obtain ⟨ad', c', h0, h1, h2⟩ := h.at' j x hj
      refine ⟨ad', c', ?_, ?_, h2.below hb2⟩
      · rw [hg2.cell, getElem?_set _ _ _ _ (by omega), getElem?_set _ _ _ _ (by omega), hcur _ (by omega)]; exact h0
      · rw [hg2.cell, getElem?_set _ _ _ _ (by omega), getElem?_set _ _ _ _ (by omega), hcur _ (by omega)]; exact h1

set_option maxRecDepth 100000 in
set_option maxHeartbeats 4000000 in
theorem put_any (rb : Nat → Prop) (r cap k : Nat) (bs : List Bx) (b : Bx) (ad : Option Addr) (c : Nat) (w : World) (h : RefAt w rb r cap bs) (hrb : ∀ x, rb x → x < w.heap.size) (hk : k < bs.length) (hn : Note w rb ad b.l.length c b.l) (h8 : b.l.length ≤ 8) :
    Calls Try.prog 27 #[.slice (some ⟨r, 0, none⟩) bs.length cap, .int .i64 (k : Int), .agg #[.slice ad b.l.length c, .bool b.c]] w (Put rb (bs.set k b) w) := by
  have HR := Lib.hid h
  have HN := Lib.hid hn
  have hf := h.few
  have hrm := h.room
  have hk0 : (0 : Int) ≤ (k : Int) := by omega
  have hk1 : (k : Int) < (bs.length : Int) := by omega
  clear h hn
  obtain ⟨i0, z0, hi0, hz0, hz1, hz2, hz3⟩ := info62
  go_enter Try.func27, Try.ntmps27
  have hb0 : Below w.heap.size w ((w.alloc (.cells #[.slice ad b.l.length c, .bool b.c] 62)).alloc (.cells #[] 62)) := ((Below.refl _ _).alloc (Nat.le_refl _) _).alloc (by simp) _
  have HR1 := Lib.hid (HR.out.below hb0)
  have hmade : ((w.alloc (.cells #[.slice ad b.l.length c, .bool b.c] 62)).alloc (.cells #[] 62)).ownsRow (w.heap.size + 1) 62 2 (.slice (some ⟨w.heap.size + 1, 0, none⟩) 0 0) 0 [] := by
    have := World.ownsRow_made (base := w.heap.size + 1) (e := 62) (size := 2) (w.alloc (.cells #[.slice ad b.l.length c, .bool b.c] 62)) #[] 0 (by simp) (by unfold maxLen; omega) (by simp)
    simpa using this
  have hx5 : Blk ((w.alloc (.cells #[.slice ad b.l.length c, .bool b.c] 62)).alloc (.cells #[] 62)) w.heap.size 62 #[.slice ad b.l.length c, .bool b.c] := (Blk.new w _ 62 _ rfl).alloc _
  go_wp2_with (at_builtin; refine wpList_append_lies _ (by rfl) _ _ _ (by rfl) (w.heap.size + 1) 62 i0 z0 2 32 Try.underlying45 hi0 hz0 hz1 hz2 hz3 (by omega) (.slice (some ⟨w.heap.size + 1, 0, none⟩) 0 0) 0 [] (by rfl) hmade ⟨r, 0, none⟩ bs.length cap (rowOf' ((w.alloc (.cells #[.slice ad b.l.length c, .bool b.c] 62)).alloc (.cells #[] 62)) r (bs.length * 2)) (by rfl) (rowOf'_len _ _ _) (by intro j u hu; rw [Addr.add_mid, Nat.zero_add]; exact HR1.out.row j u hu) HR1.out.ones (by omega) (by unfold maxLen; omega) (by omega) (by simp) (w.heap.size + 2) (by simp) ?_; intro gg cap' w6 hown6 hgrow6 hat6 hlt6; obtain ⟨cur, hg6, hge6, hc6, hm6, hcur6⟩ := own_blk (n := bs.length) (xs := rowOf' ((w.alloc (.cells #[.slice ad b.l.length c, .bool b.c] 62)).alloc (.cells #[] 62)) r (bs.length * 2)) (by simpa using hown6); have hx6 := hx5.by hgrow6 (by simp [Value.ownBlock]); have x0 := hx6.cell 0; have x1 := hx6.cell 1; simp at x0 x1; have hxl := hx6.lt; have hcur7 : ∀ j, j < bs.length * 2 → cur[j]? = w.cell? ⟨r, j, none⟩ := (by intro j hj; obtain ⟨u, hu, _⟩ := HR1.out.each j hj; rw [hcur6 j u ((HR1.out.row' j hj).trans hu), ← hu]; exact hb0.cell (p := ⟨r, j, none⟩) HR.out.lt); obtain ⟨u0, hu0, _⟩ := HR.out.each (k * 2) (by omega); obtain ⟨u1, hu1, _⟩ := HR.out.each (k * 2 + 1) (by omega); have y0 := (hg6.cell (k * 2)).trans ((hcur7 _ (by omega)).trans hu0); have y1 := (hg6.cell (k * 2 + 1)).trans ((hcur7 _ (by omega)).trans hu1); have fz := fun i => hg6.free i; have HC := Lib.hid hcur7; have HG := Lib.hid hg6; have hb6 := (hb0.grown hgrow6 (by simp; omega) (by simp [Value.ownBlock])); have HB6 := Lib.hid hb6; clear hcur7 hcur6 hu0 hu1 hown6 hgrow6 hx6 hg6 hb6)
  have hcopy := HR.out.copy (b := b) (ad := ad) (c := c) (r' := gg) (cap' := cap') (k := k) (w1 := w6) HB6.out hrb hk HN.out h8 HG.out (by omega) hc6 hm6 HC.out rfl
  have hl : (bs.set k b).length = bs.length := List.length_set
  go_ret
  exact ⟨gg, cap', by rw [hl]; rfl, hcopy.1, hcopy.2⟩
end Go.Proofs.Ytilnbgkepijfbaa
