/- The walks of post.New and Post.All; no condition. -/
import Derived.Test.YtilnbgkepijfbaaPe
import Derived.Laws.MakeOwn
import Derived.Deep.MidRow
namespace Go.Proofs.Ytilnbgkepijfbaa
open Go.RowKit
set_option linter.unusedVariables false
set_option linter.unusedSimpArgs false

theorem LetterAt.shift {cs cs' : Array Value} {i i' : Nat} {x : Letter} (h : LetterAt cs i x) (k : ∀ j, j ≤ 3 → cs'[i' + j]? = cs[i + j]?) : LetterAt cs' i' x :=
  ⟨(k 0 (by omega)).trans h.1, (k 1 (by omega)).trans h.2.1, (k 2 (by omega)).trans h.2.2.1, (k 3 (by omega)).trans h.2.2.2⟩
theorem BoxAt.shift {cs cs' : Array Value} {o o' h : Nat} {b : Bx} (x : BoxAt cs o h b) (k : ∀ j, j < 35 → cs'[o' + j]? = cs[o + j]?) : BoxAt cs' o' h b :=
  ⟨x.hh, x.len, (k _ (by omega)).trans x.head, (k _ (by omega)).trans x.many, (k _ (by omega)).trans x.shut,
    fun i hi => by obtain ⟨y, hy⟩ := x.ring i hi; exact ⟨y, hy.shift (fun j _ => by rw [Nat.add_assoc, Nat.add_assoc]; exact k _ (by omega))⟩,
    fun i y hy => (x.put i y hy).shift (fun j _ => by rw [Nat.add_assoc, Nat.add_assoc]; exact k _ (by have := Nat.mod_lt (h + i) (show 8 > 0 by decide); omega))⟩
theorem zbox_at : BoxAt zbox 0 0 ⟨[], false⟩ := by
  refine ⟨by decide, by decide, rfl, rfl, rfl, ?_, ?_⟩
  · intro i hi
    refine ⟨Letter.zero, ?_⟩
    match i, hi with
    | 0, _ => exact ⟨rfl, rfl, rfl, rfl⟩
    | 1, _ => exact ⟨rfl, rfl, rfl, rfl⟩
    | 2, _ => exact ⟨rfl, rfl, rfl, rfl⟩
    | 3, _ => exact ⟨rfl, rfl, rfl, rfl⟩
    | 4, _ => exact ⟨rfl, rfl, rfl, rfl⟩
    | 5, _ => exact ⟨rfl, rfl, rfl, rfl⟩
    | 6, _ => exact ⟨rfl, rfl, rfl, rfl⟩
    | 7, _ => exact ⟨rfl, rfl, rfl, rfl⟩
  · intro i x hx
    simp at hx
theorem made_at (n k : Nat) (hk : k < n) : BoxAt (madeCells zbox (n * 35)) (k * 35) 0 ⟨[], false⟩ := by
  refine zbox_at.shift (fun j hj => ?_)
  have h1 : k * 35 + j < n * 35 := by omega
  have h2 : (k * 35 + j) % 35 = j := by omega
  have hs : zbox.size = 35 := rfl
  simp [madeCells, h1, hs, h2, getElem!_def, hj]

theorem info76 : (Try.prog.info? 76).map (fun i => (i.zero, i.size, i.bytes)) = some (some (.agg zbox), 35, 344) := by kernel_rfl

theorem wpList_make_box (w : World) {ops : Array Oper} {rest : List Oper} {o : Oper} {a : Act} {Q : Exit → Act → World → Prop}
    (hg : o.guard = none) (l c : Operand) (hop : o.op = Op.makeSlice 65 l c) (n : Nat) (hl : a.eval l = .int .i64 (n : Int)) (hc : a.eval c = .int .i64 (n : Int)) (hn : n ≤ 64)
    (hK : wpList Try.prog ops Q rest (a.put o.dst (.slice (some ⟨w.heap.size, 0, none⟩) n n)) (w.alloc (.cells (madeCells zbox (n * 35)) 76))) :
    wpList Try.prog ops Q (o :: rest) a w := by
  refine wpList_plain hg fun K hK' => ?_
  obtain ⟨i, hi, hzz⟩ := Option.map_eq_some_iff.1 info76
  simp only [Prod.mk.injEq] at hzz
  obtain ⟨hz, hs, hb⟩ := hzz
  have hrun := run_make (P := Try.prog) w 65 76 i (.agg zbox) rfl hi hz .i64 .i64 n n (by omega) (Int.le_refl _) (by rw [hb]; omega) (by omega)
  rw [hs] at hrun
  simp only [Int.toNat_natCast] at hrun
  unfold Oper.wp
  simp [execOp, hop, hl, hc, hrun, Result.andThen]
  exact hK' _ _ hK

theorem new_bad (n : Int) (w : World) (h : n < 1 ∨ 64 < n) : Calls Try.prog 8 #[.int .i64 n] w fun e w' => e = .returned (.pointer none) ∧ Below w.heap.size w w' := by
  by_cases h0 : n < 1
  · go_enter Try.func8, Try.ntmps8
    go_wp2
    go_ret
    exact ⟨rfl, Below.refl _ _⟩
  · have h1 : 64 < n := by omega
    go_enter Try.func8, Try.ntmps8
    go_wp2
    go_ret
    exact ⟨rfl, Below.refl _ _⟩

/-- A new post. -/
def New (n : Nat) (w : World) (e : Ending) (w' : World) : Prop :=
  ∃ g rb, e = .returned (.pointer (some ⟨g, 0, none⟩)) ∧ Below w.heap.size w w' ∧ w.heap.size ≤ g ∧ w.heap.size ≤ rb ∧ PostAt w' g rb (List.replicate n ⟨[], false⟩)

set_option maxHeartbeats 1000000 in
theorem new_any (n : Nat) (w : World) (h1 : 1 ≤ n) (h2 : n ≤ 64) : Calls Try.prog 8 #[.int .i64 (n : Int)] w (New n w) := by
  have h3 : ¬ (n : Int) < 1 := by omega
  have h4 : ¬ 64 < (n : Int) := by omega
  go_enter Try.func8, Try.ntmps8
  go_wp2_with (first | exact wpList_make_box _ rfl _ _ rfl n rfl rfl h2 ?_ | refine wpList_make_box _ rfl _ _ rfl n rfl rfl h2 ?_)
  refine bodyPost_ret (v := .pointer (some ⟨w.heap.size + 1, 0, none⟩)) (by simp [results, Try.results8, go_sem]) rfl ?_
  refine ⟨w.heap.size + 1, w.heap.size, rfl, ((Below.refl _ _).alloc (Nat.le_refl _) _).alloc (by simp) _, by omega, Nat.le_refl _, ?_⟩
  have hb := (Blk.new w _ 76 (madeCells zbox (n * 35)) rfl)
  have hp := Blk.new (w.alloc (.cells (madeCells zbox (n * 35)) 76)) (w.heap.size + 1) 67 #[.slice (some ⟨w.heap.size, 0, none⟩) n n] (by simp)
  refine ⟨?_, by simpa using h2, _, hb.alloc _, ?_⟩
  · simpa using hp
  · intro k b hk
    have hkn : k < n := by have := (List.getElem?_eq_some_iff.1 hk).1; simpa using this
    have : (List.replicate n (⟨[], false⟩ : Bx))[k]? = some ⟨[], false⟩ := by simp [hkn]
    rw [this] at hk
    injection hk with hk
    subst hk
    exact ⟨0, made_at n k hkn⟩

/-! ### All -/
def allOf (bs : List Bx) : Nat := (bs.map (·.l.length)).sum
theorem allOf_take (bs : List Bx) (k : Nat) (b : Bx) (h : bs[k]? = some b) : allOf (bs.take (k + 1)) = allOf (bs.take k) + b.l.length := by
  obtain ⟨hk, e⟩ := List.getElem?_eq_some_iff.1 h
  subst e
  unfold allOf
  rw [List.take_succ_eq_append_getElem hk]
  simp only [List.map_append, List.sum_append, List.map_cons, List.map_nil, List.sum_cons, List.sum_nil, Nat.add_zero]

/-- The 35 cells of a box, as a list. -/
def cellsAt (cs : Array Value) (o : Nat) : List Value := (List.range 35).map (fun j => (cs[o + j]?).getD undef)
theorem cellsAt_len (cs : Array Value) (o : Nat) : (cellsAt cs o).length = 35 := by simp [cellsAt]
theorem cellsAt_get (cs : Array Value) (o j : Nat) (hj : j < 35) : (cellsAt cs o)[j]? = some ((cs[o + j]?).getD undef) := by simp [cellsAt, hj]
theorem BoxAt.each {cs : Array Value} {o h : Nat} {b : Bx} (x : BoxAt cs o h b) (j : Nat) (hj : j < 35) : ∃ v, cs[o + j]? = some v ∧ v.oneCell' = true := by
  by_cases h1 : j < 32
  · obtain ⟨y, h0, h1', h2, h3⟩ := x.ring (j / 4) (by omega)
    have e : o + j = o + j / 4 * 4 + j % 4 := by omega
    rw [e]
    have hm : j % 4 < 4 := Nat.mod_lt _ (by decide)
    match j % 4, hm with
    | 0, _ => exact ⟨_, h0, rfl⟩
    | 1, _ => exact ⟨_, h1', rfl⟩
    | 2, _ => exact ⟨_, h2, rfl⟩
    | 3, _ => exact ⟨_, h3, rfl⟩
  · by_cases h2 : j = 32
    · subst h2; exact ⟨_, x.head, rfl⟩
    · by_cases h3 : j = 33
      · subst h3; exact ⟨_, x.many, rfl⟩
      · obtain rfl : j = 34 := by omega
        exact ⟨_, x.shut, rfl⟩
theorem BoxAt.range {cs : Array Value} {o h : Nat} {b : Bx} (x : BoxAt cs o h b) (j : Nat) (v : Value) (hv : (cellsAt cs o)[j]? = some v) : cs[o + j]? = some v := by
  have hj : j < 35 := by have := (List.getElem?_eq_some_iff.1 hv).1; rwa [cellsAt_len] at this
  obtain ⟨u, hu, _⟩ := x.each j hj
  rw [cellsAt_get _ _ _ hj, hu] at hv
  rw [hu]; exact hv
theorem BoxAt.ones {cs : Array Value} {o h : Nat} {b : Bx} (x : BoxAt cs o h b) : (cellsAt cs o).toArray.all (·.oneCell') = true := by
  refine all_oneCell_toArray (fun v hv => ?_)
  obtain ⟨j, hj⟩ := List.getElem?_of_mem hv
  have hj35 : j < 35 := by have := (List.getElem?_eq_some_iff.1 hj).1; rwa [cellsAt_len] at this
  obtain ⟨u, hu, h1⟩ := x.each j hj35
  rw [x.range j v hj] at hu
  injection hu with hu
  subst hu
  exact h1

theorem size76 : (Try.prog.info? 76).map (·.size) = some 35 := by kernel_rfl

theorem below_setRow {n : Nat} {a b : World} (h : Below n a b) {g : Nat} (cs : Array Value) (hg : n ≤ g) : Below n a (b.setRow g cs) :=
  ⟨h.os, h.tape, h.output, by simp; exact h.size, fun i hi => (setRow_other b g i cs (by omega)).trans (h.block i hi)⟩
/-- A whole value is stored into a block of one's own; the world is then another, of which this is known. -/
theorem wpList_store_own {ops : Array Oper} {rest : List Oper} {o : Oper} {a : Act} {w0 w : World} {Q : Exit → Act → World → Prop} (hgd : o.guard = none) (ty : TypeId) (x y : Operand) (ho : o.op = .store ty x y)
    (g : Nat) (cells : Array Value) (hx : a.eval x = .pointer (some ⟨g, 0, none⟩)) (hy : a.eval y = .agg cells)
    (t : TypeId) (old : Array Value) (hg : Blk w g t old) (hi : (Try.prog.info? ty).map (·.size) = some cells.size)
    (hold : old.size = cells.size) (h1 : cells.all (·.oneCell') = true) (hb : Below w0.heap.size w0 w) (hgg : w0.heap.size ≤ g)
    (h : ∀ w', Blk w' g t cells → Below w0.heap.size w0 w' → wpList Try.prog ops Q rest (a.put o.dst undef) w') : wpList Try.prog ops Q (o :: rest) a w :=
  wpList_store_row hgd ty x y ho g cells hx hy t old hg hi hold h1 (h _ (setRow_heap w g old cells t (0, 0) hg) (below_setRow hb cells hgg))

set_option maxHeartbeats 2000000 in
theorem all_any (g rb : Nat) (bs : List Bx) (w : World) (h : PostAt w g rb bs) :
    Calls Try.prog 11 #[.pointer (some ⟨g, 0, none⟩)] w fun e w' => e = .returned (.int .i64 (allOf bs : Nat)) ∧ Below w.heap.size w w' := by
  have h0 := h.cell0
  have hf := h.few
  have HP := Lib.hid h
  clear h
  go_enter Try.func11, Try.ntmps11
  go_wp2
  go_loopw [2, 10] (fun s2 s10 wr => ∃ i : Nat, s10 = .int .i64 i ∧ s2 = .int .i64 (allOf (bs.take i) : Nat) ∧ i ≤ bs.length ∧ Hid (allOf (bs.take i) ≤ i * 8) ∧ Hid (Below w.heap.size w wr)) (fun _ s10 _ => bs.length - (intOf s10).toNat)
  case atStart => exact ⟨0, rfl, rfl, by omega, Lib.hid (by simp [allOf]), Lib.hid (Below.refl _ _)⟩
  case round =>
    obtain ⟨i, rfl, rfl, hi, HS, HB⟩ := hrel
    by_cases hlt : i < bs.length
    · have hi1 : (i : Int) < (bs.length : Int) := by omega
      obtain ⟨b, hb⟩ : ∃ b, bs[i]? = some b := ⟨bs[i], by simp [hlt]⟩
      have HT := Lib.hid (allOf_take bs i b hb)
      obtain ⟨p, f, cs, hblk, hr⟩ := HP.out
      obtain ⟨hd, hx⟩ := hr i b hb
      have hlen := hx.len
      have hrng : wr.rangeAt rb (i * 35) (cellsAt cs (i * 35)) := fun j v hv => ((hblk.by (only_below HB.out none) (by simp)).cell _).trans (hx.range j v hv)
      have hones := hx.ones
      have hm : (cellsAt cs (i * 35))[33]? = some (.int .i64 b.l.length) := by rw [cellsAt_get _ _ _ (by omega), hx.many]; rfl
      clear p f hblk hr hx
      have hl35 : (cellsAt cs (i * 35)).length = 35 := cellsAt_len _ _
      generalize cellsAt cs (i * 35) = l at *
      have hones2 : l.toArray.size = 35 := by simpa using hl35
      go_wp2_with (first | refine wpList_load_mid rfl 76 _ rfl rb (i * 35) rfl l _ hrng rfl rfl (by rw [hl35]; exact size76) ?_ | (refine wpList_store_own (w0 := w) rfl 76 _ _ rfl wr.heap.size l.toArray rfl rfl 76 zbox (Blk.new wr _ 76 zbox rfl) (by rw [hones2]; exact size76) (by rw [hones2]; rfl) hones (HB.out.alloc HB.out.size _) HB.out.size ?_; intro w2 hk2 hb2; have c33 : w2.cell? ⟨wr.heap.size, 33, none⟩ = some (.int .i64 b.l.length) := (hk2.cell 33).trans (by simpa using hm); have hlt2 := hk2.lt; clear hk2; have HB2 := Lib.hid hb2; clear hb2))
      have hal := HT.out
      have hs8 := HS.out
      have hwr : wrap64 ((allOf (bs.take i) : Int) + (b.l.length : Int)) = ((allOf (bs.take (i + 1)) : Nat) : Int) := by
        unfold wrap64; omega
      refine ⟨⟨i + 1, by go_num, by rw [hwr], by omega, Lib.hid (by omega), HB2⟩, by simp [intOf]; omega⟩
    · have hi1 : ¬ (i : Int) < (bs.length : Int) := by omega
      have he : bs.take i = bs := List.take_of_length_le (by omega)
      rw [he]
      go_wp2
      go_ret
      exact ⟨rfl, HB.out⟩
end Go.Proofs.Ytilnbgkepijfbaa
