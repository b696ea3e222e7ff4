/- The walk of Post.Close; no condition. -/
import Derived.Test.YtilnbgkepijfbaaPf
import Derived.Deep.AppendLies
namespace Go.Proofs.Ytilnbgkepijfbaa
open Go.RowKit
set_option linter.unusedVariables false
set_option linter.unusedSimpArgs false

def cellsOf (l : List Letter) : List Value := l.flatMap Letter.cells
theorem cellsOf_snoc (l : List Letter) (x : Letter) : cellsOf (l ++ [x]) = cellsOf l ++ x.cells := by simp [cellsOf]
theorem info33 : (Try.prog.info? 33).map (fun i => (i.zero, i.size, i.bytes)) = some (some (.agg #[.int .i64 0, .int .i64 0, .int .i64 0, .string ⟨#[]⟩]), 4, 40) := by kernel_rfl
theorem info33' : ∃ i z, Try.prog.info? 33 = some i ∧ i.zero = some z ∧ i.size = 4 ∧ i.bytes = 40 ∧ z.cells.size = 4 := by
  obtain ⟨i, hi, hzz⟩ := Option.map_eq_some_iff.1 info33
  simp only [Prod.mk.injEq] at hzz
  exact ⟨i, _, hi, hzz.1, hzz.2.1, hzz.2.2, rfl⟩

def closeE (bs : List Bx) (k : Int) : Int := match boxOf bs k with | some b => if b.c then 135 else 0 | none => 3
def closeV (bs : List Bx) (k : Int) : List Letter := match boxOf bs k with | some b => if b.c then [] else b.l | none => []
def closeS (bs : List Bx) (k : Int) : List Bx := match boxOf bs k with | some b => if b.c then bs else bs.set k.toNat ⟨[], true⟩ | none => bs

/-- What Close leaves: its letters, its error, its boxes. -/
def Closed (g rb : Nat) (E : Int) (l : List Letter) (bs : List Bx) (w : World) (e : Ending) (w' : World) : Prop :=
  ∃ v, e = .returned (.tuple #[v, .int .i64 E]) ∧ w'.ownsRow w.heap.size 33 4 v l.length (cellsOf l) ∧ PostAt w' g rb bs ∧ w.grownBy w' (some rb)
theorem Closed.mk' {g rb : Nat} {E : Int} {bs : List Bx} {w w' : World} (h : PostAt w g rb bs) (k : Below w.heap.size w w') : Closed g rb E [] bs w (.returned (.tuple #[.slice none 0 0, .int .i64 E])) w' :=
  ⟨_, rfl, World.ownsRow_nil _ _ _ _, h.below k, only_below k _⟩

/-- Growth within a block that is newer than w. -/
theorem only_own {w a b : World} {rb : Nat} {row : Option Nat} (h : w.grownBy a (some rb)) (k : a.grownBy b row) (hr : ∀ i, row = some i → w.heap.size ≤ i) : w.grownBy b (some rb) :=
  ⟨k.os.trans h.os, k.tape.trans h.tape, k.output.trans h.output, Nat.le_trans h.size k.size,
    fun i hi hne => (k.block i (Nat.lt_of_lt_of_le hi h.size) (fun e => by have := hr i e.symm; omega)).trans (h.block i hi hne)⟩

def lenV : Value → Nat
  | .slice _ n _ => n
  | _ => 0
theorem lenV_own {w : World} {base : Nat} {e : TypeId} {size : Nat} {v : Value} {n : Nat} {xs : List Value} (h : w.ownsRow base e size v n xs) : lenV v = n := by
  rcases h.2 with ⟨rfl, rfl⟩ | ⟨g, cap, cur, rfl, _⟩ <;> rfl
theorem ones_letter (x : Letter) : ∀ u ∈ x.cells, u.oneCell' = true := by
  intro u hu
  simp [Letter.cells] at hu
  rcases hu with rfl | rfl | rfl | rfl <;> rfl

set_option maxHeartbeats 2000000 in
theorem close_none (g rb : Nat) (bs : List Bx) (k : Int) (w : World) (h : PostAt w g rb bs) (hk : boxOf bs k = none) :
    Calls Try.prog 14 #[.pointer (some ⟨g, 0, none⟩), .int .i64 k] w (Closed g rb 3 [] bs w) := by
  have ha := at_out g rb bs.length k w (boxOf_none hk) h.few h.cell0
  have HP := Lib.hid h
  clear hk h
  go_enter Try.func14, Try.ntmps14
  go_wp2_with fail
  refine ha.mono ?_
  rintro e w1 ⟨q, cs, rfl, hb, hq, h1, h2, h3⟩
  have c1 : w1.cell? ⟨q, 33, none⟩ = some (.int .i64 0) := by rw [show w1.cell? ⟨q, 33, none⟩ = cs[33]? from Blk.cell (t := 76) h1 33]; exact h2
  have c3 : w1.cell? ⟨q, 34, none⟩ = some (.bool false) := by rw [show w1.cell? ⟨q, 34, none⟩ = cs[34]? from Blk.cell (t := 76) h1 34]; exact h3
  have hlt : q < w1.heap.size := Blk.lt (t := 76) h1
  clear h1 h2 h3 ha
  go_wp2_with fail
  generalize hW : w1.alloc (.cells #[.bool true, .int .i64 3] 70) = w2
  have d0 : w2.cell? ⟨w1.heap.size, 0, none⟩ = some (.bool true) := by rw [← hW]; exact (Blk.new w1 _ 70 _ rfl).cell 0
  have d1 : w2.cell? ⟨w1.heap.size, 1, none⟩ = some (.int .i64 3) := by rw [← hW]; exact (Blk.new w1 _ 70 _ rfl).cell 1
  have d2 : w2.cell? ⟨q, 34, none⟩ = some (.bool false) := by rw [← hW, World.cell?_alloc_lt _ _ _ (by exact hlt)]; exact c3
  have hb2 : Below w.heap.size w w2 := by rw [← hW]; exact hb.alloc hb.size _
  have HB2 := Lib.hid hb2
  clear hW c1 c3 hb hb2
  go_region_held3 (fun w' => w'.cell? ⟨w1.heap.size, 0, none⟩ = some (.bool true) ∧ w'.cell? ⟨w1.heap.size, 1, none⟩ = some (.int .i64 3) ∧ w'.cell? ⟨q, 34, none⟩ = some (.bool false))
    (first | exact ⟨d0, d1, d2⟩ | exact ⟨keep_call d0 hb4, keep_call d1 hb4, keep_call d2 hb4⟩ | go_keep)
    (first | (go_at_call 24; refine (first_two _ true false 3 135 _ (Blk.new _ _ 70 _ rfl).drew).mono ?_; rintro e w4 ⟨rfl, hb4⟩; have HB4 := Lib.hid hb4))
  have hfin := bt (bt HB2.out ((Below.alloc (Below.refl w2.heap.size w2) (Nat.le_refl _) _).drew)) hb4
  have hf : firstOf [(true, 3), (false, 135)] = 3 := rfl
  rw [hf]
  have HFIN := Lib.hid hfin
  clear hf hfin hb4 HB4 HB2 d0 d1 d2
  go_wp2
  go_ret2
  exact Closed.mk' HP.out HFIN.out

set_option maxHeartbeats 4000000 in
theorem close_some (g rb : Nat) (bs : List Bx) (j : Nat) (b : Bx) (w : World) (h : PostAt w g rb bs) (hj : j < bs.length) (hbj : bs[j]? = some b) :
    Calls Try.prog 14 #[.pointer (some ⟨g, 0, none⟩), .int .i64 (j : Int)] w (if b.c then Closed g rb 135 [] bs w else Closed g rb 0 b.l (bs.set j ⟨[], true⟩) w) := by
  have HP := Lib.hid h
  obtain ⟨p, f, cs, hb, hr⟩ := h
  obtain ⟨hd, hx⟩ := hr j b hbj
  have ha := at_in g rb bs.length j w hj f (p.cell 0)
  have c2 : w.cell? ⟨rb, j * 35 + 34, none⟩ = some (.bool b.c) := (hb.cell _).trans hx.shut
  have hlt := hb.lt
  have hlen := hx.len
  have HX := Lib.hid hx
  have HB := Lib.hid hb
  clear hbj hr hx hb p
  obtain ⟨bl, bc⟩ := b
  simp only at c2 hlen ⊢
  go_enter Try.func14, Try.ntmps14
  go_wp2_with fail
  refine ha.mono ?_
  rintro e w1 ⟨rfl, hb1⟩
  have e2 := (hb1.cell (p := ⟨rb, j * 35 + 34, none⟩) hlt).trans c2
  have hlt2 := World.block_lt_of_cell? w1 _ e2
  clear ha c2
  go_wp2_with fail
  generalize hW : w1.alloc (.cells #[.bool false, .int .i64 0] 70) = w2
  have d0 : w2.cell? ⟨w1.heap.size, 0, none⟩ = some (.bool false) := by rw [← hW]; exact (Blk.new w1 _ 70 _ rfl).cell 0
  have d1 : w2.cell? ⟨w1.heap.size, 1, none⟩ = some (.int .i64 0) := by rw [← hW]; exact (Blk.new w1 _ 70 _ rfl).cell 1
  have d2 : w2.cell? ⟨rb, j * 35 + 34, none⟩ = some (.bool bc) := by rw [← hW]; exact keep_alloc _ e2
  have hb2 : Below w.heap.size w w2 := by rw [← hW]; exact hb1.alloc hb1.size _
  have HB2 := Lib.hid hb2
  clear hW e2 hb1 hb2
  go_region_held3 (fun w' => w'.cell? ⟨w1.heap.size, 0, none⟩ = some (.bool false) ∧ w'.cell? ⟨w1.heap.size, 1, none⟩ = some (.int .i64 0) ∧ w'.cell? ⟨rb, j * 35 + 34, none⟩ = some (.bool bc))
    (first | exact ⟨d0, d1, d2⟩ | exact ⟨keep_call d0 hb4, keep_call d1 hb4, keep_call d2 hb4⟩ | go_keep)
    (first | (go_at_call 24; refine (first_two _ false bc 0 135 _ (Blk.new _ _ 70 _ rfl).drew).mono ?_; rintro e w4 ⟨rfl, hb4⟩; have HB4 := Lib.hid hb4))
  have hfin := bt (bt HB2.out ((Below.alloc (Below.refl w2.heap.size w2) (Nat.le_refl _) (.cells #[.bool false, .int .i64 0, .bool bc, .int .i64 135] 70)).drew)) hb4
  have HFIN := Lib.hid hfin
  clear hfin hb4 HB4 HB2 d0 d1 d2
  cases bc with
  | true =>
    have hf : firstOf [(false, 0), (true, 135)] = 135 := rfl
    rw [hf]
    clear hf
    go_wp2
    go_ret2
    exact Closed.mk' HP.out HFIN.out
  | false =>
    have hf : firstOf [(false, 0), (false, 135)] = 0 := rfl
    rw [hf]
    clear hf
    go_wp2
    go_loopw [4] (fun s4 wr => ∃ (ad : Option Addr) (n c : Nat) (done rest : List Letter) (hh : Nat) (ds : Array Value), Value.slice ad n c = s4 ∧ done ++ rest = bl ∧ Hid (wr.ownsRow w.heap.size 33 4 (.slice ad n c) done.length (cellsOf done)) ∧ Hid (Blk wr rb 76 ds) ∧ Hid (BoxAt ds (j * 35) hh ⟨rest, false⟩) ∧
      Hid (∀ i, (i < j * 35 ∨ j * 35 + 35 ≤ i) → ds[i]? = cs[i]?) ∧ Hid (w.grownBy wr (some rb)))
      (fun s4 wr => 8 - lenV s4)
    case atStart =>
      have hk := HB.out.by (only_below HFIN.out none) (by simp)
      exact ⟨none, 0, 0, [], bl, hd, cs, rfl, rfl, Lib.hid (World.ownsRow_nil _ _ _ _), Lib.hid hk, HX, Lib.hid (fun _ _ => rfl), Lib.hid (only_below HFIN.out _)⟩
    case round =>
      obtain ⟨ad, n, c, done, rest, hh, ds, hs, hbl, HO, HK, HX2, HF, HG⟩ := hrel
      subst hs
      obtain rfl : n = done.length := lenV_own HO.out
      cases rest with
      | nil =>
        obtain rfl : done = bl := by simpa using hbl
        have c0 : wr.cell? ⟨rb, j * 35 + 33, none⟩ = some (.int .i64 0) := (HK.out.cell _).trans HX2.out.many
        have c1 : wr.cell? ⟨rb, j * 35 + 34, none⟩ = some (.bool false) := (HK.out.cell _).trans HX2.out.shut
        have fz := fun i => HK.out.free i
        have hl := HK.out.lt
        go_wp2
        go_ret2
        have hne : (Value.slice ad done.length c).ownBlock ≠ some rb := fun e => by have := (HO.out.lt rb e).1; omega
        refine ⟨_, rfl, HO.out.kept (only_set (only_refl wr (some rb)) _ _) (.inr hne), HP.out.turn (only_set HG.out _ _) hj HB.out (HK.out.set _ _) (fun i hi => ?_) ⟨hh, HX2.out.close⟩, only_set HG.out _ _⟩
        rw [getElem?_set _ _ _ _ (by omega)]; exact HF.out i hi
      | cons x l =>
        have c0 : wr.cell? ⟨rb, j * 35 + 33, none⟩ = some (.int .i64 ((l.length : Int) + 1)) := ((HK.out.cell _).trans HX2.out.many).trans (by simp)
        have hl8 : l.length + 1 ≤ 8 := HX2.out.len
        have hl := HK.out.lt
        have hpos : (l.length : Int) + 1 > 0 := by omega
        have ht := take_any rb (j * 35) hh x l false ds wr HK.out HX2.out
        have hd8 : done.length + (l.length + 1) ≤ 8 := by rw [← hbl] at hlen; simpa using hlen
        have HBL := Lib.hid hbl
        clear hbl
        go_wp2_with fail
        refine ht.mono ?_
        rintro e w5 ⟨rfl, hk5, hg5⟩
        have hne : (Value.slice ad done.length c).ownBlock ≠ some rb := fun e => by have := (HO.out.lt rb e).1; omega
        have HO5 := Lib.hid (HO.out.kept hg5 (.inr hne))
        have HG5 := Lib.hid (only_trans HG.out hg5)
        have HK5 := Lib.hid hk5
        clear hk5 hg5 ht c0
        unfold Letter.val
        obtain ⟨i0, z0, hi0, hz0, hz1, hz2, hz3⟩ := info33'
        have hsz5 := HG5.out.size
        go_wp2_with (first | fail | (at_builtin; refine wpList_append_lies _ (by rfl) _ _ _ (by rfl) w.heap.size 33 i0 z0 4 40 Try.underlying40 hi0 hz0 hz1 hz2 hz3 (by omega) (.slice ad done.length c) done.length (cellsOf done) (by rfl) (HO5.out.alloc _) ⟨w5.heap.size, 0, none⟩ 1 1 x.cells (by rfl) (by rfl) (World.news_of_block (cs := x.cells.toArray) (t := 33) (fr := (0, 0)) (heap_alloc_new w5 _)) (ones_letter x) (by omega) (by unfold maxLen; omega) (by omega) (by simp; omega) (w5.heap.size + 1) (by simp) ?_; intro gg cap' w6 hown6 hgrow6 hat6 hlt6))
        have hk6 := (HK5.out.alloc (.cells x.cells.toArray 33)).by hgrow6 (fun e => hne e.symm)
        have hg6 := only_own (only_alloc HG5.out (.cells x.cells.toArray 33)) hgrow6 (fun i e => (HO.out.lt i e).1)
        refine ⟨⟨some ⟨gg, 0, none⟩, done.length + 1, cap', done ++ [x], l, (hh + 1) % 8, _, rfl, by rw [← HBL.out]; simp, Lib.hid ?_, Lib.hid hk6, Lib.hid HX2.out.take, Lib.hid (fun i hi => (takeC_far _ _ _ _ _ HX2.out.hh hi).trans (HF.out i hi)), Lib.hid hg6⟩, by simp [lenV]; omega⟩
        rw [cellsOf_snoc, List.length_append]
        exact hown6

theorem close_any (g rb : Nat) (bs : List Bx) (k : Int) (w : World) (h : PostAt w g rb bs) :
    Calls Try.prog 14 #[.pointer (some ⟨g, 0, none⟩), .int .i64 k] w (Closed g rb (closeE bs k) (closeV bs k) (closeS bs k) w) := by
  unfold closeE closeV closeS
  cases hk : boxOf bs k with
  | none => exact close_none g rb bs k w h hk
  | some b =>
    obtain ⟨j, rfl, hlt, hbj⟩ := boxOf_some hk
    have := close_some g rb bs j b w h hlt hbj
    simp only [Int.toNat_natCast]
    split at this <;> rename_i h1
    · simp only [h1, if_true]; exact this
    · simp only [h1]; exact this
end Go.Proofs.Ytilnbgkepijfbaa
