/- The walks of shown and of CircuitTwice; no condition. -/
import Derived.Test.YtgehdkbjcpdjoaaAr
namespace Go.Proofs.Ytgehdkbjcpdjoaa
open Go.RowKit Go.ChangeMaps
set_option linter.unusedVariables false
set_option linter.unusedSimpArgs false

theorem circ_new (base rate : Int) (w : World) :
    CircAt (((w.alloc (.map #[] 0)).alloc (.map #[] 0)).alloc (.cells #[.int .u64 base, .int .u64 rate, .map (some w.heap.size), .map (some (w.heap.size + 1))] 43)) (w.heap.size + 2) base rate w.heap.size (w.heap.size + 1) [] [] #[] 0 #[] 0 :=
  ⟨Blk.new _ _ _ _ (by simp), ((Mp.new _ _ _ _ rfl).alloc _).alloc _, (Mp.new _ _ _ _ (by simp)).alloc _, MapObj.empty, MapObj.empty, by omega⟩

/-- A map of circuits that is newer than w. -/
structure Mine (w : World) (g : Nat) (base rate : Int) (l : List (Key × Circ)) (o : List (Key × Key)) (wr : World) : Prop where
  at' : ∃ b1 b2 es1 k1 es2 k2, CircAt wr g base rate b1 b2 l o es1 k1 es2 k2 ∧ w.heap.size ≤ b1 ∧ w.heap.size ≤ b2
  g' : w.heap.size ≤ g
  b : Below w.heap.size w wr

theorem new_mine (base rate : Int) (w W : World) (hb : Below w.heap.size w W) :
    Calls Try.prog 4 #[.int .u64 base, .int .u64 rate] W fun e w' => e = .returned (.pointer (some ⟨W.heap.size + 2, 0, none⟩)) ∧ Mine w (W.heap.size + 2) base rate [] [] w' ∧ Below W.heap.size W w' := by
  refine (new_any base rate W).mono ?_
  rintro e w' ⟨rfl, rfl⟩
  have hs := hb.size
  have hbb := (((Below.refl W.heap.size W).alloc (Nat.le_refl _) (.map #[] 0)).alloc (by simp) (.map #[] 0)).alloc (by simp; omega) (.cells #[.int .u64 base, .int .u64 rate, .map (some W.heap.size), .map (some (W.heap.size + 1))] 43)
  exact ⟨rfl, ⟨⟨_, _, _, _, _, _, circ_new base rate W, hs, by omega⟩, by omega, hb.trans (hbb.mono hs)⟩, hbb⟩
theorem Mine.quiet {w a b : World} {g : Nat} {base rate : Int} {l : List (Key × Circ)} {o : List (Key × Key)} (h : Mine w g base rate l o a) (k : Below a.heap.size a b) : Mine w g base rate l o b := by
  obtain ⟨⟨b1, b2, es1, k1, es2, k2, hc, h1, h2⟩, hg, hb⟩ := h
  exact ⟨⟨b1, b2, es1, k1, es2, k2, ⟨hc.ptr.below k, hc.m1.below k, hc.m2.below k, hc.o1, hc.o2, hc.ne⟩, h1, h2⟩, hg, hb.trans (k.mono hb.size)⟩
theorem check_mine {w a : World} {g : Nat} {base rate : Int} {l : List (Key × Circ)} {o : List (Key × Key)} (h : Mine w g base rate l o a) (x y : Leg) (hx : x.ok) (hy : y.ok) (hb0 : 0 ≤ base) (hb1 : base < 18446744073709551616) (hr0 : 0 ≤ rate) (hr1 : rate < 18446744073709551616) :
    Calls Try.prog 8 #[.pointer (some ⟨g, 0, none⟩), x.val, y.val] a fun e w' => e = .returned (.int .i64 (chk base rate x y)) ∧ Mine w g base rate l o w' ∧ Below a.heap.size a w' := by
  obtain ⟨b1, b2, es1, k1, es2, k2, hc, h1, h2⟩ := h.at'
  exact (check_any g base rate x y a hx hy hb0 hb1 hr0 hr1 (hc.ptr.cell 0) (hc.ptr.cell 1)).mono fun e w' ⟨h1, h2⟩ => ⟨h1, h.quiet h2, h2⟩
theorem len_mine {w a : World} {g : Nat} {base rate : Int} {l : List (Key × Circ)} {o : List (Key × Key)} (h : Mine w g base rate l o a) :
    Calls Try.prog 7 #[.pointer (some ⟨g, 0, none⟩)] a fun e w' => e = .returned (.int .i64 (l.length : Int)) ∧ w' = a := by
  obtain ⟨b1, b2, es1, k1, es2, k2, hc, h1, h2⟩ := h.at'
  exact len_any g base rate b1 b2 l o es1 k1 es2 k2 a hc
theorem Mine.write {w a : World} {g : Nat} {base rate : Int} {l : List (Key × Circ)} {o : List (Key × Key)} {x : Nat} {cs : Array Value} (h : Mine w g base rate l o a) (hx : Blk a x 31 cs) (hw : w.heap.size ≤ x) (i : Nat) (u : Value) : Mine w g base rate l o (a.setCell ⟨x, i, none⟩ u) := by
  obtain ⟨⟨b1, b2, es1, k1, es2, k2, hat, h1, h2⟩, h3, h4⟩ := h
  exact ⟨⟨b1, b2, es1, k1, es2, k2, ⟨hat.ptr.setCell (p := ⟨x, i, none⟩) (hat.ptr.ne hx (by decide)) _, hat.m1.setCell (p := ⟨x, i, none⟩) (hx.ne_map hat.m1).symm _, hat.m2.setCell (p := ⟨x, i, none⟩) (hx.ne_map hat.m2).symm _, hat.o1, hat.o2, hat.ne⟩, h1, h2⟩, h3, h4.setCell (p := ⟨x, i, none⟩) hw _⟩
/-- Blocks of cells stay through Open. -/
def Stay (a b : World) : Prop := ∀ g t cs, Blk a g t cs → Blk b g t cs
theorem open_mine {w a : World} {g : Nat} {base rate : Int} {l : List (Key × Circ)} {o : List (Key × Key)} (h : Mine w g base rate l o a) (c : Circ) (hc : c.ok) (hl : ∀ p ∈ l, p.1.ok ∧ p.2.ok) (ho : ∀ p ∈ o, p.1.ok) (hb0 : 0 ≤ base) (hb1 : base < 18446744073709551616) (hr0 : 0 ≤ rate) (hr1 : rate < 18446744073709551616) :
    Calls Try.prog 6 #[.pointer (some ⟨g, 0, none⟩), c.val] a fun e w' => e = .returned (.int .i64 (openE base rate l o c)) ∧ (openE base rate l o c ≠ 0 → Mine w g base rate l o w') ∧ (openE base rate l o c = 0 → Mine w g base rate (put l c.i.key c) (put o c.o.key c.i.key) w') ∧ Stay a w' := by
  obtain ⟨b1, b2, es1, k1, es2, k2, hat, h1, h2⟩ := h.at'
  refine (open_any g base rate b1 b2 l o es1 k1 es2 k2 c a hat hc hl ho hb0 hb1 hr0 hr1).mono ?_
  rintro e w' ⟨rfl, h3⟩
  refine ⟨rfl, fun h4 => ?_, fun h4 => ?_, fun x t cs hx => ?_⟩
  · rcases h3 with ⟨_, h3⟩ | ⟨h3, _⟩
    · exact h.quiet h3
    · exact absurd h3 h4
  · rcases h3 with ⟨h3, _⟩ | ⟨_, ⟨es1', k1', es2', k2', h5⟩, h6⟩
    · exact absurd h4 h3
    · exact ⟨⟨b1, b2, es1', k1', es2', k2', h5, h1, h2⟩, h.g', h.b.trans ((h6.mono (G := fun x => x = b1 ∨ x = b2) (fun i _ hi => hi)) |> fun u => ⟨u.os, u.tape, u.output, u.size, fun k hk => u.block k (Nat.lt_of_lt_of_le hk h.b.size) (by omega)⟩)⟩
  · rcases h3 with ⟨_, h3⟩ | ⟨_, _, h6⟩
    · exact hx.below h3
    · exact hx.upd h6 (by have := hx.ne_map hat.m1; have := hx.ne_map hat.m2; omega)

def in0 : Leg := ⟨⟨1, 0⟩, 10, 20⟩
def out0 (n : Int) : Leg := ⟨⟨2, 0⟩, n, 14⟩
def zeros32 : List Value := List.replicate 32 (.int .u8 0)
theorem shown_chk : chk 1 0 in0 (out0 10) = 150 ∧ openE 1 0 [] [] ⟨in0, out0 9, zeros32⟩ = 0 := by
  constructor <;> decide
theorem in0_ok : in0.ok := by constructor <;> decide
theorem out0_ok (n : Int) (h0 : 0 ≤ n) (h1 : n < 100) : (out0 n).ok := by constructor <;> simp [out0] <;> omega
theorem shown_ok : (⟨in0, out0 9, zeros32⟩ : Circ).ok := ⟨in0_ok, out0_ok 9 (by decide) (by decide), by decide, fun v hv => by rw [show (⟨in0, out0 9, zeros32⟩ : Circ).h = List.replicate 32 (Value.int .u8 0) from rfl, List.mem_replicate] at hv; rw [hv.2]; rfl⟩

set_option maxRecDepth 100000 in
set_option maxHeartbeats 4000000 in
theorem shown_any (w : World) : Calls Try.prog 5 #[] w fun e w' => e = .returned (.bool true) ∧ Below w.heap.size w w' := by
  go_enter Try.func5, Try.ntmps5
  go_wp2_with fail
  refine (new_mine 1 0 w w (Below.refl _ _)).mono ?_
  rintro e W ⟨rfl, hM, _⟩
  have hlt : w.heap.size ≤ W.heap.size := hM.b.size
  have HM := Lib.hid hM
  clear hM
  go_wp2_with fail
  have hbb := ((Below.refl W.heap.size W).alloc (Nat.le_refl _) (.cells #[.int .u32 1, .int .u64 0, .int .u64 10, .int .i64 20] 27)).alloc (by simp) (.cells #[.int .u32 2, .int .u64 0, .int .u64 10, .int .i64 14] 27)
  have hx := (Blk.new W _ 27 #[.int .u32 1, .int .u64 0, .int .u64 10, .int .i64 20] rfl).alloc (.cells #[.int .u32 2, .int .u64 0, .int .u64 10, .int .i64 14] 27)
  have hy := Blk.new (W.alloc (.cells #[.int .u32 1, .int .u64 0, .int .u64 10, .int .i64 20] 27)) (W.heap.size + 1) 27 #[.int .u32 2, .int .u64 0, .int .u64 10, .int .i64 14] (by simp)
  have HM := Lib.hid (HM.out.quiet hbb)
  clear hbb
  generalize (W.alloc (.cells #[.int .u32 1, .int .u64 0, .int .u64 10, .int .i64 20] 27)).alloc (.cells #[.int .u32 2, .int .u64 0, .int .u64 10, .int .i64 14] 27) = W1 at *
  have hc := check_mine HM.out in0 (out0 10) in0_ok (out0_ok 10 (by decide) (by decide)) (by decide) (by decide) (by decide) (by decide)
  rw [shown_chk.1] at hc
  unfold Leg.val in0 out0 at hc
  refine hc.mono ?_
  rintro e W2 ⟨rfl, hM2, hb2⟩
  have hx := hx.below hb2
  have hy := hy.below hb2
  have x0 := hx.cell 0
  have x1 := hx.cell 1
  have x2 := hx.cell 2
  have x3 := hx.cell 3
  have y0 := hy.cell 0
  have y1 := hy.cell 1
  have y2 := hy.cell 2
  have y3 := hy.cell 3
  simp at x0 x1 x2 x3 y0 y1 y2 y3
  have fy := fun i => hy.free i
  have lx := hx.lt
  have ly := hy.lt
  have HM2 := Lib.hid hM2
  have HY := Lib.hid hy
  clear hc hM2 hb2 hx hy HM
  go_wp2_with fail
  have hbs : Below w.heap.size w (W2.setCell ⟨W.heap.size + 1, 2, none⟩ (.int .u64 9)) := HM2.out.b.setCell (p := ⟨W.heap.size + 1, 2, none⟩) (by show w.heap.size ≤ W.heap.size + 1; omega) _
  have HM3 : Hid (Mine w (w.heap.size + 2) 1 0 [] [] (W2.setCell ⟨W.heap.size + 1, 2, none⟩ (.int .u64 9))) := Lib.hid (by
    obtain ⟨⟨b1, b2, es1, k1, es2, k2, hat, h1, h2⟩, h3, h4⟩ := HM2.out
    exact ⟨⟨b1, b2, es1, k1, es2, k2, ⟨hat.ptr.setCell (p := ⟨W.heap.size + 1, 2, none⟩) (hat.ptr.ne HY.out (by decide)) _, hat.m1.setCell (p := ⟨W.heap.size + 1, 2, none⟩) (HY.out.ne_map hat.m1).symm _, hat.m2.setCell (p := ⟨W.heap.size + 1, 2, none⟩) (HY.out.ne_map hat.m2).symm _, hat.o1, hat.o2, hat.ne⟩, h1, h2⟩, h3, hbs⟩)
  clear x0 x1 x2 x3 y0 y1 y2 y3 fy lx ly HM2 hbs
  have hc := open_mine HM3.out ⟨in0, out0 9, zeros32⟩ shown_ok (by simp) (by simp) (by decide) (by decide) (by decide) (by decide)
  rw [shown_chk.2] at hc
  refine (show Calls Try.prog 6 #[_, (⟨in0, out0 9, zeros32⟩ : Circ).val] _ _ from hc.mono ?_)
  rintro e W4 ⟨rfl, _, h2, _⟩
  have HM4 := Lib.hid (h2 rfl)
  clear hc h2 HM3
  go_wp2_with fail
  refine (len_mine HM4.out).mono ?_
  rintro e w' ⟨rfl, rfl⟩
  have hl1 : (put ([] : List (Key × Circ)) in0.key ⟨in0, out0 9, zeros32⟩).length = 1 := rfl
  simp only [hl1]
  go_wp2
  go_ret
  exact ⟨rfl, HM4.out.b⟩

theorem openE_first (c : Circ) : openE 0 0 [] [] c = chk 0 0 c.i c.o := by
  unfold openE
  by_cases h : chk 0 0 c.i c.o = 0 <;> simp [h, get]
theorem chk_vals (i o : Leg) : chk 0 0 i o = 0 ∨ chk 0 0 i o = 1 ∨ chk 0 0 i o = 150 ∨ chk 0 0 i o = 151 := by
  unfold chk; split; simp; split; simp; split <;> simp
theorem openE_in (c d : Circ) (h : d.i.key = c.i.key) : openE 0 0 (put [] c.i.key c) (put [] c.o.key c.i.key) d ≠ 0 := by
  unfold openE
  by_cases h0 : chk 0 0 d.i d.o = 0
  · simp [h0, get, put, h]
  · simp [h0]
theorem openE_out (c d : Circ) (h : d.o.key = c.o.key) : openE 0 0 (put [] c.i.key c) (put [] c.o.key c.i.key) d = if chk 0 0 d.i d.o = 0 then 4 else chk 0 0 d.i d.o := by
  unfold openE
  by_cases h0 : chk 0 0 d.i d.o = 0
  · simp [h0, get, put, h]
  · simp [h0]
theorem put_ok (c : Circ) (hc : c.ok) : (∀ p ∈ put ([] : List (Key × Circ)) c.i.key c, p.1.ok ∧ p.2.ok) ∧ (∀ p ∈ put ([] : List (Key × Key)) c.o.key c.i.key, p.1.ok) := by
  constructor
  · intro p hp
    simp [put] at hp
    subst hp
    exact ⟨hc.i.key, hc⟩
  · intro p hp
    simp [put] at hp
    subst hp
    exact hc.o.key

theorem wrap_u64 (x : Int) : 0 ≤ IntKind.u64.wrap x ∧ IntKind.u64.wrap x < 18446744073709551616 := by
  simp [IntKind.wrap, show IntKind.u64.signed = false from rfl, IntKind.bits]
  omega

set_option maxRecDepth 100000 in
set_option maxHeartbeats 8000000 in
theorem twice_walk (c d : Circ) (hc : c.ok) (hd : d.ok) (w : World) : Calls Try.prog 3 #[c.val, d.val] w fun e w' => e = .returned (.bool true) ∧ Below w.heap.size w w' := by
  have HC := Lib.hid hc
  have HD := Lib.hid hd
  have HIc : Hid ((Try.prog.info? 31).map (·.size) = some c.cells.toArray.size) := Lib.hid (by rw [info31]; simp [Circ.len hc.h])
  clear hc hd
  unfold Circ.val
  go_enter Try.func3, Try.ntmps3
  go_wp2_with fail
  have hB := ((Below.refl w.heap.size w).alloc (Nat.le_refl _) (.cells c.cells.toArray 31)).alloc (by simp) (.cells d.cells.toArray 31)
  have hx := (Blk.new w _ 31 c.cells.toArray rfl).alloc (.cells d.cells.toArray 31)
  have hy := Blk.new (w.alloc (.cells c.cells.toArray 31)) (w.heap.size + 1) 31 d.cells.toArray (by simp)
  generalize (w.alloc (.cells c.cells.toArray 31)).alloc (.cells d.cells.toArray 31) = W0 at *
  refine (new_mine 0 0 w W0 hB).mono ?_
  rintro e W1 ⟨rfl, hM, hb⟩
  have hx := hx.below hb
  have hy := hy.below hb
  have HM := Lib.hid hM
  have HX := Lib.hid hx
  have HY := Lib.hid hy
  clear hM hx hy hb hB
  generalize W0.heap.size + 2 = g at *
  go_wp2_with fail
  refine (shown_any W1).mono ?_
  rintro e W2 ⟨rfl, hb⟩
  have HX := Lib.hid (HX.out.below hb)
  have HY := Lib.hid (HY.out.below hb)
  have HM := Lib.hid (HM.out.quiet hb)
  clear hb
  have hop := open_mine HM.out c HC.out (by simp) (by simp) (by decide) (by decide) (by decide) (by decide)
  rw [openE_first] at hop
  unfold Circ.val at hop
  have HOP := Lib.hid hop
  clear hop
  go_wp2_with (refine wpList_load_row (by rfl) 31 (.tmp 2) (by rfl) w.heap.size (by rfl) 31 c.cells.toArray (0, 0) _ HX.out Try.underlying31 rfl HIc.out ?_)
  refine HOP.out.mono ?_
  rintro e W3 ⟨rfl, h1, h2, h3⟩
  have HX := Lib.hid (h3 _ _ _ HX.out)
  have HY := Lib.hid (h3 _ _ _ HY.out)
  by_cases hz : chk 0 0 c.i c.o = 0
  · have HM := Lib.hid (h2 hz)
    rw [hz]
    clear h1 h2 h3 hz HOP
    have c0 := HX.out.cell 0
    have c1 := HX.out.cell 1
    have d0 := HY.out.cell 0
    have d1 := HY.out.cell 1
    simp [Circ.cells] at c0 c1 d0 d1
    have fy := fun i => HY.out.free i
    have lx := HX.out.lt
    have ly := HY.out.lt
    have HC1 : Hid ((⟨⟨c.i.key, d.i.amt, d.i.exp⟩, d.o, d.h⟩ : Circ).ok) := Lib.hid ⟨⟨HC.out.i.c0, HC.out.i.c1, HC.out.i.i0, HC.out.i.i1, HD.out.i.a0, HD.out.i.a1, HD.out.i.e0, HD.out.i.e1⟩, HD.out.o, HD.out.h, HD.out.one⟩
    have HY4 : Hid (Blk ((W3.setCell ⟨w.heap.size + 1, 0, none⟩ (.int .u32 c.i.key.ch)).setCell ⟨w.heap.size + 1, 1, none⟩ (.int .u64 c.i.key.id)) (w.heap.size + 1) 31 (⟨⟨c.i.key, d.i.amt, d.i.exp⟩, d.o, d.h⟩ : Circ).cells.toArray) := Lib.hid ((HY.out.set 0 _).set 1 _)
    have HX4 : Hid (Blk ((W3.setCell ⟨w.heap.size + 1, 0, none⟩ (.int .u32 c.i.key.ch)).setCell ⟨w.heap.size + 1, 1, none⟩ (.int .u64 c.i.key.id)) w.heap.size 31 c.cells.toArray) := Lib.hid ((HX.out.setCell (p := ⟨w.heap.size + 1, 0, none⟩) (by simp) _).setCell (p := ⟨w.heap.size + 1, 1, none⟩) (by simp) _)
    have HM4 : Hid (Mine w g 0 0 (put [] c.i.key c) (put [] c.o.key c.i.key) ((W3.setCell ⟨w.heap.size + 1, 0, none⟩ (.int .u32 c.i.key.ch)).setCell ⟨w.heap.size + 1, 1, none⟩ (.int .u64 c.i.key.id))) := Lib.hid ((HM.out.write HY.out (by omega) 0 _).write (HY.out.set 0 _) (by omega) 1 _)
    have hop := open_mine HM4.out ⟨⟨c.i.key, d.i.amt, d.i.exp⟩, d.o, d.h⟩ HC1.out (put_ok c HC.out).1 (put_ok c HC.out).2 (by decide) (by decide) (by decide) (by decide)
    have hne := openE_in c ⟨⟨c.i.key, d.i.amt, d.i.exp⟩, d.o, d.h⟩ rfl
    generalize openE 0 0 (put [] c.i.key c) (put [] c.o.key c.i.key) ⟨⟨c.i.key, d.i.amt, d.i.exp⟩, d.o, d.h⟩ = f at *
    unfold Circ.val at hop
    have HOP := Lib.hid hop
    have HNE := Lib.hid hne
    have HI1 : Hid ((Try.prog.info? 31).map (·.size) = some (⟨⟨c.i.key, d.i.amt, d.i.exp⟩, d.o, d.h⟩ : Circ).cells.toArray.size) := Lib.hid (by rw [info31]; simp [Circ.len (c := ⟨⟨c.i.key, d.i.amt, d.i.exp⟩, d.o, d.h⟩) HD.out.h])
    clear hop hne HX HY HM
    go_wp2_with (refine wpList_load_row (by rfl) 31 (.tmp 3) (by rfl) (w.heap.size + 1) (by rfl) 31 (⟨⟨c.i.key, d.i.amt, d.i.exp⟩, d.o, d.h⟩ : Circ).cells.toArray (0, 0) _ HY4.out Try.underlying31 rfl HI1.out ?_)
    refine HOP.out.mono ?_
    rintro e W5 ⟨rfl, h1, _, h3⟩
    have HX := Lib.hid (h3 _ _ _ HX4.out)
    have HY := Lib.hid (h3 _ _ _ HY4.out)
    have HM := Lib.hid (h1 HNE.out)
    have hf : (f != 0) = true := by simp [HNE.out]
    clear c0 c1 d0 d1 fy lx ly h1 h3 HY4 HX4 HM4 HOP HI1
    have c4 := HX.out.cell 4
    have c5 := HX.out.cell 5
    have d1 := HY.out.cell 1
    have d4 := HY.out.cell 4
    have d5 := HY.out.cell 5
    simp [Circ.cells] at c4 c5 d1 d4 d5
    have fy := fun i => HY.out.free i
    have lx := HX.out.lt
    have ly := HY.out.lt
    have hi0 := HC.out.i.i0
    have hi1 := HC.out.i.i1
    have hw := wrap_u64 (c.i.key.id + 1)
    generalize hn : IntKind.u64.wrap (c.i.key.id + 1) = nid at *
    have HN := Lib.hid hn
    clear hn
    obtain ⟨d2, hd2⟩ : ∃ d2 : Circ, d2 = ⟨⟨⟨c.i.key.ch, nid⟩, d.i.amt, d.i.exp⟩, ⟨c.o.key, d.o.amt, d.o.exp⟩, d.h⟩ := ⟨_, rfl⟩
    have hok2 : d2.ok := by subst hd2; exact ⟨⟨HC.out.i.c0, HC.out.i.c1, hw.1, hw.2, HD.out.i.a0, HD.out.i.a1, HD.out.i.e0, HD.out.i.e1⟩, ⟨HC.out.o.c0, HC.out.o.c1, HC.out.o.i0, HC.out.o.i1, HD.out.o.a0, HD.out.o.a1, HD.out.o.e0, HD.out.o.e1⟩, HD.out.h, HD.out.one⟩
    have HD2 := Lib.hid hd2
    have HC2 := Lib.hid hok2
    have HY6 : Hid (Blk (((W5.setCell ⟨w.heap.size + 1, 1, none⟩ (.int .u64 nid)).setCell ⟨w.heap.size + 1, 4, none⟩ (.int .u32 c.o.key.ch)).setCell ⟨w.heap.size + 1, 5, none⟩ (.int .u64 c.o.key.id)) (w.heap.size + 1) 31 d2.cells.toArray) := Lib.hid (by rw [hd2]; exact ((HY.out.set 1 _).set 4 _).set 5 _)
    have HM6 : Hid (Mine w g 0 0 (put [] c.i.key c) (put [] c.o.key c.i.key) (((W5.setCell ⟨w.heap.size + 1, 1, none⟩ (.int .u64 nid)).setCell ⟨w.heap.size + 1, 4, none⟩ (.int .u32 c.o.key.ch)).setCell ⟨w.heap.size + 1, 5, none⟩ (.int .u64 c.o.key.id))) := Lib.hid (((HM.out.write HY.out (by omega) 1 _).write (HY.out.set 1 _) (by omega) 4 _).write ((HY.out.set 1 _).set 4 _) (by omega) 5 _)
    have hop := open_mine HM6.out d2 hok2 (put_ok c HC.out).1 (put_ok c HC.out).2 (by decide) (by decide) (by decide) (by decide)
    have hout := openE_out c d2 (by rw [hd2])
    have HK := Lib.hid (chk_vals d2.i d2.o)
    have hck := fun W (hW : Mine w g 0 0 (put [] c.i.key c) (put [] c.o.key c.i.key) W) => check_mine hW d2.i d2.o hok2.i hok2.o (by decide) (by decide) (by decide) (by decide)
    generalize openE 0 0 (put [] c.i.key c) (put [] c.o.key c.i.key) d2 = gv at *
    generalize chk 0 0 d2.i d2.o = hv at *
    unfold Circ.val at hop
    have hwr : (gv ≠ 0) := by rw [hout]; have := HK.out; split <;> omega
    have HOP := Lib.hid hop
    have HWR := Lib.hid hwr
    have HOUT := Lib.hid hout
    unfold Leg.val at hck
    have HCK := Lib.hid hck
    have HI2 : Hid ((Try.prog.info? 31).map (·.size) = some d2.cells.toArray.size) := Lib.hid (by rw [info31]; simp [Circ.len hok2.h])
    clear hop hwr hout hck hok2 hd2 HX HY HM hw
    go_wp2_with ((simp only [HN.out]; refine wpList_load_row (by rfl) 31 (.tmp 3) (by rfl) (w.heap.size + 1) (by rfl) 31 d2.cells.toArray (0, 0) _ HY6.out Try.underlying31 rfl HI2.out ?_))
    refine HOP.out.mono ?_
    rintro e W7 ⟨rfl, h1, _, h3⟩
    have HY := Lib.hid (h3 _ _ _ HY6.out)
    have HM := Lib.hid (h1 HWR.out)
    clear c4 c5 d1 d4 d5 fy lx ly h1 h3 HY6 HM6 HOP HI2
    have x0 := HY.out.cell 0
    have x1 := HY.out.cell 1
    have x2 := HY.out.cell 2
    have x3 := HY.out.cell 3
    have x4 := HY.out.cell 4
    have x5 := HY.out.cell 5
    have x6 := HY.out.cell 6
    have x7 := HY.out.cell 7
    simp [Circ.cells] at x0 x1 x2 x3 x4 x5 x6 x7
    have ly := HY.out.lt
    go_wp2_with fail
    refine (HCK.out W7 HM.out).mono ?_
    rintro e W8 ⟨rfl, hM8, _⟩
    have HM8 := Lib.hid hM8
    have hl1 : ((put ([] : List (Key × Circ)) c.i.key c).length : Int) = 1 := by simp [put]
    have hlen := len_mine hM8
    rw [hl1] at hlen
    clear x0 x1 x2 x3 x4 x5 x6 x7 hM8 hl1 HY HM ly
    by_cases h0 : hv = 0
    · have hg : gv = 4 := by have := HOUT.out; rw [if_pos h0] at this; exact this
      subst h0 hg
      go_wp2_with fail
      refine hlen.mono ?_
      rintro e w' ⟨rfl, rfl⟩
      go_wp2
      go_ret
      exact ⟨rfl, HM8.out.b⟩
    · have hg : gv = hv := by have := HOUT.out; rw [if_neg h0] at this; exact this
      subst hg
      have k0 : (gv == 0) = false := by simp [h0]
      have k4 : (gv == 4) = false := by have := HK.out; simp; omega
      go_wp2_with fail
      refine hlen.mono ?_
      rintro e w' ⟨rfl, rfl⟩
      go_wp2
      go_ret
      exact ⟨rfl, HM8.out.b⟩
  · have HM := Lib.hid (h1 hz)
    have hz' : (chk 0 0 c.i c.o != 0) = true := by simp [hz]
    generalize chk 0 0 c.i c.o = v at *
    clear h1 h2 h3 hz HOP
    go_wp2_with fail
    refine (len_mine HM.out).mono ?_
    rintro e w' ⟨rfl, rfl⟩
    simp only [List.length_nil]
    go_wp2
    go_ret
    exact ⟨rfl, HM.out.b⟩
end Go.Proofs.Ytgehdkbjcpdjoaa
