/- The walks of circuit.New, Len and Open; no condition. -/
import Derived.Test.YtgehdkbjcpdjoaaCk
namespace Go.Proofs.Ytgehdkbjcpdjoaa
open Go.RowKit Go.ChangeMaps
set_option linter.unusedVariables false
set_option linter.unusedSimpArgs false

def Key.val (k : Key) : Value := .agg #[.int .u32 k.ch, .int .u64 k.id]
structure Key.ok (k : Key) : Prop where
  c0 : 0 ≤ k.ch
  c1 : k.ch < 4294967296
  i0 : 0 ≤ k.id
  i1 : k.id < 18446744073709551616
structure Circ where
  i : Leg
  o : Leg
  h : List Value
def Circ.cells (c : Circ) : List Value := [.int .u32 c.i.key.ch, .int .u64 c.i.key.id, .int .u64 c.i.amt, .int .i64 c.i.exp, .int .u32 c.o.key.ch, .int .u64 c.o.key.id, .int .u64 c.o.amt, .int .i64 c.o.exp] ++ c.h
def Circ.val (c : Circ) : Value := .agg c.cells.toArray

theorem keyed25 : Maps.Keyed Try.prog 25 := Maps.Keyed.of_law (deep_law_laid (by kernel_rfl) (m := 4) (by omega) (of_decide_eq_true (by kernel_rfl)) (by kernel_rfl) (by kernel_rfl))
theorem keyval : KeyVal Try.prog 25 Key.val Key.ok := by
  refine ⟨fun k hk => ?_, fun a b h => ?_⟩
  · obtain ⟨m, hm⟩ : ∃ m, Try.prog.types.size = m + 1 := ⟨_, show Try.prog.types.size = (Try.prog.types.size - 1) + 1 by have : 0 < Try.prog.types.size := of_decide_eq_true (by kernel_rfl); omega⟩
    have h25 : Try.prog.cellsOf 25 = 2 := by kernel_rfl
    have h22 : Try.prog.cellsOf 22 = 1 := by kernel_rfl
    have h23 : Try.prog.cellsOf 23 = 1 := by kernel_rfl
    have hkt : Try.prog.keyType 25 = true := by kernel_rfl
    obtain ⟨a0, a1, b0, b1⟩ := hk
    have w1 : (Lit.int .u32 k.ch).wf = true := by simp [Lit.wf, show IntKind.u32.min = 0 from rfl, show IntKind.u32.max = 4294967295 from rfl]; omega
    have w2 : (Lit.int .u64 k.id).wf = true := by simp [Lit.wf, show IntKind.u64.min = 0 from rfl, show IntKind.u64.max = 18446744073709551615 from rfl]; omega
    have hl : Try.prog.keyLits (Try.prog.types.size + 1) 25 [.int .u32 k.ch, .int .u64 k.id] = some [.int .u32 k.ch, .int .u64 k.id] := by
      rw [hm]
      simp [Program.keyLits, Try.underlying25, Try.underlying22, Try.underlying23, h25, h22, h23, w1, w2]
    refine ⟨.string (keyBytes [.int .u32 k.ch, .int .u64 k.id]), ?_⟩
    unfold keyOf
    rw [Try.underlying25]
    simp only [Key.val, hkt, Value.formed, Try.underlying25, h25]
    rw [if_pos (by rfl)]
    show Option.map _ (Try.prog.keyLits (Try.prog.types.size + 1) 25 [.int .u32 k.ch, .int .u64 k.id]) = _
    rw [hl]
    rfl
  · obtain ⟨a1, a2⟩ := a
    obtain ⟨b1, b2⟩ := b
    unfold Key.val at h
    injection h with h
    simp at h
    simp [h]

theorem new_any (base rate : Int) (w : World) :
    Calls Try.prog 4 #[.int .u64 base, .int .u64 rate] w fun e w' => e = .returned (.pointer (some ⟨w.heap.size + 2, 0, none⟩)) ∧ w' = ((w.alloc (.map #[] 0)).alloc (.map #[] 0)).alloc (.cells #[.int .u64 base, .int .u64 rate, .map (some w.heap.size), .map (some (w.heap.size + 1))] 43) := by
  have hmm := @run_makeMap Try.prog
  go_enter Try.func4, Try.ntmps4
  go_wp2
  go_ret
  exact ⟨rfl, rfl⟩

/-- A map of circuits in memory. -/
structure CircAt (w : World) (g : Nat) (base rate : Int) (b1 b2 : Nat) (l : List (Key × Circ)) (o : List (Key × Key)) (es1 : Array MapEntry) (k1 : Nat) (es2 : Array MapEntry) (k2 : Nat) : Prop where
  ptr : Blk w g 43 #[.int .u64 base, .int .u64 rate, .map (some b1), .map (some b2)]
  m1 : Mp w b1 es1 k1
  m2 : Mp w b2 es2 k2
  o1 : MapObj Key.val Circ.val l es1 k1
  o2 : MapObj Key.val Key.val o es2 k2
  ne : b1 ≠ b2

structure Circ.ok (c : Circ) : Prop where
  i : c.i.ok
  o : c.o.ok
  h : c.h.length = 32
  one : ∀ v ∈ c.h, v.oneCell' = true
theorem Leg.ok.key {x : Leg} (h : x.ok) : x.key.ok := ⟨h.c0, h.c1, h.i0, h.i1⟩

theorem run_len_map {P : Program} {t k e ty : TypeId} (ht : P.underlying t = some (.map k e)) {b : Nat} {es : Array MapEntry} {clock : Nat} {w : World} (hb : w.heap[b]? = some (.map es clock)) :
    (Builtin.len_ #[t] ty #[.map (some b)]).run P w = .ok (.int .i64 es.size) w := by
  simp [Builtin.len_, run_underlying ht, MapKept.run_getObj_map hb, goInt]
theorem len_any (g : Nat) (base rate : Int) (b1 b2 : Nat) (l : List (Key × Circ)) (o : List (Key × Key)) (es1 : Array MapEntry) (k1 : Nat) (es2 : Array MapEntry) (k2 : Nat) (w : World) (h : CircAt w g base rate b1 b2 l o es1 k1 es2 k2) :
    Calls Try.prog 7 #[.pointer (some ⟨g, 0, none⟩)] w fun e w' => e = .returned (.int .i64 (l.length : Int)) ∧ w' = w := by
  have hp := h.ptr.cell 2
  simp at hp
  have hb := h.m1
  unfold Mp at hb
  have hrun := run_len_map (ty := 3) Try.underlying40 hb
  have hl : es1.size = l.length := by have := h.o1.len; simpa using this
  have hlt := h.ptr.lt
  rw [hl] at hrun
  clear h hb hl
  go_enter Try.func7, Try.ntmps7
  go_wp2
  go_ret
  exact ⟨rfl, rfl⟩

/-- What Open answers. -/
def openE (base rate : Int) (l : List (Key × Circ)) (o : List (Key × Key)) (c : Circ) : Int :=
  if chk base rate c.i c.o ≠ 0 then chk base rate c.i c.o else if (get l c.i.key).isSome || (get o c.o.key).isSome then 4 else if 64 ≤ l.length then 2 else 0

def zeroCirc : Circ := ⟨⟨⟨0, 0⟩, 0, 0⟩, ⟨⟨0, 0⟩, 0, 0⟩, List.replicate 32 (.int .u8 0)⟩
theorem zero31 (u : World) : (zeroValue 31).run Try.prog u = .ok zeroCirc.val u := by kernel_rfl
theorem zero25 (u : World) : (zeroValue 25).run Try.prog u = .ok (Key.val ⟨0, 0⟩) u := by kernel_rfl
theorem info31 : (Try.prog.info? 31).map (·.size) = some 40 := by kernel_rfl
theorem Circ.len {c : Circ} (h : c.h.length = 32) : c.cells.length = 40 := by simp [Circ.cells, h]
theorem Circ.ones {c : Circ} (h : ∀ v ∈ c.h, v.oneCell' = true) : ∀ v ∈ c.cells, v.oneCell' = true := by
  intro v hv
  simp only [Circ.cells, List.mem_append, List.mem_cons, List.not_mem_nil, or_false] at hv
  rcases hv with (rfl | rfl | rfl | rfl | rfl | rfl | rfl | rfl) | hv
  iterate 8 rfl
  exact h v hv

theorem setRow_new (W : World) (Z V : Array Value) (t : TypeId) : (W.alloc (.cells Z t)).drew.setRow W.heap.size V = (W.alloc (.cells V t)).drew := by
  have : (W.heap.push (Obj.cells Z t (0, 0))).modify W.heap.size (fun | .cells _ elem frozen => .cells V elem frozen | o => o) = W.heap.push (Obj.cells V t (0, 0)) := by
    apply Array.ext'
    rw [Array.toList_modify, Array.toList_push, Array.toList_push, ← Array.length_toList, Go.WideElems.modify_last]
  have h2 : (W.alloc (.cells Z t)).drew.setRow W.heap.size V = { (W.alloc (.cells Z t)).drew with heap := (W.heap.push (Obj.cells Z t (0, 0))).modify W.heap.size (fun | .cells _ elem frozen => .cells V elem frozen | o => o) } := rfl
  rw [h2, this]
  rfl
/-- A circuit is written into a variable that was just made. -/
theorem store_new (W : World) (Z : Array Value) (V : List Value) (hZ : Z.size = 40) (hV : V.length = 40) (h1 : ∀ v ∈ V, v.oneCell' = true) :
    (storeCells ⟨W.heap.size, 0, none⟩ V).run Try.prog (W.alloc (.cells Z 31)).drew = .ok () (W.alloc (.cells V.toArray 31)).drew := by
  have := run_storeCells_from (P := Try.prog) W.heap.size 31 V 0 Z (W.alloc (.cells Z 31)).drew (heap_new_at W _ _ rfl) (by simp [hZ, hV]) (fun v hv => h1 v hv)
  rw [this, setRow_new]
  simp

/-- What Open leaves. -/
def Opened (g : Nat) (base rate : Int) (b1 b2 : Nat) (l : List (Key × Circ)) (o : List (Key × Key)) (es1 : Array MapEntry) (k1 : Nat) (es2 : Array MapEntry) (k2 : Nat) (c : Circ) (w : World) (e : Ending) (w' : World) : Prop :=
  e = .returned (.int .i64 (openE base rate l o c)) ∧ ((openE base rate l o c ≠ 0 ∧ Below w.heap.size w w') ∨
    (openE base rate l o c = 0 ∧ (∃ es1' k1' es2' k2', CircAt w' g base rate b1 b2 (put l c.i.key c) (put o c.o.key c.i.key) es1' k1' es2' k2') ∧ Upd (fun x => x = b1 ∨ x = b2) w w'))
theorem noPanic_mk {Q : Exit → Act → World → Prop} {a : Act} {w : World} (h : Q .normal a w) : NoPanic Q .normal a w := h
theorem merge {G : Prop} (p : Prop) (k : Hid p → G) (h : p) : G := k h

/-- What the storing of both entries reads. -/
theorem reads {W : World} {g xb b1 b2 : Nat} {base rate : Int} {c : Circ} (hc : c.h.length = 32) (hP : Blk W g 43 #[.int .u64 base, .int .u64 rate, .map (some b1), .map (some b2)]) (hX : Blk W xb 31 c.cells.toArray) :
    W.cell? ⟨g, 2, none⟩ = some (.map (some b1)) ∧ W.cell? ⟨g, 3, none⟩ = some (.map (some b2)) ∧ W.cell? ⟨xb, 0, none⟩ = some (.int .u32 c.i.key.ch) ∧ W.cell? ⟨xb, 1, none⟩ = some (.int .u64 c.i.key.id) ∧
      W.cell? ⟨xb, 4, none⟩ = some (.int .u32 c.o.key.ch) ∧ W.cell? ⟨xb, 5, none⟩ = some (.int .u64 c.o.key.id) ∧ W.rangeAt xb 0 c.cells :=
  ⟨hP.cell 2, hP.cell 3, (hX.cell 0).trans rfl, (hX.cell 1).trans rfl, (hX.cell 4).trans rfl, (hX.cell 5).trans rfl, by simpa using hX.range⟩

set_option maxRecDepth 100000 in
set_option maxHeartbeats 4000000 in
theorem open_any (g : Nat) (base rate : Int) (b1 b2 : Nat) (l : List (Key × Circ)) (o : List (Key × Key)) (es1 : Array MapEntry) (k1 : Nat) (es2 : Array MapEntry) (k2 : Nat) (c : Circ) (w : World) (h : CircAt w g base rate b1 b2 l o es1 k1 es2 k2)
    (hc : c.ok) (hl : ∀ p ∈ l, p.1.ok ∧ p.2.ok) (ho : ∀ p ∈ o, p.1.ok) (hb0 : 0 ≤ base) (hb1 : base < 18446744073709551616) (hr0 : 0 ≤ rate) (hr1 : rate < 18446744073709551616) :
    Calls Try.prog 6 #[.pointer (some ⟨g, 0, none⟩), c.val] w (Opened g base rate b1 b2 l o es1 k1 es2 k2 c w) := by
  unfold Circ.val
  have hP := h.ptr.alloc (.cells c.cells.toArray 31)
  have hM1 := h.m1.alloc (.cells c.cells.toArray 31)
  have hM2 := h.m2.alloc (.cells c.cells.toArray 31)
  have hX := Blk.new w _ 31 c.cells.toArray rfl
  have hB := (Below.refl w.heap.size w).alloc (Nat.le_refl _) (.cells c.cells.toArray 31)
  have H := Lib.hid h
  clear h
  go_enter Try.func6, Try.ntmps6
  go_wp2_with fail
  generalize w.alloc (.cells c.cells.toArray 31) = W0 at *
  have p2 := hP.cell 2
  have q0 := hX.cell 0
  have q1 := hX.cell 1
  simp [Circ.cells] at p2 q0 q1
  obtain ⟨q, hq⟩ : ∃ q : Circ, q = (get l c.i.key).getD zeroCirc := ⟨_, rfl⟩
  have hV : (((get l c.i.key).map Circ.val).getD zeroCirc.val) = .agg q.cells.toArray := by subst hq; cases get l c.i.key <;> rfl
  have hL := fun W (hW : Mp W b1 es1 k1) => H.out.o1.lookup keyed25 keyval (fun p hp => (hl p hp).1) Try.underlying40 zero31 c.i.key hc.i.key b1 W hW
  rw [hV] at hL
  obtain ⟨isin, hin⟩ : ∃ z : Bool, z = (get l c.i.key).isSome := ⟨_, rfl⟩
  rw [← hin] at hL
  unfold Key.val at hL
  have HL0 := hL W0.drew hM1.drew
  have HL1 := hL (W0.alloc (.cells #[.int .u32 0, .int .u64 0, .int .u64 0, .int .i64 0, .int .u32 0, .int .u64 0, .int .u64 0, .int .i64 0, .int .u8 0, .int .u8 0, .int .u8 0, .int .u8 0, .int .u8 0, .int .u8 0, .int .u8 0, .int .u8 0, .int .u8 0, .int .u8 0, .int .u8 0, .int .u8 0, .int .u8 0, .int .u8 0, .int .u8 0, .int .u8 0, .int .u8 0, .int .u8 0, .int .u8 0, .int .u8 0, .int .u8 0, .int .u8 0, .int .u8 0, .int .u8 0, .int .u8 0, .int .u8 0, .int .u8 0, .int .u8 0, .int .u8 0, .int .u8 0, .int .u8 0, .int .u8 0] 31)).drew (hM1.alloc _).drew
  have qok : q.h.length = 32 ∧ ∀ v ∈ q.h, v.oneCell' = true := by
    rw [hq]
    cases hg : get l c.i.key with
    | none => exact ⟨rfl, fun v hv => by rw [show (Option.none.getD zeroCirc).h = List.replicate 32 (Value.int .u8 0) from rfl, List.mem_replicate] at hv; rw [hv.2]; rfl⟩
    | some y =>
      obtain ⟨p, hp, rfl⟩ := Option.map_eq_some_iff.1 hg
      have := (hl p (List.mem_of_find?_eq_some hp)).2
      exact ⟨this.h, this.one⟩
  have HLEN : q.cells.length = 40 := Circ.len qok.1
  have HST := store_new W0 #[.int .u32 0, .int .u64 0, .int .u64 0, .int .i64 0, .int .u32 0, .int .u64 0, .int .u64 0, .int .i64 0, .int .u8 0, .int .u8 0, .int .u8 0, .int .u8 0, .int .u8 0, .int .u8 0, .int .u8 0, .int .u8 0, .int .u8 0, .int .u8 0, .int .u8 0, .int .u8 0, .int .u8 0, .int .u8 0, .int .u8 0, .int .u8 0, .int .u8 0, .int .u8 0, .int .u8 0, .int .u8 0, .int .u8 0, .int .u8 0, .int .u8 0, .int .u8 0, .int .u8 0, .int .u8 0, .int .u8 0, .int .u8 0, .int .u8 0, .int .u8 0, .int .u8 0, .int .u8 0] q.cells rfl (Circ.len qok.1) (Circ.ones qok.2)
  have HP := Lib.hid hP
  have HM1 := Lib.hid hM1
  have HM2 := Lib.hid hM2
  have HX := Lib.hid hX
  have HB := Lib.hid hB
  have HQ := Lib.hid hq
  have HIN := Lib.hid hin
  clear hP hM1 hM2 hX hB hq hin hV hL
  have K0 : W0.drew.cell? ⟨g, 2, none⟩ = some (.map (some b1)) ∧ W0.drew.cell? ⟨w.heap.size, 0, none⟩ = some (.int .u32 c.i.key.ch) ∧ W0.drew.cell? ⟨w.heap.size, 1, none⟩ = some (.int .u64 c.i.key.id) := ⟨p2, q0, q1⟩
  have hP2 := HP.out.alloc (.cells q.cells.toArray 31)
  have K1 : (W0.alloc (.cells #[.int .u32 0, .int .u64 0, .int .u64 0, .int .i64 0, .int .u32 0, .int .u64 0, .int .u64 0, .int .i64 0, .int .u8 0, .int .u8 0, .int .u8 0, .int .u8 0, .int .u8 0, .int .u8 0, .int .u8 0, .int .u8 0, .int .u8 0, .int .u8 0, .int .u8 0, .int .u8 0, .int .u8 0, .int .u8 0, .int .u8 0, .int .u8 0, .int .u8 0, .int .u8 0, .int .u8 0, .int .u8 0, .int .u8 0, .int .u8 0, .int .u8 0, .int .u8 0, .int .u8 0, .int .u8 0, .int .u8 0, .int .u8 0, .int .u8 0, .int .u8 0, .int .u8 0, .int .u8 0] 31)).drew.cell? ⟨g, 2, none⟩ = some (.map (some b1)) ∧ (W0.alloc (.cells #[.int .u32 0, .int .u64 0, .int .u64 0, .int .i64 0, .int .u32 0, .int .u64 0, .int .u64 0, .int .i64 0, .int .u8 0, .int .u8 0, .int .u8 0, .int .u8 0, .int .u8 0, .int .u8 0, .int .u8 0, .int .u8 0, .int .u8 0, .int .u8 0, .int .u8 0, .int .u8 0, .int .u8 0, .int .u8 0, .int .u8 0, .int .u8 0, .int .u8 0, .int .u8 0, .int .u8 0, .int .u8 0, .int .u8 0, .int .u8 0, .int .u8 0, .int .u8 0, .int .u8 0, .int .u8 0, .int .u8 0, .int .u8 0, .int .u8 0, .int .u8 0, .int .u8 0, .int .u8 0] 31)).drew.cell? ⟨w.heap.size, 0, none⟩ = some (.int .u32 c.i.key.ch) ∧ (W0.alloc (.cells #[.int .u32 0, .int .u64 0, .int .u64 0, .int .i64 0, .int .u32 0, .int .u64 0, .int .u64 0, .int .i64 0, .int .u8 0, .int .u8 0, .int .u8 0, .int .u8 0, .int .u8 0, .int .u8 0, .int .u8 0, .int .u8 0, .int .u8 0, .int .u8 0, .int .u8 0, .int .u8 0, .int .u8 0, .int .u8 0, .int .u8 0, .int .u8 0, .int .u8 0, .int .u8 0, .int .u8 0, .int .u8 0, .int .u8 0, .int .u8 0, .int .u8 0, .int .u8 0, .int .u8 0, .int .u8 0, .int .u8 0, .int .u8 0, .int .u8 0, .int .u8 0, .int .u8 0, .int .u8 0] 31)).drew.cell? ⟨w.heap.size, 1, none⟩ = some (.int .u64 c.i.key.id) := ⟨Bcell ((Below.refl _ _).alloc (Nat.le_refl _) _) p2, Bcell ((Below.refl _ _).alloc (Nat.le_refl _) _) q0, Bcell ((Below.refl _ _).alloc (Nat.le_refl _) _) q1⟩
  have K2 : (W0.alloc (.cells q.cells.toArray 31)).drew.cell? ⟨g, 2, none⟩ = some (.map (some b1)) ∧ (W0.alloc (.cells q.cells.toArray 31)).drew.cell? ⟨w.heap.size, 0, none⟩ = some (.int .u32 c.i.key.ch) ∧ (W0.alloc (.cells q.cells.toArray 31)).drew.cell? ⟨w.heap.size, 1, none⟩ = some (.int .u64 c.i.key.id) := ⟨Bcell ((Below.refl _ _).alloc (Nat.le_refl _) _) p2, Bcell ((Below.refl _ _).alloc (Nat.le_refl _) _) q0, Bcell ((Below.refl _ _).alloc (Nat.le_refl _) _) q1⟩
  clear hP2
  refine' merge _ (fun hrest => ?reg) ?rest
  case reg =>
    go_region_held3 (fun W => W.cell? ⟨g, 2, none⟩ = some (.map (some b1)) ∧ W.cell? ⟨w.heap.size, 0, none⟩ = some (.int .u32 c.i.key.ch) ∧ W.cell? ⟨w.heap.size, 1, none⟩ = some (.int .u64 c.i.key.id)) (with_reducible assumption) (fail)
    all_goals exact hrest.out
  clear K0 K1 K2 HL0 HL1 HST
  have hB1 := Lib.hid (HB.out.trans (((Below.refl _ _).alloc (Nat.le_refl _) (.cells q.cells.toArray 31)).drew.mono HB.out.size))
  have hP1 := (HP.out.alloc (.cells q.cells.toArray 31)).drew
  have hM11 := (HM1.out.alloc (.cells q.cells.toArray 31)).drew
  have hM21 := (HM2.out.alloc (.cells q.cells.toArray 31)).drew
  have hX1 := (HX.out.alloc (.cells q.cells.toArray 31)).drew
  clear HP HM1 HM2 HX HB p2 q0 q1
  generalize (W0.alloc (.cells q.cells.toArray 31)).drew = W1 at *
  have p3 := hP1.cell 3
  have q4 := hX1.cell 4
  have q5 := hX1.cell 5
  simp [Circ.cells] at p3 q4 q5
  obtain ⟨r, hr⟩ : ∃ r : Key, r = (get o c.o.key).getD ⟨0, 0⟩ := ⟨_, rfl⟩
  have hV : (((get o c.o.key).map Key.val).getD (Key.val ⟨0, 0⟩)) = .agg #[.int .u32 r.ch, .int .u64 r.id] := by subst hr; cases get o c.o.key <;> rfl
  have hL := fun W (hW : Mp W b2 es2 k2) => H.out.o2.lookup keyed25 keyval ho Try.underlying41 zero25 c.o.key hc.o.key b2 W hW
  rw [hV] at hL
  obtain ⟨isout, hout⟩ : ∃ z : Bool, z = (get o c.o.key).isSome := ⟨_, rfl⟩
  rw [← hout] at hL
  unfold Key.val at hL
  have HL0 := hL W1.drew hM21.drew
  have HL1 := hL (W1.alloc (.cells #[.int .u32 0, .int .u64 0] 25)).drew (hM21.alloc _).drew
  have HOUT := Lib.hid hout
  clear hL hV hr hout
  have K0 : W1.drew.cell? ⟨g, 3, none⟩ = some (.map (some b2)) ∧ W1.drew.cell? ⟨w.heap.size, 4, none⟩ = some (.int .u32 c.o.key.ch) ∧ W1.drew.cell? ⟨w.heap.size, 5, none⟩ = some (.int .u64 c.o.key.id) := ⟨p3, q4, q5⟩
  have K1 : (W1.alloc (.cells #[.int .u32 0, .int .u64 0] 25)).drew.cell? ⟨g, 3, none⟩ = some (.map (some b2)) ∧ (W1.alloc (.cells #[.int .u32 0, .int .u64 0] 25)).drew.cell? ⟨w.heap.size, 4, none⟩ = some (.int .u32 c.o.key.ch) ∧ (W1.alloc (.cells #[.int .u32 0, .int .u64 0] 25)).drew.cell? ⟨w.heap.size, 5, none⟩ = some (.int .u64 c.o.key.id) := ⟨Bcell ((Below.refl _ _).alloc (Nat.le_refl _) _) p3, Bcell ((Below.refl _ _).alloc (Nat.le_refl _) _) q4, Bcell ((Below.refl _ _).alloc (Nat.le_refl _) _) q5⟩
  have K2 : (W1.alloc (.cells #[.int .u32 r.ch, .int .u64 r.id] 25)).drew.cell? ⟨g, 3, none⟩ = some (.map (some b2)) ∧ (W1.alloc (.cells #[.int .u32 r.ch, .int .u64 r.id] 25)).drew.cell? ⟨w.heap.size, 4, none⟩ = some (.int .u32 c.o.key.ch) ∧ (W1.alloc (.cells #[.int .u32 r.ch, .int .u64 r.id] 25)).drew.cell? ⟨w.heap.size, 5, none⟩ = some (.int .u64 c.o.key.id) := ⟨Bcell ((Below.refl _ _).alloc (Nat.le_refl _) _) p3, Bcell ((Below.refl _ _).alloc (Nat.le_refl _) _) q4, Bcell ((Below.refl _ _).alloc (Nat.le_refl _) _) q5⟩
  have HP1 := Lib.hid hP1
  have HM11 := Lib.hid hM11
  have HM21 := Lib.hid hM21
  have HX1 := Lib.hid hX1
  clear hP1 hM11 hM21 hX1
  go_wp2_with fail
  refine' merge _ (fun hrest => ?reg2) ?rest2
  case reg2 =>
    go_region_held3 (fun W => W.cell? ⟨g, 3, none⟩ = some (.map (some b2)) ∧ W.cell? ⟨w.heap.size, 4, none⟩ = some (.int .u32 c.o.key.ch) ∧ W.cell? ⟨w.heap.size, 5, none⟩ = some (.int .u64 c.o.key.id)) (with_reducible assumption) (fail)
    all_goals exact hrest.out
  clear K0 K1 K2 HL0 HL1
  have hB2 := Lib.hid (hB1.out.trans (((Below.refl _ _).alloc (Nat.le_refl _) (.cells #[.int .u32 r.ch, .int .u64 r.id] 25)).drew.mono hB1.out.size))
  have hP2 := (HP1.out.alloc (.cells #[.int .u32 r.ch, .int .u64 r.id] 25)).drew
  have hM12 := (HM11.out.alloc (.cells #[.int .u32 r.ch, .int .u64 r.id] 25)).drew
  have hM22 := (HM21.out.alloc (.cells #[.int .u32 r.ch, .int .u64 r.id] 25)).drew
  have hX2 := (HX1.out.alloc (.cells #[.int .u32 r.ch, .int .u64 r.id] 25)).drew
  clear HP1 HM11 HM21 HX1 hB1 p3 q4 q5
  generalize (W1.alloc (.cells #[.int .u32 r.ch, .int .u64 r.id] 25)).drew = W2 at *
  have x0 := hX2.cell 0
  have x1 := hX2.cell 1
  have x2 := hX2.cell 2
  have x3 := hX2.cell 3
  have x4 := hX2.cell 4
  have x5 := hX2.cell 5
  have x6 := hX2.cell 6
  have x7 := hX2.cell 7
  simp [Circ.cells] at x0 x1 x2 x3 x4 x5 x6 x7
  have hck := check_any g base rate c.i c.o W2 hc.i hc.o hb0 hb1 hr0 hr1 (hP2.cell 0) (hP2.cell 1)
  unfold Leg.val at hck
  have HX2 := Lib.hid hX2
  have HP2 := Lib.hid hP2
  have HM12 := Lib.hid hM12
  have HM22 := Lib.hid hM22
  have hxl := hX2.lt
  have hE : openE base rate l o c = if chk base rate c.i c.o ≠ 0 then chk base rate c.i c.o else if isin || isout then 4 else if 64 ≤ l.length then 2 else 0 := by rw [HIN.out, HOUT.out]; rfl
  generalize chk base rate c.i c.o = ce at *
  have HE := Lib.hid hE
  clear hX2 hP2 hM12 hM22 hE
  go_wp2_with fail
  refine hck.mono ?_
  rintro e W3 ⟨rfl, hb3⟩
  have hB3 := Lib.hid (hB2.out.trans (hb3.mono hB2.out.size))
  have hP3 := HP2.out.below hb3
  have hM13 := HM12.out.below hb3
  have hM23 := HM22.out.below hb3
  have hX3 := HX2.out.below hb3
  clear x0 x1 x2 x3 x4 x5 x6 x7 hck hb3 HX2 HP2 HM12 HM22 hB2 hxl
  by_cases hce : ce = 0
  · subst hce
    cases isin with
    | true =>
      have e := HE.out
      simp at e
      have HE2 := Lib.hid e
      clear e
      go_wp2
      go_ret
      exact ⟨congrArg (fun z => Ending.returned (Value.int .i64 z)) HE2.out.symm, .inl ⟨by rw [HE2.out]; decide, hB3.out⟩⟩
    | false =>
    cases isout with
    | true =>
      have e := HE.out
      simp at e
      have HE2 := Lib.hid e
      clear e
      go_wp2
      go_ret
      exact ⟨congrArg (fun z => Ending.returned (Value.int .i64 z)) HE2.out.symm, .inl ⟨by rw [HE2.out]; decide, hB3.out⟩⟩
    | false =>
    have p2 := hP3.cell 2
    simp at p2
    have hxl := hP3.lt
    have hrun := run_len_map (ty := 3) Try.underlying40 hM13
    have hes : es1.size = l.length := by have := H.out.o1.len; simpa using this
    rw [hes] at hrun
    clear hes
    by_cases h64 : 64 ≤ l.length
    · have h64' : (64 : Int) ≤ (l.length : Int) := by omega
      have e := HE.out
      simp [h64] at e
      have HE2 := Lib.hid e
      clear e h64
      go_wp2
      go_ret
      exact ⟨congrArg (fun z => Ending.returned (Value.int .i64 z)) HE2.out.symm, .inl ⟨by rw [HE2.out]; decide, hB3.out⟩⟩
    · have h64' : ¬ (64 : Int) ≤ (l.length : Int) := by omega
      have e := HE.out
      simp [h64] at e
      have HE2 := Lib.hid e
      clear e h64
      obtain ⟨v1, s1, f1, n1, g1, O1, E1, T1⟩ := H.out.o1.store keyed25 keyval (fun p hp => (hl p hp).1) Try.underlying40 zero31 c.i.key c hc.i.key b1
      obtain ⟨v2, s2, f2, n2, g2, O2, E2, T2⟩ := H.out.o2.store keyed25 keyval ho Try.underlying41 zero25 c.o.key c.i.key hc.o.key b2
      have hne := H.out.ne
      have hPm1 := hP3.ne_map hM13
      have hPm2 := hP3.ne_map hM23
      have hXm1 := hX3.ne_map hM13
      have hXm2 := hX3.ne_map hM23
      have HO := Lib.hid (And.intro O1 O2)
      clear O1 O2
      -- the worlds
      have hPA := hP3.drew.setBlock hPm1.symm (.map f1 n1)
      have hPB := hPA.setBlock hPm1.symm (.map g1 n1)
      have hPC := hPB.setBlock hPm2.symm (.map f2 n2)
      have hPD := hPC.setBlock hPm2.symm (.map g2 n2)
      have hXA := hX3.drew.setBlock hXm1.symm (.map f1 n1)
      have hXB := hXA.setBlock hXm1.symm (.map g1 n1)
      have hXC := hXB.setBlock hXm2.symm (.map f2 n2)
      have hXD := hXC.setBlock hXm2.symm (.map g2 n2)
      have mA := hM13.drew.set f1 n1
      have mB := mA.set g1 n1
      have mB2 := (hM23.drew.setBlock (p := b1) hne (.map f1 n1)).setBlock (p := b1) hne (.map g1 n1)
      have mC := mB2.set f2 n2
      have mD := mC.set g2 n2
      have mD1 := (mB.setBlock (p := b2) hne.symm (.map f2 n2)).setBlock (p := b2) hne.symm (.map g2 n2)
      have e1 := E1 _ hM13.drew
      have t1 := T1 _ mA
      have e2 := E2 _ mB2
      have t2 := T2 _ mC
      have r0 := reads hc.h hP3.drew hX3.drew
      have rA := reads hc.h hPA hXA
      have rB := reads hc.h hPB hXB
      have rC := reads hc.h hPC hXC
      have rD := reads hc.h hPD hXD
      unfold Key.val Circ.val at *
      simp only [goInt] at e1 t1 e2 t2
      have hu31 := Try.underlying31
      have hi31 : (Try.prog.info? 31).map (·.size) = some c.cells.length := by rw [info31, Circ.len hc.h]
      have HD := Lib.hid (And.intro hPD (And.intro mD1 mD))
      clear hPA hPB hPC hPD hXA hXB hXC hXD mA mB mB2 mC mD mD1 E1 T1 E2 T2 hP3 hM13 hM23 hX3
      go_wp2_with fail
      refine wp_region_noPanic ?_
      refine wp_region_held_drew (S := (fun W => W.cell? ⟨g, 2, none⟩ = some (.map (some b1)) ∧ W.cell? ⟨g, 3, none⟩ = some (.map (some b2)) ∧ W.cell? ⟨w.heap.size, 0, none⟩ = some (.int .u32 c.i.key.ch) ∧ W.cell? ⟨w.heap.size, 1, none⟩ = some (.int .u64 c.i.key.id) ∧ W.cell? ⟨w.heap.size, 4, none⟩ = some (.int .u32 c.o.key.ch) ∧ W.cell? ⟨w.heap.size, 5, none⟩ = some (.int .u64 c.o.key.id) ∧ W.rangeAt w.heap.size 0 c.cells)) (by kernel_rfl) ?_ (fun hHeld => ?_)
      · with_reducible assumption
      refine wpAnyH_take (i := 0) (v := ?v0) rfl (by kernel_rfl) (by kernel_rfl) (by kernel_rfl) (fun _ _ _ h => False.elim h) (Or.inl ⟨by rfl, ?hy0⟩) (by assumption) ?r0
      case hy0 => (intro w hSw; (try dsimp only at hSw); go_simp; try with_reducible rfl)
      try simp only [List.getElem_toArray, List.getElem_cons_zero, List.getElem_cons_succ, Act.put, List.setIfInBounds_toArray, List.set_cons_zero, List.set_cons_succ]
      refine wpAnyH_take (i := 1) (v := ?v1) rfl (by kernel_rfl) (by kernel_rfl) (by kernel_rfl) (fun _ _ _ h => False.elim h) (Or.inl ⟨by rfl, ?hy1⟩) (by assumption) ?r1
      case hy1 => (intro w hSw; (try dsimp only at hSw); go_simp; try with_reducible rfl)
      try simp only [List.getElem_toArray, List.getElem_cons_zero, List.getElem_cons_succ, Act.put, List.setIfInBounds_toArray, List.set_cons_zero, List.set_cons_succ]
      refine wpAnyH_take (i := 2) (v := ?v2) rfl (by kernel_rfl) (by kernel_rfl) (by kernel_rfl) (fun _ _ _ h => False.elim h) (Or.inl ⟨by rfl, ?hy2⟩) (by assumption) ?r2
      case hy2 => (intro w hSw; (try dsimp only at hSw); go_simp; try with_reducible rfl)
      try simp only [List.getElem_toArray, List.getElem_cons_zero, List.getElem_cons_succ, Act.put, List.setIfInBounds_toArray, List.set_cons_zero, List.set_cons_succ]
      refine wpAnyH_take (i := 3) (v := ?v3) rfl (by kernel_rfl) (by kernel_rfl) (by kernel_rfl) (fun _ _ _ h => False.elim h) (Or.inl ⟨by rfl, ?hy3⟩) (by assumption) ?r3
      case hy3 => (intro w hSw; (try dsimp only at hSw); go_simp; try with_reducible rfl)
      try simp only [List.getElem_toArray, List.getElem_cons_zero, List.getElem_cons_succ, Act.put, List.setIfInBounds_toArray, List.set_cons_zero, List.set_cons_succ]
      refine wpAnyH_take (i := 4) (v := ?v4) rfl (by kernel_rfl) (by kernel_rfl) (by kernel_rfl) (fun _ _ _ h => False.elim h) (Or.inl ⟨by rfl, ?hy4⟩) (by assumption) ?r4
      case hy4 => (intro w hSw; (try dsimp only at hSw); go_simp; try with_reducible rfl)
      try simp only [List.getElem_toArray, List.getElem_cons_zero, List.getElem_cons_succ, Act.put, List.setIfInBounds_toArray, List.set_cons_zero, List.set_cons_succ]
      refine wpAnyH_take (i := 5) (v := ?v5) rfl (by kernel_rfl) (by kernel_rfl) (by kernel_rfl) (fun _ _ _ h => False.elim h) (Or.inl ⟨by rfl, ?hy5⟩) (by assumption) ?r5
      case hy5 => (intro w hSw; (try dsimp only at hSw); go_simp; try with_reducible rfl)
      try simp only [List.getElem_toArray, List.getElem_cons_zero, List.getElem_cons_succ, Act.put, List.setIfInBounds_toArray, List.set_cons_zero, List.set_cons_succ]
      refine wpAnyH_take (i := 6) (v := ?v6) rfl (by kernel_rfl) (by kernel_rfl) (by kernel_rfl) (fun _ _ _ h => False.elim h) (Or.inl ⟨by rfl, ?hy6⟩) (by assumption) ?r6
      case hy6 => (intro w hSw; (try dsimp only at hSw); go_simp; try with_reducible rfl)
      try simp only [List.getElem_toArray, List.getElem_cons_zero, List.getElem_cons_succ, Act.put, List.setIfInBounds_toArray, List.set_cons_zero, List.set_cons_succ]
      refine wpAnyH_take (i := 7) (v := ?v7) rfl (by kernel_rfl) (by kernel_rfl) (by kernel_rfl) (fun _ _ _ h => False.elim h) (Or.inl ⟨by rfl, ?hy7⟩) (by assumption) ?r7
      case hy7 => (intro w hSw; (try dsimp only at hSw); go_simp; try with_reducible rfl)
      try simp only [List.getElem_toArray, List.getElem_cons_zero, List.getElem_cons_succ, Act.put, List.setIfInBounds_toArray, List.set_cons_zero, List.set_cons_succ]
      refine wpAnyH_take (i := 8) (v := ?v8) rfl (by kernel_rfl) (by kernel_rfl) (by kernel_rfl) (fun _ _ _ h => False.elim h) (Or.inl ⟨by rfl, ?hy8⟩) (by assumption) ?r8
      case hy8 => (intro w hSw; (try dsimp only at hSw); go_simp; try with_reducible rfl)
      try simp only [List.getElem_toArray, List.getElem_cons_zero, List.getElem_cons_succ, Act.put, List.setIfInBounds_toArray, List.set_cons_zero, List.set_cons_succ]
      refine wpAnyH_take (i := 9) (v := ?v9) rfl (by kernel_rfl) (by kernel_rfl) (by kernel_rfl) (fun _ _ _ h => False.elim h) (Or.inl ⟨by rfl, ?hy9⟩) (by assumption) ?r9
      case hy9 => (intro w hSw; (try dsimp only at hSw); go_simp; try with_reducible rfl)
      try simp only [List.getElem_toArray, List.getElem_cons_zero, List.getElem_cons_succ, Act.put, List.setIfInBounds_toArray, List.set_cons_zero, List.set_cons_succ]
      refine wpAnyH_take (i := 10) (v := ?v10) rfl (by kernel_rfl) (by kernel_rfl) (by kernel_rfl) (fun _ _ _ h => False.elim h) (Or.inl ⟨by rfl, ?hy10⟩) (by assumption) ?r10
      case hy10 => (intro w hSw; (try dsimp only at hSw); go_simp; try with_reducible rfl)
      try simp only [List.getElem_toArray, List.getElem_cons_zero, List.getElem_cons_succ, Act.put, List.setIfInBounds_toArray, List.set_cons_zero, List.set_cons_succ]
      refine wpAnyH_take (i := 11) (v := ?v11) rfl (by kernel_rfl) (by kernel_rfl) (by kernel_rfl) (fun _ _ _ h => False.elim h) (Or.inl ⟨by rfl, ?hy11⟩) (by assumption) ?r11
      case hy11 => (intro w hSw; (try dsimp only at hSw); go_simp; try with_reducible rfl)
      try simp only [List.getElem_toArray, List.getElem_cons_zero, List.getElem_cons_succ, Act.put, List.setIfInBounds_toArray, List.set_cons_zero, List.set_cons_succ]
      refine wpAnyH_take (i := 12) (v := ?v12) rfl (by kernel_rfl) (by kernel_rfl) (by kernel_rfl) (fun _ _ _ h => False.elim h) (Or.inl ⟨by rfl, ?hy12⟩) (by assumption) ?r12
      case hy12 => (intro w hSw; (try dsimp only at hSw); go_simp; try with_reducible rfl)
      try simp only [List.getElem_toArray, List.getElem_cons_zero, List.getElem_cons_succ, Act.put, List.setIfInBounds_toArray, List.set_cons_zero, List.set_cons_succ]
      refine wpAnyH_take (i := 13) (v := ?v13) rfl (by kernel_rfl) (by kernel_rfl) (by kernel_rfl) (fun _ _ _ h => False.elim h) (Or.inl ⟨by rfl, ?hy13⟩) (by assumption) ?r13
      case hy13 => (intro w hSw; (try dsimp only at hSw); go_simp; try with_reducible rfl)
      try simp only [List.getElem_toArray, List.getElem_cons_zero, List.getElem_cons_succ, Act.put, List.setIfInBounds_toArray, List.set_cons_zero, List.set_cons_succ]
      refine' wpAnyH_take (i := 14) (v := _) rfl (by kernel_rfl) (by kernel_rfl) (by kernel_rfl) (fun _ _ _ h => False.elim h) (yieldsIf_load_mid ?hw14 _ _ ?ho14 _ _ ?hx14 _ _ ?hS14 ?hu14 ?hd14 ?hi14) (by assumption) ?r14
      case ho14 => rfl
      case hw14 => rfl
      case hx14 => rfl
      case hS14 => (intro w hSw; (try dsimp only at hSw); go_split_ands; assumption)
      case hu14 => assumption
      case hd14 => rfl
      case hi14 => assumption
      try simp only [List.getElem_toArray, List.getElem_cons_zero, List.getElem_cons_succ, Act.put, List.setIfInBounds_toArray, List.set_cons_zero, List.set_cons_succ]
      refine wpAnyH_take (i := 15) (v := ?v15) rfl (by kernel_rfl) (by kernel_rfl) (by kernel_rfl) (fun _ _ _ h => False.elim h) (Or.inl ⟨by rfl, ?hy15⟩) (by assumption) ?r15
      case hy15 => (intro w hSw; (try dsimp only at hSw); go_simp; try with_reducible rfl)
      try simp only [List.getElem_toArray, List.getElem_cons_zero, List.getElem_cons_succ, Act.put, List.setIfInBounds_toArray, List.set_cons_zero, List.set_cons_succ]
      refine wpAnyH_take (i := 16) (v := ?v16) rfl (by kernel_rfl) (by kernel_rfl) (by kernel_rfl) (fun _ _ _ h => False.elim h) (Or.inl ⟨by rfl, ?hy16⟩) (by assumption) ?r16
      case hy16 => (intro w hSw; (try dsimp only at hSw); go_simp; try with_reducible rfl)
      try simp only [List.getElem_toArray, List.getElem_cons_zero, List.getElem_cons_succ, Act.put, List.setIfInBounds_toArray, List.set_cons_zero, List.set_cons_succ]
      refine wpAnyH_take (i := 17) (v := ?v17) rfl (by kernel_rfl) (by kernel_rfl) (by kernel_rfl) (fun _ _ _ h => False.elim h) (Or.inl ⟨by rfl, ?hy17⟩) (by assumption) ?r17
      case hy17 => (intro w hSw; (try dsimp only at hSw); go_simp; try with_reducible rfl)
      try simp only [List.getElem_toArray, List.getElem_cons_zero, List.getElem_cons_succ, Act.put, List.setIfInBounds_toArray, List.set_cons_zero, List.set_cons_succ]
      refine wpAnyH_ready (rs := [18]) (by kernel_rfl) (by simp) ?_
      refine AllReadyH.cons rfl (fun K hK => ?_) AllReadyH.nil
      go_simp
      refine hK.out _ _ ?_ (fun hHeld => ?_)
      · (try dsimp only); with_reducible assumption
      clear hK K
      try simp only [List.getElem_toArray, List.getElem_cons_zero, List.getElem_cons_succ, Act.put, List.setIfInBounds_toArray, List.set_cons_zero, List.set_cons_succ]
      refine wpAnyH_take (i := 19) (v := ?v19) rfl (by kernel_rfl) (by kernel_rfl) (by kernel_rfl) (fun _ _ _ h => False.elim h) (Or.inl ⟨by rfl, ?hy19⟩) (by assumption) ?r19
      case hy19 => (intro w hSw; (try dsimp only at hSw); go_simp; try with_reducible rfl)
      try simp only [List.getElem_toArray, List.getElem_cons_zero, List.getElem_cons_succ, Act.put, List.setIfInBounds_toArray, List.set_cons_zero, List.set_cons_succ]
      refine wpAnyH_ready (rs := [20]) (by kernel_rfl) (by simp) ?_
      refine AllReadyH.cons rfl (fun K hK => ?_) AllReadyH.nil
      go_simp
      refine hK.out _ _ ?_ (fun hHeld => ?_)
      · (try dsimp only); with_reducible assumption
      clear hK K
      try simp only [List.getElem_toArray, List.getElem_cons_zero, List.getElem_cons_succ, Act.put, List.setIfInBounds_toArray, List.set_cons_zero, List.set_cons_succ]
      refine wpAnyH_ready (rs := [21]) (by kernel_rfl) (by simp) ?_
      refine AllReadyH.cons rfl (fun K hK => ?_) AllReadyH.nil
      go_simp
      refine hK.out _ _ ?_ (fun hHeld => ?_)
      · (try dsimp only); with_reducible assumption
      clear hK K
      try simp only [List.getElem_toArray, List.getElem_cons_zero, List.getElem_cons_succ, Act.put, List.setIfInBounds_toArray, List.set_cons_zero, List.set_cons_succ]
      refine wpAnyH_take (i := 22) (v := ?v22) rfl (by kernel_rfl) (by kernel_rfl) (by kernel_rfl) (fun _ _ _ h => False.elim h) (Or.inl ⟨by rfl, ?hy22⟩) (by assumption) ?r22
      case hy22 => (intro w hSw; (try dsimp only at hSw); go_simp; try with_reducible rfl)
      try simp only [List.getElem_toArray, List.getElem_cons_zero, List.getElem_cons_succ, Act.put, List.setIfInBounds_toArray, List.set_cons_zero, List.set_cons_succ]
      refine wpAnyH_ready (rs := [23]) (by kernel_rfl) (by simp) ?_
      refine AllReadyH.cons rfl (fun K hK => ?_) AllReadyH.nil
      go_simp
      refine hK.out _ _ ?_ (fun hHeld => ?_)
      · (try dsimp only); with_reducible assumption
      clear hK K
      try simp only [List.getElem_toArray, List.getElem_cons_zero, List.getElem_cons_succ, Act.put, List.setIfInBounds_toArray, List.set_cons_zero, List.set_cons_succ]
      refine wpAnyH_done (by kernel_rfl) (noPanic_mk ?_) _
      clear e1 t1 e2 t2 r0 rA rB rC rD hu31 hi31
      go_wp2
      go_ret
      refine ⟨congrArg (fun z => Ending.returned (Value.int .i64 z)) HE2.out.symm, .inr ⟨HE2.out, ⟨_, _, _, _, HD.out.1, HD.out.2.1, HD.out.2.2, HO.out.1, HO.out.2, hne⟩, ?_⟩⟩
      exact ((((Upd.of_below hB3.out).drew.setBlock (fun _ => .inl rfl) _).setBlock (fun _ => .inl rfl) _).setBlock (fun _ => .inr rfl) _).setBlock (fun _ => .inr rfl) _
  · have hce' : (ce != 0) = true := by simp [hce]
    go_wp2
    go_ret
    exact ⟨by rw [HE.out, if_pos hce]; rfl, .inl ⟨by rw [HE.out, if_pos hce]; exact hce, hB3.out⟩⟩
end Go.Proofs.Ytgehdkbjcpdjoaa
