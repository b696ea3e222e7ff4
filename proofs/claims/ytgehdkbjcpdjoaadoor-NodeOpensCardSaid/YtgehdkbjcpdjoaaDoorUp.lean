/- Worlds that differ in some blocks alone; blocks known whole; no condition. -/
import Derived.WalkKit
import Derived.Below
import Derived.Deep.Draws
import Derived.Laws.AppendOwn
import Derived.RowKit3
import Derived.ChangeMaps4
import Derived.Deep.MidRow
namespace Go.Proofs.YtgehdkbjcpdjoaaDoor
open Go.RowKit Go.ChangeMaps
set_option linter.unusedVariables false

/-- Of what w had only blocks of F may be otherwise in w'. -/
structure Upd (F : Nat → Prop) (w w' : World) : Prop where
  os : w'.os = w.os
  tape : w'.tape = w.tape
  output : w'.output = w.output
  size : w.heap.size ≤ w'.heap.size
  block : ∀ k, k < w.heap.size → ¬ F k → w'.heap[k]? = w.heap[k]?

def Blk (w : World) (g : Nat) (t : TypeId) (cs : Array Value) : Prop := w.heap[g]? = some (.cells cs t (0, 0))
def Mp (w : World) (g : Nat) (es : Array MapEntry) (clk : Nat) : Prop := w.heap[g]? = some (.map es clk)

section
variable {w w' a b c : World} {F G : Nat → Prop} {g : Nat} {t : TypeId} {cs : Array Value} {es : Array MapEntry} {clk : Nat}
theorem Upd.refl (F : Nat → Prop) (w : World) : Upd F w w := ⟨rfl, rfl, rfl, Nat.le_refl _, fun _ _ _ => rfl⟩
theorem Upd.of_below (h : Below w.heap.size w w') : Upd F w w' := ⟨h.os, h.tape, h.output, h.size, fun k hk _ => h.block k hk⟩
theorem Upd.trans (h : Upd F a b) (k : Upd F b c) : Upd F a c :=
  ⟨k.os.trans h.os, k.tape.trans h.tape, k.output.trans h.output, Nat.le_trans h.size k.size, fun i hi hF => (k.block i (Nat.lt_of_lt_of_le hi h.size) hF).trans (h.block i hi hF)⟩
theorem Upd.mono (h : Upd F a b) (k : ∀ i, i < a.heap.size → F i → G i) : Upd G a b := ⟨h.os, h.tape, h.output, h.size, fun i hi hG => h.block i hi (fun hF => hG (k i hi hF))⟩
/-- What was not there yet does not count. -/
theorem Upd.thanks (h : Upd F a b) (k : Upd G b c) (hG : ∀ i, G i → i < a.heap.size → F i) : Upd F a c :=
  ⟨k.os.trans h.os, k.tape.trans h.tape, k.output.trans h.output, Nat.le_trans h.size k.size, fun i hi hF => (k.block i (Nat.lt_of_lt_of_le hi h.size) (fun e => hF (hG i e hi))).trans (h.block i hi hF)⟩
theorem Upd.below (h : Upd F a b) (hF : ∀ i, F i → a.heap.size ≤ i) : Below a.heap.size a b := ⟨h.os, h.tape, h.output, h.size, fun i hi => h.block i hi (fun e => by have := hF i e; omega)⟩
theorem Upd.low (h : Upd F a b) {B : Nat} (hB : B ≤ a.heap.size) (hF : ∀ i, F i → B ≤ i) : Below B a b := ⟨h.os, h.tape, h.output, h.size, fun i hi => h.block i (by omega) (fun e => by have := hF i e; omega)⟩
theorem Upd.alloc (h : Upd F a b) (o : Obj) : Upd F a (b.alloc o) := h.trans (.of_below ((Below.refl _ _).alloc (Nat.le_refl _) o))
theorem Upd.drew (h : Upd F a b) : Upd F a b.drew := ⟨h.os, h.tape, h.output, h.size, h.block⟩
theorem Upd.drewN (h : Upd F a b) (n : Nat) : Upd F a (b.drewN n) := ⟨h.os, h.tape, h.output, h.size, h.block⟩
theorem Upd.setCell (h : Upd F a b) {p : Addr} (hp : p.block < a.heap.size → F p.block) (u : Value) : Upd F a (b.setCell p u) :=
  ⟨h.os, h.tape, h.output, by simpa [World.setCell] using h.size, fun i hi hF => (Below.heap_setCell b p u i (fun e => by subst e; exact hF (hp hi))).trans (h.block i hi hF)⟩
theorem Upd.setBlock (h : Upd F a b) {p : Nat} (hp : p < a.heap.size → F p) (o : Obj) : Upd F a (setBlock b p o) :=
  ⟨h.os, h.tape, h.output, by simpa [ChangeMaps.setBlock] using h.size, fun i hi hF => by
    have hne : p ≠ i := fun e => by subst e; exact hF (hp hi)
    show (b.heap.setIfInBounds p o)[i]? = _
    rw [Array.getElem?_setIfInBounds_ne hne]
    exact h.block i hi hF⟩
theorem Upd.grown {row : Option Nat} (h : Upd F a b) (k : b.grownBy c row) (hr : ∀ i, row = some i → i < a.heap.size → F i) : Upd F a c :=
  ⟨k.os.trans h.os, k.tape.trans h.tape, k.output.trans h.output, Nat.le_trans h.size k.size, fun i hi hF => (k.block i (Nat.lt_of_lt_of_le hi h.size) (fun e => hF (hr i e.symm hi))).trans (h.block i hi hF)⟩

theorem Blk.lt (h : Blk w g t cs) : g < w.heap.size := (Array.getElem?_eq_some_iff.1 h).1
theorem Mp.lt (h : Mp w g es clk) : g < w.heap.size := (Array.getElem?_eq_some_iff.1 h).1
theorem Blk.cell (h : Blk w g t cs) (i : Nat) : w.cell? ⟨g, i, none⟩ = cs[i]? := by
  unfold Blk at h
  simp [World.cell?, h]
theorem Blk.free (h : Blk w g t cs) (i : Nat) : w.frozen? ⟨g, i, none⟩ = false := by
  unfold Blk at h
  simp [World.frozen?, h]
theorem Blk.set (h : Blk w g t cs) (i : Nat) (u : Value) : Blk (w.setCell ⟨g, i, none⟩ u) g t (cs.setIfInBounds i u) := by
  unfold Blk at h ⊢
  simp [World.setCell, Array.getElem?_modify, h]
theorem Blk.upd (h : Blk w g t cs) (k : Upd F w w') (hF : ¬ F g) : Blk w' g t cs := (k.block g h.lt hF).trans h
theorem Mp.upd (h : Mp w g es clk) (k : Upd F w w') (hF : ¬ F g) : Mp w' g es clk := (k.block g h.lt hF).trans h
theorem Blk.below (h : Blk w g t cs) (k : Below w.heap.size w w') : Blk w' g t cs := h.upd (F := fun _ => False) (.of_below k) (fun e => e)
theorem Mp.below (h : Mp w g es clk) (k : Below w.heap.size w w') : Mp w' g es clk := h.upd (F := fun _ => False) (.of_below k) (fun e => e)
theorem Blk.alloc (h : Blk w g t cs) (o : Obj) : Blk (w.alloc o) g t cs := (Below.heap_alloc w o g h.lt).trans h
theorem Mp.alloc (h : Mp w g es clk) (o : Obj) : Mp (w.alloc o) g es clk := (Below.heap_alloc w o g h.lt).trans h
theorem Blk.drew (h : Blk w g t cs) : Blk w.drew g t cs := h
theorem Mp.drew (h : Mp w g es clk) : Mp w.drew g es clk := h
theorem Blk.drewN (h : Blk w g t cs) (n : Nat) : Blk (w.drewN n) g t cs := h
theorem Mp.drewN (h : Mp w g es clk) (n : Nat) : Mp (w.drewN n) g es clk := h
theorem heap_new_at (w : World) (o : Obj) (n : Nat) (h : n = w.heap.size) : (w.alloc o).heap[n]? = some o := by rw [h]; exact heap_alloc_new w o
theorem Blk.new (w : World) (n : Nat) (t : TypeId) (cs : Array Value) (h : n = w.heap.size) : Blk (w.alloc (.cells cs t)) n t cs := heap_new_at w _ n h
theorem Mp.new (w : World) (n : Nat) (es : Array MapEntry) (clk : Nat) (h : n = w.heap.size) : Mp (w.alloc (.map es clk)) n es clk := heap_new_at w _ n h
theorem Blk.setCell (h : Blk w g t cs) {p : Addr} (hp : g ≠ p.block) (u : Value) : Blk (w.setCell p u) g t cs := (Below.heap_setCell w p u g hp).trans h
theorem Mp.setCell (h : Mp w g es clk) {p : Addr} (hp : g ≠ p.block) (u : Value) : Mp (w.setCell p u) g es clk := (Below.heap_setCell w p u g hp).trans h
theorem Blk.setBlock (h : Blk w g t cs) {p : Nat} (hp : p ≠ g) (o : Obj) : Blk (setBlock w p o) g t cs := by
  show (w.heap.setIfInBounds p o)[g]? = _
  rw [Array.getElem?_setIfInBounds_ne hp]; exact h
theorem Mp.setBlock (h : Mp w g es clk) {p : Nat} (hp : p ≠ g) (o : Obj) : Mp (setBlock w p o) g es clk := by
  show (w.heap.setIfInBounds p o)[g]? = _
  rw [Array.getElem?_setIfInBounds_ne hp]; exact h
theorem Mp.set (h : Mp w g es clk) (es' : Array MapEntry) (clk' : Nat) : Mp (ChangeMaps.setBlock w g (.map es' clk')) g es' clk' := by
  show (w.heap.setIfInBounds g _)[g]? = _
  simp [h.lt]
theorem Blk.ne_map (h : Blk w g t cs) {g' : Nat} (h' : Mp w g' es clk) : g ≠ g' := by
  rintro rfl
  unfold Blk at h; unfold Mp at h'
  rw [h] at h'; cases h'
theorem Blk.ne {g' : Nat} {t' : TypeId} {cs' : Array Value} (h : Blk w g t cs) (h' : Blk w g' t' cs') (hne : t ≠ t') : g ≠ g' := by
  rintro rfl
  unfold Blk at h h'
  rw [h] at h'
  injection h' with h'
  injection h' with _ ht
  exact hne ht
theorem Blk.range (h : Blk w g t cs) : w.rangeAt g 0 cs.toList := fun j v hv => by
  rw [Nat.zero_add, h.cell]; simpa using hv
end
theorem Bcell {W w1 : World} (hb : Below W.heap.size W w1) {b o : Nat} {v : Value} (h : W.cell? ⟨b, o, none⟩ = some v) : w1.cell? ⟨b, o, none⟩ = some v :=
  (hb.cell (World.block_lt_of_cell? _ _ h)).trans h
end Go.Proofs.YtgehdkbjcpdjoaaDoor
