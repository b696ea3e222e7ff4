/- A struct of many cells that is built out of parts: plain law; no condition. -/
import Derived.Test.YtgehdkbjcpdjoaaDoorUp
import Derived.WalkKit
namespace Go.Proofs.YtgehdkbjcpdjoaaDoor
open Go.RowKit
set_option linter.unusedVariables false
set_option linter.unusedSimpArgs false

/-- L is laid over the cells from off on. -/
def splice (cs : List Value) (off : Nat) (L : List Value) : List Value := cs.take off ++ L ++ cs.drop (off + L.length)

theorem fold_set : ∀ (L : List Value) (k off : Nat) (cs : Array Value), off + k + L.length ≤ cs.size →
    ((L.zipIdx k).foldl (fun cs (cj : Value × Nat) => cs.setIfInBounds (off + cj.2) cj.1) cs).toList = splice cs.toList (off + k) L
  | [], k, off, cs, _ => by simp [splice]
  | v :: L, k, off, cs, h => by
    simp only [List.length_cons] at h
    have ih := fold_set L (k + 1) off (cs.setIfInBounds (off + k) v) (by simp; omega)
    rw [List.zipIdx_cons, List.foldl_cons, ih]
    apply List.ext_getElem?
    intro i
    simp only [splice, Array.toList_setIfInBounds, List.length_cons]
    have hl : off + k < cs.toList.length := by simp; omega
    rw [List.getElem?_append, List.getElem?_append, List.getElem?_append, List.getElem?_append]
    simp only [List.length_append, List.length_take, List.length_set, List.length_cons, List.getElem?_take, List.getElem?_drop, List.getElem?_set]
    have hm : min (off + (k + 1)) cs.toList.length = off + k + 1 := by omega
    have hm2 : min (off + k) cs.toList.length = off + k := by omega
    rw [hm, hm2]
    by_cases h1 : i < off + k
    · simp [h1, show i < off + k + 1 + L.length by omega, show i < off + k + 1 by omega, show i < off + k + (L.length + 1) by omega, show i < off + (k + 1) by omega, show ¬ off + k = i by omega]
    · by_cases h2 : i = off + k
      · subst h2
        simp [show off + k < off + k + 1 + L.length by omega, show off + k < off + (k + 1) by omega]
        omega
      · by_cases h3 : i < off + k + (L.length + 1)
        · simp [h1, h3, show i < off + k + 1 + L.length by omega, show ¬ i < off + k + 1 by omega, show i - (off + k) = (i - (off + k + 1)) + 1 by omega]
        · simp [h3, show ¬ i < off + k + 1 + L.length by omega, h1]
          rw [if_neg (by omega)]
          congr 1
          omega
theorem fill_one (place : Nat → Option (Nat × Nat)) (cs : List Value) (i off size : Nat) (L : List Value) (rest : List (Nat × Value)) (hp : place i = some (off, size)) (hs : L.length = size) (hle : off + size ≤ cs.length) (v : Value) (hv : v.cells = L.toArray) :
    Instr.fill place cs.toArray ((i, v) :: rest) = Instr.fill place (splice cs off L).toArray rest := by
  have h := fold_set L 0 off cs.toArray (by simp; omega)
  simp only [Instr.fill, hp, hv]
  rw [if_neg (by simp; omega)]
  congr 1
  apply Array.ext'
  simpa using h

theorem run_build {P : Program} {t : TypeId} {fs : Array Field} (hu : P.underlying t = some (.struct fs)) {Z : List Value} (w : World) (hz : (zeroValue t).run P w = .ok (.agg Z.toArray) w) {places : Array (Nat × Nat)}
    (hp : (fs.mapM fun (f : Field) => do pure (f.offset, ← sizeOf f.type)).run P w = .ok places w) (parts : Array (Nat × Value)) (cs : List Value) (hf : Instr.fill (places[·]?) Z.toArray parts.toList = some cs.toArray) :
    (Instr.build t parts).run P w = .ok (.agg cs.toArray) w := by
  simp only [Instr.build, Sem.run_bind, hz, Result.andThen_ok, run_underlying hu, hp, Value.cells, hf, Sem.run_pure]
end Go.Proofs.YtgehdkbjcpdjoaaDoor
