/- Peers of a relay in memory, and the walk of Relay.Add; no condition. -/
import Derived.Test.YtgehdkbjcpdjoaaDoorIx
import Derived.Deep.RegionLaw
namespace Go.Proofs.YtgehdkbjcpdjoaaDoor
open Go.RowKit
set_option linter.unusedVariables false
set_option linter.unusedSimpArgs false

structure Peer where
  k : Nat
  c : Nat
  s : Stp
def pOne (p : Peer) : List Value := [.pointer (some ⟨p.k, 0, none⟩), .int .u32 p.s.ch]
def pCells (l : List Peer) : List Value := l.flatMap pOne
theorem pCells_snoc (l : List Peer) (p : Peer) : pCells (l ++ [p]) = pCells l ++ pOne p := by simp [pCells]
theorem pCells_get : ∀ (l : List Peer) (i : Nat) (p : Peer), l[i]? = some p → (pCells l)[i * 2]? = some (.pointer (some ⟨p.k, 0, none⟩)) ∧ (pCells l)[i * 2 + 1]? = some (.int .u32 p.s.ch)
  | [], i, p, h => by simp at h
  | q :: l, 0, p, h => by simp at h; subst h; exact ⟨rfl, rfl⟩
  | q :: l, i + 1, p, h => by
    have := pCells_get l i p (by simpa using h)
    rw [show (i + 1) * 2 = i * 2 + 1 + 1 from by omega]
    exact this

/-- Below B nothing turned, and no block of cells of a type out of T. -/
structure Keep (B : Nat) (T : TypeId → Prop) (w w' : World) : Prop where
  b : Below B w w'
  k : ∀ g t cs, ¬ T t → Blk w g t cs → Blk w' g t cs
section
variable {B : Nat} {T : TypeId → Prop} {a b c : World}
theorem Keep.of_below (h : Below a.heap.size a b) (hB : B ≤ a.heap.size) : Keep B T a b := ⟨h.mono hB, fun g t cs _ hb => hb.below h⟩
theorem Keep.trans (h : Keep B T a b) (k : Keep B T b c) : Keep B T a c := ⟨h.b.trans k.b, fun g t cs ht hb => k.k g t cs ht (h.k g t cs ht hb)⟩
theorem Keep.quiet (h : Keep B T a b) (k : Below b.heap.size b c) (hB : B ≤ a.heap.size) : Keep B T a c := h.trans (.of_below k (Nat.le_trans hB h.b.size))
theorem Keep.drew (h : Keep B T a b) : Keep B T a b.drew := ⟨h.b.drew, h.k⟩
theorem Keep.grown {row : Option Nat} (h : Keep B T a b) (k : b.grownBy c row) (hB : B ≤ a.heap.size) (hr : ∀ x, row = some x → B ≤ x ∧ ∀ t cs, Blk b x t cs → T t) : Keep B T a c := by
  refine ⟨h.b.grown k (Nat.le_trans hB h.b.size) (fun x e => (hr x e).1), fun g t cs ht hb => ?_⟩
  have hb2 := h.k g t cs ht hb
  refine (k.block g hb2.lt (fun e => ht ((hr g e.symm).2 t cs hb2))).trans hb2
theorem Keep.setCell (h : Keep B T a b) {x i : Nat} {t0 : TypeId} {c0 : Array Value} (hx : Blk b x t0 c0) (ht0 : T t0) (hB : B ≤ x) (u : Value) : Keep B T a (b.setCell ⟨x, i, none⟩ u) := by
  refine ⟨h.b.setCell (p := ⟨x, i, none⟩) hB u, fun g t cs ht hb => ?_⟩
  have hb2 := h.k g t cs ht hb
  refine hb2.setCell (p := ⟨x, i, none⟩) (fun e => ?_) u
  have e : g = x := e
  subst e
  unfold Blk at hx hb2
  rw [hx] at hb2
  injection hb2 with e1
  injection e1 with _ e2
  exact ht (e2 ▸ ht0)
theorem Keep.mono {T' : TypeId → Prop} (h : Keep B T a b) (hT : ∀ t, T t → T' t) : Keep B T' a b := ⟨h.b, fun g t cs ht hb => h.k g t cs (fun e => ht (hT t e)) hb⟩
theorem Keep.low {B' : Nat} (h : Keep B T a b) (hB : B' ≤ B) : Keep B' T a b := ⟨h.b.mono hB, h.k⟩
theorem own_keep {e : TypeId} {size : Nat} {v : Value} {n base : Nat} {xs : List Value} (h : a.ownsRow base e size v n xs) (k : Keep B T a b) (he : ¬ T e) : b.ownsRow base e size v n xs := by
  obtain ⟨h1, h2⟩ := h
  refine ⟨h1, ?_⟩
  rcases h2 with h2 | ⟨g, cap, cur, hv, hg, hh, r⟩
  · exact .inl h2
  · exact .inr ⟨g, cap, cur, hv, hg, k.k g e cur he hh, r⟩
end

theorem own_type {a : World} {e : TypeId} {size : Nat} {v : Value} {n base : Nat} {xs : List Value} (h : a.ownsRow base e size v n xs) {x : Nat} (hx : v.ownBlock = some x) (t : TypeId) (cs : Array Value) (hb : Blk a x t cs) : t = e := by
  rcases h.2 with ⟨rfl, _⟩ | ⟨g, cap, cur, rfl, _, hh, _⟩
  · cases hx
  · injection hx with hx
    have hx' : g = x := hx
    subst hx'
    unfold Blk at hb
    rw [hb] at hh
    injection hh with e1
    injection e1 with _ e2
structure RelAt (w : World) (rg B : Nat) (l : List Peer) : Prop where
  blk : ∃ ad cap m1 m2 m3 m4 m5, Blk w rg 65 #[.slice ad l.length cap, m1, m2, m3, m4, m5, .bool false] ∧ w.ownsRow B 76 2 (.slice ad l.length cap) l.length (pCells l)
  links : ∀ p ∈ l, ∃ L, Blk w p.k 93 L ∧ L[3]? = some (.pointer (some ⟨p.c, 0, none⟩)) ∧ Blk w p.c 104 (newChan p.s p.s.ours (p.s.cap - p.s.ours)).toArray
  few : l.length ≤ 8
  rg' : B ≤ rg
theorem RelAt.keep {w w' : World} {rg B B' : Nat} {l : List Peer} {T : TypeId → Prop} (h : RelAt w rg B l) (k : Keep B' T w w') (h1 : ¬ T 65) (h2 : ¬ T 76) (h3 : ¬ T 93) (h4 : ¬ T 104) : RelAt w' rg B l := by
  obtain ⟨⟨ad, cap, m1, m2, m3, m4, m5, hb, ho⟩, hl, hf, hr⟩ := h
  exact ⟨⟨ad, cap, m1, m2, m3, m4, m5, k.k _ _ _ h1 hb, own_keep ho k h2⟩, fun p hp => by obtain ⟨L, a1, a2, a3⟩ := hl p hp; exact ⟨L, k.k _ _ _ h3 a1, a2, k.k _ _ _ h4 a3⟩, hf, hr⟩
theorem RelAt.quiet {w w' : World} {rg B : Nat} {l : List Peer} (h : RelAt w rg B l) (k : Below w.heap.size w w') : RelAt w' rg B l :=
  h.keep (T := fun _ => False) (.of_below k (Nat.le_refl _)) id id id id

theorem info76 : ∃ i z, Tryd.prog.info? 76 = some i ∧ i.zero = some z ∧ i.size = 2 ∧ i.bytes = 16 ∧ z.cells.size = 2 := by
  have h : (Tryd.prog.info? 76).map (fun i => (i.zero, i.size, i.bytes)) = some (some (.agg #[.pointer none, .int .u32 0]), 2, 16) := by kernel_rfl
  obtain ⟨i, hi, hzz⟩ := Option.map_eq_some_iff.1 h
  simp only [Prod.mk.injEq] at hzz
  exact ⟨i, _, hi, hzz.1, hzz.2.1, hzz.2.2, rfl⟩

/-- One peer more, at a step of a region. -/
theorem step_peer {ops : Array Oper} {o : Oper} {a : Act} {K : Act → World → Prop} {Q : Exit → Act → World → Prop} {E : Prop} {W : World} (hgd : o.guard = none) (s x : Operand)
    (ho : o.op = .call { callee := .builtin .append, args := #[s, x], argTypes := #[63, 63] }) (B : Nat) (ad : Option Addr) (cap : Nat) (l : List Peer) (hs : a.eval s = .slice ad l.length cap) (p : Peer)
    (gb m : Nat) (hx : a.eval x = .slice (some ⟨gb, 0, none⟩) 1 m) (hf : l.length < 8)
    (hown : W.ownsRow B 76 2 (.slice ad l.length cap) l.length (pCells l)) (hX : Blk W gb 76 (pOne p).toArray) (hB : B ≤ W.heap.size)
    (h : ∀ ad' c' w', w'.ownsRow B 76 2 (.slice ad' (l.length + 1) c') (l.length + 1) (pCells (l ++ [p])) → W.grownBy w' (Value.slice ad l.length cap).ownBlock → K (a.put o.dst (.slice ad' (l.length + 1) c')) w') :
    if Region.wanted o (yielded ops a.tmps) = true then Oper.wp Tryd.prog o a W K Q else E := by
  have hw : Region.wanted o (yielded ops a.tmps) = true := by simp [Region.wanted, hgd]
  rw [if_pos hw]
  obtain ⟨i0, z0, hi0, hz0, hz1, hz2, hz3⟩ := info76
  refine wp_append_own W s x 63 ho B 76 i0 z0 2 16 Tryd.underlying63 hi0 hz0 hz1 hz2 hz3 (by omega) _ l.length (pCells l) hs hown ⟨gb, 0, none⟩ 1 m (pOne p) hx rfl (fun j u hu => by
    rw [Addr.add_mid, Nat.zero_add, hX.cell]; simpa using hu) (by
    intro u hu
    simp [pOne] at hu
    rcases hu with rfl | rfl <;> rfl) (by unfold maxLen; omega) (by omega) hB ?_
  intro v' w' hown' hgrow _
  rw [← pCells_snoc] at hown'
  rcases hown'.2 with ⟨rfl, hn⟩ | ⟨g, c', cur, rfl, _⟩
  · omega
  · exact h _ _ w' hown' hgrow
end Go.Proofs.YtgehdkbjcpdjoaaDoor
