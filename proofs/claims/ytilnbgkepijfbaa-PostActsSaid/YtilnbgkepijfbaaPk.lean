/- The lists that PostOrder keeps beside its post, as data; no condition. -/
import Derived.Test.YtilnbgkepijfbaaPj
namespace Go.Proofs.Ytilnbgkepijfbaa
open Go.RowKit
set_option linter.unusedVariables false
set_option linter.unusedSimpArgs false

def upd {α : Type} (f : Nat → α) (k : Nat) (x : α) : Nat → α := fun j => if j = k then x else f j
theorem upd_same {α : Type} (f : Nat → α) (k : Nat) (x : α) : upd f k x k = x := by simp [upd]
theorem upd_other {α : Type} (f : Nat → α) (k j : Nat) (x : α) (h : j ≠ k) : upd f k x j = f j := by simp [upd, h]

def letter (k : Nat) (i : Int) : Letter := ⟨(k : Int), 0, i, ⟨#[]⟩⟩
def bsOf (S : Nat → List Int) : List Bx := [⟨(S 0).map (letter 0), false⟩, ⟨(S 1).map (letter 1), false⟩, ⟨(S 2).map (letter 2), false⟩]
theorem bsOf_box (S : Nat → List Int) (k : Nat) (hk : k < 3) : boxOf (bsOf S) (k : Int) = some ⟨(S k).map (letter k), false⟩ := by
  match k, hk with
  | 0, _ => rfl
  | 1, _ => rfl
  | 2, _ => rfl
theorem bsOf_set (S : Nat → List Int) (k : Nat) (hk : k < 3) (l : List Int) : (bsOf S).set k ⟨l.map (letter k), false⟩ = bsOf (upd S k l) := by
  match k, hk with
  | 0, _ => rfl
  | 1, _ => rfl
  | 2, _ => rfl
theorem bsOf_sendE (S : Nat → List Int) (k : Nat) (hk : k < 3) (i : Int) : sendE (bsOf S) (letter k i) = if (S k).length = 8 then 160 else 0 := by
  unfold sendE
  rw [show (letter k i).to = (k : Int) from rfl, bsOf_box S k hk]
  simp
theorem bsOf_sendS (S : Nat → List Int) (k : Nat) (hk : k < 3) (i : Int) (h : (S k).length ≠ 8) : sendS (bsOf S) (letter k i) = bsOf (upd S k (S k ++ [i])) := by
  unfold sendS
  rw [show (letter k i).to = (k : Int) from rfl, bsOf_box S k hk]
  simp only [List.length_map, h, if_false, Bool.false_eq_true, Int.toNat_natCast]
  rw [← bsOf_set S k hk]
  simp
theorem bsOf_full (S : Nat → List Int) (k : Nat) (hk : k < 3) (i : Int) (h : (S k).length = 8) : sendS (bsOf S) (letter k i) = bsOf S := by
  unfold sendS
  rw [show (letter k i).to = (k : Int) from rfl, bsOf_box S k hk]
  simp [h]
theorem bsOf_none (S : Nat → List Int) (k : Nat) (hk : k < 3) (h : S k = []) : takeE (bsOf S) k = 3 ∧ takeS (bsOf S) k = bsOf S ∧ takeV (bsOf S) k = Letter.zero := by
  unfold takeE takeS takeV
  rw [bsOf_box S k hk, h]
  exact ⟨rfl, rfl, rfl⟩
theorem bsOf_some (S : Nat → List Int) (k : Nat) (hk : k < 3) (x : Int) (l : List Int) (h : S k = x :: l) : takeE (bsOf S) k = 0 ∧ takeS (bsOf S) k = bsOf (upd S k l) ∧ takeV (bsOf S) k = letter k x := by
  unfold takeE takeS takeV
  rw [bsOf_box S k hk, h]
  refine ⟨rfl, ?_, rfl⟩
  rw [← bsOf_set S k hk, Int.toNat_natCast]
  rfl
theorem bsOf_all (S : Nat → List Int) : allOf (bsOf S) = (S 0).length + (S 1).length + (S 2).length := by
  simp [allOf, bsOf]; omega

def ints (l : List Int) : List Value := l.map (.int .i64)
theorem ints_len (l : List Int) : (ints l).length = l.length := by simp [ints]

/-- The three lists S lie in the slices v, whose headers lie in block sb. -/
structure Sent (base sb : Nat) (v : Nat → Value) (S : Nat → List Int) (w : World) : Prop where
  blk : Blk w sb 27 #[v 0, v 1, v 2]
  own : ∀ j, j < 3 → w.ownsRow base 3 1 (v j) (S j).length (ints (S j))
  apart : ∀ i j, i < 3 → j < 3 → i ≠ j → (v i).ownBlock = none ∨ (v i).ownBlock ≠ (v j).ownBlock

theorem own_type {w : World} {base : Nat} {e : TypeId} {size : Nat} {v : Value} {n : Nat} {xs : List Value} (h : w.ownsRow base e size v n xs) {b : Nat} {t : TypeId} {cs : Array Value} (hb : Blk w b t cs) (ht : t ≠ e) : v.ownBlock ≠ some b := by
  rcases h.2 with ⟨rfl, _⟩ | ⟨g, cap, cur, rfl, _, hgg, _⟩
  · simp [Value.ownBlock]
  · intro e'
    simp [Value.ownBlock] at e'
    subst e'
    unfold Blk at hb
    rw [hgg] at hb
    injection hb with hb
    injection hb with _ hb
    exact ht hb.symm
theorem own_base {w : World} {base base' : Nat} {e : TypeId} {size : Nat} {v : Value} {n : Nat} {xs : List Value} (h : w.ownsRow base e size v n xs) (hb : base' ≤ base) : w.ownsRow base' e size v n xs := by
  refine ⟨h.1, ?_⟩
  rcases h.2 with h1 | ⟨g, cap, cur, h1, h2, h3⟩
  · exact .inl h1
  · exact .inr ⟨g, cap, cur, h1, Nat.le_trans hb h2, h3⟩

theorem Sent.far {base sb : Nat} {v : Nat → Value} {S : Nat → List Int} {a b : World} (h : Sent base sb v S a) {rb : Nat} {cs : Array Value} (hr : Blk a rb 76 cs) (k : a.grownBy b (some rb)) : Sent base sb v S b :=
  ⟨h.blk.by k (by have := h.blk.ne hr (by decide); simpa using this), fun j hj => (h.own j hj).kept k (.inr (own_type (h.own j hj) hr (by decide))), h.apart⟩
theorem Sent.below {base sb : Nat} {v : Nat → Value} {S : Nat → List Int} {a b : World} (h : Sent base sb v S a) (k : Below a.heap.size a b) : Sent base sb v S b :=
  ⟨h.blk.by (only_below k none) (by simp), fun j hj => (h.own j hj).kept (only_below k none) (by cases (v j).ownBlock <;> simp), h.apart⟩

theorem Sent.cell {base sb : Nat} {v : Nat → Value} {S : Nat → List Int} {w : World} (h : Sent base sb v S w) {k : Nat} (hk : k < 3) : w.cell? ⟨sb, k, none⟩ = some (v k) := by
  rw [h.blk.cell k]
  match k, hk with
  | 0, _ => rfl
  | 1, _ => rfl
  | 2, _ => rfl

/-- A slice of ints, seen. -/
theorem view {w : World} {base : Nat} {v : Value} {l : List Int} (h : w.ownsRow base 3 1 v l.length (ints l)) :
    ∃ ad cap, v = .slice ad l.length cap ∧ l.length ≤ cap ∧ cap ≤ maxLen ∧ (l ≠ [] → ∃ gb, ad = some ⟨gb, 0, none⟩ ∧ gb < w.heap.size ∧ (∀ i x, l[i]? = some x → w.cell? ⟨gb, i, none⟩ = some (.int .i64 x))) := by
  have hc := fun (g : Nat) (hg : v.ownBlock = some g) => h.cells hg
  rcases h.2 with ⟨rfl, hn⟩ | ⟨g, cap, cur, rfl, hb, hgg, h1, h2, _⟩
  · exact ⟨none, 0, by rw [hn], by omega, Nat.zero_le _, fun h => absurd (List.eq_nil_of_length_eq_zero hn) h⟩
  · refine ⟨some ⟨g, 0, none⟩, cap, rfl, h1, h2, fun _ => ⟨g, rfl, (Array.getElem?_eq_some_iff.1 hgg).1, fun i x hi => ?_⟩⟩
    have := hc g rfl i (.int .i64 x) (by simp [ints, hi])
    rwa [Addr.add_mid, Nat.zero_add] at this

/-- List k is another: its slice v' lies in a block apart from the others', and cell k of sb is it. -/
theorem Sent.turn {base sb : Nat} {v : Nat → Value} {S : Nat → List Int} {a b : World} (h : Sent base sb v S a) {k : Nat} (hk : k < 3) {v' : Value} {l : List Int} {row : Option Nat}
    (hg : a.grownBy b row) (hsb : some sb ≠ row) (hrow : ∀ j, j < 3 → j ≠ k → (v j).ownBlock = none ∨ (v j).ownBlock ≠ row)
    (hown : b.ownsRow base 3 1 v' l.length (ints l)) (hap : ∀ j, j < 3 → j ≠ k → (v j).ownBlock = none ∨ (v j).ownBlock ≠ v'.ownBlock) :
    Sent base sb (upd v k v') (upd S k l) (b.setCell ⟨sb, k, none⟩ v') := by
  have hb := h.blk.by hg hsb
  have hs := hb.set k v'
  have ho := fun (u : Value) (n : Nat) (xs : List Value) (h : b.ownsRow base 3 1 u n xs) => h.kept (only_set (only_refl b (some sb)) k v') (.inr (own_type h hb (by decide)))
  refine ⟨?_, fun j hj => ?_, fun i j hi hj hij => ?_⟩
  · match k, hk with
    | 0, _ => exact hs
    | 1, _ => exact hs
    | 2, _ => exact hs
  · by_cases e : j = k
    · subst e
      rw [upd_same, upd_same]
      exact ho _ _ _ hown
    · rw [upd_other _ _ _ _ e, upd_other _ _ _ _ e]
      exact ho _ _ _ ((h.own j hj).kept hg (hrow j hj e))
  · by_cases e : i = k
    · subst e
      rw [upd_same, upd_other _ _ _ _ (Ne.symm hij)]
      rcases hap j hj (Ne.symm hij) with h1 | h1
      · cases hv : v'.ownBlock with
        | none => exact .inl rfl
        | some x => rw [h1]; exact .inr (by simp)
      · exact .inr (Ne.symm h1)
    · rw [upd_other _ _ _ _ e]
      by_cases e2 : j = k
      · subst e2; rw [upd_same]; exact hap i hi e
      · rw [upd_other _ _ _ _ e2]; exact h.apart i j hi hj hij
theorem blk3_cell {w : World} {sb : Nat} {v : Nat → Value} (h : Blk w sb 27 #[v 0, v 1, v 2]) {k : Nat} (hk : k < 3) : w.cell? ⟨sb, k, none⟩ = some (v k) := by
  rw [h.cell k]
  match k, hk with
  | 0, _ => rfl
  | 1, _ => rfl
  | 2, _ => rfl

/-- List k is another, and the post is as it was. -/
theorem Sent.put {w w4 a b : World} {g rb sb k : Nat} {bs : List Bx} {v : Nat → Value} {S : Nat → List Int} (hm : Mine w g rb bs w4) (hs : Sent w.heap.size sb v S w4) (hsb : w.heap.size ≤ sb) (hk : k < 3)
    (ha : Below w4.heap.size w4 a) {row : Option Nat} (hg : a.grownBy b row) (hrow : row = (v k).ownBlock ∨ ∃ r, row = some r ∧ w4.heap.size ≤ r) {v' : Value} {l : List Int} (hown : b.ownsRow w.heap.size 3 1 v' l.length (ints l))
    (hat : v'.ownBlock = none ∨ v'.ownBlock = (v k).ownBlock ∨ ∃ r, v'.ownBlock = some r ∧ w4.heap.size ≤ r) :
    Mine w g rb bs (b.setCell ⟨sb, k, none⟩ v') ∧ Sent w.heap.size sb (upd v k v') (upd S k l) (b.setCell ⟨sb, k, none⟩ v') := by
  have hs1 := hs.below ha
  have hm1 := hm.quiet ha
  obtain ⟨cs, hr, _⟩ := hm.p.row
  have far : ∀ (x : Nat) (t : TypeId) (cs : Array Value), Blk w4 x t cs → t ≠ 3 → some x ≠ row := by
    intro x t cs hb ht e
    rcases hrow with h1 | ⟨r, h1, h2⟩
    · rw [h1] at e
      exact own_type (hs.own k hk) hb ht e.symm
    · rw [h1] at e
      injection e with e
      have := hb.lt
      omega
  have h1 : some g ≠ row := far g 67 _ hm.p.ptr (by decide)
  have h2 : some rb ≠ row := far rb 76 _ hr (by decide)
  have h3 : some sb ≠ row := far sb 27 _ hs.blk (by decide)
  have hold : ∀ j, j < 3 → ∀ r, (v j).ownBlock = some r → r < w4.heap.size := fun j hj r e => ((hs.own j hj).lt r e).2
  have hb1 : Below w.heap.size w b := by
    have hg' := hg
    refine ⟨hg.os.trans hm1.b.os, hg.tape.trans hm1.b.tape, hg.output.trans hm1.b.output, Nat.le_trans hm1.b.size hg.size, fun i hi => ?_⟩
    refine (hg.block i (Nat.lt_of_lt_of_le hi hm1.b.size) ?_).trans (hm1.b.block i hi)
    intro e
    rcases hrow with h4 | ⟨r, h4, h5⟩
    · have := (hs.own k hk).lt i (by rw [← h4, ← e])
      omega
    · rw [h4] at e; injection e with e; have := hm.b.size; omega
  refine ⟨⟨hm.g', hm.r', ?_, hb1.setCell (p := ⟨sb, k, none⟩) hsb v'⟩, ?_⟩
  · have hp := hm1.p.by hg h1 h2
    have hbs := hs1.blk.by hg h3
    obtain ⟨cs', hr', _⟩ := hp.row
    exact hp.by (only_set (only_refl b (some sb)) k v') (by have := hp.ptr.ne hbs (by decide); simpa using this) (by have := hr'.ne hbs (by decide); simpa using this)
  · refine hs1.turn hk hg h3 (fun j hj hne => ?_) hown (fun j hj hne => ?_)
    · rcases hrow with h4 | ⟨r, h4, h5⟩
      · rw [h4]; exact hs.apart j k hj hk hne
      · cases e : (v j).ownBlock with
        | none => exact .inl rfl
        | some q => refine .inr (fun e2 => ?_); rw [h4] at e2; injection e2 with e2; have := hold j hj q e; omega
    · rcases hat with h4 | h4 | ⟨r, h4, h5⟩
      · cases e : (v j).ownBlock with
        | none => exact .inl rfl
        | some q => rw [h4]; exact .inr (by simp)
      · rw [h4]; exact hs.apart j k hj hk hne
      · cases e : (v j).ownBlock with
        | none => exact .inl rfl
        | some q => refine .inr (fun e2 => ?_); rw [h4] at e2; injection e2 with e2; have := hold j hj q e; omega
theorem own_new {w : World} {H : Nat} {v k : Value} {n : Nat} {xs : List Value} (h : w.ownsRow H 3 1 v n xs) : v.ownBlock = none ∨ v.ownBlock = k.ownBlock ∨ ∃ r, v.ownBlock = some r ∧ H ≤ r := by
  cases e : v.ownBlock with
  | none => exact .inl rfl
  | some r => exact .inr (.inr ⟨r, rfl, (h.lt r e).1⟩)
end Go.Proofs.Ytilnbgkepijfbaa
