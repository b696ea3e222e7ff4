/- A post in memory, as data: boxes of letters in rings; plain facts, no program in sight; no condition. -/
import Derived.Below
import Derived.Deep.Draws
import Derived.Laws.AppendOwn
import Derived.RowKit3
namespace Go.Proofs.Ytilnbgkepijfbaa
open Go.RowKit

structure Letter where
  to : Int
  frm : Int
  kind : Int
  text : ByteArray

def Letter.cells (x : Letter) : List Value := [.int .i64 x.to, .int .i64 x.frm, .int .i64 x.kind, .string x.text]
def Letter.val (x : Letter) : Value := .agg #[.int .i64 x.to, .int .i64 x.frm, .int .i64 x.kind, .string x.text]
def Letter.zero : Letter := ⟨0, 0, 0, ⟨#[]⟩⟩

structure Bx where
  l : List Letter
  c : Bool

/-- The letter x in the four cells from i on. -/
def LetterAt (cs : Array Value) (i : Nat) (x : Letter) : Prop :=
  cs[i]? = some (.int .i64 x.to) ∧ cs[i + 1]? = some (.int .i64 x.frm) ∧ cs[i + 2]? = some (.int .i64 x.kind) ∧ cs[i + 3]? = some (.string x.text)

/-- The box b in the 35 cells from o on, its ring's head at h. -/
structure BoxAt (cs : Array Value) (o h : Nat) (b : Bx) : Prop where
  hh : h < 8
  len : b.l.length ≤ 8
  head : cs[o + 32]? = some (.int .i64 h)
  many : cs[o + 33]? = some (.int .i64 b.l.length)
  shut : cs[o + 34]? = some (.bool b.c)
  ring : ∀ i, i < 8 → ∃ x, LetterAt cs (o + i * 4) x
  put : ∀ i x, b.l[i]? = some x → LetterAt cs (o + ((h + i) % 8) * 4) x

theorem getElem?_set (cs : Array Value) (i j : Nat) (v : Value) (h : i ≠ j) : (cs.setIfInBounds i v)[j]? = cs[j]? := Array.getElem?_setIfInBounds_ne h
theorem getElem?_set_same (cs : Array Value) (i : Nat) (v u : Value) (h : cs[i]? = some u) : (cs.setIfInBounds i v)[i]? = some v := by
  have := (Array.getElem?_eq_some_iff.1 h).1
  simp [this]

/-- A letter is written into the four cells from i on. -/
def setLetter (cs : Array Value) (i : Nat) (x : Letter) : Array Value :=
  (((cs.setIfInBounds i (.int .i64 x.to)).setIfInBounds (i + 1) (.int .i64 x.frm)).setIfInBounds (i + 2) (.int .i64 x.kind)).setIfInBounds (i + 3) (.string x.text)
theorem setLetter_far (cs : Array Value) (i j : Nat) (x : Letter) (h : j < i ∨ i + 3 < j) : (setLetter cs i x)[j]? = cs[j]? := by
  unfold setLetter
  rw [getElem?_set _ _ _ _ (by omega), getElem?_set _ _ _ _ (by omega), getElem?_set _ _ _ _ (by omega), getElem?_set _ _ _ _ (by omega)]
theorem setLetter_at (cs : Array Value) (i : Nat) (x y : Letter) (h : LetterAt cs i y) : LetterAt (setLetter cs i x) i x := by
  obtain ⟨h0, h1, h2, h3⟩ := h
  unfold setLetter
  refine ⟨?_, ?_, ?_, ?_⟩
  · rw [getElem?_set _ _ _ _ (by omega), getElem?_set _ _ _ _ (by omega), getElem?_set _ _ _ _ (by omega)]
    exact getElem?_set_same _ _ _ _ h0
  · rw [getElem?_set _ _ _ _ (by omega), getElem?_set _ _ _ _ (by omega)]
    exact getElem?_set_same _ _ _ _ ((getElem?_set _ _ _ _ (by omega)).trans h1)
  · rw [getElem?_set _ _ _ _ (by omega)]
    exact getElem?_set_same _ _ _ _ ((getElem?_set _ _ _ _ (by omega)).trans ((getElem?_set _ _ _ _ (by omega)).trans h2))
  · exact getElem?_set_same _ _ _ _ ((getElem?_set _ _ _ _ (by omega)).trans ((getElem?_set _ _ _ _ (by omega)).trans ((getElem?_set _ _ _ _ (by omega)).trans h3)))
theorem setLetter_size (cs : Array Value) (i : Nat) (x : Letter) : (setLetter cs i x).size = cs.size := by simp [setLetter]
theorem LetterAt.far {cs cs' : Array Value} {i : Nat} {x : Letter} (h : LetterAt cs i x) (k : ∀ j, i ≤ j → j ≤ i + 3 → cs'[j]? = cs[j]?) : LetterAt cs' i x :=
  ⟨(k _ (by omega) (by omega)).trans h.1, (k _ (by omega) (by omega)).trans h.2.1, (k _ (by omega) (by omega)).trans h.2.2.1, (k _ (by omega) (by omega)).trans h.2.2.2⟩

/-- What take leaves. -/
def takeC (cs : Array Value) (o h m : Nat) : Array Value :=
  ((setLetter cs (o + h * 4) Letter.zero).setIfInBounds (o + 32) (.int .i64 (((h + 1) % 8 : Nat) : Int))).setIfInBounds (o + 33) (.int .i64 (m : Int))
theorem takeC_size (cs : Array Value) (o h m : Nat) : (takeC cs o h m).size = cs.size := by simp [takeC, setLetter_size]
theorem takeC_far (cs : Array Value) (o h m j : Nat) (hh : h < 8) (hj : j < o ∨ o + 35 ≤ j) : (takeC cs o h m)[j]? = cs[j]? := by
  unfold takeC
  rw [getElem?_set _ _ _ _ (by omega), getElem?_set _ _ _ _ (by omega), setLetter_far _ _ _ _ (by omega)]
theorem takeC_in (cs : Array Value) (o h m j : Nat) (hj : j < o + h * 4 ∨ o + h * 4 + 3 < j) (h1 : j ≠ o + 32) (h2 : j ≠ o + 33) : (takeC cs o h m)[j]? = cs[j]? := by
  unfold takeC
  rw [getElem?_set _ _ _ _ (by omega), getElem?_set _ _ _ _ (by omega), setLetter_far _ _ _ _ (by omega)]

theorem BoxAt.take {cs : Array Value} {o h : Nat} {x : Letter} {l : List Letter} {c : Bool} (b : BoxAt cs o h ⟨x :: l, c⟩) : BoxAt (takeC cs o h l.length) o ((h + 1) % 8) ⟨l, c⟩ := by
  have hh := b.hh
  have hl : l.length + 1 ≤ 8 := b.len
  refine ⟨by omega, by show l.length ≤ 8; omega, ?_, ?_, ?_, ?_, ?_⟩
  · unfold takeC
    rw [getElem?_set _ _ _ _ (by omega)]
    exact getElem?_set_same _ _ _ _ ((setLetter_far _ _ _ _ (by omega)).trans b.head)
  · unfold takeC
    exact getElem?_set_same _ _ _ _ ((getElem?_set _ _ _ _ (by omega)).trans ((setLetter_far _ _ _ _ (by omega)).trans b.many))
  · rw [takeC_in _ _ _ _ _ (by omega) (by omega) (by omega)]; exact b.shut
  · intro i hi
    by_cases e : i = h
    · subst e
      obtain ⟨y, hy⟩ := b.ring i hi
      refine ⟨Letter.zero, ?_⟩
      have h1 := setLetter_at cs (o + i * 4) Letter.zero y hy
      refine h1.far (fun j _ _ => ?_)
      unfold takeC
      rw [getElem?_set _ _ _ _ (by omega), getElem?_set _ _ _ _ (by omega)]
    · obtain ⟨y, hy⟩ := b.ring i hi
      exact ⟨y, hy.far (fun j _ _ => takeC_in _ _ _ _ _ (by omega) (by omega) (by omega))⟩
  · intro i y hy
    have hil : i < l.length := (List.getElem?_eq_some_iff.1 hy).1
    have h1 := b.put (i + 1) y (by simpa using hy)
    rw [show ((h + 1) % 8 + i) % 8 = (h + (i + 1)) % 8 from by omega]
    exact h1.far (fun j _ _ => takeC_in _ _ _ _ _ (by omega) (by omega) (by omega))

/-- A letter is laid behind the others. -/
def sendC (cs : Array Value) (o i m : Nat) (x : Letter) : Array Value :=
  (setLetter cs (o + i * 4) x).setIfInBounds (o + 33) (.int .i64 (m : Int))
theorem sendC_size (cs : Array Value) (o i m : Nat) (x : Letter) : (sendC cs o i m x).size = cs.size := by simp [sendC, setLetter_size]
theorem sendC_far (cs : Array Value) (o i m : Nat) (x : Letter) (j : Nat) (hh : i < 8) (hj : j < o ∨ o + 35 ≤ j) : (sendC cs o i m x)[j]? = cs[j]? := by
  unfold sendC
  rw [getElem?_set _ _ _ _ (by omega), setLetter_far _ _ _ _ (by omega)]
theorem sendC_in (cs : Array Value) (o i m : Nat) (x : Letter) (j : Nat) (hj : j < o + i * 4 ∨ o + i * 4 + 3 < j) (h2 : j ≠ o + 33) : (sendC cs o i m x)[j]? = cs[j]? := by
  unfold sendC
  rw [getElem?_set _ _ _ _ (by omega), setLetter_far _ _ _ _ (by omega)]
theorem BoxAt.send {cs : Array Value} {o h : Nat} {l : List Letter} {c : Bool} (b : BoxAt cs o h ⟨l, c⟩) (x : Letter) (hl : l.length < 8) : BoxAt (sendC cs o ((h + l.length) % 8) (l.length + 1) x) o h ⟨l ++ [x], c⟩ := by
  have hh := b.hh
  have hi : (h + l.length) % 8 < 8 := Nat.mod_lt _ (by decide)
  obtain ⟨z, hz⟩ := b.ring _ hi
  have hx : LetterAt (sendC cs o ((h + l.length) % 8) (l.length + 1) x) (o + (h + l.length) % 8 * 4) x := by
    refine (setLetter_at cs _ x z hz).far (fun j _ _ => ?_)
    unfold sendC
    rw [getElem?_set _ _ _ _ (by omega)]
  refine ⟨hh, by show (l ++ [x]).length ≤ 8; rw [List.length_append]; show l.length + 1 ≤ 8; omega, ?_, ?_, ?_, ?_, ?_⟩
  · rw [sendC_in _ _ _ _ _ _ (by omega) (by omega)]; exact b.head
  · show _ = some (Value.int .i64 ((l ++ [x]).length : Nat))
    rw [List.length_append]
    unfold sendC
    exact getElem?_set_same _ _ _ _ ((setLetter_far _ _ _ _ (by omega)).trans b.many)
  · rw [sendC_in _ _ _ _ _ _ (by omega) (by omega)]; exact b.shut
  · intro i hi8
    by_cases e : i = (h + l.length) % 8
    · rw [e]; exact ⟨x, hx⟩
    · obtain ⟨y, hy⟩ := b.ring i hi8
      exact ⟨y, hy.far (fun j _ _ => sendC_in _ _ _ _ _ _ (by omega) (by omega))⟩
  · intro i y hy
    by_cases e : i < l.length
    · have hy2 : l[i]? = some y := by
        have h0 : (l ++ [x])[i]? = l[i]? := List.getElem?_append_left e
        exact h0.symm.trans hy
      exact (b.put i y hy2).far (fun j _ _ => sendC_in _ _ _ _ _ _ (by omega) (by omega))
    · have hil : i < (l ++ [x]).length := (List.getElem?_eq_some_iff.1 hy).1
      rw [List.length_append] at hil
      obtain rfl : i = l.length := by simp at hil; omega
      have : (l ++ [x])[l.length]? = some x := by simp
      obtain rfl : x = y := by injection this.symm.trans hy
      exact hx

theorem BoxAt.far {cs cs' : Array Value} {o h : Nat} {b : Bx} (x : BoxAt cs o h b) (k : ∀ j, o ≤ j → j < o + 35 → cs'[j]? = cs[j]?) : BoxAt cs' o h b :=
  ⟨x.hh, x.len, (k _ (by omega) (by omega)).trans x.head, (k _ (by omega) (by omega)).trans x.many, (k _ (by omega) (by omega)).trans x.shut,
    fun i hi => by obtain ⟨y, hy⟩ := x.ring i hi; exact ⟨y, hy.far (fun j _ _ => k j (by omega) (by omega))⟩,
    fun i y hy => (x.put i y hy).far (fun j _ _ => k j (by have := Nat.mod_lt (h + i) (show 8 > 0 by decide); omega) (by have := Nat.mod_lt (h + i) (show 8 > 0 by decide); omega))⟩

theorem BoxAt.close {cs : Array Value} {o h : Nat} {c : Bool} (b : BoxAt cs o h ⟨[], c⟩) : BoxAt (cs.setIfInBounds (o + 34) (.bool true)) o h ⟨[], true⟩ := by
  have hh := b.hh
  refine ⟨b.hh, by show 0 ≤ 8; omega, ?_, ?_, getElem?_set_same _ _ _ _ b.shut, ?_, ?_⟩
  · rw [getElem?_set _ _ _ _ (by omega)]; exact b.head
  · rw [getElem?_set _ _ _ _ (by omega)]; exact b.many
  · intro i hi
    obtain ⟨y, hy⟩ := b.ring i hi
    exact ⟨y, hy.far (fun j _ _ => getElem?_set _ _ _ _ (by omega))⟩
  · intro i y hy
    simp at hy

/-! ### Blocks -/
def Blk (w : World) (g : Nat) (t : TypeId) (cs : Array Value) : Prop := w.heap[g]? = some (.cells cs t (0, 0))
section
variable {w w' : World} {g : Nat} {t : TypeId} {cs : Array Value}
theorem Blk.lt (h : Blk w g t cs) : g < w.heap.size := (Array.getElem?_eq_some_iff.1 h).1
theorem Blk.cell (h : Blk w g t cs) (i : Nat) : w.cell? ⟨g, i, none⟩ = cs[i]? := by
  unfold Blk at h
  simp [World.cell?, h]
theorem Blk.free (h : Blk w g t cs) (i : Nat) : w.frozen? ⟨g, i, none⟩ = false := by
  unfold Blk at h
  simp [World.frozen?, h]
theorem Blk.set (h : Blk w g t cs) (i : Nat) (u : Value) : Blk (w.setCell ⟨g, i, none⟩ u) g t (cs.setIfInBounds i u) := by
  unfold Blk at h ⊢
  simp [World.setCell, Array.getElem?_modify, h]
theorem Blk.alloc (h : Blk w g t cs) (o : Obj) : Blk (w.alloc o) g t cs := (Below.heap_alloc w o g h.lt).trans h
theorem Blk.drewN (h : Blk w g t cs) (n : Nat) : Blk (w.drewN n) g t cs := h
theorem Blk.drew (h : Blk w g t cs) : Blk w.drew g t cs := h
theorem Blk.by {row : Option Nat} (h : Blk w g t cs) (k : w.grownBy w' row) (hne : some g ≠ row) : Blk w' g t cs := (k.block g h.lt hne).trans h
theorem Blk.ne {g' : Nat} {t' : TypeId} {cs' : Array Value} (h : Blk w g t cs) (h' : Blk w g' t' cs') (hne : t ≠ t') : g ≠ g' := by
  rintro rfl
  unfold Blk at h h'
  rw [h] at h'
  injection h' with h'
  injection h' with _ ht
  exact hne ht
end
theorem only_set {a w : World} {g : Nat} (h : a.grownBy w (some g)) (i : Nat) (u : Value) : a.grownBy (w.setCell ⟨g, i, none⟩ u) (some g) :=
  ⟨h.os, h.tape, h.output, by simpa [World.setCell] using h.size, fun k hk hne => (Below.heap_setCell w _ u k (fun e => hne (by rw [e]))).trans (h.block k hk hne)⟩
theorem only_alloc {a w : World} {row : Option Nat} (h : a.grownBy w row) (o : Obj) : a.grownBy (w.alloc o) row :=
  ⟨h.os, h.tape, h.output, Nat.le_trans h.size (by simp), fun i hi hne => (Below.heap_alloc w o i (Nat.lt_of_lt_of_le hi h.size)).trans (h.block i hi hne)⟩
theorem only_drewN {a w : World} {row : Option Nat} (h : a.grownBy w row) (n : Nat) : a.grownBy (w.drewN n) row := ⟨h.os, h.tape, h.output, h.size, h.block⟩
theorem only_drew {a w : World} {row : Option Nat} (h : a.grownBy w row) : a.grownBy w.drew row := ⟨h.os, h.tape, h.output, h.size, h.block⟩
theorem only_refl (a : World) (row : Option Nat) : a.grownBy a row := ⟨rfl, rfl, rfl, Nat.le_refl _, fun _ _ _ => rfl⟩
theorem only_below {a w : World} (h : Below a.heap.size a w) (row : Option Nat) : a.grownBy w row := ⟨h.os, h.tape, h.output, h.size, fun i hi _ => h.block i hi⟩
theorem only_trans {a b c : World} {row : Option Nat} (h : a.grownBy b row) (k : b.grownBy c row) : a.grownBy c row :=
  ⟨k.os.trans h.os, k.tape.trans h.tape, k.output.trans h.output, Nat.le_trans h.size k.size, fun i hi hne => (k.block i (Nat.lt_of_lt_of_le hi h.size) hne).trans (h.block i hi hne)⟩

/-- The post of pointer g, whose boxes lie in block rb. -/
structure PostAt (w : World) (g rb : Nat) (bs : List Bx) : Prop where
  ptr : Blk w g 67 #[.slice (some ⟨rb, 0, none⟩) bs.length bs.length]
  few : bs.length ≤ 64
  row : ∃ cs, Blk w rb 76 cs ∧ ∀ k b, bs[k]? = some b → ∃ h, BoxAt cs (k * 35) h b

theorem PostAt.by {w w' : World} {g rb : Nat} {bs : List Bx} {row : Option Nat} (h : PostAt w g rb bs) (k : w.grownBy w' row) (h1 : some g ≠ row) (h2 : some rb ≠ row) : PostAt w' g rb bs := by
  obtain ⟨p, f, cs, hb, hr⟩ := h
  exact ⟨p.by k h1, f, cs, hb.by k h2, hr⟩
theorem PostAt.below {w w' : World} {g rb : Nat} {bs : List Bx} (h : PostAt w g rb bs) (k : Below w.heap.size w w') : PostAt w' g rb bs := h.by (only_below k none) (by simp) (by simp)
/-- Box k turns. -/
theorem PostAt.turn {w w' : World} {g rb : Nat} {bs : List Bx} (h : PostAt w g rb bs) (hk : w.grownBy w' (some rb)) {k : Nat} {b : Bx} (hlt : k < bs.length) {cs cs' : Array Value} (hb : Blk w rb 76 cs) (hb' : Blk w' rb 76 cs')
    (hfar : ∀ j, (j < k * 35 ∨ k * 35 + 35 ≤ j) → cs'[j]? = cs[j]?) (hat : ∃ h, BoxAt cs' (k * 35) h b) : PostAt w' g rb (bs.set k b) := by
  obtain ⟨p, f, cs0, hb0, hr⟩ := h
  have hne := p.ne hb0 (by decide)
  obtain rfl : cs0 = cs := by
    unfold Blk at hb hb0
    rw [hb] at hb0
    injection hb0 with e
    injection e with e
    exact e.symm
  refine ⟨?_, by rw [List.length_set]; exact f, cs', hb', fun j b' hj => ?_⟩
  · rw [List.length_set]; exact p.by hk (by simpa using hne)
  · by_cases e : k = j
    · subst e
      rw [List.getElem?_set_self hlt] at hj
      injection hj with hj
      subst hj
      exact hat
    · rw [List.getElem?_set_ne e] at hj
      obtain ⟨h, hx⟩ := hr j b' hj
      exact ⟨h, hx.far (fun i _ _ => hfar i (by omega))⟩
end Go.Proofs.Ytilnbgkepijfbaa
