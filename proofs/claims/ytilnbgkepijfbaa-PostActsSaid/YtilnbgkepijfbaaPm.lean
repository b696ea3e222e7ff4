/- The reference's state as data, and the walks of its functions in, Len, Room, put; no condition. -/
import Derived.Test.YtilnbgkepijfbaaPl
namespace Go.Proofs.Ytilnbgkepijfbaa
open Go.RowKit
set_option linter.unusedVariables false
set_option linter.unusedSimpArgs false

/-- Letters in a slice whose block is none of rb. -/
structure Note (w : World) (rb : Nat → Prop) (ad : Option Addr) (n cap : Nat) (l : List Letter) : Prop where
  s : Slips w ad n cap l
  ne : ∀ x, ad = some x → ¬ rb x.block
  lt : ∀ x, ad = some x → x.block < w.heap.size

/-- The boxes of the reference lie in block r, behind slices; nothing of it lies in a block of rb. -/
structure RefAt (w : World) (rb : Nat → Prop) (r cap : Nat) (bs : List Bx) : Prop where
  room : bs.length ≤ cap
  most : cap ≤ maxLen
  ne : ¬ rb r
  lt : r < w.heap.size
  few : bs.length ≤ 64
  len : ∀ (k : Nat) (b : Bx), bs[k]? = some b → b.l.length ≤ 8
  at' : ∀ (k : Nat) (b : Bx), bs[k]? = some b → ∃ ad c, w.cell? ⟨r, k * 2, none⟩ = some (.slice ad b.l.length c) ∧ w.cell? ⟨r, k * 2 + 1, none⟩ = some (.bool b.c) ∧ Note w rb ad b.l.length c b.l

theorem Slips.by {a b : World} {row : Option Nat} {ad : Option Addr} {n cap : Nat} {l : List Letter} (h : Slips a ad n cap l) (k : a.grownBy b row) (hn : ∀ x, ad = some x → some x.block ≠ row) : Slips b ad n cap l := by
  refine ⟨h.many, h.room, h.most, fun i x hi => ?_⟩
  obtain ⟨gb, he, hl, h0, h1, h2, h3⟩ := h.at' i x hi
  have hne : some gb ≠ row := hn ⟨gb, 0, none⟩ he
  exact ⟨gb, he, Nat.lt_of_lt_of_le hl k.size, k.cell h0 hne, k.cell h1 hne, k.cell h2 hne, k.cell h3 hne⟩
theorem Note.by {a b : World} {rb : Nat → Prop} {row : Option Nat} {ad : Option Addr} {n cap : Nat} {l : List Letter} (h : Note a rb ad n cap l) (k : a.grownBy b row) (hr : ∀ x, row = some x → rb x) : Note b rb ad n cap l :=
  ⟨h.s.by k (fun x e => fun e2 => h.ne x e (hr _ e2.symm)), h.ne, fun x e => Nat.lt_of_lt_of_le (h.lt x e) k.size⟩
theorem Note.below {a b : World} {rb : Nat → Prop} {ad : Option Addr} {n cap : Nat} {l : List Letter} (h : Note a rb ad n cap l) (k : Below a.heap.size a b) : Note b rb ad n cap l := h.by (only_below k none) (fun x e => by cases e)
theorem RefAt.by {a b : World} {rb : Nat → Prop} {row : Option Nat} {r cap : Nat} {bs : List Bx} (h : RefAt a rb r cap bs) (k : a.grownBy b row) (hr : ∀ x, row = some x → rb x) : RefAt b rb r cap bs := by
  refine ⟨h.room, h.most, h.ne, Nat.lt_of_lt_of_le h.lt k.size, h.few, h.len, fun j x hj => ?_⟩
  obtain ⟨ad, c, h0, h1, h2⟩ := h.at' j x hj
  have hne : some r ≠ row := fun e => h.ne (hr r e.symm)
  exact ⟨ad, c, k.cell h0 hne, k.cell h1 hne, h2.by k hr⟩
theorem RefAt.below {a b : World} {rb : Nat → Prop} {r cap : Nat} {bs : List Bx} (h : RefAt a rb r cap bs) (k : Below a.heap.size a b) : RefAt b rb r cap bs := h.by (only_below k none) (fun x e => by cases e)
/-- More blocks are none of the state's: those that were not there. -/
theorem Note.more {w : World} {rb : Nat → Prop} {ad : Option Addr} {n cap : Nat} {l : List Letter} (h : Note w rb ad n cap l) {H : Nat} (hH : w.heap.size ≤ H) : Note w (fun x => rb x ∨ x = H) ad n cap l :=
  ⟨h.s, fun x e e2 => by rcases e2 with e2 | e2; exact h.ne x e e2; have := h.lt x e; omega, h.lt⟩
theorem RefAt.more {w : World} {rb : Nat → Prop} {r cap : Nat} {bs : List Bx} (h : RefAt w rb r cap bs) {H : Nat} (hH : w.heap.size ≤ H) : RefAt w (fun x => rb x ∨ x = H) r cap bs := by
  refine ⟨h.room, h.most, fun e => ?_, h.lt, h.few, h.len, fun j x hj => ?_⟩
  · rcases e with e | e
    · exact h.ne e
    · have := h.lt; omega
  · obtain ⟨ad, c, h0, h1, h2⟩ := h.at' j x hj
    exact ⟨ad, c, h0, h1, h2.more hH⟩
theorem RefAt.less {w : World} {rb : Nat → Prop} {H r cap : Nat} {bs : List Bx} (h : RefAt w (fun x => rb x ∨ x = H) r cap bs) : RefAt w rb r cap bs := by
  refine ⟨h.room, h.most, fun e => h.ne (.inl e), h.lt, h.few, h.len, fun j x hj => ?_⟩
  obtain ⟨ad, c, h0, h1, h2⟩ := h.at' j x hj
  exact ⟨ad, c, h0, h1, ⟨h2.s, fun y e e2 => h2.ne y e (.inl e2), h2.lt⟩⟩

theorem boxOf_at {bs : List Bx} {j : Nat} {b : Bx} (h : bs[j]? = some b) : boxOf bs (j : Int) = some b := by
  unfold boxOf; rw [if_pos (by omega)]; simpa using h

theorem in_yes (ad : Option Addr) (n cap j : Nat) (w : World) (hn : n ≤ 64) (hj : j < n) : Calls Try.prog 26 #[.slice ad n cap, .int .i64 (j : Int)] w fun e w' => e = .returned (.bool true) ∧ Below w.heap.size w w' := by
  have h0 : (0 : Int) ≤ (j : Int) := by omega
  have h1 : (j : Int) < (n : Int) := by omega
  go_enter Try.func26, Try.ntmps26
  go_wp2
  go_ret
  exact ⟨rfl, Below.refl _ _⟩
theorem in_no (ad : Option Addr) (n cap : Nat) (k : Int) (w : World) (hn : n ≤ 64) (hk : k < 0 ∨ (n : Int) ≤ k) : Calls Try.prog 26 #[.slice ad n cap, .int .i64 k] w fun e w' => e = .returned (.bool false) ∧ Below w.heap.size w w' := by
  by_cases h0 : k < 0
  · have h1 : ¬ 0 ≤ k := by omega
    go_enter Try.func26, Try.ntmps26
    go_wp2
    go_ret
    exact ⟨rfl, Below.refl _ _⟩
  · have h1 : 0 ≤ k := by omega
    have h2 : ¬ k < (n : Int) := by omega
    go_enter Try.func26, Try.ntmps26
    go_wp2
    go_ret
    exact ⟨rfl, Below.refl _ _⟩

set_option maxHeartbeats 1000000 in
theorem rlen_any (rb : Nat → Prop) (r cap : Nat) (bs : List Bx) (k : Int) (w : World) (h : RefAt w rb r cap bs) :
    Calls Try.prog 21 #[.slice (some ⟨r, 0, none⟩) bs.length cap, .int .i64 k] w fun e w' => e = .returned (.int .i64 (lenOf bs k)) ∧ Below w.heap.size w w' := by
  unfold lenOf
  cases hk : boxOf bs k with
  | none =>
    have ha := in_no (some ⟨r, 0, none⟩) bs.length cap k w h.few (boxOf_none hk)
    clear hk h
    go_enter Try.func21, Try.ntmps21
    go_wp2_with fail
    refine ha.mono ?_
    rintro e w1 ⟨rfl, hb⟩
    go_wp2
    go_ret
    exact ⟨rfl, hb⟩
  | some b =>
    obtain ⟨j, rfl, hj, hbj⟩ := boxOf_some hk
    have ha := in_yes (some ⟨r, 0, none⟩) bs.length cap j w h.few hj
    obtain ⟨ad, c, h0, h1, h2⟩ := h.at' j b hbj
    have hlt := h.lt
    have h00 : (0 : Int) ≤ (j : Int) := by omega
    have h11 : (j : Int) < (bs.length : Int) := by omega
    have h8 := h.len j b hbj
    clear hk hbj h h1 h2
    go_enter Try.func21, Try.ntmps21
    go_wp2_with fail
    refine ha.mono ?_
    rintro e w1 ⟨rfl, hb⟩
    have c0 := (hb.cell (p := ⟨r, j * 2, none⟩) hlt).trans h0
    have hlt1 := World.block_lt_of_cell? w1 _ c0
    clear h0 ha
    go_wp2
    go_ret
    exact ⟨rfl, hb⟩

set_option maxHeartbeats 1000000 in
theorem rroom_any (rb : Nat → Prop) (r cap : Nat) (bs : List Bx) (k : Int) (w : World) (h : RefAt w rb r cap bs) :
    Calls Try.prog 22 #[.slice (some ⟨r, 0, none⟩) bs.length cap, .int .i64 k] w fun e w' => e = .returned (.int .i64 (roomOf bs k)) ∧ Below w.heap.size w w' := by
  unfold roomOf
  cases hk : boxOf bs k with
  | none =>
    have ha := in_no (some ⟨r, 0, none⟩) bs.length cap k w h.few (boxOf_none hk)
    clear hk h
    go_enter Try.func22, Try.ntmps22
    go_wp2_with fail
    refine ha.mono ?_
    rintro e w1 ⟨rfl, hb⟩
    go_wp2
    go_ret
    exact ⟨rfl, hb⟩
  | some b =>
    obtain ⟨j, rfl, hj, hbj⟩ := boxOf_some hk
    have ha := in_yes (some ⟨r, 0, none⟩) bs.length cap j w h.few hj
    obtain ⟨ad, c, h0, h1, h2⟩ := h.at' j b hbj
    have hlt := h.lt
    have h00 : (0 : Int) ≤ (j : Int) := by omega
    have h11 : (j : Int) < (bs.length : Int) := by omega
    have h8 := h.len j b hbj
    obtain ⟨bl, bc⟩ := b
    simp only at h0 h1 h8 ⊢
    clear hk hbj h h2
    go_enter Try.func22, Try.ntmps22
    go_wp2_with fail
    refine ha.mono ?_
    rintro e w1 ⟨rfl, hb⟩
    have c0 := (hb.cell (p := ⟨r, j * 2, none⟩) hlt).trans h0
    have c1 := (hb.cell (p := ⟨r, j * 2 + 1, none⟩) hlt).trans h1
    have hlt1 := World.block_lt_of_cell? w1 _ c0
    clear h0 ha h1
    cases bc with
    | true =>
      go_wp2
      go_ret
      exact ⟨rfl, hb⟩
    | false =>
      go_wp2
      go_ret
      exact ⟨rfl, hb⟩
end Go.Proofs.Ytilnbgkepijfbaa
