/- A splitter in memory: its block, the row of its bytes (the head of which may be frozen), and what a call leaves of them; no condition. -/
import Derived.Lib.FrozenHead
import Derived.Lib.UnsafeStr
import Derived.RowKit3
import Derived.Below
import Derived.Deep.Draws
namespace Go.Proofs.Yteclngkfiaoidaa
open Go.RowKit Go.Lib

/-- The splitter of block b holds the bytes bs, of which 'told' were told; r: the block of its bytes' row, if there is one. -/
def Sp (w : World) (b : Nat) (r : Option Nat) (bs : List UInt8) (told : Nat) : Prop :=
  ∃ p v, (p = .pointer none ∨ p = .pointer (some ⟨b, 0, none⟩)) ∧ w.heap[b]? = some (.cells #[p, v, .int .i64 told] 32 (0, 0)) ∧ w.ownsRowF 0 5 1 v bs.length (byteCells bs) ∧ v.ownBlock = r ∧ (v = .slice none 0 0 ↔ bs = [])

/-- From w to w' nothing has turned but the splitter's block b, its row r, and what is new; r': the row behind. -/
structure Mv (b : Nat) (r : Option Nat) (w : World) (r' : Option Nat) (w' : World) : Prop where
  os : w'.os = w.os
  tape : w'.tape = w.tape
  output : w'.output = w.output
  size : w.heap.size ≤ w'.heap.size
  block : ∀ g, g < w.heap.size → g ≠ b → some g ≠ r → w'.heap[g]? = w.heap[g]?
  row : r' = r ∨ ∃ k, r' = some k ∧ w.heap.size ≤ k

theorem Mv.refl (b : Nat) (r : Option Nat) (w : World) : Mv b r w r w := ⟨rfl, rfl, rfl, Nat.le_refl _, fun _ _ _ _ => rfl, .inl rfl⟩
theorem Mv.trans {b : Nat} {r r1 r2 : Option Nat} {w w1 w2 : World} (h : Mv b r w r1 w1) (k : Mv b r1 w1 r2 w2) : Mv b r w r2 w2 := by
  refine ⟨k.os.trans h.os, k.tape.trans h.tape, k.output.trans h.output, Nat.le_trans h.size k.size, fun g hg hb hr => ?_, ?_⟩
  · refine (k.block g (Nat.lt_of_lt_of_le hg h.size) hb ?_).trans (h.block g hg hb hr)
    rcases h.row with e | ⟨j, e, hj⟩
    · rw [e]; exact hr
    · rw [e]; intro e2; injection e2 with e2; omega
  · rcases k.row with e | ⟨j, e, hj⟩
    · rw [e]; exact h.row
    · exact .inr ⟨j, e, Nat.le_trans h.size hj⟩
theorem Mv.drewN {b : Nat} {r r1 : Option Nat} {w w1 : World} (h : Mv b r w r1 w1) (n : Nat) : Mv b r w r1 (w1.drewN n) := ⟨h.os, h.tape, h.output, h.size, h.block, h.row⟩
theorem Mv.drew {b : Nat} {r r1 : Option Nat} {w w1 : World} (h : Mv b r w r1 w1) : Mv b r w r1 w1.drew := ⟨h.os, h.tape, h.output, h.size, h.block, h.row⟩
theorem Mv.setCell {b : Nat} {r r1 : Option Nat} {w w1 : World} (h : Mv b r w r1 w1) (i : Nat) (u : Value) : Mv b r w r1 (w1.setCell ⟨b, i, none⟩ u) :=
  ⟨h.os, h.tape, h.output, by simpa [World.setCell] using h.size, fun g hg hb hr => (Below.heap_setCell _ _ _ _ hb).trans (h.block g hg hb hr), h.row⟩
/-- The splitter and its row are the call's own (from B on): what lies below B is as it was. -/
theorem Mv.below {b : Nat} {r r1 : Option Nat} {w w1 : World} (h : Mv b r w r1 w1) {B : Nat} (hB : B ≤ b) (hr : ∀ k, r = some k → B ≤ k) (hBw : B ≤ w.heap.size) : Below B w w1 :=
  ⟨h.os, h.tape, h.output, h.size, fun k hk => h.block k (by omega) (by omega) (fun e => by have := hr k e.symm; omega)⟩
theorem Mv.rowLe {b : Nat} {r r1 : Option Nat} {w w1 : World} (h : Mv b r w r1 w1) {B : Nat} (hr : ∀ k, r = some k → B ≤ k) (hBw : B ≤ w.heap.size) : ∀ k, r1 = some k → B ≤ k := by
  intro k hk
  rcases h.row with e | ⟨j, e, hj⟩
  · exact hr k (by rw [← e]; exact hk)
  · rw [e] at hk; injection hk with hk; omega

section
variable {w : World} {b : Nat} {r : Option Nat} {bs : List UInt8} {told : Nat}
theorem Sp.lt (h : Sp w b r bs told) : b < w.heap.size := by
  obtain ⟨p, v, _, hb, _⟩ := h
  exact (Array.getElem?_eq_some_iff.1 hb).1
theorem Sp.row_lt (h : Sp w b r bs told) : ∀ k, r = some k → k < w.heap.size ∧ k ≠ b := by
  obtain ⟨p, v, _, hb, hown, hr, _⟩ := h
  subst hr
  intro k hk
  exact ⟨(hown.lt k hk).2, fun e => ownBlock_neF hown hb (by decide) (by rw [hk, e])⟩
theorem Sp.drewN (h : Sp w b r bs told) (n : Nat) : Sp (w.drewN n) b r bs told := h
/-- Blocks elsewhere may turn. -/
theorem Sp.keep {w' : World} (h : Sp w b r bs told) (hb : w'.heap[b]? = w.heap[b]?) (hr : ∀ k, r = some k → w'.heap[k]? = w.heap[k]?) : Sp w' b r bs told := by
  obtain ⟨p, v, hp, hbk, hown, hrr, hn⟩ := h
  refine ⟨p, v, hp, hb.trans hbk, ⟨hown.1, ?_⟩, hrr, hn⟩
  rcases hown.2 with h0 | ⟨g, cap, cur, fz, rfl, hg, hgg, rest⟩
  · exact .inl h0
  · exact .inr ⟨g, cap, cur, fz, rfl, hg, (hr g (by rw [← hrr]; rfl)).trans hgg, rest⟩
theorem Sp.alloc (h : Sp w b r bs told) (o : Obj) : Sp (w.alloc o) b r bs told :=
  h.keep (Below.heap_alloc _ _ _ h.lt) (fun k hk => Below.heap_alloc _ _ _ (h.row_lt k hk).1)
theorem Sp.new (w : World) : Sp (w.alloc (.cells #[.pointer none, .slice none 0 0, .int .i64 0] 32)) w.heap.size none [] 0 :=
  ⟨.pointer none, .slice none 0 0, .inl rfl, heap_alloc_new w _, ⟨by simp [byteCells], .inl ⟨rfl, rfl⟩⟩, rfl, by simp⟩
end

/-- append(buf, s...) onto the splitter's row: as run_append_own_stringF, and where the new row lies. -/
theorem append_row {P : Program} (w : World) (t u ty : TypeId) (i : TypeInfo) (ht : P.underlying t = some (.slice 5)) (hu : P.underlying u = some .string) (hi : P.info? 5 = some i) (hz : i.zero = some (.int .u8 0))
    (hsize : i.size = 1) (hby : i.bytes = 1)
    (v : Value) (n : Nat) (xs : List Value) (hown : w.ownsRowF 0 5 1 v n xs) (s : ByteArray) (hbytes : n + s.size ≤ 140737488355328) :
    ∃ v' w', (Builtin.append_ #[t, u] ty #[v, .string s]).run P w = .ok v' w' ∧ w'.ownsRowF 0 5 1 v' (n + s.size) (xs ++ strCells s) ∧ w.grownBy w' v.ownBlock ∧
      (v' = .slice none 0 0 ↔ v = .slice none 0 0 ∧ s.size = 0) ∧ (v'.ownBlock = v.ownBlock ∨ ∃ k, v'.ownBlock = some k ∧ w.heap.size ≤ k) := by
  have h63 : n + s.size ≤ maxLen := by unfold maxLen; omega
  rcases hown.2 with ⟨rfl, rfl⟩ | ⟨g, cap, cur, fz, rfl, hbg, hg, hfz, hnc, hcm, hcs, htake⟩
  · obtain ⟨v', w', h1, h2, h3, h4⟩ := run_append_own_string (P := P) w w.heap.size t u ty 5 i ht hu hi hz hsize hby (.slice none 0 0) 0 xs ⟨hown.1, .inl ⟨rfl, rfl⟩⟩ s h63 hbytes (Nat.le_refl _)
    refine ⟨v', w', h1, ?_, h3, h4, ?_⟩
    · have := World.ownsRowF_of h2
      refine ⟨this.1, ?_⟩
      rcases this.2 with h0 | ⟨g, cap, cur, fz, e, hg, rest⟩
      · exact .inl h0
      · exact .inr ⟨g, cap, cur, fz, e, Nat.zero_le _, rest⟩
    · rcases h2.2 with ⟨e, _⟩ | ⟨g, cap, cur, e, hg, _⟩
      · left; rw [e]
      · right; exact ⟨g, by rw [e]; rfl, hg⟩
  · obtain ⟨v', w', h1, h2, h3, h4⟩ := run_append_own_stringF (P := P) w 0 t u ty 5 i ht hu hi hz hsize hby (.slice (some ⟨g, 0, none⟩) n cap) n xs hown s h63 hbytes (Nat.zero_le _)
    refine ⟨v', w', h1, h2, h3, h4, ?_⟩
    by_cases hroom : n + s.size ≤ cap
    · have hr := run_append_room_stringF (P := P) w t u ty 5 i ht hu hi hsize g n cap cur fz hg (by simpa using hfz) s hroom (by rw [hcs]; simpa using hroom)
      rw [hr] at h1
      injection h1 with e1 e2
      left; rw [← e1]; rfl
    · have holds : ∀ j u, xs[j]? = some u → w.cell? ((⟨g, 0, none⟩ : Addr).add j) = some u := hown.cells (g := g) rfl
      have hr := run_append_grow_string (P := P) w t u ty 5 i (.int .u8 0) ht hu hi hz ⟨g, 0, none⟩ n cap xs (by rw [hsize]; simpa using hown.1) holds s (by omega) (by unfold maxLen at h63; omega) (by rw [hby]; exact growslice_fits (by omega) (by omega))
      rw [hr] at h1
      injection h1 with e1 e2
      right; exact ⟨w.heap.size, by rw [← e1]; rfl, Nat.le_refl _⟩
end Go.Proofs.Yteclngkfiaoidaa
