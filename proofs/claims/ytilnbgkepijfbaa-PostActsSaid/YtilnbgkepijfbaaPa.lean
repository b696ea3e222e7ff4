/- A post in memory, and the walks of its inner functions; no condition. -/
import Derived.Test.YtilnbgkepijfbaaRows
import Derived.Test.YtilnbgkepijfbaaSt
import Derived.WalkKit
import Derived.WalkSpells
import Derived.WalkLawsBesides
import Derived.Lib.Hide
import Derived.WalkSmall
import Derived.BigQuiet
import Derived.BigRegion
import Derived.Deep.QuietTactic
import Derived.RegionTactic
import Derived.Deep.RegionHeld3
import Derived.Deep.LoopGhost
import Derived.RowKit3
namespace Go.Proofs.Ytilnbgkepijfbaa
open Go.RowKit
set_option linter.unusedVariables false
set_option linter.unusedSimpArgs false

/-- A box that is empty, and open. -/
def zbox : Array Value := #[.int .i64 0, .int .i64 0, .int .i64 0, .string ⟨#[]⟩, .int .i64 0, .int .i64 0, .int .i64 0, .string ⟨#[]⟩, .int .i64 0, .int .i64 0, .int .i64 0, .string ⟨#[]⟩, .int .i64 0, .int .i64 0, .int .i64 0, .string ⟨#[]⟩, .int .i64 0, .int .i64 0, .int .i64 0, .string ⟨#[]⟩, .int .i64 0, .int .i64 0, .int .i64 0, .string ⟨#[]⟩, .int .i64 0, .int .i64 0, .int .i64 0, .string ⟨#[]⟩, .int .i64 0, .int .i64 0, .int .i64 0, .string ⟨#[]⟩, .int .i64 0, .int .i64 0, .bool false]

theorem heap_new_at (w : World) (o : Obj) (n : Nat) (h : n = w.heap.size) : (w.alloc o).heap[n]? = some o := by rw [h]; exact heap_alloc_new w o

set_option maxHeartbeats 1000000 in
theorem at_in (g rb n : Nat) (k : Nat) (w : World) (hk : k < n) (hn : n ≤ 64) (h : w.cell? ⟨g, 0, none⟩ = some (.slice (some ⟨rb, 0, none⟩) n n)) :
    Calls Try.prog 23 #[.pointer (some ⟨g, 0, none⟩), .int .i64 k] w fun e w' => e = .returned (.tuple #[.pointer (some ⟨rb, k * 35, none⟩), .agg #[.bool false, .int .i64 0]]) ∧ Below w.heap.size w w' := by
  have hlt : (k : Int) < (n : Int) := by omega
  have hg := World.block_lt_of_cell? w _ h
  go_enter Try.func23, Try.ntmps23
  go_wp2
  refine bodyPost_ret (v := .tuple #[.pointer (some ⟨rb, k * 35, none⟩), .agg #[.bool false, .int .i64 0]]) (by simp [results, Try.results23, go_sem]) rfl ⟨rfl, (Below.refl _ _).alloc (Nat.le_refl _) _⟩

/-- What p.at answers of a box that there is not: a box of nobody's. -/
def NoBox (w : World) (e : Ending) (w' : World) : Prop :=
  ∃ q cs, e = .returned (.tuple #[.pointer (some ⟨q, 0, none⟩), .agg #[.bool true, .int .i64 3]]) ∧ Below w.heap.size w w' ∧ w.heap.size ≤ q ∧ w'.heap[q]? = some (.cells cs 76 (0, 0)) ∧ cs[33]? = some (.int .i64 0) ∧ cs[34]? = some (.bool false)

set_option maxHeartbeats 1000000 in
theorem at_out (g rb n : Nat) (k : Int) (w : World) (hk : k < 0 ∨ (n : Int) ≤ k) (hn : n ≤ 64) (h : w.cell? ⟨g, 0, none⟩ = some (.slice (some ⟨rb, 0, none⟩) n n)) :
    Calls Try.prog 23 #[.pointer (some ⟨g, 0, none⟩), .int .i64 k] w (NoBox w) := by
  have hg := World.block_lt_of_cell? w _ h
  by_cases h0 : k < 0
  · go_enter Try.func23, Try.ntmps23
    go_wp2
    refine bodyPost_ret (v := .tuple #[.pointer (some ⟨w.heap.size + 1, 0, none⟩), .agg #[.bool true, .int .i64 3]]) (by simp [results, Try.results23, go_sem]) rfl ⟨w.heap.size + 1, zbox, rfl, ((Below.refl _ _).alloc (Nat.le_refl _) _).alloc (by simp) _, by omega, ?_, ?_, ?_⟩
    · exact heap_new_at _ _ _ (by simp)
    · rfl
    · rfl
  · have hk2 : (n : Int) ≤ k := by omega
    go_enter Try.func23, Try.ntmps23
    go_wp2
    refine bodyPost_ret (v := .tuple #[.pointer (some ⟨w.heap.size + 1, 0, none⟩), .agg #[.bool true, .int .i64 3]]) (by simp [results, Try.results23, go_sem]) rfl ⟨w.heap.size + 1, zbox, rfl, ((Below.refl _ _).alloc (Nat.le_refl _) _).alloc (by simp) _, by omega, ?_, ?_, ?_⟩
    · exact heap_new_at _ _ _ (by simp)
    · rfl
    · rfl

/-! ### first -/
def firstOf : List (Bool × Int) → Int
  | [] => 0
  | (b, e) :: t => if b then e else firstOf t

set_option maxHeartbeats 1000000 in
theorem first_any (b c : Nat) (l : List (Bool × Int)) (w : World) (hl : l.length ≤ 10) (h : ∀ i, i < l.length → w.cell? ⟨b, i * 2, none⟩ = some (.bool (l.getD i (false, 0)).1) ∧ w.cell? ⟨b, i * 2 + 1, none⟩ = some (.int .i64 (l.getD i (false, 0)).2)) :
    Calls Try.prog 24 #[.slice (some ⟨b, 0, none⟩) l.length c] w fun e w' => e = .returned (.int .i64 (firstOf l)) ∧ Below w.heap.size w w' := by
  have H := Lib.hid h
  clear h
  go_enter Try.func24, Try.ntmps24
  go_wp2
  go_loopw [7] (fun s7 wr => ∃ i : Nat, s7 = .int .i64 i ∧ i ≤ l.length ∧ Hid (firstOf (l.drop i) = firstOf l) ∧ Hid (Below w.heap.size w wr)) (fun s7 _ => l.length - (intOf s7).toNat)
  case atStart => exact ⟨0, rfl, by omega, Lib.hid rfl, Lib.hid (Below.refl _ _)⟩
  case round =>
    obtain ⟨i, rfl, hi, HF, HB⟩ := hrel
    by_cases hlt : i < l.length
    · obtain ⟨c0, c1⟩ := H.out i hlt
      have hb := World.block_lt_of_cell? w _ c0
      have d0 := (HB.out.cell (p := ⟨b, i * 2, none⟩) hb).trans c0
      have d1 := (HB.out.cell (p := ⟨b, i * 2 + 1, none⟩) hb).trans c1
      have hx : l.drop i = l.getD i (false, 0) :: l.drop (i + 1) := by
        rw [List.drop_eq_getElem_cons hlt]; simp [List.getD_eq_getElem?_getD, hlt]
      have HF2 := HF.out
      rw [hx] at HF2
      clear c0 c1 hx HF
      generalize l.getD i (false, 0) = x at *
      obtain ⟨x1, x2⟩ := x
      have hi0 : (0 : Int) ≤ (i : Int) := by omega
      have hi1 : (i : Int) < (l.length : Int) := by omega
      cases x1 with
      | true =>
        have HF3 := Lib.hid (show x2 = firstOf l from HF2)
        clear HF2
        go_wp2
        go_ret
        exact ⟨by rw [← HF3.out]; rfl, HB.out.alloc HB.out.size _⟩
      | false =>
        have HF3 := Lib.hid (show firstOf (l.drop (i + 1)) = firstOf l from HF2)
        clear HF2
        go_wp2
        go_roundw
        case rel => exact ⟨i + 1, by go_num, by omega, HF3, Lib.hid (HB.out.alloc HB.out.size _)⟩
        case measure => simp [intOf]; omega
    · have he : firstOf l = 0 := by rw [← HF.out, List.drop_of_length_le (by omega)]; rfl
      have HE := Lib.hid he
      clear HF he
      go_wp2
      go_ret
      exact ⟨by rw [HE.out]; rfl, HB.out⟩
end Go.Proofs.Ytilnbgkepijfbaa
