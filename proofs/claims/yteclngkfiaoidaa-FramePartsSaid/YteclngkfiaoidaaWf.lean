/- The walks of the reference's length, Bad and Next, and of shown; no condition but that a text is at most 2^47 bytes. -/
import Derived.Test.YteclngkfiaoidaaWe
namespace Go.Proofs.Yteclngkfiaoidaa
open Go.RowKit Go.Lib
set_option linter.unusedVariables false
set_option linter.unusedSimpArgs false

/-- What the reference's length answers. -/
def rlen (l : List UInt8) : Int := if has l then num l else -1

theorem of_list (s : ByteArray) : s = ⟨s.data.toList.toArray⟩ := by
  apply ByteArray.ext; simp

set_option maxHeartbeats 1000000 in
theorem rlength_any (s : ByteArray) (w : World) :
    Calls Try.prog 21 #[.string s] w fun e w' => e = .returned (.int .i64 (rlen s.data.toList)) ∧ ∃ n, w' = w.drewN n := by
  by_cases hs : s.size < 2
  · have hh : rlen s.data.toList = -1 := by
      have := size_list s
      unfold rlen has
      rw [if_neg]
      simp; omega
    rw [hh]
    clear hh
    go_enter Try.func21, Try.ntmps21
    go_wp2
    go_ret
    exact ⟨rfl, 0, rfl⟩
  · obtain ⟨x, y, t, hl⟩ : ∃ x y t, s.data.toList = x :: y :: t := by
      have hsz := size_list s
      match h : s.data.toList with
      | [] => rw [h] at hsz; simp at hsz; omega
      | [_] => rw [h] at hsz; simp at hsz; omega
      | x :: y :: t => exact ⟨x, y, t, rfl⟩
    have hv : rlen s.data.toList = (x.toNat : Int) * 256 + y.toNat := by rw [hl]; unfold rlen has num; rw [if_pos (by simp)]
    rw [hv]
    have hS : s = ⟨(x :: y :: t).toArray⟩ := (of_list s).trans (by rw [hl])
    have i0 : ∀ W : World, (Instr.index 9 (.string s) (.int .i64 0)).run Try.prog W = .ok (.int .u8 x.toNat) W := fun W => by
      rw [hS, run_index_string W 9 _ _ _ Try.underlying9, dif_pos ⟨by omega, by show (0 : Int) < ((x :: y :: t).length : Nat); first | (simp; done) | (simp; omega)⟩]; rfl
    have i1 : ∀ W : World, (Instr.index 9 (.string s) (.int .i64 1)).run Try.prog W = .ok (.int .u8 y.toNat) W := fun W => by
      rw [hS, run_index_string W 9 _ _ _ Try.underlying9, dif_pos ⟨by omega, by show (1 : Int) < ((x :: y :: t).length : Nat); first | (simp; done) | (simp; omega)⟩]; rfl
    have hx := UInt8.toNat_lt x
    have hy := UInt8.toNat_lt y
    clear hS hl hv
    go_enter Try.func21, Try.ntmps21
    go_wp2_with fail
    go_quiet (fail)
    go_wp2
    go_ret
    exact ⟨rfl, _, rfl⟩

theorem bad_rlen (l : List UInt8) : bad l = (rlen l == 0 || decide (1024 < rlen l)) := by
  unfold bad rlen
  cases h : has l <;> simp

set_option maxHeartbeats 1000000 in
theorem rbad_any (s : ByteArray) (w : World) :
    Calls Try.prog 15 #[.string s] w fun e w' => e = .returned (.bool (bad s.data.toList)) ∧ ∃ n, w' = w.drewN n := by
  have hc := rlength_any s w
  rw [bad_rlen]
  generalize rlen s.data.toList = n at *
  by_cases e0 : n = 0
  · subst e0
    go_enter Try.func15, Try.ntmps15
    go_wp2_with fail
    refine hc.mono ?_
    rintro e w1 ⟨rfl, k, rfl⟩
    go_wp2
    go_ret
    exact ⟨rfl, _, rfl⟩
  · have g0 : (n == 0) = false := by simpa using e0
    clear e0
    go_enter Try.func15, Try.ntmps15
    go_wp2_with fail
    refine hc.mono ?_
    rintro e w1 ⟨rfl, k, rfl⟩
    go_wp2
    go_ret
    exact ⟨by simp [g0], _, rfl⟩

def rnextV (s : ByteArray) : Value :=
  match next s.data.toList with
  | none => .tuple #[.string ⟨#[]⟩, .string s, .bool false]
  | some (t, l) => .tuple #[.string ⟨t.toArray⟩, .string ⟨l.toArray⟩, .bool true]

theorem extract_mid' (s : ByteArray) (k : Nat) : s.extract 2 (2 + k) = ⟨((s.data.toList.drop 2).take k).toArray⟩ := by
  have h := extract_mid s.data.toList k
  rwa [← of_list] at h
theorem extract_end' (s : ByteArray) (k : Nat) : s.extract k s.size = ⟨(s.data.toList.drop k).toArray⟩ := by
  have h := extract_end s.data.toList k
  rwa [← of_list, size_list] at h

set_option maxHeartbeats 1000000 in
theorem rnext_none (s : ByteArray) (w : World) (h : next s.data.toList = none) :
    Calls Try.prog 16 #[.string s] w fun e w' => e = .returned (.tuple #[.string ⟨#[]⟩, .string s, .bool false]) ∧ ∃ n, w' = w.drewN n := by
  have hc := rlength_any s w
  have hd := fun k => rbad_any s (World.drewN w k)
  unfold next at h
  have hsz := size_list s
  have hn := num_nn s.data.toList
  have hn1 := num_le s.data.toList
  cases hB : bad s.data.toList with
  | true =>
    rw [hB] at hd
    clear h hsz hB
    go_enter Try.func16, Try.ntmps16
    go_wp2_with fail
    refine hc.mono ?_
    rintro e w1 ⟨rfl, k, rfl⟩
    go_wp2_with fail
    refine (hd k).mono ?_
    rintro e w1 ⟨rfl, k2, rfl⟩
    go_wp2
    refine bodyPost_ret (results_tmp3 rfl _ _ _) rfl ?_
    exact ⟨rfl, _, rfl⟩
  | false =>
    rw [hB] at hd
    by_cases hH : has s.data.toList = true
    · have e1 : rlen s.data.toList = num s.data.toList := by unfold rlen; rw [if_pos hH]
      rw [e1] at hc
      have hlt : (s.size : Int) < 2 + num s.data.toList := by
        rw [hH, hB] at h
        simp at h
        omega
      clear h hsz hB hH e1
      generalize num s.data.toList = n at *
      go_enter Try.func16, Try.ntmps16
      go_wp2_with fail
      refine hc.mono ?_
      rintro e w1 ⟨rfl, k, rfl⟩
      go_wp2_with fail
      refine (hd k).mono ?_
      rintro e w1 ⟨rfl, k2, rfl⟩
      go_wp2
      refine bodyPost_ret (results_tmp3 rfl _ _ _) rfl ?_
      exact ⟨rfl, _, rfl⟩
    · have e1 : rlen s.data.toList = -1 := by unfold rlen; rw [if_neg hH]
      rw [e1] at hc
      clear h hsz hB hH e1
      go_enter Try.func16, Try.ntmps16
      go_wp2_with fail
      refine hc.mono ?_
      rintro e w1 ⟨rfl, k, rfl⟩
      go_wp2_with fail
      refine (hd k).mono ?_
      rintro e w1 ⟨rfl, k2, rfl⟩
      go_wp2
      refine bodyPost_ret (results_tmp3 rfl _ _ _) rfl ?_
      exact ⟨rfl, _, rfl⟩

set_option maxHeartbeats 1000000 in
theorem rnext_some (s : ByteArray) (w : World) (k : Nat) (hH : has s.data.toList = true) (hB : bad s.data.toList = false) (hk : num s.data.toList = k) (hs : 2 + k ≤ s.size) :
    Calls Try.prog 16 #[.string s] w fun e w' => e = .returned (.tuple #[.string (s.extract 2 (2 + k)), .string (s.extract (2 + k) s.size), .bool true]) ∧ ∃ n, w' = w.drewN n := by
  have hc := rlength_any s w
  have hd := fun k => rbad_any s (World.drewN w k)
  rw [hB] at hd
  have hn1 := num_le s.data.toList
  rw [show rlen s.data.toList = k from by unfold rlen; rw [if_pos hH]; exact hk] at hc
  rw [hk] at hn1
  clear hH hB hk
  have hlt : (2 : Int) + (k : Int) ≤ (s.size : Int) := by omega
  go_enter Try.func16, Try.ntmps16
  go_wp2_with fail
  refine hc.mono ?_
  rintro e w1 ⟨rfl, q, rfl⟩
  go_wp2_with fail
  refine (hd q).mono ?_
  rintro e w1 ⟨rfl, q2, rfl⟩
  clear hc hd
  go_wp2_with fail
  go_quiet (fail)
  go_wp2
  refine bodyPost_ret (results_tmp3 rfl _ _ _) rfl ?_
  exact ⟨rfl, _, World.drewN_drewN _ _ _⟩

theorem rnext_any (s : ByteArray) (w : World) :
    Calls Try.prog 16 #[.string s] w fun e w' => e = .returned (rnextV s) ∧ ∃ n, w' = w.drewN n := by
  unfold rnextV
  cases hn : next s.data.toList with
  | none => exact rnext_none s w hn
  | some p =>
    obtain ⟨t, l⟩ := p
    unfold next at hn
    split at hn
    · rename_i hc
      simp only [Bool.and_eq_true, Bool.not_eq_true', decide_eq_true_eq] at hc
      obtain ⟨⟨h1, h2⟩, h3⟩ := hc
      have hsz := size_list s
      have hnn := num_nn s.data.toList
      have h := rnext_some s w (num s.data.toList).toNat h1 h2 (by omega) (by omega)
      injection hn with hn
      injection hn with ht hl
      rw [extract_mid', extract_end', ht, hl] at h
      exact h
    · cases hn

/-! ### shown -/
theorem st_new (w : World) : St (w.alloc (.cells #[.pointer none, .slice none 0 0, .int .i64 0] 32)) w.heap.size none 0 [] :=
  ⟨[], 0, rfl, Nat.le_refl _, by decide, rfl, Sp.new w⟩

theorem next_a : next ([] ++ (⟨#[0, 1, 97, 0]⟩ : ByteArray).data.toList) = some ([97], [0]) := by decide +kernel

set_option maxRecDepth 100000 in
set_option maxHeartbeats 1000000 in
theorem shown_any (w : World) : Calls Try.prog 8 #[] w fun e w' => e = .returned (.bool true) ∧ Below w.heap.size w w' := by
  have hst := st_new w
  have hp := push_any w.heap.size none 0 [] ⟨#[0, 1, 97, 0]⟩ _ hst (by decide)
  go_enter Try.func8, Try.ntmps8
  go_wp2_with fail
  refine hp.mono ?_
  rw [if_neg (by decide)]
  rintro e w1 ⟨r1, rfl, p1, q1⟩
  have hn := next_any w.heap.size r1 _ _ _ p1
  unfold nextPost at hn
  rw [next_a] at hn
  clear hp hst p1
  go_wp2_with fail
  refine hn.mono ?_
  rintro e w2 ⟨r2, rfl, p2, q2⟩
  have hl := left_st _ _ _ _ _ p2
  clear hn p2
  go_wp2_with fail
  refine hl.mono ?_
  rintro e w3 ⟨r3, rfl, p3, q3⟩
  go_wp2
  go_ret
  have hmv := (q1.trans q2).trans q3
  exact ⟨rfl, ((Below.refl _ _).alloc (Nat.le_refl _) _).trans (hmv.below (Nat.le_refl _) (by simp) (by simp))⟩
end Go.Proofs.Yteclngkfiaoidaa
