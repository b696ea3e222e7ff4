/- The walks of Put, the reference's Put, Bad and Next, and of shown; no condition. -/
import Derived.Test.YteclngkfiaoidaaWd
import Derived.Laws.BytesArg
import Derived.Lib.Strings
namespace Go.Proofs.Yteclngkfiaoidaa
open Go.RowKit Go.Lib
set_option linter.unusedVariables false
set_option linter.unusedSimpArgs false

/-- s with the two bytes of its length ahead. -/
def framed (s : ByteArray) : ByteArray := strOfNums [(s.size : Int) / 256, (s.size : Int) % 256] ++ s

theorem conv_two (w : World) (a b : Int) :
    (convert 26 9 (.slice (some ⟨w.heap.size, 0, none⟩) 2 2)).run Try.prog (w.alloc (.cells #[.int .u8 a, .int .u8 b] 5)) = .ok (.string (strOfNums [a, b])) (w.alloc (.cells #[.int .u8 a, .int .u8 b] 5)) := by
  refine run_convert_bytes_arg _ 26 5 Try.underlying26 Try.underlying5 w.heap.size 0 2 2 [a, b] rfl ?_ 9 Try.underlying9
  intro i hi
  match i, hi with
  | 0, _ => exact World.cell?_alloc_at _ _ _ _ rfl
  | 1, _ => exact World.cell?_alloc_at _ _ _ _ rfl

theorem two_size (a b : Int) : (strOfNums [a, b]).size = 2 := rfl

theorem isEmpty_false {s : ByteArray} (h : 0 < s.size) : s.toList.isEmpty = false := by
  rw [Lib.toList_data]
  cases e : s.data.toList with
  | nil => have := size_list s; rw [e] at this; simp at this; omega
  | cons x t => rfl

set_option maxHeartbeats 1000000 in
theorem put_ok (s : ByteArray) (w : World) (h0 : 0 < s.size) (h1 : s.size ≤ 1024) :
    Calls Try.prog 13 #[.string s] w fun e w' => e = .returned (.tuple #[.string (framed s), .int .i64 0]) ∧ Below w.heap.size w w' := by
  have g0 := isEmpty_false h0
  have hcv := conv_two w ((s.size : Int) / 256) ((s.size : Int) % 256)
  have hz : (strOfNums [(s.size : Int) / 256, (s.size : Int) % 256]).size + s.size ≤ 9223372036854775807 := by rw [two_size]; omega
  go_enter Try.func13, Try.ntmps13
  go_wp2
  go_ret2
  exact ⟨rfl, (Below.refl _ _).alloc (Nat.le_refl _) _⟩
set_option maxHeartbeats 1000000 in
theorem put_empty (s : ByteArray) (w : World) (h0 : s.size = 0) :
    Calls Try.prog 13 #[.string s] w fun e w' => e = .returned (.tuple #[.string ⟨#[]⟩, .int .i64 1]) ∧ Below w.heap.size w w' := by
  obtain rfl : s = ⟨#[]⟩ := by
    have := size_list s
    apply ByteArray.ext
    apply Array.toList_inj.1
    exact List.eq_nil_of_length_eq_zero (this.trans h0)
  go_enter Try.func13, Try.ntmps13
  go_wp2
  go_ret2
  exact ⟨rfl, Below.refl _ _⟩
set_option maxHeartbeats 1000000 in
theorem put_long (s : ByteArray) (w : World) (h1 : 1024 < s.size) :
    Calls Try.prog 13 #[.string s] w fun e w' => e = .returned (.tuple #[.string ⟨#[]⟩, .int .i64 80]) ∧ Below w.heap.size w w' := by
  have g0 := isEmpty_false (s := s) (by omega)
  go_enter Try.func13, Try.ntmps13
  go_wp2
  go_ret2
  exact ⟨rfl, Below.refl _ _⟩

def putV (s : ByteArray) : ByteArray := if s.size = 0 ∨ 1024 < s.size then ⟨#[]⟩ else framed s
def putE (s : ByteArray) : Int := if s.size = 0 then 1 else if 1024 < s.size then 80 else 0
theorem put_any (s : ByteArray) (w : World) :
    Calls Try.prog 13 #[.string s] w fun e w' => e = .returned (.tuple #[.string (putV s), .int .i64 (putE s)]) ∧ Below w.heap.size w w' := by
  unfold putV putE
  by_cases h0 : s.size = 0
  · have := put_empty s w h0
    simpa [h0] using this
  · by_cases h1 : 1024 < s.size
    · have := put_long s w h1
      simpa [h0, h1] using this
    · have := put_ok s w (by omega) (by omega)
      simpa [h0, h1] using this

/-! ### the reference -/
set_option maxHeartbeats 1000000 in
theorem rput_any (s : ByteArray) (w : World) (hm : s.size ≤ 140737488355328) :
    Calls Try.prog 14 #[.string s] w fun e w' => e = .returned (.tuple #[.string (putV s), .int .i64 (putE s)]) ∧ Below w.heap.size w w' := by
  unfold putV putE
  by_cases h0 : s.size = 0
  · rw [if_pos (.inl h0), if_pos h0]
    have g0 : ((s.size : Int) == 0) = true := by simpa using h0
    clear h0
    go_enter Try.func14, Try.ntmps14
    go_wp2
    go_ret2
    exact ⟨rfl, Below.refl _ _⟩
  · have g0 : ((s.size : Int) == 0) = false := by simpa using h0
    by_cases h1 : 1024 < s.size
    · rw [if_pos (.inr h1), if_neg h0, if_pos h1]
      clear h0
      go_enter Try.func14, Try.ntmps14
      go_wp2
      go_ret2
      exact ⟨rfl, Below.refl _ _⟩
    · rw [if_neg (by omega), if_neg h0, if_neg h1]
      have hcv := conv_two w ((s.size : Int) / 256) ((s.size : Int) % 256)
      have hz : (strOfNums [(s.size : Int) / 256, (s.size : Int) % 256]).size + s.size ≤ 9223372036854775807 := by rw [two_size]; omega
      clear h0
      go_enter Try.func14, Try.ntmps14
      go_wp2
      go_ret2
      exact ⟨rfl, (Below.refl _ _).alloc (Nat.le_refl _) _⟩
end Go.Proofs.Yteclngkfiaoidaa
