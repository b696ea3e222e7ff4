/- The walks of the splitter's rest, length, Bad, Next and Push; no condition but that the bytes are fewer than 2^47. -/
import Derived.Test.YteclngkfiaoidaaWb
import Derived.ChangeAlike
namespace Go.Proofs.Yteclngkfiaoidaa
open Go.RowKit Go.Lib
set_option linter.unusedVariables false
set_option linter.unusedSimpArgs false

theorem extract_end (bs : List UInt8) (k : Nat) : (⟨bs.toArray⟩ : ByteArray).extract k bs.length = ⟨(bs.drop k).toArray⟩ := by
  apply ByteArray.ext
  rw [ByteArray.data_extract]
  simp
  exact List.take_of_length_le (by simp)

set_option maxHeartbeats 1000000 in
theorem rest_any (b : Nat) (r : Option Nat) (bs : List UInt8) (told : Nat) (w : World) (h : Sp w b r bs told) (ht : told ≤ bs.length) (hm : bs.length ≤ 140737488355328) :
    Calls Try.prog 19 #[.pointer (some ⟨b, 0, none⟩)] w fun e w' => e = .returned (.string ⟨(bs.drop told).toArray⟩) ∧ Sp w' b r bs told ∧ Mv b r w r w' := by
  have h2 := h.told_
  have HS := Lib.hid (And.intro h (Mv.refl b r w)); clear h
  go_enter Try.func19, Try.ntmps19
  go_wp2_with fail
  go_region_held3 (fun w' => w'.cell? ⟨b, 2, none⟩ = some (.int .i64 told) ∧ Hid (Sp w' b r bs told ∧ Mv b r w r w')) (first | exact ⟨h2, HS.out.1.drewN 1, HS.out.2.drew⟩ | exact ⟨hk1, HK.1, HK.2⟩ | assumption)
    (first | (go_at_call 23; have hh := ‹_ ∧ Hid (Sp _ b r bs told ∧ Mv b r w r _)›; refine (string_any b r bs told _ hh.2.out.1).mono ?_; rintro e w1 ⟨rfl, hsp1, hmv1⟩; have hk1 := hsp1.told_; have HK := And.intro hsp1 (hh.2.out.2.trans hmv1)))
  go_wp2
  go_ret
  exact ⟨by rw [← extract_end]; rfl, HK.1, HK.2⟩

/-- The number that bytes begin by. -/
def num (l : List UInt8) : Int := match l with
  | x :: y :: _ => (x.toNat : Int) * 256 + y.toNat
  | _ => 0
def has (l : List UInt8) : Bool := decide (2 ≤ l.length)

theorem i64_or (x y : Nat) (hx : x < 256) (hy : y < 256) : bits .or .i64 ((x : Int) * 256) (y : Int) = (x : Int) * 256 + y := by
  have e : (x * 256) ||| y = x * 256 + y := by
    have := Nat.two_pow_add_eq_or_of_lt (i := 8) (b := y) (by omega) x
    rw [show x * 256 = 2 ^ 8 * x from by omega]; exact this.symm
  have h1 : ∀ a : Nat, a < 9223372036854775808 → (BitVec.ofInt 64 (a : Int)).toNat = a := by
    intro a ha
    rw [BitVec.ofInt_natCast, BitVec.toNat_ofNat]; exact Nat.mod_eq_of_lt (by omega)
  have h2 : ((x : Int) * 256) = ((x * 256 : Nat) : Int) := by omega
  rw [h2]
  show IntKind.i64.wrap ((BitVec.ofInt 64 ((x * 256 : Nat) : Int) ||| BitVec.ofInt 64 (y : Int)).toNat : Int) = _
  rw [BitVec.toNat_or, h1 _ (by omega), h1 _ (by omega), IntKind.wrap_i64, e]
  omega

set_option maxHeartbeats 1000000 in
theorem length_any (b : Nat) (r : Option Nat) (bs : List UInt8) (told : Nat) (w : World) (h : Sp w b r bs told) (ht : told ≤ bs.length) (hm : bs.length ≤ 140737488355328) :
    Calls Try.prog 18 #[.pointer (some ⟨b, 0, none⟩)] w fun e w' => e = .returned (.tuple #[.int .i64 (num (bs.drop told)), .bool (has (bs.drop told))]) ∧ Sp w' b r bs told ∧ Mv b r w r w' := by
  have hr := rest_any b r bs told w h ht hm
  clear h ht hm
  generalize bs.drop told = l at *
  match l with
  | [] =>
    go_enter Try.func18, Try.ntmps18
    go_wp2_with fail
    refine hr.mono ?_
    rintro e w1 ⟨rfl, hsp, hmv⟩
    go_wp2
    go_ret2
    exact ⟨rfl, hsp, hmv⟩
  | [x] =>
    go_enter Try.func18, Try.ntmps18
    go_wp2_with fail
    refine hr.mono ?_
    rintro e w1 ⟨rfl, hsp, hmv⟩
    go_wp2
    go_ret2
    exact ⟨rfl, hsp, hmv⟩
  | x :: y :: t =>
    have ho := i64_or x.toNat y.toNat (UInt8.toNat_lt x) (UInt8.toNat_lt y)
    have hx := UInt8.toNat_lt x
    have hy := UInt8.toNat_lt y
    have i0 : ∀ W : World, (Instr.index 9 (.string ⟨(x :: y :: t).toArray⟩) (.int .i64 0)).run Try.prog W = .ok (.int .u8 x.toNat) W := fun W => by
      rw [run_index_string W 9 _ _ _ Try.underlying9, dif_pos ⟨by omega, by show (0 : Int) < ((x :: y :: t).length : Nat); simp; omega⟩]; rfl
    have i1 : ∀ W : World, (Instr.index 9 (.string ⟨(x :: y :: t).toArray⟩) (.int .i64 1)).run Try.prog W = .ok (.int .u8 y.toNat) W := fun W => by
      rw [run_index_string W 9 _ _ _ Try.underlying9, dif_pos ⟨by omega, by show (1 : Int) < ((x :: y :: t).length : Nat); simp; omega⟩]; rfl
    have hz2 : (((⟨(x :: y :: t).toArray⟩ : ByteArray).size : Int) < 2) = False := by
      show (((x :: y :: t).length : Int) < 2) = False
      simp; omega
    generalize (⟨(x :: y :: t).toArray⟩ : ByteArray) = S at *
    go_enter Try.func18, Try.ntmps18
    go_wp2_with fail
    refine hr.mono ?_
    rintro e w1 ⟨rfl, hsp, hmv⟩
    clear hr
    go_wp2_with fail
    go_quiet (fail)
    go_wp2
    go_ret2
    refine ⟨?_, hsp.drewN _, hmv.drewN _⟩
    rw [show has (x :: y :: t) = true from by simp [has]]
    rfl
end Go.Proofs.Yteclngkfiaoidaa
