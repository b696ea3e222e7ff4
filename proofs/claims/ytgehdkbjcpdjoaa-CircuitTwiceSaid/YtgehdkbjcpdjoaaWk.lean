/- The walks of amount.Add, Sub, Fee and of bits.Div64 at a million; conditions: the numbers are of their kinds. -/
import Derived.Test.YtgehdkbjcpdjoaaRows
import Derived.Test.YtgehdkbjcpdjoaaShelf
import Derived.WalkKit
import Derived.Shelf.Spec.BitsCarry
import Derived.WalkSpells
import Derived.WalkLawsBesides
import Derived.Lib.Hide
import Derived.RowKit3
import Derived.WalkSmall
import Derived.BigQuiet
import Derived.Deep.QuietTactic
namespace Go.Proofs.Ytgehdkbjcpdjoaa
open Go.RowKit
set_option linter.unusedVariables false
set_option linter.unusedSimpArgs false

theorem lz_mil (w : World) : Calls Try.prog 16 #[.int .u64 1000000] w fun e w' => e = .returned (.int .i64 44) ∧ w' = w := by
  refine (Try.bits_LeadingZeros64 1000000 w (by decide) (by decide)).mono ?_
  rintro e w' ⟨rfl, rfl⟩
  refine ⟨?_, rfl⟩
  rw [show Lib.bitLen (1000000 : Int).toNat = 20 from by decide]
  rfl


def Two (q : Int) (w : World) (e : Ending) (w' : World) : Prop := ∃ r : Int, e = .returned (.tuple #[.int .u64 q, .int .u64 r]) ∧ ∃ n, w' = w.drewN n

set_option maxHeartbeats 400000 in
theorem div_zero (lo : Int) (l0 : 0 ≤ lo) (l1 : lo < 18446744073709551616) (w : World) :
    Calls Try.prog 13 #[.int .u64 0, .int .u64 lo, .int .u64 1000000] w (Two (lo / 1000000) w) := by
  go_enter Try.func13, Try.ntmps13
  go_wp2_with fail
  go_quiet (fail)
  go_wp2
  go_ret2
  exact ⟨_, rfl, _, rfl⟩


set_option maxHeartbeats 1000000 in
theorem div_core (hi lo q r u1 u0 p s : Int) (h0 : 0 < hi) (h1 : hi < 1000000) (l0 : 0 ≤ lo) (l1 : lo < 18446744073709551616)
    (hor : bits .or .u64 (hi * 17592186044416) (lo / 1048576) = q * 4096000000 + r) (q0 : 0 ≤ q) (q1 : q < 4294967296) (r0 : 0 ≤ r) (r1 : r < 4096000000)
    (hw : IntKind.u64.wrap (lo * 17592186044416) = u1 * 4294967296 + u0) (a0 : 0 ≤ u1) (a1 : u1 < 4294967296) (b0 : 0 ≤ u0) (b1 : u0 < 4294967296)
    (p0 : 0 ≤ p) (p1 : p < 4294967296) (s0 : 0 ≤ s) (s1 : s < 4096000000)
    (k1 : bits .and .u64 (u1 * 4294967296 + u0) 4294967295 = u0) (k2 : bits .and .u64 17592186044416000000 4294967295 = 0)
    (k3 : (q * 4096000000 + r) / 4096000000 = q) (k4 : (u1 * 4294967296 + u0) / 4294967296 = u1)
    (k5 : IntKind.u64.wrap (IntKind.u64.wrap (IntKind.u64.wrap ((q * 4096000000 + r) * 4294967296) + u1) - IntKind.u64.wrap (q * 17592186044416000000)) = p * 4096000000 + s)
    (k6 : (p * 4096000000 + s) / 4096000000 = p)
    (w : World) :
    Calls Try.prog 13 #[.int .u64 hi, .int .u64 lo, .int .u64 1000000] w (Two (q * 4294967296 + p) w) := by
  have e1 : (hi == 0) = false := by simp; omega
  go_enter Try.func13, Try.ntmps13
  go_wp2_with (go_at_call 16; refine (lz_mil _).mono ?_; rintro e w' ⟨rfl, rfl⟩)
  refine wp_loop_rounds 1 ?_
  rw [rounds_succ]
  go_wp2_with fail
  refine wp_loop_rounds 1 ?_
  rw [rounds_succ]
  go_wp2
  go_ret2
  exact ⟨_, rfl, 0, rfl⟩

theorem k5_law (q r u1 p s : Int) (r0 : 0 ≤ r) (r1 : r < 4096000000) (a0 : 0 ≤ u1) (a1 : u1 < 4294967296) (h : r * 4294967296 + u1 = p * 4096000000 + s) :
    (((q * 4096000000 + r) * 4294967296 % 18446744073709551616 + u1) % 18446744073709551616 - q * 17592186044416000000 % 18446744073709551616) % 18446744073709551616 = p * 4096000000 + s := by
  rw [Int.emod_add_emod, Int.sub_emod, Int.emod_emod, Int.emod_emod, ← Int.sub_emod, ← h]
  have e : (q * 4096000000 + r) * 4294967296 + u1 - q * 17592186044416000000 = r * 4294967296 + u1 := by omega
  rw [e]
  omega

theorem and_mask (a : Int) (h0 : 0 ≤ a) (h1 : a < 18446744073709551616) : bits .and .u64 a 4294967295 = a % 4294967296 := by
  obtain ⟨n, rfl⟩ := Int.eq_ofNat_of_zero_le h0
  have h := bits_and_u64_nat n 4294967295 (by omega) (by omega)
  have e : n &&& 4294967295 = n % 4294967296 := Nat.and_two_pow_sub_one_eq_mod n 32
  rw [e] at h
  exact (show _ = ((n % 4294967296 : Nat) : Int) from h).trans (by omega)

theorem or_add (x y : Nat) (k : Nat) (hy : y < 2 ^ k) : (x * 2 ^ k) ||| y = x * 2 ^ k + y := by
  rw [Nat.mul_comm, Nat.two_pow_add_eq_or_of_lt hy]

theorem div_any (hi lo : Int) (h0 : 0 ≤ hi) (h1 : hi < 1000000) (l0 : 0 ≤ lo) (l1 : lo < 18446744073709551616) (w : World) :
    Calls Try.prog 13 #[.int .u64 hi, .int .u64 lo, .int .u64 1000000] w (Two ((hi * 18446744073709551616 + lo) / 1000000) w) := by
  by_cases hz : hi = 0
  · subst hz
    have := div_zero lo l0 l1 w
    simpa using this
  · obtain ⟨h, rfl⟩ := Int.eq_ofNat_of_zero_le h0
    obtain ⟨l, rfl⟩ := Int.eq_ofNat_of_zero_le l0
    have hU : bits .or .u64 ((h : Int) * 17592186044416) ((l : Int) / 1048576) = ((h * 17592186044416 + l / 1048576 : Nat) : Int) := by
      have := bits_or_u64_nat (h * 17592186044416) (l / 1048576) (by omega) (by omega)
      have e := or_add h (l / 1048576) 44 (by omega)
      rw [show (2:Nat)^44 = 17592186044416 from rfl] at e
      rw [e] at this
      rw [← this]; simp
    have key : ((h : Int) * 18446744073709551616 + l) / 1000000 = ((h * 17592186044416 + l / 1048576 : Nat) : Int) / 4096000000 * 4294967296 + (((h * 17592186044416 + l / 1048576 : Nat) : Int) % 4096000000 * 4294967296 + ((l * 17592186044416 : Nat) : Int) % 18446744073709551616 / 4294967296) / 4096000000 := by
      omega
    rw [key]
    refine div_core h l (((h * 17592186044416 + l / 1048576 : Nat) : Int) / 4096000000) (((h * 17592186044416 + l / 1048576 : Nat) : Int) % 4096000000) (((l * 17592186044416 : Nat) : Int) % 18446744073709551616 / 4294967296) (((l * 17592186044416 : Nat) : Int) % 18446744073709551616 % 4294967296) _ ((((h * 17592186044416 + l / 1048576 : Nat) : Int) % 4096000000 * 4294967296 + ((l * 17592186044416 : Nat) : Int) % 18446744073709551616 / 4294967296) % 4096000000) (by omega) h1 l0 l1 ?_ (by omega) (by omega) (by omega) (by omega) ?_ (by omega) (by omega) (by omega) (by omega) (by omega) (by omega) (by omega) (by omega) ?_ ?_ (by omega) (by omega) ?_ (by omega) w
    · rw [hU]; omega
    · rw [IntKind.wrap_u64]; omega
    · rw [and_mask _ (by omega) (by omega)]; omega
    · rw [and_mask _ (by omega) (by omega)]; rfl
    · rw [IntKind.wrap_u64, IntKind.wrap_u64, IntKind.wrap_u64, IntKind.wrap_u64]
      exact k5_law _ _ _ _ _ (by omega) (by omega) (by omega) (by omega) (by omega)

/-! ### amount.Sub -/
theorem sub64 (x y : Int) (hx : 0 ≤ x) (hy : 0 ≤ y) (hy' : y < 18446744073709551616) (w : World) : (callFunc 15 #[.int .u64 x, .int .u64 y, .int .u64 0]).run Try.prog w =
    .ok (.value (.tuple #[.int .u64 ((x - y) % 18446744073709551616), .int .u64 (if x < y then 1 else 0)])) w := by
  obtain ⟨x, rfl⟩ := Int.eq_ofNat_of_zero_le hx
  obtain ⟨y, rfl⟩ := Int.eq_ofNat_of_zero_le hy
  have e1 : (((x + 18446744073709551616 - y - 0) % 18446744073709551616 : Nat) : Int) = ((x : Int) - y) % 18446744073709551616 := by omega
  have e2 : ((if x < y + 0 then 1 else 0 : Nat) : Int) = if (x : Int) < y then 1 else 0 := by split <;> split <;> omega
  rw [← e1, ← e2]
  rw [run_callFunc_extern Try.func15 (by kernel_rfl) (by kernel_rfl) (by kernel_rfl) (e := sub64Entry) (by kernel_rfl), show (Value.int IntKind.u64 0) = .int .u64 ((0 : Nat) : Int) from rfl, run_sub64 x y 0 (by omega)]
  rfl

/-! ### amount.Add -/
def addV (s : Int) : List Int → Int × Int
  | [] => (s, 0)
  | x :: t => if s + min x 1125899906842625 > 1125899906842624 then (0, 60) else addV (s + min x 1125899906842625) t


theorem addV_drop (s : Int) (l : List Int) (k : Nat) (h : k < l.length) : addV s (l.drop k) = if s + min (l.getD k 0) 1125899906842625 > 1125899906842624 then (0, 60) else addV (s + min (l.getD k 0) 1125899906842625) (l.drop (k + 1)) := by
  rw [List.drop_eq_getElem_cons h, addV]
  simp [List.getD_eq_getElem?_getD, List.getElem?_eq_getElem h]

theorem mn_if (x : Int) (m : Int) : (if m < x then m else x) = min x m := by
  rw [Int.min_def]; split <;> split <;> omega

set_option maxHeartbeats 400000 in
theorem add_any (b off : Nat) (l : List Int) (c : Nat) (w : World) (hl : l.length < 9223372036854775807) (hb : ∀ x ∈ l, 0 ≤ x) (hc : ∀ i : Nat, i < l.length → w.cell? ⟨b, off + i, none⟩ = some (.int .u64 (l.getD i 0))) :
    Calls Try.prog 14 #[.slice (some ⟨b, off, none⟩) l.length c] w fun e w' => e = .returned (.tuple #[.int .u64 (addV 0 l).1, .int .i64 (addV 0 l).2]) ∧ w' = w := by
  have HB := Lib.hid hb; clear hb
  have HC := Lib.hid hc; clear hc
  generalize hr : addV 0 l = r
  have HR := Lib.hid hr; clear hr
  go_enter Try.func14, Try.ntmps14
  go_wp2
  go_loop [2, 8] (fun s i => ∃ (k : Nat) (a : Int), k ≤ l.length ∧ i = .int .i64 k ∧ s = .int .u64 a ∧ 0 ≤ a ∧ a ≤ 1125899906842624 ∧ Hid (addV a (l.drop k) = r)) (fun _ i => l.length - (intOf i).toNat)
  case atStart => exact ⟨0, 0, by omega, rfl, rfl, by decide, by decide, Lib.hid HR.out⟩
  case round =>
    obtain ⟨k, a, hk, rfl, rfl, ha0, ha1, HA⟩ := hrel
    by_cases hlt : k < l.length
    · have hcell := HC.out k hlt
      have hx0 : 0 ≤ l.getD k 0 := HB.out _ (by rw [List.getD_eq_getElem?_getD, List.getElem?_eq_getElem hlt]; simp)
      have HA2 := Lib.hid (HA.out.symm.trans (addV_drop a l k hlt)).symm
      clear HA
      generalize l.getD k 0 = x at *
      go_wp2
      · have h := HA2.out
        rw [if_pos (by assumption)] at h
        subst h
        go_ret2
        exact ⟨rfl, rfl⟩
      · have h := HA2.out
        rw [if_neg (by omega)] at h
        go_round
        case rel => exact ⟨k + 1, _, by omega, by go_num, rfl, by omega, by omega, Lib.hid h⟩
        case measure => simp [intOf]; omega
    · obtain rfl : k = l.length := by omega
      have HA2 := Lib.hid HA.out; clear HA
      go_wp2
      go_ret2
      have := HA2.out
      simp [addV] at this
      subst this
      exact ⟨rfl, rfl⟩

/-! ### amount.Sub -/
def subV (a b : Int) : Int := if a < b then 0 else a - b
def subE (a b : Int) : Int := if a < b then 61 else 0
set_option maxHeartbeats 400000 in
theorem sub_any (a b : Int) (a0 : 0 ≤ a) (a1 : a < 18446744073709551616) (b0 : 0 ≤ b) (b1 : b < 18446744073709551616) (w : World) :
    Calls Try.prog 11 #[.int .u64 a, .int .u64 b] w fun e w' => e = .returned (.tuple #[.int .u64 (subV a b), .int .i64 (subE a b)]) ∧ w' = w := by
  unfold subV subE
  by_cases h : a < b
  · have h1 := sub64 a b a0 b0 b1
    rw [if_pos h] at h1
    go_enter Try.func11, Try.ntmps11
    go_wp2_with (first | simp only [h1])
    go_ret2
    exact ⟨by simp [h], rfl⟩
  · have h1 := sub64 a b a0 b0 b1
    rw [if_neg h] at h1
    have e : (a - b) % 18446744073709551616 = a - b := by omega
    rw [e] at h1
    go_enter Try.func11, Try.ntmps11
    go_wp2_with (first | simp only [h1])
    go_ret2
    exact ⟨by simp [h], rfl⟩

/-! ### amount.Fee -/
def capV (t : Int) : Int := if t > 1125899906842624 then 0 else t
def capE (t : Int) : Int := if t > 1125899906842624 then 60 else 0
def feeT (base rate n : Int) : Int := base + n * rate / 1000000

theorem addV_cons (s x : Int) (t : List Int) : addV s (x :: t) = if s + min x 1125899906842625 > 1125899906842624 then (0, 60) else addV (s + min x 1125899906842625) t := rfl

def sumI : List Int → Int
  | [] => 0
  | x :: t => x + sumI t
theorem sumI_nn (l : List Int) (h : ∀ x ∈ l, 0 ≤ x) : 0 ≤ sumI l := by
  induction l with
  | nil => exact Int.le_refl _
  | cons x t ih =>
    have h1 := h x (by simp)
    have h2 := ih (fun y hy => h y (by simp [hy]))
    show 0 ≤ x + sumI t
    omega
theorem addV_sum (l : List Int) (h : ∀ x ∈ l, 0 ≤ x) : ∀ s : Int, 0 ≤ s → s ≤ 1125899906842624 → addV s l = (capV (s + sumI l), capE (s + sumI l)) := by
  induction l with
  | nil => intro s h0 h1; simp [addV, sumI, capV, capE]; omega
  | cons x t ih =>
    intro s h0 h1
    have hx := h x (by simp)
    have ht := sumI_nn t (fun y hy => h y (by simp [hy]))
    have ih' := ih (fun y hy => h y (by simp [hy]))
    rw [addV_cons]
    show _ = (capV (s + (x + sumI t)), capE (s + (x + sumI t)))
    rw [Int.min_def]
    by_cases h2 : x ≤ 1125899906842625
    · rw [if_pos h2]
      by_cases h3 : s + x > 1125899906842624
      · rw [if_pos h3]; unfold capV capE; rw [if_pos (by omega), if_pos (by omega)]
      · rw [if_neg h3, ih' _ (by omega) (by omega), Int.add_assoc]
    · rw [if_neg h2, if_pos (by omega)]; unfold capV capE; rw [if_pos (by omega), if_pos (by omega)]

theorem add_two (x y : Int) (h0 : 0 ≤ x) (h1 : 0 ≤ y) (b : Nat) (w : World) (c0 : w.cell? ⟨b, 0, none⟩ = some (.int .u64 x)) (c1 : w.cell? ⟨b, 1, none⟩ = some (.int .u64 y)) :
    Calls Try.prog 14 #[.slice (some ⟨b, 0, none⟩) 2 2] w fun e w' => e = .returned (.tuple #[.int .u64 (capV (x + y)), .int .i64 (capE (x + y))]) ∧ w = w' := by
  refine (add_any b 0 [x, y] 2 w (by simp) (by simp; omega) ?_).mono ?_
  · intro i hi
    match i, hi with
    | 0, _ => simpa using c0
    | 1, _ => simpa using c1
  · rintro e w' ⟨rfl, rfl⟩
    refine ⟨?_, rfl⟩
    rw [addV_sum [x, y] (by simp; omega) 0 (by decide) (by decide)]
    simp [sumI]

theorem add_three (x y z : Int) (h0 : 0 ≤ x) (h1 : 0 ≤ y) (h2 : 0 ≤ z) (b : Nat) (w : World) (c0 : w.cell? ⟨b, 0, none⟩ = some (.int .u64 x)) (c1 : w.cell? ⟨b, 1, none⟩ = some (.int .u64 y)) (c2 : w.cell? ⟨b, 2, none⟩ = some (.int .u64 z)) :
    Calls Try.prog 14 #[.slice (some ⟨b, 0, none⟩) 3 3] w fun e w' => e = .returned (.tuple #[.int .u64 (capV (x + y + z)), .int .i64 (capE (x + y + z))]) ∧ w = w' := by
  refine (add_any b 0 [x, y, z] 3 w (by simp) (by simp; omega) ?_).mono ?_
  · intro i hi
    match i, hi with
    | 0, _ => simpa using c0
    | 1, _ => simpa using c1
    | 2, _ => simpa using c2
  · rintro e w' ⟨rfl, rfl⟩
    refine ⟨?_, rfl⟩
    rw [addV_sum [x, y, z] (by simp; omega) 0 (by decide) (by decide)]
    simp [sumI, Int.add_assoc]

theorem mul_any (m r : Int) (m0 : 0 ≤ m) (m1 : m < 18446744073709551616) (r0 : 0 ≤ r) (r1 : r < 18446744073709551616) :
    ∃ H L : Int, 0 ≤ H ∧ H < 18446744073709551616 ∧ 0 ≤ L ∧ L < 18446744073709551616 ∧ Hid (m * r = H * 18446744073709551616 + L) ∧
      ∀ w, Calls Try.prog 12 #[.int .u64 m, .int .u64 r] w fun e w' => e = .returned (.tuple #[.int .u64 H, .int .u64 L]) ∧ w' = w := by
  obtain ⟨r, rfl⟩ := Int.eq_ofNat_of_zero_le r0
  obtain ⟨m, rfl⟩ := Int.eq_ofNat_of_zero_le m0
  have hlt : m * r < 18446744073709551616 * 18446744073709551616 := Nat.mul_lt_mul'' (by omega) (by omega)
  refine ⟨((m * r / 18446744073709551616 : Nat) : Int), ((m * r % 18446744073709551616 : Nat) : Int), by omega, by omega, by omega, by omega, Lib.hid ?_, fun w => Try.bits_Mul64 m r (by omega) (by omega) w⟩
  rw [← Int.natCast_mul]
  omega

set_option maxHeartbeats 400000 in
theorem fee_any (base rate n : Int) (a0 : 0 ≤ base) (a1 : base < 18446744073709551616) (b0 : 0 ≤ rate) (b1 : rate < 18446744073709551616) (c0 : 0 ≤ n) (c1 : n < 18446744073709551616) (w : World) :
    Calls Try.prog 10 #[.int .u64 base, .int .u64 rate, .int .u64 n] w fun e w' => e = .returned (.tuple #[.int .u64 (capV (feeT base rate n)), .int .i64 (capE (feeT base rate n))]) ∧ Below w.heap.size w w' := by
  obtain ⟨H, L, H0, H1, L0, L1, hN, hm⟩ := mul_any n rate c0 c1 b0 b1
  unfold feeT
  by_cases hlt : H < 1000000
  · have hd := div_any H L H0 hlt L0 L1
    generalize hs : (H * 18446744073709551616 + L) / 1000000 = s at hd
    have hv : n * rate / 1000000 = s := by rw [hN.out]; exact hs
    have hs0 : 0 ≤ s := by omega
    have hs1 : s < 18446744073709551616 := by omega
    rw [hv]
    clear hs hN hv
    go_enter Try.func10, Try.ntmps10
    go_wp2_with (first | (go_at_call 12; refine (hm _).mono ?_; rintro e w' ⟨rfl, rfl⟩) | (go_at_call 13; refine (hd _).mono ?_; rintro e w' ⟨r, rfl, nn, rfl⟩))
    refine (add_two base s a0 hs0 _ _ (World.cell?_alloc_at _ _ _ _ rfl) (World.cell?_alloc_at _ _ _ _ rfl)).mono ?_
    rintro e w1 ⟨rfl, rfl⟩
    go_wp2
    go_ret2
    exact ⟨rfl, (below_drewN (Below.refl _ _) _).alloc (Nat.le_refl _) _⟩
  · have hv : 18446744073709551616 ≤ n * rate / 1000000 := by rw [hN.out]; omega
    have e1 : capV (base + n * rate / 1000000) = 0 := by unfold capV; rw [if_pos (by omega)]
    have e2 : capE (base + n * rate / 1000000) = 60 := by unfold capE; rw [if_pos (by omega)]
    rw [e1, e2]
    clear hv e1 e2
    go_enter Try.func10, Try.ntmps10
    go_wp2_with (go_at_call 12; refine (hm _).mono ?_; rintro e w' ⟨rfl, rfl⟩)
    go_ret2
    exact ⟨rfl, Below.refl _ _⟩

theorem fee_ok (base rate n : Int) (F : Int) (hF : feeT base rate n = F) (hle : F ≤ 1125899906842624) (a0 : 0 ≤ base) (a1 : base < 18446744073709551616) (b0 : 0 ≤ rate) (b1 : rate < 18446744073709551616) (c0 : 0 ≤ n) (c1 : n < 18446744073709551616) (w : World) :
    Calls Try.prog 10 #[.int .u64 base, .int .u64 rate, .int .u64 n] w fun e w' => e = .returned (.tuple #[.int .u64 F, .int .i64 0]) ∧ Below w.heap.size w w' := by
  have h := fee_any base rate n a0 a1 b0 b1 c0 c1 w
  rw [hF, show capV F = F from by unfold capV; rw [if_neg (by omega)], show capE F = 0 from by unfold capE; rw [if_neg (by omega)]] at h
  exact h
theorem fee_no (base rate n : Int) (hle : 1125899906842624 < feeT base rate n) (a0 : 0 ≤ base) (a1 : base < 18446744073709551616) (b0 : 0 ≤ rate) (b1 : rate < 18446744073709551616) (c0 : 0 ≤ n) (c1 : n < 18446744073709551616) (w : World) :
    Calls Try.prog 10 #[.int .u64 base, .int .u64 rate, .int .u64 n] w fun e w' => e = .returned (.tuple #[.int .u64 0, .int .i64 60]) ∧ Below w.heap.size w w' := by
  have h := fee_any base rate n a0 a1 b0 b1 c0 c1 w
  rw [show capV (feeT base rate n) = 0 from by unfold capV; rw [if_pos (by omega)], show capE (feeT base rate n) = 60 from by unfold capE; rw [if_pos (by omega)]] at h
  exact h

theorem sub_ok (a b d : Int) (h : a - b = d) (d0 : 0 ≤ d) (a0 : 0 ≤ a) (a1 : a < 18446744073709551616) (b0 : 0 ≤ b) (b1 : b < 18446744073709551616) (w : World) :
    Calls Try.prog 11 #[.int .u64 a, .int .u64 b] w fun e w' => e = .returned (.tuple #[.int .u64 d, .int .i64 0]) ∧ w = w' := by
  have h1 := sub_any a b a0 a1 b0 b1 w
  rw [show subV a b = d from by unfold subV; rw [if_neg (by omega)]; exact h, show subE a b = 0 from by unfold subE; rw [if_neg (by omega)]] at h1
  exact h1.mono fun _ _ ⟨p, q⟩ => ⟨p, q.symm⟩
theorem sub_no (a b : Int) (h : a < b) (a0 : 0 ≤ a) (a1 : a < 18446744073709551616) (b0 : 0 ≤ b) (b1 : b < 18446744073709551616) (w : World) :
    Calls Try.prog 11 #[.int .u64 a, .int .u64 b] w fun e w' => e = .returned (.tuple #[.int .u64 0, .int .i64 61]) ∧ w = w' := by
  have h1 := sub_any a b a0 a1 b0 b1 w
  rw [show subV a b = 0 from by unfold subV; rw [if_pos h], show subE a b = 61 from by unfold subE; rw [if_pos h]] at h1
  exact h1.mono fun _ _ ⟨p, q⟩ => ⟨p, q.symm⟩

def enough (i o b r : Int) : Bool := decide (feeT b r o ≤ 1125899906842624) && decide (o + feeT b r o ≤ i)
theorem feeT_nn (b r o : Int) (b0 : 0 ≤ b) (r0 : 0 ≤ r) (o0 : 0 ≤ o) : 0 ≤ feeT b r o := by
  have := Int.mul_nonneg o0 r0
  unfold feeT; omega
set_option maxHeartbeats 400000 in
theorem enough_any (i o b r : Int) (i0 : 0 ≤ i) (i1 : i < 18446744073709551616) (o0 : 0 ≤ o) (o1 : o < 18446744073709551616) (b0 : 0 ≤ b) (b1 : b < 18446744073709551616) (r0 : 0 ≤ r) (r1 : r < 18446744073709551616) (w : World) :
    Calls Try.prog 9 #[.int .u64 i, .int .u64 o, .int .u64 b, .int .u64 r] w fun e w' => e = .returned (.bool (enough i o b r)) ∧ Below w.heap.size w w' := by
  have hn := feeT_nn b r o b0 r0 o0
  unfold enough
  by_cases h : feeT b r o ≤ 1125899906842624
  · have hf := fee_ok b r o _ rfl h b0 b1 r0 r1 o0 o1
    generalize feeT b r o = F at *
    by_cases h2 : i < o
    · have hs := sub_no i o h2 i0 i1 o0 o1
      rw [show decide (o + F ≤ i) = false from by simp; omega]
      go_enter Try.func9, Try.ntmps9
      go_wp2_with fail
      refine (hf _).mono ?_
      rintro e w1 ⟨rfl, hb1⟩
      go_wp2_with fail
      refine (hs _).mono ?_
      rintro e w1 ⟨rfl, rfl⟩
      go_wp2
      go_ret
      exact ⟨by simp, hb1⟩
    · have hs := sub_ok i o (i - o) rfl (by omega) i0 i1 o0 o1
      by_cases h3 : F ≤ i - o
      · rw [show decide (o + F ≤ i) = true from by simp; omega]
        go_enter Try.func9, Try.ntmps9
        go_wp2_with fail
        refine (hf _).mono ?_
        rintro e w1 ⟨rfl, hb1⟩
        go_wp2_with fail
        refine (hs _).mono ?_
        rintro e w1 ⟨rfl, rfl⟩
        go_wp2
        go_ret
        exact ⟨by simp [h], hb1⟩
      · rw [show decide (o + F ≤ i) = false from by simp; omega]
        go_enter Try.func9, Try.ntmps9
        go_wp2_with fail
        refine (hf _).mono ?_
        rintro e w1 ⟨rfl, hb1⟩
        go_wp2_with fail
        refine (hs _).mono ?_
        rintro e w1 ⟨rfl, rfl⟩
        go_wp2
        go_ret
        exact ⟨by simp; omega, hb1⟩
  · have hf := fee_no b r o (by omega) b0 b1 r0 r1 o0 o1
    have hs := sub_any i o i0 i1 o0 o1
    rw [show decide (feeT b r o ≤ 1125899906842624) = false from by simp; omega]
    go_enter Try.func9, Try.ntmps9
    go_wp2_with fail
    refine (hf _).mono ?_
    rintro e w1 ⟨rfl, hb1⟩
    go_wp2_with fail
    refine (hs _).mono ?_
    rintro e w1 ⟨rfl, rfl⟩
    go_wp2
    go_ret
    exact ⟨by simp, hb1⟩

end Go.Proofs.Ytgehdkbjcpdjoaa
