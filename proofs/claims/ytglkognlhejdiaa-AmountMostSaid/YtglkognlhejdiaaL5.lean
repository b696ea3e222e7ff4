/- The walks of the reference's Add, Sub, Fee, Enough; conditions: the numbers are of their kinds. -/
import Derived.Test.YtglkognlhejdiaaL3
namespace Go.Proofs.Ytglkognlhejdiaa
open Go.RowKit
set_option linter.unusedVariables false
set_option linter.unusedSimpArgs false

theorem results4 {fn : Func} {t u v x : Tmp} (h : fn.results = #[.tmp t, .tmp u, .tmp v, .tmp x]) (tmps : Array Value) (P : Program) (w : World) :
    (results fn tmps).run P w = .ok (.tuple #[tmps.getD t undef, tmps.getD u undef, tmps.getD v undef, tmps.getD x undef]) w := by simp [results, h]

set_option maxHeartbeats 400000 in
theorem times_core (a b c d : Int) (a0 : 0 ≤ a) (a1 : a < 4294967296) (b0 : 0 ≤ b) (b1 : b < 4294967296) (c0 : 0 ≤ c) (c1 : c < 4294967296) (d0 : 0 ≤ d) (d1 : d < 4294967296)
    (h1 : (b * 4294967296 + a) % 4294967296 = a) (h2 : (b * 4294967296 + a) / 4294967296 = b) (h3 : (d * 4294967296 + c) % 4294967296 = c) (h4 : (d * 4294967296 + c) / 4294967296 = d)
    (p0 : 0 ≤ a * c) (p1 : a * c ≤ 18446744065119617025) (q0 : 0 ≤ b * c) (q1 : b * c ≤ 18446744065119617025) (r0 : 0 ≤ a * d) (r1 : a * d ≤ 18446744065119617025) (s0 : 0 ≤ b * d) (s1 : b * d ≤ 18446744065119617025) (w : World) :
    Calls Try.prog 26 #[.int .u64 (b * 4294967296 + a), .int .u64 (d * 4294967296 + c)] w fun e w' => e = .returned (.tuple #[
      .int .u64 ((b * d + (b * c + a * c / 4294967296) / 4294967296 + (a * d + (b * c + a * c / 4294967296) % 4294967296) / 4294967296) / 4294967296),
      .int .u64 ((b * d + (b * c + a * c / 4294967296) / 4294967296 + (a * d + (b * c + a * c / 4294967296) % 4294967296) / 4294967296) % 4294967296),
      .int .u64 ((a * d + (b * c + a * c / 4294967296) % 4294967296) % 4294967296), .int .u64 (a * c % 4294967296)]) ∧ w = w' := by
  go_enter Try.func26, Try.ntmps26
  go_wp2
  refine bodyPost_ret (results4 rfl _ _ _) rfl ?_
  exact ⟨rfl, rfl⟩

theorem digits_law (a b c d T0 T1 T2 T3 : Int) (p : Int) (e1 : a * c = T0) (e2 : b * c = T1) (e3 : a * d = T2) (e4 : b * d = T3) :
    (b * 4294967296 + a) * (d * 4294967296 + c) =
    (((T3 + (T1 + T0 / 4294967296) / 4294967296 + (T2 + (T1 + T0 / 4294967296) % 4294967296) / 4294967296) / 4294967296 * 4294967296 +
      (T3 + (T1 + T0 / 4294967296) / 4294967296 + (T2 + (T1 + T0 / 4294967296) % 4294967296) / 4294967296) % 4294967296) * 4294967296 +
      (T2 + (T1 + T0 / 4294967296) % 4294967296) % 4294967296) * 4294967296 + T0 % 4294967296 := by
  have h : (b * 4294967296 + a) * (d * 4294967296 + c) = T3 * 18446744073709551616 + T1 * 4294967296 + T2 * 4294967296 + T0 := by
    rw [Int.add_mul, Int.mul_add, Int.mul_add, ← e1, ← e2, ← e3, ← e4]
    have x1 : b * 4294967296 * (d * 4294967296) = b * d * 18446744073709551616 := by
      rw [Int.mul_assoc, Int.mul_left_comm 4294967296, ← Int.mul_assoc]; rfl
    have x2 : b * 4294967296 * c = b * c * 4294967296 := by rw [Int.mul_assoc, Int.mul_comm 4294967296, ← Int.mul_assoc]
    have x3 : a * (d * 4294967296) = a * d * 4294967296 := by rw [← Int.mul_assoc]
    rw [x1, x2, x3]; omega
  rw [h]
  omega

theorem sq32 (a c : Int) (a0 : 0 ≤ a) (a1 : a < 4294967296) (c0 : 0 ≤ c) (c1 : c < 4294967296) : 0 ≤ a * c ∧ a * c ≤ 18446744065119617025 := by
  refine ⟨Int.mul_nonneg a0 c0, ?_⟩
  have h1 : a * c ≤ 4294967295 * c := Int.mul_le_mul_of_nonneg_right (by omega) c0
  omega

theorem times_any (n r : Int) (n0 : 0 ≤ n) (n1 : n < 18446744073709551616) (r0 : 0 ≤ r) (r1 : r < 18446744073709551616) :
    ∃ A B C D : Int, (0 ≤ A ∧ A < 4294967296) ∧ (0 ≤ B ∧ B < 4294967296) ∧ (0 ≤ C ∧ C < 4294967296) ∧ (0 ≤ D ∧ D < 4294967296) ∧ Hid (n * r = ((A * 4294967296 + B) * 4294967296 + C) * 4294967296 + D) ∧
      ∀ w, Calls Try.prog 26 #[.int .u64 n, .int .u64 r] w fun e w' => e = .returned (.tuple #[.int .u64 A, .int .u64 B, .int .u64 C, .int .u64 D]) ∧ w = w' := by
  obtain ⟨a, b, rfl, a0, a1, b0, b1⟩ : ∃ a b : Int, n = b * 4294967296 + a ∧ 0 ≤ a ∧ a < 4294967296 ∧ 0 ≤ b ∧ b < 4294967296 := ⟨n % 4294967296, n / 4294967296, by omega, by omega, by omega, by omega, by omega⟩
  obtain ⟨c, d, rfl, c0, c1, d0, d1⟩ : ∃ a b : Int, r = b * 4294967296 + a ∧ 0 ≤ a ∧ a < 4294967296 ∧ 0 ≤ b ∧ b < 4294967296 := ⟨r % 4294967296, r / 4294967296, by omega, by omega, by omega, by omega, by omega⟩
  obtain ⟨p0, p1⟩ := sq32 a c a0 a1 c0 c1
  obtain ⟨q0, q1⟩ := sq32 b c b0 b1 c0 c1
  obtain ⟨s0, s1⟩ := sq32 a d a0 a1 d0 d1
  obtain ⟨t0, t1⟩ := sq32 b d b0 b1 d0 d1
  have hw := times_core a b c d a0 a1 b0 b1 c0 c1 d0 d1 (by omega) (by omega) (by omega) (by omega) p0 p1 q0 q1 s0 s1 t0 t1
  have hl := digits_law a b c d _ _ _ _ 0 rfl rfl rfl rfl
  have hlt : (b * 4294967296 + a) * (d * 4294967296 + c) < 340282366920938463463374607431768211456 := by
    have : (b * 4294967296 + a) * (d * 4294967296 + c) ≤ 18446744073709551615 * (d * 4294967296 + c) := Int.mul_le_mul_of_nonneg_right (by omega) r0
    omega
  generalize hX : (b * 4294967296 + a) * (d * 4294967296 + c) = X at *
  generalize a * c = T0 at *
  generalize b * c = T1 at *
  generalize a * d = T2 at *
  generalize b * d = T3 at *
  exact ⟨_, _, _, _, by omega, by omega, by omega, by omega, Lib.hid hl, hw⟩

def Share (Q : Int) (w : World) (e : Ending) (w' : World) : Prop :=
  ∃ v : Int, e = .returned (.tuple #[.int .u64 v, .bool (decide (Q < 18446744073709551616))]) ∧ (Q < 18446744073709551616 → v = Q) ∧ 0 ≤ v ∧ v < 18446744073709551616 ∧ w = w'

theorem share_law (A B C D : Int) (ha : 0 ≤ A ∧ A < 4294967296) (hb : 0 ≤ B ∧ B < 4294967296) (hc : 0 ≤ C ∧ C < 4294967296) (hd : 0 ≤ D ∧ D < 4294967296) :
    (((A * 4294967296 + B) * 4294967296 + C) * 4294967296 + D) / 1000000 = ((A / 1000000 * 4294967296 + (A % 1000000 * 4294967296 + B) / 1000000) * 4294967296 + ((A % 1000000 * 4294967296 + B) % 1000000 * 4294967296 + C) / 1000000) * 4294967296
       + (((A % 1000000 * 4294967296 + B) % 1000000 * 4294967296 + C) % 1000000 * 4294967296 + D) / 1000000 := by
  omega


set_option maxHeartbeats 400000 in
theorem share_any (n r : Int) (n0 : 0 ≤ n) (n1 : n < 18446744073709551616) (r0 : 0 ≤ r) (r1 : r < 18446744073709551616) (w : World) :
    Calls Try.prog 22 #[.int .u64 n, .int .u64 r] w (Share (n * r / 1000000) w) := by
  obtain ⟨A, B, C, D, ⟨A0, A1⟩, ⟨B0, B1⟩, ⟨C0, C1⟩, ⟨D0, D1⟩, hN, ht⟩ := times_any n r n0 n1 r0 r1
  have hl := share_law A B C D ⟨A0, A1⟩ ⟨B0, B1⟩ ⟨C0, C1⟩ ⟨D0, D1⟩
  rw [← hN.out] at hl
  generalize n * r / 1000000 = Q at *
  by_cases h1 : A / 1000000 = 0
  · by_cases h2 : (A % 1000000 * 4294967296 + B) / 1000000 = 0
    · have hv : Hid (Q < 18446744073709551616 ∧ Q = ((A % 1000000 * 4294967296 + B) % 1000000 * 4294967296 + C) / 1000000 * 4294967296
       + (((A % 1000000 * 4294967296 + B) % 1000000 * 4294967296 + C) % 1000000 * 4294967296 + D) / 1000000 ∧ 0 ≤ Q) := Lib.hid (by omega)
      clear hl
      have k1 : (A / 1000000 == 0) = true := by simpa using h1
      have k2 : ((A % 1000000 * 4294967296 + B) / 1000000 == 0) = true := by simpa using h2
      clear h1 h2
      go_enter Try.func22, Try.ntmps22
      go_wp2_with (go_at_call 26; refine (ht _).mono ?_; rintro e w' ⟨rfl, rfl⟩)
      go_ret2
      obtain ⟨v1, v2, v3⟩ := hv.out
      exact ⟨_, by rw [decide_eq_true v1]; rfl, fun _ => v2.symm, by omega, by omega, rfl⟩
    · have hv : Hid (¬ Q < 18446744073709551616) := Lib.hid (by omega)
      clear hl
      have k1 : (A / 1000000 == 0) = true := by simpa using h1
      have k2 : ((A % 1000000 * 4294967296 + B) / 1000000 == 0) = false := by simpa using h2
      clear h1 h2
      go_enter Try.func22, Try.ntmps22
      go_wp2_with (go_at_call 26; refine (ht _).mono ?_; rintro e w' ⟨rfl, rfl⟩)
      go_ret2
      have v1 := hv.out
      exact ⟨_, by rw [decide_eq_false (by omega)]; rfl, fun h => by omega, by omega, by omega, rfl⟩
  · have hv : Hid (¬ Q < 18446744073709551616) := Lib.hid (by omega)
    clear hl
    have k1 : (A / 1000000 == 0) = false := by simpa using h1
    clear h1
    go_enter Try.func22, Try.ntmps22
    go_wp2_with (go_at_call 26; refine (ht _).mono ?_; rintro e w' ⟨rfl, rfl⟩)
    go_ret2
    have v1 := hv.out
    exact ⟨_, by rw [decide_eq_false (by omega)]; rfl, fun h => by omega, by omega, by omega, rfl⟩

/-! ### the reference's Sub and Add -/
set_option maxHeartbeats 400000 in
theorem rsub_any (a b : Int) (a0 : 0 ≤ a) (a1 : a < 18446744073709551616) (b0 : 0 ≤ b) (b1 : b < 18446744073709551616) (w : World) :
    Calls Try.prog 14 #[.int .u64 a, .int .u64 b] w fun e w' => e = .returned (.tuple #[.int .u64 (subV a b), .int .i64 (subE a b)]) ∧ w = w' := by
  unfold subV subE
  by_cases h : a < b
  · go_enter Try.func14, Try.ntmps14
    go_wp2
    go_ret2
    exact ⟨by simp [h], rfl⟩
  · go_enter Try.func14, Try.ntmps14
    go_wp2
    go_ret2
    exact ⟨by simp [h], rfl⟩

set_option maxHeartbeats 400000 in
theorem radd_any (b off : Nat) (l : List Int) (c : Nat) (w : World) (hl : l.length < 9223372036854775807) (hb : ∀ x ∈ l, 0 ≤ x) (hb1 : ∀ x ∈ l, x < 18446744073709551616) (hc : ∀ i : Nat, i < l.length → w.cell? ⟨b, off + i, none⟩ = some (.int .u64 (l.getD i 0))) :
    Calls Try.prog 13 #[.slice (some ⟨b, off, none⟩) l.length c] w fun e w' => e = .returned (.tuple #[.int .u64 (addV 0 l).1, .int .i64 (addV 0 l).2]) ∧ w = w' := by
  have HB := Lib.hid hb; clear hb
  have HB1 := Lib.hid hb1; clear hb1
  have HC := Lib.hid hc; clear hc
  generalize hr : addV 0 l = r
  have HR := Lib.hid hr; clear hr
  go_enter Try.func13, Try.ntmps13
  go_wp2
  go_loop [4, 5] (fun s i => ∃ (k : Nat) (a : Int), k ≤ l.length ∧ i = .int .i64 k ∧ s = .int .u64 a ∧ 0 ≤ a ∧ a ≤ 1125899906842624 ∧ Hid (addV a (l.drop k) = r)) (fun _ i => l.length - (intOf i).toNat)
  case atStart => exact ⟨0, 0, by omega, rfl, rfl, by decide, by decide, Lib.hid HR.out⟩
  case round =>
    obtain ⟨k, a, hk, rfl, rfl, ha0, ha1, HA⟩ := hrel
    by_cases hlt : k < l.length
    · have hcell := HC.out k hlt
      have hx0 : 0 ≤ l.getD k 0 := HB.out _ (by rw [List.getD_eq_getElem?_getD, List.getElem?_eq_getElem hlt]; simp)
      have hx1 : l.getD k 0 < 18446744073709551616 := HB1.out _ (by rw [List.getD_eq_getElem?_getD, List.getElem?_eq_getElem hlt]; simp)
      have HA2 := Lib.hid (HA.out.symm.trans (addV_drop a l k hlt)).symm
      clear HA
      generalize l.getD k 0 = x at *
      by_cases hx : 1125899906842624 < x
      · go_wp2
        have h := HA2.out
        rw [if_pos (by omega)] at h
        subst h
        go_ret2
        exact ⟨rfl, rfl⟩
      · by_cases hy : 1125899906842624 < a + x
        · have h := HA2.out
          rw [if_pos (by omega)] at h
          subst h
          clear HA2 HR
          go_wp2
          go_ret2
          exact ⟨rfl, rfl⟩
        · have h := HA2.out
          rw [if_neg (by omega), show min x 1125899906842625 = x from by omega] at h
          have H := Lib.hid h
          clear h HA2
          go_wp2
          go_round
          case rel => exact ⟨k + 1, _, by omega, by go_num, rfl, by omega, by omega, H⟩
          case measure => simp [intOf]; omega
    · obtain rfl : k = l.length := by omega
      have HA2 := Lib.hid HA.out; clear HA
      go_wp2
      go_ret2
      have := HA2.out
      simp [addV] at this
      subst this
      exact ⟨rfl, rfl⟩

theorem radd_two (x y : Int) (h0 : 0 ≤ x) (h1 : 0 ≤ y) (g0 : x < 18446744073709551616) (g1 : y < 18446744073709551616) (b : Nat) (w : World) (c0 : w.cell? ⟨b, 0, none⟩ = some (.int .u64 x)) (c1 : w.cell? ⟨b, 1, none⟩ = some (.int .u64 y)) :
    Calls Try.prog 13 #[.slice (some ⟨b, 0, none⟩) 2 2] w fun e w' => e = .returned (.tuple #[.int .u64 (capV (x + y)), .int .i64 (capE (x + y))]) ∧ w = w' := by
  refine (radd_any b 0 [x, y] 2 w (by simp) (by simp; omega) (by simp; omega) ?_).mono ?_
  · intro i hi
    match i, hi with
    | 0, _ => simpa using c0
    | 1, _ => simpa using c1
  · rintro e w' ⟨rfl, rfl⟩
    refine ⟨?_, rfl⟩
    rw [addV_sum [x, y] (by simp; omega) 0 (by decide) (by decide)]
    simp [sumI]

set_option maxHeartbeats 400000 in
theorem rfee_any (base rate n : Int) (a0 : 0 ≤ base) (a1 : base < 18446744073709551616) (b0 : 0 ≤ rate) (b1 : rate < 18446744073709551616) (c0 : 0 ≤ n) (c1 : n < 18446744073709551616) (w : World) :
    Calls Try.prog 15 #[.int .u64 base, .int .u64 rate, .int .u64 n] w fun e w' => e = .returned (.tuple #[.int .u64 (capV (feeT base rate n)), .int .i64 (capE (feeT base rate n))]) ∧ Below w.heap.size w w' := by
  have hs := share_any n rate c0 c1 b0 b1
  have hq : 0 ≤ n * rate / 1000000 := by have := Int.mul_nonneg c0 b0; omega
  unfold feeT
  generalize n * rate / 1000000 = Q at *
  by_cases h : Q < 18446744073709551616
  · rw [show Share Q = fun w e w' => ∃ v : Int, e = .returned (.tuple #[.int .u64 v, .bool true]) ∧ (Q < 18446744073709551616 → v = Q) ∧ 0 ≤ v ∧ v < 18446744073709551616 ∧ w = w' from by unfold Share; rw [decide_eq_true h]] at hs
    go_enter Try.func15, Try.ntmps15
    go_wp2_with fail
    refine (hs _).mono ?_
    rintro e w1 ⟨v, rfl, hv, v0, v1, rfl⟩
    obtain rfl := hv h
    clear hv
    go_wp2_with fail
    refine (radd_two base v a0 v0 a1 v1 _ _ (World.cell?_alloc_at _ _ _ _ rfl) (World.cell?_alloc_at _ _ _ _ rfl)).mono ?_
    rintro e w1 ⟨rfl, rfl⟩
    go_wp2
    go_ret2
    exact ⟨rfl, (Below.refl _ _).alloc (Nat.le_refl _) _⟩
  · rw [show Share Q = fun w e w' => ∃ v : Int, e = .returned (.tuple #[.int .u64 v, .bool false]) ∧ (Q < 18446744073709551616 → v = Q) ∧ 0 ≤ v ∧ v < 18446744073709551616 ∧ w = w' from by unfold Share; rw [decide_eq_false h]] at hs
    have e1 : capV (base + Q) = 0 := by unfold capV; rw [if_pos (by omega)]
    have e2 : capE (base + Q) = 60 := by unfold capE; rw [if_pos (by omega)]
    rw [e1, e2]
    clear e1 e2 h hq
    go_enter Try.func15, Try.ntmps15
    go_wp2_with fail
    refine (hs _).mono ?_
    rintro e w1 ⟨v, rfl, hv, v0, v1, rfl⟩
    clear hv
    go_wp2
    go_ret2
    exact ⟨rfl, Below.refl _ _⟩

set_option maxHeartbeats 400000 in
theorem renough_any (i o b r : Int) (i0 : 0 ≤ i) (i1 : i < 18446744073709551616) (o0 : 0 ≤ o) (o1 : o < 18446744073709551616) (b0 : 0 ≤ b) (b1 : b < 18446744073709551616) (r0 : 0 ≤ r) (r1 : r < 18446744073709551616) (w : World) :
    Calls Try.prog 17 #[.int .u64 i, .int .u64 o, .int .u64 b, .int .u64 r] w fun e w' => e = .returned (.bool (enough i o b r)) ∧ Below w.heap.size w w' := by
  have hn := feeT_nn b r o b0 r0 o0
  have hf := rfee_any b r o b0 b1 r0 r1 o0 o1
  unfold enough
  generalize feeT b r o = F at *
  by_cases h : F ≤ 1125899906842624
  · rw [show capV F = F from by unfold capV; rw [if_neg (by omega)], show capE F = 0 from by unfold capE; rw [if_neg (by omega)]] at hf
    by_cases h2 : o ≤ i
    · by_cases h3 : F ≤ i - o
      · rw [show decide (o + F ≤ i) = true from by simp; omega]
        go_enter Try.func17, Try.ntmps17
        go_wp2_with fail
        refine (hf _).mono ?_
        rintro e w1 ⟨rfl, hb1⟩
        go_wp2
        go_ret
        exact ⟨by simp [h], hb1⟩
      · rw [show decide (o + F ≤ i) = false from by simp; omega]
        go_enter Try.func17, Try.ntmps17
        go_wp2_with fail
        refine (hf _).mono ?_
        rintro e w1 ⟨rfl, hb1⟩
        go_wp2
        go_ret
        exact ⟨by simp; omega, hb1⟩
    · rw [show decide (o + F ≤ i) = false from by simp; omega]
      go_enter Try.func17, Try.ntmps17
      go_wp2_with fail
      refine (hf _).mono ?_
      rintro e w1 ⟨rfl, hb1⟩
      go_wp2
      go_ret
      exact ⟨by simp, hb1⟩
  · rw [show capV F = 0 from by unfold capV; rw [if_pos (by omega)], show capE F = 60 from by unfold capE; rw [if_pos (by omega)]] at hf
    rw [show decide (F ≤ 1125899906842624) = false from by simp; omega]
    go_enter Try.func17, Try.ntmps17
    go_wp2_with fail
    refine (hf _).mono ?_
    rintro e w1 ⟨rfl, hb1⟩
    go_wp2
    go_ret
    exact ⟨by simp, hb1⟩
end Go.Proofs.Ytglkognlhejdiaa
