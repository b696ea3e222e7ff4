/- The walk of FrameBad; conditions: its arguments are of their kinds. -/
import Derived.Test.YteclngkfiaoidaaGa
namespace Go.Proofs.Yteclngkfiaoidaa
open Go.RowKit Go.Lib
set_option linter.unusedVariables false
set_option linter.unusedSimpArgs false

def hdr (k : Nat) : List UInt8 := [UInt8.ofNat (k / 256), UInt8.ofNat (k % 256)]
theorem num_hdr (k : Nat) (hk : k < 65536) (t : List UInt8) : num (hdr k ++ t) = k := by
  show ((UInt8.ofNat (k / 256)).toNat : Int) * 256 + (UInt8.ofNat (k % 256)).toNat = k
  simp only [UInt8.toNat_ofNat']
  omega
theorem has_hdr (k : Nat) (t : List UInt8) : has (hdr k ++ t) = true := by simp [has, hdr]
theorem bad_hdr (k : Nat) (hk : k < 65536) (t : List UInt8) : bad (hdr k ++ t) = (k == 0 || decide (1024 < k)) := by
  unfold bad
  rw [has_hdr, num_hdr k hk]
  rw [Bool.eq_iff_iff]; simp; omega
theorem next_hdr (g t : List UInt8) (h0 : 1 ≤ g.length) (h1 : g.length ≤ 1024) : next (hdr g.length ++ (g ++ t)) = some (g, t) := by
  unfold next
  rw [has_hdr, bad_hdr _ (by omega), num_hdr _ (by omega)]
  have h2 : (g.length == 0) = false := by rw [beq_eq_false_iff_ne]; omega
  have h3 : decide (1024 < g.length) = false := by simp; omega
  rw [h2, h3, if_pos (by
    have e : (hdr g.length ++ (g ++ t)).length = 2 + (g.length + t.length) := by simp [hdr]; omega
    simp only [Bool.or_false, Bool.not_false, Bool.and_self, Bool.true_and, decide_eq_true_eq]; omega)]
  have e1 : (hdr g.length ++ (g ++ t)).drop 2 = g ++ t := rfl
  have e2 : (hdr g.length ++ (g ++ t)).drop (2 + (g.length : Int).toNat) = t := by
    rw [← List.drop_drop, e1]; simp
  rw [e1, e2]
  simp

theorem list_append (a b : ByteArray) : (a ++ b).data.toList = a.data.toList ++ b.data.toList := by
  rw [ByteArray.data_append, Array.toList_append]
theorem list_two (k : Nat) : (strOfNums [(k : Int) / 256, (k : Int) % 256]).data.toList = hdr k := by
  show [UInt8.ofNat ((k : Int) / 256).toNat, UInt8.ofNat ((k : Int) % 256).toNat] = hdr k
  rw [show ((k : Int) / 256).toNat = k / 256 from by omega, show ((k : Int) % 256).toNat = k % 256 from by omega]
  rfl
theorem list_framed (s : ByteArray) : (framed s).data.toList = hdr s.data.toList.length ++ s.data.toList := by
  unfold framed
  rw [list_append, list_two, size_list]
theorem size_framed (s : ByteArray) : (framed s).size = 2 + s.size := by
  rw [← size_list, list_framed, List.length_append, size_list]; rfl


theorem Own.grow {B : Nat} {w0 : World} {b : Nat} {r : Option Nat} {m : Nat} {l : List UInt8} {w w' : World} (h : Own B w0 b r m l w) (k : Below w.heap.size w w') : Own B w0 b r m l w' := by
  obtain ⟨⟨bs, told, h1, h2, h3, h4, h5⟩, hb, hk, hr, hs⟩ := h
  exact ⟨⟨bs, told, h1, h2, h3, h4, h5.keep (k.block _ h5.lt) (fun j hj => k.block _ (h5.row_lt j hj).1)⟩, hb.trans (k.mono hs), hk, hr, Nat.le_trans hs k.size⟩

/-- What FrameBad pushes behind a good frame. -/
theorem bad_facts (g t : ByteArray) (K hi lo : Int) (h1 : g.size ≤ 300) (h2 : t.size ≤ 300) (hK0 : 0 ≤ K) (hK1 : K < 65536) (hK : K = 0 ∨ 1024 < K) (ehi : hi = K / 256) (elo : lo = K % 256) :
    ∃ y : ByteArray, y.size = 2 ∧ (∀ W : World, (convert 26 9 (.slice (some ⟨W.heap.size, 0, none⟩) 2 2)).run Try.prog (W.alloc (.cells #[.int .u8 hi, .int .u8 lo] 5)) = .ok (.string y) (W.alloc (.cells #[.int .u8 hi, .int .u8 lo] 5))) ∧
      (0 < g.size → next (framed g ++ y ++ t).data.toList = some (g.data.toList, (y ++ t).data.toList)) ∧ bad (y ++ t).data.toList = true ∧ (y ++ t).data.toList.length = 2 + t.size ∧ next (y ++ t).data.toList = none := by
  subst ehi elo
  obtain ⟨k, rfl⟩ := Int.eq_ofNat_of_zero_le hK0
  have hb : bad (hdr k ++ t.data.toList) = true := by
    rw [bad_hdr k (by omega)]; simp; first | done | omega
  have e : (strOfNums [(k : Int) / 256, (k : Int) % 256] ++ t).data.toList = hdr k ++ t.data.toList := by rw [list_append, list_two]
  refine ⟨strOfNums [(k : Int) / 256, (k : Int) % 256], rfl, fun W => conv_two W _ _, fun h0 => ?_, ?_, ?_, ?_⟩
  · rw [e, list_append, list_append, list_framed, list_two, List.append_assoc, List.append_assoc]
    exact next_hdr _ _ (by rw [size_list]; omega) (by rw [size_list]; omega)
  · rw [e]; exact hb
  · rw [e, List.length_append, size_list]; first | done | rfl
  · rw [e]; exact next_bad hb


set_option maxRecDepth 100000 in
set_option maxHeartbeats 4000000 in
theorem bad_walk_ok1 (g t : ByteArray) (n : Int) (w : World) (hn0 : 0 < n) (hn1 : n ≤ 1024) (h0 : 0 < g.size) (h1 : g.size ≤ 300) (h2 : t.size ≤ 300) :
    Calls Try.prog 6 #[.string g, .string t, .int .u16 n] w fun e w' => e = .returned (.bool true) ∧ Below w.heap.size w w' := by
  have hp := fun W => put_ok g W h0 (by omega)
  obtain ⟨y, hy, hcv, f1, f2, f3, f4⟩ := bad_facts g t (n + 1024) ((n + 1024) / 256) ((n + 1024) % 256) h1 h2 (by omega) (by omega) (by omega) (by omega) (by omega)
  have F2 := Lib.hid f2
  have F3 := Lib.hid f3
  have F4 := Lib.hid f4
  have F1 := Lib.hid (f1 h0)
  have hsz : (framed g).size = 2 + g.size := size_framed g
  clear f1
  generalize framed g = x at *
  have s1 : x.size ≤ 302 := by omega
  clear hsz
  have s2 : y.size ≤ 2 := by omega
  clear hy f2 f3 f4
  go_enter Try.func6, Try.ntmps6
  go_wp2_with fail
  refine (shown_any _).mono ?_
  rintro e w1 ⟨rfl, hb1⟩
  have hown := Own.new hb1
  have HO := Lib.hid hown
  clear hown
  go_wp2_with fail
  refine (hp _).mono ?_
  rintro e w2 ⟨rfl, hb2⟩
  clear hp
  have hcv2 := hcv w2
  clear hcv
  go_wp2_with fail
  have HO2 := Lib.hid ((HO.out.grow hb2).grow (Below.alloc (Below.refl _ _) (Nat.le_refl _) (.cells #[.int .u8 ((n + 1024) / 256), .int .u8 ((n + 1024) % 256)] 5)))
  clear HO hb2 hcv2
  have hsX : (x ++ y ++ t).size ≤ 700 := by rw [← size_list, list_append, list_append, List.length_append, List.length_append, size_list, size_list, size_list]; omega
  have hpu := push_ok _ _ _ _ (x ++ y ++ t) _ HO2.out.st (by omega) rfl
  have HSX := Lib.hid hsX
  clear hsX
  refine hpu.mono ?_
  rintro e w3 ⟨r3, rfl, p3, q3⟩
  have HO3 := Lib.hid (HO2.out.step p3 q3)
  clear hpu p3 q3 HO2
  have hn1' := next_yes _ _ _ _ _ _ _ HO3.out.st F1.out
  rw [← of_list] at hn1'
  go_wp2_with fail
  refine hn1'.mono ?_
  rintro e w4 ⟨r4, rfl, p4, q4⟩
  have HO4 := Lib.hid (HO3.out.step p4 q4)
  clear hn1' p4 q4 HO3
  have hn2' := next_no _ _ _ _ _ HO4.out.st F4.out
  go_wp2_with fail
  refine hn2'.mono ?_
  rintro e w5 ⟨r5, rfl, p5, q5⟩
  have HO5 := Lib.hid (HO4.out.step p5 q5)
  clear hn2' p5 q5 HO4
  go_wp2_with fail
  have hb1' := bad_any _ _ _ _ _ HO5.out.st
  rw [F2.out] at hb1'
  refine hb1'.mono ?_
  rintro e w6 ⟨r6, rfl, p6, q6⟩
  have HO6 := Lib.hid (HO5.out.step p6 q6)
  clear hb1' p6 q6 HO5
  go_wp2_with fail
  refine (push_bad _ _ _ _ _ _ HO6.out.st (by
    have e := HSX.out
    have e2 : (⟨#[122]⟩ : ByteArray).size = 1 := rfl
    omega) F2.out).mono ?_
  rintro e w7 ⟨r7, rfl, p7, q7⟩
  have HO7 := Lib.hid (HO6.out.step p7 q7)
  clear p7 q7 HO6
  have hlf := left_st _ _ _ _ _ HO7.out.st
  rw [F3.out] at hlf
  go_wp2_with fail
  refine hlf.mono ?_
  rintro e w8 ⟨r8, rfl, p8, q8⟩
  have HO8 := Lib.hid (HO7.out.step p8 q8)
  clear hlf p8 q8 HO7
  go_wp2
  go_ret
  exact ⟨rfl, HO8.out.bel⟩

set_option maxRecDepth 100000 in
set_option maxHeartbeats 4000000 in
theorem bad_walk_ok2 (g t : ByteArray) (n : Int) (w : World) (hn0 : 1024 < n) (hn1 : n < 65536) (h0 : 0 < g.size) (h1 : g.size ≤ 300) (h2 : t.size ≤ 300) :
    Calls Try.prog 6 #[.string g, .string t, .int .u16 n] w fun e w' => e = .returned (.bool true) ∧ Below w.heap.size w w' := by
  have hp := fun W => put_ok g W h0 (by omega)
  obtain ⟨y, hy, hcv, f1, f2, f3, f4⟩ := bad_facts g t n (n / 256) (n % 256) h1 h2 (by omega) (by omega) (by omega) (by omega) (by omega)
  have F2 := Lib.hid f2
  have F3 := Lib.hid f3
  have F4 := Lib.hid f4
  have F1 := Lib.hid (f1 h0)
  have hsz : (framed g).size = 2 + g.size := size_framed g
  clear f1
  generalize framed g = x at *
  have s1 : x.size ≤ 302 := by omega
  clear hsz
  have s2 : y.size ≤ 2 := by omega
  clear hy f2 f3 f4
  go_enter Try.func6, Try.ntmps6
  go_wp2_with fail
  refine (shown_any _).mono ?_
  rintro e w1 ⟨rfl, hb1⟩
  have hown := Own.new hb1
  have HO := Lib.hid hown
  clear hown
  go_wp2_with fail
  refine (hp _).mono ?_
  rintro e w2 ⟨rfl, hb2⟩
  clear hp
  have hcv2 := hcv w2
  clear hcv
  go_wp2_with fail
  have HO2 := Lib.hid ((HO.out.grow hb2).grow (Below.alloc (Below.refl _ _) (Nat.le_refl _) (.cells #[.int .u8 (n / 256), .int .u8 (n % 256)] 5)))
  clear HO hb2 hcv2
  have hsX : (x ++ y ++ t).size ≤ 700 := by rw [← size_list, list_append, list_append, List.length_append, List.length_append, size_list, size_list, size_list]; omega
  have hpu := push_ok _ _ _ _ (x ++ y ++ t) _ HO2.out.st (by omega) rfl
  have HSX := Lib.hid hsX
  clear hsX
  refine hpu.mono ?_
  rintro e w3 ⟨r3, rfl, p3, q3⟩
  have HO3 := Lib.hid (HO2.out.step p3 q3)
  clear hpu p3 q3 HO2
  have hn1' := next_yes _ _ _ _ _ _ _ HO3.out.st F1.out
  rw [← of_list] at hn1'
  go_wp2_with fail
  refine hn1'.mono ?_
  rintro e w4 ⟨r4, rfl, p4, q4⟩
  have HO4 := Lib.hid (HO3.out.step p4 q4)
  clear hn1' p4 q4 HO3
  have hn2' := next_no _ _ _ _ _ HO4.out.st F4.out
  go_wp2_with fail
  refine hn2'.mono ?_
  rintro e w5 ⟨r5, rfl, p5, q5⟩
  have HO5 := Lib.hid (HO4.out.step p5 q5)
  clear hn2' p5 q5 HO4
  go_wp2_with fail
  have hb1' := bad_any _ _ _ _ _ HO5.out.st
  rw [F2.out] at hb1'
  refine hb1'.mono ?_
  rintro e w6 ⟨r6, rfl, p6, q6⟩
  have HO6 := Lib.hid (HO5.out.step p6 q6)
  clear hb1' p6 q6 HO5
  go_wp2_with fail
  refine (push_bad _ _ _ _ _ _ HO6.out.st (by
    have e := HSX.out
    have e2 : (⟨#[122]⟩ : ByteArray).size = 1 := rfl
    omega) F2.out).mono ?_
  rintro e w7 ⟨r7, rfl, p7, q7⟩
  have HO7 := Lib.hid (HO6.out.step p7 q7)
  clear p7 q7 HO6
  have hlf := left_st _ _ _ _ _ HO7.out.st
  rw [F3.out] at hlf
  go_wp2_with fail
  refine hlf.mono ?_
  rintro e w8 ⟨r8, rfl, p8, q8⟩
  have HO8 := Lib.hid (HO7.out.step p8 q8)
  clear hlf p8 q8 HO7
  go_wp2
  go_ret
  exact ⟨rfl, HO8.out.bel⟩

set_option maxRecDepth 100000 in
set_option maxHeartbeats 4000000 in
theorem bad_walk_ok3 (g t : ByteArray) (n : Int) (w : World)  (h0 : 0 < g.size) (h1 : g.size ≤ 300) (h2 : t.size ≤ 300) :
    Calls Try.prog 6 #[.string g, .string t, .int .u16 0] w fun e w' => e = .returned (.bool true) ∧ Below w.heap.size w w' := by
  have hp := fun W => put_ok g W h0 (by omega)
  obtain ⟨y, hy, hcv, f1, f2, f3, f4⟩ := bad_facts g t 0 (0) (0) h1 h2 (by omega) (by omega) (by omega) (by omega) (by omega)
  have F2 := Lib.hid f2
  have F3 := Lib.hid f3
  have F4 := Lib.hid f4
  have F1 := Lib.hid (f1 h0)
  have hsz : (framed g).size = 2 + g.size := size_framed g
  clear f1
  generalize framed g = x at *
  have s1 : x.size ≤ 302 := by omega
  clear hsz
  have s2 : y.size ≤ 2 := by omega
  clear hy f2 f3 f4
  go_enter Try.func6, Try.ntmps6
  go_wp2_with fail
  refine (shown_any _).mono ?_
  rintro e w1 ⟨rfl, hb1⟩
  have hown := Own.new hb1
  have HO := Lib.hid hown
  clear hown
  go_wp2_with fail
  refine (hp _).mono ?_
  rintro e w2 ⟨rfl, hb2⟩
  clear hp
  have hcv2 := hcv w2
  clear hcv
  go_wp2_with fail
  have HO2 := Lib.hid ((HO.out.grow hb2).grow (Below.alloc (Below.refl _ _) (Nat.le_refl _) (.cells #[.int .u8 (0), .int .u8 (0)] 5)))
  clear HO hb2 hcv2
  have hsX : (x ++ y ++ t).size ≤ 700 := by rw [← size_list, list_append, list_append, List.length_append, List.length_append, size_list, size_list, size_list]; omega
  have hpu := push_ok _ _ _ _ (x ++ y ++ t) _ HO2.out.st (by omega) rfl
  have HSX := Lib.hid hsX
  clear hsX
  refine hpu.mono ?_
  rintro e w3 ⟨r3, rfl, p3, q3⟩
  have HO3 := Lib.hid (HO2.out.step p3 q3)
  clear hpu p3 q3 HO2
  have hn1' := next_yes _ _ _ _ _ _ _ HO3.out.st F1.out
  rw [← of_list] at hn1'
  go_wp2_with fail
  refine hn1'.mono ?_
  rintro e w4 ⟨r4, rfl, p4, q4⟩
  have HO4 := Lib.hid (HO3.out.step p4 q4)
  clear hn1' p4 q4 HO3
  have hn2' := next_no _ _ _ _ _ HO4.out.st F4.out
  go_wp2_with fail
  refine hn2'.mono ?_
  rintro e w5 ⟨r5, rfl, p5, q5⟩
  have HO5 := Lib.hid (HO4.out.step p5 q5)
  clear hn2' p5 q5 HO4
  go_wp2_with fail
  have hb1' := bad_any _ _ _ _ _ HO5.out.st
  rw [F2.out] at hb1'
  refine hb1'.mono ?_
  rintro e w6 ⟨r6, rfl, p6, q6⟩
  have HO6 := Lib.hid (HO5.out.step p6 q6)
  clear hb1' p6 q6 HO5
  go_wp2_with fail
  refine (push_bad _ _ _ _ _ _ HO6.out.st (by
    have e := HSX.out
    have e2 : (⟨#[122]⟩ : ByteArray).size = 1 := rfl
    omega) F2.out).mono ?_
  rintro e w7 ⟨r7, rfl, p7, q7⟩
  have HO7 := Lib.hid (HO6.out.step p7 q7)
  clear p7 q7 HO6
  have hlf := left_st _ _ _ _ _ HO7.out.st
  rw [F3.out] at hlf
  go_wp2_with fail
  refine hlf.mono ?_
  rintro e w8 ⟨r8, rfl, p8, q8⟩
  have HO8 := Lib.hid (HO7.out.step p8 q8)
  clear hlf p8 q8 HO7
  go_wp2
  go_ret
  exact ⟨rfl, HO8.out.bel⟩

set_option maxRecDepth 100000 in
set_option maxHeartbeats 4000000 in
theorem bad_walk_em1 (g t : ByteArray) (n : Int) (w : World) (hn0 : 0 < n) (hn1 : n ≤ 1024) (h0 : g.size = 0) (h1 : g.size ≤ 300) (h2 : t.size ≤ 300) :
    Calls Try.prog 6 #[.string g, .string t, .int .u16 n] w fun e w' => e = .returned (.bool true) ∧ Below w.heap.size w w' := by
  have hp := fun W => put_empty g W h0
  obtain ⟨y, hy, hcv, f1, f2, f3, f4⟩ := bad_facts g t (n + 1024) ((n + 1024) / 256) ((n + 1024) % 256) h1 h2 (by omega) (by omega) (by omega) (by omega) (by omega)
  have F2 := Lib.hid f2
  have F3 := Lib.hid f3
  have F4 := Lib.hid f4
  clear f1
  have s2 : y.size ≤ 2 := by omega
  clear hy f2 f3 f4
  go_enter Try.func6, Try.ntmps6
  go_wp2_with fail
  refine (shown_any _).mono ?_
  rintro e w1 ⟨rfl, hb1⟩
  have hown := Own.new hb1
  have HO := Lib.hid hown
  clear hown
  go_wp2_with fail
  refine (hp _).mono ?_
  rintro e w2 ⟨rfl, hb2⟩
  clear hp
  have hcv2 := hcv w2
  clear hcv
  go_wp2_with fail
  have HO2 := Lib.hid ((HO.out.grow hb2).grow (Below.alloc (Below.refl _ _) (Nat.le_refl _) (.cells #[.int .u8 ((n + 1024) / 256), .int .u8 ((n + 1024) % 256)] 5)))
  clear HO hb2 hcv2
  have hsX : (⟨#[]⟩ ++ y ++ t : ByteArray).size ≤ 700 := by rw [← size_list, list_append, list_append, List.length_append, List.length_append, size_list, size_list, size_list]; show 0 + y.size + t.size ≤ 700; omega
  have ex : (⟨#[]⟩ ++ y ++ t : ByteArray).data.toList = (y ++ t).data.toList := by rw [list_append, list_append, list_append]; rfl
  have hpu := push_ok _ _ _ _ (⟨#[]⟩ ++ y ++ t) _ HO2.out.st (by omega) rfl
  rw [ex, List.nil_append] at hpu
  have HSX := Lib.hid hsX
  have EX := Lib.hid ex
  clear hsX ex
  refine hpu.mono ?_
  rintro e w3 ⟨r3, rfl, p3, q3⟩
  have HO3 := Lib.hid (HO2.out.step p3 q3)
  clear hpu p3 q3 HO2
  have hn1' := next_no _ _ _ _ _ HO3.out.st F4.out
  go_wp2_with fail
  refine hn1'.mono ?_
  rintro e w4 ⟨r4, rfl, p4, q4⟩
  have HO4 := Lib.hid (HO3.out.step p4 q4)
  clear hn1' p4 q4 HO3
  have hn2' := next_no _ _ _ _ _ HO4.out.st F4.out
  go_wp2_with fail
  refine hn2'.mono ?_
  rintro e w5 ⟨r5, rfl, p5, q5⟩
  have HO5 := Lib.hid (HO4.out.step p5 q5)
  clear hn2' p5 q5 HO4
  go_wp2_with fail
  have hb1' := bad_any _ _ _ _ _ HO5.out.st
  rw [F2.out] at hb1'
  refine hb1'.mono ?_
  rintro e w6 ⟨r6, rfl, p6, q6⟩
  have HO6 := Lib.hid (HO5.out.step p6 q6)
  clear hb1' p6 q6 HO5
  go_wp2_with fail
  refine (push_bad _ _ _ _ _ _ HO6.out.st (by
    have e := HSX.out
    have e2 : (⟨#[122]⟩ : ByteArray).size = 1 := rfl
    omega) F2.out).mono ?_
  rintro e w7 ⟨r7, rfl, p7, q7⟩
  have HO7 := Lib.hid (HO6.out.step p7 q7)
  clear p7 q7 HO6
  have hlf := left_st _ _ _ _ _ HO7.out.st
  rw [F3.out] at hlf
  go_wp2_with fail
  refine hlf.mono ?_
  rintro e w8 ⟨r8, rfl, p8, q8⟩
  have HO8 := Lib.hid (HO7.out.step p8 q8)
  clear hlf p8 q8 HO7
  go_wp2
  go_ret
  exact ⟨rfl, HO8.out.bel⟩

set_option maxRecDepth 100000 in
set_option maxHeartbeats 4000000 in
theorem bad_walk_em2 (g t : ByteArray) (n : Int) (w : World) (hn0 : 1024 < n) (hn1 : n < 65536) (h0 : g.size = 0) (h1 : g.size ≤ 300) (h2 : t.size ≤ 300) :
    Calls Try.prog 6 #[.string g, .string t, .int .u16 n] w fun e w' => e = .returned (.bool true) ∧ Below w.heap.size w w' := by
  have hp := fun W => put_empty g W h0
  obtain ⟨y, hy, hcv, f1, f2, f3, f4⟩ := bad_facts g t n (n / 256) (n % 256) h1 h2 (by omega) (by omega) (by omega) (by omega) (by omega)
  have F2 := Lib.hid f2
  have F3 := Lib.hid f3
  have F4 := Lib.hid f4
  clear f1
  have s2 : y.size ≤ 2 := by omega
  clear hy f2 f3 f4
  go_enter Try.func6, Try.ntmps6
  go_wp2_with fail
  refine (shown_any _).mono ?_
  rintro e w1 ⟨rfl, hb1⟩
  have hown := Own.new hb1
  have HO := Lib.hid hown
  clear hown
  go_wp2_with fail
  refine (hp _).mono ?_
  rintro e w2 ⟨rfl, hb2⟩
  clear hp
  have hcv2 := hcv w2
  clear hcv
  go_wp2_with fail
  have HO2 := Lib.hid ((HO.out.grow hb2).grow (Below.alloc (Below.refl _ _) (Nat.le_refl _) (.cells #[.int .u8 (n / 256), .int .u8 (n % 256)] 5)))
  clear HO hb2 hcv2
  have hsX : (⟨#[]⟩ ++ y ++ t : ByteArray).size ≤ 700 := by rw [← size_list, list_append, list_append, List.length_append, List.length_append, size_list, size_list, size_list]; show 0 + y.size + t.size ≤ 700; omega
  have ex : (⟨#[]⟩ ++ y ++ t : ByteArray).data.toList = (y ++ t).data.toList := by rw [list_append, list_append, list_append]; rfl
  have hpu := push_ok _ _ _ _ (⟨#[]⟩ ++ y ++ t) _ HO2.out.st (by omega) rfl
  rw [ex, List.nil_append] at hpu
  have HSX := Lib.hid hsX
  have EX := Lib.hid ex
  clear hsX ex
  refine hpu.mono ?_
  rintro e w3 ⟨r3, rfl, p3, q3⟩
  have HO3 := Lib.hid (HO2.out.step p3 q3)
  clear hpu p3 q3 HO2
  have hn1' := next_no _ _ _ _ _ HO3.out.st F4.out
  go_wp2_with fail
  refine hn1'.mono ?_
  rintro e w4 ⟨r4, rfl, p4, q4⟩
  have HO4 := Lib.hid (HO3.out.step p4 q4)
  clear hn1' p4 q4 HO3
  have hn2' := next_no _ _ _ _ _ HO4.out.st F4.out
  go_wp2_with fail
  refine hn2'.mono ?_
  rintro e w5 ⟨r5, rfl, p5, q5⟩
  have HO5 := Lib.hid (HO4.out.step p5 q5)
  clear hn2' p5 q5 HO4
  go_wp2_with fail
  have hb1' := bad_any _ _ _ _ _ HO5.out.st
  rw [F2.out] at hb1'
  refine hb1'.mono ?_
  rintro e w6 ⟨r6, rfl, p6, q6⟩
  have HO6 := Lib.hid (HO5.out.step p6 q6)
  clear hb1' p6 q6 HO5
  go_wp2_with fail
  refine (push_bad _ _ _ _ _ _ HO6.out.st (by
    have e := HSX.out
    have e2 : (⟨#[122]⟩ : ByteArray).size = 1 := rfl
    omega) F2.out).mono ?_
  rintro e w7 ⟨r7, rfl, p7, q7⟩
  have HO7 := Lib.hid (HO6.out.step p7 q7)
  clear p7 q7 HO6
  have hlf := left_st _ _ _ _ _ HO7.out.st
  rw [F3.out] at hlf
  go_wp2_with fail
  refine hlf.mono ?_
  rintro e w8 ⟨r8, rfl, p8, q8⟩
  have HO8 := Lib.hid (HO7.out.step p8 q8)
  clear hlf p8 q8 HO7
  go_wp2
  go_ret
  exact ⟨rfl, HO8.out.bel⟩

set_option maxRecDepth 100000 in
set_option maxHeartbeats 4000000 in
theorem bad_walk_em3 (g t : ByteArray) (n : Int) (w : World)  (h0 : g.size = 0) (h1 : g.size ≤ 300) (h2 : t.size ≤ 300) :
    Calls Try.prog 6 #[.string g, .string t, .int .u16 0] w fun e w' => e = .returned (.bool true) ∧ Below w.heap.size w w' := by
  have hp := fun W => put_empty g W h0
  obtain ⟨y, hy, hcv, f1, f2, f3, f4⟩ := bad_facts g t 0 (0) (0) h1 h2 (by omega) (by omega) (by omega) (by omega) (by omega)
  have F2 := Lib.hid f2
  have F3 := Lib.hid f3
  have F4 := Lib.hid f4
  clear f1
  have s2 : y.size ≤ 2 := by omega
  clear hy f2 f3 f4
  go_enter Try.func6, Try.ntmps6
  go_wp2_with fail
  refine (shown_any _).mono ?_
  rintro e w1 ⟨rfl, hb1⟩
  have hown := Own.new hb1
  have HO := Lib.hid hown
  clear hown
  go_wp2_with fail
  refine (hp _).mono ?_
  rintro e w2 ⟨rfl, hb2⟩
  clear hp
  have hcv2 := hcv w2
  clear hcv
  go_wp2_with fail
  have HO2 := Lib.hid ((HO.out.grow hb2).grow (Below.alloc (Below.refl _ _) (Nat.le_refl _) (.cells #[.int .u8 (0), .int .u8 (0)] 5)))
  clear HO hb2 hcv2
  have hsX : (⟨#[]⟩ ++ y ++ t : ByteArray).size ≤ 700 := by rw [← size_list, list_append, list_append, List.length_append, List.length_append, size_list, size_list, size_list]; show 0 + y.size + t.size ≤ 700; omega
  have ex : (⟨#[]⟩ ++ y ++ t : ByteArray).data.toList = (y ++ t).data.toList := by rw [list_append, list_append, list_append]; rfl
  have hpu := push_ok _ _ _ _ (⟨#[]⟩ ++ y ++ t) _ HO2.out.st (by omega) rfl
  rw [ex, List.nil_append] at hpu
  have HSX := Lib.hid hsX
  have EX := Lib.hid ex
  clear hsX ex
  refine hpu.mono ?_
  rintro e w3 ⟨r3, rfl, p3, q3⟩
  have HO3 := Lib.hid (HO2.out.step p3 q3)
  clear hpu p3 q3 HO2
  have hn1' := next_no _ _ _ _ _ HO3.out.st F4.out
  go_wp2_with fail
  refine hn1'.mono ?_
  rintro e w4 ⟨r4, rfl, p4, q4⟩
  have HO4 := Lib.hid (HO3.out.step p4 q4)
  clear hn1' p4 q4 HO3
  have hn2' := next_no _ _ _ _ _ HO4.out.st F4.out
  go_wp2_with fail
  refine hn2'.mono ?_
  rintro e w5 ⟨r5, rfl, p5, q5⟩
  have HO5 := Lib.hid (HO4.out.step p5 q5)
  clear hn2' p5 q5 HO4
  go_wp2_with fail
  have hb1' := bad_any _ _ _ _ _ HO5.out.st
  rw [F2.out] at hb1'
  refine hb1'.mono ?_
  rintro e w6 ⟨r6, rfl, p6, q6⟩
  have HO6 := Lib.hid (HO5.out.step p6 q6)
  clear hb1' p6 q6 HO5
  go_wp2_with fail
  refine (push_bad _ _ _ _ _ _ HO6.out.st (by
    have e := HSX.out
    have e2 : (⟨#[122]⟩ : ByteArray).size = 1 := rfl
    omega) F2.out).mono ?_
  rintro e w7 ⟨r7, rfl, p7, q7⟩
  have HO7 := Lib.hid (HO6.out.step p7 q7)
  clear p7 q7 HO6
  have hlf := left_st _ _ _ _ _ HO7.out.st
  rw [F3.out] at hlf
  go_wp2_with fail
  refine hlf.mono ?_
  rintro e w8 ⟨r8, rfl, p8, q8⟩
  have HO8 := Lib.hid (HO7.out.step p8 q8)
  clear hlf p8 q8 HO7
  go_wp2
  go_ret
  exact ⟨rfl, HO8.out.bel⟩

theorem bad_walk (g t : ByteArray) (n : Int) (w : World) (n0 : 0 ≤ n) (n1 : n < 65536) :
    Calls Try.prog 6 #[.string g, .string t, .int .u16 n] w fun e w' => e = .returned (.bool true) ∧ Below w.heap.size w w' := by
  by_cases h1 : 300 < g.size
  · go_enter Try.func6, Try.ntmps6
    go_wp2_with fail
    refine (shown_any _).mono ?_
    rintro e w1 ⟨rfl, hb⟩
    go_wp2
    go_ret
    exact ⟨rfl, hb⟩
  · by_cases h2 : 300 < t.size
    · go_enter Try.func6, Try.ntmps6
      go_wp2_with fail
      refine (shown_any _).mono ?_
      rintro e w1 ⟨rfl, hb⟩
      go_wp2
      go_ret
      exact ⟨rfl, hb⟩
    · by_cases h0 : g.size = 0
      · by_cases c0 : n = 0
        · subst c0; exact bad_walk_em3 g t 0 w h0 (by omega) (by omega)
        · by_cases c1 : n ≤ 1024
          · exact bad_walk_em1 g t n w (by omega) c1 h0 (by omega) (by omega)
          · exact bad_walk_em2 g t n w (by omega) n1 h0 (by omega) (by omega)
      · by_cases c0 : n = 0
        · subst c0; exact bad_walk_ok3 g t 0 w (by omega) (by omega) (by omega)
        · by_cases c1 : n ≤ 1024
          · exact bad_walk_ok1 g t n w (by omega) c1 (by omega) (by omega) (by omega)
          · exact bad_walk_ok2 g t n w (by omega) n1 (by omega) (by omega) (by omega)
end Go.Proofs.Yteclngkfiaoidaa
