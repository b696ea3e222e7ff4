/- The walk of FrameLong; conditions: its arguments are of their kinds. -/
import Derived.Test.YteclngkfiaoidaaGb
import Derived.Laws.MakeOwn
namespace Go.Proofs.Yteclngkfiaoidaa
open Go.RowKit Go.Lib
set_option linter.unusedVariables false
set_option linter.unusedSimpArgs false

/-- Block g is a row of m bytes, the first i of them c. -/
def Filled (w : World) (g m : Nat) (c : Int) (i : Nat) : Prop :=
  ∃ cs : Array Value, w.heap[g]? = some (.cells cs 5 (0, 0)) ∧ cs.size = m ∧ ∀ j, j < i → cs[j]? = some (.int .u8 c)
theorem Filled.new (w : World) (m : Nat) (c : Int) (cs : Array Value) (h : cs.size = m) : Filled (w.alloc (.cells cs 5)) w.heap.size m c 0 :=
  ⟨cs, heap_alloc_new w _, h, fun j hj => absurd hj (by omega)⟩
theorem Filled.set {w : World} {g m i : Nat} {c : Int} (h : Filled w g m c i) (hi : i < m) : Filled (w.setCell ⟨g, i, none⟩ (.int .u8 c)) g m c (i + 1) := by
  obtain ⟨cs, h1, h2, h3⟩ := h
  refine ⟨cs.setIfInBounds i (.int .u8 c), by simp [World.setCell, Array.getElem?_modify, h1], by simpa using h2, fun j hj => ?_⟩
  by_cases e : j = i
  · subst e; simp [h2, hi]
  · rw [Array.getElem?_setIfInBounds_ne (by omega)]
    exact h3 j (by omega)
theorem Filled.cell {w : World} {g m i : Nat} {c : Int} (h : Filled w g m c i) {j : Nat} (hj : j < m) : ∃ u, w.cell? ⟨g, j, none⟩ = some u := by
  obtain ⟨cs, h1, h2, h3⟩ := h
  exact ⟨cs[j]'(by omega), by rw [Lib.cell_of_heap h1, Array.getElem?_eq_getElem]⟩
theorem Filled.free {w : World} {g m i : Nat} {c : Int} (h : Filled w g m c i) (j : Nat) : w.frozen? ⟨g, j, none⟩ = false := by
  obtain ⟨cs, h1, h2, h3⟩ := h
  exact Lib.frozen_of_heap h1 j
theorem Filled.full {w : World} {g m : Nat} {c : Int} (h : Filled w g m c m) {j : Nat} (hj : j < m) : w.cell? ⟨g, 0 + j, none⟩ = some (.int .u8 ((List.replicate m c).getD j 0)) := by
  obtain ⟨cs, h1, h2, h3⟩ := h
  rw [Lib.cell_of_heap h1, Nat.zero_add, h3 j hj]
  simp [List.getD_eq_getElem?_getD, hj]
theorem Filled.below {w w' : World} {g m i : Nat} {c : Int} (h : Filled w g m c i) (k : Below w.heap.size w w') : Filled w' g m c i := by
  obtain ⟨cs, h1, h2, h3⟩ := h
  exact ⟨cs, (k.block g (Array.getElem?_eq_some_iff.1 h1).1).trans h1, h2, h3⟩
theorem Filled.lt {w : World} {g m i : Nat} {c : Int} (h : Filled w g m c i) : g < w.heap.size := by
  obtain ⟨cs, h1, h2, h3⟩ := h
  exact (Array.getElem?_eq_some_iff.1 h1).1

theorem conv_filled {w : World} {g m : Nat} {c : Int} (h : Filled w g m c m) : (convert 26 9 (.slice (some ⟨g, 0, none⟩) m m)).run Try.prog w = .ok (.string (strOfNums (List.replicate m c))) w :=
  run_convert_bytes_arg w 26 5 Try.underlying26 Try.underlying5 g 0 m m (List.replicate m c) (by simp) (fun i hi => h.full hi) 9 Try.underlying9

theorem make_row (m : Nat) (hm : m < 1200) (w : World) : ∃ cs : Array Value, cs.size = m ∧ (Instr.makeSlice 26 (.int .i64 m) (.int .i64 m)).run Try.prog w = .ok (.slice (some ⟨w.heap.size, 0, none⟩) m m) (w.alloc (.cells cs 5)) := by
  obtain ⟨i0, hi, hz0, hz1, hz2⟩ := info_parts infoByte
  have h := run_make (P := Try.prog) w 26 5 i0 (.int .u8 0) Try.underlying26 hi hz0 .i64 .i64 m m (by omega) (Int.le_refl _) (by rw [hz2]; omega) (by omega)
  refine ⟨_, ?_, h⟩
  rw [size_madeCells, hz1]; simp

theorem size_nums (m : Nat) (c : Int) : (strOfNums (List.replicate m c)).size = m := by
  rw [← size_list]; simp [strOfNums]

/-- All that FrameLong asks of a frame that comes in two parts. -/
theorem part_facts (S : ByteArray) (h0 : 0 < S.size) (h1 : S.size ≤ 1024) :
    (framed S).size = 2 + S.size ∧ bad ((framed S).extract 0 (1 + S.size)).data.toList = false ∧ next ((framed S).extract 0 (1 + S.size)).data.toList = none ∧
    next (((framed S).extract 0 (1 + S.size)).data.toList ++ ((framed S).extract (1 + S.size) (framed S).size).data.toList) = some (S.data.toList, []) := by
  have hs := size_framed S
  have hl := list_framed S
  have hL := size_list S
  have hlen := size_list (framed S)
  have e1 : ((framed S).extract 0 (1 + S.size)).data.toList = (framed S).data.toList.take (1 + S.size) := by
    rw [ByteArray.data_extract]; simp
  have e2 : ((framed S).extract (1 + S.size) (framed S).size).data.toList = (framed S).data.toList.drop (1 + S.size) := by
    rw [extract_end']
  have e3 : (framed S).data.toList.take (1 + S.size) = hdr S.size ++ S.data.toList.take (S.size - 1) := by
    rw [hl, hL, List.take_append]
    have e : (hdr S.size).length = 2 := rfl
    rw [List.take_of_length_le (by rw [e]; omega), e]
    congr 2; omega
  have hbad : bad (hdr S.size ++ S.data.toList.take (S.size - 1)) = false := by
    rw [bad_hdr _ (by omega)]
    have g1 : (S.size == 0) = false := by rw [beq_eq_false_iff_ne]; omega
    have g2 : decide (1024 < S.size) = false := by rw [decide_eq_false_iff_not]; omega
    rw [g1, g2]; rfl
  refine ⟨hs, ?_, ?_, ?_⟩
  · rw [e1, e3]; exact hbad
  · rw [e1, e3]
    unfold next
    rw [num_hdr _ (by omega), if_neg]
    have e : (hdr S.size ++ S.data.toList.take (S.size - 1)).length = 2 + (S.size - 1) := by
      rw [List.length_append, List.length_take, hL]
      show 2 + _ = _
      omega
    rw [e]
    simp only [Bool.and_eq_true, decide_eq_true_eq]
    omega
  · rw [e1, e2, List.take_append_drop, hl]
    have := next_hdr S.data.toList [] (by omega) (by omega)
    simpa using this

set_option maxRecDepth 100000 in
set_option maxHeartbeats 4000000 in
theorem long_walk (n c : Int) (m : Nat) (w : World) (n0 : 0 ≤ n) (n1 : n < 65536) (c0 : 0 ≤ c) (c1 : c < 256) (hm : n % 1200 = m) :
    Calls Try.prog 7 #[.int .u16 n, .int .u8 c] w fun e w' => e = .returned (.bool true) ∧ Below w.heap.size w w' := by
  obtain ⟨cs, hcs, hmk⟩ := make_row m (by omega) w
  have hm2 : m < 1200 := by omega
  have hF := Filled.new w m c cs hcs
  have HF := Lib.hid hF
  have HCS := Lib.hid hcs
  clear hF hcs
  go_enter Try.func7, Try.ntmps7
  go_wp2
  go_loopw [6] (fun s6 wr => ∃ i : Nat, i ≤ m ∧ s6 = .int .i64 i ∧ Hid (Filled wr w.heap.size m c i) ∧ Hid (Below w.heap.size w wr)) (fun s6 _ => m - (intOf s6).toNat)
  case atStart => exact ⟨0, by omega, rfl, HF, Lib.hid ((Below.refl _ _).alloc (Nat.le_refl _) _)⟩
  case round =>
    clear HF hmk HCS
    obtain ⟨i, hi, rfl, HF, HB⟩ := hrel
    by_cases hlt : i < m
    · obtain ⟨u, hu⟩ := HF.out.cell hlt
      have hfz := HF.out.free i
      go_wp2
      go_roundw
      case rel => exact ⟨i + 1, by omega, by go_num, Lib.hid (HF.out.set hlt), Lib.hid (HB.out.setCell (Nat.le_refl _) _)⟩
      case measure => simp [intOf]; omega
    · obtain rfl : i = m := by omega
      have hcv := conv_filled HF.out
      have hsz := size_nums i c
      generalize hS : strOfNums (List.replicate i c) = S at hcv hsz
      by_cases h0 : i = 0
      · subst h0
        have hp := fun W => put_empty S W hsz
        go_wp2_with fail
        refine (hp _).mono ?_
        rintro e w1 ⟨rfl, hb1⟩
        have HB1 := Lib.hid (HB.out.trans (hb1.mono HB.out.size))
        clear hb1 hp
        go_wp2_with fail
        refine (shown_any _).mono ?_
        rintro e w2 ⟨rfl, hb2⟩
        go_wp2
        go_ret
        exact ⟨rfl, HB1.out.trans (hb2.mono HB1.out.size)⟩
      · by_cases h1 : 1024 < i
        · have hp := fun W => put_long S W (by omega)
          have g0 : ((i : Int) == 0) = false := by simpa using h0
          clear h0
          go_wp2_with fail
          refine (hp _).mono ?_
          rintro e w1 ⟨rfl, hb1⟩
          have HB1 := Lib.hid (HB.out.trans (hb1.mono HB.out.size))
          clear hb1 hp
          go_wp2_with fail
          refine (shown_any _).mono ?_
          rintro e w2 ⟨rfl, hb2⟩
          go_wp2
          go_ret
          exact ⟨rfl, HB1.out.trans (hb2.mono HB1.out.size)⟩
        · have hp := fun W => put_ok S W (by omega) (by omega)
          obtain ⟨f1, f2, f3, f4⟩ := part_facts S (by omega) (by omega)
          rw [hsz] at f1 f2 f3 f4
          have g0 : ((i : Int) == 0) = false := by simpa using h0
          have g1 : ¬ (1024 : Int) < (i : Int) := by omega
          have f5 : ((framed S).size : Int) = 2 + (i : Int) := by omega
          have F1 := Lib.hid f1
          have F2 := Lib.hid f2
          have F3 := Lib.hid f3
          have F4 := Lib.hid f4
          have HF1 := Lib.hid HF.out
          clear h0 f1 f2 f3 f4
          have hi1 : (1 : Int) ≤ (i : Int) := by simp at g0; omega
          go_wp2_with fail
          refine (hp _).mono ?_
          rintro e w1 ⟨rfl, hb1⟩
          have HB1 := Lib.hid (HB.out.trans (hb1.mono HB.out.size))
          have HF2 := Lib.hid (HF.out.below hb1)
          clear hb1 hp
          go_wp2_with fail
          -- the splitter is made: all that was there stays
          have hown := Own.new (Below.refl w1.heap.size w1)
          have HO := Lib.hid hown
          clear hown
          have hpu := push_ok _ _ _ _ ((framed S).extract 0 (1 + i)) _ HO.out.st (by
            have e : ((framed S).extract 0 (1 + i)).size ≤ 1200 := by rw [ByteArray.size_extract]; omega
            omega) rfl
          refine hpu.mono ?_
          rintro e w2 ⟨r2, rfl, p2, q2⟩
          have HO2 := Lib.hid (HO.out.step p2 q2)
          clear hpu p2 q2 HO
          rw [List.nil_append] at HO2
          have hn1 := next_no _ _ _ _ _ HO2.out.st F3.out
          go_wp2_with fail
          refine hn1.mono ?_
          rintro e w3 ⟨r3, rfl, p3, q3⟩
          have HO3 := Lib.hid (HO2.out.step p3 q3)
          clear hn1 p3 q3 HO2
          have hpu := push_ok _ _ _ _ ((framed S).extract (1 + i) (framed S).size) _ HO3.out.st (by
            have e : ((framed S).extract 0 (1 + i)).size ≤ 1200 := by rw [ByteArray.size_extract]; omega
            have e2 : ((framed S).extract (1 + i) (framed S).size).size ≤ 1200 := by rw [ByteArray.size_extract]; omega
            omega) F2.out
          go_wp2_with fail
          refine hpu.mono ?_
          rintro e w4 ⟨r4, rfl, p4, q4⟩
          have HO4 := Lib.hid (HO3.out.step p4 q4)
          clear hpu p4 q4 HO3
          have hn2 := next_yes _ _ _ _ _ _ _ HO4.out.st F4.out
          rw [← of_list] at hn2
          go_wp2_with fail
          refine hn2.mono ?_
          rintro e w5 ⟨r5, rfl, p5, q5⟩
          have HO5 := Lib.hid (HO4.out.step p5 q5)
          clear hn2 p5 q5 HO4
          have hcv5 := conv_filled (HF2.out.below HO5.out.bel)
          rw [hS] at hcv5
          have hlf := left_st _ _ _ _ _ HO5.out.st
          clear hcv
          go_wp2_with fail
          refine hlf.mono ?_
          rintro e w6 ⟨r6, rfl, p6, q6⟩
          have HO6 := Lib.hid (HO5.out.step p6 q6)
          clear hlf p6 q6 HO5 hcv5
          go_wp2_with fail
          refine (shown_any _).mono ?_
          rintro e w7 ⟨rfl, hb7⟩
          go_wp2
          go_ret
          exact ⟨rfl, (HB1.out.trans (HO6.out.bel.mono HB1.out.size)).trans (hb7.mono (Nat.le_trans HB1.out.size HO6.out.siz))⟩
end Go.Proofs.Yteclngkfiaoidaa
