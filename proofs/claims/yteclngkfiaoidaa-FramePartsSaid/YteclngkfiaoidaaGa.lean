/- The walk of FrameLeft; condition: its argument is a slice of strings. -/
import Derived.Test.YteclngkfiaoidaaWf
import Derived.Test.YteclngkfiaoidaaArgs
namespace Go.Proofs.Yteclngkfiaoidaa
open Go.RowKit Go.Lib
set_option linter.unusedVariables false
set_option linter.unusedSimpArgs false

theorem next_bad {l : List UInt8} (h : bad l = true) : next l = none := by
  unfold next; rw [h]; simp

theorem next_len {l t l' : List UInt8} (h : next l = some (t, l')) : l.length = 2 + t.length + l'.length ∧ bad l = false ∧ has l = true ∧ num l = t.length := by
  unfold next at h
  split at h
  · rename_i hc
    simp only [Bool.and_eq_true, Bool.not_eq_true', decide_eq_true_eq] at hc
    obtain ⟨⟨h1, h2⟩, h3⟩ := hc
    have hn := num_nn l
    injection h with h
    injection h with e1 e2
    subst e1 e2
    refine ⟨?_, h2, h1, ?_⟩
    · simp; omega
    · simp; omega
  · cases h

theorem push_ok (b : Nat) (r : Option Nat) (m : Nat) (l : List UInt8) (s : ByteArray) (w : World) (h : St w b r m l) (hm : m + s.size ≤ 140737488355328) (hB : bad l = false) :
    Calls Try.prog 9 #[.pointer (some ⟨b, 0, none⟩), .string s] w (St.Post b r (m + s.size) (l ++ s.data.toList) (.int .i64 0) w) := by
  have := push_any b r m l s w h hm
  rwa [hB, if_neg (by decide)] at this
theorem push_bad (b : Nat) (r : Option Nat) (m : Nat) (l : List UInt8) (s : ByteArray) (w : World) (h : St w b r m l) (hm : m + s.size ≤ 140737488355328) (hB : bad l = true) :
    Calls Try.prog 9 #[.pointer (some ⟨b, 0, none⟩), .string s] w (St.Post b r m l (.int .i64 80) w) := by
  have := push_any b r m l s w h hm
  rwa [hB, if_pos rfl] at this
theorem next_no (b : Nat) (r : Option Nat) (m : Nat) (l : List UInt8) (w : World) (h : St w b r m l) (hn : next l = none) :
    Calls Try.prog 11 #[.pointer (some ⟨b, 0, none⟩)] w (St.Post b r m l (.tuple #[.string ⟨#[]⟩, .bool false]) w) := by
  have := next_any b r m l w h
  unfold nextPost at this
  rwa [hn] at this
theorem next_yes (b : Nat) (r : Option Nat) (m : Nat) (l t l' : List UInt8) (w : World) (h : St w b r m l) (hn : next l = some (t, l')) :
    Calls Try.prog 11 #[.pointer (some ⟨b, 0, none⟩)] w (St.Post b r m l' (.tuple #[.string ⟨t.toArray⟩, .bool true]) w) := by
  have := next_any b r m l w h
  unfold nextPost at this
  rwa [hn] at this

/-- The splitter and its row are the call's own (from B on), and nothing below B has turned. -/
structure Own (B : Nat) (w0 : World) (b : Nat) (r : Option Nat) (m : Nat) (l : List UInt8) (w : World) : Prop where
  st : St w b r m l
  bel : Below B w0 w
  blk : B ≤ b
  row : ∀ k, r = some k → B ≤ k
  siz : B ≤ w.heap.size
theorem Own.step {B : Nat} {w0 : World} {b : Nat} {r r' : Option Nat} {m m' : Nat} {l l' : List UInt8} {w w' : World} (h : Own B w0 b r m l w) (hs : St w' b r' m' l') (hm : Mv b r w r' w') : Own B w0 b r' m' l' w' :=
  ⟨hs, h.bel.trans (hm.below h.blk h.row h.siz), h.blk, hm.rowLe h.row h.siz, Nat.le_trans h.siz hm.size⟩
theorem Own.new {w0 w : World} (h : Below w0.heap.size w0 w) : Own w0.heap.size w0 w.heap.size none 0 [] (w.alloc (.cells #[.pointer none, .slice none 0 0, .int .i64 0] 32)) :=
  ⟨st_new w, h.alloc h.size _, h.size, (by simp), by simp; have := h.size; omega⟩

set_option maxRecDepth 100000 in
set_option maxHeartbeats 4000000 in
theorem left_walk (A : Option Addr) (ss : List ByteArray) (cap : Nat) (w : World) (hl : IsStrs w A ss.length cap ss) :
    Calls Try.prog 3 #[.slice A ss.length cap] w fun e w' => e = .returned (.bool true) ∧ Below w.heap.size w w' := by
  by_cases h : 40 < ss.length
  · clear hl
    go_enter Try.func3, Try.ntmps3
    go_wp2_with fail
    refine (shown_any _).mono ?_
    rintro e w1 ⟨rfl, hb⟩
    go_wp2
    go_ret
    exact ⟨rfl, hb⟩
  · obtain ⟨_, hlc, hcm, _, hcell, _⟩ := hl
    have HC := Lib.hid hcell
    clear hcell hcm hlc
    have hlen : ss.length ≤ 40 := by omega
    go_enter Try.func3, Try.ntmps3
    go_wp2_with fail
    refine (shown_any _).mono ?_
    rintro e w1 ⟨rfl, hb⟩
    have hown := Own.new hb
    have HO := Lib.hid hown
    clear hown
    go_wp2_with fail
    go_loopw [4, 5, 6] (fun s4 s5 s6 wr => ∃ (i m told : Nat) (r : Option Nat) (l : List UInt8), i ≤ ss.length ∧ s6 = .int .i64 i ∧ s4 = .int .i64 m ∧ s5 = .int .i64 told ∧ m ≤ 1500 * i ∧ Hid (m = told + l.length) ∧ Hid (Own w.heap.size w w1.heap.size r m l wr)) (fun _ _ s6 _ => ss.length - (intOf s6).toNat)
    case atStart => exact ⟨0, 0, 0, none, [], by omega, rfl, rfl, rfl, by omega, Lib.hid rfl, HO⟩
    case round =>
      clear HO hb
      obtain ⟨i, m, told, r, l, hi, rfl, rfl, rfl, hm, HM, HO⟩ := hrel
      by_cases hlt : i < ss.length
      · obtain ⟨ab, off, rfl, hab, hc⟩ := HC.out i hlt
        have hcw : ∀ W, Below w.heap.size w W → W.cell? ⟨ab, off + i, none⟩ = some (.string (ss.getD i ByteArray.empty)) := fun W hb => (hb.cell (p := ⟨ab, off + i, none⟩) hab).trans hc
        generalize ss.getD i ByteArray.empty = s at *
        have c1 := hcw _ HO.out.bel
        have HCW := Lib.hid hcw
        clear hc hcw hab
        by_cases hs : 1500 < s.size
        · go_wp2_with fail
          refine (shown_any _).mono ?_
          rintro e w2 ⟨rfl, hb2⟩
          go_wp2
          go_ret
          exact ⟨rfl, HO.out.bel.trans (hb2.mono HO.out.siz)⟩
        · cases hB : bad l with
          | true =>
            have hp := push_bad _ _ _ _ s _ HO.out.st (by omega) hB
            have hn0 := next_bad hB
            have HB := Lib.hid hB
            have HN := Lib.hid hn0
            clear hB hn0
            go_wp2_with fail
            refine hp.mono ?_
            rintro e w2 ⟨r2, rfl, p2, q2⟩
            have HO2 := Lib.hid (HO.out.step p2 q2)
            clear HO hp p2 q2 c1
            have hbd := bad_any _ _ _ _ _ HO2.out.st
            rw [HB.out] at hbd
            go_wp2_with fail
            refine hbd.mono ?_
            rintro e w3 ⟨r3, rfl, p3, q3⟩
            have HO3 := Lib.hid (HO2.out.step p3 q3)
            clear HO2 hbd p3 q3
            have hnx := next_no _ _ _ _ _ HO3.out.st HN.out
            go_wp2_with fail
            refine hnx.mono ?_
            rintro e w4 ⟨r4, rfl, p4, q4⟩
            have HO4 := Lib.hid (HO3.out.step p4 q4)
            clear HO3 hnx p4 q4
            have hlf := left_st _ _ _ _ _ HO4.out.st
            have hll : (l.length : Int) = (m : Int) - told := by have := HM.out; omega
            rw [hll] at hlf
            have hb1 : (told : Int) ≤ 1500 * i := by have := HM.out; omega
            have hb2 : (0 : Int) ≤ (m : Int) - told := by have := HM.out; omega
            clear hll
            go_wp2_with fail
            refine hlf.mono ?_
            rintro e w5 ⟨r5, rfl, p5, q5⟩
            have HO5 := Lib.hid (HO4.out.step p5 q5)
            clear HO4 hlf p5 q5
            go_wp2
            go_roundw
            case rel => exact ⟨i + 1, m, told, _, l, by omega, by go_num, rfl, rfl, by omega, HM, HO5⟩
            case measure => simp [intOf]; omega
          | false =>
            have hp := push_ok _ _ _ _ s _ HO.out.st (by omega) hB
            have HB := Lib.hid hB
            clear hB
            go_wp2_with fail
            refine hp.mono ?_
            rintro e w2 ⟨r2, rfl, p2, q2⟩
            have HO2 := Lib.hid (HO.out.step p2 q2)
            have c2 := HCW.out _ HO2.out.bel
            clear HO hp p2 q2 c1
            go_wp2_with fail
            cases hn : next (l ++ s.data.toList) with
            | none =>
              have hnx := next_no _ _ _ _ _ HO2.out.st hn
              clear hn c2
              refine hnx.mono ?_
              rintro e w4 ⟨r4, rfl, p4, q4⟩
              have HO4 := Lib.hid (HO2.out.step p4 q4)
              clear HO2 hnx p4 q4
              have hlf := left_st _ _ _ _ _ HO4.out.st
              have hll : ((l ++ s.data.toList).length : Int) = (m : Int) + s.size - told := by have := HM.out; rw [List.length_append, size_list]; omega
              rw [hll] at hlf
              have hb1 : (told : Int) ≤ 1500 * i := by have := HM.out; omega
              have hb2 : (0 : Int) ≤ (m : Int) + s.size - told := by have := HM.out; omega
              clear hll
              go_wp2_with fail
              refine hlf.mono ?_
              rintro e w5 ⟨r5, rfl, p5, q5⟩
              have HO5 := Lib.hid (HO4.out.step p5 q5)
              clear HO4 hlf p5 q5
              go_wp2
              go_roundw
              case rel => exact ⟨i + 1, m + s.size, told, _, _, by omega, by go_num, by go_num, rfl, by omega, Lib.hid (by have := HM.out; rw [List.length_append, size_list]; omega), HO5⟩
              case measure => simp [intOf]; omega
            | some tl =>
              obtain ⟨t, l'⟩ := tl
              have hnx := next_yes _ _ _ _ _ _ _ HO2.out.st hn
              obtain ⟨g1, _, _, _⟩ := next_len hn
              rw [List.length_append, size_list] at g1
              clear hn c2
              refine hnx.mono ?_
              rintro e w4 ⟨r4, rfl, p4, q4⟩
              have HO4 := Lib.hid (HO2.out.step p4 q4)
              clear HO2 hnx p4 q4
              have hlf := fun r W (hst : St W _ r _ _) => left_st w1.heap.size r (m + s.size) l' W hst
              have hll : (l'.length : Int) = (m : Int) + s.size - (told + (2 + t.length)) := by have := HM.out; omega
              have hb1 : (told : Int) + (2 + t.length) ≤ 1500 * (i + 1) := by have := HM.out; omega
              have hb2 : (0 : Int) ≤ (m : Int) + s.size - (told + (2 + t.length)) := by omega
              rw [hll] at hlf
              have HM2 : Hid (m + s.size = told + (2 + t.length) + l'.length) := Lib.hid (by have := HM.out; omega)
              have HLF := Lib.hid hlf
              clear hll g1 HM hlf
              go_wp2_with fail
              refine (HLF.out _ _ HO4.out.st).mono ?_
              rintro e w5 ⟨r5, rfl, p5, q5⟩
              have HO5 := Lib.hid (HO4.out.step p5 q5)
              clear HO4 p5 q5
              go_wp2_with fail
              refine (HLF.out _ _ HO5.out.st).mono ?_
              rintro e w6 ⟨r6, rfl, p6, q6⟩
              have HO6 := Lib.hid (HO5.out.step p6 q6)
              clear HO5 p6 q6
              go_wp2
              go_roundw
              case rel => exact ⟨i + 1, m + s.size, told + (2 + t.length), _, _, by omega, by go_num, by go_num, by go_num, by omega, HM2, HO6⟩
              case measure => simp [intOf]; omega
      · go_wp2
        go_ret
        exact ⟨rfl, HO.out.bel⟩
end Go.Proofs.Yteclngkfiaoidaa
