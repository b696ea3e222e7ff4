/- The walk of NodeOpens; no condition. -/
import Derived.Test.YtgehdkbjcpdjoaaDoorSh
namespace Go.Proofs.YtgehdkbjcpdjoaaDoor
open Go.RowKit
set_option linter.unusedVariables false
set_option linter.unusedSimpArgs false

/-- The peers that were opened first: of capacity 1, with nothing of our own. -/
def Firsts (n : Nat) (l : List Peer) : Prop := l.length = n ∧ ∀ (j : Nat) (p : Peer), l[j]? = some p → p.s = stp (j : Int) 1 0
theorem Firsts.notin {n : Nat} {l : List Peer} (h : Firsts n l) (x : Int) (hx : (n : Int) ≤ x) : x ∉ chs l := by
  intro hm
  simp only [chs, List.mem_map] at hm
  obtain ⟨p, hp, he⟩ := hm
  obtain ⟨j, hj⟩ := List.mem_iff_getElem?.1 hp
  have h1 := h.2 j p hj
  have h2 := (List.getElem?_eq_some_iff.1 hj).1
  rw [h1] at he
  have he' : (j : Int) = x := he
  have := h.1
  omega
theorem Firsts.has {n : Nat} {l : List Peer} (h : Firsts n l) : hasOf l = 0 := by
  have : ∀ x ∈ l.map (·.s.ours), x = 0 := by
    intro x hx
    obtain ⟨p, hp, rfl⟩ := List.mem_map.1 hx
    obtain ⟨j, hj⟩ := List.mem_iff_getElem?.1 hp
    rw [h.2 j p hj]; rfl
  unfold hasOf
  generalize l.map (·.s.ours) = z at *
  induction z with
  | nil => rfl
  | cons x z ih => rw [List.sum_cons, this x (by simp), ih (fun y hy => this y (List.mem_cons_of_mem _ hy))]; rfl
theorem Firsts.fine {n : Nat} {l : List Peer} (h : Firsts n l) (hn : n ≤ 8) : Fine l := by
  intro p hp
  obtain ⟨j, hj⟩ := List.mem_iff_getElem?.1 hp
  have h2 := (List.getElem?_eq_some_iff.1 hj).1
  have := h.1
  rw [h.2 j p hj]
  exact ⟨stp_ok _ _ _ (by omega) (by omega) (by decide) (by decide) (by decide) (by decide), by simp [may, stp]⟩
theorem Firsts.more {n : Nat} {l : List Peer} (h : Firsts n l) (p : Peer) (hp : p.s = stp (n : Int) 1 0) : Firsts (n + 1) (l ++ [p]) := by
  refine ⟨by simp [h.1], fun j q hq => ?_⟩
  by_cases hj : j < l.length
  · exact h.2 j q (by rwa [List.getElem?_append_left hj] at hq)
  · have hjl := (List.getElem?_eq_some_iff.1 hq).1
    simp at hjl
    obtain rfl : j = l.length := by omega
    simp at hq
    subst hq
    rw [h.1]; exact hp
theorem Firsts.opens {n : Nat} {l : List Peer} (h : Firsts n l) (f : Int) (f0 : 0 ≤ f) (i : Int) (hi : (n : Int) ≤ i) : openE f l (stp i 1 0) = if n = 8 then 2 else 0 := by
  have h1 : ¬ (stp i 1 0).ours > (stp i 1 0).cap := by simp [stp]
  have h2 : ¬ f < (stp i 1 0).ours := by simp [stp]; omega
  have h3 : (stp i 1 0).ch ∉ chs l := h.notin i hi
  have h4 : may (stp i 1 0) := by simp [may, stp]
  unfold openE addE
  rw [if_neg h1, if_neg h2, h.1, if_neg h3, if_pos h4]
theorem Firsts.last {n : Nat} {l : List Peer} (h : Firsts n l) (hn : n ≤ 8) (f c o : Int) : openE f l (stp 99 c o) = if o > c then 1 else if f < o then 61 else if n = 8 then 2 else if 1 ≤ c ∧ c ≤ 1125899906842624 then 0 else 1 := by
  unfold openE addE
  have h3 : (stp 99 c o).ch ∉ chs l := h.notin 99 (by omega)
  show (if o > c then _ else if f < o then _ else _) = _
  by_cases h1 : o > c
  · rw [if_pos h1, if_pos h1]
  · rw [if_neg h1, if_neg h1, h.1, if_neg h3]
    have : may (stp 99 c o) ↔ (1 ≤ c ∧ c ≤ 1125899906842624) := by
      show (1 ≤ c ∧ c ≤ 1125899906842624 ∧ o ≤ c) ↔ _
      constructor
      · intro h; exact ⟨h.1, h.2.1⟩
      · intro h; exact ⟨h.1, h.2, by omega⟩
    simp only [this]

set_option maxRecDepth 100000 in
set_option maxHeartbeats 8000000 in
theorem opens_walk (f c o m : Int) (f0 : 0 ≤ f) (f1 : f < 18446744073709551616) (c0 : 0 ≤ c) (c1 : c < 18446744073709551616) (o0 : 0 ≤ o) (o1 : o < 18446744073709551616) (m0 : 0 ≤ m) (m1 : m < 256) (w : World) :
    Calls Tryd.prog 3 #[.int .u64 f, .int .u64 c, .int .u64 o, .int .u8 m] w fun e w' => e = .returned (.bool true) ∧ Below w.heap.size w w' := by
  by_cases hbig : 1125899906842624 < f
  · go_enter Tryd.func3, Tryd.ntmps3
    go_wp2_with fail
    refine (node_not f hbig w).mono ?_
    rintro e w' ⟨rfl, rfl⟩
    go_wp2_with fail
    refine (shown_any _).mono ?_
    rintro e W ⟨rfl, hb⟩
    go_wp2
    go_ret
    exact ⟨rfl, hb⟩
  · have hf : f ≤ 1125899906842624 := by omega
    go_enter Tryd.func3, Tryd.ntmps3
    go_wp2_with fail
    refine (node_new f f0 hf w).mono ?_
    rintro e W ⟨g, r, rfl, hn, hb⟩
    have HN := Lib.hid hn
    have HB := Lib.hid hb
    clear hn hb
    go_wp2_with fail
    refine (shown_any _).mono ?_
    rintro e W1 ⟨rfl, hb⟩
    have HN1 := Lib.hid (HN.out.quiet hb)
    have HB1 := Lib.hid (HB.out.trans (hb.mono HB.out.size))
    clear hb
    have hk0 : 0 ≤ m % 10 := by omega
    have hk1 : m % 10 < 10 := by omega
    go_wp2
    go_loopw [10] (fun s10 wr => ∃ (i : Nat) (l : List Peer), Value.int .i64 i = s10 ∧ (i : Int) ≤ m % 10 ∧ Hid (Firsts (min i 8) l) ∧ Hid (NodeAt wr g r w.heap.size f l) ∧ Hid (Below w.heap.size w wr)) (fun s10 _ => (m % 10).toNat - (intOf s10).toNat)
    case atStart => exact ⟨0, [], rfl, by omega, Lib.hid ⟨by simp, fun j p h => by simp at h⟩, HN1, HB1⟩
    case round =>
      clear HN HB HN1 HB1
      obtain ⟨i, l, hs, hi, HL, HN, HB⟩ := hrel
      subst hs
      by_cases hlt : (i : Int) < m % 10
      · have hi8 : (i : Int) < 10 := by omega
        have hop := open_any g r w.heap.size f l (stp (i : Int) 1 0) (stp_ok _ _ _ (by omega) (by omega) (by decide) (by decide) (by decide) (by decide)) wr HN.out HB.out.size f0 f1
        have hE := HL.out.opens f f0 (i : Int) (by omega)
        have HOP := Lib.hid hop
        clear hop
        by_cases h8 : i < 8
        · have e := hE
          rw [if_neg (by omega)] at e
          have HE := Lib.hid e
          have h8' : (i : Int) < 8 := by omega
          clear e hE h8
          go_wp2_with fail
          refine (show Calls Tryd.prog 6 #[_, (stp (i : Int) 1 0).val] _ _ from HOP.out.mono ?_)
          rintro e W2 h
          rcases h with ⟨h, _⟩ | ⟨_, rfl, ⟨p, hp, hn⟩, hb1⟩
          · exact absurd HE.out h
          have HN2 : Hid (NodeAt W2 g r w.heap.size f (l ++ [p])) := Lib.hid (by rw [show f - (stp (i : Int) 1 0).ours = f from by simp [stp]] at hn; exact hn)
          have HB2 := Lib.hid (HB.out.trans hb1)
          have HL2 : Hid (Firsts (min (i + 1) 8) (l ++ [p])) := Lib.hid (by
            have h1 : min i 8 = i := by omega
            have h2 : min (i + 1) 8 = i + 1 := by omega
            have h3 := HL.out
            rw [h1] at h3
            rw [h2]
            exact h3.more p hp)
          clear hp hn hb1 HOP HE HL HN HB
          go_wp2
          go_roundw
          case rel => exact ⟨i + 1, l ++ [p], by go_num, by omega, HL2, HN2, HB2⟩
          case measure => simp [intOf]; omega
        · have e := hE
          rw [if_pos (by omega)] at e
          have HE := Lib.hid e
          have h8' : ¬ (i : Int) < 8 := by omega
          have HI8 := Lib.hid h8
          clear e hE h8
          go_wp2_with fail
          refine (show Calls Tryd.prog 6 #[_, (stp (i : Int) 1 0).val] _ _ from HOP.out.mono ?_)
          rintro e W2 h
          rcases h with ⟨_, rfl, hn, hb1⟩ | ⟨h, _⟩
          · have HN2 := Lib.hid hn
            have HB2 := Lib.hid (HB.out.trans hb1)
            have HL2 : Hid (Firsts (min (i + 1) 8) l) := Lib.hid (by
              have h1 : min i 8 = 8 := by have := HI8.out; omega
              have h2 : min (i + 1) 8 = 8 := by have := HI8.out; omega
              have h3 := HL.out
              rw [h1] at h3
              rw [h2]
              exact h3)
            rw [HE.out]
            clear hn hb1 HOP HE HL HN HB
            go_wp2
            go_roundw
            case rel => exact ⟨i + 1, l, by go_num, by omega, HL2, HN2, HB2⟩
            case measure => simp [intOf]; omega
          · exact absurd (HE.out.symm.trans h) (by decide)
      · have hop := open_any g r w.heap.size f l (stp 99 c o) (stp_ok _ _ _ (by decide) (by decide) c0 c1 o0 o1) wr HN.out HB.out.size f0 f1
        have HOP := Lib.hid hop
        have hE := HL.out.last (by omega) f c o
        clear hop
        by_cases h1 : o > c
        · have e := hE
          rw [if_pos h1] at e
          have HE := Lib.hid e
          clear e hE
          go_wp2_with fail
          refine (show Calls Tryd.prog 6 #[_, (stp 99 c o).val] _ _ from HOP.out.mono ?_)
          rintro e W2 h
          rcases h with ⟨_, rfl, hn, hb1⟩ | ⟨h, _⟩
          · have HN2 := Lib.hid hn
            have HB2 := Lib.hid (HB.out.trans hb1)
            have htot := total_any g r w.heap.size f l (HL.out.fine (by omega)) W2 hn f0 hf
            rw [HL.out.has, Int.add_zero] at htot
            have HT := Lib.hid htot
            rw [HE.out]
            clear hn hb1 HOP HE HN HB htot
            go_wp2_with fail
            refine HT.out.mono ?_
            rintro e W3 ⟨rfl, hb3⟩
            have HN3 := Lib.hid (HN2.out.quiet hb3)
            have HB3 := Lib.hid (HB2.out.trans (hb3.mono HB2.out.size))
            clear hb3 HT
            go_wp2_with fail
            refine (funds_any g r w.heap.size f l W3 HN3.out).mono ?_
            rintro e W4 ⟨rfl, rfl⟩
            go_wp2
            go_ret
            exact ⟨rfl, HB3.out⟩
          · exact absurd (HE.out.symm.trans h) (by decide)
        by_cases h2 : f < o
        · have e := hE
          rw [if_neg h1, if_pos h2] at e
          have HE := Lib.hid e
          clear e hE
          go_wp2_with fail
          refine (show Calls Tryd.prog 6 #[_, (stp 99 c o).val] _ _ from HOP.out.mono ?_)
          rintro e W2 h
          rcases h with ⟨_, rfl, hn, hb1⟩ | ⟨h, _⟩
          · have HN2 := Lib.hid hn
            have HB2 := Lib.hid (HB.out.trans hb1)
            have htot := total_any g r w.heap.size f l (HL.out.fine (by omega)) W2 hn f0 hf
            rw [HL.out.has, Int.add_zero] at htot
            have HT := Lib.hid htot
            rw [HE.out]
            clear hn hb1 HOP HE HN HB htot
            go_wp2_with fail
            refine HT.out.mono ?_
            rintro e W3 ⟨rfl, hb3⟩
            have HN3 := Lib.hid (HN2.out.quiet hb3)
            have HB3 := Lib.hid (HB2.out.trans (hb3.mono HB2.out.size))
            clear hb3 HT
            go_wp2_with fail
            refine (funds_any g r w.heap.size f l W3 HN3.out).mono ?_
            rintro e W4 ⟨rfl, rfl⟩
            go_wp2
            go_ret
            exact ⟨rfl, HB3.out⟩
          · exact absurd (HE.out.symm.trans h) (by decide)
        by_cases h8 : 8 ≤ m % 10
        · have e := hE
          rw [if_neg h1, if_neg h2, if_pos (by omega)] at e
          have HE := Lib.hid e
          clear e hE
          go_wp2_with fail
          refine (show Calls Tryd.prog 6 #[_, (stp 99 c o).val] _ _ from HOP.out.mono ?_)
          rintro e W2 h
          rcases h with ⟨_, rfl, hn, hb1⟩ | ⟨h, _⟩
          · have HN2 := Lib.hid hn
            have HB2 := Lib.hid (HB.out.trans hb1)
            have htot := total_any g r w.heap.size f l (HL.out.fine (by omega)) W2 hn f0 hf
            rw [HL.out.has, Int.add_zero] at htot
            have HT := Lib.hid htot
            rw [HE.out]
            clear hn hb1 HOP HE HN HB htot
            go_wp2_with fail
            refine HT.out.mono ?_
            rintro e W3 ⟨rfl, hb3⟩
            have HN3 := Lib.hid (HN2.out.quiet hb3)
            have HB3 := Lib.hid (HB2.out.trans (hb3.mono HB2.out.size))
            clear hb3 HT
            go_wp2_with fail
            refine (funds_any g r w.heap.size f l W3 HN3.out).mono ?_
            rintro e W4 ⟨rfl, rfl⟩
            go_wp2
            go_ret
            exact ⟨rfl, HB3.out⟩
          · exact absurd (HE.out.symm.trans h) (by decide)
        by_cases h3 : c = 0
        · have h3t : (c == 0) = true := by simp [h3]
          have e := hE
          rw [if_neg h1, if_neg h2, if_neg (by omega), if_neg (by omega)] at e
          have HE := Lib.hid e
          clear e hE h3
          go_wp2_with fail
          refine (show Calls Tryd.prog 6 #[_, (stp 99 c o).val] _ _ from HOP.out.mono ?_)
          rintro e W2 h
          rcases h with ⟨_, rfl, hn, hb1⟩ | ⟨h, _⟩
          · have HN2 := Lib.hid hn
            have HB2 := Lib.hid (HB.out.trans hb1)
            have htot := total_any g r w.heap.size f l (HL.out.fine (by omega)) W2 hn f0 hf
            rw [HL.out.has, Int.add_zero] at htot
            have HT := Lib.hid htot
            rw [HE.out]
            clear hn hb1 HOP HE HN HB htot
            go_wp2_with fail
            refine HT.out.mono ?_
            rintro e W3 ⟨rfl, hb3⟩
            have HN3 := Lib.hid (HN2.out.quiet hb3)
            have HB3 := Lib.hid (HB2.out.trans (hb3.mono HB2.out.size))
            clear hb3 HT
            go_wp2_with fail
            refine (funds_any g r w.heap.size f l W3 HN3.out).mono ?_
            rintro e W4 ⟨rfl, rfl⟩
            go_wp2
            go_ret
            exact ⟨rfl, HB3.out⟩
          · exact absurd (HE.out.symm.trans h) (by decide)
        have h3' : (c == 0) = false := by simp [h3]
        by_cases h4 : 1125899906842624 < c
        · have e := hE
          rw [if_neg h1, if_neg h2, if_neg (by omega), if_neg (by omega)] at e
          have HE := Lib.hid e
          clear e hE h3
          go_wp2_with fail
          refine (show Calls Tryd.prog 6 #[_, (stp 99 c o).val] _ _ from HOP.out.mono ?_)
          rintro e W2 h
          rcases h with ⟨_, rfl, hn, hb1⟩ | ⟨h, _⟩
          · have HN2 := Lib.hid hn
            have HB2 := Lib.hid (HB.out.trans hb1)
            have htot := total_any g r w.heap.size f l (HL.out.fine (by omega)) W2 hn f0 hf
            rw [HL.out.has, Int.add_zero] at htot
            have HT := Lib.hid htot
            rw [HE.out]
            clear hn hb1 HOP HE HN HB htot
            go_wp2_with fail
            refine HT.out.mono ?_
            rintro e W3 ⟨rfl, hb3⟩
            have HN3 := Lib.hid (HN2.out.quiet hb3)
            have HB3 := Lib.hid (HB2.out.trans (hb3.mono HB2.out.size))
            clear hb3 HT
            go_wp2_with fail
            refine (funds_any g r w.heap.size f l W3 HN3.out).mono ?_
            rintro e W4 ⟨rfl, rfl⟩
            go_wp2
            go_ret
            exact ⟨rfl, HB3.out⟩
          · exact absurd (HE.out.symm.trans h) (by decide)
        have e := hE
        rw [if_neg h1, if_neg h2, if_neg (by omega), if_pos (by omega)] at e
        have HE := Lib.hid e
        clear e hE h3
        have d0 : 0 ≤ f - o := by omega
        have d1 : f - o ≤ 1125899906842624 := by omega
        go_wp2_with fail
        refine (show Calls Tryd.prog 6 #[_, (stp 99 c o).val] _ _ from HOP.out.mono ?_)
        rintro e W2 h
        rcases h with ⟨h, _⟩ | ⟨_, rfl, ⟨p, hp, hn⟩, hb1⟩
        · exact absurd HE.out h
        · have hn2 : NodeAt W2 g r w.heap.size (f - o) (l ++ [p]) := hn
          have HN2 := Lib.hid hn2
          have HB2 := Lib.hid (HB.out.trans hb1)
          have hfine : Fine (l ++ [p]) := by
            intro q hq
            rcases List.mem_append.1 hq with hq | hq
            · exact HL.out.fine (by omega) q hq
            · simp at hq
              subst hq
              rw [hp]
              refine ⟨stp_ok _ _ _ (by decide) (by decide) c0 c1 o0 o1, ?_⟩
              show 1 ≤ c ∧ c ≤ 1125899906842624 ∧ o ≤ c
              exact ⟨by simp at h3'; omega, by omega, by omega⟩
          have htot := total_any g r w.heap.size (f - o) (l ++ [p]) hfine W2 hn2 d0 d1
          have hh : f - o + hasOf (l ++ [p]) = f := by
            have h5 : hasOf (l ++ [p]) = hasOf l + p.s.ours := by simp [hasOf]
            rw [h5, HL.out.has, hp]
            show f - o + (0 + o) = f
            omega
          rw [hh] at htot
          have HT := Lib.hid htot
          clear hn hn2 hb1 HOP HE HN HB htot hh hfine hp
          go_wp2_with fail
          refine HT.out.mono ?_
          rintro e W3 ⟨rfl, hb3⟩
          have HN3 := Lib.hid (HN2.out.quiet hb3)
          have HB3 := Lib.hid (HB2.out.trans (hb3.mono HB2.out.size))
          clear hb3 HT
          go_wp2_with fail
          refine (funds_any g r w.heap.size (f - o) (l ++ [p]) W3 HN3.out).mono ?_
          rintro e W4 ⟨rfl, rfl⟩
          go_wp2
          go_ret
          exact ⟨rfl, HB3.out⟩
end Go.Proofs.YtgehdkbjcpdjoaaDoor
