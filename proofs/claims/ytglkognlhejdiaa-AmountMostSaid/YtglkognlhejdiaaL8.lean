/- The walk of amount.Most; conditions: the numbers are of their kinds. -/
import Derived.Test.YtglkognlhejdiaaL7
import Derived.Test.YtglkognlhejdiaaL4
namespace Go.Proofs.Ytglkognlhejdiaa
open Go.RowKit
set_option linter.unusedVariables false
set_option linter.unusedSimpArgs false

def MPost (i b r : Int) (w : World) (e : Ending) (w' : World) : Prop :=
  ∃ m : Int, e = .returned (.int .u64 m) ∧ 0 ≤ m ∧ m ≤ i ∧ (enough i 0 b r = false → m = 0) ∧ (enough i 0 b r = true → enough i m b r = true ∧ enough i (m + 1) b r = false) ∧ Below w.heap.size w w'

theorem enough_above (i o b r : Int) (b0 : 0 ≤ b) (r0 : 0 ≤ r) (o0 : 0 ≤ o) (h : i < o) : enough i o b r = false := by
  have := feeT_nn b r o b0 r0 o0
  simp [enough]; omega

theorem cell_of_alloc {w : World} {a : Addr} {v : Value} (o : Obj) (h : w.cell? a = some v) : (w.alloc o).cell? a = some v :=
  (World.cell?_alloc_lt w o a (World.block_lt_of_cell? w _ h)).trans h
theorem frozen_new (w : World) (c : Array Value) (t : TypeId) : (w.alloc (.cells c t)).frozen? ⟨w.heap.size, 0, none⟩ = false := by
  have h : (w.alloc (.cells c t)).heap[w.heap.size]? = some (.cells c t) := (MapKept.heap_alloc w _).1
  simp only [World.frozen?, h]; simp

/-- The world ahead of the loop: the boxes, the one of 'low' not frozen. -/
structure Ready (w w1 : World) (pi pl pb pr : Nat) (i l b r : Int) : Prop where
  box : Boxes w1 pi pl pb pr i l b r
  frz : w1.frozen? ⟨pl, 0, none⟩ = false
  bel : Below w.heap.size w w1
  old : w.heap.size ≤ pl
  ne1 : pi ≠ pl
  ne2 : pb ≠ pl
  ne3 : pr ≠ pl
theorem Ready.below {w w1 w2 : World} {pi pl pb pr : Nat} {i l b r : Int} (h : Ready w w1 pi pl pb pr i l b r) (k : Below w1.heap.size w1 w2) : Ready w w2 pi pl pb pr i l b r :=
  ⟨h.box.below k, (k.frozen (World.block_lt_of_cell? w1 _ h.box.hl)).trans h.frz, bt h.bel k, h.old, h.ne1, h.ne2, h.ne3⟩
theorem Ready.set {w w1 : World} {pi pl pb pr : Nat} {i l b r : Int} (h : Ready w w1 pi pl pb pr i l b r) (v : Int) : Ready w (w1.setCell ⟨pl, 0, none⟩ (.int .u64 v)) pi pl pb pr i v b r :=
  ⟨⟨(World.cell?_setCell_other w1 _ _ _ (by simp [h.ne1.symm, h.ne1])).trans h.box.hi, World.cell?_setCell_same w1 _ _ (by rw [h.box.hl]), (World.cell?_setCell_other w1 _ _ _ (by simp [h.ne2.symm, h.ne2])).trans h.box.hb, (World.cell?_setCell_other w1 _ _ _ (by simp [h.ne3.symm, h.ne3])).trans h.box.hr⟩,
    (World.frozen?_setCell _ _ _ _).trans h.frz, h.bel.setCell h.old _, h.old, h.ne1, h.ne2, h.ne3⟩

structure Three (w A : World) (pi pb pr : Nat) (i b r : Int) : Prop where
  hi : A.cell? ⟨pi, 0, none⟩ = some (.int .u64 i)
  hb : A.cell? ⟨pb, 0, none⟩ = some (.int .u64 b)
  hr : A.cell? ⟨pr, 0, none⟩ = some (.int .u64 r)
  bel : Below w.heap.size w A
theorem three_new (w : World) (i b r : Int) : Three w (((w.alloc (.cells #[.int .u64 i] 23)).alloc (.cells #[.int .u64 b] 23)).alloc (.cells #[.int .u64 r] 23)) w.heap.size (w.heap.size + 1) (w.heap.size + 1 + 1) i b r := by
  refine ⟨cell_of_alloc _ (cell_of_alloc _ (World.cell?_alloc_at _ _ _ _ rfl)), cell_of_alloc _ (World.cell?_alloc_at _ _ _ _ (by simp)), World.cell?_alloc_at _ _ _ _ (by simp), ?_⟩
  exact (((Below.refl _ _).alloc (Nat.le_refl _) _).alloc (by simp) _).alloc (by simp; omega) _
theorem Three.below {w A A' : World} {pi pb pr : Nat} {i b r : Int} (h : Three w A pi pb pr i b r) (k : Below A.heap.size A A') : Three w A' pi pb pr i b r :=
  ⟨(k.cell (World.block_lt_of_cell? A _ h.hi)).trans h.hi, (k.cell (World.block_lt_of_cell? A _ h.hb)).trans h.hb, (k.cell (World.block_lt_of_cell? A _ h.hr)).trans h.hr, bt h.bel k⟩
theorem Three.ready {w A : World} {pi pb pr : Nat} {i b r : Int} (h : Three w A pi pb pr i b r) : Ready w (A.alloc (.cells #[.int .u64 0] 23)).drew pi A.heap.size pb pr i 0 b r :=
  ⟨⟨cell_of_alloc _ h.hi, World.cell?_alloc_at _ _ _ _ rfl, cell_of_alloc _ h.hb, cell_of_alloc _ h.hr⟩, frozen_new A _ _, (h.bel.alloc h.bel.size _).drew, h.bel.size,
    Nat.ne_of_lt (World.block_lt_of_cell? A _ h.hi), Nat.ne_of_lt (World.block_lt_of_cell? A _ h.hb), Nat.ne_of_lt (World.block_lt_of_cell? A _ h.hr)⟩

set_option maxHeartbeats 2000000 in
theorem most_any1 (i b r : Int) (i0 : 0 ≤ i) (i1 : i < 18446744073709551616) (b0 : 0 ≤ b) (b1 : b < 18446744073709551616) (r0 : 0 ≤ r) (r1 : r < 18446744073709551616) (hmax : (i == 18446744073709551615) = false) (w : World) :
    Calls Try.prog 18 #[.int .u64 i, .int .u64 b, .int .u64 r] w (MPost i b r w) := by
  have he0 := enough_any i 0 b r i0 i1 (by omega) (by omega) b0 b1 r0 r1
  go_enter Try.func18, Try.ntmps18
  go_wp2_with fail
  go_region
  go_wp2_with fail
  cases hE : enough i 0 b r with
  | false =>
    rw [hE] at he0
    have hE0 := Lib.hid hE
    clear hE
    refine (he0 _).mono ?_
    rintro e w1 ⟨rfl, hb1⟩
    clear he0
    go_wp2
    go_ret
    refine ⟨0, rfl, by omega, by omega, fun _ => rfl, (fun h => by rw [hE0.out] at h; cases h), ?_⟩
    exact bt ((three_new w i b r).ready.bel) hb1
  | true =>
    rw [hE] at he0
    have hE0 := Lib.hid hE
    have HE := Lib.hid hE
    clear hE
    refine (he0 _).mono ?_
    rintro e w1 ⟨rfl, hb1⟩
    clear he0
    have HR : Hid (Ready w w1 w.heap.size (w.heap.size + 1 + 1 + 1) (w.heap.size + 1) (w.heap.size + 1 + 1) i 0 b r) :=
      Lib.hid (by have h := (three_new w i b r).ready.below hb1; simpa using h)
    go_wp2

    go_loopw [8] (fun s8 wr => ∃ lo hi : Int, s8 = .int .u64 hi ∧ 0 ≤ lo ∧ lo ≤ hi ∧ hi ≤ i ∧ Hid (enough i lo b r = true) ∧ Hid (enough i (hi + 1) b r = false) ∧ Hid (Ready w wr w.heap.size (w.heap.size + 1 + 1 + 1) (w.heap.size + 1) (w.heap.size + 1 + 1) i lo b r)) (fun s8 wr => (intOf s8 - intOf ((wr.cell? ⟨(w.heap.size + 1 + 1 + 1), 0, none⟩).getD undef)).toNat)
    case atStart => exact ⟨0, i, rfl, by omega, by omega, by omega, HE, Lib.hid (enough_above i (i + 1) b r b0 r0 (by omega) (by omega)), HR⟩
    case round =>
      clear HE HR
      obtain ⟨lo, hi, rfl, h0, h1, h2, H1, H2, HR⟩ := hrel
      obtain ⟨⟨c1, c2, c3, c4⟩, c5, _, _, _, _, _⟩ := HR.out
      by_cases hlt : hi - lo > 4611686018427387904
      · have hc := enough_any i (lo + (hi - lo) / 2) b r i0 i1 (by omega) (by omega) b0 b1 r0 r1 wr
        cases hp : enough i (lo + (hi - lo) / 2) b r with
        | true =>
          rw [hp] at hc
          have HP := Lib.hid hp; clear hp
          go_wp2_with fail
          refine hc.mono ?_
          rintro e w2 ⟨rfl, hb2⟩
          have HR2 := Lib.hid (HR.out.below hb2)
          clear hc HR hb2
          obtain ⟨⟨d1, d2, d3, d4⟩, d5, _, _, _, _, _⟩ := HR2.out
          go_wp2
          go_roundw
          case rel => exact ⟨lo + (hi - lo) / 2, hi, rfl, by omega, by omega, by omega, HP, H2, Lib.hid (HR2.out.set _)⟩
          case measure => rw [(HR2.out.set _).box.hl, c2]; simp [intOf]; omega
        | false =>
          rw [hp] at hc
          have HP := Lib.hid hp; clear hp
          go_wp2_with fail
          refine hc.mono ?_
          rintro e w2 ⟨rfl, hb2⟩
          have HR2 := Lib.hid (HR.out.below hb2)
          clear hc HR hb2
          obtain ⟨⟨d1, d2, d3, d4⟩, d5, _, _, _, _, _⟩ := HR2.out
          go_wp2
          go_roundw
          case rel => exact ⟨lo, lo + (hi - lo) / 2, rfl, by omega, by omega, by omega, H1, Lib.hid (by
              cases hq : enough i (lo + (hi - lo) / 2 + 1) b r with
              | false => rfl
              | true => rw [← HP.out, enough_mono i (lo + (hi - lo) / 2) (lo + (hi - lo) / 2 + 1) b r r0 (by omega) hq]), HR2⟩
          case measure => rw [d2, c2]; simp [intOf]; omega
      · have hs := search_any w.heap.size (w.heap.size + 1 + 1 + 1) (w.heap.size + 1) (w.heap.size + 1 + 1) i lo b r (hi - lo) i0 i1 h0 b0 b1 r0 r1 (by omega) (by omega) (by omega) wr HR.out.box
        have HH1 := Lib.hid H1.out
        go_wp2_with fail
        refine hs.mono ?_
        rintro e w2 ⟨k, rfl, k0, k1, k2, k3, hb2⟩
        have HR2 := Lib.hid (HR.out.below hb2)
        have K2 := Lib.hid k2
        have K3 := Lib.hid k3
        clear hs HR hb2 k2 k3
        obtain ⟨⟨d1, d2, d3, d4⟩, d5, _, _, _, _, _⟩ := HR2.out
        go_wp2
        go_ret
        refine ⟨lo + k, rfl, by omega, by omega, ?_, fun _ => ⟨?_, ?_⟩, HR2.out.bel⟩
        · intro hf; rw [hE0.out] at hf; cases hf
        · rcases K2.out with rfl | h
          · rw [Int.add_zero]; exact H1.out
          · exact h
        · rcases K3.out with rfl | h
          · rw [show lo + (hi - lo) + 1 = hi + 1 from by omega]; exact H2.out
          · exact h

set_option maxHeartbeats 2000000 in
theorem most_any2 (i b r : Int) (i0 : 0 ≤ i) (i1 : i < 18446744073709551616) (b0 : 0 ≤ b) (b1 : b < 18446744073709551616) (r0 : 0 ≤ r) (r1 : r < 18446744073709551616) (hmax : (i == 18446744073709551615) = true) (w : World) :
    Calls Try.prog 18 #[.int .u64 i, .int .u64 b, .int .u64 r] w (MPost i b r w) := by
  have he0 := enough_any i 0 b r i0 i1 (by omega) (by omega) b0 b1 r0 r1
  have hei := enough_any i i b r i0 i1 i0 i1 b0 b1 r0 r1
  cases hI : enough i i b r with
  | true =>
    rw [hI] at hei
    have hI0 := Lib.hid hI
    clear hI he0
    go_enter Try.func18, Try.ntmps18
    go_wp2_with fail
    refine (hei _).mono ?_
    rintro e w1 ⟨rfl, hb1⟩
    clear hei
    have t3 := (three_new w i b r).below hb1
    have t31 := t3.hi
    go_wp2
    go_ret
    refine ⟨i, rfl, by omega, by omega, fun h => ?_, fun _ => ⟨hI0.out, enough_above i (i + 1) b r b0 r0 (by omega) (by omega)⟩, t3.bel⟩
    rw [enough_mono i 0 i b r r0 i0 hI0.out] at h
    cases h
  | false =>
    rw [hI] at hei
    clear hI
    go_enter Try.func18, Try.ntmps18
    go_wp2_with fail
    refine (hei _).mono ?_
    rintro e wa ⟨rfl, hba⟩
    clear hei
    have t3 := (three_new w i b r).below hba
    have T3 := Lib.hid t3
    have t34 := cell_of_alloc (.cells #[.int .u64 0] 23) t3.hi
    have t35 := cell_of_alloc (.cells #[.int .u64 0] 23) t3.hb
    have t36 := cell_of_alloc (.cells #[.int .u64 0] 23) t3.hr
    have t37 := frozen_new wa #[.int .u64 0] 23
    obtain ⟨t31, t32, t33, _⟩ := t3
    have hba2 : w.heap.size + 1 + 1 + 1 ≤ wa.heap.size := by simpa using hba.size
    go_wp2_with fail
    go_region
    go_wp2_with fail
    clear t31 t32 t33 t34 t35 t36 t37
    cases hE : enough i 0 b r with
    | false =>
      rw [hE] at he0
      have hE0 := Lib.hid hE
      clear hE
      refine (he0 _).mono ?_
      rintro e w1 ⟨rfl, hb1⟩
      clear he0
      go_wp2
      go_ret
      refine ⟨0, rfl, by omega, by omega, fun _ => rfl, (fun h => by rw [hE0.out] at h; cases h), ?_⟩
      exact bt (T3.out.ready.bel) hb1
    | true =>
      rw [hE] at he0
      have hE0 := Lib.hid hE
      have HE := Lib.hid hE
      clear hE
      refine (he0 _).mono ?_
      rintro e w1 ⟨rfl, hb1⟩
      clear he0
      have HR : Hid (Ready w w1 w.heap.size wa.heap.size (w.heap.size + 1) (w.heap.size + 1 + 1) i 0 b r) := Lib.hid (T3.out.ready.below hb1)
      clear hba hb1
      go_wp2

      go_loopw [8] (fun s8 wr => ∃ lo hi : Int, s8 = .int .u64 hi ∧ 0 ≤ lo ∧ lo ≤ hi ∧ hi ≤ i ∧ Hid (enough i lo b r = true) ∧ Hid (enough i (hi + 1) b r = false) ∧ Hid (Ready w wr w.heap.size wa.heap.size (w.heap.size + 1) (w.heap.size + 1 + 1) i lo b r)) (fun s8 wr => (intOf s8 - intOf ((wr.cell? ⟨wa.heap.size, 0, none⟩).getD undef)).toNat)
      case atStart => exact ⟨0, i, rfl, by omega, by omega, by omega, HE, Lib.hid (enough_above i (i + 1) b r b0 r0 (by omega) (by omega)), HR⟩
      case round =>
        clear HE HR
        obtain ⟨lo, hi, rfl, h0, h1, h2, H1, H2, HR⟩ := hrel
        obtain ⟨⟨c1, c2, c3, c4⟩, c5, _, _, _, _, _⟩ := HR.out
        by_cases hlt : hi - lo > 4611686018427387904
        · have hc := enough_any i (lo + (hi - lo) / 2) b r i0 i1 (by omega) (by omega) b0 b1 r0 r1 wr
          cases hp : enough i (lo + (hi - lo) / 2) b r with
          | true =>
            rw [hp] at hc
            have HP := Lib.hid hp; clear hp
            go_wp2_with fail
            refine hc.mono ?_
            rintro e w2 ⟨rfl, hb2⟩
            have HR2 := Lib.hid (HR.out.below hb2)
            clear hc HR hb2
            obtain ⟨⟨d1, d2, d3, d4⟩, d5, _, _, _, _, _⟩ := HR2.out
            go_wp2
            go_roundw
            case rel => exact ⟨lo + (hi - lo) / 2, hi, rfl, by omega, by omega, by omega, HP, H2, Lib.hid (HR2.out.set _)⟩
            case measure => rw [(HR2.out.set _).box.hl, c2]; simp [intOf]; omega
          | false =>
            rw [hp] at hc
            have HP := Lib.hid hp; clear hp
            go_wp2_with fail
            refine hc.mono ?_
            rintro e w2 ⟨rfl, hb2⟩
            have HR2 := Lib.hid (HR.out.below hb2)
            clear hc HR hb2
            obtain ⟨⟨d1, d2, d3, d4⟩, d5, _, _, _, _, _⟩ := HR2.out
            go_wp2
            go_roundw
            case rel => exact ⟨lo, lo + (hi - lo) / 2, rfl, by omega, by omega, by omega, H1, Lib.hid (by
                cases hq : enough i (lo + (hi - lo) / 2 + 1) b r with
                | false => rfl
                | true => rw [← HP.out, enough_mono i (lo + (hi - lo) / 2) (lo + (hi - lo) / 2 + 1) b r r0 (by omega) hq]), HR2⟩
            case measure => rw [d2, c2]; simp [intOf]; omega
        · have hs := search_any w.heap.size wa.heap.size (w.heap.size + 1) (w.heap.size + 1 + 1) i lo b r (hi - lo) i0 i1 h0 b0 b1 r0 r1 (by omega) (by omega) (by omega) wr HR.out.box
          have HH1 := Lib.hid H1.out
          go_wp2_with fail
          refine hs.mono ?_
          rintro e w2 ⟨k, rfl, k0, k1, k2, k3, hb2⟩
          have HR2 := Lib.hid (HR.out.below hb2)
          have K2 := Lib.hid k2
          have K3 := Lib.hid k3
          clear hs HR hb2 k2 k3
          obtain ⟨⟨d1, d2, d3, d4⟩, d5, _, _, _, _, _⟩ := HR2.out
          go_wp2
          go_ret
          refine ⟨lo + k, rfl, by omega, by omega, ?_, fun _ => ⟨?_, ?_⟩, HR2.out.bel⟩
          · intro hf; rw [hE0.out] at hf; cases hf
          · rcases K2.out with rfl | h
            · rw [Int.add_zero]; exact H1.out
            · exact h
          · rcases K3.out with rfl | h
            · rw [show lo + (hi - lo) + 1 = hi + 1 from by omega]; exact H2.out
            · exact h
  
theorem most_any (i b r : Int) (i0 : 0 ≤ i) (i1 : i < 18446744073709551616) (b0 : 0 ≤ b) (b1 : b < 18446744073709551616) (r0 : 0 ≤ r) (r1 : r < 18446744073709551616) (w : World) :
    Calls Try.prog 18 #[.int .u64 i, .int .u64 b, .int .u64 r] w (MPost i b r w) := by
  cases h : (i == 18446744073709551615) with
  | false => exact most_any1 i b r i0 i1 b0 b1 r0 r1 h w
  | true => exact most_any2 i b r i0 i1 b0 b1 r0 r1 h w
end Go.Proofs.Ytglkognlhejdiaa
