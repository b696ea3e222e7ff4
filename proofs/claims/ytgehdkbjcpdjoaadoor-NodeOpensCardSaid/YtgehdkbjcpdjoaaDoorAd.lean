/- The walk of Relay.Add; no condition. -/
import Derived.Test.YtgehdkbjcpdjoaaDoorRe
namespace Go.Proofs.YtgehdkbjcpdjoaaDoor
open Go.RowKit
set_option linter.unusedVariables false
set_option linter.unusedSimpArgs false

def chs (l : List Peer) : List Int := l.map (·.s.ch)
/-- What Add answers. -/
def addE (l : List Peer) (s : Stp) : Int := if l.length = 8 then 2 else if s.ch ∈ chs l then 4 else if may s then 0 else 1
def TR : TypeId → Prop := fun t => t = 65 ∨ t = 76
instance (t : TypeId) : Decidable (TR t) := by unfold TR; infer_instance
def Added (rg B : Nat) (l : List Peer) (s : Stp) (w : World) (e : Ending) (w' : World) : Prop :=
  (addE l s ≠ 0 ∧ e = .returned (.tuple #[.int .i64 0, .int .i64 (addE l s)]) ∧ Below w.heap.size w w') ∨
  (addE l s = 0 ∧ e = .returned (.tuple #[.int .i64 (l.length : Int), .int .i64 0]) ∧ Keep B TR w w' ∧ ∃ p : Peer, p.s = s ∧ RelAt w' rg B (l ++ [p]))

theorem tup2 {n v E : Int} (h : E = v) : Ending.returned (.tuple #[.int .i64 n, .int .i64 v]) = .returned (.tuple #[.int .i64 n, .int .i64 E]) := by rw [h]

set_option maxRecDepth 100000 in
set_option maxHeartbeats 4000000 in
theorem add_any (rg B : Nat) (l : List Peer) (s : Stp) (hs : s.ok) (w : World) (h : RelAt w rg B l) (hB : B ≤ w.heap.size) :
    Calls Tryd.prog 12 #[.pointer (some ⟨rg, 0, none⟩), s.val] w (Added rg B l s w) := by
  have hx := Blk.new w _ 33 s.cells.toArray rfl
  have hb := (Below.refl w.heap.size w).alloc (Nat.le_refl _) (.cells s.cells.toArray 33)
  have HR := Lib.hid (h.quiet hb)
  have HS := Lib.hid hs
  have hf := h.few
  have HI : Hid ((Tryd.prog.info? 33).map (·.size) = some s.cells.toArray.size) := Lib.hid (by rw [info33]; simp [Stp.len hs.l])
  have HX := Lib.hid hx
  have HB := Lib.hid hb
  have HE := Lib.hid (show addE l s = if l.length = 8 then 2 else if s.ch ∈ chs l then 4 else if may s then 0 else 1 from rfl)
  unfold Stp.val
  clear h hs hx hb
  obtain ⟨ad, cap, m1, m2, m3, m4, m5, hblk, hown⟩ := HR.out.blk
  have r0 := hblk.cell 0
  have r6 := hblk.cell 6
  have hl := hblk.lt
  have HBK := Lib.hid hblk
  have HOW := Lib.hid hown
  simp at r0 r6
  clear hblk hown
  have hcl : (chs l).length = l.length := by simp [chs]
  have hcon := contains_any ad cap (chs l) s.ch w.heap.size (w.alloc (.cells s.cells.toArray 33)) (by rw [hcl]; exact hf) (HX.out.cell 0) (by
    intro i x hi
    simp only [chs, List.getElem?_map] at hi
    obtain ⟨p, hp, rfl⟩ := Option.map_eq_some_iff.1 hi
    obtain ⟨c0, c1⟩ := pCells_get l i p hp
    have hil := (List.getElem?_eq_some_iff.1 hp).1
    rcases HOW.out.2 with ⟨hv, hn⟩ | ⟨g, c', cur, hv, _⟩
    · omega
    · injection hv with e1 _ _
      subst e1
      have hcell := fun j u hu => HOW.out.cells (g := g) rfl j u hu
      have d0 := hcell _ _ c0
      have d1 := hcell _ _ c1
      rw [Addr.add_mid, Nat.zero_add] at d0 d1
      exact ⟨g, _, rfl, d0, d1⟩)
  rw [hcl] at hcon
  have HCON := Lib.hid hcon
  clear hcon hcl
  by_cases h8 : l.length = 8
  · have h8' : ((l.length : Int) == 8) = true := by simp [h8]
    have e := HE.out
    rw [if_pos h8] at e
    have HE2 := Lib.hid e
    clear e h8
    go_enter Tryd.func12, Tryd.ntmps12
    go_wp2_with fail
    go_ret2
    exact .inl ⟨by rw [HE2.out]; decide, tup2 HE2.out, HB.out⟩
  · have h8' : ((l.length : Int) == 8) = false := by simp; omega
    go_enter Tryd.func12, Tryd.ntmps12
    go_wp2_with fail
    refine HCON.out.mono ?_
    rintro e W1 ⟨rfl, hb1⟩
    have HB1 := Lib.hid (HB.out.trans (hb1.mono HB.out.size))
    have HR1 := Lib.hid (HR.out.quiet hb1)
    have HX1 := Lib.hid (HX.out.below hb1)
    have HBK1 := Lib.hid (HBK.out.below hb1)
    have HOW1 := Lib.hid (own_keep (T := fun _ => False) HOW.out (.of_below hb1 (Nat.le_refl _)) id)
    clear hb1 HCON r0 r6 hl HR HX HBK HOW HB
    by_cases hm : s.ch ∈ chs l
    · have ht : decide (s.ch ∈ chs l) = true := by simp [hm]
      have e := HE.out
      rw [if_neg h8, if_pos hm] at e
      have HE2 := Lib.hid e
      rw [ht]
      clear e hm ht
      go_wp2_with fail
      go_ret2
      exact .inl ⟨by rw [HE2.out]; decide, tup2 HE2.out, HB1.out⟩
    · have ht : decide (s.ch ∈ chs l) = false := by simp [hm]
      have hln := link_new s HS.out W1
      unfold Stp.val at hln
      have HLN := Lib.hid hln
      have e := HE.out
      rw [if_neg h8, if_neg hm] at e
      have HE2 := Lib.hid e
      rw [ht]
      clear e hm ht hln
      go_wp2_with (refine wpList_load_row (by rfl) 33 (.tmp 3) (by rfl) w.heap.size (by rfl) 33 s.cells.toArray (0, 0) _ HX1.out Tryd.underlying33 rfl HI.out ?_)
      refine HLN.out.mono ?_
      rintro e W2 ⟨hb2, h2⟩
      have HB2 := Lib.hid (HB1.out.trans (hb2.mono HB1.out.size))
      have HR2 := Lib.hid (HR1.out.quiet hb2)
      have HX2 := Lib.hid (HX1.out.below hb2)
      have HBK2 := Lib.hid (HBK1.out.below hb2)
      have HOW2 := Lib.hid (own_keep (T := fun _ => False) HOW1.out (.of_below hb2 (Nat.le_refl _)) id)
      clear hb2 HLN HR1 HX1 HBK1 HOW1 HB1
      rcases h2 with ⟨hm, k, c, L, rfl, hk1, hk2, hk3⟩ | ⟨hm, rfl⟩
      · have e := HE2.out
        rw [if_pos hm] at e
        have HE3 := Lib.hid e
        have HK := Lib.hid (And.intro hk1 (And.intro hk2 hk3))
        clear e hm hk1 hk2 hk3 HE2
        have x0 := HX2.out.cell 0
        rw [show s.cells.toArray[0]? = some (Value.int .u32 s.ch) from rfl] at x0
        have r0 := HBK2.out.cell 0
        simp at r0
        have f0 := HBK2.out.free 0
        have hl := HBK2.out.lt
        have hx := HX2.out.lt
        have h7 : l.length < 8 := by omega
        have HLK := Lib.hid HR2.out.links
        have hba := (Below.refl W2.heap.size W2).alloc (Nat.le_refl _) (.cells #[.pointer (some ⟨k, 0, none⟩), .int .u32 s.ch] 76)
        have hBB : B ≤ W2.heap.size := Nat.le_trans hB HB2.out.size
        have HKA := Lib.hid ((Keep.of_below (T := fun t => t = 76) hba hBB).drew)
        have HOWA : Hid ((W2.alloc (.cells #[.pointer (some ⟨k, 0, none⟩), .int .u32 s.ch] 76)).drew.ownsRow B 76 2 (.slice ad l.length cap) l.length (pCells l)) := Lib.hid (own_keep (T := fun _ => False) HOW2.out (Keep.of_below hba (Nat.le_refl _)).drew id)
        have HXA : Hid (Blk (W2.alloc (.cells #[.pointer (some ⟨k, 0, none⟩), .int .u32 s.ch] 76)).drew W2.heap.size 76 (pOne ⟨k, c, s⟩).toArray) := Lib.hid (Blk.new W2 _ 76 _ rfl).drew
        have HBB : Hid (B ≤ (W2.alloc (.cells #[.pointer (some ⟨k, 0, none⟩), .int .u32 s.ch] 76)).drew.heap.size) := Lib.hid (Nat.le_trans hBB hba.drew.size)
        clear hba
        go_wp2_with fail
        go_region_law (refine step_peer rfl _ _ rfl B ad cap l rfl ⟨k, c, s⟩ W2.heap.size 1 rfl h7 HOWA.out HXA.out HBB.out ?_; intro ad' c' W3 hown3 hg3; have hk3 := HKA.out.grown hg3 hBB (fun x e => ⟨(HOWA.out.lt x e).1, own_type HOWA.out e⟩); have hbk3 := hk3.k _ _ _ (by decide) HBK2.out; have HK3 := Lib.hid hk3; have HBK3 := Lib.hid hbk3; have HOW3 := Lib.hid hown3; have r3 := hbk3.cell 0; have g3 := hbk3.free 0; have hl3 := hbk3.lt; simp at r3; clear hg3 hk3 hbk3 hown3)
        all_goals
          have hfin := HK3.out.mono (T' := TR) (fun t e => .inr e)
          have hbk4 := HBK3.out.set 0 (.slice ad' (l.length + 1) c')
          have hk4 := hfin.setCell HBK3.out (i := 0) (.inl rfl) HR2.out.rg' (.slice ad' (l.length + 1) c')
          have how4 := own_keep (T := fun t => t = 65) HOW3.out ((Keep.of_below (T := fun t => t = 65) (Below.refl W3.heap.size W3) (B := B) (Nat.le_trans hBB HK3.out.b.size)).setCell HBK3.out (i := 0) rfl HR2.out.rg' (.slice ad' (l.length + 1) c')) (by decide)
          have HFIN := Lib.hid (And.intro hbk4 (And.intro hk4 how4))
          clear hfin hbk4 hk4 how4
          go_wp2
          go_ret2
          obtain ⟨hbk4, hk4, how4⟩ := HFIN.out
          have hk5 : Keep B TR w _ := (Keep.of_below (T := TR) HB2.out hB).trans hk4
          refine .inr ⟨HE3.out, by simp, hk5, ⟨k, c, s⟩, rfl, ⟨⟨ad', c', m1, m2, m3, m4, m5, by simpa using hbk4, by simpa using how4⟩, ?_, by simp; omega, HR2.out.rg'⟩⟩
          intro p hp
          rcases List.mem_append.1 hp with hp | hp
          · obtain ⟨L, a1, a2, a3⟩ := HLK.out p hp
            exact ⟨L, hk4.k _ _ _ (by decide) a1, a2, hk4.k _ _ _ (by decide) a3⟩
          · simp at hp
            subst hp
            exact ⟨L, hk4.k _ _ _ (by decide) HK.out.1, HK.out.2.1, hk4.k _ _ _ (by decide) HK.out.2.2⟩
      · have e := HE2.out
        rw [if_neg hm] at e
        have HE3 := Lib.hid e
        clear e hm HE2
        go_wp2_with fail
        go_ret2
        exact .inl ⟨by rw [HE3.out]; decide, tup2 HE3.out, HB2.out⟩
end Go.Proofs.YtgehdkbjcpdjoaaDoor
