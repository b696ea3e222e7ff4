/- The walks of peer, Link, and of List with one peer; no condition. -/
import Derived.Test.YtgehdkbjcpdjoaaDoorNw
import Derived.Deep.AppendLies
namespace Go.Proofs.YtgehdkbjcpdjoaaDoor
open Go.RowKit
set_option linter.unusedVariables false
set_option linter.unusedSimpArgs false

set_option maxRecDepth 100000 in
set_option maxHeartbeats 1000000 in
theorem peer_at (rg B : Nat) (l : List Peer) (i : Nat) (p : Peer) (hp : l[i]? = some p) (w : World) (h : RelAt w rg B l) :
    Calls Tryd.prog 24 #[.pointer (some ⟨rg, 0, none⟩), .int .i64 (i : Int)] w fun e w' => e = .returned (.tuple #[.agg #[.pointer (some ⟨p.k, 0, none⟩), .int .u32 p.s.ch], .bool true]) ∧ Below w.heap.size w w' := by
  have h8 := h.few
  have hil := (List.getElem?_eq_some_iff.1 hp).1
  have hi0 : (0 : Int) ≤ (i : Int) := by omega
  have hi1 : (i : Int) < (l.length : Int) := by omega
  obtain ⟨ad, cap, m1, m2, m3, m4, m5, hblk, hown⟩ := h.blk
  obtain ⟨g, rfl, c0, c1⟩ := h.peer hown i p hp
  have r0 := hblk.cell 0
  have hl := hblk.lt
  have hg := World.block_lt_of_cell? _ _ c0
  simp at r0
  clear h hblk hown hp
  go_enter Tryd.func24, Tryd.ntmps24
  go_wp2
  refine bodyPost_ret (v := .tuple #[.agg #[.pointer (some ⟨p.k, 0, none⟩), .int .u32 p.s.ch], .bool true]) (by simp [results, Tryd.results24, go_sem]) rfl ⟨rfl, ?_⟩
  exact (Below.refl _ _).alloc (Nat.le_refl _) _

set_option maxRecDepth 100000 in
theorem link_at (rg B : Nat) (l : List Peer) (i : Nat) (p : Peer) (hp : l[i]? = some p) (w : World) (h : RelAt w rg B l) :
    Calls Tryd.prog 15 #[.pointer (some ⟨rg, 0, none⟩), .int .i64 (i : Int)] w fun e w' => e = .returned (.pointer (some ⟨p.k, 0, none⟩)) ∧ Below w.heap.size w w' := by
  have hc := peer_at rg B l i p hp w h
  clear h hp
  go_enter Tryd.func15, Tryd.ntmps15
  go_wp2_with fail
  refine hc.mono ?_
  rintro e W ⟨rfl, hb⟩
  clear hc
  go_wp2
  go_ret
  exact ⟨rfl, hb.alloc hb.size _⟩

theorem info44 : ∃ i z, Tryd.prog.info? 44 = some i ∧ i.zero = some z ∧ i.size = 5 ∧ i.bytes = 40 ∧ z.cells.size = 5 := by
  have h : (Tryd.prog.info? 44).map (fun i => (i.zero, i.size, i.bytes)) = some (some (.agg #[.int .u32 0, .int .u64 0, .int .u64 0, .int .u64 0, .bool false]), 5, 40) := by kernel_rfl
  obtain ⟨i, hi, hzz⟩ := Option.map_eq_some_iff.1 h
  simp only [Prod.mk.injEq] at hzz
  exact ⟨i, _, hi, hzz.1, hzz.2.1, hzz.2.2, rfl⟩

/-- A row of a list. -/
def rowOf (p : Peer) : List Value := [.int .u32 p.s.ch, .int .u64 p.s.ours, .int .u64 (p.s.cap - p.s.ours), .int .u64 0, .bool false]

theorem rowOf_ones (p : Peer) : ∀ u ∈ rowOf p, u.oneCell' = true := by
  intro u hu
  simp [rowOf] at hu
  rcases hu with rfl | rfl | rfl | rfl | rfl <;> rfl

set_option maxRecDepth 100000 in
set_option maxHeartbeats 4000000 in
theorem list_one (g rg B : Nat) (funds : Int) (p : Peer) (hok : p.s.ok) (w : World) (h : NodeAt w g rg B funds [p]) (hB : B ≤ w.heap.size) :
    Calls Tryd.prog 10 #[.pointer (some ⟨g, 0, none⟩)] w fun e w' => ∃ b c, e = .returned (.slice (some ⟨b, 0, none⟩) 1 c) ∧ 1 ≤ c ∧ (∀ i v, (rowOf p)[i]? = some v → w'.cell? ⟨b, i, none⟩ = some v) ∧ Below w.heap.size w w' := by
  have HN := Lib.hid h
  obtain ⟨ad, cap, hblk, hown⟩ := h.node
  obtain ⟨q, rfl, c0, c1, c2⟩ := NodeAt.npeer hown 0 p rfl
  simp only [Nat.zero_mul, Nat.zero_add] at c0 c1 c2
  have r0 := hblk.cell 0
  have r2 := hblk.cell 2
  have hl := hblk.lt
  have hql := World.block_lt_of_cell? _ _ c0
  simp at r0 r2
  obtain ⟨L, hL, hL3, hC⟩ := h.rel.links p (by simp)
  have HL := Lib.hid hL
  have HC := Lib.hid hC
  have HS := Lib.hid hok.l
  have HO := Lib.hid hblk
  have hfa := field51a
  have hfb := field51b
  clear h hblk hown hok hL hC
  go_enter Tryd.func10, Tryd.ntmps10
  go_wp2_with fail
  refine wp_loop_rounds 2 ?_
  rw [rounds_succ]
  go_wp2_with fail
  have hbb := ((Below.refl w.heap.size w).alloc (Nat.le_refl _) (.cells #[.int .u32 p.s.ch, .bool false, .bool false] 48)).alloc (by simp) (.cells #[.int .u32 p.s.ch, .int .u64 0, .int .u64 0, .int .u64 0, .bool false] 44)
  have hR := Blk.new (w.alloc (.cells #[.int .u32 p.s.ch, .bool false, .bool false] 48)) (w.heap.size + 1) 44 #[.int .u32 p.s.ch, .int .u64 0, .int .u64 0, .int .u64 0, .bool false] (by simp)
  have HRV := Lib.hid hR
  have HBB := Lib.hid hbb
  have hlk := link_at rg B [p] 0 p rfl _ (HN.out.rel.quiet hbb)
  have HLV := Lib.hid (HL.out.below hbb)
  have HCV := Lib.hid (HC.out.below hbb)
  have HNV := Lib.hid (HN.out.quiet hbb)
  clear hbb hR c0 c1 c2 hql
  generalize (w.alloc (.cells #[.int .u32 p.s.ch, .bool false, .bool false] 48)).alloc (.cells #[.int .u32 p.s.ch, .int .u64 0, .int .u64 0, .int .u64 0, .bool false] 44) = V at *
  refine hlk.mono ?_
  rintro e V1 ⟨rfl, hb1⟩
  have HLV := Lib.hid (HLV.out.below hb1)
  have HCV := Lib.hid (HCV.out.below hb1)
  have HRV := Lib.hid (HRV.out.below hb1)
  have HB1 := Lib.hid (HBB.out.trans (hb1.mono HBB.out.size))
  clear hb1 hlk
  go_wp2_with fail
  refine (link_channel p.k p.c L V1 HLV.out hL3).mono ?_
  rintro e w' ⟨rfl, rfl⟩
  go_wp2_with fail
  refine (chan_base p.c p.s _ _ HS.out _ HCV.out).mono ?_
  rintro e V2 ⟨rfl, hb2⟩
  have HCV := Lib.hid (HCV.out.below hb2)
  have HRV := Lib.hid (HRV.out.below hb2)
  have HB2 := Lib.hid (HB1.out.trans (hb2.mono HB1.out.size))
  clear hb2
  go_wp2_with fail
  refine (chan_base p.c p.s _ _ HS.out _ HCV.out).mono ?_
  rintro e V3 ⟨rfl, hb3⟩
  have HCV := Lib.hid (HCV.out.below hb3)
  have HRV := Lib.hid (HRV.out.below hb3)
  have HB3 := Lib.hid (HB2.out.trans (hb3.mono HB2.out.size))
  have x1 := HRV.out.cell 1
  have x2 := HRV.out.cell 2
  simp at x1 x2
  have fx := fun i => HRV.out.free i
  have lx := HRV.out.lt
  clear hb3
  have HR4 := Lib.hid ((HRV.out.set 1 (.int .u64 p.s.ours)).set 2 (.int .u64 (p.s.cap - p.s.ours)))
  have HC4 : Hid (Blk ((V3.setCell ⟨w.heap.size + 1, 1, none⟩ (.int .u64 p.s.ours)).setCell ⟨w.heap.size + 1, 2, none⟩ (.int .u64 (p.s.cap - p.s.ours))) p.c 104 (newChan p.s p.s.ours (p.s.cap - p.s.ours)).toArray) :=
    Lib.hid ((HCV.out.setCell (p := ⟨w.heap.size + 1, 1, none⟩) (HCV.out.ne HRV.out (by decide)) _).setCell (p := ⟨w.heap.size + 1, 2, none⟩) (HCV.out.ne HRV.out (by decide)) _)
  have HB4 : Hid (Below w.heap.size w ((V3.setCell ⟨w.heap.size + 1, 1, none⟩ (.int .u64 p.s.ours)).setCell ⟨w.heap.size + 1, 2, none⟩ (.int .u64 (p.s.cap - p.s.ours)))) := Lib.hid ((HB3.out.setCell (p := ⟨w.heap.size + 1, 1, none⟩) (Nat.le_succ _) _).setCell (p := ⟨w.heap.size + 1, 2, none⟩) (Nat.le_succ _) _)
  go_wp2_with fail
  clear x1 x2 fx lx
  generalize (V3.setCell ⟨w.heap.size + 1, 1, none⟩ (.int .u64 p.s.ours)).setCell ⟨w.heap.size + 1, 2, none⟩ (.int .u64 (p.s.cap - p.s.ours)) = V4 at *
  refine (chan_live p.c p.s _ _ HS.out _ HC4.out).mono ?_
  rintro e w' ⟨rfl, rfl⟩
  go_wp2_with fail
  refine wp_loop_rounds 1 ?_
  rw [rounds_succ]
  have y0 := HR4.out.cell 0
  have y1 := HR4.out.cell 1
  have y2 := HR4.out.cell 2
  have y3 := HR4.out.cell 3
  have y4 := HR4.out.cell 4
  simp at y0 y1 y2 y3 y4
  have ly := HR4.out.lt
  obtain ⟨i0, z0, hi0, hz0, hz1, hz2, hz3⟩ := info44
  have HBA := Lib.hid (HB4.out.alloc HB4.out.size (.cells (rowOf p).toArray 44))
  have hbs := HB4.out.size
  go_wp2_with (at_builtin; refine wpList_append_own _ (by rfl) _ _ 41 (by rfl) w.heap.size 44 i0 z0 5 40 Tryd.underlying41 hi0 hz0 hz1 hz2 hz3 (by omega) (.slice none 0 0) 0 [] (by rfl) (World.ownsRow_nil _ _ _ _) ⟨w'.heap.size, 0, none⟩ 1 1 (rowOf p) (by rfl) (by rfl) (World.news_of_block (cs := (rowOf p).toArray) (t := 44) (fr := (0, 0)) (heap_alloc_new w' _)) (rowOf_ones p) (by unfold maxLen; omega) (by omega) (by simp; omega) ?_; intro v5 V5 hown5 hgrow5 hn5; have HOW5 := Lib.hid hown5; have HG5 := Lib.hid hgrow5; have HN5 := Lib.hid hn5; clear hown5 hgrow5 hn5)
  obtain ⟨_, h5⟩ := HOW5.out
  rcases h5 with ⟨rfl, h5⟩ | ⟨b, c, cur, rfl, hge, hb5, hc5, hc6, hc7, htk⟩
  · omega
  · have HB5 : Hid (Below w.heap.size w V5) := Lib.hid (HBA.out.grown HG5.out HBA.out.size (fun k e => by cases e))
    have HCELL : Hid (∀ (i : Nat) (v : Value), (rowOf p)[i]? = some v → V5.cell? ⟨b, i, none⟩ = some v) := Lib.hid (fun i v hv => by
      have := HOW5.out.cells (g := b) rfl i v hv
      rwa [Addr.add_mid, Nat.zero_add] at this)
    have HC1 : Hid (1 ≤ c) := Lib.hid hc5
    clear hge hb5 hc5 hc6 hc7 htk y0 y1 y2 y3 y4 ly
    rw [rounds_succ]
    go_wp2
    go_ret
    exact ⟨b, c, rfl, HC1.out, HCELL.out, HB5.out⟩
end Go.Proofs.YtgehdkbjcpdjoaaDoor
