/- The walks of sum, Total, Funds and New; no condition. -/
import Derived.Test.YtgehdkbjcpdjoaaDoorNo
namespace Go.Proofs.YtgehdkbjcpdjoaaDoor
open Go.RowKit
set_option linter.unusedVariables false
set_option linter.unusedSimpArgs false

set_option maxRecDepth 100000 in
set_option maxHeartbeats 2000000 in
theorem sum_two (b c : Nat) (x y : Int) (w : World) (hx : 0 ≤ x) (hy : 0 ≤ y) (hxy : x + y < 18446744073709551616) (h : Blk w b 22 #[.int .u64 x, .int .u64 y]) :
    Calls Tryd.prog 13 #[.slice (some ⟨b, 0, none⟩) 2 c] w fun e w' => e = .returned (.int .u64 (x + y)) ∧ Below w.heap.size w w' := by
  have c0 := h.cell 0
  have c1 := h.cell 1
  simp at c0 c1
  have hl := h.lt
  clear h
  go_enter Tryd.func13, Tryd.ntmps13
  go_wp2
  refine wp_loop_rounds 3 ?_
  rw [rounds_succ]
  go_wp2
  rw [rounds_succ]
  go_wp2
  rw [rounds_succ]
  go_wp2
  go_ret
  exact ⟨rfl, Below.refl _ _⟩

theorem funds_any (g rg B : Nat) (funds : Int) (l : List Peer) (w : World) (h : NodeAt w g rg B funds l) :
    Calls Tryd.prog 8 #[.pointer (some ⟨g, 0, none⟩)] w fun e w' => e = .returned (.int .u64 funds) ∧ w' = w := by
  obtain ⟨ad, cap, hb, _⟩ := h.node
  have c1 := hb.cell 1
  have hl := hb.lt
  simp at c1
  clear hb h
  go_enter Tryd.func8, Tryd.ntmps8
  go_wp2
  go_ret
  exact ⟨rfl, rfl⟩

/-- What the first region of Total keeps. -/
theorem tot_has {g rg B : Nat} {funds : Int} {l : List Peer} (hf : Fine l) (W : World) (h : W.cell? ⟨g, 0, none⟩ = some (.pointer (some ⟨rg, 0, none⟩)) ∧ W.cell? ⟨g, 1, none⟩ = some (.int .u64 funds) ∧ Hid (NodeAt W g rg B funds l)) :
    Calls Tryd.prog 14 #[.pointer (some ⟨rg, 0, none⟩)] W fun e w' => e = .returned (.int .u64 (hasOf l)) ∧ (w'.cell? ⟨g, 0, none⟩ = some (.pointer (some ⟨rg, 0, none⟩)) ∧ w'.cell? ⟨g, 1, none⟩ = some (.int .u64 funds) ∧ Hid (NodeAt w' g rg B funds l)) ∧ Below W.heap.size W w' :=
  (has_any rg B l hf W h.2.2.out.rel).mono fun e w' ⟨h1, h2⟩ => ⟨h1, ⟨Bcell h2 h.1, Bcell h2 h.2.1, Lib.hid (h.2.2.out.quiet h2)⟩, h2⟩
theorem tot_new {g rg B : Nat} {funds : Int} {l : List Peer} {W : World} (o : Obj) (h : W.cell? ⟨g, 0, none⟩ = some (.pointer (some ⟨rg, 0, none⟩)) ∧ W.cell? ⟨g, 1, none⟩ = some (.int .u64 funds) ∧ Hid (NodeAt W g rg B funds l)) :
    (W.alloc o).cell? ⟨g, 0, none⟩ = some (.pointer (some ⟨rg, 0, none⟩)) ∧ (W.alloc o).cell? ⟨g, 1, none⟩ = some (.int .u64 funds) ∧ Hid (NodeAt (W.alloc o) g rg B funds l) :=
  have h2 := (Below.refl W.heap.size W).alloc (Nat.le_refl _) o
  ⟨Bcell h2 h.1, Bcell h2 h.2.1, Lib.hid (h.2.2.out.quiet h2)⟩
theorem tot_below {g rg B : Nat} {funds : Int} {l : List Peer} {W W' : World} (h2 : Below W.heap.size W W') (h : W.cell? ⟨g, 0, none⟩ = some (.pointer (some ⟨rg, 0, none⟩)) ∧ W.cell? ⟨g, 1, none⟩ = some (.int .u64 funds) ∧ Hid (NodeAt W g rg B funds l)) :
    W'.cell? ⟨g, 0, none⟩ = some (.pointer (some ⟨rg, 0, none⟩)) ∧ W'.cell? ⟨g, 1, none⟩ = some (.int .u64 funds) ∧ Hid (NodeAt W' g rg B funds l) :=
  ⟨Bcell h2 h.1, Bcell h2 h.2.1, Lib.hid (h.2.2.out.quiet h2)⟩

theorem NodeAt.npeer {w : World} {B : Nat} {l : List Peer} {ad : Option Addr} {cap : Nat} (ho : w.ownsRow B 48 3 (.slice ad l.length cap) l.length (nCells l)) (i : Nat) (p : Peer) (hi : l[i]? = some p) :
    ∃ g, ad = some ⟨g, 0, none⟩ ∧ w.cell? ⟨g, i * 3, none⟩ = some (.int .u32 p.s.ch) ∧ w.cell? ⟨g, i * 3 + 1, none⟩ = some (.bool false) ∧ w.cell? ⟨g, i * 3 + 2, none⟩ = some (.bool false) := by
  obtain ⟨c0, c1, c2⟩ := nCells_get l i p hi
  have hil := (List.getElem?_eq_some_iff.1 hi).1
  rcases ho.2 with ⟨hv, hn⟩ | ⟨g, c', cur, hv, _⟩
  · omega
  · injection hv with e1 _ _
    subst e1
    have hcell := fun j u hu => ho.cells (g := g) rfl j u hu
    have d0 := hcell _ _ c0
    have d1 := hcell _ _ c1
    have d2 := hcell _ _ c2
    rw [Addr.add_mid, Nat.zero_add] at d0 d1 d2
    exact ⟨g, rfl, d0, d1, d2⟩

set_option maxRecDepth 100000 in
set_option maxHeartbeats 4000000 in
theorem total_any (g rg B : Nat) (funds : Int) (l : List Peer) (hf : Fine l) (w : World) (h : NodeAt w g rg B funds l) (f0 : 0 ≤ funds) (f1 : funds ≤ 1125899906842624) :
    Calls Tryd.prog 7 #[.pointer (some ⟨g, 0, none⟩)] w fun e w' => e = .returned (.int .u64 (funds + hasOf l)) ∧ Below w.heap.size w w' := by
  have hle := hasOf_le l hf
  have h8 := h.rel.few
  obtain ⟨a0, a1⟩ := hle
  have a2 : hasOf l ≤ 9007199254740992 := by omega
  have HF := Lib.hid hf
  obtain ⟨ad, cap, hb, ho⟩ := h.node
  have HO := Lib.hid ho
  have r0 := hb.cell 0
  have r1 := hb.cell 1
  have r2 := hb.cell 2
  simp at r0 r1 r2
  have HS0 : w.drew.cell? ⟨g, 0, none⟩ = some (.pointer (some ⟨rg, 0, none⟩)) ∧ w.drew.cell? ⟨g, 1, none⟩ = some (.int .u64 funds) ∧ Hid (NodeAt w.drew g rg B funds l) := ⟨r0, r1, Lib.hid (h.quiet (Below.refl _ _).drew)⟩
  have HR2 := Lib.hid r2
  clear h hf hb ho r0 r1 r2 a1
  generalize hA : hasOf l = A at *
  have HA := Lib.hid hA
  clear hA
  go_enter Tryd.func7, Tryd.ntmps7
  go_wp2_with fail
  go_region_held3 (fun W => W.cell? ⟨g, 0, none⟩ = some (.pointer (some ⟨rg, 0, none⟩)) ∧ W.cell? ⟨g, 1, none⟩ = some (.int .u64 funds) ∧ Hid (NodeAt W g rg B funds l))
    (first | with_reducible assumption | exact tot_new _ (by assumption))
    (first | (go_at_call 14; have hh := ‹_ ∧ _ ∧ Hid (NodeAt _ g rg B funds l)›; refine (tot_has HF.out _ hh).mono ?_; rw [HA.out]; rintro e W1 ⟨rfl, hS1, hb1⟩; have HB1 := Lib.hid hb1; clear hb1) | (go_at_call 13; have hh := ‹_ ∧ _ ∧ Hid (NodeAt _ g rg B funds l)›; refine (sum_two _ _ funds A _ f0 a0 (by omega) (Blk.new _ _ 22 _ rfl)).mono ?_; rintro e W2 ⟨rfl, hb2⟩; have hS2 := tot_below hb2 hh; have HB2 := Lib.hid hb2; clear hb2))
  have hbA : Below w.heap.size w W2 := ((Below.refl w.heap.size w).drew.trans ((HB1.out.trans (((Below.refl W1.heap.size W1).alloc (Nat.le_refl _) (.cells #[.int .u64 funds, .int .u64 A] 22)).mono HB1.out.size)))).trans (HB2.out.mono (by have := HB1.out.size; simp; exact Nat.le_trans this (Nat.le_succ _)))
  have HBA := Lib.hid hbA
  have HOW := Lib.hid (own_keep (T := fun _ => False) HO.out (.of_below hbA (Nat.le_refl _)) id)
  have r2 := Bcell hbA HR2.out
  have hl2 := World.block_lt_of_cell? _ _ r2
  clear hbA HS0 hS2 HB1 HB2 HO HR2
  go_wp2
  go_loopw [3, 22] (fun s3 s22 wr => ∃ i : Nat, Value.int .u64 (funds + A) = s3 ∧ Value.int .i64 i = s22 ∧ i ≤ l.length ∧ Hid (Below W2.heap.size W2 wr)) (fun _ s22 _ => l.length - (intOf s22).toNat)
  case atStart => exact ⟨0, rfl, rfl, by omega, Lib.hid (Below.refl _ _)⟩
  case round =>
    obtain ⟨i, hs3, hs, hi, HB⟩ := hrel
    subst hs3 hs
    by_cases hlt : i < l.length
    · have hi0 : (0 : Int) ≤ (i : Int) := by omega
      have hi1 : (i : Int) < (l.length : Int) := by omega
      have hp : l[i]? = some l[i] := List.getElem?_eq_getElem hlt
      generalize l[i] = p at *
      obtain ⟨q, rfl, c0, c1, c2⟩ := NodeAt.npeer HOW.out i p hp
      have c0 := (HB.out.cell (World.block_lt_of_cell? _ _ c0)).trans c0
      have c1 := (HB.out.cell (World.block_lt_of_cell? _ _ c1)).trans c1
      have c2 := (HB.out.cell (World.block_lt_of_cell? _ _ c2)).trans c2
      have hql := World.block_lt_of_cell? _ _ c0
      clear hp
      go_wp2
      go_roundw
      case rel => exact ⟨i + 1, rfl, by go_num, by omega, Lib.hid (HB.out.alloc HB.out.size _)⟩
      case measure => simp [intOf]; omega
    · obtain rfl : i = l.length := by omega
      go_wp2
      go_ret
      exact ⟨rfl, HBA.out.trans (HB.out.mono HBA.out.size)⟩
end Go.Proofs.YtgehdkbjcpdjoaaDoor
