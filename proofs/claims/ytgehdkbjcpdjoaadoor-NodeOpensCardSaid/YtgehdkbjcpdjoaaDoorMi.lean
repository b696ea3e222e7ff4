/- The walks of Channel, Base, Live, Has, sum; no condition. -/
import Derived.Test.YtgehdkbjcpdjoaaDoorAd
namespace Go.Proofs.YtgehdkbjcpdjoaaDoor
open Go.RowKit
set_option linter.unusedVariables false
set_option linter.unusedSimpArgs false

theorem link_channel (k c : Nat) (L : Array Value) (w : World) (h : Blk w k 93 L) (hL : L[3]? = some (.pointer (some ⟨c, 0, none⟩))) :
    Calls Tryd.prog 16 #[.pointer (some ⟨k, 0, none⟩)] w fun e w' => e = .returned (.pointer (some ⟨c, 0, none⟩)) ∧ w' = w := by
  have h3 := (h.cell 3).trans hL
  have hl := h.lt
  clear h hL
  go_enter Tryd.func16, Tryd.ntmps16
  go_wp2
  go_ret
  exact ⟨rfl, rfl⟩

theorem chan_cells (s : Stp) (a b : Int) (hs : s.seed.length = 32) : (newChan s a b).toArray[40]? = some (.int .u64 a) ∧ (newChan s a b).toArray[41]? = some (.int .u64 b) ∧ (newChan s a b).toArray[42]? = some (.slice none 0 0) := by
  have hl := Stp.len hs
  obtain ⟨rest, hr⟩ : ∃ rest, chanTail = .slice none 0 0 :: rest := ⟨chanTail.tail, rfl⟩
  unfold newChan
  rw [hr]
  generalize s.cells = A at *
  refine ⟨?_, ?_, ?_⟩
  all_goals
    rw [List.getElem?_toArray, List.getElem?_append_right (by omega), hl]
    rfl

theorem field51a (x y : Int) (W : World) : (Instr.field 51 (.agg #[.int .u64 x, .int .u64 y]) 0).run Tryd.prog W = .ok (.int .u64 x) W := by kernel_rfl
theorem field51b (x y : Int) (W : World) : (Instr.field 51 (.agg #[.int .u64 x, .int .u64 y]) 1).run Tryd.prog W = .ok (.int .u64 y) W := by kernel_rfl

set_option maxRecDepth 100000 in
theorem chan_base (c : Nat) (s : Stp) (a b : Int) (hs : s.seed.length = 32) (w : World) (h : Blk w c 104 (newChan s a b).toArray) :
    Calls Tryd.prog 17 #[.pointer (some ⟨c, 0, none⟩)] w fun e w' => e = .returned (.agg #[.int .u64 a, .int .u64 b]) ∧ Below w.heap.size w w' := by
  obtain ⟨e0, e1, e2⟩ := chan_cells s a b hs
  have h0 := (h.cell 40).trans e0
  have h1 := (h.cell 41).trans e1
  have hl := h.lt
  clear h e0 e1 e2 hs
  go_enter Tryd.func17, Tryd.ntmps17
  go_wp2
  refine bodyPost_ret (v := .agg #[.int .u64 a, .int .u64 b]) (by simp [results, Tryd.results17, go_sem]) rfl ⟨rfl, ?_⟩
  exact (Below.refl _ _).alloc (Nat.le_refl _) _

theorem run_eql_slice_none {P : Program} (w : World) (t e : TypeId) (a : Option Addr) (n c n' c' : Nat) (h : P.underlying t = some (.slice e)) :
    (binOp .eql t (.slice a n c) (.slice none n' c')).run P w = .ok (.bool a.isNone) w := by
  simp only [binOp]
  simp [Op.equal, Op.maxDepth, Lib.run_equalIn_slice_nil w 9999 t e a n c n' c' h]

set_option maxRecDepth 100000 in
theorem clone_nil (w : World) : Calls Tryd.prog 25 #[.slice none 0 0] w fun e w' => e = .returned (.slice none 0 0) ∧ w' = w := by
  have hq := fun W => run_eql_slice_none (P := Tryd.prog) W 66 _ none 0 0 0 0 Tryd.underlying66
  go_enter Tryd.func25, Tryd.ntmps25
  go_wp2
  go_ret
  exact ⟨rfl, rfl⟩

set_option maxRecDepth 100000 in
theorem chan_live (c : Nat) (s : Stp) (a b : Int) (hs : s.seed.length = 32) (w : World) (h : Blk w c 104 (newChan s a b).toArray) :
    Calls Tryd.prog 19 #[.pointer (some ⟨c, 0, none⟩)] w fun e w' => e = .returned (.slice none 0 0) ∧ w' = w := by
  obtain ⟨e0, e1, e2⟩ := chan_cells s a b hs
  have h2 := (h.cell 42).trans e2
  have hl := h.lt
  clear h e0 e1 e2 hs
  go_enter Tryd.func19, Tryd.ntmps19
  go_wp2_with fail
  refine (clone_nil w).mono ?_
  rintro e w' ⟨rfl, rfl⟩
  go_wp2
  go_ret
  exact ⟨rfl, rfl⟩

def hasOf (l : List Peer) : Int := (l.map (·.s.ours)).sum
theorem hasOf_take (l : List Peer) (i : Nat) (p : Peer) (h : l[i]? = some p) : hasOf (l.take (i + 1)) = hasOf (l.take i) + p.s.ours := by
  have hi := (List.getElem?_eq_some_iff.1 h).1
  rw [List.take_succ_eq_append_getElem hi, (List.getElem?_eq_some_iff.1 h).2]
  simp [hasOf]
/-- Peers of a relay whose channels may be. -/
def Fine (l : List Peer) : Prop := ∀ p ∈ l, p.s.ok ∧ may p.s
theorem hasOf_le (l : List Peer) (h : Fine l) : 0 ≤ hasOf l ∧ hasOf l ≤ (l.length : Int) * 1125899906842624 := by
  induction l with
  | nil => simp [hasOf]
  | cons p l ih =>
    have h1 := ih (fun q hq => h q (List.mem_cons_of_mem _ hq))
    obtain ⟨h2, h3⟩ := h p (List.mem_cons_self)
    have := h2.o0
    obtain ⟨_, h4, h5⟩ := h3
    simp only [hasOf, List.map_cons, List.sum_cons, List.length_cons] at *
    omega

/-- What the peers' row holds. -/
theorem RelAt.peer {w : World} {rg B : Nat} {l : List Peer} (h : RelAt w rg B l) {ad : Option Addr} {cap : Nat} (ho : w.ownsRow B 76 2 (.slice ad l.length cap) l.length (pCells l)) (i : Nat) (p : Peer) (hi : l[i]? = some p) :
    ∃ g, ad = some ⟨g, 0, none⟩ ∧ w.cell? ⟨g, i * 2, none⟩ = some (.pointer (some ⟨p.k, 0, none⟩)) ∧ w.cell? ⟨g, i * 2 + 1, none⟩ = some (.int .u32 p.s.ch) := by
  obtain ⟨c0, c1⟩ := pCells_get l i p hi
  have hil := (List.getElem?_eq_some_iff.1 hi).1
  rcases ho.2 with ⟨hv, hn⟩ | ⟨g, c', cur, hv, _⟩
  · omega
  · injection hv with e1 _ _
    subst e1
    have hcell := fun j u hu => ho.cells (g := g) rfl j u hu
    have d0 := hcell _ _ c0
    have d1 := hcell _ _ c1
    rw [Addr.add_mid, Nat.zero_add] at d0 d1
    exact ⟨g, rfl, d0, d1⟩

set_option maxRecDepth 100000 in
set_option maxHeartbeats 4000000 in
theorem has_any (rg B : Nat) (l : List Peer) (hf : Fine l) (w : World) (h : RelAt w rg B l) :
    Calls Tryd.prog 14 #[.pointer (some ⟨rg, 0, none⟩)] w fun e w' => e = .returned (.int .u64 (hasOf l)) ∧ Below w.heap.size w w' := by
  have HF := Lib.hid hf
  have H := Lib.hid h
  have h8 := h.few
  obtain ⟨ad, cap, m1, m2, m3, m4, m5, hblk, hown⟩ := h.blk
  have r0 := hblk.cell 0
  have hl := hblk.lt
  simp at r0
  have HO := Lib.hid hown
  clear h hf hblk hown
  have hfd := field51a
  go_enter Tryd.func14, Tryd.ntmps14
  go_wp2
  go_loopw [2, 12] (fun s2 s12 wr => ∃ i : Nat, Value.int .u64 (hasOf (l.take i)) = s2 ∧ Value.int .i64 i = s12 ∧ i ≤ l.length ∧ Hid (Below w.heap.size w wr)) (fun _ s12 _ => l.length - (intOf s12).toNat)
  case atStart => exact ⟨0, by simp [hasOf], rfl, by omega, Lib.hid (Below.refl _ _)⟩
  case round =>
    obtain ⟨i, hs2, hs12, hi, HB⟩ := hrel
    subst hs2 hs12
    by_cases hlt : i < l.length
    · have hi0 : (0 : Int) ≤ (i : Int) := by omega
      have hi1 : (i : Int) < (l.length : Int) := by omega
      have hp : l[i]? = some l[i] := List.getElem?_eq_getElem hlt
      generalize l[i] = p at *
      have HT := Lib.hid (hasOf_take l i p hp)
      obtain ⟨hok, hmay⟩ := HF.out p (List.mem_of_getElem? hp)
      obtain ⟨L, b1, b2, b3⟩ := H.out.links p (List.mem_of_getElem? hp)
      obtain ⟨g, rfl, c0, c1⟩ := H.out.peer HO.out i p hp
      have hle := hasOf_le (l.take i) (fun q hq => HF.out q (List.mem_of_mem_take hq))
      have hlen : (l.take i).length = i := by simp; omega
      rw [hlen] at hle
      obtain ⟨hle0, hle1⟩ := hle
      have ho0 := hok.o0
      have ho1 : p.s.ours ≤ 1125899906842624 := by have := hmay.2.1; have := hmay.2.2; omega
      have hle2 : hasOf (l.take i) ≤ 9007199254740992 := by omega
      generalize hA : hasOf (l.take i) = A at *
      have c0 := (HB.out.cell (World.block_lt_of_cell? _ _ c0)).trans c0
      have c1 := (HB.out.cell (World.block_lt_of_cell? _ _ c1)).trans c1
      have hgl := World.block_lt_of_cell? _ _ c0
      have HB1 := Lib.hid (b1.below (HB.out.mono (Nat.le_refl _)))
      have HB3 := Lib.hid (b3.below (HB.out.mono (Nat.le_refl _)))
      have HL3 := Lib.hid b2
      have hsl := Lib.hid hok.l
      clear hp hok hmay b1 b2 b3 hA hlen
      go_wp2_with fail
      have hba := (Below.refl wr.heap.size wr).alloc (Nat.le_refl _) (.cells #[.pointer (some ⟨p.k, 0, none⟩), .int .u32 p.s.ch] 76)
      have hx := Blk.new wr _ 76 #[.pointer (some ⟨p.k, 0, none⟩), .int .u32 p.s.ch] rfl
      have HB1 := Lib.hid (HB1.out.below hba)
      have HB3 := Lib.hid (HB3.out.below hba)
      have HBB := Lib.hid (HB.out.trans (hba.mono HB.out.size))
      clear hba c0 c1 hgl
      generalize wr.alloc (.cells #[.pointer (some ⟨p.k, 0, none⟩), .int .u32 p.s.ch] 76) = W at *
      refine (link_channel p.k p.c L W HB1.out HL3.out).mono ?_
      rintro e w' ⟨rfl, rfl⟩
      go_wp2_with fail
      refine (chan_base p.c p.s _ _ hsl.out _ HB3.out).mono ?_
      rintro e W2 ⟨rfl, hb2⟩
      have x0 := (hx.below hb2).cell 0
      simp at x0
      have hxl := (hx.below hb2).lt
      have HB1 := Lib.hid (HB1.out.below hb2)
      have HB3 := Lib.hid (HB3.out.below hb2)
      have HBB := Lib.hid (HBB.out.trans (hb2.mono HBB.out.size))
      clear hb2 hx
      go_wp2_with fail
      refine (link_channel p.k p.c L W2 HB1.out HL3.out).mono ?_
      rintro e w' ⟨rfl, rfl⟩
      go_wp2_with fail
      refine (chan_live p.c p.s _ _ hsl.out _ HB3.out).mono ?_
      rintro e w' ⟨rfl, rfl⟩
      go_wp2
      refine wp_loop_rounds 1 ?_
      rw [rounds_succ]
      go_wp2
      go_roundw
      case rel => exact ⟨i + 1, by rw [HT.out], by go_num, by omega, HBB⟩
      case measure => simp [intOf]; omega
    · obtain rfl : i = l.length := by omega
      rw [List.take_length]
      go_wp2
      go_ret
      exact ⟨rfl, HB.out⟩
end Go.Proofs.YtgehdkbjcpdjoaaDoor
