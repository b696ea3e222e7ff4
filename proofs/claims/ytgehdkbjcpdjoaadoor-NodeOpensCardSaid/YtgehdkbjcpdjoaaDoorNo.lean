/- A node in memory, and the walk of Node.Open; no condition. -/
import Derived.Test.YtgehdkbjcpdjoaaDoorSu
namespace Go.Proofs.YtgehdkbjcpdjoaaDoor
open Go.RowKit
set_option linter.unusedVariables false
set_option linter.unusedSimpArgs false

def nOne (p : Peer) : List Value := [.int .u32 p.s.ch, .bool false, .bool false]
def nCells (l : List Peer) : List Value := l.flatMap nOne
theorem nCells_snoc (l : List Peer) (p : Peer) : nCells (l ++ [p]) = nCells l ++ nOne p := by simp [nCells]
theorem nCells_get : ∀ (l : List Peer) (i : Nat) (p : Peer), l[i]? = some p → (nCells l)[i * 3]? = some (.int .u32 p.s.ch) ∧ (nCells l)[i * 3 + 1]? = some (.bool false) ∧ (nCells l)[i * 3 + 2]? = some (.bool false)
  | [], i, p, h => by simp at h
  | q :: l, 0, p, h => by simp at h; subst h; exact ⟨rfl, rfl, rfl⟩
  | q :: l, i + 1, p, h => by
    have := nCells_get l i p (by simpa using h)
    rw [show (i + 1) * 3 = i * 3 + 1 + 1 + 1 from by omega]
    exact this

structure NodeAt (w : World) (g rg B : Nat) (funds : Int) (l : List Peer) : Prop where
  node : ∃ ad cap, Blk w g 40 #[.pointer (some ⟨rg, 0, none⟩), .int .u64 funds, .slice ad l.length cap, .bool false] ∧ w.ownsRow B 48 3 (.slice ad l.length cap) l.length (nCells l)
  rel : RelAt w rg B l
  g' : B ≤ g
theorem NodeAt.keep {w w' : World} {g rg B B' : Nat} {funds : Int} {l : List Peer} {T : TypeId → Prop} (h : NodeAt w g rg B funds l) (k : Keep B' T w w') (h0 : ¬ T 40) (h5 : ¬ T 48) (h1 : ¬ T 65) (h2 : ¬ T 76) (h3 : ¬ T 93) (h4 : ¬ T 104) : NodeAt w' g rg B funds l := by
  obtain ⟨⟨ad, cap, hb, ho⟩, hr, hg⟩ := h
  exact ⟨⟨ad, cap, k.k _ _ _ h0 hb, own_keep ho k h5⟩, hr.keep k h1 h2 h3 h4, hg⟩
theorem NodeAt.quiet {w w' : World} {g rg B : Nat} {funds : Int} {l : List Peer} (h : NodeAt w g rg B funds l) (k : Below w.heap.size w w') : NodeAt w' g rg B funds l :=
  h.keep (T := fun _ => False) (.of_below k (Nat.le_refl _)) id id id id id id

theorem info48 : ∃ i z, Tryd.prog.info? 48 = some i ∧ i.zero = some z ∧ i.size = 3 ∧ i.bytes = 8 ∧ z.cells.size = 3 := by
  have h : (Tryd.prog.info? 48).map (fun i => (i.zero, i.size, i.bytes)) = some (some (.agg #[.int .u32 0, .bool false, .bool false]), 3, 8) := by kernel_rfl
  obtain ⟨i, hi, hzz⟩ := Option.map_eq_some_iff.1 h
  simp only [Prod.mk.injEq] at hzz
  exact ⟨i, _, hi, hzz.1, hzz.2.1, hzz.2.2, rfl⟩

theorem step_npeer {ops : Array Oper} {o : Oper} {a : Act} {K : Act → World → Prop} {Q : Exit → Act → World → Prop} {E : Prop} {W : World} (hgd : o.guard = none) (s x : Operand)
    (ho : o.op = .call { callee := .builtin .append, args := #[s, x], argTypes := #[38, 38] }) (B : Nat) (ad : Option Addr) (cap : Nat) (l : List Peer) (hs : a.eval s = .slice ad l.length cap) (p : Peer)
    (gb m : Nat) (hx : a.eval x = .slice (some ⟨gb, 0, none⟩) 1 m) (hf : l.length < 8)
    (hown : W.ownsRow B 48 3 (.slice ad l.length cap) l.length (nCells l)) (hX : Blk W gb 48 (nOne p).toArray) (hB : B ≤ W.heap.size)
    (h : ∀ ad' c' w', w'.ownsRow B 48 3 (.slice ad' (l.length + 1) c') (l.length + 1) (nCells (l ++ [p])) → W.grownBy w' (Value.slice ad l.length cap).ownBlock → K (a.put o.dst (.slice ad' (l.length + 1) c')) w') :
    if Region.wanted o (yielded ops a.tmps) = true then Oper.wp Tryd.prog o a W K Q else E := by
  have hw : Region.wanted o (yielded ops a.tmps) = true := by simp [Region.wanted, hgd]
  rw [if_pos hw]
  obtain ⟨i0, z0, hi0, hz0, hz1, hz2, hz3⟩ := info48
  refine wp_append_own W s x 38 ho B 48 i0 z0 3 8 Tryd.underlying38 hi0 hz0 hz1 hz2 hz3 (by omega) _ l.length (nCells l) hs hown ⟨gb, 0, none⟩ 1 m (nOne p) hx rfl (fun j u hu => by
    rw [Addr.add_mid, Nat.zero_add, hX.cell]; simpa using hu) (by
    intro u hu
    simp [nOne] at hu
    rcases hu with rfl | rfl <;> rfl) (by unfold maxLen; omega) (by omega) hB ?_
  intro v' w' hown' hgrow _
  rw [← nCells_snoc] at hown'
  rcases hown'.2 with ⟨rfl, hn⟩ | ⟨g, c', cur, rfl, _⟩
  · omega
  · exact h _ _ w' hown' hgrow

/-- What Open answers. -/
def openE (funds : Int) (l : List Peer) (s : Stp) : Int := if s.ours > s.cap then 1 else if funds < s.ours then 61 else addE l s
def Opened (g rg B : Nat) (funds : Int) (l : List Peer) (s : Stp) (w : World) (e : Ending) (w' : World) : Prop :=
  (openE funds l s ≠ 0 ∧ e = .returned (.tuple #[.int .i64 0, .int .i64 (openE funds l s)]) ∧ NodeAt w' g rg B funds l ∧ Below B w w') ∨
  (openE funds l s = 0 ∧ e = .returned (.tuple #[.int .i64 (l.length : Int), .int .i64 0]) ∧ (∃ p : Peer, p.s = s ∧ NodeAt w' g rg B (funds - s.ours) (l ++ [p])) ∧ Below B w w')

theorem noPanic_mk {Q : Exit → Act → World → Prop} {a : Act} {w : World} (h : Q .normal a w) : NoPanic Q .normal a w := h

set_option maxRecDepth 100000 in
set_option maxHeartbeats 4000000 in
theorem open_any (g rg B : Nat) (funds : Int) (l : List Peer) (s : Stp) (hs : s.ok) (w : World) (h : NodeAt w g rg B funds l) (hB : B ≤ w.heap.size) (hf0 : 0 ≤ funds) (hf1 : funds < 18446744073709551616) :
    Calls Tryd.prog 6 #[.pointer (some ⟨g, 0, none⟩), s.val] w (Opened g rg B funds l s w) := by
  have hx := Blk.new w _ 33 s.cells.toArray rfl
  have hb := (Below.refl w.heap.size w).alloc (Nat.le_refl _) (.cells s.cells.toArray 33)
  have HN := Lib.hid (h.quiet hb)
  have HS := Lib.hid hs
  have hf := h.rel.few
  have HI : Hid ((Tryd.prog.info? 33).map (·.size) = some s.cells.toArray.size) := Lib.hid (by rw [info33]; simp [Stp.len hs.l])
  have HX := Lib.hid hx
  have HB := Lib.hid hb
  have HE := Lib.hid (show openE funds l s = if s.ours > s.cap then 1 else if funds < s.ours then 61 else addE l s from rfl)
  obtain ⟨q0, q1, p0, p1⟩ : 0 ≤ s.ours ∧ s.ours < 18446744073709551616 ∧ 0 ≤ s.cap ∧ s.cap < 18446744073709551616 := ⟨hs.o0, hs.o1, hs.p0, hs.p1⟩
  have x1 := hx.cell 1
  have x2 := hx.cell 2
  rw [show s.cells.toArray[1]? = some (Value.int .u64 s.cap) from rfl] at x1
  rw [show s.cells.toArray[2]? = some (Value.int .u64 s.ours) from rfl] at x2
  have hxl := hx.lt
  unfold Stp.val
  obtain ⟨ad, cap, hblk, hown⟩ := HN.out.node
  have r0 := hblk.cell 0
  have r1 := hblk.cell 1
  have r3 := hblk.cell 3
  have hl := hblk.lt
  have HBK := Lib.hid hblk
  have HOW := Lib.hid hown
  simp at r0 r1 r3
  clear h hs hx hb hblk hown
  by_cases h1 : s.ours > s.cap
  · have e := HE.out
    rw [if_pos h1] at e
    have HE2 := Lib.hid e
    clear e
    go_enter Tryd.func6, Tryd.ntmps6
    go_wp2_with fail
    go_ret2
    exact .inl ⟨by rw [HE2.out]; decide, tup2 HE2.out, HN.out, HB.out.mono hB⟩
  · have e := HE.out
    rw [if_neg h1] at e
    by_cases h2 : funds < s.ours
    · rw [if_pos h2] at e
      have HE2 := Lib.hid e
      have hsub := sub_no funds s.ours h2 hf0 hf1 q0 q1
      have HSUB := Lib.hid hsub
      clear e hsub
      go_enter Tryd.func6, Tryd.ntmps6
      go_wp2_with fail
      generalize w.alloc (.cells s.cells.toArray 33) = W at *
      have HS0 : W.drew.cell? ⟨g, 1, none⟩ = some (.int .u64 funds) ∧ W.drew.cell? ⟨w.heap.size, 2, none⟩ = some (.int .u64 s.ours) := ⟨r1, x2⟩
      go_region_held3 (fun W => W.cell? ⟨g, 1, none⟩ = some (.int .u64 funds) ∧ W.cell? ⟨w.heap.size, 2, none⟩ = some (.int .u64 s.ours)) (with_reducible assumption)
        (first | (go_at_call 11; refine (HSUB.out _).mono ?_; rintro e w' ⟨rfl, rfl⟩))
      go_wp2_with fail
      go_ret2
      exact .inl ⟨by rw [HE2.out]; decide, tup2 HE2.out, HN.out.quiet (Below.refl _ _).drew, (HB.out.mono hB).drew⟩
    · rw [if_neg h2] at e
      have HE2 := Lib.hid e
      have hsub := sub_ok funds s.ours (funds - s.ours) rfl (by omega) hf0 hf1 q0 q1
      have HSUB := Lib.hid hsub
      clear e hsub
      have d0 : 0 ≤ funds - s.ours := by omega
      have d1 : funds - s.ours < 18446744073709551616 := by omega
      go_enter Tryd.func6, Tryd.ntmps6
      go_wp2_with fail
      generalize w.alloc (.cells s.cells.toArray 33) = W at *
      have HS0 : W.drew.cell? ⟨g, 1, none⟩ = some (.int .u64 funds) ∧ W.drew.cell? ⟨w.heap.size, 2, none⟩ = some (.int .u64 s.ours) := ⟨r1, x2⟩
      go_region_held3 (fun W => W.cell? ⟨g, 1, none⟩ = some (.int .u64 funds) ∧ W.cell? ⟨w.heap.size, 2, none⟩ = some (.int .u64 s.ours)) (with_reducible assumption)
        (first | (go_at_call 11; refine (HSUB.out _).mono ?_; rintro e w' ⟨rfl, rfl⟩))
      clear HS0
      have HNV := Lib.hid (HN.out.quiet (Below.refl _ _).drew)
      have HXV := Lib.hid HX.out.drew
      have HBV := Lib.hid HB.out.drew
      clear r0 r1 r3 x1 x2 hxl hl HN HX HB HBK HOW
      generalize W.drew = V at *
      obtain ⟨ad, cap, hblk, hown⟩ := HNV.out.node
      have r0 := hblk.cell 0
      simp at r0
      have hl := hblk.lt
      have HBK := Lib.hid hblk
      have HOW := Lib.hid hown
      have HX := Lib.hid HXV.out
      have hBV : B ≤ V.heap.size := Nat.le_trans hB HBV.out.size
      have hadd := add_any rg B l s HS.out V.drew (HNV.out.rel.quiet (Below.refl _ _).drew) hBV
      have HS1 : V.drew.cell? ⟨g, 0, none⟩ = some (.pointer (some ⟨rg, 0, none⟩)) ∧ V.drew.rangeAt w.heap.size 0 s.cells := ⟨r0, by have := HX.out.range; simpa using this⟩
      have hu33 := Tryd.underlying33
      have hi33 : (Tryd.prog.info? 33).map (·.size) = some s.cells.length := by rw [info33, Stp.len HS.out.l]
      clear hblk hown HSUB
      go_wp2_with fail
      unfold Stp.val at hadd
      by_cases hz : addE l s = 0
      · have HADD : Hid (Calls Tryd.prog 12 #[.pointer (some ⟨rg, 0, none⟩), .agg s.cells.toArray] V.drew fun e w' => e = .returned (.tuple #[.int .i64 (l.length : Int), .int .i64 0]) ∧ Keep B TR V.drew w' ∧ ∃ p : Peer, p.s = s ∧ RelAt w' rg B (l ++ [p])) := Lib.hid (hadd.mono (fun e w' h => by
          rcases h with ⟨h, _⟩ | ⟨_, h1, h2, h3⟩
          · exact absurd hz h
          · exact ⟨h1, h2, h3⟩))
        have HZ := Lib.hid hz
        clear hadd hz
        refine wp_region_noPanic ?_
        refine wp_region_held_drew (S := (fun W => W.cell? ⟨g, 0, none⟩ = some (.pointer (some ⟨rg, 0, none⟩)) ∧ W.rangeAt w.heap.size 0 s.cells)) (by kernel_rfl) ?_ (fun hHeld => ?_)
        · with_reducible assumption
        refine wpAnyH_take (i := 0) (v := ?v0) rfl (by kernel_rfl) (by kernel_rfl) (by kernel_rfl) (fun _ _ _ h => False.elim h) (Or.inl ⟨by rfl, ?hy0⟩) (by assumption) ?r0
        case hy0 => (intro w hSw; (try dsimp only at hSw); go_simp; try with_reducible rfl)
        try simp only [List.getElem_toArray, List.getElem_cons_zero, List.getElem_cons_succ, Act.put, List.setIfInBounds_toArray, List.set_cons_zero, List.set_cons_succ]
        refine wpAnyH_take (i := 1) (v := ?v1) rfl (by kernel_rfl) (by kernel_rfl) (by kernel_rfl) (fun _ _ _ h => False.elim h) (Or.inl ⟨by rfl, ?hy1⟩) (by assumption) ?r1
        case hy1 => (intro w hSw; (try dsimp only at hSw); go_simp; try with_reducible rfl)
        try simp only [List.getElem_toArray, List.getElem_cons_zero, List.getElem_cons_succ, Act.put, List.setIfInBounds_toArray, List.set_cons_zero, List.set_cons_succ]
        refine wpAnyH_take (i := 2) (v := ?v2) rfl (by kernel_rfl) (by kernel_rfl) (by kernel_rfl) (fun _ _ _ h => False.elim h) (Or.inl ⟨by rfl, ?hy2⟩) (by assumption) ?r2
        case hy2 => (intro w hSw; (try dsimp only at hSw); go_simp; try with_reducible rfl)
        try simp only [List.getElem_toArray, List.getElem_cons_zero, List.getElem_cons_succ, Act.put, List.setIfInBounds_toArray, List.set_cons_zero, List.set_cons_succ]
        refine wpAnyH_take (i := 3) (v := ?v3) rfl (by kernel_rfl) (by kernel_rfl) (by kernel_rfl) (fun _ _ _ h => False.elim h) (Or.inl ⟨by rfl, ?hy3⟩) (by assumption) ?r3
        case hy3 => (intro w hSw; (try dsimp only at hSw); go_simp; try with_reducible rfl)
        try simp only [List.getElem_toArray, List.getElem_cons_zero, List.getElem_cons_succ, Act.put, List.setIfInBounds_toArray, List.set_cons_zero, List.set_cons_succ]
        refine' wpAnyH_take (i := 4) (v := _) rfl (by kernel_rfl) (by kernel_rfl) (by kernel_rfl) (fun _ _ _ h => False.elim h) (yieldsIf_load_mid ?hw4 _ _ ?ho4 _ _ ?hx4 _ _ ?hS4 ?hu4 ?hd4 ?hi4) (by assumption) ?r4
        case ho4 => rfl
        case hw4 => rfl
        case hx4 => rfl
        case hS4 => (intro w hSw; (try dsimp only at hSw); go_split_ands; assumption)
        case hu4 => assumption
        case hd4 => rfl
        case hi4 => assumption
        try simp only [List.getElem_toArray, List.getElem_cons_zero, List.getElem_cons_succ, Act.put, List.setIfInBounds_toArray, List.set_cons_zero, List.set_cons_succ]
        refine wpAnyH_ready (rs := [5]) (by kernel_rfl) (by simp) ?_
        refine AllReadyH.cons rfl (fun K hK => ?_) AllReadyH.nil
        (go_simp; go_at_call 12; refine (HADD.out).mono ?_; rintro e W2 ⟨rfl, hk2, hp2⟩; have HK2 := Lib.hid hk2; have HP2 := Lib.hid hp2; have HS2 : W2.cell? ⟨g, 0, none⟩ = some (.pointer (some ⟨rg, 0, none⟩)) ∧ W2.rangeAt w.heap.size 0 s.cells := ⟨((hk2.k _ _ _ (by decide) HBK.out.drew).cell 0).trans rfl, by have := (hk2.k _ _ _ (by decide) HX.out.drew).range; simpa using this⟩; clear hk2 hp2; go_wp2_with fail)
        refine hK.out _ _ ?_ (fun hHeld => ?_)
        · (try dsimp only); with_reducible assumption
        clear hK K
        try simp only [List.getElem_toArray, List.getElem_cons_zero, List.getElem_cons_succ, Act.put, List.setIfInBounds_toArray, List.set_cons_zero, List.set_cons_succ]
        refine wpAnyH_take (i := 6) (v := ?v6) rfl (by kernel_rfl) (by kernel_rfl) (by kernel_rfl) (fun _ _ _ h => False.elim h) (Or.inl ⟨by rfl, ?hy6⟩) (by assumption) ?r6
        case hy6 => (intro w hSw; (try dsimp only at hSw); go_simp; try with_reducible rfl)
        try simp only [List.getElem_toArray, List.getElem_cons_zero, List.getElem_cons_succ, Act.put, List.setIfInBounds_toArray, List.set_cons_zero, List.set_cons_succ]
        refine wpAnyH_take (i := 7) (v := ?v7) rfl (by kernel_rfl) (by kernel_rfl) (by kernel_rfl) (fun _ _ _ h => False.elim h) (Or.inl ⟨by rfl, ?hy7⟩) (by assumption) ?r7
        case hy7 => (intro w hSw; (try dsimp only at hSw); go_simp; try with_reducible rfl)
        try simp only [List.getElem_toArray, List.getElem_cons_zero, List.getElem_cons_succ, Act.put, List.setIfInBounds_toArray, List.set_cons_zero, List.set_cons_succ]
        refine wpAnyH_take (i := 8) (v := ?v8) rfl (by kernel_rfl) (by kernel_rfl) (by kernel_rfl) (fun _ _ _ h => False.elim h) (Or.inl ⟨by rfl, ?hy8⟩) (by assumption) ?r8
        case hy8 => (intro w hSw; (try dsimp only at hSw); go_simp; try with_reducible rfl)
        try simp only [List.getElem_toArray, List.getElem_cons_zero, List.getElem_cons_succ, Act.put, List.setIfInBounds_toArray, List.set_cons_zero, List.set_cons_succ]
        refine wpAnyH_take (i := 9) (v := ?v9) rfl (by kernel_rfl) (by kernel_rfl) (by kernel_rfl) (fun _ _ _ h => False.elim h) (Or.inl ⟨by rfl, ?hy9⟩) (by assumption) ?r9
        case hy9 => (intro w hSw; (try dsimp only at hSw); go_simp; try with_reducible rfl)
        try simp only [List.getElem_toArray, List.getElem_cons_zero, List.getElem_cons_succ, Act.put, List.setIfInBounds_toArray, List.set_cons_zero, List.set_cons_succ]
        refine wpAnyH_take (i := 10) (v := ?v10) rfl (by kernel_rfl) (by kernel_rfl) (by kernel_rfl) (fun _ _ _ h => False.elim h) (Or.inl ⟨by rfl, ?hy10⟩) (by assumption) ?r10
        case hy10 => (intro w hSw; (try dsimp only at hSw); go_simp; try with_reducible rfl)
        try simp only [List.getElem_toArray, List.getElem_cons_zero, List.getElem_cons_succ, Act.put, List.setIfInBounds_toArray, List.set_cons_zero, List.set_cons_succ]
        refine wpAnyH_done (by kernel_rfl) (noPanic_mk ?_) _
        clear HS1 HS2 hu33 hi33
        have hf7 : l.length < 8 := by
          have := HZ.out
          unfold addE at this
          by_cases h8 : l.length = 8
          · rw [if_pos h8] at this; exact absurd this (by decide)
          · omega
        have HBK2 := Lib.hid (HK2.out.k _ _ _ (by decide) HBK.out.drew)
        have HX2 := Lib.hid (HK2.out.k _ _ _ (by decide) HX.out.drew)
        have HOW2 := Lib.hid (own_keep (own_keep (T := fun _ => False) HOW.out (Keep.of_below (Below.refl V.heap.size V) (Nat.le_refl _)).drew id) HK2.out (by decide))
        have HBB2 := Lib.hid (HBV.out.drew.mono hB |>.trans HK2.out.b)
        have hgB := HNV.out.g'
        have c1 := HBK2.out.cell 1
        have f1 := fun i => HBK2.out.free i
        have hl2 := HBK2.out.lt
        simp at c1
        -- behind the store of what is left
        have HBK3 := Lib.hid (HBK2.out.set 1 (.int .u64 (funds - s.ours)))
        have hk3 : Keep B (fun t => t = 40) W2 (W2.setCell ⟨g, 1, none⟩ (.int .u64 (funds - s.ours))) := (Keep.of_below (T := fun t => t = 40) (Below.refl W2.heap.size W2) (B := B) (Nat.le_trans hB HBB2.out.size)).setCell HBK2.out (i := 1) rfl hgB _
        have HX3 := Lib.hid (hk3.k _ _ _ (by decide) HX2.out)
        have HOW3 := Lib.hid (own_keep HOW2.out hk3 (by decide))
        have HP3 : Hid (∃ p : Peer, p.s = s ∧ RelAt (W2.setCell ⟨g, 1, none⟩ (.int .u64 (funds - s.ours))) rg B (l ++ [p])) := Lib.hid (by obtain ⟨p, h1, h2⟩ := HP2.out; exact ⟨p, h1, h2.keep hk3 (by decide) (by decide) (by decide) (by decide)⟩)
        have HBB3 := Lib.hid (HBB2.out.trans hk3.b)
        have y0 := HX3.out.cell 0
        rw [show s.cells.toArray[0]? = some (Value.int .u32 s.ch) from rfl] at y0
        have n2 := HBK3.out.cell 2
        simp at n2
        have f3 := fun i => HBK3.out.free i
        have hl3 := HBK3.out.lt
        have hx3 := HX3.out.lt
        clear hk3 HBK HX HOW HK2 HP2 HBV HNV
        go_wp2_with fail
        clear c1 f1 hl2
        generalize W2.setCell ⟨g, 1, none⟩ (.int .u64 (funds - s.ours)) = W3 at *
        have hBB : B ≤ W3.heap.size := Nat.le_trans hB HBB3.out.size
        have hba := (Below.refl W3.heap.size W3).alloc (Nat.le_refl _) (.cells #[.int .u32 s.ch, .bool false, .bool false] 48)
        have HKA := Lib.hid ((Keep.of_below (T := fun t => t = 48) hba hBB).drew)
        have HOWA : Hid ((W3.alloc (.cells #[.int .u32 s.ch, .bool false, .bool false] 48)).drew.ownsRow B 48 3 (.slice ad l.length cap) l.length (nCells l)) := Lib.hid (own_keep (T := fun _ => False) HOW3.out (Keep.of_below hba (Nat.le_refl _)).drew id)
        have HXA : Hid (∀ p : Peer, p.s = s → Blk (W3.alloc (.cells #[.int .u32 s.ch, .bool false, .bool false] 48)).drew W3.heap.size 48 (nOne p).toArray) := Lib.hid (fun p hp => by subst hp; exact (Blk.new W3 _ 48 _ rfl).drew)
        have HBBA : Hid (B ≤ (W3.alloc (.cells #[.int .u32 s.ch, .bool false, .bool false] 48)).drew.heap.size) := Lib.hid (Nat.le_trans hBB hba.drew.size)
        clear hba
        obtain ⟨p, hps, hrel⟩ := HP3.out
        have HREL := Lib.hid hrel
        have HPS := Lib.hid hps
        clear hrel hps
        go_region_law (refine step_npeer rfl _ _ rfl B ad cap l rfl p W3.heap.size 1 rfl hf7 HOWA.out (HXA.out p HPS.out) HBBA.out ?_; intro ad' c' W4 hown4 hg4; have hk4 := HKA.out.grown hg4 hBB (fun x e => ⟨(HOWA.out.lt x e).1, own_type HOWA.out e⟩); have hbk4 := hk4.k _ _ _ (by decide) HBK3.out; have HK4 := Lib.hid hk4; have HBK4 := Lib.hid hbk4; have HOW4 := Lib.hid hown4; have r4 := hbk4.cell 2; have g4 := hbk4.free 2; have hl4 := hbk4.lt; simp at r4; clear hg4 hk4 hbk4 hown4)
        all_goals
          have hk5 := (HK4.out.mono (T' := fun t => t = 40 ∨ t = 48) (fun t e => .inr e)).setCell HBK4.out (i := 2) (.inl rfl) hgB (.slice ad' (l.length + 1) c')
          have hbk5 := HBK4.out.set 2 (.slice ad' (l.length + 1) c')
          have how5 := own_keep (T := fun t => t = 40) HOW4.out ((Keep.of_below (T := fun t => t = 40) (Below.refl W4.heap.size W4) (B := B) (Nat.le_trans hBB HK4.out.b.size)).setCell HBK4.out (i := 2) rfl hgB (.slice ad' (l.length + 1) c')) (by decide)
          have HFIN := Lib.hid (And.intro hbk5 (And.intro hk5 how5))
          clear hk5 hbk5 how5
          go_wp2
          go_ret2
          obtain ⟨hbk5, hk5, how5⟩ := HFIN.out
          refine .inr ⟨by rw [HE2.out]; exact HZ.out, rfl, ⟨p, HPS.out, ⟨⟨ad', c', by simpa using hbk5, by simpa using how5⟩, HREL.out.keep hk5 (by decide) (by decide) (by decide) (by decide), hgB⟩⟩, HBB3.out.trans hk5.b⟩
      · have HADD : Hid (Calls Tryd.prog 12 #[.pointer (some ⟨rg, 0, none⟩), .agg s.cells.toArray] V.drew fun e w' => e = .returned (.tuple #[.int .i64 0, .int .i64 (addE l s)]) ∧ Below V.drew.heap.size V.drew w') := Lib.hid (hadd.mono (fun e w' h => by
          rcases h with ⟨_, h1, h2⟩ | ⟨h, _⟩
          · exact ⟨h1, h2⟩
          · exact absurd h hz))
        have hz' : (addE l s != 0) = true := by simp [hz]
        have HZ := Lib.hid hz
        clear hadd hz
        refine wp_region_noPanic ?_
        refine wp_region_held_drew (S := (fun W => W.cell? ⟨g, 0, none⟩ = some (.pointer (some ⟨rg, 0, none⟩)) ∧ W.rangeAt w.heap.size 0 s.cells)) (by kernel_rfl) ?_ (fun hHeld => ?_)
        · with_reducible assumption
        refine wpAnyH_take (i := 0) (v := ?v10x) rfl (by kernel_rfl) (by kernel_rfl) (by kernel_rfl) (fun _ _ _ h => False.elim h) (Or.inl ⟨by rfl, ?hy10x⟩) (by assumption) ?r10x
        case hy10x => (intro w hSw; (try dsimp only at hSw); go_simp; try with_reducible rfl)
        try simp only [List.getElem_toArray, List.getElem_cons_zero, List.getElem_cons_succ, Act.put, List.setIfInBounds_toArray, List.set_cons_zero, List.set_cons_succ]
        refine wpAnyH_take (i := 1) (v := ?v11x) rfl (by kernel_rfl) (by kernel_rfl) (by kernel_rfl) (fun _ _ _ h => False.elim h) (Or.inl ⟨by rfl, ?hy11x⟩) (by assumption) ?r11x
        case hy11x => (intro w hSw; (try dsimp only at hSw); go_simp; try with_reducible rfl)
        try simp only [List.getElem_toArray, List.getElem_cons_zero, List.getElem_cons_succ, Act.put, List.setIfInBounds_toArray, List.set_cons_zero, List.set_cons_succ]
        refine wpAnyH_take (i := 2) (v := ?v12x) rfl (by kernel_rfl) (by kernel_rfl) (by kernel_rfl) (fun _ _ _ h => False.elim h) (Or.inl ⟨by rfl, ?hy12x⟩) (by assumption) ?r12x
        case hy12x => (intro w hSw; (try dsimp only at hSw); go_simp; try with_reducible rfl)
        try simp only [List.getElem_toArray, List.getElem_cons_zero, List.getElem_cons_succ, Act.put, List.setIfInBounds_toArray, List.set_cons_zero, List.set_cons_succ]
        refine wpAnyH_take (i := 3) (v := ?v13x) rfl (by kernel_rfl) (by kernel_rfl) (by kernel_rfl) (fun _ _ _ h => False.elim h) (Or.inl ⟨by rfl, ?hy13x⟩) (by assumption) ?r13x
        case hy13x => (intro w hSw; (try dsimp only at hSw); go_simp; try with_reducible rfl)
        try simp only [List.getElem_toArray, List.getElem_cons_zero, List.getElem_cons_succ, Act.put, List.setIfInBounds_toArray, List.set_cons_zero, List.set_cons_succ]
        refine' wpAnyH_take (i := 4) (v := _) rfl (by kernel_rfl) (by kernel_rfl) (by kernel_rfl) (fun _ _ _ h => False.elim h) (yieldsIf_load_mid ?hw14x _ _ ?ho14x _ _ ?hx14x _ _ ?hS14x ?hu14x ?hd14x ?hi14x) (by assumption) ?r14x
        case ho14x => rfl
        case hw14x => rfl
        case hx14x => rfl
        case hS14x => (intro w hSw; (try dsimp only at hSw); go_split_ands; assumption)
        case hu14x => assumption
        case hd14x => rfl
        case hi14x => assumption
        try simp only [List.getElem_toArray, List.getElem_cons_zero, List.getElem_cons_succ, Act.put, List.setIfInBounds_toArray, List.set_cons_zero, List.set_cons_succ]
        refine wpAnyH_ready (rs := [5]) (by kernel_rfl) (by simp) ?_
        refine AllReadyH.cons rfl (fun K hK => ?_) AllReadyH.nil
        (go_simp; go_at_call 12; refine (HADD.out).mono ?_; rintro e W2 ⟨rfl, hb2⟩; have HB2 := Lib.hid hb2; have HS2 : W2.cell? ⟨g, 0, none⟩ = some (.pointer (some ⟨rg, 0, none⟩)) ∧ W2.rangeAt w.heap.size 0 s.cells := ⟨((HBK.out.drew.below hb2).cell 0).trans rfl, by have := (HX.out.drew.below hb2).range; simpa using this⟩; clear hb2; go_wp2_with fail)
        refine hK.out _ _ ?_ (fun hHeld => ?_)
        · (try dsimp only); with_reducible assumption
        clear hK K
        try simp only [List.getElem_toArray, List.getElem_cons_zero, List.getElem_cons_succ, Act.put, List.setIfInBounds_toArray, List.set_cons_zero, List.set_cons_succ]
        refine wpAnyH_take (i := 6) (v := ?v16x) rfl (by kernel_rfl) (by kernel_rfl) (by kernel_rfl) (fun _ _ _ h => False.elim h) (Or.inl ⟨by rfl, ?hy16x⟩) (by assumption) ?r16x
        case hy16x => (intro w hSw; (try dsimp only at hSw); go_simp; try with_reducible rfl)
        try simp only [List.getElem_toArray, List.getElem_cons_zero, List.getElem_cons_succ, Act.put, List.setIfInBounds_toArray, List.set_cons_zero, List.set_cons_succ]
        refine wpAnyH_take (i := 7) (v := ?v17x) rfl (by kernel_rfl) (by kernel_rfl) (by kernel_rfl) (fun _ _ _ h => False.elim h) (Or.inl ⟨by rfl, ?hy17x⟩) (by assumption) ?r17x
        case hy17x => (intro w hSw; (try dsimp only at hSw); go_simp; try with_reducible rfl)
        try simp only [List.getElem_toArray, List.getElem_cons_zero, List.getElem_cons_succ, Act.put, List.setIfInBounds_toArray, List.set_cons_zero, List.set_cons_succ]
        refine wpAnyH_take (i := 8) (v := ?v18x) rfl (by kernel_rfl) (by kernel_rfl) (by kernel_rfl) (fun _ _ _ h => False.elim h) (Or.inl ⟨by rfl, ?hy18x⟩) (by assumption) ?r18x
        case hy18x => (intro w hSw; (try dsimp only at hSw); go_simp; try with_reducible rfl)
        try simp only [List.getElem_toArray, List.getElem_cons_zero, List.getElem_cons_succ, Act.put, List.setIfInBounds_toArray, List.set_cons_zero, List.set_cons_succ]
        refine wpAnyH_take (i := 9) (v := ?v19x) rfl (by kernel_rfl) (by kernel_rfl) (by kernel_rfl) (fun _ _ _ h => False.elim h) (Or.inl ⟨by rfl, ?hy19x⟩) (by assumption) ?r19x
        case hy19x => (intro w hSw; (try dsimp only at hSw); go_simp; try with_reducible rfl)
        try simp only [List.getElem_toArray, List.getElem_cons_zero, List.getElem_cons_succ, Act.put, List.setIfInBounds_toArray, List.set_cons_zero, List.set_cons_succ]
        refine wpAnyH_take (i := 10) (v := ?v110x) rfl (by kernel_rfl) (by kernel_rfl) (by kernel_rfl) (fun _ _ _ h => False.elim h) (Or.inl ⟨by rfl, ?hy110x⟩) (by assumption) ?r110x
        case hy110x => (intro w hSw; (try dsimp only at hSw); go_simp; try with_reducible rfl)
        try simp only [List.getElem_toArray, List.getElem_cons_zero, List.getElem_cons_succ, Act.put, List.setIfInBounds_toArray, List.set_cons_zero, List.set_cons_succ]
        refine wpAnyH_done (by kernel_rfl) (noPanic_mk ?_) _
        clear HS1 HS2 hu33 hi33
        go_wp2_with fail
        go_ret2
        exact .inl ⟨by rw [HE2.out]; exact HZ.out, tup2 HE2.out, HNV.out.quiet ((Below.refl _ _).drew.trans HB2.out), (HBV.out.drew.trans (HB2.out.mono HBV.out.size)).mono hB⟩
end Go.Proofs.YtgehdkbjcpdjoaaDoor
