/- The walks of the reference's New and Same, and of its; no condition. -/
import Derived.Test.YtilnbgkepijfbaaPn
namespace Go.Proofs.Ytilnbgkepijfbaa
open Go.RowKit
set_option linter.unusedVariables false
set_option linter.unusedSimpArgs false

theorem wpList_make_ref (w : World) {ops : Array Oper} {rest : List Oper} {o : Oper} {a : Act} {Q : Exit → Act → World → Prop}
    (hg : o.guard = none) (l c : Operand) (hop : o.op = Op.makeSlice 45 l c) (n : Nat) (hl : a.eval l = .int .i64 (n : Int)) (hc : a.eval c = .int .i64 (n : Int)) (hn : n ≤ 64)
    (hK : wpList Try.prog ops Q rest (a.put o.dst (.slice (some ⟨w.heap.size, 0, none⟩) n n)) (w.alloc (.cells (madeCells #[.slice none 0 0, .bool false] (n * 2)) 62))) :
    wpList Try.prog ops Q (o :: rest) a w := by
  refine wpList_plain hg fun K hK' => ?_
  have h : (Try.prog.info? 62).map (fun i => (i.zero, i.size, i.bytes)) = some (some (.agg #[.slice none 0 0, .bool false]), 2, 32) := by kernel_rfl
  obtain ⟨i, hi, hzz⟩ := Option.map_eq_some_iff.1 h
  simp only [Prod.mk.injEq] at hzz
  obtain ⟨hz, hs, hb⟩ := hzz
  have hrun := run_make (P := Try.prog) w 45 62 i _ rfl hi hz .i64 .i64 n n (by omega) (Int.le_refl _) (by rw [hb]; omega) (by omega)
  rw [hs] at hrun
  simp only [Int.toNat_natCast] at hrun
  unfold Oper.wp
  simp [execOp, hop, hl, hc, hrun, Result.andThen]
  exact hK' _ _ hK

theorem rnew_bad (n : Int) (w : World) (h : n < 1 ∨ 64 < n) : Calls Try.prog 15 #[.int .i64 n] w fun e w' => e = .returned (.tuple #[.slice none 0 0, .bool false]) ∧ Below w.heap.size w w' := by
  by_cases h0 : n < 1
  · go_enter Try.func15, Try.ntmps15
    go_wp2
    go_ret2
    exact ⟨rfl, Below.refl _ _⟩
  · have h1 : 64 < n := by omega
    go_enter Try.func15, Try.ntmps15
    go_wp2
    go_ret2
    exact ⟨rfl, Below.refl _ _⟩

theorem slips_nil (w : World) : Slips w none 0 0 [] := ⟨rfl, Nat.le_refl _, Nat.zero_le _, fun i x hi => by simp at hi⟩
theorem note_nil (w : World) (rb : Nat → Prop) : Note w rb none 0 0 [] := ⟨slips_nil w, (fun x h => by cases h), (fun x h => by cases h)⟩

set_option maxHeartbeats 1000000 in
theorem rnew_any (rb : Nat → Prop) (n : Nat) (w : World) (h1 : 1 ≤ n) (h2 : n ≤ 64) (hrb : ∀ x, rb x → x < w.heap.size) : Calls Try.prog 15 #[.int .i64 (n : Int)] w fun e w' =>
    ∃ r, e = .returned (.tuple #[.slice (some ⟨r, 0, none⟩) n n, .bool true]) ∧ Below w.heap.size w w' ∧ RefAt w' rb r n (List.replicate n ⟨[], false⟩) := by
  have h3 : ¬ (n : Int) < 1 := by omega
  have h4 : ¬ 64 < (n : Int) := by omega
  go_enter Try.func15, Try.ntmps15
  go_wp2_with (refine wpList_make_ref _ rfl _ _ rfl n rfl rfl h2 ?_)
  go_ret2
  have hb := Blk.new w _ 62 (madeCells #[.slice none 0 0, .bool false] (n * 2)) rfl
  have hm : ∀ k, k < n → (madeCells #[.slice none 0 0, .bool false] (n * 2))[k * 2]? = some (.slice none 0 0) ∧ (madeCells #[.slice none 0 0, .bool false] (n * 2))[k * 2 + 1]? = some (.bool false) := by
    intro k hk
    have e1 : k * 2 < n * 2 := by omega
    have e2 : k * 2 + 1 < n * 2 := by omega
    have e3 : (k * 2) % 2 = 0 := by omega
    have e4 : (k * 2 + 1) % 2 = 1 := by omega
    simp [madeCells, e1, e2, e4]
  refine ⟨w.heap.size, rfl, (Below.refl _ _).alloc (Nat.le_refl _) _, ⟨by simp, by unfold maxLen; omega, fun e => by have := hrb _ e; omega, by simp, by simpa using h2, ?_, ?_⟩⟩
  · intro k b hk
    have hkn : k < n := by have := (List.getElem?_eq_some_iff.1 hk).1; simpa using this
    have : (List.replicate n (⟨[], false⟩ : Bx))[k]? = some ⟨[], false⟩ := by simp [hkn]
    rw [this] at hk; injection hk with hk; subst hk
    simp
  · intro k b hk
    have hkn : k < n := by have := (List.getElem?_eq_some_iff.1 hk).1; simpa using this
    have : (List.replicate n (⟨[], false⟩ : Bx))[k]? = some ⟨[], false⟩ := by simp [hkn]
    rw [this] at hk; injection hk with hk; subst hk
    exact ⟨none, 0, (hb.cell _).trans (hm k hkn).1, (hb.cell _).trans (hm k hkn).2, note_nil _ _⟩

/-! ### Same -/
set_option maxHeartbeats 1000000 in
theorem same_any (ad ad' : Option Addr) (cap cap' : Nat) (l : List Letter) (w : World) (h : Slips w ad l.length cap l) (h' : Slips w ad' l.length cap' l) (h8 : l.length ≤ 8) :
    Calls Try.prog 19 #[.slice ad l.length cap, .slice ad' l.length cap'] w fun e w' => e = .returned (.bool true) ∧ Below w.heap.size w w' := by
  have H := Lib.hid h
  have H' := Lib.hid h'
  have r1 := h.room
  have r2 := h'.room
  clear h h'
  go_enter Try.func19, Try.ntmps19
  go_wp2
  go_loopw [5] (fun s5 wx => ∃ k : Nat, Value.int .i64 k = s5 ∧ k ≤ l.length ∧ Hid (Below w.heap.size w wx)) (fun s5 _ => l.length - (intOf s5).toNat)
  case atStart => exact ⟨0, rfl, by omega, Lib.hid (Below.refl _ _)⟩
  case round =>
    obtain ⟨k, hs, hk, HB⟩ := hrel
    subst hs
    by_cases hlt : k < l.length
    · have hi1 : (k : Int) < (l.length : Int) := by omega
      have hi0 : (0 : Int) ≤ (k : Int) := by omega
      obtain ⟨x, hx⟩ : ∃ x, l[k]? = some x := ⟨_, List.getElem?_eq_getElem hlt⟩
      obtain ⟨gb, rfl, hl, c0, c1, c2, c3⟩ := (H.out.below HB.out).at' k x hx
      obtain ⟨gb', rfl, hl', d0, d1, d2, d3⟩ := (H'.out.below HB.out).at' k x hx
      clear hx
      go_wp2
      go_quiet (fail)
      go_wp2
      exact ⟨⟨k + 1, by go_num, by omega, Lib.hid (below_drewN HB.out _)⟩, by simp [intOf]; omega⟩
    · have hi1 : ¬ (k : Int) < (l.length : Int) := by omega
      go_wp2
      go_ret
      exact ⟨rfl, HB.out⟩

/-! ### its -/
theorem info52 : ∃ i z, Try.prog.info? 52 = some i ∧ i.zero = some z ∧ i.size = 4 ∧ i.bytes = 40 ∧ z.cells.size = 4 := by
  have h : (Try.prog.info? 52).map (fun i => (i.zero, i.size, i.bytes)) = some (some (.agg #[.int .i64 0, .int .i64 0, .int .i64 0, .string ⟨#[]⟩]), 4, 40) := by kernel_rfl
  obtain ⟨i, hi, hzz⟩ := Option.map_eq_some_iff.1 h
  simp only [Prod.mk.injEq] at hzz
  exact ⟨i, _, hi, hzz.1, hzz.2.1, hzz.2.2, rfl⟩
theorem slips_of52 {w : World} {base : Nat} {v : Value} {l : List Letter} (h : w.ownsRow base 52 4 v l.length (cellsOf l)) : ∃ ad cap, v = .slice ad l.length cap ∧ Slips w ad l.length cap l ∧ ∀ x, ad = some x → base ≤ x.block ∧ x.block < w.heap.size := by
  have hc := fun (g : Nat) (hg : v.ownBlock = some g) => h.cells hg
  rcases h.2 with ⟨rfl, hn⟩ | ⟨g, cap, cur, rfl, hb, hgg, h1, h2, _⟩
  · refine ⟨none, 0, by rw [hn], ⟨rfl, by omega, Nat.zero_le _, fun i x hi => ?_⟩, fun x e => by cases e⟩
    have := (List.getElem?_eq_some_iff.1 hi).1
    omega
  · refine ⟨some ⟨g, 0, none⟩, cap, rfl, ⟨rfl, h1, h2, fun i x hi => ⟨g, rfl, (Array.getElem?_eq_some_iff.1 hgg).1, ?_⟩⟩, fun x e => by injection e with e; subst e; exact ⟨hb, (Array.getElem?_eq_some_iff.1 hgg).1⟩⟩
    have hc' : ∀ j, j < 4 → ∀ u, x.cells[j]? = some u → w.cell? ⟨g, i * 4 + j, none⟩ = some u := by
      intro j hj u hu
      have := hc g rfl (i * 4 + j) u ((cellsOf_get l i j x hi hj).trans hu)
      rwa [Addr.add_mid, Nat.zero_add] at this
    exact ⟨hc' 0 (by omega) _ rfl, hc' 1 (by omega) _ rfl, hc' 2 (by omega) _ rfl, hc' 3 (by omega) _ rfl⟩

set_option maxHeartbeats 2000000 in
theorem its_any (ad : Option Addr) (cap : Nat) (l : List Letter) (w : World) (h : Slips w ad l.length cap l) (h8 : l.length ≤ 8) :
    Calls Try.prog 20 #[.slice ad l.length cap] w fun e w' => ∃ ad' cap', e = .returned (.slice ad' l.length cap') ∧ Below w.heap.size w w' ∧ Slips w' ad' l.length cap' l := by
  have H := Lib.hid h
  have r1 := h.room
  clear h
  go_enter Try.func20, Try.ntmps20
  go_wp2
  go_loopw [3, 4] (fun s3 s4 wx => ∃ (k : Nat) (aa : Option Addr) (nn cc : Nat), Value.int .i64 k = s4 ∧ Value.slice aa nn cc = s3 ∧ k ≤ l.length ∧ nn = k ∧ Hid (Below w.heap.size w wx) ∧ Hid (wx.ownsRow w.heap.size 52 4 (.slice aa nn cc) k (cellsOf (l.take k)))) (fun _ s4 _ => l.length - (intOf s4).toNat)
  case atStart => exact ⟨0, _, _, _, rfl, rfl, by omega, rfl, Lib.hid ((Below.refl _ _).alloc (Nat.le_refl _) _), Lib.hid (World.ownsRow_made (base := w.heap.size) (e := 52) (size := 4) w #[] 0 (Nat.le_refl _) (by unfold maxLen; omega) (by simp))⟩
  case round =>
    obtain ⟨k, aa, nn, cc, hs, hs2, hk, hn, HB, HO⟩ := hrel
    subst hs hs2 hn
    by_cases hlt : nn < l.length
    · have hi1 : (nn : Int) < (l.length : Int) := by omega
      have hi0 : (0 : Int) ≤ (nn : Int) := by omega
      obtain ⟨x, hx⟩ : ∃ x, l[nn]? = some x := ⟨_, List.getElem?_eq_getElem hlt⟩
      have htk : l.take (nn + 1) = l.take nn ++ [x] := by rw [List.take_add_one, hx]; rfl
      have HTK := Lib.hid htk
      obtain ⟨gb, rfl, hl, c0, c1, c2, c3⟩ := (H.out.below HB.out).at' nn x hx
      have hbs := HB.out.size
      clear hx htk
      obtain ⟨i0, z0, hi0', hz0, hz1, hz2, hz3⟩ := info52
      go_wp2_with (at_builtin; refine wpList_append_lies _ (by rfl) _ _ _ (by rfl) w.heap.size 52 i0 z0 4 40 Try.underlying55 hi0' hz0 hz1 hz2 hz3 (by omega) (.slice aa nn cc) nn (cellsOf (l.take nn)) (by rfl) (HO.out.alloc _) ⟨wr.heap.size, 0, none⟩ 1 1 x.cells (by rfl) (by rfl) (World.news_of_block (cs := x.cells.toArray) (t := 52) (fr := (0, 0)) (heap_alloc_new wr _)) (ones_letter x) (by omega) (by unfold maxLen; omega) (by omega) (by simp; omega) (wr.heap.size + 1) (by simp) ?_; intro gg cap' w6 hown6 hgrow6 hat6 hlt6)
      have hb6 := (HB.out.alloc hbs (.cells x.cells.toArray 52)).grown hgrow6 (by simp; omega) (fun i e => (HO.out.lt i e).1)
      exact ⟨⟨nn + 1, _, _, _, by go_num, rfl, by omega, rfl, Lib.hid hb6, Lib.hid (by rw [HTK.out, cellsOf_snoc]; exact hown6)⟩, by simp [intOf]; omega⟩
    · have hi1 : ¬ (nn : Int) < (l.length : Int) := by omega
      obtain rfl : nn = l.length := by omega
      have ho := HO.out
      rw [List.take_length] at ho
      obtain ⟨ad', cap', hv, hsl, _⟩ := slips_of52 ho
      injection hv with e1 e2 e3
      subst e1 e3
      have HSL := Lib.hid hsl
      clear hsl ho
      go_wp2
      go_ret
      exact ⟨_, _, rfl, HB.out, HSL.out⟩
end Go.Proofs.Ytilnbgkepijfbaa
