/- The walks of slices.IndexFunc and ContainsFunc over peers; no condition. -/
import Derived.Test.YtgehdkbjcpdjoaaDoorLi
namespace Go.Proofs.YtgehdkbjcpdjoaaDoor
open Go.RowKit
set_option linter.unusedVariables false
set_option linter.unusedSimpArgs false

theorem same_ch (p : Value) (x ch : Int) (sp : Nat) (w : World) (hc : w.cell? ⟨sp, 0, none⟩ = some (.int .u32 ch)) :
    Calls Tryd.prog 22 #[.agg #[p, .int .u32 x], .pointer (some ⟨sp, 0, none⟩)] w fun e w' => e = .returned (.bool (x == ch)) ∧ Below w.heap.size w w' := by
  have hl := World.block_lt_of_cell? _ _ hc
  go_enter Tryd.func22, Tryd.ntmps22
  go_wp2
  go_ret
  exact ⟨rfl, (Below.refl _ _).alloc (Nat.le_refl _) _⟩

def Idx (chs : List Int) (ch : Int) (e : Ending) : Prop :=
  ∃ r : Int, e = .returned (.int .i64 r) ∧ ((ch ∈ chs ∧ 0 ≤ r) ∨ (ch ∉ chs ∧ r = -1))

set_option maxRecDepth 100000 in
set_option maxHeartbeats 2000000 in
theorem index_any (ad : Option Addr) (cap : Nat) (chs : List Int) (ch : Int) (sp : Nat) (w : World) (hn : chs.length ≤ 8) (hc : w.cell? ⟨sp, 0, none⟩ = some (.int .u32 ch))
    (h : ∀ (i : Nat) (x : Int), chs[i]? = some x → ∃ b p, ad = some ⟨b, 0, none⟩ ∧ w.cell? ⟨b, i * 2, none⟩ = some p ∧ w.cell? ⟨b, i * 2 + 1, none⟩ = some (.int .u32 x)) :
    Calls Tryd.prog 26 #[.slice ad chs.length cap, .func (.func 22) #[] #[.pointer (some ⟨sp, 0, none⟩)]] w fun e w' => Idx chs ch e ∧ Below w.heap.size w w' := by
  have H := Lib.hid h
  have HC := Lib.hid hc
  clear h hc
  go_enter Tryd.func26, Tryd.ntmps26
  go_wp2
  go_loopw [8] (fun s8 wr => ∃ i : Nat, Value.int .i64 i = s8 ∧ i ≤ chs.length ∧ Hid (∀ j, j < i → chs[j]? ≠ some ch) ∧ Hid (Below w.heap.size w wr)) (fun s8 _ => chs.length - (intOf s8).toNat)
  case atStart => exact ⟨0, rfl, by omega, Lib.hid (fun j hj => absurd hj (by omega)), Lib.hid (Below.refl _ _)⟩
  case round =>
    obtain ⟨i, hs8, hi, HN, HB⟩ := hrel
    subst hs8
    by_cases hlt : i < chs.length
    · obtain ⟨b, p, rfl, c0, c1⟩ := H.out i _ (List.getElem?_eq_getElem hlt)
      have hx : chs[i]? = some chs[i] := List.getElem?_eq_getElem hlt
      generalize chs[i] = x at *
      have HXX := Lib.hid hx
      have c0 := (HB.out.cell (World.block_lt_of_cell? _ _ c0)).trans c0
      have c1 := (HB.out.cell (World.block_lt_of_cell? _ _ c1)).trans c1
      have hbl := World.block_lt_of_cell? _ _ c0
      have hi0 : (0 : Int) ≤ (i : Int) := by omega
      have hi1 : (i : Int) < (chs.length : Int) := by omega
      have hcall := same_ch p x ch sp wr ((HB.out.cell (World.block_lt_of_cell? _ _ HC.out)).trans HC.out)
      have HCALL := Lib.hid hcall
      clear hx hcall
      go_wp2_with fail
      refine HCALL.out.mono ?_
      rintro e W ⟨rfl, hb⟩
      have HB2 := Lib.hid (HB.out.trans (hb.mono HB.out.size))
      clear hb c0 c1 HCALL
      by_cases hxc : x = ch
      · subst hxc
        have ht : (x == x) = true := by simp
        have hmem : x ∈ chs := List.mem_of_getElem? HXX.out
        have HMEM := Lib.hid hmem
        clear hmem
        go_wp2
        go_ret
        exact ⟨⟨(i : Int), rfl, .inl ⟨HMEM.out, by omega⟩⟩, HB2.out⟩
      · have ht : (x == ch) = false := by simp [hxc]
        have HNC := Lib.hid hxc
        clear hxc
        go_wp2
        go_roundw
        case rel => exact ⟨i + 1, by go_num, by omega, Lib.hid (fun j hj => by
          by_cases e : j = i
          · subst e; rw [HXX.out]; intro e2; injection e2 with e2; exact HNC.out e2
          · exact HN.out j (by omega)), HB2⟩
        case measure => simp [intOf]; omega
    · obtain rfl : i = chs.length := by omega
      have hno : ch ∉ chs := by
        intro hm
        obtain ⟨j, hj⟩ := List.mem_iff_getElem?.1 hm
        exact HN.out j (List.getElem?_eq_some_iff.1 hj).1 hj
      have HNO := Lib.hid hno
      clear hno hlt
      go_wp2
      go_ret
      exact ⟨⟨-1, rfl, .inr ⟨HNO.out, rfl⟩⟩, HB.out⟩

theorem contains_any (ad : Option Addr) (cap : Nat) (chs : List Int) (ch : Int) (sp : Nat) (w : World) (hn : chs.length ≤ 8) (hc : w.cell? ⟨sp, 0, none⟩ = some (.int .u32 ch))
    (h : ∀ (i : Nat) (x : Int), chs[i]? = some x → ∃ b p, ad = some ⟨b, 0, none⟩ ∧ w.cell? ⟨b, i * 2, none⟩ = some p ∧ w.cell? ⟨b, i * 2 + 1, none⟩ = some (.int .u32 x)) :
    Calls Tryd.prog 21 #[.slice ad chs.length cap, .func (.func 22) #[] #[.pointer (some ⟨sp, 0, none⟩)]] w fun e w' => e = .returned (.bool (decide (ch ∈ chs))) ∧ Below w.heap.size w w' := by
  have hi := index_any ad cap chs ch sp w hn hc h
  have HI := Lib.hid hi
  clear h hc hi
  by_cases hm : ch ∈ chs
  · rw [show decide (ch ∈ chs) = true from by simp [hm]]
    have HM := Lib.hid hm
    clear hm
    go_enter Tryd.func21, Tryd.ntmps21
    go_wp2_with fail
    refine HI.out.mono ?_
    rintro e W ⟨⟨r, rfl, hr⟩, hb⟩
    have hr0 : 0 ≤ r := by
      rcases hr with ⟨_, h⟩ | ⟨h, _⟩
      · exact h
      · exact absurd HM.out h
    clear hr
    go_wp2
    go_ret
    exact ⟨rfl, hb⟩
  · rw [show decide (ch ∈ chs) = false from by simp [hm]]
    have HM := Lib.hid hm
    clear hm
    go_enter Tryd.func21, Tryd.ntmps21
    go_wp2_with fail
    refine HI.out.mono ?_
    rintro e W ⟨⟨r, rfl, hr⟩, hb⟩
    have hr0 : r = -1 := by
      rcases hr with ⟨h, _⟩ | ⟨_, h⟩
      · exact absurd h HM.out
      · exact h
    subst hr0
    clear hr
    go_wp2
    go_ret
    exact ⟨rfl, hb⟩
end Go.Proofs.YtgehdkbjcpdjoaaDoor
