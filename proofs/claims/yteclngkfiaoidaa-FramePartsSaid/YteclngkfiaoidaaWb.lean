/- The walks of strings.Builder's String and Len, and of the splitter's own calls; no condition. -/
import Derived.Test.YteclngkfiaoidaaWa
import Derived.Deep.RegionWith
import Derived.Deep.RegionHeld3
namespace Go.Proofs.Yteclngkfiaoidaa
open Go.RowKit Go.Lib
set_option linter.unusedVariables false
set_option linter.unusedSimpArgs false

theorem freeze_mv {b : Nat} {r : Option Nat} {w w1 : World} (h : Mv b r w r w1) (g n : Nat) (hg : r = some g) : Mv b r w r (w1.freeze ⟨g, 0, none⟩ n) := by
  unfold World.freeze
  split
  · exact h
  · refine ⟨h.os, h.tape, h.output, by simpa using h.size, fun k hk hb hr => ?_, h.row⟩
    simp only [Array.getElem?_modify]
    rw [if_neg (fun e => hr (by rw [hg, ← e]))]
    exact h.block k hk hb hr

theorem freeze_sp {w : World} {b : Nat} {bs : List UInt8} {told g : Nat} (h : Sp w b (some g) bs told) : Sp (w.freeze ⟨g, 0, none⟩ bs.length) b (some g) bs told := by
  have hlt := h.row_lt g rfl
  obtain ⟨p, v, hp, hb, hown, hr, hn⟩ := h
  unfold World.freeze
  split
  · exact ⟨p, v, hp, hb, hown, hr, hn⟩
  · rename_i hn0
    refine ⟨p, v, hp, ?_, ⟨hown.1, ?_⟩, hr, hn⟩
    · simp only [Array.getElem?_modify]
      rw [if_neg (by omega)]
      exact hb
    · rcases hown.2 with ⟨hv, _⟩ | ⟨g', cap', cur, fz, hv, hbg, hg, hfz, rest⟩
      · rw [hv] at hr; simp [Value.ownBlock] at hr
      · obtain rfl : g' = g := by rw [hv] at hr; simpa [Value.ownBlock] using hr
        obtain ⟨lo, hi⟩ := fz
        refine .inr ⟨g', cap', cur, (if lo == hi then (0, 0 + bs.length) else (min lo 0, max hi (0 + bs.length))), hv, hbg, ?_, ?_, rest⟩
        · simp [Array.getElem?_modify, hg]
        · simp only at hfz
          split <;> simp <;> omega

set_option maxHeartbeats 1000000 in
theorem string_any (b : Nat) (r : Option Nat) (bs : List UInt8) (told : Nat) (w : World) (h : Sp w b r bs told) :
    Calls Try.prog 23 #[.pointer (some ⟨b, 0, none⟩)] w fun e w' => e = .returned (.string ⟨bs.toArray⟩) ∧ Sp w' b r bs told ∧ Mv b r w r w' := by
  have hsp := h
  obtain ⟨p, v, hp, hb, hown, hr, hn⟩ := h
  have HS := Lib.hid hsp; clear hsp
  rcases hown.2 with ⟨rfl, h0⟩ | ⟨g, cap, cur, fz, rfl, hbg, hg, hfz, hnc, hcm, hcs, htake⟩
  · obtain rfl : bs = [] := hn.1 rfl
    have hUS := fun (W : World) (q : Option Addr) => Lib.run_unsafeString_none (P := Try.prog) W 60 3 9 q
    have c1 : w.drew.cell? ⟨b, 1, none⟩ = some (.slice none 0 0) := by
      have : w.drew.heap[b]? = _ := hb
      rw [Lib.cell_of_heap this]; rfl
    have hSD : (Builtin.unsafeSliceData_ #[26] 60 #[.slice none 0 0]).run Try.prog w.drew = .ok (.pointer none) w.drew := rfl
    clear hp hb hown hr hn
    go_enter Try.func23, Try.ntmps23
    go_wp2
    go_region
    all_goals (go_wp2; go_ret; exact ⟨rfl, HS.out.drewN 1, (Mv.refl b r w).drew⟩)
  · have hbs : bs ≠ [] := fun e => by have := hn.2 e; cases this
    have hl0 : bs.length ≠ 0 := by simpa using hbs
    have hr' : r = some g := by rw [← hr]; rfl
    subst hr'
    have c1 : w.drew.cell? ⟨b, 1, none⟩ = some (.slice (some ⟨g, 0, none⟩) bs.length cap) := by
      have : w.drew.heap[b]? = _ := hb
      rw [Lib.cell_of_heap this]; rfl
    have hSD : (Builtin.unsafeSliceData_ #[26] 60 #[.slice (some ⟨g, 0, none⟩) bs.length cap]).run Try.prog w.drew = .ok (.pointer (some ⟨g, 0, none⟩)) w.drew :=
      Lib.run_unsafeSliceData_row _ _ _ _ _ _ (by omega)
    have hUS : (Builtin.unsafeString_ #[60, 3] 9 #[.pointer (some ⟨g, 0, none⟩), .int .i64 bs.length]).run Try.prog w.drew = .ok (.string ⟨bs.toArray⟩) (w.drew.freeze ⟨g, 0, none⟩ bs.length) := by
      refine Lib.run_unsafeString_row w.drew 60 3 9 5 Try.underlying60 (by kernel_rfl) g cur.size (by have hg' : w.drew.heap[g]? = some (.cells cur 5 fz) := hg; simp [World.shape?, hg']) bs hbs (by omega) (by unfold maxLen at hcm; omega) ?_
      intro j x hx
      exact hown.cells (g := g) rfl j (.int .u8 x.toNat) (by simp [Lib.byteCells, hx])
    have hkeep := Lib.hid (freeze_sp (HS.out.drewN 1))
    clear hp hb hown hr hn hbs hl0 hg hfz hnc hcm hcs htake hbg
    go_enter Try.func23, Try.ntmps23
    go_wp2
    go_region
    all_goals (go_wp2; go_ret; exact ⟨rfl, hkeep.out, freeze_mv ((Mv.refl b (some g) w).drew) g _ rfl⟩)

set_option maxHeartbeats 1000000 in
theorem len_any (b : Nat) (r : Option Nat) (bs : List UInt8) (told : Nat) (w : World) (h : Sp w b r bs told) :
    Calls Try.prog 20 #[.pointer (some ⟨b, 0, none⟩)] w fun e w' => e = .returned (.int .i64 bs.length) ∧ w' = w := by
  obtain ⟨p, v, hp, hbk, hown, hr, hn⟩ := h
  obtain ⟨ao, cap, rfl⟩ : ∃ ao cap, v = .slice ao bs.length cap := by
    rcases hown.2 with ⟨hv, h0⟩ | ⟨g, cap, cur, fz, hv, _⟩
    · exact ⟨none, 0, by rw [hv, h0]⟩
    · exact ⟨_, _, hv⟩
  have c1 : w.cell? ⟨b, 1, none⟩ = some (.slice ao bs.length cap) := by rw [Lib.cell_of_heap hbk]; rfl
  clear hp hbk hown hr hn
  go_enter Try.func20, Try.ntmps20
  go_wp2
  go_ret
  exact ⟨rfl, rfl⟩

theorem Sp.told_ {w : World} {b : Nat} {r : Option Nat} {bs : List UInt8} {told : Nat} (h : Sp w b r bs told) : w.cell? ⟨b, 2, none⟩ = some (.int .i64 told) := by
  obtain ⟨p, v, hp, hb, _⟩ := h
  rw [Lib.cell_of_heap hb]; rfl
theorem Sp.free {w : World} {b : Nat} {r : Option Nat} {bs : List UInt8} {told : Nat} (h : Sp w b r bs told) : w.frozen? ⟨b, 2, none⟩ = false := by
  obtain ⟨p, v, hp, hb, _⟩ := h
  exact Lib.frozen_of_heap hb 2

set_option maxHeartbeats 1000000 in
theorem left_any (b : Nat) (r : Option Nat) (bs : List UInt8) (told : Nat) (w : World) (h : Sp w b r bs told) (ht : told ≤ bs.length) (hm : bs.length ≤ 140737488355328) :
    Calls Try.prog 12 #[.pointer (some ⟨b, 0, none⟩)] w fun e w' => e = .returned (.int .i64 ((bs.length : Int) - told)) ∧ ∃ n, w' = w.drewN n := by
  have h2 := h.told_
  have HS := Lib.hid h; clear h
  go_enter Try.func12, Try.ntmps12
  go_wp2_with fail
  go_quiet ((go_at_call 20; exact Calls.quiet_of_same (len_any b r bs told _ (HS.out.drewN _))))
  go_wp2
  go_ret
  exact ⟨rfl, _, rfl⟩
end Go.Proofs.Yteclngkfiaoidaa
