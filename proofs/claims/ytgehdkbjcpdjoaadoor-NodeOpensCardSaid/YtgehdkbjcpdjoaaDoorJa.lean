/- The walks of the Builder's first write, and of journal.Recover of nothing; no condition. -/
import Derived.Test.YtgehdkbjcpdjoaaDoorRows
import Derived.Test.YtgehdkbjcpdjoaaDoorUp
import Derived.WalkKit
import Derived.WalkSpells
import Derived.WalkLawsBesides
import Derived.Lib.Hide
import Derived.WalkSmall
import Derived.BigQuiet
import Derived.BigRegion
import Derived.Deep.QuietTactic
import Derived.RegionTactic
import Derived.Deep.RegionHeld3
import Derived.Shelf.Spec.BitsCarry
import Derived.Laws.Externs
import Derived.Lib.FrozenHead
import Derived.Lib.UnsafeStr
namespace Go.Proofs.YtgehdkbjcpdjoaaDoor
open Go.RowKit
set_option linter.unusedVariables false
set_option linter.unusedSimpArgs false

theorem get_empty (w : World) : Calls Tryd.prog 29 #[.string ⟨#[]⟩] w fun e w' => e = .returned (.tuple #[.int .u64 0, .string ⟨#[]⟩, .int .i64 0, .int .i64 3]) ∧ w' = w := by
  go_enter Tryd.func29, Tryd.ntmps29
  go_wp2
  refine bodyPost_ret (v := .tuple #[.int .u64 0, .string ⟨#[]⟩, .int .i64 0, .int .i64 3]) (by simp [results, Tryd.results29, go_sem]) rfl ⟨rfl, rfl⟩

theorem infoBuilder : (Tryd.prog.info? 85).map (fun i => i.size) = some 2 := by kernel_rfl
theorem liesB : liesAt Tryd.prog Tryd.prog.depth 116 (6 / Tryd.prog.cellsOf 116) 0 85 1 = true := by kernel_rfl
set_option maxRecDepth 100000 in
set_option maxHeartbeats 1000000 in
theorem copy_fresh (b : Nat) (w : World) (h0 : w.cell? ⟨b, 0, none⟩ = some (.pointer none)) (hsh : w.shape? b = some (116, 6)) (hfz : w.frozen? ⟨b, 0, none⟩ = false) :
    Calls Tryd.prog 34 #[.pointer (some ⟨b, 0, none⟩)] w fun e w' => e = .returned (.tuple #[]) ∧ w' = w.setCell ⟨b, 0, none⟩ (.pointer (some ⟨b, 0, none⟩)) := by
  obtain ⟨j, hj, hjs⟩ := Option.map_eq_some_iff.1 infoBuilder
  go_enter Tryd.func34, Tryd.ntmps34
  go_wp2
  rw [Lib.run_to_unsafe w ⟨b, 0, none⟩ Tryd.underlying82 Tryd.underlying133 hj (by rw [hjs]; decide) hsh (Nat.zero_lt_succ 5)]
  simp only [Result.andThen]
  rw [Oper.upon_value]
  go_wp2
  rw [run_callFunc_extern Tryd.func37 (by kernel_rfl) (by kernel_rfl) (by kernel_rfl) (e := Extern.AbiNoEscape.same) (by kernel_rfl)]
  rw [Lib.run_noEscape]
  simp only [Result.andThen]
  rw [Oper.upon_value]
  go_wp2
  rw [Lib.run_from_unsafe w ⟨b, 0, none⟩ Tryd.underlying133 Tryd.underlying82 hj hsh liesB]
  simp only [Result.andThen]
  rw [Oper.upon_value]
  go_wp2
  go_end0
  exact ⟨rfl, rfl⟩

theorem write_fresh (b : Nat) (w : World) (h : Blk w b 116 #[.pointer none, .slice none 0 0, .int .i64 0, .bool false, .int .i64 0, .bool false]) :
    Calls Tryd.prog 30 #[.pointer (some ⟨b, 0, none⟩), .string ⟨#[]⟩] w fun e w' => e = .returned (.tuple #[.int .i64 0, .nilIface]) ∧ Upd (fun x => x = b) w w' ∧ ∃ cs, Blk w' b 116 cs ∧ cs.size = 6 := by
  have hsh : w.shape? b = some (116, 6) := by unfold Blk at h; simp [World.shape?, h]
  have hc := copy_fresh b w (h.cell 0) hsh (h.free 0)
  have h1 := h.set 0 (.pointer (some ⟨b, 0, none⟩))
  have hu := (Upd.refl (fun x => x = b) w).setCell (p := ⟨b, 0, none⟩) (fun _ => rfl) (.pointer (some ⟨b, 0, none⟩))
  have HU := Lib.hid hu
  have HH := Lib.hid h1
  have c1 := h1.cell 1
  have f1 := h1.free 1
  have hl := h1.lt
  simp at c1
  clear hu h h1 hsh
  go_enter Tryd.func30, Tryd.ntmps30
  go_wp2_with fail
  refine hc.mono ?_
  rintro e w1 ⟨rfl, rfl⟩
  clear hc
  generalize w.setCell ⟨b, 0, none⟩ (.pointer (some ⟨b, 0, none⟩)) = w1 at *
  go_wp2
  go_ret2
  exact ⟨rfl, HU.out.setCell (p := ⟨b, 1, none⟩) (fun _ => rfl) _, _, HH.out.set 1 _, by simp⟩

set_option maxRecDepth 100000 in
set_option maxHeartbeats 2000000 in
theorem recover_empty (w : World) : Calls Tryd.prog 28 #[.string ⟨#[]⟩] w fun e w' => (∃ j, e = .returned (.tuple #[.pointer (some ⟨j, 0, none⟩), .slice none 0 0])) ∧ Below w.heap.size w w' := by
  go_enter Tryd.func28, Tryd.ntmps28
  go_wp2
  have hb := Blk.new w _ 116 #[.pointer none, .slice none 0 0, .int .i64 0, .bool false, .int .i64 0, .bool false] rfl
  have hB := (Below.refl w.heap.size w).alloc (Nat.le_refl _) (.cells #[.pointer none, .slice none 0 0, .int .i64 0, .bool false, .int .i64 0, .bool false] 116)
  generalize w.alloc (.cells #[.pointer none, .slice none 0 0, .int .i64 0, .bool false, .int .i64 0, .bool false] 116) = W at *
  refine wp_loop_rounds 1 ?_
  rw [rounds_succ]
  go_wp2_with fail
  refine (get_empty W).mono ?_
  rintro e W1 ⟨rfl, rfl⟩
  go_wp2_with fail
  have HB := Lib.hid hb
  have HBB := Lib.hid hB
  clear hb hB
  go_region_held3 (fun _ => True) (trivial)
    (first | (go_at_call 30; refine (write_fresh w.heap.size _ HB.out.drew).mono ?_; rintro e W2 ⟨rfl, hu, cs, hb2, hs2⟩; have HU := Lib.hid hu; have HB2 := Lib.hid hb2))
  have c1 := HB2.out.cell 1
  have f1 := HB2.out.free 1
  have hl := HB2.out.lt
  obtain ⟨u, hu1⟩ : ∃ u, cs[1]? = some u := ⟨_, Array.getElem?_eq_getElem (by omega)⟩
  have c2 := HB2.out.cell 2
  have f2 := HB2.out.free 2
  obtain ⟨u2, hu2⟩ : ∃ u, cs[2]? = some u := ⟨_, Array.getElem?_eq_getElem (by omega)⟩
  rw [hu2] at c2
  clear c1 f1 hu hu1 hb2 hu2
  go_wp2
  go_ret2
  refine ⟨⟨_, rfl⟩, ?_⟩
  have h1 : Below w.heap.size w W2 := HBB.out.drew.trans (HU.out.low HBB.out.drew.size (fun i e => by omega))
  exact h1.setCell (p := ⟨w.heap.size, 2, none⟩) (Nat.le_refl _) _
end Go.Proofs.YtgehdkbjcpdjoaaDoor
