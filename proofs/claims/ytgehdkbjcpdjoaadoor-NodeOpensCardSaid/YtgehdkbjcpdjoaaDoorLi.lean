/- The walk of link.New; no condition. -/
import Derived.Test.YtgehdkbjcpdjoaaDoorCh
namespace Go.Proofs.YtgehdkbjcpdjoaaDoor
open Go.RowKit
set_option linter.unusedVariables false
set_option linter.unusedSimpArgs false

/-- What link.New leaves. -/
def Linked (s : Stp) (w : World) (e : Ending) (w' : World) : Prop :=
  Below w.heap.size w w' ∧ ((may s ∧ ∃ k c L, e = .returned (.pointer (some ⟨k, 0, none⟩)) ∧ Blk w' k 93 L ∧ L[3]? = some (.pointer (some ⟨c, 0, none⟩)) ∧ Blk w' c 104 (newChan s s.ours (s.cap - s.ours)).toArray) ∨ (¬ may s ∧ e = .returned (.pointer none)))

set_option maxRecDepth 100000 in
set_option maxHeartbeats 4000000 in
theorem link_new (s : Stp) (hs : s.ok) (w : World) : Calls Tryd.prog 23 #[s.val] w (Linked s w) := by
  have hx := Blk.new w _ 33 s.cells.toArray rfl
  have hB := (Below.refl w.heap.size w).alloc (Nat.le_refl _) (.cells s.cells.toArray 33)
  have HS := Lib.hid hs
  have HI : Hid ((Tryd.prog.info? 33).map (·.size) = some s.cells.toArray.size) := Lib.hid (by rw [info33]; simp [Stp.len hs.l])
  have hl := hx.lt
  have HX := Lib.hid hx
  have HB := Lib.hid hB
  have hc := chan_new s hs (w.alloc (.cells s.cells.toArray 33))
  have HC := Lib.hid hc
  unfold Stp.val at *
  clear hs hx hB hc
  go_enter Tryd.func23, Tryd.ntmps23
  go_wp2_with (refine wpList_load_row (by rfl) 33 (.tmp 1) (by rfl) w.heap.size (by rfl) 33 s.cells.toArray (0, 0) _ HX.out Tryd.underlying33 rfl HI.out ?_)
  generalize w.alloc (.cells s.cells.toArray 33) = W at *
  refine HC.out.mono ?_
  rintro e W1 ⟨hb, h⟩
  have HB1 := Lib.hid (HB.out.trans (hb.mono HB.out.size))
  rcases h with ⟨hm, c, rfl, hcw, hcb⟩ | ⟨hm, rfl⟩
  · have HCB := Lib.hid hcb
    have HM := Lib.hid hm
    clear hb hcw hcb hm HC HX HB
    go_wp2_with fail
    refine (recover_empty W1).mono ?_
    rintro e W2 ⟨⟨j, rfl⟩, hb2⟩
    have HCB := Lib.hid (HCB.out.below hb2)
    have HB2 := Lib.hid (HB1.out.trans (hb2.mono HB1.out.size))
    clear hb2 HB1
    go_wp2
    go_ret
    exact ⟨HB2.out.alloc HB2.out.size _, .inl ⟨HM.out, _, c, _, rfl, Blk.new _ _ _ _ rfl, rfl, HCB.out.alloc _⟩⟩
  · have HM := Lib.hid hm
    clear hb hm HC HX HB
    go_wp2
    go_ret
    exact ⟨HB1.out, .inr ⟨HM.out, rfl⟩⟩
end Go.Proofs.YtgehdkbjcpdjoaaDoor
