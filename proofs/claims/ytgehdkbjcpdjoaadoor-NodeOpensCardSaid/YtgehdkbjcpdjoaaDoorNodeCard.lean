/- Proved: Rows.NodeOpensCardSaid: the tied card of NodeOpens. -/
import Derived.Test.YtgehdkbjcpdjoaaDoorNodeOpens
import Derived.Test.YtgehdkbjcpdjoaaDoorCards
import Derived.Test.YtgehdkbjcpdjoaaDoorTie
import Derived.SevenTiedAt
namespace Go.Proofs.YtgehdkbjcpdjoaaDoor.nodeOpens
open Go

theorem card : Rows.NodeOpensCardSaid :=
  Claim7.holds_tied_plain_at .later [] [.data] true (true, "5bbd7a7086baac57587bde5e29ef754e96f1f5497cf897c1cd3cf018308cc532") false
    over (fun _ h => by cases h) (by kernel_rfl) (fun _ h => by cases h) nodeOpens_row_tie rfl ⟨rfl, rfl⟩ (by kernel_rfl) rfl
    (fun f fn hf hfn => by
      obtain rfl : f = 3 := Option.some.inj ((show Tryd.prog.funcNamed "remitter/remitterlaw20.NodeOpens" = some 3 by kernel_rfl).symm.trans hf) |>.symm
      obtain rfl : fn = Tryd.f3 := (Option.some.inj (Tryd.func3.symm.trans hfn)).symm
      exact ⟨by kernel_rfl, fun j t ht => by
        rw [Tryd.params3] at ht
        have h3 : t = 22 ∨ t = 5 := by
          rcases j with _ | _ | _ | _ | j
          · left; simpa using ht.symm
          · left; simpa using ht.symm
          · left; simpa using ht.symm
          · right; simpa using ht.symm
          · simp at ht
        rcases h3 with rfl | rfl
        · exact (show Tryd.prog.wantsStandIn 22 = false by kernel_rfl)
        · exact (show Tryd.prog.wantsStandIn 5 = false by kernel_rfl)⟩)
    (by kernel_rfl)
#print axioms card
end Go.Proofs.YtgehdkbjcpdjoaaDoor.nodeOpens
