/-
  No cell of these rows narrows 'for every input' (looked for: loops, veiled, ifaces, maps, wideKeys, modest, calm, conditions, laid).
  DERIVED. THE GIVEN ROWS OF THIS SEAT. 5 by the template 'for every input the law returns true; each argument reads behind the call as it read before'; 0 by the template 'total and deterministic' (their statements: YteclngkfiaoidaaTotals.lean).
  GIVEN WITH THE SEED: the statements are not yours to turn. If you find one false, say at which input.
  Laid BY PROGRAM, IN A SANDBOX (cutbox-rows.mjs): the forced cells as the released guide's own fill.sh prints them over the translation e48c1a483ca83521… (all of the seat's roots in one cut). By AI agents, Wed Nov 11 2026. No macro, syntax, notation, axiom, sorry.
-/
import Derived.Test.YteclngkfiaoidaaChecked
import GoSem.Claim
import GoSem.ClaimJoined
import GoSem.ClaimMapViews
import Derived.JoinedTies
import Derived.KernelRfl
namespace Go.Proofs.Yteclngkfiaoidaa
/- THE CELL 'sum', in the pinned program and in every row, IS THE sha256 OF THE DUMP (.gsa) THAT YteclngkfiaoidaaProg.lean LOADS. Nothing in Lean hashes anything: it is a label: what it is worth is what the hold of that sum in a sandbox is worth. -/
noncomputable def Try.pinned : Pinned := { name := "yteclngkfiaoidaa", sum := "e48c1a483ca835216b2675211187cfedb0347b6aaea01007ba76890f3878a5c3", checked := Try.checked }
namespace Rows
def none {H : Type} : Left H := { results := [], args := [] }

/-- 'remitterlaw08.FrameLeft': WHATEVER THE INPUT: true; the input reads as it did. -/
def frameLeftSpec : ChangeSpec := { name := "frameLeft", fn := fun _ => fun
  | [d] => { results := [.lit (.bool true)], args := [d] }
  | _ => none }
def frameLeftRow : OpenClaim := { program := "yteclngkfiaoidaa", sum := "e48c1a483ca835216b2675211187cfedb0347b6aaea01007ba76890f3878a5c3", func := "remitter/remitterlaw08.FrameLeft", spec := "frameLeft", inPlace := ["internal/abi.NoEscape"], apart := false }
def FrameLeftSaid : Prop := frameLeftRow.holds Try.pinned (OpenSpec.ofChange frameLeftSpec)

/-- ITS FALSE NEIGHBOUR: 'it returns false'. Refute it at one input. -/
def frameLeftWrong : ChangeSpec := { name := "frameLeft", fn := fun _ => fun
  | [d] => { results := [.lit (.bool false)], args := [d] }
  | _ => none }
def FrameLeftWrongFalsely : Prop := frameLeftRow.holds Try.pinned (OpenSpec.ofChange frameLeftWrong)

/-- 'remitterlaw08.FrameActs': WHATEVER THE INPUT: true; the input reads as it did. -/
def frameActsSpec : ChangeSpec := { name := "frameActs", fn := fun _ => fun
  | [d1, d2] => { results := [.lit (.bool true)], args := [d1, d2] }
  | _ => none }
def frameActsRow : OpenClaim := { program := "yteclngkfiaoidaa", sum := "e48c1a483ca835216b2675211187cfedb0347b6aaea01007ba76890f3878a5c3", func := "remitter/remitterlaw08.FrameActs", spec := "frameActs", inPlace := ["internal/abi.NoEscape"], apart := false }
def FrameActsSaid : Prop := frameActsRow.holds Try.pinned (OpenSpec.ofChange frameActsSpec)

/-- ITS FALSE NEIGHBOUR: 'it returns false'. Refute it at one input. -/
def frameActsWrong : ChangeSpec := { name := "frameActs", fn := fun _ => fun
  | [d1, d2] => { results := [.lit (.bool false)], args := [d1, d2] }
  | _ => none }
def FrameActsWrongFalsely : Prop := frameActsRow.holds Try.pinned (OpenSpec.ofChange frameActsWrong)

/-- 'remitterlaw08.FrameParts': WHATEVER THE INPUT: true; the input reads as it did. -/
def framePartsSpec : ChangeSpec := { name := "frameParts", fn := fun _ => fun
  | [d1, d2] => { results := [.lit (.bool true)], args := [d1, d2] }
  | _ => none }
def framePartsRow : OpenClaim := { program := "yteclngkfiaoidaa", sum := "e48c1a483ca835216b2675211187cfedb0347b6aaea01007ba76890f3878a5c3", func := "remitter/remitterlaw08.FrameParts", spec := "frameParts", inPlace := ["internal/abi.NoEscape"], apart := false }
def FramePartsSaid : Prop := framePartsRow.holds Try.pinned (OpenSpec.ofChange framePartsSpec)

/-- ITS FALSE NEIGHBOUR: 'it returns false'. Refute it at one input. -/
def framePartsWrong : ChangeSpec := { name := "frameParts", fn := fun _ => fun
  | [d1, d2] => { results := [.lit (.bool false)], args := [d1, d2] }
  | _ => none }
def FramePartsWrongFalsely : Prop := framePartsRow.holds Try.pinned (OpenSpec.ofChange framePartsWrong)

/-- 'remitterlaw08.FrameBad': WHATEVER THE INPUT: true; the input reads as it did. -/
def frameBadSpec : ChangeSpec := { name := "frameBad", fn := fun _ => fun
  | [d1, d2, d3] => { results := [.lit (.bool true)], args := [d1, d2, d3] }
  | _ => none }
def frameBadRow : OpenClaim := { program := "yteclngkfiaoidaa", sum := "e48c1a483ca835216b2675211187cfedb0347b6aaea01007ba76890f3878a5c3", func := "remitter/remitterlaw08.FrameBad", spec := "frameBad", inPlace := ["internal/abi.NoEscape"], apart := false }
def FrameBadSaid : Prop := frameBadRow.holds Try.pinned (OpenSpec.ofChange frameBadSpec)

/-- ITS FALSE NEIGHBOUR: 'it returns false'. Refute it at one input. -/
def frameBadWrong : ChangeSpec := { name := "frameBad", fn := fun _ => fun
  | [d1, d2, d3] => { results := [.lit (.bool false)], args := [d1, d2, d3] }
  | _ => none }
def FrameBadWrongFalsely : Prop := frameBadRow.holds Try.pinned (OpenSpec.ofChange frameBadWrong)

/-- 'remitterlaw08.FrameLong': WHATEVER THE INPUT: true; the input reads as it did. -/
def frameLongSpec : ChangeSpec := { name := "frameLong", fn := fun _ => fun
  | [d1, d2] => { results := [.lit (.bool true)], args := [d1, d2] }
  | _ => none }
def frameLongRow : OpenClaim := { program := "yteclngkfiaoidaa", sum := "e48c1a483ca835216b2675211187cfedb0347b6aaea01007ba76890f3878a5c3", func := "remitter/remitterlaw08.FrameLong", spec := "frameLong", inPlace := ["internal/abi.NoEscape"], apart := false }
def FrameLongSaid : Prop := frameLongRow.holds Try.pinned (OpenSpec.ofChange frameLongSpec)

/-- ITS FALSE NEIGHBOUR: 'it returns false'. Refute it at one input. -/
def frameLongWrong : ChangeSpec := { name := "frameLong", fn := fun _ => fun
  | [d1, d2] => { results := [.lit (.bool false)], args := [d1, d2] }
  | _ => none }
def FrameLongWrongFalsely : Prop := frameLongRow.holds Try.pinned (OpenSpec.ofChange frameLongWrong)

/- THE SECOND FORM. 'bulk': how many values and letters a reading holds, each counted each time it is reached (what is shared counts as often as it is met; a slice's spare places count too). A statement '..UptoSaid' is the law's where the arguments, and the package variables that the reading takes, are together of bulk at most 1048576: NARROWER than '..Said'. Prove '..Said' where nothing that the law and all that it calls make is longer than what came in: it says more and counts as full. Else prove '..UptoSaid'. A law counts once. -/
mutual
def uptoBulk {H : Type} : DataW H → Nat
  | .lit (.string bytes) => bytes.length + 1
  | .lit _ => 1
  | .nil => 1
  | .ptr d => uptoBulk d + 1
  | .slice elems spare => uptoBulkAll elems + uptoBulkAll spare + 1
  | .agg parts => uptoBulkAll parts + 1
  | .iface _ d => uptoBulk d + 1
  | .map entries => uptoBulkEntries entries + 1
  | .held _ => 1
def uptoBulkAll {H : Type} : List (DataW H) → Nat
  | [] => 0
  | d :: r => uptoBulk d + uptoBulkAll r
def uptoBulkEntries {H : Type} : List (Lit × DataW H) → Nat
  | [] => 0
  | x :: r => uptoBulkEntry x + uptoBulkEntries r
def uptoBulkEntry {H : Type} : Lit × DataW H → Nat
  | (.string bytes, d) => bytes.length + uptoBulk d + 1
  | (_, d) => uptoBulk d + 1
 end
def uptoSmall : (H : Type) → List (DataW H) → Bool := fun _ ds => decide (uptoBulkAll ds ≤ 1048576)
def OpenSpec.upto (s : _root_.Go.ChangeSpec) : _root_.Go.OpenSpec := { _root_.Go.OpenSpec.ofChange s with cond := some uptoSmall }

/-- 'remitterlaw08.FrameLeft', WHERE WHAT IT READS IS OF BULK AT MOST 1048576: true; the input reads as it did. -/
def frameLeftUptoRow : OpenClaim := { program := "yteclngkfiaoidaa", sum := "e48c1a483ca835216b2675211187cfedb0347b6aaea01007ba76890f3878a5c3", func := "remitter/remitterlaw08.FrameLeft", spec := "frameLeft", inPlace := ["internal/abi.NoEscape"], apart := false, narrowed := true }
def FrameLeftUptoSaid : Prop := frameLeftUptoRow.holds Try.pinned (OpenSpec.upto frameLeftSpec)

/-- 'remitterlaw08.FrameActs', WHERE WHAT IT READS IS OF BULK AT MOST 1048576: true; the input reads as it did. -/
def frameActsUptoRow : OpenClaim := { program := "yteclngkfiaoidaa", sum := "e48c1a483ca835216b2675211187cfedb0347b6aaea01007ba76890f3878a5c3", func := "remitter/remitterlaw08.FrameActs", spec := "frameActs", inPlace := ["internal/abi.NoEscape"], apart := false, narrowed := true }
def FrameActsUptoSaid : Prop := frameActsUptoRow.holds Try.pinned (OpenSpec.upto frameActsSpec)

/-- 'remitterlaw08.FrameParts', WHERE WHAT IT READS IS OF BULK AT MOST 1048576: true; the input reads as it did. -/
def framePartsUptoRow : OpenClaim := { program := "yteclngkfiaoidaa", sum := "e48c1a483ca835216b2675211187cfedb0347b6aaea01007ba76890f3878a5c3", func := "remitter/remitterlaw08.FrameParts", spec := "frameParts", inPlace := ["internal/abi.NoEscape"], apart := false, narrowed := true }
def FramePartsUptoSaid : Prop := framePartsUptoRow.holds Try.pinned (OpenSpec.upto framePartsSpec)

/-- 'remitterlaw08.FrameBad', WHERE WHAT IT READS IS OF BULK AT MOST 1048576: true; the input reads as it did. -/
def frameBadUptoRow : OpenClaim := { program := "yteclngkfiaoidaa", sum := "e48c1a483ca835216b2675211187cfedb0347b6aaea01007ba76890f3878a5c3", func := "remitter/remitterlaw08.FrameBad", spec := "frameBad", inPlace := ["internal/abi.NoEscape"], apart := false, narrowed := true }
def FrameBadUptoSaid : Prop := frameBadUptoRow.holds Try.pinned (OpenSpec.upto frameBadSpec)

/-- 'remitterlaw08.FrameLong', WHERE WHAT IT READS IS OF BULK AT MOST 1048576: true; the input reads as it did. -/
def frameLongUptoRow : OpenClaim := { program := "yteclngkfiaoidaa", sum := "e48c1a483ca835216b2675211187cfedb0347b6aaea01007ba76890f3878a5c3", func := "remitter/remitterlaw08.FrameLong", spec := "frameLong", inPlace := ["internal/abi.NoEscape"], apart := false, narrowed := true }
def FrameLongUptoSaid : Prop := frameLongUptoRow.holds Try.pinned (OpenSpec.upto frameLongSpec)

end Rows
end Go.Proofs.Yteclngkfiaoidaa
