/-
  No cell of these rows narrows 'for every input' (looked for: loops, veiled, ifaces, maps, wideKeys, modest, calm, conditions, laid).
  DERIVED. THE GIVEN ROWS OF THIS SEAT. 6 by the template 'for every input the law returns true; each argument reads behind the call as it read before'; 0 by the template 'total and deterministic' (their statements: YtglkognlhejdiaaTotals.lean).
  GIVEN WITH THE SEED: the statements are not yours to turn. If you find one false, say at which input.
  Laid BY PROGRAM, IN A SANDBOX (cutbox-rows.mjs): the forced cells as the released guide's own fill.sh prints them over the translation 99ca5f92bb136625… (all of the seat's roots in one cut). By AI agents, Wed Nov 11 2026. No macro, syntax, notation, axiom, sorry.
-/
import Derived.Test.YtglkognlhejdiaaChecked
import GoSem.Claim
import GoSem.ClaimJoined
import GoSem.ClaimMapViews
import Derived.JoinedTies
import Derived.KernelRfl
namespace Go.Proofs.Ytglkognlhejdiaa
/- THE CELL 'sum', in the pinned program and in every row, IS THE sha256 OF THE DUMP (.gsa) THAT YtglkognlhejdiaaProg.lean LOADS. Nothing in Lean hashes anything: it is a label: what it is worth is what the hold of that sum in a sandbox is worth. -/
noncomputable def Try.pinned : Pinned := { name := "ytglkognlhejdiaa", sum := "99ca5f92bb136625f3bf69a9afd8690cd799783e781feb47eecc7a6f26c90210", checked := Try.checked }
namespace Rows
def none {H : Type} : Left H := { results := [], args := [] }

/-- 'remitterlaw06.AmountNear': WHATEVER THE INPUT: true; the input reads as it did. -/
def amountNearSpec : ChangeSpec := { name := "amountNear", fn := fun _ => fun
  | [d1, d2, d3] => { results := [.lit (.bool true)], args := [d1, d2, d3] }
  | _ => none }
def amountNearRow : OpenClaim := { program := "ytglkognlhejdiaa", sum := "99ca5f92bb136625f3bf69a9afd8690cd799783e781feb47eecc7a6f26c90210", func := "remitter/remitterlaw06.AmountNear", spec := "amountNear", named := ["math/bits.divideError", "math/bits.overflowError"], apart := false }
def AmountNearSaid : Prop := amountNearRow.holds Try.pinned (OpenSpec.ofChange amountNearSpec)

/-- ITS FALSE NEIGHBOUR: 'it returns false'. Refute it at one input. -/
def amountNearWrong : ChangeSpec := { name := "amountNear", fn := fun _ => fun
  | [d1, d2, d3] => { results := [.lit (.bool false)], args := [d1, d2, d3] }
  | _ => none }
def AmountNearWrongFalsely : Prop := amountNearRow.holds Try.pinned (OpenSpec.ofChange amountNearWrong)

/-- 'remitterlaw06.AmountParted': WHATEVER THE INPUT: true; the input reads as it did. -/
def amountPartedSpec : ChangeSpec := { name := "amountParted", fn := fun _ => fun
  | [d1, d2, d3] => { results := [.lit (.bool true)], args := [d1, d2, d3] }
  | _ => none }
def amountPartedRow : OpenClaim := { program := "ytglkognlhejdiaa", sum := "99ca5f92bb136625f3bf69a9afd8690cd799783e781feb47eecc7a6f26c90210", func := "remitter/remitterlaw06.AmountParted", spec := "amountParted", named := ["math/bits.divideError", "math/bits.overflowError"], apart := false }
def AmountPartedSaid : Prop := amountPartedRow.holds Try.pinned (OpenSpec.ofChange amountPartedSpec)

/-- ITS FALSE NEIGHBOUR: 'it returns false'. Refute it at one input. -/
def amountPartedWrong : ChangeSpec := { name := "amountParted", fn := fun _ => fun
  | [d1, d2, d3] => { results := [.lit (.bool false)], args := [d1, d2, d3] }
  | _ => none }
def AmountPartedWrongFalsely : Prop := amountPartedRow.holds Try.pinned (OpenSpec.ofChange amountPartedWrong)

/-- 'remitterlaw06.AmountParts': WHATEVER THE INPUT: true; the input reads as it did. -/
def amountPartsSpec : ChangeSpec := { name := "amountParts", fn := fun _ => fun
  | [d1, d2, d3] => { results := [.lit (.bool true)], args := [d1, d2, d3] }
  | _ => none }
def amountPartsRow : OpenClaim := { program := "ytglkognlhejdiaa", sum := "99ca5f92bb136625f3bf69a9afd8690cd799783e781feb47eecc7a6f26c90210", func := "remitter/remitterlaw06.AmountParts", spec := "amountParts", inPlace := ["math/bits.Sub64"], named := ["math/bits.divideError", "math/bits.overflowError"], apart := false }
def AmountPartsSaid : Prop := amountPartsRow.holds Try.pinned (OpenSpec.ofChange amountPartsSpec)

/-- ITS FALSE NEIGHBOUR: 'it returns false'. Refute it at one input. -/
def amountPartsWrong : ChangeSpec := { name := "amountParts", fn := fun _ => fun
  | [d1, d2, d3] => { results := [.lit (.bool false)], args := [d1, d2, d3] }
  | _ => none }
def AmountPartsWrongFalsely : Prop := amountPartsRow.holds Try.pinned (OpenSpec.ofChange amountPartsWrong)

/-- 'remitterlaw06.AmountTells': WHATEVER THE INPUT: true; the input reads as it did. -/
def amountTellsSpec : ChangeSpec := { name := "amountTells", fn := fun _ => fun
  | [d1, d2, d3, d4, d5] => { results := [.lit (.bool true)], args := [d1, d2, d3, d4, d5] }
  | _ => none }
def amountTellsRow : OpenClaim := { program := "ytglkognlhejdiaa", sum := "99ca5f92bb136625f3bf69a9afd8690cd799783e781feb47eecc7a6f26c90210", func := "remitter/remitterlaw06.AmountTells", spec := "amountTells", inPlace := ["math/bits.Sub64"], named := ["math/bits.divideError", "math/bits.overflowError"], apart := false }
def AmountTellsSaid : Prop := amountTellsRow.holds Try.pinned (OpenSpec.ofChange amountTellsSpec)

/-- ITS FALSE NEIGHBOUR: 'it returns false'. Refute it at one input. -/
def amountTellsWrong : ChangeSpec := { name := "amountTells", fn := fun _ => fun
  | [d1, d2, d3, d4, d5] => { results := [.lit (.bool false)], args := [d1, d2, d3, d4, d5] }
  | _ => none }
def AmountTellsWrongFalsely : Prop := amountTellsRow.holds Try.pinned (OpenSpec.ofChange amountTellsWrong)

/-- 'remitterlaw06.AmountRises': WHATEVER THE INPUT: true; the input reads as it did. -/
def amountRisesSpec : ChangeSpec := { name := "amountRises", fn := fun _ => fun
  | [d1, d2, d3, d4, d5] => { results := [.lit (.bool true)], args := [d1, d2, d3, d4, d5] }
  | _ => none }
def amountRisesRow : OpenClaim := { program := "ytglkognlhejdiaa", sum := "99ca5f92bb136625f3bf69a9afd8690cd799783e781feb47eecc7a6f26c90210", func := "remitter/remitterlaw06.AmountRises", spec := "amountRises", inPlace := ["math/bits.Sub64"], named := ["math/bits.divideError", "math/bits.overflowError"], apart := false }
def AmountRisesSaid : Prop := amountRisesRow.holds Try.pinned (OpenSpec.ofChange amountRisesSpec)

/-- ITS FALSE NEIGHBOUR: 'it returns false'. Refute it at one input. -/
def amountRisesWrong : ChangeSpec := { name := "amountRises", fn := fun _ => fun
  | [d1, d2, d3, d4, d5] => { results := [.lit (.bool false)], args := [d1, d2, d3, d4, d5] }
  | _ => none }
def AmountRisesWrongFalsely : Prop := amountRisesRow.holds Try.pinned (OpenSpec.ofChange amountRisesWrong)

/-- 'remitterlaw06.AmountMost': WHATEVER THE INPUT: true; the input reads as it did. -/
def amountMostSpec : ChangeSpec := { name := "amountMost", fn := fun _ => fun
  | [d1, d2, d3] => { results := [.lit (.bool true)], args := [d1, d2, d3] }
  | _ => none }
def amountMostRow : OpenClaim := { program := "ytglkognlhejdiaa", sum := "99ca5f92bb136625f3bf69a9afd8690cd799783e781feb47eecc7a6f26c90210", func := "remitter/remitterlaw06.AmountMost", spec := "amountMost", inPlace := ["math/bits.Sub64"], unfollowed := true, recurses := true, named := ["math/bits.divideError", "math/bits.overflowError"], apart := false }
def AmountMostSaid : Prop := amountMostRow.holds Try.pinned (OpenSpec.ofChange amountMostSpec)

/-- ITS FALSE NEIGHBOUR: 'it returns false'. Refute it at one input. -/
def amountMostWrong : ChangeSpec := { name := "amountMost", fn := fun _ => fun
  | [d1, d2, d3] => { results := [.lit (.bool false)], args := [d1, d2, d3] }
  | _ => none }
def AmountMostWrongFalsely : Prop := amountMostRow.holds Try.pinned (OpenSpec.ofChange amountMostWrong)

/- THE SECOND FORM. 'bulk': how many values and letters a reading holds, each counted each time it is reached (what is shared counts as often as it is met; a slice's spare places count too). A statement '..UptoSaid' is the law's where the arguments, and the package variables that the reading takes, are together of bulk at most 1048576: NARROWER than '..Said'. Prove '..Said' where nothing that the law and all that it calls make is longer than what came in: it says more and counts as full. Else prove '..UptoSaid'. A law counts once. -/
mutual
def uptoBulk {H : Type} : DataW H → Nat
  | .lit (.string bytes) => bytes.length + 1
  | .lit _ => 1
  | .nil => 1
  | .ptr d => uptoBulk d + 1
  | .slice elems spare => uptoBulkAll elems + uptoBulkAll spare + 1
  | .agg parts => uptoBulkAll parts + 1
  | .iface _ d => uptoBulk d + 1
  | .map entries => uptoBulkEntries entries + 1
  | .held _ => 1
def uptoBulkAll {H : Type} : List (DataW H) → Nat
  | [] => 0
  | d :: r => uptoBulk d + uptoBulkAll r
def uptoBulkEntries {H : Type} : List (Lit × DataW H) → Nat
  | [] => 0
  | x :: r => uptoBulkEntry x + uptoBulkEntries r
def uptoBulkEntry {H : Type} : Lit × DataW H → Nat
  | (.string bytes, d) => bytes.length + uptoBulk d + 1
  | (_, d) => uptoBulk d + 1
 end
def uptoSmall : (H : Type) → List (DataW H) → Bool := fun _ ds => decide (uptoBulkAll ds ≤ 1048576)
def OpenSpec.upto (s : _root_.Go.ChangeSpec) : _root_.Go.OpenSpec := { _root_.Go.OpenSpec.ofChange s with cond := some uptoSmall }

/-- 'remitterlaw06.AmountNear', WHERE WHAT IT READS IS OF BULK AT MOST 1048576: true; the input reads as it did. -/
def amountNearUptoRow : OpenClaim := { program := "ytglkognlhejdiaa", sum := "99ca5f92bb136625f3bf69a9afd8690cd799783e781feb47eecc7a6f26c90210", func := "remitter/remitterlaw06.AmountNear", spec := "amountNear", named := ["math/bits.divideError", "math/bits.overflowError"], apart := false, narrowed := true }
def AmountNearUptoSaid : Prop := amountNearUptoRow.holds Try.pinned (OpenSpec.upto amountNearSpec)

/-- 'remitterlaw06.AmountParted', WHERE WHAT IT READS IS OF BULK AT MOST 1048576: true; the input reads as it did. -/
def amountPartedUptoRow : OpenClaim := { program := "ytglkognlhejdiaa", sum := "99ca5f92bb136625f3bf69a9afd8690cd799783e781feb47eecc7a6f26c90210", func := "remitter/remitterlaw06.AmountParted", spec := "amountParted", named := ["math/bits.divideError", "math/bits.overflowError"], apart := false, narrowed := true }
def AmountPartedUptoSaid : Prop := amountPartedUptoRow.holds Try.pinned (OpenSpec.upto amountPartedSpec)

/-- 'remitterlaw06.AmountParts', WHERE WHAT IT READS IS OF BULK AT MOST 1048576: true; the input reads as it did. -/
def amountPartsUptoRow : OpenClaim := { program := "ytglkognlhejdiaa", sum := "99ca5f92bb136625f3bf69a9afd8690cd799783e781feb47eecc7a6f26c90210", func := "remitter/remitterlaw06.AmountParts", spec := "amountParts", inPlace := ["math/bits.Sub64"], named := ["math/bits.divideError", "math/bits.overflowError"], apart := false, narrowed := true }
def AmountPartsUptoSaid : Prop := amountPartsUptoRow.holds Try.pinned (OpenSpec.upto amountPartsSpec)

/-- 'remitterlaw06.AmountTells', WHERE WHAT IT READS IS OF BULK AT MOST 1048576: true; the input reads as it did. -/
def amountTellsUptoRow : OpenClaim := { program := "ytglkognlhejdiaa", sum := "99ca5f92bb136625f3bf69a9afd8690cd799783e781feb47eecc7a6f26c90210", func := "remitter/remitterlaw06.AmountTells", spec := "amountTells", inPlace := ["math/bits.Sub64"], named := ["math/bits.divideError", "math/bits.overflowError"], apart := false, narrowed := true }
def AmountTellsUptoSaid : Prop := amountTellsUptoRow.holds Try.pinned (OpenSpec.upto amountTellsSpec)

/-- 'remitterlaw06.AmountRises', WHERE WHAT IT READS IS OF BULK AT MOST 1048576: true; the input reads as it did. -/
def amountRisesUptoRow : OpenClaim := { program := "ytglkognlhejdiaa", sum := "99ca5f92bb136625f3bf69a9afd8690cd799783e781feb47eecc7a6f26c90210", func := "remitter/remitterlaw06.AmountRises", spec := "amountRises", inPlace := ["math/bits.Sub64"], named := ["math/bits.divideError", "math/bits.overflowError"], apart := false, narrowed := true }
def AmountRisesUptoSaid : Prop := amountRisesUptoRow.holds Try.pinned (OpenSpec.upto amountRisesSpec)

/-- 'remitterlaw06.AmountMost', WHERE WHAT IT READS IS OF BULK AT MOST 1048576: true; the input reads as it did. -/
def amountMostUptoRow : OpenClaim := { program := "ytglkognlhejdiaa", sum := "99ca5f92bb136625f3bf69a9afd8690cd799783e781feb47eecc7a6f26c90210", func := "remitter/remitterlaw06.AmountMost", spec := "amountMost", inPlace := ["math/bits.Sub64"], unfollowed := true, recurses := true, named := ["math/bits.divideError", "math/bits.overflowError"], apart := false, narrowed := true }
def AmountMostUptoSaid : Prop := amountMostUptoRow.holds Try.pinned (OpenSpec.upto amountMostSpec)

end Rows
end Go.Proofs.Ytglkognlhejdiaa
