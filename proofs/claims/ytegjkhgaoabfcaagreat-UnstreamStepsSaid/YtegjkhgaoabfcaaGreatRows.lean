/-
  No cell of these rows narrows 'for every input' (looked for: loops, veiled, ifaces, maps, wideKeys, modest, calm, conditions, laid).
  DERIVED. THE GIVEN ROWS OF THIS SEAT. 8 by the template 'for every input the law returns true; each argument reads behind the call as it read before'; 0 by the template 'total and deterministic' (their statements: YtegjkhgaoabfcaaGreatTotals.lean).
  GIVEN WITH THE SEED: the statements are not yours to turn. If you find one false, say at which input.
  Laid BY PROGRAM, IN A SANDBOX (cutbox-rows.mjs): the forced cells as the released guide's own fill.sh prints them over the translation 8c12afbf46b5dd86… (all of the seat's roots in one cut). By AI agents, Wed Nov 11 2026. No macro, syntax, notation, axiom, sorry.
-/
import Derived.Test.YtegjkhgaoabfcaaGreatChecked
import GoSem.Claim
import GoSem.ClaimJoined
import GoSem.ClaimMapViews
import Derived.JoinedTies
import Derived.KernelRfl
namespace Go.Proofs.YtegjkhgaoabfcaaGreat
/- THE CELL 'sum', in the pinned program and in every row, IS THE sha256 OF THE DUMP (.gsa) THAT YtegjkhgaoabfcaaGreatProg.lean LOADS. Nothing in Lean hashes anything: it is a label: what it is worth is what the hold of that sum in a sandbox is worth. -/
noncomputable def Tryz.pinned : Pinned := { name := "ytegjkhgaoabfcaagreat", sum := "8c12afbf46b5dd86b2c3245d424e61976476b019e869da11faf169bba4c8b857", checked := Tryz.checked }
namespace Rows
def none {H : Type} : Left H := { results := [], args := [] }

/-- 'balerlaw22.UnstreamWith': WHATEVER THE INPUT: true; the input reads as it did. -/
def unstreamWithSpec : ChangeSpec := { name := "unstreamWith", fn := fun _ => fun
  | [d1, d2] => { results := [.lit (.bool true)], args := [d1, d2] }
  | _ => none }
def unstreamWithRow : OpenClaim := { program := "ytegjkhgaoabfcaagreat", sum := "8c12afbf46b5dd86b2c3245d424e61976476b019e869da11faf169bba4c8b857", func := "baler/balerlaw22.UnstreamWith", spec := "unstreamWith", inPlace := ["internal/abi.NoEscape"], unfollowed := true, recurses := true, apart := false }
def UnstreamWithSaid : Prop := unstreamWithRow.holds Tryz.pinned (OpenSpec.ofChange unstreamWithSpec)

/-- ITS FALSE NEIGHBOUR: 'it returns false'. Refute it at one input. -/
def unstreamWithWrong : ChangeSpec := { name := "unstreamWith", fn := fun _ => fun
  | [d1, d2] => { results := [.lit (.bool false)], args := [d1, d2] }
  | _ => none }
def UnstreamWithWrongFalsely : Prop := unstreamWithRow.holds Tryz.pinned (OpenSpec.ofChange unstreamWithWrong)

/-- 'balerlaw22.UnstreamDecodes': WHATEVER THE INPUT: true; the input reads as it did. -/
def unstreamDecodesSpec : ChangeSpec := { name := "unstreamDecodes", fn := fun _ => fun
  | [d] => { results := [.lit (.bool true)], args := [d] }
  | _ => none }
def unstreamDecodesRow : OpenClaim := { program := "ytegjkhgaoabfcaagreat", sum := "8c12afbf46b5dd86b2c3245d424e61976476b019e869da11faf169bba4c8b857", func := "baler/balerlaw22.UnstreamDecodes", spec := "unstreamDecodes", inPlace := ["internal/abi.NoEscape"], unfollowed := true, recurses := true, apart := false }
def UnstreamDecodesSaid : Prop := unstreamDecodesRow.holds Tryz.pinned (OpenSpec.ofChange unstreamDecodesSpec)

/-- ITS FALSE NEIGHBOUR: 'it returns false'. Refute it at one input. -/
def unstreamDecodesWrong : ChangeSpec := { name := "unstreamDecodes", fn := fun _ => fun
  | [d] => { results := [.lit (.bool false)], args := [d] }
  | _ => none }
def UnstreamDecodesWrongFalsely : Prop := unstreamDecodesRow.holds Tryz.pinned (OpenSpec.ofChange unstreamDecodesWrong)

/-- 'balerlaw22.UnstreamSteps': WHATEVER THE INPUT: true; the input reads as it did. -/
def unstreamStepsSpec : ChangeSpec := { name := "unstreamSteps", fn := fun _ => fun
  | [d1, d2, d3] => { results := [.lit (.bool true)], args := [d1, d2, d3] }
  | _ => none }
def unstreamStepsRow : OpenClaim := { program := "ytegjkhgaoabfcaagreat", sum := "8c12afbf46b5dd86b2c3245d424e61976476b019e869da11faf169bba4c8b857", func := "baler/balerlaw22.UnstreamSteps", spec := "unstreamSteps", inPlace := ["internal/abi.NoEscape"], unfollowed := true, recurses := true, apart := false }
def UnstreamStepsSaid : Prop := unstreamStepsRow.holds Tryz.pinned (OpenSpec.ofChange unstreamStepsSpec)

/-- ITS FALSE NEIGHBOUR: 'it returns false'. Refute it at one input. -/
def unstreamStepsWrong : ChangeSpec := { name := "unstreamSteps", fn := fun _ => fun
  | [d1, d2, d3] => { results := [.lit (.bool false)], args := [d1, d2, d3] }
  | _ => none }
def UnstreamStepsWrongFalsely : Prop := unstreamStepsRow.holds Tryz.pinned (OpenSpec.ofChange unstreamStepsWrong)

/-- 'balerlaw47.InspectParts': WHATEVER THE INPUT: true; the input reads as it did. -/
def inspectPartsSpec : ChangeSpec := { name := "inspectParts", fn := fun _ => fun
  | [d1, d2] => { results := [.lit (.bool true)], args := [d1, d2] }
  | _ => none }
def inspectPartsRow : OpenClaim := { program := "ytegjkhgaoabfcaagreat", sum := "8c12afbf46b5dd86b2c3245d424e61976476b019e869da11faf169bba4c8b857", func := "baler/balerlaw47.InspectParts", spec := "inspectParts", inPlace := ["internal/abi.NoEscape"], unfollowed := true, recurses := true, apart := false }
def InspectPartsSaid : Prop := inspectPartsRow.holds Tryz.pinned (OpenSpec.ofChange inspectPartsSpec)

/-- ITS FALSE NEIGHBOUR: 'it returns false'. Refute it at one input. -/
def inspectPartsWrong : ChangeSpec := { name := "inspectParts", fn := fun _ => fun
  | [d1, d2] => { results := [.lit (.bool false)], args := [d1, d2] }
  | _ => none }
def InspectPartsWrongFalsely : Prop := inspectPartsRow.holds Tryz.pinned (OpenSpec.ofChange inspectPartsWrong)

/-- 'balerlaw47.InspectWhole': WHATEVER THE INPUT: true; the input reads as it did. -/
def inspectWholeSpec : ChangeSpec := { name := "inspectWhole", fn := fun _ => fun
  | [d1, d2, d3] => { results := [.lit (.bool true)], args := [d1, d2, d3] }
  | _ => none }
def inspectWholeRow : OpenClaim := { program := "ytegjkhgaoabfcaagreat", sum := "8c12afbf46b5dd86b2c3245d424e61976476b019e869da11faf169bba4c8b857", func := "baler/balerlaw47.InspectWhole", spec := "inspectWhole", inPlace := ["internal/abi.NoEscape"], unfollowed := true, recurses := true, apart := false }
def InspectWholeSaid : Prop := inspectWholeRow.holds Tryz.pinned (OpenSpec.ofChange inspectWholeSpec)

/-- ITS FALSE NEIGHBOUR: 'it returns false'. Refute it at one input. -/
def inspectWholeWrong : ChangeSpec := { name := "inspectWhole", fn := fun _ => fun
  | [d1, d2, d3] => { results := [.lit (.bool false)], args := [d1, d2, d3] }
  | _ => none }
def InspectWholeWrongFalsely : Prop := inspectWholeRow.holds Tryz.pinned (OpenSpec.ofChange inspectWholeWrong)

/-- 'balerlaw24.UnpressPrefix': WHATEVER THE INPUT: true; the input reads as it did. -/
def unpressPrefixSpec : ChangeSpec := { name := "unpressPrefix", fn := fun _ => fun
  | [d1, d2, d3] => { results := [.lit (.bool true)], args := [d1, d2, d3] }
  | _ => none }
def unpressPrefixRow : OpenClaim := { program := "ytegjkhgaoabfcaagreat", sum := "8c12afbf46b5dd86b2c3245d424e61976476b019e869da11faf169bba4c8b857", func := "baler/balerlaw24.UnpressPrefix", spec := "unpressPrefix", inPlace := ["internal/abi.NoEscape", "internal/bytealg.MakeNoZero"], unfollowed := true, recurses := true, apart := false }
def UnpressPrefixSaid : Prop := unpressPrefixRow.holds Tryz.pinned (OpenSpec.ofChange unpressPrefixSpec)

/-- ITS FALSE NEIGHBOUR: 'it returns false'. Refute it at one input. -/
def unpressPrefixWrong : ChangeSpec := { name := "unpressPrefix", fn := fun _ => fun
  | [d1, d2, d3] => { results := [.lit (.bool false)], args := [d1, d2, d3] }
  | _ => none }
def UnpressPrefixWrongFalsely : Prop := unpressPrefixRow.holds Tryz.pinned (OpenSpec.ofChange unpressPrefixWrong)

/-- 'balerlaw24.UnpressActs': WHATEVER THE INPUT: true; the input reads as it did. -/
def unpressActsSpec : ChangeSpec := { name := "unpressActs", fn := fun _ => fun
  | [d1, d2, d3] => { results := [.lit (.bool true)], args := [d1, d2, d3] }
  | _ => none }
def unpressActsRow : OpenClaim := { program := "ytegjkhgaoabfcaagreat", sum := "8c12afbf46b5dd86b2c3245d424e61976476b019e869da11faf169bba4c8b857", func := "baler/balerlaw24.UnpressActs", spec := "unpressActs", inPlace := ["internal/abi.NoEscape", "internal/bytealg.MakeNoZero"], unfollowed := true, recurses := true, apart := false }
def UnpressActsSaid : Prop := unpressActsRow.holds Tryz.pinned (OpenSpec.ofChange unpressActsSpec)

/-- ITS FALSE NEIGHBOUR: 'it returns false'. Refute it at one input. -/
def unpressActsWrong : ChangeSpec := { name := "unpressActs", fn := fun _ => fun
  | [d1, d2, d3] => { results := [.lit (.bool false)], args := [d1, d2, d3] }
  | _ => none }
def UnpressActsWrongFalsely : Prop := unpressActsRow.holds Tryz.pinned (OpenSpec.ofChange unpressActsWrong)

/-- 'balerlaw25.TesterActs': WHATEVER THE INPUT: true; the input reads as it did. -/
def testerActsSpec : ChangeSpec := { name := "testerActs", fn := fun _ => fun
  | [d1, d2, d3] => { results := [.lit (.bool true)], args := [d1, d2, d3] }
  | _ => none }
def testerActsRow : OpenClaim := { program := "ytegjkhgaoabfcaagreat", sum := "8c12afbf46b5dd86b2c3245d424e61976476b019e869da11faf169bba4c8b857", func := "baler/balerlaw25.TesterActs", spec := "testerActs", inPlace := ["internal/abi.NoEscape", "internal/bytealg.MakeNoZero"], unfollowed := true, recurses := true, apart := false }
def TesterActsSaid : Prop := testerActsRow.holds Tryz.pinned (OpenSpec.ofChange testerActsSpec)

/-- ITS FALSE NEIGHBOUR: 'it returns false'. Refute it at one input. -/
def testerActsWrong : ChangeSpec := { name := "testerActs", fn := fun _ => fun
  | [d1, d2, d3] => { results := [.lit (.bool false)], args := [d1, d2, d3] }
  | _ => none }
def TesterActsWrongFalsely : Prop := testerActsRow.holds Tryz.pinned (OpenSpec.ofChange testerActsWrong)

/- THE SECOND FORM. 'bulk': how many values and letters a reading holds, each counted each time it is reached (what is shared counts as often as it is met; a slice's spare places count too). A statement '..UptoSaid' is the law's where the arguments, and the package variables that the reading takes, are together of bulk at most 1048576: NARROWER than '..Said'. Prove '..Said' where nothing that the law and all that it calls make is longer than what came in: it says more and counts as full. Else prove '..UptoSaid'. A law counts once. -/
mutual
def uptoBulk {H : Type} : DataW H → Nat
  | .lit (.string bytes) => bytes.length + 1
  | .lit _ => 1
  | .nil => 1
  | .ptr d => uptoBulk d + 1
  | .slice elems spare => uptoBulkAll elems + uptoBulkAll spare + 1
  | .agg parts => uptoBulkAll parts + 1
  | .iface _ d => uptoBulk d + 1
  | .map entries => uptoBulkEntries entries + 1
  | .held _ => 1
def uptoBulkAll {H : Type} : List (DataW H) → Nat
  | [] => 0
  | d :: r => uptoBulk d + uptoBulkAll r
def uptoBulkEntries {H : Type} : List (Lit × DataW H) → Nat
  | [] => 0
  | x :: r => uptoBulkEntry x + uptoBulkEntries r
def uptoBulkEntry {H : Type} : Lit × DataW H → Nat
  | (.string bytes, d) => bytes.length + uptoBulk d + 1
  | (_, d) => uptoBulk d + 1
 end
def uptoSmall : (H : Type) → List (DataW H) → Bool := fun _ ds => decide (uptoBulkAll ds ≤ 1048576)
def OpenSpec.upto (s : _root_.Go.ChangeSpec) : _root_.Go.OpenSpec := { _root_.Go.OpenSpec.ofChange s with cond := some uptoSmall }

/-- 'balerlaw22.UnstreamWith', WHERE WHAT IT READS IS OF BULK AT MOST 1048576: true; the input reads as it did. -/
def unstreamWithUptoRow : OpenClaim := { program := "ytegjkhgaoabfcaagreat", sum := "8c12afbf46b5dd86b2c3245d424e61976476b019e869da11faf169bba4c8b857", func := "baler/balerlaw22.UnstreamWith", spec := "unstreamWith", inPlace := ["internal/abi.NoEscape"], unfollowed := true, recurses := true, apart := false, narrowed := true }
def UnstreamWithUptoSaid : Prop := unstreamWithUptoRow.holds Tryz.pinned (OpenSpec.upto unstreamWithSpec)

/-- 'balerlaw22.UnstreamDecodes', WHERE WHAT IT READS IS OF BULK AT MOST 1048576: true; the input reads as it did. -/
def unstreamDecodesUptoRow : OpenClaim := { program := "ytegjkhgaoabfcaagreat", sum := "8c12afbf46b5dd86b2c3245d424e61976476b019e869da11faf169bba4c8b857", func := "baler/balerlaw22.UnstreamDecodes", spec := "unstreamDecodes", inPlace := ["internal/abi.NoEscape"], unfollowed := true, recurses := true, apart := false, narrowed := true }
def UnstreamDecodesUptoSaid : Prop := unstreamDecodesUptoRow.holds Tryz.pinned (OpenSpec.upto unstreamDecodesSpec)

/-- 'balerlaw22.UnstreamSteps', WHERE WHAT IT READS IS OF BULK AT MOST 1048576: true; the input reads as it did. -/
def unstreamStepsUptoRow : OpenClaim := { program := "ytegjkhgaoabfcaagreat", sum := "8c12afbf46b5dd86b2c3245d424e61976476b019e869da11faf169bba4c8b857", func := "baler/balerlaw22.UnstreamSteps", spec := "unstreamSteps", inPlace := ["internal/abi.NoEscape"], unfollowed := true, recurses := true, apart := false, narrowed := true }
def UnstreamStepsUptoSaid : Prop := unstreamStepsUptoRow.holds Tryz.pinned (OpenSpec.upto unstreamStepsSpec)

/-- 'balerlaw47.InspectParts', WHERE WHAT IT READS IS OF BULK AT MOST 1048576: true; the input reads as it did. -/
def inspectPartsUptoRow : OpenClaim := { program := "ytegjkhgaoabfcaagreat", sum := "8c12afbf46b5dd86b2c3245d424e61976476b019e869da11faf169bba4c8b857", func := "baler/balerlaw47.InspectParts", spec := "inspectParts", inPlace := ["internal/abi.NoEscape"], unfollowed := true, recurses := true, apart := false, narrowed := true }
def InspectPartsUptoSaid : Prop := inspectPartsUptoRow.holds Tryz.pinned (OpenSpec.upto inspectPartsSpec)

/-- 'balerlaw47.InspectWhole', WHERE WHAT IT READS IS OF BULK AT MOST 1048576: true; the input reads as it did. -/
def inspectWholeUptoRow : OpenClaim := { program := "ytegjkhgaoabfcaagreat", sum := "8c12afbf46b5dd86b2c3245d424e61976476b019e869da11faf169bba4c8b857", func := "baler/balerlaw47.InspectWhole", spec := "inspectWhole", inPlace := ["internal/abi.NoEscape"], unfollowed := true, recurses := true, apart := false, narrowed := true }
def InspectWholeUptoSaid : Prop := inspectWholeUptoRow.holds Tryz.pinned (OpenSpec.upto inspectWholeSpec)

/-- 'balerlaw24.UnpressPrefix', WHERE WHAT IT READS IS OF BULK AT MOST 1048576: true; the input reads as it did. -/
def unpressPrefixUptoRow : OpenClaim := { program := "ytegjkhgaoabfcaagreat", sum := "8c12afbf46b5dd86b2c3245d424e61976476b019e869da11faf169bba4c8b857", func := "baler/balerlaw24.UnpressPrefix", spec := "unpressPrefix", inPlace := ["internal/abi.NoEscape", "internal/bytealg.MakeNoZero"], unfollowed := true, recurses := true, apart := false, narrowed := true }
def UnpressPrefixUptoSaid : Prop := unpressPrefixUptoRow.holds Tryz.pinned (OpenSpec.upto unpressPrefixSpec)

/-- 'balerlaw24.UnpressActs', WHERE WHAT IT READS IS OF BULK AT MOST 1048576: true; the input reads as it did. -/
def unpressActsUptoRow : OpenClaim := { program := "ytegjkhgaoabfcaagreat", sum := "8c12afbf46b5dd86b2c3245d424e61976476b019e869da11faf169bba4c8b857", func := "baler/balerlaw24.UnpressActs", spec := "unpressActs", inPlace := ["internal/abi.NoEscape", "internal/bytealg.MakeNoZero"], unfollowed := true, recurses := true, apart := false, narrowed := true }
def UnpressActsUptoSaid : Prop := unpressActsUptoRow.holds Tryz.pinned (OpenSpec.upto unpressActsSpec)

/-- 'balerlaw25.TesterActs', WHERE WHAT IT READS IS OF BULK AT MOST 1048576: true; the input reads as it did. -/
def testerActsUptoRow : OpenClaim := { program := "ytegjkhgaoabfcaagreat", sum := "8c12afbf46b5dd86b2c3245d424e61976476b019e869da11faf169bba4c8b857", func := "baler/balerlaw25.TesterActs", spec := "testerActs", inPlace := ["internal/abi.NoEscape", "internal/bytealg.MakeNoZero"], unfollowed := true, recurses := true, apart := false, narrowed := true }
def TesterActsUptoSaid : Prop := testerActsUptoRow.holds Tryz.pinned (OpenSpec.upto testerActsSpec)

end Rows
end Go.Proofs.YtegjkhgaoabfcaaGreat
