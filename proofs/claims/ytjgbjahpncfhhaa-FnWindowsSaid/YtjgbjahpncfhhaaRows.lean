/-
  No cell of these rows narrows 'for every input' (looked for: loops, veiled, ifaces, maps, wideKeys, modest, calm, conditions, laid).
  DERIVED. THE GIVEN ROWS OF THIS SEAT. 10 by the template 'for every input the law returns true; each argument reads behind the call as it read before'; 0 by the template 'total and deterministic' (their statements: YtjgbjahpncfhhaaTotals.lean).
  GIVEN WITH THE SEED: the statements are not yours to turn. If you find one false, say at which input.
  Laid BY PROGRAM, IN A SANDBOX (cutbox-rows.mjs): the forced cells as the released guide's own fill.sh prints them over the translation 1d1c7b4bf68a2077… (all of the seat's roots in one cut). By AI agents, Wed Nov 11 2026. No macro, syntax, notation, axiom, sorry.
-/
import Derived.Test.YtjgbjahpncfhhaaChecked
import GoSem.Claim
import GoSem.ClaimJoined
import GoSem.ClaimMapViews
import Derived.JoinedTies
import Derived.KernelRfl
namespace Go.Proofs.Ytjgbjahpncfhhaa
/- THE CELL 'sum', in the pinned program and in every row, IS THE sha256 OF THE DUMP (.gsa) THAT YtjgbjahpncfhhaaProg.lean LOADS. Nothing in Lean hashes anything: it is a label: what it is worth is what the hold of that sum in a sandbox is worth. -/
noncomputable def Try.pinned : Pinned := { name := "ytjgbjahpncfhhaa", sum := "1d1c7b4bf68a20775c6f439da5269e16c25f24e77d7b9b02c67f8f6c32153756", checked := Try.checked }
namespace Rows
def none {H : Type} : Left H := { results := [], args := [] }

/-- 'laws.FnExactShare': WHATEVER THE INPUT: true; the input reads as it did. -/
def fnExactShareSpec : ChangeSpec := { name := "fnExactShare", fn := fun _ => fun
  | [d1, d2] => { results := [.lit (.bool true)], args := [d1, d2] }
  | _ => none }
def fnExactShareRow : OpenClaim := { program := "ytjgbjahpncfhhaa", sum := "1d1c7b4bf68a20775c6f439da5269e16c25f24e77d7b9b02c67f8f6c32153756", func := "loop.example/g00063/laws.FnExactShare", spec := "fnExactShare", unfollowed := true, recurses := true, apart := false }
def FnExactShareSaid : Prop := fnExactShareRow.holds Try.pinned (OpenSpec.ofChange fnExactShareSpec)

/-- ITS FALSE NEIGHBOUR: 'it returns false'. Refute it at one input. -/
def fnExactShareWrong : ChangeSpec := { name := "fnExactShare", fn := fun _ => fun
  | [d1, d2] => { results := [.lit (.bool false)], args := [d1, d2] }
  | _ => none }
def FnExactShareWrongFalsely : Prop := fnExactShareRow.holds Try.pinned (OpenSpec.ofChange fnExactShareWrong)

/-- 'laws.FnRecords': WHATEVER THE INPUT: true; the input reads as it did. -/
def fnRecordsSpec : ChangeSpec := { name := "fnRecords", fn := fun _ => fun
  | [d] => { results := [.lit (.bool true)], args := [d] }
  | _ => none }
def fnRecordsRow : OpenClaim := { program := "ytjgbjahpncfhhaa", sum := "1d1c7b4bf68a20775c6f439da5269e16c25f24e77d7b9b02c67f8f6c32153756", func := "loop.example/g00063/laws.FnRecords", spec := "fnRecords", apart := false }
def FnRecordsSaid : Prop := fnRecordsRow.holds Try.pinned (OpenSpec.ofChange fnRecordsSpec)

/-- ITS FALSE NEIGHBOUR: 'it returns false'. Refute it at one input. -/
def fnRecordsWrong : ChangeSpec := { name := "fnRecords", fn := fun _ => fun
  | [d] => { results := [.lit (.bool false)], args := [d] }
  | _ => none }
def FnRecordsWrongFalsely : Prop := fnRecordsRow.holds Try.pinned (OpenSpec.ofChange fnRecordsWrong)

/-- 'laws.FnExactFitWindow': WHATEVER THE INPUT: true; the input reads as it did. -/
def fnExactFitWindowSpec : ChangeSpec := { name := "fnExactFitWindow", fn := fun _ => fun
  | [d1, d2, d3] => { results := [.lit (.bool true)], args := [d1, d2, d3] }
  | _ => none }
def fnExactFitWindowRow : OpenClaim := { program := "ytjgbjahpncfhhaa", sum := "1d1c7b4bf68a20775c6f439da5269e16c25f24e77d7b9b02c67f8f6c32153756", func := "loop.example/g00063/laws.FnExactFitWindow", spec := "fnExactFitWindow", inPlace := ["slices.overlaps[loop.example/g00063/impl.Window]"], apart := false }
def FnExactFitWindowSaid : Prop := fnExactFitWindowRow.holds Try.pinned (OpenSpec.ofChange fnExactFitWindowSpec)

/-- ITS FALSE NEIGHBOUR: 'it returns false'. Refute it at one input. -/
def fnExactFitWindowWrong : ChangeSpec := { name := "fnExactFitWindow", fn := fun _ => fun
  | [d1, d2, d3] => { results := [.lit (.bool false)], args := [d1, d2, d3] }
  | _ => none }
def FnExactFitWindowWrongFalsely : Prop := fnExactFitWindowRow.holds Try.pinned (OpenSpec.ofChange fnExactFitWindowWrong)

/-- 'laws.FnExactBoth16': WHATEVER THE INPUT: true; the input reads as it did. -/
def fnExactBoth16Spec : ChangeSpec := { name := "fnExactBoth16", fn := fun _ => fun
  | [d1, d2, d3] => { results := [.lit (.bool true)], args := [d1, d2, d3] }
  | _ => none }
def fnExactBoth16Row : OpenClaim := { program := "ytjgbjahpncfhhaa", sum := "1d1c7b4bf68a20775c6f439da5269e16c25f24e77d7b9b02c67f8f6c32153756", func := "loop.example/g00063/laws.FnExactBoth16", spec := "fnExactBoth16", unfollowed := true, recurses := true, apart := false }
def FnExactBoth16Said : Prop := fnExactBoth16Row.holds Try.pinned (OpenSpec.ofChange fnExactBoth16Spec)

/-- ITS FALSE NEIGHBOUR: 'it returns false'. Refute it at one input. -/
def fnExactBoth16Wrong : ChangeSpec := { name := "fnExactBoth16", fn := fun _ => fun
  | [d1, d2, d3] => { results := [.lit (.bool false)], args := [d1, d2, d3] }
  | _ => none }
def FnExactBoth16WrongFalsely : Prop := fnExactBoth16Row.holds Try.pinned (OpenSpec.ofChange fnExactBoth16Wrong)

/-- 'laws.FnWindows': WHATEVER THE INPUT: true; the input reads as it did. -/
def fnWindowsSpec : ChangeSpec := { name := "fnWindows", fn := fun _ => fun
  | [d] => { results := [.lit (.bool true)], args := [d] }
  | _ => none }
def fnWindowsRow : OpenClaim := { program := "ytjgbjahpncfhhaa", sum := "1d1c7b4bf68a20775c6f439da5269e16c25f24e77d7b9b02c67f8f6c32153756", func := "loop.example/g00063/laws.FnWindows", spec := "fnWindows", inPlace := ["slices.overlaps[loop.example/g00063/impl.Window]"], unfollowed := true, recurses := true, apart := false }
def FnWindowsSaid : Prop := fnWindowsRow.holds Try.pinned (OpenSpec.ofChange fnWindowsSpec)

/-- ITS FALSE NEIGHBOUR: 'it returns false'. Refute it at one input. -/
def fnWindowsWrong : ChangeSpec := { name := "fnWindows", fn := fun _ => fun
  | [d] => { results := [.lit (.bool false)], args := [d] }
  | _ => none }
def FnWindowsWrongFalsely : Prop := fnWindowsRow.holds Try.pinned (OpenSpec.ofChange fnWindowsWrong)

/-- 'laws.FnCarried': WHATEVER THE INPUT: true; the input reads as it did. -/
def fnCarriedSpec : ChangeSpec := { name := "fnCarried", fn := fun _ => fun
  | [d] => { results := [.lit (.bool true)], args := [d] }
  | _ => none }
def fnCarriedRow : OpenClaim := { program := "ytjgbjahpncfhhaa", sum := "1d1c7b4bf68a20775c6f439da5269e16c25f24e77d7b9b02c67f8f6c32153756", func := "loop.example/g00063/laws.FnCarried", spec := "fnCarried", unfollowed := true, recurses := true, apart := false }
def FnCarriedSaid : Prop := fnCarriedRow.holds Try.pinned (OpenSpec.ofChange fnCarriedSpec)

/-- ITS FALSE NEIGHBOUR: 'it returns false'. Refute it at one input. -/
def fnCarriedWrong : ChangeSpec := { name := "fnCarried", fn := fun _ => fun
  | [d] => { results := [.lit (.bool false)], args := [d] }
  | _ => none }
def FnCarriedWrongFalsely : Prop := fnCarriedRow.holds Try.pinned (OpenSpec.ofChange fnCarriedWrong)

/-- 'laws.FnExactDrop18': WHATEVER THE INPUT: true; the input reads as it did. -/
def fnExactDrop18Spec : ChangeSpec := { name := "fnExactDrop18", fn := fun _ => fun
  | [d1, d2] => { results := [.lit (.bool true)], args := [d1, d2] }
  | _ => none }
def fnExactDrop18Row : OpenClaim := { program := "ytjgbjahpncfhhaa", sum := "1d1c7b4bf68a20775c6f439da5269e16c25f24e77d7b9b02c67f8f6c32153756", func := "loop.example/g00063/laws.FnExactDrop18", spec := "fnExactDrop18", unfollowed := true, recurses := true, apart := false }
def FnExactDrop18Said : Prop := fnExactDrop18Row.holds Try.pinned (OpenSpec.ofChange fnExactDrop18Spec)

/-- ITS FALSE NEIGHBOUR: 'it returns false'. Refute it at one input. -/
def fnExactDrop18Wrong : ChangeSpec := { name := "fnExactDrop18", fn := fun _ => fun
  | [d1, d2] => { results := [.lit (.bool false)], args := [d1, d2] }
  | _ => none }
def FnExactDrop18WrongFalsely : Prop := fnExactDrop18Row.holds Try.pinned (OpenSpec.ofChange fnExactDrop18Wrong)

/-- 'laws.FnLives': WHATEVER THE INPUT: true; the input reads as it did. -/
def fnLivesSpec : ChangeSpec := { name := "fnLives", fn := fun _ => fun
  | [d] => { results := [.lit (.bool true)], args := [d] }
  | _ => none }
def fnLivesRow : OpenClaim := { program := "ytjgbjahpncfhhaa", sum := "1d1c7b4bf68a20775c6f439da5269e16c25f24e77d7b9b02c67f8f6c32153756", func := "loop.example/g00063/laws.FnLives", spec := "fnLives", recurses := true, apart := false }
def FnLivesSaid : Prop := fnLivesRow.holds Try.pinned (OpenSpec.ofChange fnLivesSpec)

/-- ITS FALSE NEIGHBOUR: 'it returns false'. Refute it at one input. -/
def fnLivesWrong : ChangeSpec := { name := "fnLives", fn := fun _ => fun
  | [d] => { results := [.lit (.bool false)], args := [d] }
  | _ => none }
def FnLivesWrongFalsely : Prop := fnLivesRow.holds Try.pinned (OpenSpec.ofChange fnLivesWrong)

/-- 'laws.FnReleased': WHATEVER THE INPUT: true; the input reads as it did. -/
def fnReleasedSpec : ChangeSpec := { name := "fnReleased", fn := fun _ => fun
  | [d] => { results := [.lit (.bool true)], args := [d] }
  | _ => none }
def fnReleasedRow : OpenClaim := { program := "ytjgbjahpncfhhaa", sum := "1d1c7b4bf68a20775c6f439da5269e16c25f24e77d7b9b02c67f8f6c32153756", func := "loop.example/g00063/laws.FnReleased", spec := "fnReleased", inPlace := ["internal/bytealg.abigen_runtime_cmpstring", "slices.overlaps[loop.example/g00063/impl.Defect]"], unfollowed := true, recurses := true, apart := false }
def FnReleasedSaid : Prop := fnReleasedRow.holds Try.pinned (OpenSpec.ofChange fnReleasedSpec)

/-- ITS FALSE NEIGHBOUR: 'it returns false'. Refute it at one input. -/
def fnReleasedWrong : ChangeSpec := { name := "fnReleased", fn := fun _ => fun
  | [d] => { results := [.lit (.bool false)], args := [d] }
  | _ => none }
def FnReleasedWrongFalsely : Prop := fnReleasedRow.holds Try.pinned (OpenSpec.ofChange fnReleasedWrong)

/-- 'laws.FnExactRelease': WHATEVER THE INPUT: true; the input reads as it did. -/
def fnExactReleaseSpec : ChangeSpec := { name := "fnExactRelease", fn := fun _ => fun
  | [d] => { results := [.lit (.bool true)], args := [d] }
  | _ => none }
def fnExactReleaseRow : OpenClaim := { program := "ytjgbjahpncfhhaa", sum := "1d1c7b4bf68a20775c6f439da5269e16c25f24e77d7b9b02c67f8f6c32153756", func := "loop.example/g00063/laws.FnExactRelease", spec := "fnExactRelease", unfollowed := true, recurses := true, apart := false }
def FnExactReleaseSaid : Prop := fnExactReleaseRow.holds Try.pinned (OpenSpec.ofChange fnExactReleaseSpec)

/-- ITS FALSE NEIGHBOUR: 'it returns false'. Refute it at one input. -/
def fnExactReleaseWrong : ChangeSpec := { name := "fnExactRelease", fn := fun _ => fun
  | [d] => { results := [.lit (.bool false)], args := [d] }
  | _ => none }
def FnExactReleaseWrongFalsely : Prop := fnExactReleaseRow.holds Try.pinned (OpenSpec.ofChange fnExactReleaseWrong)

/- THE SECOND FORM. 'bulk': how many values and letters a reading holds, each counted each time it is reached (what is shared counts as often as it is met; a slice's spare places count too). A statement '..UptoSaid' is the law's where the arguments, and the package variables that the reading takes, are together of bulk at most 1048576: NARROWER than '..Said'. Prove '..Said' where nothing that the law and all that it calls make is longer than what came in: it says more and counts as full. Else prove '..UptoSaid'. A law counts once. -/
mutual
def uptoBulk {H : Type} : DataW H → Nat
  | .lit (.string bytes) => bytes.length + 1
  | .lit _ => 1
  | .nil => 1
  | .ptr d => uptoBulk d + 1
  | .slice elems spare => uptoBulkAll elems + uptoBulkAll spare + 1
  | .agg parts => uptoBulkAll parts + 1
  | .iface _ d => uptoBulk d + 1
  | .map entries => uptoBulkEntries entries + 1
  | .held _ => 1
def uptoBulkAll {H : Type} : List (DataW H) → Nat
  | [] => 0
  | d :: r => uptoBulk d + uptoBulkAll r
def uptoBulkEntries {H : Type} : List (Lit × DataW H) → Nat
  | [] => 0
  | x :: r => uptoBulkEntry x + uptoBulkEntries r
def uptoBulkEntry {H : Type} : Lit × DataW H → Nat
  | (.string bytes, d) => bytes.length + uptoBulk d + 1
  | (_, d) => uptoBulk d + 1
 end
def uptoSmall : (H : Type) → List (DataW H) → Bool := fun _ ds => decide (uptoBulkAll ds ≤ 1048576)
def OpenSpec.upto (s : _root_.Go.ChangeSpec) : _root_.Go.OpenSpec := { _root_.Go.OpenSpec.ofChange s with cond := some uptoSmall }

/-- 'laws.FnExactShare', WHERE WHAT IT READS IS OF BULK AT MOST 1048576: true; the input reads as it did. -/
def fnExactShareUptoRow : OpenClaim := { program := "ytjgbjahpncfhhaa", sum := "1d1c7b4bf68a20775c6f439da5269e16c25f24e77d7b9b02c67f8f6c32153756", func := "loop.example/g00063/laws.FnExactShare", spec := "fnExactShare", unfollowed := true, recurses := true, apart := false, narrowed := true }
def FnExactShareUptoSaid : Prop := fnExactShareUptoRow.holds Try.pinned (OpenSpec.upto fnExactShareSpec)

/-- 'laws.FnRecords', WHERE WHAT IT READS IS OF BULK AT MOST 1048576: true; the input reads as it did. -/
def fnRecordsUptoRow : OpenClaim := { program := "ytjgbjahpncfhhaa", sum := "1d1c7b4bf68a20775c6f439da5269e16c25f24e77d7b9b02c67f8f6c32153756", func := "loop.example/g00063/laws.FnRecords", spec := "fnRecords", apart := false, narrowed := true }
def FnRecordsUptoSaid : Prop := fnRecordsUptoRow.holds Try.pinned (OpenSpec.upto fnRecordsSpec)

/-- 'laws.FnExactFitWindow', WHERE WHAT IT READS IS OF BULK AT MOST 1048576: true; the input reads as it did. -/
def fnExactFitWindowUptoRow : OpenClaim := { program := "ytjgbjahpncfhhaa", sum := "1d1c7b4bf68a20775c6f439da5269e16c25f24e77d7b9b02c67f8f6c32153756", func := "loop.example/g00063/laws.FnExactFitWindow", spec := "fnExactFitWindow", inPlace := ["slices.overlaps[loop.example/g00063/impl.Window]"], apart := false, narrowed := true }
def FnExactFitWindowUptoSaid : Prop := fnExactFitWindowUptoRow.holds Try.pinned (OpenSpec.upto fnExactFitWindowSpec)

/-- 'laws.FnExactBoth16', WHERE WHAT IT READS IS OF BULK AT MOST 1048576: true; the input reads as it did. -/
def fnExactBoth16UptoRow : OpenClaim := { program := "ytjgbjahpncfhhaa", sum := "1d1c7b4bf68a20775c6f439da5269e16c25f24e77d7b9b02c67f8f6c32153756", func := "loop.example/g00063/laws.FnExactBoth16", spec := "fnExactBoth16", unfollowed := true, recurses := true, apart := false, narrowed := true }
def FnExactBoth16UptoSaid : Prop := fnExactBoth16UptoRow.holds Try.pinned (OpenSpec.upto fnExactBoth16Spec)

/-- 'laws.FnWindows', WHERE WHAT IT READS IS OF BULK AT MOST 1048576: true; the input reads as it did. -/
def fnWindowsUptoRow : OpenClaim := { program := "ytjgbjahpncfhhaa", sum := "1d1c7b4bf68a20775c6f439da5269e16c25f24e77d7b9b02c67f8f6c32153756", func := "loop.example/g00063/laws.FnWindows", spec := "fnWindows", inPlace := ["slices.overlaps[loop.example/g00063/impl.Window]"], unfollowed := true, recurses := true, apart := false, narrowed := true }
def FnWindowsUptoSaid : Prop := fnWindowsUptoRow.holds Try.pinned (OpenSpec.upto fnWindowsSpec)

/-- 'laws.FnCarried', WHERE WHAT IT READS IS OF BULK AT MOST 1048576: true; the input reads as it did. -/
def fnCarriedUptoRow : OpenClaim := { program := "ytjgbjahpncfhhaa", sum := "1d1c7b4bf68a20775c6f439da5269e16c25f24e77d7b9b02c67f8f6c32153756", func := "loop.example/g00063/laws.FnCarried", spec := "fnCarried", unfollowed := true, recurses := true, apart := false, narrowed := true }
def FnCarriedUptoSaid : Prop := fnCarriedUptoRow.holds Try.pinned (OpenSpec.upto fnCarriedSpec)

/-- 'laws.FnExactDrop18', WHERE WHAT IT READS IS OF BULK AT MOST 1048576: true; the input reads as it did. -/
def fnExactDrop18UptoRow : OpenClaim := { program := "ytjgbjahpncfhhaa", sum := "1d1c7b4bf68a20775c6f439da5269e16c25f24e77d7b9b02c67f8f6c32153756", func := "loop.example/g00063/laws.FnExactDrop18", spec := "fnExactDrop18", unfollowed := true, recurses := true, apart := false, narrowed := true }
def FnExactDrop18UptoSaid : Prop := fnExactDrop18UptoRow.holds Try.pinned (OpenSpec.upto fnExactDrop18Spec)

/-- 'laws.FnLives', WHERE WHAT IT READS IS OF BULK AT MOST 1048576: true; the input reads as it did. -/
def fnLivesUptoRow : OpenClaim := { program := "ytjgbjahpncfhhaa", sum := "1d1c7b4bf68a20775c6f439da5269e16c25f24e77d7b9b02c67f8f6c32153756", func := "loop.example/g00063/laws.FnLives", spec := "fnLives", recurses := true, apart := false, narrowed := true }
def FnLivesUptoSaid : Prop := fnLivesUptoRow.holds Try.pinned (OpenSpec.upto fnLivesSpec)

/-- 'laws.FnReleased', WHERE WHAT IT READS IS OF BULK AT MOST 1048576: true; the input reads as it did. -/
def fnReleasedUptoRow : OpenClaim := { program := "ytjgbjahpncfhhaa", sum := "1d1c7b4bf68a20775c6f439da5269e16c25f24e77d7b9b02c67f8f6c32153756", func := "loop.example/g00063/laws.FnReleased", spec := "fnReleased", inPlace := ["internal/bytealg.abigen_runtime_cmpstring", "slices.overlaps[loop.example/g00063/impl.Defect]"], unfollowed := true, recurses := true, apart := false, narrowed := true }
def FnReleasedUptoSaid : Prop := fnReleasedUptoRow.holds Try.pinned (OpenSpec.upto fnReleasedSpec)

/-- 'laws.FnExactRelease', WHERE WHAT IT READS IS OF BULK AT MOST 1048576: true; the input reads as it did. -/
def fnExactReleaseUptoRow : OpenClaim := { program := "ytjgbjahpncfhhaa", sum := "1d1c7b4bf68a20775c6f439da5269e16c25f24e77d7b9b02c67f8f6c32153756", func := "loop.example/g00063/laws.FnExactRelease", spec := "fnExactRelease", unfollowed := true, recurses := true, apart := false, narrowed := true }
def FnExactReleaseUptoSaid : Prop := fnExactReleaseUptoRow.holds Try.pinned (OpenSpec.upto fnExactReleaseSpec)

end Rows
end Go.Proofs.Ytjgbjahpncfhhaa
