/-
  NARROWER THAN 'FOR EVERY INPUT', by the rows' own cells (each row's printed sentence says how): CutJoins: laid · CutSpreads: laid · PickAts: laid · PickPuts: laid.
  DERIVED. THE GIVEN ROWS OF THIS SEAT. 4 by the template 'for every input the law returns true; each argument reads behind the call as it read before'; 0 by the template 'total and deterministic' (their statements: YtikjniibfomadaaDoorTotals.lean).
  GIVEN WITH THE SEED: the statements are not yours to turn. If you find one false, say at which input.
  Laid BY PROGRAM, IN A SANDBOX (cutbox-rows.mjs): the forced cells as the released guide's own fill.sh prints them over the translation 066206087b970eba… (all of the seat's roots in one cut). By AI agents, Wed Nov 11 2026. No macro, syntax, notation, axiom, sorry.
-/
import Derived.Test.YtikjniibfomadaaDoorChecked
import GoSem.Claim
import GoSem.ClaimJoined
import GoSem.ClaimMapViews
import Derived.JoinedTies
import Derived.KernelRfl
namespace Go.Proofs.YtikjniibfomadaaDoor
/- THE CELL 'sum', in the pinned program and in every row, IS THE sha256 OF THE DUMP (.gsa) THAT YtikjniibfomadaaDoorProg.lean LOADS. Nothing in Lean hashes anything: it is a label: what it is worth is what the hold of that sum in a sandbox is worth. -/
noncomputable def Tryd.pinned : Pinned := { name := "ytikjniibfomadaadoor", sum := "066206087b970eba42ed879ee01be6c28bd7b83452f89b3078c25cdb44ad8a63", checked := Tryd.checked }
namespace Rows
def none {H : Type} : Left H := { results := [], args := [] }

/- WHAT THE LISTED PACKAGE-LEVEL VARIABLES READ AS WHEN THE CALL BEGINS. Each datum BY PROGRAM (the guide's laid-datum.mjs) off the statement by which the dump's own 'gosem.cut.vars' lays the variable. In a bare row this is a premise. The card (YtikjniibfomadaaDoorCards.lean) ties it to the program's text. -/
def laid_errors_errorType {H : Type} : DataW H := .iface "internal/reflectlite.rtype" (.agg [.ptr (.lit (.string [101, 114, 114, 111, 114]))])

/-- 'ravelinlaw2.CutJoins': WHATEVER THE INPUT: true; the input reads as it did. -/
def cutJoinsSpec : ChangeSpec := { name := "cutJoins", fn := fun _ => fun
  | [d1, d2, d3] => { results := [.lit (.bool true)], args := [d1, d2, d3] }
  | _ => none }
def cutJoinsRow : OpenClaim := { program := "ytikjniibfomadaadoor", sum := "066206087b970eba42ed879ee01be6c28bd7b83452f89b3078c25cdb44ad8a63", func := "ravelin/ravelinlaw2.CutJoins", spec := "cutJoins", inPlace := ["internal/reflectlite.ValueOf", "(internal/reflectlite.Value).Type", "(internal/reflectlite.Value).IsNil", "internal/reflectlite.TypeOf", "(internal/reflectlite.Value).Elem", "(internal/reflectlite.Value).Set"], unfollowed := true, recurses := true, named := ["errors.errorType"], apart := false, laid := [("errors.errorType", laid_errors_errorType)] }
def CutJoinsSaid : Prop := cutJoinsRow.holds Tryd.pinned (OpenSpec.ofChange cutJoinsSpec)

/-- ITS FALSE NEIGHBOUR: 'it returns false'. Refute it at one input. -/
def cutJoinsWrong : ChangeSpec := { name := "cutJoins", fn := fun _ => fun
  | [d1, d2, d3] => { results := [.lit (.bool false)], args := [d1, d2, d3] }
  | _ => none }
def CutJoinsWrongFalsely : Prop := cutJoinsRow.holds Tryd.pinned (OpenSpec.ofChange cutJoinsWrong)

/-- 'ravelinlaw2.CutSpreads': WHATEVER THE INPUT: true; the input reads as it did. -/
def cutSpreadsSpec : ChangeSpec := { name := "cutSpreads", fn := fun _ => fun
  | [d1, d2, d3] => { results := [.lit (.bool true)], args := [d1, d2, d3] }
  | _ => none }
def cutSpreadsRow : OpenClaim := { program := "ytikjniibfomadaadoor", sum := "066206087b970eba42ed879ee01be6c28bd7b83452f89b3078c25cdb44ad8a63", func := "ravelin/ravelinlaw2.CutSpreads", spec := "cutSpreads", inPlace := ["internal/reflectlite.ValueOf", "(internal/reflectlite.Value).Type", "(internal/reflectlite.Value).IsNil", "internal/reflectlite.TypeOf", "(internal/reflectlite.Value).Elem", "(internal/reflectlite.Value).Set"], unfollowed := true, recurses := true, named := ["errors.errorType"], apart := false, laid := [("errors.errorType", laid_errors_errorType)] }
def CutSpreadsSaid : Prop := cutSpreadsRow.holds Tryd.pinned (OpenSpec.ofChange cutSpreadsSpec)

/-- ITS FALSE NEIGHBOUR: 'it returns false'. Refute it at one input. -/
def cutSpreadsWrong : ChangeSpec := { name := "cutSpreads", fn := fun _ => fun
  | [d1, d2, d3] => { results := [.lit (.bool false)], args := [d1, d2, d3] }
  | _ => none }
def CutSpreadsWrongFalsely : Prop := cutSpreadsRow.holds Tryd.pinned (OpenSpec.ofChange cutSpreadsWrong)

/-- 'ravelinlaw2.PickAts': WHATEVER THE INPUT: true; the input reads as it did. -/
def pickAtsSpec : ChangeSpec := { name := "pickAts", fn := fun _ => fun
  | [d1, d2] => { results := [.lit (.bool true)], args := [d1, d2] }
  | _ => none }
def pickAtsRow : OpenClaim := { program := "ytikjniibfomadaadoor", sum := "066206087b970eba42ed879ee01be6c28bd7b83452f89b3078c25cdb44ad8a63", func := "ravelin/ravelinlaw2.PickAts", spec := "pickAts", inPlace := ["internal/reflectlite.ValueOf", "(internal/reflectlite.Value).Type", "(internal/reflectlite.Value).IsNil", "internal/reflectlite.TypeOf", "(internal/reflectlite.Value).Elem", "(internal/reflectlite.Value).Set"], unfollowed := true, recurses := true, named := ["errors.errorType"], apart := false, laid := [("errors.errorType", laid_errors_errorType)] }
def PickAtsSaid : Prop := pickAtsRow.holds Tryd.pinned (OpenSpec.ofChange pickAtsSpec)

/-- ITS FALSE NEIGHBOUR: 'it returns false'. Refute it at one input. -/
def pickAtsWrong : ChangeSpec := { name := "pickAts", fn := fun _ => fun
  | [d1, d2] => { results := [.lit (.bool false)], args := [d1, d2] }
  | _ => none }
def PickAtsWrongFalsely : Prop := pickAtsRow.holds Tryd.pinned (OpenSpec.ofChange pickAtsWrong)

/-- 'ravelinlaw2.PickPuts': WHATEVER THE INPUT: true; the input reads as it did. -/
def pickPutsSpec : ChangeSpec := { name := "pickPuts", fn := fun _ => fun
  | [d1, d2, d3] => { results := [.lit (.bool true)], args := [d1, d2, d3] }
  | _ => none }
def pickPutsRow : OpenClaim := { program := "ytikjniibfomadaadoor", sum := "066206087b970eba42ed879ee01be6c28bd7b83452f89b3078c25cdb44ad8a63", func := "ravelin/ravelinlaw2.PickPuts", spec := "pickPuts", inPlace := ["internal/reflectlite.ValueOf", "(internal/reflectlite.Value).Type", "(internal/reflectlite.Value).IsNil", "internal/reflectlite.TypeOf", "(internal/reflectlite.Value).Elem", "(internal/reflectlite.Value).Set"], unfollowed := true, recurses := true, named := ["errors.errorType"], apart := false, laid := [("errors.errorType", laid_errors_errorType)] }
def PickPutsSaid : Prop := pickPutsRow.holds Tryd.pinned (OpenSpec.ofChange pickPutsSpec)

/-- ITS FALSE NEIGHBOUR: 'it returns false'. Refute it at one input. -/
def pickPutsWrong : ChangeSpec := { name := "pickPuts", fn := fun _ => fun
  | [d1, d2, d3] => { results := [.lit (.bool false)], args := [d1, d2, d3] }
  | _ => none }
def PickPutsWrongFalsely : Prop := pickPutsRow.holds Tryd.pinned (OpenSpec.ofChange pickPutsWrong)

/- THE SECOND FORM. 'bulk': how many values and letters a reading holds, each counted each time it is reached (what is shared counts as often as it is met; a slice's spare places count too). A statement '..UptoSaid' is the law's where the arguments, and the package variables that the reading takes, are together of bulk at most 1048576: NARROWER than '..Said'. Prove '..Said' where nothing that the law and all that it calls make is longer than what came in: it says more and counts as full. Else prove '..UptoSaid'. A law counts once. -/
mutual
def uptoBulk {H : Type} : DataW H → Nat
  | .lit (.string bytes) => bytes.length + 1
  | .lit _ => 1
  | .nil => 1
  | .ptr d => uptoBulk d + 1
  | .slice elems spare => uptoBulkAll elems + uptoBulkAll spare + 1
  | .agg parts => uptoBulkAll parts + 1
  | .iface _ d => uptoBulk d + 1
  | .map entries => uptoBulkEntries entries + 1
  | .held _ => 1
def uptoBulkAll {H : Type} : List (DataW H) → Nat
  | [] => 0
  | d :: r => uptoBulk d + uptoBulkAll r
def uptoBulkEntries {H : Type} : List (Lit × DataW H) → Nat
  | [] => 0
  | x :: r => uptoBulkEntry x + uptoBulkEntries r
def uptoBulkEntry {H : Type} : Lit × DataW H → Nat
  | (.string bytes, d) => bytes.length + uptoBulk d + 1
  | (_, d) => uptoBulk d + 1
 end
def uptoSmall : (H : Type) → List (DataW H) → Bool := fun _ ds => decide (uptoBulkAll ds ≤ 1048576)
def OpenSpec.upto (s : _root_.Go.ChangeSpec) : _root_.Go.OpenSpec := { _root_.Go.OpenSpec.ofChange s with cond := some uptoSmall }

/-- 'ravelinlaw2.CutJoins', WHERE WHAT IT READS IS OF BULK AT MOST 1048576: true; the input reads as it did. -/
def cutJoinsUptoRow : OpenClaim := { program := "ytikjniibfomadaadoor", sum := "066206087b970eba42ed879ee01be6c28bd7b83452f89b3078c25cdb44ad8a63", func := "ravelin/ravelinlaw2.CutJoins", spec := "cutJoins", inPlace := ["internal/reflectlite.ValueOf", "(internal/reflectlite.Value).Type", "(internal/reflectlite.Value).IsNil", "internal/reflectlite.TypeOf", "(internal/reflectlite.Value).Elem", "(internal/reflectlite.Value).Set"], unfollowed := true, recurses := true, named := ["errors.errorType"], apart := false, laid := [("errors.errorType", laid_errors_errorType)], narrowed := true }
def CutJoinsUptoSaid : Prop := cutJoinsUptoRow.holds Tryd.pinned (OpenSpec.upto cutJoinsSpec)

/-- 'ravelinlaw2.CutSpreads', WHERE WHAT IT READS IS OF BULK AT MOST 1048576: true; the input reads as it did. -/
def cutSpreadsUptoRow : OpenClaim := { program := "ytikjniibfomadaadoor", sum := "066206087b970eba42ed879ee01be6c28bd7b83452f89b3078c25cdb44ad8a63", func := "ravelin/ravelinlaw2.CutSpreads", spec := "cutSpreads", inPlace := ["internal/reflectlite.ValueOf", "(internal/reflectlite.Value).Type", "(internal/reflectlite.Value).IsNil", "internal/reflectlite.TypeOf", "(internal/reflectlite.Value).Elem", "(internal/reflectlite.Value).Set"], unfollowed := true, recurses := true, named := ["errors.errorType"], apart := false, laid := [("errors.errorType", laid_errors_errorType)], narrowed := true }
def CutSpreadsUptoSaid : Prop := cutSpreadsUptoRow.holds Tryd.pinned (OpenSpec.upto cutSpreadsSpec)

/-- 'ravelinlaw2.PickAts', WHERE WHAT IT READS IS OF BULK AT MOST 1048576: true; the input reads as it did. -/
def pickAtsUptoRow : OpenClaim := { program := "ytikjniibfomadaadoor", sum := "066206087b970eba42ed879ee01be6c28bd7b83452f89b3078c25cdb44ad8a63", func := "ravelin/ravelinlaw2.PickAts", spec := "pickAts", inPlace := ["internal/reflectlite.ValueOf", "(internal/reflectlite.Value).Type", "(internal/reflectlite.Value).IsNil", "internal/reflectlite.TypeOf", "(internal/reflectlite.Value).Elem", "(internal/reflectlite.Value).Set"], unfollowed := true, recurses := true, named := ["errors.errorType"], apart := false, laid := [("errors.errorType", laid_errors_errorType)], narrowed := true }
def PickAtsUptoSaid : Prop := pickAtsUptoRow.holds Tryd.pinned (OpenSpec.upto pickAtsSpec)

/-- 'ravelinlaw2.PickPuts', WHERE WHAT IT READS IS OF BULK AT MOST 1048576: true; the input reads as it did. -/
def pickPutsUptoRow : OpenClaim := { program := "ytikjniibfomadaadoor", sum := "066206087b970eba42ed879ee01be6c28bd7b83452f89b3078c25cdb44ad8a63", func := "ravelin/ravelinlaw2.PickPuts", spec := "pickPuts", inPlace := ["internal/reflectlite.ValueOf", "(internal/reflectlite.Value).Type", "(internal/reflectlite.Value).IsNil", "internal/reflectlite.TypeOf", "(internal/reflectlite.Value).Elem", "(internal/reflectlite.Value).Set"], unfollowed := true, recurses := true, named := ["errors.errorType"], apart := false, laid := [("errors.errorType", laid_errors_errorType)], narrowed := true }
def PickPutsUptoSaid : Prop := pickPutsUptoRow.holds Tryd.pinned (OpenSpec.upto pickPutsSpec)

end Rows
end Go.Proofs.YtikjniibfomadaaDoor
