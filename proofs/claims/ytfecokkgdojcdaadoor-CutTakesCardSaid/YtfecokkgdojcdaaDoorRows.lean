/-
  NARROWER THAN 'FOR EVERY INPUT', by the rows' own cells (each row's printed sentence says how): SeekIns: laid · SeekIndexes: laid · TurnReverses: laid · CutJoins: laid · TurnRotates: laid · TurnFlips: laid · CutDrops: laid · PickAts: laid · CutTakes: laid · CutKeeps: laid · CutSpreads: laid · SeekSets: laid · PickPuts: laid.
  DERIVED. THE GIVEN ROWS OF THIS SEAT. 13 by the template 'for every input the law returns true; each argument reads behind the call as it read before'; 0 by the template 'total and deterministic' (their statements: YtfecokkgdojcdaaDoorTotals.lean).
  GIVEN WITH THE SEED: the statements are not yours to turn. If you find one false, say at which input.
  Laid BY PROGRAM, IN A SANDBOX (cutbox-rows.mjs): the forced cells as the released guide's own fill.sh prints them over the translation 0a9551386addd7bc… (all of the seat's roots in one cut). By AI agents, Wed Nov 11 2026. No macro, syntax, notation, axiom, sorry.
-/
import Derived.Test.YtfecokkgdojcdaaDoorChecked
import GoSem.Claim
import GoSem.ClaimJoined
import GoSem.ClaimMapViews
import Derived.JoinedTies
import Derived.KernelRfl
namespace Go.Proofs.YtfecokkgdojcdaaDoor
/- THE CELL 'sum', in the pinned program and in every row, IS THE sha256 OF THE DUMP (.gsa) THAT YtfecokkgdojcdaaDoorProg.lean LOADS. Nothing in Lean hashes anything: it is a label: what it is worth is what the hold of that sum in a sandbox is worth. -/
noncomputable def Tryd.pinned : Pinned := { name := "ytfecokkgdojcdaadoor", sum := "0a9551386addd7bcf9f2946140dd906a251663d015fb681627ae52c7c4ae9151", checked := Tryd.checked }
namespace Rows
def none {H : Type} : Left H := { results := [], args := [] }

/- WHAT THE LISTED PACKAGE-LEVEL VARIABLES READ AS WHEN THE CALL BEGINS. Each datum BY PROGRAM (the guide's laid-datum.mjs) off the statement by which the dump's own 'gosem.cut.vars' lays the variable. In a bare row this is a premise. The card (YtfecokkgdojcdaaDoorCards.lean) ties it to the program's text. -/
def laid_errors_errorType {H : Type} : DataW H := .iface "internal/reflectlite.rtype" (.agg [.ptr (.lit (.string [101, 114, 114, 111, 114]))])

/-- 'ravelinlaw2.SeekIns': WHATEVER THE INPUT: true; the input reads as it did. -/
def seekInsSpec : ChangeSpec := { name := "seekIns", fn := fun _ => fun
  | [d1, d2] => { results := [.lit (.bool true)], args := [d1, d2] }
  | _ => none }
def seekInsRow : OpenClaim := { program := "ytfecokkgdojcdaadoor", sum := "0a9551386addd7bcf9f2946140dd906a251663d015fb681627ae52c7c4ae9151", func := "ravelin/ravelinlaw2.SeekIns", spec := "seekIns", inPlace := ["internal/reflectlite.ValueOf", "(internal/reflectlite.Value).Type", "(internal/reflectlite.Value).IsNil", "internal/reflectlite.TypeOf", "(internal/reflectlite.Value).Elem", "(internal/reflectlite.Value).Set"], unfollowed := true, recurses := true, named := ["errors.errorType"], apart := false, laid := [("errors.errorType", laid_errors_errorType)] }
def SeekInsSaid : Prop := seekInsRow.holds Tryd.pinned (OpenSpec.ofChange seekInsSpec)

/-- ITS FALSE NEIGHBOUR: 'it returns false'. Refute it at one input. -/
def seekInsWrong : ChangeSpec := { name := "seekIns", fn := fun _ => fun
  | [d1, d2] => { results := [.lit (.bool false)], args := [d1, d2] }
  | _ => none }
def SeekInsWrongFalsely : Prop := seekInsRow.holds Tryd.pinned (OpenSpec.ofChange seekInsWrong)

/-- 'ravelinlaw2.SeekIndexes': WHATEVER THE INPUT: true; the input reads as it did. -/
def seekIndexesSpec : ChangeSpec := { name := "seekIndexes", fn := fun _ => fun
  | [d1, d2] => { results := [.lit (.bool true)], args := [d1, d2] }
  | _ => none }
def seekIndexesRow : OpenClaim := { program := "ytfecokkgdojcdaadoor", sum := "0a9551386addd7bcf9f2946140dd906a251663d015fb681627ae52c7c4ae9151", func := "ravelin/ravelinlaw2.SeekIndexes", spec := "seekIndexes", inPlace := ["internal/reflectlite.ValueOf", "(internal/reflectlite.Value).Type", "(internal/reflectlite.Value).IsNil", "internal/reflectlite.TypeOf", "(internal/reflectlite.Value).Elem", "(internal/reflectlite.Value).Set"], unfollowed := true, recurses := true, named := ["errors.errorType"], apart := false, laid := [("errors.errorType", laid_errors_errorType)] }
def SeekIndexesSaid : Prop := seekIndexesRow.holds Tryd.pinned (OpenSpec.ofChange seekIndexesSpec)

/-- ITS FALSE NEIGHBOUR: 'it returns false'. Refute it at one input. -/
def seekIndexesWrong : ChangeSpec := { name := "seekIndexes", fn := fun _ => fun
  | [d1, d2] => { results := [.lit (.bool false)], args := [d1, d2] }
  | _ => none }
def SeekIndexesWrongFalsely : Prop := seekIndexesRow.holds Tryd.pinned (OpenSpec.ofChange seekIndexesWrong)

/-- 'ravelinlaw2.TurnReverses': WHATEVER THE INPUT: true; the input reads as it did. -/
def turnReversesSpec : ChangeSpec := { name := "turnReverses", fn := fun _ => fun
  | [d1, d2] => { results := [.lit (.bool true)], args := [d1, d2] }
  | _ => none }
def turnReversesRow : OpenClaim := { program := "ytfecokkgdojcdaadoor", sum := "0a9551386addd7bcf9f2946140dd906a251663d015fb681627ae52c7c4ae9151", func := "ravelin/ravelinlaw2.TurnReverses", spec := "turnReverses", inPlace := ["internal/reflectlite.ValueOf", "(internal/reflectlite.Value).Type", "(internal/reflectlite.Value).IsNil", "internal/reflectlite.TypeOf", "(internal/reflectlite.Value).Elem", "(internal/reflectlite.Value).Set"], unfollowed := true, recurses := true, named := ["errors.errorType"], apart := false, laid := [("errors.errorType", laid_errors_errorType)] }
def TurnReversesSaid : Prop := turnReversesRow.holds Tryd.pinned (OpenSpec.ofChange turnReversesSpec)

/-- ITS FALSE NEIGHBOUR: 'it returns false'. Refute it at one input. -/
def turnReversesWrong : ChangeSpec := { name := "turnReverses", fn := fun _ => fun
  | [d1, d2] => { results := [.lit (.bool false)], args := [d1, d2] }
  | _ => none }
def TurnReversesWrongFalsely : Prop := turnReversesRow.holds Tryd.pinned (OpenSpec.ofChange turnReversesWrong)

/-- 'ravelinlaw2.CutJoins': WHATEVER THE INPUT: true; the input reads as it did. -/
def cutJoinsSpec : ChangeSpec := { name := "cutJoins", fn := fun _ => fun
  | [d1, d2, d3] => { results := [.lit (.bool true)], args := [d1, d2, d3] }
  | _ => none }
def cutJoinsRow : OpenClaim := { program := "ytfecokkgdojcdaadoor", sum := "0a9551386addd7bcf9f2946140dd906a251663d015fb681627ae52c7c4ae9151", func := "ravelin/ravelinlaw2.CutJoins", spec := "cutJoins", inPlace := ["internal/reflectlite.ValueOf", "(internal/reflectlite.Value).Type", "(internal/reflectlite.Value).IsNil", "internal/reflectlite.TypeOf", "(internal/reflectlite.Value).Elem", "(internal/reflectlite.Value).Set"], unfollowed := true, recurses := true, named := ["errors.errorType"], apart := false, laid := [("errors.errorType", laid_errors_errorType)] }
def CutJoinsSaid : Prop := cutJoinsRow.holds Tryd.pinned (OpenSpec.ofChange cutJoinsSpec)

/-- ITS FALSE NEIGHBOUR: 'it returns false'. Refute it at one input. -/
def cutJoinsWrong : ChangeSpec := { name := "cutJoins", fn := fun _ => fun
  | [d1, d2, d3] => { results := [.lit (.bool false)], args := [d1, d2, d3] }
  | _ => none }
def CutJoinsWrongFalsely : Prop := cutJoinsRow.holds Tryd.pinned (OpenSpec.ofChange cutJoinsWrong)

/-- 'ravelinlaw2.TurnRotates': WHATEVER THE INPUT: true; the input reads as it did. -/
def turnRotatesSpec : ChangeSpec := { name := "turnRotates", fn := fun _ => fun
  | [d1, d2, d3] => { results := [.lit (.bool true)], args := [d1, d2, d3] }
  | _ => none }
def turnRotatesRow : OpenClaim := { program := "ytfecokkgdojcdaadoor", sum := "0a9551386addd7bcf9f2946140dd906a251663d015fb681627ae52c7c4ae9151", func := "ravelin/ravelinlaw2.TurnRotates", spec := "turnRotates", inPlace := ["internal/reflectlite.ValueOf", "(internal/reflectlite.Value).Type", "(internal/reflectlite.Value).IsNil", "internal/reflectlite.TypeOf", "(internal/reflectlite.Value).Elem", "(internal/reflectlite.Value).Set"], unfollowed := true, recurses := true, named := ["errors.errorType"], apart := false, laid := [("errors.errorType", laid_errors_errorType)] }
def TurnRotatesSaid : Prop := turnRotatesRow.holds Tryd.pinned (OpenSpec.ofChange turnRotatesSpec)

/-- ITS FALSE NEIGHBOUR: 'it returns false'. Refute it at one input. -/
def turnRotatesWrong : ChangeSpec := { name := "turnRotates", fn := fun _ => fun
  | [d1, d2, d3] => { results := [.lit (.bool false)], args := [d1, d2, d3] }
  | _ => none }
def TurnRotatesWrongFalsely : Prop := turnRotatesRow.holds Tryd.pinned (OpenSpec.ofChange turnRotatesWrong)

/-- 'ravelinlaw2.TurnFlips': WHATEVER THE INPUT: true; the input reads as it did. -/
def turnFlipsSpec : ChangeSpec := { name := "turnFlips", fn := fun _ => fun
  | [d1, d2] => { results := [.lit (.bool true)], args := [d1, d2] }
  | _ => none }
def turnFlipsRow : OpenClaim := { program := "ytfecokkgdojcdaadoor", sum := "0a9551386addd7bcf9f2946140dd906a251663d015fb681627ae52c7c4ae9151", func := "ravelin/ravelinlaw2.TurnFlips", spec := "turnFlips", inPlace := ["internal/reflectlite.ValueOf", "(internal/reflectlite.Value).Type", "(internal/reflectlite.Value).IsNil", "internal/reflectlite.TypeOf", "(internal/reflectlite.Value).Elem", "(internal/reflectlite.Value).Set"], unfollowed := true, recurses := true, named := ["errors.errorType"], apart := false, laid := [("errors.errorType", laid_errors_errorType)] }
def TurnFlipsSaid : Prop := turnFlipsRow.holds Tryd.pinned (OpenSpec.ofChange turnFlipsSpec)

/-- ITS FALSE NEIGHBOUR: 'it returns false'. Refute it at one input. -/
def turnFlipsWrong : ChangeSpec := { name := "turnFlips", fn := fun _ => fun
  | [d1, d2] => { results := [.lit (.bool false)], args := [d1, d2] }
  | _ => none }
def TurnFlipsWrongFalsely : Prop := turnFlipsRow.holds Tryd.pinned (OpenSpec.ofChange turnFlipsWrong)

/-- 'ravelinlaw2.CutDrops': WHATEVER THE INPUT: true; the input reads as it did. -/
def cutDropsSpec : ChangeSpec := { name := "cutDrops", fn := fun _ => fun
  | [d1, d2] => { results := [.lit (.bool true)], args := [d1, d2] }
  | _ => none }
def cutDropsRow : OpenClaim := { program := "ytfecokkgdojcdaadoor", sum := "0a9551386addd7bcf9f2946140dd906a251663d015fb681627ae52c7c4ae9151", func := "ravelin/ravelinlaw2.CutDrops", spec := "cutDrops", inPlace := ["internal/reflectlite.ValueOf", "(internal/reflectlite.Value).Type", "(internal/reflectlite.Value).IsNil", "internal/reflectlite.TypeOf", "(internal/reflectlite.Value).Elem", "(internal/reflectlite.Value).Set"], unfollowed := true, recurses := true, named := ["errors.errorType"], apart := false, laid := [("errors.errorType", laid_errors_errorType)] }
def CutDropsSaid : Prop := cutDropsRow.holds Tryd.pinned (OpenSpec.ofChange cutDropsSpec)

/-- ITS FALSE NEIGHBOUR: 'it returns false'. Refute it at one input. -/
def cutDropsWrong : ChangeSpec := { name := "cutDrops", fn := fun _ => fun
  | [d1, d2] => { results := [.lit (.bool false)], args := [d1, d2] }
  | _ => none }
def CutDropsWrongFalsely : Prop := cutDropsRow.holds Tryd.pinned (OpenSpec.ofChange cutDropsWrong)

/-- 'ravelinlaw2.PickAts': WHATEVER THE INPUT: true; the input reads as it did. -/
def pickAtsSpec : ChangeSpec := { name := "pickAts", fn := fun _ => fun
  | [d1, d2] => { results := [.lit (.bool true)], args := [d1, d2] }
  | _ => none }
def pickAtsRow : OpenClaim := { program := "ytfecokkgdojcdaadoor", sum := "0a9551386addd7bcf9f2946140dd906a251663d015fb681627ae52c7c4ae9151", func := "ravelin/ravelinlaw2.PickAts", spec := "pickAts", inPlace := ["internal/reflectlite.ValueOf", "(internal/reflectlite.Value).Type", "(internal/reflectlite.Value).IsNil", "internal/reflectlite.TypeOf", "(internal/reflectlite.Value).Elem", "(internal/reflectlite.Value).Set"], unfollowed := true, recurses := true, named := ["errors.errorType"], apart := false, laid := [("errors.errorType", laid_errors_errorType)] }
def PickAtsSaid : Prop := pickAtsRow.holds Tryd.pinned (OpenSpec.ofChange pickAtsSpec)

/-- ITS FALSE NEIGHBOUR: 'it returns false'. Refute it at one input. -/
def pickAtsWrong : ChangeSpec := { name := "pickAts", fn := fun _ => fun
  | [d1, d2] => { results := [.lit (.bool false)], args := [d1, d2] }
  | _ => none }
def PickAtsWrongFalsely : Prop := pickAtsRow.holds Tryd.pinned (OpenSpec.ofChange pickAtsWrong)

/-- 'ravelinlaw2.CutTakes': WHATEVER THE INPUT: true; the input reads as it did. -/
def cutTakesSpec : ChangeSpec := { name := "cutTakes", fn := fun _ => fun
  | [d1, d2] => { results := [.lit (.bool true)], args := [d1, d2] }
  | _ => none }
def cutTakesRow : OpenClaim := { program := "ytfecokkgdojcdaadoor", sum := "0a9551386addd7bcf9f2946140dd906a251663d015fb681627ae52c7c4ae9151", func := "ravelin/ravelinlaw2.CutTakes", spec := "cutTakes", inPlace := ["internal/reflectlite.ValueOf", "(internal/reflectlite.Value).Type", "(internal/reflectlite.Value).IsNil", "internal/reflectlite.TypeOf", "(internal/reflectlite.Value).Elem", "(internal/reflectlite.Value).Set"], unfollowed := true, recurses := true, named := ["errors.errorType"], apart := false, laid := [("errors.errorType", laid_errors_errorType)] }
def CutTakesSaid : Prop := cutTakesRow.holds Tryd.pinned (OpenSpec.ofChange cutTakesSpec)

/-- ITS FALSE NEIGHBOUR: 'it returns false'. Refute it at one input. -/
def cutTakesWrong : ChangeSpec := { name := "cutTakes", fn := fun _ => fun
  | [d1, d2] => { results := [.lit (.bool false)], args := [d1, d2] }
  | _ => none }
def CutTakesWrongFalsely : Prop := cutTakesRow.holds Tryd.pinned (OpenSpec.ofChange cutTakesWrong)

/-- 'ravelinlaw2.CutKeeps': WHATEVER THE INPUT: true; the input reads as it did. -/
def cutKeepsSpec : ChangeSpec := { name := "cutKeeps", fn := fun _ => fun
  | [d1, d2, d3] => { results := [.lit (.bool true)], args := [d1, d2, d3] }
  | _ => none }
def cutKeepsRow : OpenClaim := { program := "ytfecokkgdojcdaadoor", sum := "0a9551386addd7bcf9f2946140dd906a251663d015fb681627ae52c7c4ae9151", func := "ravelin/ravelinlaw2.CutKeeps", spec := "cutKeeps", inPlace := ["internal/reflectlite.ValueOf", "(internal/reflectlite.Value).Type", "(internal/reflectlite.Value).IsNil", "internal/reflectlite.TypeOf", "(internal/reflectlite.Value).Elem", "(internal/reflectlite.Value).Set"], unfollowed := true, recurses := true, named := ["errors.errorType"], apart := false, laid := [("errors.errorType", laid_errors_errorType)] }
def CutKeepsSaid : Prop := cutKeepsRow.holds Tryd.pinned (OpenSpec.ofChange cutKeepsSpec)

/-- ITS FALSE NEIGHBOUR: 'it returns false'. Refute it at one input. -/
def cutKeepsWrong : ChangeSpec := { name := "cutKeeps", fn := fun _ => fun
  | [d1, d2, d3] => { results := [.lit (.bool false)], args := [d1, d2, d3] }
  | _ => none }
def CutKeepsWrongFalsely : Prop := cutKeepsRow.holds Tryd.pinned (OpenSpec.ofChange cutKeepsWrong)

/-- 'ravelinlaw2.CutSpreads': WHATEVER THE INPUT: true; the input reads as it did. -/
def cutSpreadsSpec : ChangeSpec := { name := "cutSpreads", fn := fun _ => fun
  | [d1, d2, d3] => { results := [.lit (.bool true)], args := [d1, d2, d3] }
  | _ => none }
def cutSpreadsRow : OpenClaim := { program := "ytfecokkgdojcdaadoor", sum := "0a9551386addd7bcf9f2946140dd906a251663d015fb681627ae52c7c4ae9151", func := "ravelin/ravelinlaw2.CutSpreads", spec := "cutSpreads", inPlace := ["internal/reflectlite.ValueOf", "(internal/reflectlite.Value).Type", "(internal/reflectlite.Value).IsNil", "internal/reflectlite.TypeOf", "(internal/reflectlite.Value).Elem", "(internal/reflectlite.Value).Set"], unfollowed := true, recurses := true, named := ["errors.errorType"], apart := false, laid := [("errors.errorType", laid_errors_errorType)] }
def CutSpreadsSaid : Prop := cutSpreadsRow.holds Tryd.pinned (OpenSpec.ofChange cutSpreadsSpec)

/-- ITS FALSE NEIGHBOUR: 'it returns false'. Refute it at one input. -/
def cutSpreadsWrong : ChangeSpec := { name := "cutSpreads", fn := fun _ => fun
  | [d1, d2, d3] => { results := [.lit (.bool false)], args := [d1, d2, d3] }
  | _ => none }
def CutSpreadsWrongFalsely : Prop := cutSpreadsRow.holds Tryd.pinned (OpenSpec.ofChange cutSpreadsWrong)

/-- 'ravelinlaw2.SeekSets': WHATEVER THE INPUT: true; the input reads as it did. -/
def seekSetsSpec : ChangeSpec := { name := "seekSets", fn := fun _ => fun
  | [d1, d2] => { results := [.lit (.bool true)], args := [d1, d2] }
  | _ => none }
def seekSetsRow : OpenClaim := { program := "ytfecokkgdojcdaadoor", sum := "0a9551386addd7bcf9f2946140dd906a251663d015fb681627ae52c7c4ae9151", func := "ravelin/ravelinlaw2.SeekSets", spec := "seekSets", inPlace := ["internal/reflectlite.ValueOf", "(internal/reflectlite.Value).Type", "(internal/reflectlite.Value).IsNil", "internal/reflectlite.TypeOf", "(internal/reflectlite.Value).Elem", "(internal/reflectlite.Value).Set"], unfollowed := true, recurses := true, named := ["errors.errorType"], apart := false, laid := [("errors.errorType", laid_errors_errorType)] }
def SeekSetsSaid : Prop := seekSetsRow.holds Tryd.pinned (OpenSpec.ofChange seekSetsSpec)

/-- ITS FALSE NEIGHBOUR: 'it returns false'. Refute it at one input. -/
def seekSetsWrong : ChangeSpec := { name := "seekSets", fn := fun _ => fun
  | [d1, d2] => { results := [.lit (.bool false)], args := [d1, d2] }
  | _ => none }
def SeekSetsWrongFalsely : Prop := seekSetsRow.holds Tryd.pinned (OpenSpec.ofChange seekSetsWrong)

/-- 'ravelinlaw2.PickPuts': WHATEVER THE INPUT: true; the input reads as it did. -/
def pickPutsSpec : ChangeSpec := { name := "pickPuts", fn := fun _ => fun
  | [d1, d2, d3] => { results := [.lit (.bool true)], args := [d1, d2, d3] }
  | _ => none }
def pickPutsRow : OpenClaim := { program := "ytfecokkgdojcdaadoor", sum := "0a9551386addd7bcf9f2946140dd906a251663d015fb681627ae52c7c4ae9151", func := "ravelin/ravelinlaw2.PickPuts", spec := "pickPuts", inPlace := ["internal/reflectlite.ValueOf", "(internal/reflectlite.Value).Type", "(internal/reflectlite.Value).IsNil", "internal/reflectlite.TypeOf", "(internal/reflectlite.Value).Elem", "(internal/reflectlite.Value).Set"], unfollowed := true, recurses := true, named := ["errors.errorType"], apart := false, laid := [("errors.errorType", laid_errors_errorType)] }
def PickPutsSaid : Prop := pickPutsRow.holds Tryd.pinned (OpenSpec.ofChange pickPutsSpec)

/-- ITS FALSE NEIGHBOUR: 'it returns false'. Refute it at one input. -/
def pickPutsWrong : ChangeSpec := { name := "pickPuts", fn := fun _ => fun
  | [d1, d2, d3] => { results := [.lit (.bool false)], args := [d1, d2, d3] }
  | _ => none }
def PickPutsWrongFalsely : Prop := pickPutsRow.holds Tryd.pinned (OpenSpec.ofChange pickPutsWrong)

/- THE SECOND FORM. 'bulk': how many values and letters a reading holds, each counted each time it is reached (what is shared counts as often as it is met; a slice's spare places count too). A statement '..UptoSaid' is the law's where the arguments, and the package variables that the reading takes, are together of bulk at most 1048576: NARROWER than '..Said'. Prove '..Said' where nothing that the law and all that it calls make is longer than what came in: it says more and counts as full. Else prove '..UptoSaid'. A law counts once. -/
mutual
def uptoBulk {H : Type} : DataW H → Nat
  | .lit (.string bytes) => bytes.length + 1
  | .lit _ => 1
  | .nil => 1
  | .ptr d => uptoBulk d + 1
  | .slice elems spare => uptoBulkAll elems + uptoBulkAll spare + 1
  | .agg parts => uptoBulkAll parts + 1
  | .iface _ d => uptoBulk d + 1
  | .map entries => uptoBulkEntries entries + 1
  | .held _ => 1
def uptoBulkAll {H : Type} : List (DataW H) → Nat
  | [] => 0
  | d :: r => uptoBulk d + uptoBulkAll r
def uptoBulkEntries {H : Type} : List (Lit × DataW H) → Nat
  | [] => 0
  | x :: r => uptoBulkEntry x + uptoBulkEntries r
def uptoBulkEntry {H : Type} : Lit × DataW H → Nat
  | (.string bytes, d) => bytes.length + uptoBulk d + 1
  | (_, d) => uptoBulk d + 1
 end
def uptoSmall : (H : Type) → List (DataW H) → Bool := fun _ ds => decide (uptoBulkAll ds ≤ 1048576)
def OpenSpec.upto (s : _root_.Go.ChangeSpec) : _root_.Go.OpenSpec := { _root_.Go.OpenSpec.ofChange s with cond := some uptoSmall }

/-- 'ravelinlaw2.SeekIns', WHERE WHAT IT READS IS OF BULK AT MOST 1048576: true; the input reads as it did. -/
def seekInsUptoRow : OpenClaim := { program := "ytfecokkgdojcdaadoor", sum := "0a9551386addd7bcf9f2946140dd906a251663d015fb681627ae52c7c4ae9151", func := "ravelin/ravelinlaw2.SeekIns", spec := "seekIns", inPlace := ["internal/reflectlite.ValueOf", "(internal/reflectlite.Value).Type", "(internal/reflectlite.Value).IsNil", "internal/reflectlite.TypeOf", "(internal/reflectlite.Value).Elem", "(internal/reflectlite.Value).Set"], unfollowed := true, recurses := true, named := ["errors.errorType"], apart := false, laid := [("errors.errorType", laid_errors_errorType)], narrowed := true }
def SeekInsUptoSaid : Prop := seekInsUptoRow.holds Tryd.pinned (OpenSpec.upto seekInsSpec)

/-- 'ravelinlaw2.SeekIndexes', WHERE WHAT IT READS IS OF BULK AT MOST 1048576: true; the input reads as it did. -/
def seekIndexesUptoRow : OpenClaim := { program := "ytfecokkgdojcdaadoor", sum := "0a9551386addd7bcf9f2946140dd906a251663d015fb681627ae52c7c4ae9151", func := "ravelin/ravelinlaw2.SeekIndexes", spec := "seekIndexes", inPlace := ["internal/reflectlite.ValueOf", "(internal/reflectlite.Value).Type", "(internal/reflectlite.Value).IsNil", "internal/reflectlite.TypeOf", "(internal/reflectlite.Value).Elem", "(internal/reflectlite.Value).Set"], unfollowed := true, recurses := true, named := ["errors.errorType"], apart := false, laid := [("errors.errorType", laid_errors_errorType)], narrowed := true }
def SeekIndexesUptoSaid : Prop := seekIndexesUptoRow.holds Tryd.pinned (OpenSpec.upto seekIndexesSpec)

/-- 'ravelinlaw2.TurnReverses', WHERE WHAT IT READS IS OF BULK AT MOST 1048576: true; the input reads as it did. -/
def turnReversesUptoRow : OpenClaim := { program := "ytfecokkgdojcdaadoor", sum := "0a9551386addd7bcf9f2946140dd906a251663d015fb681627ae52c7c4ae9151", func := "ravelin/ravelinlaw2.TurnReverses", spec := "turnReverses", inPlace := ["internal/reflectlite.ValueOf", "(internal/reflectlite.Value).Type", "(internal/reflectlite.Value).IsNil", "internal/reflectlite.TypeOf", "(internal/reflectlite.Value).Elem", "(internal/reflectlite.Value).Set"], unfollowed := true, recurses := true, named := ["errors.errorType"], apart := false, laid := [("errors.errorType", laid_errors_errorType)], narrowed := true }
def TurnReversesUptoSaid : Prop := turnReversesUptoRow.holds Tryd.pinned (OpenSpec.upto turnReversesSpec)

/-- 'ravelinlaw2.CutJoins', WHERE WHAT IT READS IS OF BULK AT MOST 1048576: true; the input reads as it did. -/
def cutJoinsUptoRow : OpenClaim := { program := "ytfecokkgdojcdaadoor", sum := "0a9551386addd7bcf9f2946140dd906a251663d015fb681627ae52c7c4ae9151", func := "ravelin/ravelinlaw2.CutJoins", spec := "cutJoins", inPlace := ["internal/reflectlite.ValueOf", "(internal/reflectlite.Value).Type", "(internal/reflectlite.Value).IsNil", "internal/reflectlite.TypeOf", "(internal/reflectlite.Value).Elem", "(internal/reflectlite.Value).Set"], unfollowed := true, recurses := true, named := ["errors.errorType"], apart := false, laid := [("errors.errorType", laid_errors_errorType)], narrowed := true }
def CutJoinsUptoSaid : Prop := cutJoinsUptoRow.holds Tryd.pinned (OpenSpec.upto cutJoinsSpec)

/-- 'ravelinlaw2.TurnRotates', WHERE WHAT IT READS IS OF BULK AT MOST 1048576: true; the input reads as it did. -/
def turnRotatesUptoRow : OpenClaim := { program := "ytfecokkgdojcdaadoor", sum := "0a9551386addd7bcf9f2946140dd906a251663d015fb681627ae52c7c4ae9151", func := "ravelin/ravelinlaw2.TurnRotates", spec := "turnRotates", inPlace := ["internal/reflectlite.ValueOf", "(internal/reflectlite.Value).Type", "(internal/reflectlite.Value).IsNil", "internal/reflectlite.TypeOf", "(internal/reflectlite.Value).Elem", "(internal/reflectlite.Value).Set"], unfollowed := true, recurses := true, named := ["errors.errorType"], apart := false, laid := [("errors.errorType", laid_errors_errorType)], narrowed := true }
def TurnRotatesUptoSaid : Prop := turnRotatesUptoRow.holds Tryd.pinned (OpenSpec.upto turnRotatesSpec)

/-- 'ravelinlaw2.TurnFlips', WHERE WHAT IT READS IS OF BULK AT MOST 1048576: true; the input reads as it did. -/
def turnFlipsUptoRow : OpenClaim := { program := "ytfecokkgdojcdaadoor", sum := "0a9551386addd7bcf9f2946140dd906a251663d015fb681627ae52c7c4ae9151", func := "ravelin/ravelinlaw2.TurnFlips", spec := "turnFlips", inPlace := ["internal/reflectlite.ValueOf", "(internal/reflectlite.Value).Type", "(internal/reflectlite.Value).IsNil", "internal/reflectlite.TypeOf", "(internal/reflectlite.Value).Elem", "(internal/reflectlite.Value).Set"], unfollowed := true, recurses := true, named := ["errors.errorType"], apart := false, laid := [("errors.errorType", laid_errors_errorType)], narrowed := true }
def TurnFlipsUptoSaid : Prop := turnFlipsUptoRow.holds Tryd.pinned (OpenSpec.upto turnFlipsSpec)

/-- 'ravelinlaw2.CutDrops', WHERE WHAT IT READS IS OF BULK AT MOST 1048576: true; the input reads as it did. -/
def cutDropsUptoRow : OpenClaim := { program := "ytfecokkgdojcdaadoor", sum := "0a9551386addd7bcf9f2946140dd906a251663d015fb681627ae52c7c4ae9151", func := "ravelin/ravelinlaw2.CutDrops", spec := "cutDrops", inPlace := ["internal/reflectlite.ValueOf", "(internal/reflectlite.Value).Type", "(internal/reflectlite.Value).IsNil", "internal/reflectlite.TypeOf", "(internal/reflectlite.Value).Elem", "(internal/reflectlite.Value).Set"], unfollowed := true, recurses := true, named := ["errors.errorType"], apart := false, laid := [("errors.errorType", laid_errors_errorType)], narrowed := true }
def CutDropsUptoSaid : Prop := cutDropsUptoRow.holds Tryd.pinned (OpenSpec.upto cutDropsSpec)

/-- 'ravelinlaw2.PickAts', WHERE WHAT IT READS IS OF BULK AT MOST 1048576: true; the input reads as it did. -/
def pickAtsUptoRow : OpenClaim := { program := "ytfecokkgdojcdaadoor", sum := "0a9551386addd7bcf9f2946140dd906a251663d015fb681627ae52c7c4ae9151", func := "ravelin/ravelinlaw2.PickAts", spec := "pickAts", inPlace := ["internal/reflectlite.ValueOf", "(internal/reflectlite.Value).Type", "(internal/reflectlite.Value).IsNil", "internal/reflectlite.TypeOf", "(internal/reflectlite.Value).Elem", "(internal/reflectlite.Value).Set"], unfollowed := true, recurses := true, named := ["errors.errorType"], apart := false, laid := [("errors.errorType", laid_errors_errorType)], narrowed := true }
def PickAtsUptoSaid : Prop := pickAtsUptoRow.holds Tryd.pinned (OpenSpec.upto pickAtsSpec)

/-- 'ravelinlaw2.CutTakes', WHERE WHAT IT READS IS OF BULK AT MOST 1048576: true; the input reads as it did. -/
def cutTakesUptoRow : OpenClaim := { program := "ytfecokkgdojcdaadoor", sum := "0a9551386addd7bcf9f2946140dd906a251663d015fb681627ae52c7c4ae9151", func := "ravelin/ravelinlaw2.CutTakes", spec := "cutTakes", inPlace := ["internal/reflectlite.ValueOf", "(internal/reflectlite.Value).Type", "(internal/reflectlite.Value).IsNil", "internal/reflectlite.TypeOf", "(internal/reflectlite.Value).Elem", "(internal/reflectlite.Value).Set"], unfollowed := true, recurses := true, named := ["errors.errorType"], apart := false, laid := [("errors.errorType", laid_errors_errorType)], narrowed := true }
def CutTakesUptoSaid : Prop := cutTakesUptoRow.holds Tryd.pinned (OpenSpec.upto cutTakesSpec)

/-- 'ravelinlaw2.CutKeeps', WHERE WHAT IT READS IS OF BULK AT MOST 1048576: true; the input reads as it did. -/
def cutKeepsUptoRow : OpenClaim := { program := "ytfecokkgdojcdaadoor", sum := "0a9551386addd7bcf9f2946140dd906a251663d015fb681627ae52c7c4ae9151", func := "ravelin/ravelinlaw2.CutKeeps", spec := "cutKeeps", inPlace := ["internal/reflectlite.ValueOf", "(internal/reflectlite.Value).Type", "(internal/reflectlite.Value).IsNil", "internal/reflectlite.TypeOf", "(internal/reflectlite.Value).Elem", "(internal/reflectlite.Value).Set"], unfollowed := true, recurses := true, named := ["errors.errorType"], apart := false, laid := [("errors.errorType", laid_errors_errorType)], narrowed := true }
def CutKeepsUptoSaid : Prop := cutKeepsUptoRow.holds Tryd.pinned (OpenSpec.upto cutKeepsSpec)

/-- 'ravelinlaw2.CutSpreads', WHERE WHAT IT READS IS OF BULK AT MOST 1048576: true; the input reads as it did. -/
def cutSpreadsUptoRow : OpenClaim := { program := "ytfecokkgdojcdaadoor", sum := "0a9551386addd7bcf9f2946140dd906a251663d015fb681627ae52c7c4ae9151", func := "ravelin/ravelinlaw2.CutSpreads", spec := "cutSpreads", inPlace := ["internal/reflectlite.ValueOf", "(internal/reflectlite.Value).Type", "(internal/reflectlite.Value).IsNil", "internal/reflectlite.TypeOf", "(internal/reflectlite.Value).Elem", "(internal/reflectlite.Value).Set"], unfollowed := true, recurses := true, named := ["errors.errorType"], apart := false, laid := [("errors.errorType", laid_errors_errorType)], narrowed := true }
def CutSpreadsUptoSaid : Prop := cutSpreadsUptoRow.holds Tryd.pinned (OpenSpec.upto cutSpreadsSpec)

/-- 'ravelinlaw2.SeekSets', WHERE WHAT IT READS IS OF BULK AT MOST 1048576: true; the input reads as it did. -/
def seekSetsUptoRow : OpenClaim := { program := "ytfecokkgdojcdaadoor", sum := "0a9551386addd7bcf9f2946140dd906a251663d015fb681627ae52c7c4ae9151", func := "ravelin/ravelinlaw2.SeekSets", spec := "seekSets", inPlace := ["internal/reflectlite.ValueOf", "(internal/reflectlite.Value).Type", "(internal/reflectlite.Value).IsNil", "internal/reflectlite.TypeOf", "(internal/reflectlite.Value).Elem", "(internal/reflectlite.Value).Set"], unfollowed := true, recurses := true, named := ["errors.errorType"], apart := false, laid := [("errors.errorType", laid_errors_errorType)], narrowed := true }
def SeekSetsUptoSaid : Prop := seekSetsUptoRow.holds Tryd.pinned (OpenSpec.upto seekSetsSpec)

/-- 'ravelinlaw2.PickPuts', WHERE WHAT IT READS IS OF BULK AT MOST 1048576: true; the input reads as it did. -/
def pickPutsUptoRow : OpenClaim := { program := "ytfecokkgdojcdaadoor", sum := "0a9551386addd7bcf9f2946140dd906a251663d015fb681627ae52c7c4ae9151", func := "ravelin/ravelinlaw2.PickPuts", spec := "pickPuts", inPlace := ["internal/reflectlite.ValueOf", "(internal/reflectlite.Value).Type", "(internal/reflectlite.Value).IsNil", "internal/reflectlite.TypeOf", "(internal/reflectlite.Value).Elem", "(internal/reflectlite.Value).Set"], unfollowed := true, recurses := true, named := ["errors.errorType"], apart := false, laid := [("errors.errorType", laid_errors_errorType)], narrowed := true }
def PickPutsUptoSaid : Prop := pickPutsUptoRow.holds Tryd.pinned (OpenSpec.upto pickPutsSpec)

end Rows
end Go.Proofs.YtfecokkgdojcdaaDoor
