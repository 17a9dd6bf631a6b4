/-
  NARROWER THAN 'FOR EVERY INPUT', by the rows' own cells (each row's printed sentence says how): FoldReduces: laid · FoldScans: laid · FoldWindows: laid · FoldAxes: laid · FoldSums: laid · FoldJoins: laid.
  DERIVED. THE GIVEN ROWS OF THIS SEAT. 6 by the template 'for every input the law returns true; each argument reads behind the call as it read before'; 0 by the template 'total and deterministic' (their statements: YtojeggeimnenbaaDoorTotals.lean).
  GIVEN WITH THE SEED: the statements are not yours to turn. If you find one false, say at which input.
  Laid BY PROGRAM, IN A SANDBOX (cutbox-rows.mjs): the forced cells as the released guide's own fill.sh prints them over the translation 21bef1acfdbd8cbd… (all of the seat's roots in one cut). By AI agents, Wed Nov 11 2026. No macro, syntax, notation, axiom, sorry.
-/
import Derived.Test.YtojeggeimnenbaaDoorChecked
import GoSem.Claim
import GoSem.ClaimJoined
import GoSem.ClaimMapViews
import Derived.JoinedTies
import Derived.KernelRfl
namespace Go.Proofs.YtojeggeimnenbaaDoor
/- THE CELL 'sum', in the pinned program and in every row, IS THE sha256 OF THE DUMP (.gsa) THAT YtojeggeimnenbaaDoorProg.lean LOADS. Nothing in Lean hashes anything: it is a label: what it is worth is what the hold of that sum in a sandbox is worth. -/
noncomputable def Tryd.pinned : Pinned := { name := "ytojeggeimnenbaadoor", sum := "21bef1acfdbd8cbd6be94b016fe67f432018f49f4da9d54816265d63874fa22e", checked := Tryd.checked }
namespace Rows
def none {H : Type} : Left H := { results := [], args := [] }

/- WHAT THE LISTED PACKAGE-LEVEL VARIABLES READ AS WHEN THE CALL BEGINS. Each datum BY PROGRAM (the guide's laid-datum.mjs) off the statement by which the dump's own 'gosem.cut.vars' lays the variable. In a bare row this is a premise. The card (YtojeggeimnenbaaDoorCards.lean) ties it to the program's text. -/
def laid_errors_errorType {H : Type} : DataW H := .iface "internal/reflectlite.rtype" (.agg [.ptr (.lit (.string [101, 114, 114, 111, 114]))])

/-- 'ravelinlaw3.FoldReduces': WHATEVER THE INPUT: true; the input reads as it did. -/
def foldReducesSpec : ChangeSpec := { name := "foldReduces", fn := fun _ => fun
  | [d1, d2, d3] => { results := [.lit (.bool true)], args := [d1, d2, d3] }
  | _ => none }
def foldReducesRow : OpenClaim := { program := "ytojeggeimnenbaadoor", sum := "21bef1acfdbd8cbd6be94b016fe67f432018f49f4da9d54816265d63874fa22e", func := "ravelin/ravelinlaw3.FoldReduces", spec := "foldReduces", inPlace := ["internal/reflectlite.ValueOf", "(internal/reflectlite.Value).Type", "(internal/reflectlite.Value).IsNil", "internal/reflectlite.TypeOf", "(internal/reflectlite.Value).Elem", "(internal/reflectlite.Value).Set"], unfollowed := true, recurses := true, named := ["errors.errorType"], apart := false, laid := [("errors.errorType", laid_errors_errorType)] }
def FoldReducesSaid : Prop := foldReducesRow.holds Tryd.pinned (OpenSpec.ofChange foldReducesSpec)

/-- ITS FALSE NEIGHBOUR: 'it returns false'. Refute it at one input. -/
def foldReducesWrong : ChangeSpec := { name := "foldReduces", fn := fun _ => fun
  | [d1, d2, d3] => { results := [.lit (.bool false)], args := [d1, d2, d3] }
  | _ => none }
def FoldReducesWrongFalsely : Prop := foldReducesRow.holds Tryd.pinned (OpenSpec.ofChange foldReducesWrong)

/-- 'ravelinlaw3.FoldScans': WHATEVER THE INPUT: true; the input reads as it did. -/
def foldScansSpec : ChangeSpec := { name := "foldScans", fn := fun _ => fun
  | [d1, d2, d3] => { results := [.lit (.bool true)], args := [d1, d2, d3] }
  | _ => none }
def foldScansRow : OpenClaim := { program := "ytojeggeimnenbaadoor", sum := "21bef1acfdbd8cbd6be94b016fe67f432018f49f4da9d54816265d63874fa22e", func := "ravelin/ravelinlaw3.FoldScans", spec := "foldScans", inPlace := ["internal/reflectlite.ValueOf", "(internal/reflectlite.Value).Type", "(internal/reflectlite.Value).IsNil", "internal/reflectlite.TypeOf", "(internal/reflectlite.Value).Elem", "(internal/reflectlite.Value).Set"], unfollowed := true, recurses := true, named := ["errors.errorType"], apart := false, laid := [("errors.errorType", laid_errors_errorType)] }
def FoldScansSaid : Prop := foldScansRow.holds Tryd.pinned (OpenSpec.ofChange foldScansSpec)

/-- ITS FALSE NEIGHBOUR: 'it returns false'. Refute it at one input. -/
def foldScansWrong : ChangeSpec := { name := "foldScans", fn := fun _ => fun
  | [d1, d2, d3] => { results := [.lit (.bool false)], args := [d1, d2, d3] }
  | _ => none }
def FoldScansWrongFalsely : Prop := foldScansRow.holds Tryd.pinned (OpenSpec.ofChange foldScansWrong)

/-- 'ravelinlaw3.FoldWindows': WHATEVER THE INPUT: true; the input reads as it did. -/
def foldWindowsSpec : ChangeSpec := { name := "foldWindows", fn := fun _ => fun
  | [d1, d2, d3, d4] => { results := [.lit (.bool true)], args := [d1, d2, d3, d4] }
  | _ => none }
def foldWindowsRow : OpenClaim := { program := "ytojeggeimnenbaadoor", sum := "21bef1acfdbd8cbd6be94b016fe67f432018f49f4da9d54816265d63874fa22e", func := "ravelin/ravelinlaw3.FoldWindows", spec := "foldWindows", inPlace := ["internal/reflectlite.ValueOf", "(internal/reflectlite.Value).Type", "(internal/reflectlite.Value).IsNil", "internal/reflectlite.TypeOf", "(internal/reflectlite.Value).Elem", "(internal/reflectlite.Value).Set"], unfollowed := true, recurses := true, named := ["errors.errorType"], apart := false, laid := [("errors.errorType", laid_errors_errorType)] }
def FoldWindowsSaid : Prop := foldWindowsRow.holds Tryd.pinned (OpenSpec.ofChange foldWindowsSpec)

/-- ITS FALSE NEIGHBOUR: 'it returns false'. Refute it at one input. -/
def foldWindowsWrong : ChangeSpec := { name := "foldWindows", fn := fun _ => fun
  | [d1, d2, d3, d4] => { results := [.lit (.bool false)], args := [d1, d2, d3, d4] }
  | _ => none }
def FoldWindowsWrongFalsely : Prop := foldWindowsRow.holds Tryd.pinned (OpenSpec.ofChange foldWindowsWrong)

/-- 'ravelinlaw3.FoldAxes': WHATEVER THE INPUT: true; the input reads as it did. -/
def foldAxesSpec : ChangeSpec := { name := "foldAxes", fn := fun _ => fun
  | [d1, d2, d3, d4] => { results := [.lit (.bool true)], args := [d1, d2, d3, d4] }
  | _ => none }
def foldAxesRow : OpenClaim := { program := "ytojeggeimnenbaadoor", sum := "21bef1acfdbd8cbd6be94b016fe67f432018f49f4da9d54816265d63874fa22e", func := "ravelin/ravelinlaw3.FoldAxes", spec := "foldAxes", inPlace := ["internal/reflectlite.ValueOf", "(internal/reflectlite.Value).Type", "(internal/reflectlite.Value).IsNil", "internal/reflectlite.TypeOf", "(internal/reflectlite.Value).Elem", "(internal/reflectlite.Value).Set"], unfollowed := true, recurses := true, named := ["errors.errorType"], apart := false, laid := [("errors.errorType", laid_errors_errorType)] }
def FoldAxesSaid : Prop := foldAxesRow.holds Tryd.pinned (OpenSpec.ofChange foldAxesSpec)

/-- ITS FALSE NEIGHBOUR: 'it returns false'. Refute it at one input. -/
def foldAxesWrong : ChangeSpec := { name := "foldAxes", fn := fun _ => fun
  | [d1, d2, d3, d4] => { results := [.lit (.bool false)], args := [d1, d2, d3, d4] }
  | _ => none }
def FoldAxesWrongFalsely : Prop := foldAxesRow.holds Tryd.pinned (OpenSpec.ofChange foldAxesWrong)

/-- 'ravelinlaw3.FoldSums': WHATEVER THE INPUT: true; the input reads as it did. -/
def foldSumsSpec : ChangeSpec := { name := "foldSums", fn := fun _ => fun
  | [d1, d2] => { results := [.lit (.bool true)], args := [d1, d2] }
  | _ => none }
def foldSumsRow : OpenClaim := { program := "ytojeggeimnenbaadoor", sum := "21bef1acfdbd8cbd6be94b016fe67f432018f49f4da9d54816265d63874fa22e", func := "ravelin/ravelinlaw3.FoldSums", spec := "foldSums", inPlace := ["internal/reflectlite.ValueOf", "(internal/reflectlite.Value).Type", "(internal/reflectlite.Value).IsNil", "internal/reflectlite.TypeOf", "(internal/reflectlite.Value).Elem", "(internal/reflectlite.Value).Set"], unfollowed := true, recurses := true, named := ["errors.errorType"], apart := false, laid := [("errors.errorType", laid_errors_errorType)] }
def FoldSumsSaid : Prop := foldSumsRow.holds Tryd.pinned (OpenSpec.ofChange foldSumsSpec)

/-- ITS FALSE NEIGHBOUR: 'it returns false'. Refute it at one input. -/
def foldSumsWrong : ChangeSpec := { name := "foldSums", fn := fun _ => fun
  | [d1, d2] => { results := [.lit (.bool false)], args := [d1, d2] }
  | _ => none }
def FoldSumsWrongFalsely : Prop := foldSumsRow.holds Tryd.pinned (OpenSpec.ofChange foldSumsWrong)

/-- 'ravelinlaw3.FoldJoins': WHATEVER THE INPUT: true; the input reads as it did. -/
def foldJoinsSpec : ChangeSpec := { name := "foldJoins", fn := fun _ => fun
  | [d1, d2, d3, d4] => { results := [.lit (.bool true)], args := [d1, d2, d3, d4] }
  | _ => none }
def foldJoinsRow : OpenClaim := { program := "ytojeggeimnenbaadoor", sum := "21bef1acfdbd8cbd6be94b016fe67f432018f49f4da9d54816265d63874fa22e", func := "ravelin/ravelinlaw3.FoldJoins", spec := "foldJoins", inPlace := ["internal/reflectlite.ValueOf", "(internal/reflectlite.Value).Type", "(internal/reflectlite.Value).IsNil", "internal/reflectlite.TypeOf", "(internal/reflectlite.Value).Elem", "(internal/reflectlite.Value).Set"], unfollowed := true, recurses := true, named := ["errors.errorType"], apart := false, laid := [("errors.errorType", laid_errors_errorType)] }
def FoldJoinsSaid : Prop := foldJoinsRow.holds Tryd.pinned (OpenSpec.ofChange foldJoinsSpec)

/-- ITS FALSE NEIGHBOUR: 'it returns false'. Refute it at one input. -/
def foldJoinsWrong : ChangeSpec := { name := "foldJoins", fn := fun _ => fun
  | [d1, d2, d3, d4] => { results := [.lit (.bool false)], args := [d1, d2, d3, d4] }
  | _ => none }
def FoldJoinsWrongFalsely : Prop := foldJoinsRow.holds Tryd.pinned (OpenSpec.ofChange foldJoinsWrong)

/- THE SECOND FORM. 'bulk': how many values and letters a reading holds, each counted each time it is reached (what is shared counts as often as it is met; a slice's spare places count too). A statement '..UptoSaid' is the law's where the arguments, and the package variables that the reading takes, are together of bulk at most 1048576: NARROWER than '..Said'. Prove '..Said' where nothing that the law and all that it calls make is longer than what came in: it says more and counts as full. Else prove '..UptoSaid'. A law counts once. -/
mutual
def uptoBulk {H : Type} : DataW H → Nat
  | .lit (.string bytes) => bytes.length + 1
  | .lit _ => 1
  | .nil => 1
  | .ptr d => uptoBulk d + 1
  | .slice elems spare => uptoBulkAll elems + uptoBulkAll spare + 1
  | .agg parts => uptoBulkAll parts + 1
  | .iface _ d => uptoBulk d + 1
  | .map entries => uptoBulkEntries entries + 1
  | .held _ => 1
def uptoBulkAll {H : Type} : List (DataW H) → Nat
  | [] => 0
  | d :: r => uptoBulk d + uptoBulkAll r
def uptoBulkEntries {H : Type} : List (Lit × DataW H) → Nat
  | [] => 0
  | x :: r => uptoBulkEntry x + uptoBulkEntries r
def uptoBulkEntry {H : Type} : Lit × DataW H → Nat
  | (.string bytes, d) => bytes.length + uptoBulk d + 1
  | (_, d) => uptoBulk d + 1
 end
def uptoSmall : (H : Type) → List (DataW H) → Bool := fun _ ds => decide (uptoBulkAll ds ≤ 1048576)
def OpenSpec.upto (s : _root_.Go.ChangeSpec) : _root_.Go.OpenSpec := { _root_.Go.OpenSpec.ofChange s with cond := some uptoSmall }

/-- 'ravelinlaw3.FoldReduces', WHERE WHAT IT READS IS OF BULK AT MOST 1048576: true; the input reads as it did. -/
def foldReducesUptoRow : OpenClaim := { program := "ytojeggeimnenbaadoor", sum := "21bef1acfdbd8cbd6be94b016fe67f432018f49f4da9d54816265d63874fa22e", func := "ravelin/ravelinlaw3.FoldReduces", spec := "foldReduces", inPlace := ["internal/reflectlite.ValueOf", "(internal/reflectlite.Value).Type", "(internal/reflectlite.Value).IsNil", "internal/reflectlite.TypeOf", "(internal/reflectlite.Value).Elem", "(internal/reflectlite.Value).Set"], unfollowed := true, recurses := true, named := ["errors.errorType"], apart := false, laid := [("errors.errorType", laid_errors_errorType)], narrowed := true }
def FoldReducesUptoSaid : Prop := foldReducesUptoRow.holds Tryd.pinned (OpenSpec.upto foldReducesSpec)

/-- 'ravelinlaw3.FoldScans', WHERE WHAT IT READS IS OF BULK AT MOST 1048576: true; the input reads as it did. -/
def foldScansUptoRow : OpenClaim := { program := "ytojeggeimnenbaadoor", sum := "21bef1acfdbd8cbd6be94b016fe67f432018f49f4da9d54816265d63874fa22e", func := "ravelin/ravelinlaw3.FoldScans", spec := "foldScans", inPlace := ["internal/reflectlite.ValueOf", "(internal/reflectlite.Value).Type", "(internal/reflectlite.Value).IsNil", "internal/reflectlite.TypeOf", "(internal/reflectlite.Value).Elem", "(internal/reflectlite.Value).Set"], unfollowed := true, recurses := true, named := ["errors.errorType"], apart := false, laid := [("errors.errorType", laid_errors_errorType)], narrowed := true }
def FoldScansUptoSaid : Prop := foldScansUptoRow.holds Tryd.pinned (OpenSpec.upto foldScansSpec)

/-- 'ravelinlaw3.FoldWindows', WHERE WHAT IT READS IS OF BULK AT MOST 1048576: true; the input reads as it did. -/
def foldWindowsUptoRow : OpenClaim := { program := "ytojeggeimnenbaadoor", sum := "21bef1acfdbd8cbd6be94b016fe67f432018f49f4da9d54816265d63874fa22e", func := "ravelin/ravelinlaw3.FoldWindows", spec := "foldWindows", inPlace := ["internal/reflectlite.ValueOf", "(internal/reflectlite.Value).Type", "(internal/reflectlite.Value).IsNil", "internal/reflectlite.TypeOf", "(internal/reflectlite.Value).Elem", "(internal/reflectlite.Value).Set"], unfollowed := true, recurses := true, named := ["errors.errorType"], apart := false, laid := [("errors.errorType", laid_errors_errorType)], narrowed := true }
def FoldWindowsUptoSaid : Prop := foldWindowsUptoRow.holds Tryd.pinned (OpenSpec.upto foldWindowsSpec)

/-- 'ravelinlaw3.FoldAxes', WHERE WHAT IT READS IS OF BULK AT MOST 1048576: true; the input reads as it did. -/
def foldAxesUptoRow : OpenClaim := { program := "ytojeggeimnenbaadoor", sum := "21bef1acfdbd8cbd6be94b016fe67f432018f49f4da9d54816265d63874fa22e", func := "ravelin/ravelinlaw3.FoldAxes", spec := "foldAxes", inPlace := ["internal/reflectlite.ValueOf", "(internal/reflectlite.Value).Type", "(internal/reflectlite.Value).IsNil", "internal/reflectlite.TypeOf", "(internal/reflectlite.Value).Elem", "(internal/reflectlite.Value).Set"], unfollowed := true, recurses := true, named := ["errors.errorType"], apart := false, laid := [("errors.errorType", laid_errors_errorType)], narrowed := true }
def FoldAxesUptoSaid : Prop := foldAxesUptoRow.holds Tryd.pinned (OpenSpec.upto foldAxesSpec)

/-- 'ravelinlaw3.FoldSums', WHERE WHAT IT READS IS OF BULK AT MOST 1048576: true; the input reads as it did. -/
def foldSumsUptoRow : OpenClaim := { program := "ytojeggeimnenbaadoor", sum := "21bef1acfdbd8cbd6be94b016fe67f432018f49f4da9d54816265d63874fa22e", func := "ravelin/ravelinlaw3.FoldSums", spec := "foldSums", inPlace := ["internal/reflectlite.ValueOf", "(internal/reflectlite.Value).Type", "(internal/reflectlite.Value).IsNil", "internal/reflectlite.TypeOf", "(internal/reflectlite.Value).Elem", "(internal/reflectlite.Value).Set"], unfollowed := true, recurses := true, named := ["errors.errorType"], apart := false, laid := [("errors.errorType", laid_errors_errorType)], narrowed := true }
def FoldSumsUptoSaid : Prop := foldSumsUptoRow.holds Tryd.pinned (OpenSpec.upto foldSumsSpec)

/-- 'ravelinlaw3.FoldJoins', WHERE WHAT IT READS IS OF BULK AT MOST 1048576: true; the input reads as it did. -/
def foldJoinsUptoRow : OpenClaim := { program := "ytojeggeimnenbaadoor", sum := "21bef1acfdbd8cbd6be94b016fe67f432018f49f4da9d54816265d63874fa22e", func := "ravelin/ravelinlaw3.FoldJoins", spec := "foldJoins", inPlace := ["internal/reflectlite.ValueOf", "(internal/reflectlite.Value).Type", "(internal/reflectlite.Value).IsNil", "internal/reflectlite.TypeOf", "(internal/reflectlite.Value).Elem", "(internal/reflectlite.Value).Set"], unfollowed := true, recurses := true, named := ["errors.errorType"], apart := false, laid := [("errors.errorType", laid_errors_errorType)], narrowed := true }
def FoldJoinsUptoSaid : Prop := foldJoinsUptoRow.holds Tryd.pinned (OpenSpec.upto foldJoinsSpec)

end Rows
end Go.Proofs.YtojeggeimnenbaaDoor
