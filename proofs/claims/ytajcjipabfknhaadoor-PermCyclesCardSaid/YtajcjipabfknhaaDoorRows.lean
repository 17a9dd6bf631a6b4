/-
  NARROWER THAN 'FOR EVERY INPUT', by the rows' own cells (each row's printed sentence says how): PermTurns: laid · PermPowers: laid · PermCycles: laid · RadixValues: laid · PermRanks: laid.
  DERIVED. THE GIVEN ROWS OF THIS SEAT. 5 by the template 'for every input the law returns true; each argument reads behind the call as it read before'; 0 by the template 'total and deterministic' (their statements: YtajcjipabfknhaaDoorTotals.lean).
  GIVEN WITH THE SEED: the statements are not yours to turn. If you find one false, say at which input.
  Laid BY PROGRAM, IN A SANDBOX (cutbox-rows.mjs): the forced cells as the released guide's own fill.sh prints them over the translation a3e2ff5e0584ccf6… (all of the seat's roots in one cut). By AI agents, Wed Nov 11 2026. No macro, syntax, notation, axiom, sorry.
-/
import Derived.Test.YtajcjipabfknhaaDoorChecked
import GoSem.Claim
import GoSem.ClaimJoined
import GoSem.ClaimMapViews
import Derived.JoinedTies
import Derived.KernelRfl
namespace Go.Proofs.YtajcjipabfknhaaDoor
/- THE CELL 'sum', in the pinned program and in every row, IS THE sha256 OF THE DUMP (.gsa) THAT YtajcjipabfknhaaDoorProg.lean LOADS. Nothing in Lean hashes anything: it is a label: what it is worth is what the hold of that sum in a sandbox is worth. -/
noncomputable def Tryd.pinned : Pinned := { name := "ytajcjipabfknhaadoor", sum := "a3e2ff5e0584ccf6ee883f03e4f0fac028d9dc5ac3de4305db6c27d1e8189517", checked := Tryd.checked }
namespace Rows
def none {H : Type} : Left H := { results := [], args := [] }

/- WHAT THE LISTED PACKAGE-LEVEL VARIABLES READ AS WHEN THE CALL BEGINS. Each datum BY PROGRAM (the guide's laid-datum.mjs) off the statement by which the dump's own 'gosem.cut.vars' lays the variable. In a bare row this is a premise. The card (YtajcjipabfknhaaDoorCards.lean) ties it to the program's text. -/
def laid_errors_errorType {H : Type} : DataW H := .iface "internal/reflectlite.rtype" (.agg [.ptr (.lit (.string [101, 114, 114, 111, 114]))])

/-- 'ravelinlaw3.PermTurns': WHATEVER THE INPUT: true; the input reads as it did. -/
def permTurnsSpec : ChangeSpec := { name := "permTurns", fn := fun _ => fun
  | [d1, d2] => { results := [.lit (.bool true)], args := [d1, d2] }
  | _ => none }
def permTurnsRow : OpenClaim := { program := "ytajcjipabfknhaadoor", sum := "a3e2ff5e0584ccf6ee883f03e4f0fac028d9dc5ac3de4305db6c27d1e8189517", func := "ravelin/ravelinlaw3.PermTurns", spec := "permTurns", inPlace := ["internal/reflectlite.ValueOf", "(internal/reflectlite.Value).Type", "(internal/reflectlite.Value).IsNil", "internal/reflectlite.TypeOf", "(internal/reflectlite.Value).Elem", "(internal/reflectlite.Value).Set"], unfollowed := true, recurses := true, named := ["errors.errorType"], apart := false, laid := [("errors.errorType", laid_errors_errorType)] }
def PermTurnsSaid : Prop := permTurnsRow.holds Tryd.pinned (OpenSpec.ofChange permTurnsSpec)

/-- ITS FALSE NEIGHBOUR: 'it returns false'. Refute it at one input. -/
def permTurnsWrong : ChangeSpec := { name := "permTurns", fn := fun _ => fun
  | [d1, d2] => { results := [.lit (.bool false)], args := [d1, d2] }
  | _ => none }
def PermTurnsWrongFalsely : Prop := permTurnsRow.holds Tryd.pinned (OpenSpec.ofChange permTurnsWrong)

/-- 'ravelinlaw3.PermPowers': WHATEVER THE INPUT: true; the input reads as it did. -/
def permPowersSpec : ChangeSpec := { name := "permPowers", fn := fun _ => fun
  | [d1, d2] => { results := [.lit (.bool true)], args := [d1, d2] }
  | _ => none }
def permPowersRow : OpenClaim := { program := "ytajcjipabfknhaadoor", sum := "a3e2ff5e0584ccf6ee883f03e4f0fac028d9dc5ac3de4305db6c27d1e8189517", func := "ravelin/ravelinlaw3.PermPowers", spec := "permPowers", inPlace := ["internal/reflectlite.ValueOf", "(internal/reflectlite.Value).Type", "(internal/reflectlite.Value).IsNil", "internal/reflectlite.TypeOf", "(internal/reflectlite.Value).Elem", "(internal/reflectlite.Value).Set"], unfollowed := true, recurses := true, named := ["errors.errorType"], apart := false, laid := [("errors.errorType", laid_errors_errorType)] }
def PermPowersSaid : Prop := permPowersRow.holds Tryd.pinned (OpenSpec.ofChange permPowersSpec)

/-- ITS FALSE NEIGHBOUR: 'it returns false'. Refute it at one input. -/
def permPowersWrong : ChangeSpec := { name := "permPowers", fn := fun _ => fun
  | [d1, d2] => { results := [.lit (.bool false)], args := [d1, d2] }
  | _ => none }
def PermPowersWrongFalsely : Prop := permPowersRow.holds Tryd.pinned (OpenSpec.ofChange permPowersWrong)

/-- 'ravelinlaw3.PermCycles': WHATEVER THE INPUT: true; the input reads as it did. -/
def permCyclesSpec : ChangeSpec := { name := "permCycles", fn := fun _ => fun
  | [d] => { results := [.lit (.bool true)], args := [d] }
  | _ => none }
def permCyclesRow : OpenClaim := { program := "ytajcjipabfknhaadoor", sum := "a3e2ff5e0584ccf6ee883f03e4f0fac028d9dc5ac3de4305db6c27d1e8189517", func := "ravelin/ravelinlaw3.PermCycles", spec := "permCycles", inPlace := ["internal/reflectlite.ValueOf", "(internal/reflectlite.Value).Type", "(internal/reflectlite.Value).IsNil", "internal/reflectlite.TypeOf", "(internal/reflectlite.Value).Elem", "(internal/reflectlite.Value).Set"], unfollowed := true, recurses := true, named := ["errors.errorType"], apart := false, laid := [("errors.errorType", laid_errors_errorType)] }
def PermCyclesSaid : Prop := permCyclesRow.holds Tryd.pinned (OpenSpec.ofChange permCyclesSpec)

/-- ITS FALSE NEIGHBOUR: 'it returns false'. Refute it at one input. -/
def permCyclesWrong : ChangeSpec := { name := "permCycles", fn := fun _ => fun
  | [d] => { results := [.lit (.bool false)], args := [d] }
  | _ => none }
def PermCyclesWrongFalsely : Prop := permCyclesRow.holds Tryd.pinned (OpenSpec.ofChange permCyclesWrong)

/-- 'ravelinlaw3.RadixValues': WHATEVER THE INPUT: true; the input reads as it did. -/
def radixValuesSpec : ChangeSpec := { name := "radixValues", fn := fun _ => fun
  | [d1, d2, d3] => { results := [.lit (.bool true)], args := [d1, d2, d3] }
  | _ => none }
def radixValuesRow : OpenClaim := { program := "ytajcjipabfknhaadoor", sum := "a3e2ff5e0584ccf6ee883f03e4f0fac028d9dc5ac3de4305db6c27d1e8189517", func := "ravelin/ravelinlaw3.RadixValues", spec := "radixValues", inPlace := ["internal/reflectlite.ValueOf", "(internal/reflectlite.Value).Type", "(internal/reflectlite.Value).IsNil", "internal/reflectlite.TypeOf", "(internal/reflectlite.Value).Elem", "(internal/reflectlite.Value).Set"], unfollowed := true, recurses := true, named := ["errors.errorType"], apart := false, laid := [("errors.errorType", laid_errors_errorType)] }
def RadixValuesSaid : Prop := radixValuesRow.holds Tryd.pinned (OpenSpec.ofChange radixValuesSpec)

/-- ITS FALSE NEIGHBOUR: 'it returns false'. Refute it at one input. -/
def radixValuesWrong : ChangeSpec := { name := "radixValues", fn := fun _ => fun
  | [d1, d2, d3] => { results := [.lit (.bool false)], args := [d1, d2, d3] }
  | _ => none }
def RadixValuesWrongFalsely : Prop := radixValuesRow.holds Tryd.pinned (OpenSpec.ofChange radixValuesWrong)

/-- 'ravelinlaw3.PermRanks': WHATEVER THE INPUT: true; the input reads as it did. -/
def permRanksSpec : ChangeSpec := { name := "permRanks", fn := fun _ => fun
  | [d1, d2, d3] => { results := [.lit (.bool true)], args := [d1, d2, d3] }
  | _ => none }
def permRanksRow : OpenClaim := { program := "ytajcjipabfknhaadoor", sum := "a3e2ff5e0584ccf6ee883f03e4f0fac028d9dc5ac3de4305db6c27d1e8189517", func := "ravelin/ravelinlaw3.PermRanks", spec := "permRanks", inPlace := ["internal/reflectlite.ValueOf", "(internal/reflectlite.Value).Type", "(internal/reflectlite.Value).IsNil", "internal/reflectlite.TypeOf", "(internal/reflectlite.Value).Elem", "(internal/reflectlite.Value).Set"], unfollowed := true, recurses := true, named := ["errors.errorType"], apart := false, laid := [("errors.errorType", laid_errors_errorType)] }
def PermRanksSaid : Prop := permRanksRow.holds Tryd.pinned (OpenSpec.ofChange permRanksSpec)

/-- ITS FALSE NEIGHBOUR: 'it returns false'. Refute it at one input. -/
def permRanksWrong : ChangeSpec := { name := "permRanks", fn := fun _ => fun
  | [d1, d2, d3] => { results := [.lit (.bool false)], args := [d1, d2, d3] }
  | _ => none }
def PermRanksWrongFalsely : Prop := permRanksRow.holds Tryd.pinned (OpenSpec.ofChange permRanksWrong)

/- THE SECOND FORM. 'bulk': how many values and letters a reading holds, each counted each time it is reached (what is shared counts as often as it is met; a slice's spare places count too). A statement '..UptoSaid' is the law's where the arguments, and the package variables that the reading takes, are together of bulk at most 1048576: NARROWER than '..Said'. Prove '..Said' where nothing that the law and all that it calls make is longer than what came in: it says more and counts as full. Else prove '..UptoSaid'. A law counts once. -/
mutual
def uptoBulk {H : Type} : DataW H → Nat
  | .lit (.string bytes) => bytes.length + 1
  | .lit _ => 1
  | .nil => 1
  | .ptr d => uptoBulk d + 1
  | .slice elems spare => uptoBulkAll elems + uptoBulkAll spare + 1
  | .agg parts => uptoBulkAll parts + 1
  | .iface _ d => uptoBulk d + 1
  | .map entries => uptoBulkEntries entries + 1
  | .held _ => 1
def uptoBulkAll {H : Type} : List (DataW H) → Nat
  | [] => 0
  | d :: r => uptoBulk d + uptoBulkAll r
def uptoBulkEntries {H : Type} : List (Lit × DataW H) → Nat
  | [] => 0
  | x :: r => uptoBulkEntry x + uptoBulkEntries r
def uptoBulkEntry {H : Type} : Lit × DataW H → Nat
  | (.string bytes, d) => bytes.length + uptoBulk d + 1
  | (_, d) => uptoBulk d + 1
 end
def uptoSmall : (H : Type) → List (DataW H) → Bool := fun _ ds => decide (uptoBulkAll ds ≤ 1048576)
def OpenSpec.upto (s : _root_.Go.ChangeSpec) : _root_.Go.OpenSpec := { _root_.Go.OpenSpec.ofChange s with cond := some uptoSmall }

/-- 'ravelinlaw3.PermTurns', WHERE WHAT IT READS IS OF BULK AT MOST 1048576: true; the input reads as it did. -/
def permTurnsUptoRow : OpenClaim := { program := "ytajcjipabfknhaadoor", sum := "a3e2ff5e0584ccf6ee883f03e4f0fac028d9dc5ac3de4305db6c27d1e8189517", func := "ravelin/ravelinlaw3.PermTurns", spec := "permTurns", inPlace := ["internal/reflectlite.ValueOf", "(internal/reflectlite.Value).Type", "(internal/reflectlite.Value).IsNil", "internal/reflectlite.TypeOf", "(internal/reflectlite.Value).Elem", "(internal/reflectlite.Value).Set"], unfollowed := true, recurses := true, named := ["errors.errorType"], apart := false, laid := [("errors.errorType", laid_errors_errorType)], narrowed := true }
def PermTurnsUptoSaid : Prop := permTurnsUptoRow.holds Tryd.pinned (OpenSpec.upto permTurnsSpec)

/-- 'ravelinlaw3.PermPowers', WHERE WHAT IT READS IS OF BULK AT MOST 1048576: true; the input reads as it did. -/
def permPowersUptoRow : OpenClaim := { program := "ytajcjipabfknhaadoor", sum := "a3e2ff5e0584ccf6ee883f03e4f0fac028d9dc5ac3de4305db6c27d1e8189517", func := "ravelin/ravelinlaw3.PermPowers", spec := "permPowers", inPlace := ["internal/reflectlite.ValueOf", "(internal/reflectlite.Value).Type", "(internal/reflectlite.Value).IsNil", "internal/reflectlite.TypeOf", "(internal/reflectlite.Value).Elem", "(internal/reflectlite.Value).Set"], unfollowed := true, recurses := true, named := ["errors.errorType"], apart := false, laid := [("errors.errorType", laid_errors_errorType)], narrowed := true }
def PermPowersUptoSaid : Prop := permPowersUptoRow.holds Tryd.pinned (OpenSpec.upto permPowersSpec)

/-- 'ravelinlaw3.PermCycles', WHERE WHAT IT READS IS OF BULK AT MOST 1048576: true; the input reads as it did. -/
def permCyclesUptoRow : OpenClaim := { program := "ytajcjipabfknhaadoor", sum := "a3e2ff5e0584ccf6ee883f03e4f0fac028d9dc5ac3de4305db6c27d1e8189517", func := "ravelin/ravelinlaw3.PermCycles", spec := "permCycles", inPlace := ["internal/reflectlite.ValueOf", "(internal/reflectlite.Value).Type", "(internal/reflectlite.Value).IsNil", "internal/reflectlite.TypeOf", "(internal/reflectlite.Value).Elem", "(internal/reflectlite.Value).Set"], unfollowed := true, recurses := true, named := ["errors.errorType"], apart := false, laid := [("errors.errorType", laid_errors_errorType)], narrowed := true }
def PermCyclesUptoSaid : Prop := permCyclesUptoRow.holds Tryd.pinned (OpenSpec.upto permCyclesSpec)

/-- 'ravelinlaw3.RadixValues', WHERE WHAT IT READS IS OF BULK AT MOST 1048576: true; the input reads as it did. -/
def radixValuesUptoRow : OpenClaim := { program := "ytajcjipabfknhaadoor", sum := "a3e2ff5e0584ccf6ee883f03e4f0fac028d9dc5ac3de4305db6c27d1e8189517", func := "ravelin/ravelinlaw3.RadixValues", spec := "radixValues", inPlace := ["internal/reflectlite.ValueOf", "(internal/reflectlite.Value).Type", "(internal/reflectlite.Value).IsNil", "internal/reflectlite.TypeOf", "(internal/reflectlite.Value).Elem", "(internal/reflectlite.Value).Set"], unfollowed := true, recurses := true, named := ["errors.errorType"], apart := false, laid := [("errors.errorType", laid_errors_errorType)], narrowed := true }
def RadixValuesUptoSaid : Prop := radixValuesUptoRow.holds Tryd.pinned (OpenSpec.upto radixValuesSpec)

/-- 'ravelinlaw3.PermRanks', WHERE WHAT IT READS IS OF BULK AT MOST 1048576: true; the input reads as it did. -/
def permRanksUptoRow : OpenClaim := { program := "ytajcjipabfknhaadoor", sum := "a3e2ff5e0584ccf6ee883f03e4f0fac028d9dc5ac3de4305db6c27d1e8189517", func := "ravelin/ravelinlaw3.PermRanks", spec := "permRanks", inPlace := ["internal/reflectlite.ValueOf", "(internal/reflectlite.Value).Type", "(internal/reflectlite.Value).IsNil", "internal/reflectlite.TypeOf", "(internal/reflectlite.Value).Elem", "(internal/reflectlite.Value).Set"], unfollowed := true, recurses := true, named := ["errors.errorType"], apart := false, laid := [("errors.errorType", laid_errors_errorType)], narrowed := true }
def PermRanksUptoSaid : Prop := permRanksUptoRow.holds Tryd.pinned (OpenSpec.upto permRanksSpec)

end Rows
end Go.Proofs.YtajcjipabfknhaaDoor
