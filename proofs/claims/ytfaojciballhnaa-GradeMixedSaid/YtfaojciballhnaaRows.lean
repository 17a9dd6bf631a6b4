/-
  No cell of these rows narrows 'for every input' (looked for: loops, veiled, ifaces, maps, wideKeys, modest, calm, conditions, laid).
  DERIVED. THE GIVEN ROWS OF THIS SEAT. 4 by the template 'for every input the law returns true; each argument reads behind the call as it read before'; 0 by the template 'total and deterministic' (their statements: YtfaojciballhnaaTotals.lean).
  GIVEN WITH THE SEED: the statements are not yours to turn. If you find one false, say at which input.
  Laid BY PROGRAM, IN A SANDBOX (cutbox-rows.mjs): the forced cells as the released guide's own fill.sh prints them over the translation bb6038ae1332be27… (all of the seat's roots in one cut). By AI agents, Wed Nov 11 2026. No macro, syntax, notation, axiom, sorry.
-/
import Derived.Test.YtfaojciballhnaaChecked
import GoSem.Claim
import GoSem.ClaimJoined
import GoSem.ClaimMapViews
import Derived.JoinedTies
import Derived.KernelRfl
namespace Go.Proofs.Ytfaojciballhnaa
/- THE CELL 'sum', in the pinned program and in every row, IS THE sha256 OF THE DUMP (.gsa) THAT YtfaojciballhnaaProg.lean LOADS. Nothing in Lean hashes anything: it is a label: what it is worth is what the hold of that sum in a sandbox is worth. -/
noncomputable def Try.pinned : Pinned := { name := "ytfaojciballhnaa", sum := "bb6038ae1332be277d3a33b261fbdc6372677da9b7a5d7c169b63b148be4c389", checked := Try.checked }
namespace Rows
def none {H : Type} : Left H := { results := [], args := [] }

/-- 'ravelinlaw3.GradeRises': WHATEVER THE INPUT: true; the input reads as it did. -/
def gradeRisesSpec : ChangeSpec := { name := "gradeRises", fn := fun _ => fun
  | [d] => { results := [.lit (.bool true)], args := [d] }
  | _ => none }
def gradeRisesRow : OpenClaim := { program := "ytfaojciballhnaa", sum := "bb6038ae1332be277d3a33b261fbdc6372677da9b7a5d7c169b63b148be4c389", func := "ravelin/ravelinlaw3.GradeRises", spec := "gradeRises", unfollowed := true, recurses := true, apart := false }
def GradeRisesSaid : Prop := gradeRisesRow.holds Try.pinned (OpenSpec.ofChange gradeRisesSpec)

/-- ITS FALSE NEIGHBOUR: 'it returns false'. Refute it at one input. -/
def gradeRisesWrong : ChangeSpec := { name := "gradeRises", fn := fun _ => fun
  | [d] => { results := [.lit (.bool false)], args := [d] }
  | _ => none }
def GradeRisesWrongFalsely : Prop := gradeRisesRow.holds Try.pinned (OpenSpec.ofChange gradeRisesWrong)

/-- 'ravelinlaw3.GradeTwice': WHATEVER THE INPUT: true; the input reads as it did. -/
def gradeTwiceSpec : ChangeSpec := { name := "gradeTwice", fn := fun _ => fun
  | [d] => { results := [.lit (.bool true)], args := [d] }
  | _ => none }
def gradeTwiceRow : OpenClaim := { program := "ytfaojciballhnaa", sum := "bb6038ae1332be277d3a33b261fbdc6372677da9b7a5d7c169b63b148be4c389", func := "ravelin/ravelinlaw3.GradeTwice", spec := "gradeTwice", unfollowed := true, recurses := true, apart := false }
def GradeTwiceSaid : Prop := gradeTwiceRow.holds Try.pinned (OpenSpec.ofChange gradeTwiceSpec)

/-- ITS FALSE NEIGHBOUR: 'it returns false'. Refute it at one input. -/
def gradeTwiceWrong : ChangeSpec := { name := "gradeTwice", fn := fun _ => fun
  | [d] => { results := [.lit (.bool false)], args := [d] }
  | _ => none }
def GradeTwiceWrongFalsely : Prop := gradeTwiceRow.holds Try.pinned (OpenSpec.ofChange gradeTwiceWrong)

/-- 'ravelinlaw3.GradeMixed': WHATEVER THE INPUT: true; the input reads as it did. -/
def gradeMixedSpec : ChangeSpec := { name := "gradeMixed", fn := fun _ => fun
  | [d1, d2] => { results := [.lit (.bool true)], args := [d1, d2] }
  | _ => none }
def gradeMixedRow : OpenClaim := { program := "ytfaojciballhnaa", sum := "bb6038ae1332be277d3a33b261fbdc6372677da9b7a5d7c169b63b148be4c389", func := "ravelin/ravelinlaw3.GradeMixed", spec := "gradeMixed", unfollowed := true, recurses := true, apart := false }
def GradeMixedSaid : Prop := gradeMixedRow.holds Try.pinned (OpenSpec.ofChange gradeMixedSpec)

/-- ITS FALSE NEIGHBOUR: 'it returns false'. Refute it at one input. -/
def gradeMixedWrong : ChangeSpec := { name := "gradeMixed", fn := fun _ => fun
  | [d1, d2] => { results := [.lit (.bool false)], args := [d1, d2] }
  | _ => none }
def GradeMixedWrongFalsely : Prop := gradeMixedRow.holds Try.pinned (OpenSpec.ofChange gradeMixedWrong)

/-- 'ravelinlaw3.GradeDowns': WHATEVER THE INPUT: true; the input reads as it did. -/
def gradeDownsSpec : ChangeSpec := { name := "gradeDowns", fn := fun _ => fun
  | [d] => { results := [.lit (.bool true)], args := [d] }
  | _ => none }
def gradeDownsRow : OpenClaim := { program := "ytfaojciballhnaa", sum := "bb6038ae1332be277d3a33b261fbdc6372677da9b7a5d7c169b63b148be4c389", func := "ravelin/ravelinlaw3.GradeDowns", spec := "gradeDowns", unfollowed := true, recurses := true, apart := false }
def GradeDownsSaid : Prop := gradeDownsRow.holds Try.pinned (OpenSpec.ofChange gradeDownsSpec)

/-- ITS FALSE NEIGHBOUR: 'it returns false'. Refute it at one input. -/
def gradeDownsWrong : ChangeSpec := { name := "gradeDowns", fn := fun _ => fun
  | [d] => { results := [.lit (.bool false)], args := [d] }
  | _ => none }
def GradeDownsWrongFalsely : Prop := gradeDownsRow.holds Try.pinned (OpenSpec.ofChange gradeDownsWrong)

/- THE SECOND FORM. 'bulk': how many values and letters a reading holds, each counted each time it is reached (what is shared counts as often as it is met; a slice's spare places count too). A statement '..UptoSaid' is the law's where the arguments, and the package variables that the reading takes, are together of bulk at most 1048576: NARROWER than '..Said'. Prove '..Said' where nothing that the law and all that it calls make is longer than what came in: it says more and counts as full. Else prove '..UptoSaid'. A law counts once. -/
mutual
def uptoBulk {H : Type} : DataW H → Nat
  | .lit (.string bytes) => bytes.length + 1
  | .lit _ => 1
  | .nil => 1
  | .ptr d => uptoBulk d + 1
  | .slice elems spare => uptoBulkAll elems + uptoBulkAll spare + 1
  | .agg parts => uptoBulkAll parts + 1
  | .iface _ d => uptoBulk d + 1
  | .map entries => uptoBulkEntries entries + 1
  | .held _ => 1
def uptoBulkAll {H : Type} : List (DataW H) → Nat
  | [] => 0
  | d :: r => uptoBulk d + uptoBulkAll r
def uptoBulkEntries {H : Type} : List (Lit × DataW H) → Nat
  | [] => 0
  | x :: r => uptoBulkEntry x + uptoBulkEntries r
def uptoBulkEntry {H : Type} : Lit × DataW H → Nat
  | (.string bytes, d) => bytes.length + uptoBulk d + 1
  | (_, d) => uptoBulk d + 1
 end
def uptoSmall : (H : Type) → List (DataW H) → Bool := fun _ ds => decide (uptoBulkAll ds ≤ 1048576)
def OpenSpec.upto (s : _root_.Go.ChangeSpec) : _root_.Go.OpenSpec := { _root_.Go.OpenSpec.ofChange s with cond := some uptoSmall }

/-- 'ravelinlaw3.GradeRises', WHERE WHAT IT READS IS OF BULK AT MOST 1048576: true; the input reads as it did. -/
def gradeRisesUptoRow : OpenClaim := { program := "ytfaojciballhnaa", sum := "bb6038ae1332be277d3a33b261fbdc6372677da9b7a5d7c169b63b148be4c389", func := "ravelin/ravelinlaw3.GradeRises", spec := "gradeRises", unfollowed := true, recurses := true, apart := false, narrowed := true }
def GradeRisesUptoSaid : Prop := gradeRisesUptoRow.holds Try.pinned (OpenSpec.upto gradeRisesSpec)

/-- 'ravelinlaw3.GradeTwice', WHERE WHAT IT READS IS OF BULK AT MOST 1048576: true; the input reads as it did. -/
def gradeTwiceUptoRow : OpenClaim := { program := "ytfaojciballhnaa", sum := "bb6038ae1332be277d3a33b261fbdc6372677da9b7a5d7c169b63b148be4c389", func := "ravelin/ravelinlaw3.GradeTwice", spec := "gradeTwice", unfollowed := true, recurses := true, apart := false, narrowed := true }
def GradeTwiceUptoSaid : Prop := gradeTwiceUptoRow.holds Try.pinned (OpenSpec.upto gradeTwiceSpec)

/-- 'ravelinlaw3.GradeMixed', WHERE WHAT IT READS IS OF BULK AT MOST 1048576: true; the input reads as it did. -/
def gradeMixedUptoRow : OpenClaim := { program := "ytfaojciballhnaa", sum := "bb6038ae1332be277d3a33b261fbdc6372677da9b7a5d7c169b63b148be4c389", func := "ravelin/ravelinlaw3.GradeMixed", spec := "gradeMixed", unfollowed := true, recurses := true, apart := false, narrowed := true }
def GradeMixedUptoSaid : Prop := gradeMixedUptoRow.holds Try.pinned (OpenSpec.upto gradeMixedSpec)

/-- 'ravelinlaw3.GradeDowns', WHERE WHAT IT READS IS OF BULK AT MOST 1048576: true; the input reads as it did. -/
def gradeDownsUptoRow : OpenClaim := { program := "ytfaojciballhnaa", sum := "bb6038ae1332be277d3a33b261fbdc6372677da9b7a5d7c169b63b148be4c389", func := "ravelin/ravelinlaw3.GradeDowns", spec := "gradeDowns", unfollowed := true, recurses := true, apart := false, narrowed := true }
def GradeDownsUptoSaid : Prop := gradeDownsUptoRow.holds Try.pinned (OpenSpec.upto gradeDownsSpec)

end Rows
end Go.Proofs.Ytfaojciballhnaa
