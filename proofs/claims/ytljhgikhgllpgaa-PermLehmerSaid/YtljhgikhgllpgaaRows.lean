/-
  No cell of these rows narrows 'for every input' (looked for: loops, veiled, ifaces, maps, wideKeys, modest, calm, conditions, laid).
  DERIVED. THE GIVEN ROWS OF THIS SEAT. 15 by the template 'for every input the law returns true; each argument reads behind the call as it read before'; 0 by the template 'total and deterministic' (their statements: YtljhgikhgllpgaaTotals.lean).
  GIVEN WITH THE SEED: the statements are not yours to turn. If you find one false, say at which input.
  Laid BY PROGRAM, IN A SANDBOX (cutbox-rows.mjs): the forced cells as the released guide's own fill.sh prints them over the translation 7a93e7e0e33cd0d8… (all of the seat's roots in one cut). By AI agents, Wed Nov 11 2026. No macro, syntax, notation, axiom, sorry.
-/
import Derived.Test.YtljhgikhgllpgaaChecked
import GoSem.Claim
import GoSem.ClaimJoined
import GoSem.ClaimMapViews
import Derived.JoinedTies
import Derived.KernelRfl
namespace Go.Proofs.Ytljhgikhgllpgaa
/- THE CELL 'sum', in the pinned program and in every row, IS THE sha256 OF THE DUMP (.gsa) THAT YtljhgikhgllpgaaProg.lean LOADS. Nothing in Lean hashes anything: it is a label: what it is worth is what the hold of that sum in a sandbox is worth. -/
noncomputable def Try.pinned : Pinned := { name := "ytljhgikhgllpgaa", sum := "7a93e7e0e33cd0d87bc269cb10656d78d14e0c00a9a78485853549f7f61ac888", checked := Try.checked }
namespace Rows
def none {H : Type} : Left H := { results := [], args := [] }

/-- 'ravelinlaw3.RadixHorner': WHATEVER THE INPUT: true; the input reads as it did. -/
def radixHornerSpec : ChangeSpec := { name := "radixHorner", fn := fun _ => fun
  | [d1, d2, d3, d4, d5] => { results := [.lit (.bool true)], args := [d1, d2, d3, d4, d5] }
  | _ => none }
def radixHornerRow : OpenClaim := { program := "ytljhgikhgllpgaa", sum := "7a93e7e0e33cd0d87bc269cb10656d78d14e0c00a9a78485853549f7f61ac888", func := "ravelin/ravelinlaw3.RadixHorner", spec := "radixHorner", apart := false }
def RadixHornerSaid : Prop := radixHornerRow.holds Try.pinned (OpenSpec.ofChange radixHornerSpec)

/-- ITS FALSE NEIGHBOUR: 'it returns false'. Refute it at one input. -/
def radixHornerWrong : ChangeSpec := { name := "radixHorner", fn := fun _ => fun
  | [d1, d2, d3, d4, d5] => { results := [.lit (.bool false)], args := [d1, d2, d3, d4, d5] }
  | _ => none }
def RadixHornerWrongFalsely : Prop := radixHornerRow.holds Try.pinned (OpenSpec.ofChange radixHornerWrong)

/-- 'ravelinlaw3.PermGroup': WHATEVER THE INPUT: true; the input reads as it did. -/
def permGroupSpec : ChangeSpec := { name := "permGroup", fn := fun _ => fun
  | [d1, d2, d3] => { results := [.lit (.bool true)], args := [d1, d2, d3] }
  | _ => none }
def permGroupRow : OpenClaim := { program := "ytljhgikhgllpgaa", sum := "7a93e7e0e33cd0d87bc269cb10656d78d14e0c00a9a78485853549f7f61ac888", func := "ravelin/ravelinlaw3.PermGroup", spec := "permGroup", apart := false }
def PermGroupSaid : Prop := permGroupRow.holds Try.pinned (OpenSpec.ofChange permGroupSpec)

/-- ITS FALSE NEIGHBOUR: 'it returns false'. Refute it at one input. -/
def permGroupWrong : ChangeSpec := { name := "permGroup", fn := fun _ => fun
  | [d1, d2, d3] => { results := [.lit (.bool false)], args := [d1, d2, d3] }
  | _ => none }
def PermGroupWrongFalsely : Prop := permGroupRow.holds Try.pinned (OpenSpec.ofChange permGroupWrong)

/-- 'ravelinlaw3.PermSigns': WHATEVER THE INPUT: true; the input reads as it did. -/
def permSignsSpec : ChangeSpec := { name := "permSigns", fn := fun _ => fun
  | [d1, d2, d3, d4] => { results := [.lit (.bool true)], args := [d1, d2, d3, d4] }
  | _ => none }
def permSignsRow : OpenClaim := { program := "ytljhgikhgllpgaa", sum := "7a93e7e0e33cd0d87bc269cb10656d78d14e0c00a9a78485853549f7f61ac888", func := "ravelin/ravelinlaw3.PermSigns", spec := "permSigns", unfollowed := true, recurses := true, apart := false }
def PermSignsSaid : Prop := permSignsRow.holds Try.pinned (OpenSpec.ofChange permSignsSpec)

/-- ITS FALSE NEIGHBOUR: 'it returns false'. Refute it at one input. -/
def permSignsWrong : ChangeSpec := { name := "permSigns", fn := fun _ => fun
  | [d1, d2, d3, d4] => { results := [.lit (.bool false)], args := [d1, d2, d3, d4] }
  | _ => none }
def PermSignsWrongFalsely : Prop := permSignsRow.holds Try.pinned (OpenSpec.ofChange permSignsWrong)

/-- 'ravelinlaw3.PermTimes': WHATEVER THE INPUT: true; the input reads as it did. -/
def permTimesSpec : ChangeSpec := { name := "permTimes", fn := fun _ => fun
  | [d1, d2, d3] => { results := [.lit (.bool true)], args := [d1, d2, d3] }
  | _ => none }
def permTimesRow : OpenClaim := { program := "ytljhgikhgllpgaa", sum := "7a93e7e0e33cd0d87bc269cb10656d78d14e0c00a9a78485853549f7f61ac888", func := "ravelin/ravelinlaw3.PermTimes", spec := "permTimes", unfollowed := true, recurses := true, apart := false }
def PermTimesSaid : Prop := permTimesRow.holds Try.pinned (OpenSpec.ofChange permTimesSpec)

/-- ITS FALSE NEIGHBOUR: 'it returns false'. Refute it at one input. -/
def permTimesWrong : ChangeSpec := { name := "permTimes", fn := fun _ => fun
  | [d1, d2, d3] => { results := [.lit (.bool false)], args := [d1, d2, d3] }
  | _ => none }
def PermTimesWrongFalsely : Prop := permTimesRow.holds Try.pinned (OpenSpec.ofChange permTimesWrong)

/-- 'ravelinlaw3.RadixBack': WHATEVER THE INPUT: true; the input reads as it did. -/
def radixBackSpec : ChangeSpec := { name := "radixBack", fn := fun _ => fun
  | [d1, d2, d3] => { results := [.lit (.bool true)], args := [d1, d2, d3] }
  | _ => none }
def radixBackRow : OpenClaim := { program := "ytljhgikhgllpgaa", sum := "7a93e7e0e33cd0d87bc269cb10656d78d14e0c00a9a78485853549f7f61ac888", func := "ravelin/ravelinlaw3.RadixBack", spec := "radixBack", apart := false }
def RadixBackSaid : Prop := radixBackRow.holds Try.pinned (OpenSpec.ofChange radixBackSpec)

/-- ITS FALSE NEIGHBOUR: 'it returns false'. Refute it at one input. -/
def radixBackWrong : ChangeSpec := { name := "radixBack", fn := fun _ => fun
  | [d1, d2, d3] => { results := [.lit (.bool false)], args := [d1, d2, d3] }
  | _ => none }
def RadixBackWrongFalsely : Prop := radixBackRow.holds Try.pinned (OpenSpec.ofChange radixBackWrong)

/-- 'ravelinlaw3.RadixWhole': WHATEVER THE INPUT: true; the input reads as it did. -/
def radixWholeSpec : ChangeSpec := { name := "radixWhole", fn := fun _ => fun
  | [d1, d2] => { results := [.lit (.bool true)], args := [d1, d2] }
  | _ => none }
def radixWholeRow : OpenClaim := { program := "ytljhgikhgllpgaa", sum := "7a93e7e0e33cd0d87bc269cb10656d78d14e0c00a9a78485853549f7f61ac888", func := "ravelin/ravelinlaw3.RadixWhole", spec := "radixWhole", apart := false }
def RadixWholeSaid : Prop := radixWholeRow.holds Try.pinned (OpenSpec.ofChange radixWholeSpec)

/-- ITS FALSE NEIGHBOUR: 'it returns false'. Refute it at one input. -/
def radixWholeWrong : ChangeSpec := { name := "radixWhole", fn := fun _ => fun
  | [d1, d2] => { results := [.lit (.bool false)], args := [d1, d2] }
  | _ => none }
def RadixWholeWrongFalsely : Prop := radixWholeRow.holds Try.pinned (OpenSpec.ofChange radixWholeWrong)

/-- 'ravelinlaw3.PermLehmer': WHATEVER THE INPUT: true; the input reads as it did. -/
def permLehmerSpec : ChangeSpec := { name := "permLehmer", fn := fun _ => fun
  | [d1, d2, d3, d4] => { results := [.lit (.bool true)], args := [d1, d2, d3, d4] }
  | _ => none }
def permLehmerRow : OpenClaim := { program := "ytljhgikhgllpgaa", sum := "7a93e7e0e33cd0d87bc269cb10656d78d14e0c00a9a78485853549f7f61ac888", func := "ravelin/ravelinlaw3.PermLehmer", spec := "permLehmer", apart := false }
def PermLehmerSaid : Prop := permLehmerRow.holds Try.pinned (OpenSpec.ofChange permLehmerSpec)

/-- ITS FALSE NEIGHBOUR: 'it returns false'. Refute it at one input. -/
def permLehmerWrong : ChangeSpec := { name := "permLehmer", fn := fun _ => fun
  | [d1, d2, d3, d4] => { results := [.lit (.bool false)], args := [d1, d2, d3, d4] }
  | _ => none }
def PermLehmerWrongFalsely : Prop := permLehmerRow.holds Try.pinned (OpenSpec.ofChange permLehmerWrong)

/-- 'ravelinlaw3.FoldClimbs': WHATEVER THE INPUT: true; the input reads as it did. -/
def foldClimbsSpec : ChangeSpec := { name := "foldClimbs", fn := fun _ => fun
  | [d] => { results := [.lit (.bool true)], args := [d] }
  | _ => none }
def foldClimbsRow : OpenClaim := { program := "ytljhgikhgllpgaa", sum := "7a93e7e0e33cd0d87bc269cb10656d78d14e0c00a9a78485853549f7f61ac888", func := "ravelin/ravelinlaw3.FoldClimbs", spec := "foldClimbs", unfollowed := true, recurses := true, apart := false }
def FoldClimbsSaid : Prop := foldClimbsRow.holds Try.pinned (OpenSpec.ofChange foldClimbsSpec)

/-- ITS FALSE NEIGHBOUR: 'it returns false'. Refute it at one input. -/
def foldClimbsWrong : ChangeSpec := { name := "foldClimbs", fn := fun _ => fun
  | [d] => { results := [.lit (.bool false)], args := [d] }
  | _ => none }
def FoldClimbsWrongFalsely : Prop := foldClimbsRow.holds Try.pinned (OpenSpec.ofChange foldClimbsWrong)

/-- 'ravelinlaw3.FoldSwings': WHATEVER THE INPUT: true; the input reads as it did. -/
def foldSwingsSpec : ChangeSpec := { name := "foldSwings", fn := fun _ => fun
  | [d] => { results := [.lit (.bool true)], args := [d] }
  | _ => none }
def foldSwingsRow : OpenClaim := { program := "ytljhgikhgllpgaa", sum := "7a93e7e0e33cd0d87bc269cb10656d78d14e0c00a9a78485853549f7f61ac888", func := "ravelin/ravelinlaw3.FoldSwings", spec := "foldSwings", unfollowed := true, recurses := true, apart := false }
def FoldSwingsSaid : Prop := foldSwingsRow.holds Try.pinned (OpenSpec.ofChange foldSwingsSpec)

/-- ITS FALSE NEIGHBOUR: 'it returns false'. Refute it at one input. -/
def foldSwingsWrong : ChangeSpec := { name := "foldSwings", fn := fun _ => fun
  | [d] => { results := [.lit (.bool false)], args := [d] }
  | _ => none }
def FoldSwingsWrongFalsely : Prop := foldSwingsRow.holds Try.pinned (OpenSpec.ofChange foldSwingsWrong)

/-- 'ravelinlaw3.GradeRises': WHATEVER THE INPUT: true; the input reads as it did. -/
def gradeRisesSpec : ChangeSpec := { name := "gradeRises", fn := fun _ => fun
  | [d] => { results := [.lit (.bool true)], args := [d] }
  | _ => none }
def gradeRisesRow : OpenClaim := { program := "ytljhgikhgllpgaa", sum := "7a93e7e0e33cd0d87bc269cb10656d78d14e0c00a9a78485853549f7f61ac888", func := "ravelin/ravelinlaw3.GradeRises", spec := "gradeRises", unfollowed := true, recurses := true, apart := false }
def GradeRisesSaid : Prop := gradeRisesRow.holds Try.pinned (OpenSpec.ofChange gradeRisesSpec)

/-- ITS FALSE NEIGHBOUR: 'it returns false'. Refute it at one input. -/
def gradeRisesWrong : ChangeSpec := { name := "gradeRises", fn := fun _ => fun
  | [d] => { results := [.lit (.bool false)], args := [d] }
  | _ => none }
def GradeRisesWrongFalsely : Prop := gradeRisesRow.holds Try.pinned (OpenSpec.ofChange gradeRisesWrong)

/-- 'ravelinlaw3.GradeTwice': WHATEVER THE INPUT: true; the input reads as it did. -/
def gradeTwiceSpec : ChangeSpec := { name := "gradeTwice", fn := fun _ => fun
  | [d] => { results := [.lit (.bool true)], args := [d] }
  | _ => none }
def gradeTwiceRow : OpenClaim := { program := "ytljhgikhgllpgaa", sum := "7a93e7e0e33cd0d87bc269cb10656d78d14e0c00a9a78485853549f7f61ac888", func := "ravelin/ravelinlaw3.GradeTwice", spec := "gradeTwice", unfollowed := true, recurses := true, apart := false }
def GradeTwiceSaid : Prop := gradeTwiceRow.holds Try.pinned (OpenSpec.ofChange gradeTwiceSpec)

/-- ITS FALSE NEIGHBOUR: 'it returns false'. Refute it at one input. -/
def gradeTwiceWrong : ChangeSpec := { name := "gradeTwice", fn := fun _ => fun
  | [d] => { results := [.lit (.bool false)], args := [d] }
  | _ => none }
def GradeTwiceWrongFalsely : Prop := gradeTwiceRow.holds Try.pinned (OpenSpec.ofChange gradeTwiceWrong)

/-- 'ravelinlaw3.FoldTurns': WHATEVER THE INPUT: true; the input reads as it did. -/
def foldTurnsSpec : ChangeSpec := { name := "foldTurns", fn := fun _ => fun
  | [d1, d2, d3, d4] => { results := [.lit (.bool true)], args := [d1, d2, d3, d4] }
  | _ => none }
def foldTurnsRow : OpenClaim := { program := "ytljhgikhgllpgaa", sum := "7a93e7e0e33cd0d87bc269cb10656d78d14e0c00a9a78485853549f7f61ac888", func := "ravelin/ravelinlaw3.FoldTurns", spec := "foldTurns", unfollowed := true, recurses := true, apart := false }
def FoldTurnsSaid : Prop := foldTurnsRow.holds Try.pinned (OpenSpec.ofChange foldTurnsSpec)

/-- ITS FALSE NEIGHBOUR: 'it returns false'. Refute it at one input. -/
def foldTurnsWrong : ChangeSpec := { name := "foldTurns", fn := fun _ => fun
  | [d1, d2, d3, d4] => { results := [.lit (.bool false)], args := [d1, d2, d3, d4] }
  | _ => none }
def FoldTurnsWrongFalsely : Prop := foldTurnsRow.holds Try.pinned (OpenSpec.ofChange foldTurnsWrong)

/-- 'ravelinlaw3.FoldLast': WHATEVER THE INPUT: true; the input reads as it did. -/
def foldLastSpec : ChangeSpec := { name := "foldLast", fn := fun _ => fun
  | [d1, d2, d3] => { results := [.lit (.bool true)], args := [d1, d2, d3] }
  | _ => none }
def foldLastRow : OpenClaim := { program := "ytljhgikhgllpgaa", sum := "7a93e7e0e33cd0d87bc269cb10656d78d14e0c00a9a78485853549f7f61ac888", func := "ravelin/ravelinlaw3.FoldLast", spec := "foldLast", unfollowed := true, recurses := true, apart := false }
def FoldLastSaid : Prop := foldLastRow.holds Try.pinned (OpenSpec.ofChange foldLastSpec)

/-- ITS FALSE NEIGHBOUR: 'it returns false'. Refute it at one input. -/
def foldLastWrong : ChangeSpec := { name := "foldLast", fn := fun _ => fun
  | [d1, d2, d3] => { results := [.lit (.bool false)], args := [d1, d2, d3] }
  | _ => none }
def FoldLastWrongFalsely : Prop := foldLastRow.holds Try.pinned (OpenSpec.ofChange foldLastWrong)

/-- 'ravelinlaw3.GradeMixed': WHATEVER THE INPUT: true; the input reads as it did. -/
def gradeMixedSpec : ChangeSpec := { name := "gradeMixed", fn := fun _ => fun
  | [d1, d2] => { results := [.lit (.bool true)], args := [d1, d2] }
  | _ => none }
def gradeMixedRow : OpenClaim := { program := "ytljhgikhgllpgaa", sum := "7a93e7e0e33cd0d87bc269cb10656d78d14e0c00a9a78485853549f7f61ac888", func := "ravelin/ravelinlaw3.GradeMixed", spec := "gradeMixed", unfollowed := true, recurses := true, apart := false }
def GradeMixedSaid : Prop := gradeMixedRow.holds Try.pinned (OpenSpec.ofChange gradeMixedSpec)

/-- ITS FALSE NEIGHBOUR: 'it returns false'. Refute it at one input. -/
def gradeMixedWrong : ChangeSpec := { name := "gradeMixed", fn := fun _ => fun
  | [d1, d2] => { results := [.lit (.bool false)], args := [d1, d2] }
  | _ => none }
def GradeMixedWrongFalsely : Prop := gradeMixedRow.holds Try.pinned (OpenSpec.ofChange gradeMixedWrong)

/-- 'ravelinlaw3.GradeDowns': WHATEVER THE INPUT: true; the input reads as it did. -/
def gradeDownsSpec : ChangeSpec := { name := "gradeDowns", fn := fun _ => fun
  | [d] => { results := [.lit (.bool true)], args := [d] }
  | _ => none }
def gradeDownsRow : OpenClaim := { program := "ytljhgikhgllpgaa", sum := "7a93e7e0e33cd0d87bc269cb10656d78d14e0c00a9a78485853549f7f61ac888", func := "ravelin/ravelinlaw3.GradeDowns", spec := "gradeDowns", unfollowed := true, recurses := true, apart := false }
def GradeDownsSaid : Prop := gradeDownsRow.holds Try.pinned (OpenSpec.ofChange gradeDownsSpec)

/-- ITS FALSE NEIGHBOUR: 'it returns false'. Refute it at one input. -/
def gradeDownsWrong : ChangeSpec := { name := "gradeDowns", fn := fun _ => fun
  | [d] => { results := [.lit (.bool false)], args := [d] }
  | _ => none }
def GradeDownsWrongFalsely : Prop := gradeDownsRow.holds Try.pinned (OpenSpec.ofChange gradeDownsWrong)

/- THE SECOND FORM. 'bulk': how many values and letters a reading holds, each counted each time it is reached (what is shared counts as often as it is met; a slice's spare places count too). A statement '..UptoSaid' is the law's where the arguments, and the package variables that the reading takes, are together of bulk at most 1048576: NARROWER than '..Said'. Prove '..Said' where nothing that the law and all that it calls make is longer than what came in: it says more and counts as full. Else prove '..UptoSaid'. A law counts once. -/
mutual
def uptoBulk {H : Type} : DataW H → Nat
  | .lit (.string bytes) => bytes.length + 1
  | .lit _ => 1
  | .nil => 1
  | .ptr d => uptoBulk d + 1
  | .slice elems spare => uptoBulkAll elems + uptoBulkAll spare + 1
  | .agg parts => uptoBulkAll parts + 1
  | .iface _ d => uptoBulk d + 1
  | .map entries => uptoBulkEntries entries + 1
  | .held _ => 1
def uptoBulkAll {H : Type} : List (DataW H) → Nat
  | [] => 0
  | d :: r => uptoBulk d + uptoBulkAll r
def uptoBulkEntries {H : Type} : List (Lit × DataW H) → Nat
  | [] => 0
  | x :: r => uptoBulkEntry x + uptoBulkEntries r
def uptoBulkEntry {H : Type} : Lit × DataW H → Nat
  | (.string bytes, d) => bytes.length + uptoBulk d + 1
  | (_, d) => uptoBulk d + 1
 end
def uptoSmall : (H : Type) → List (DataW H) → Bool := fun _ ds => decide (uptoBulkAll ds ≤ 1048576)
def OpenSpec.upto (s : _root_.Go.ChangeSpec) : _root_.Go.OpenSpec := { _root_.Go.OpenSpec.ofChange s with cond := some uptoSmall }

/-- 'ravelinlaw3.RadixHorner', WHERE WHAT IT READS IS OF BULK AT MOST 1048576: true; the input reads as it did. -/
def radixHornerUptoRow : OpenClaim := { program := "ytljhgikhgllpgaa", sum := "7a93e7e0e33cd0d87bc269cb10656d78d14e0c00a9a78485853549f7f61ac888", func := "ravelin/ravelinlaw3.RadixHorner", spec := "radixHorner", apart := false, narrowed := true }
def RadixHornerUptoSaid : Prop := radixHornerUptoRow.holds Try.pinned (OpenSpec.upto radixHornerSpec)

/-- 'ravelinlaw3.PermGroup', WHERE WHAT IT READS IS OF BULK AT MOST 1048576: true; the input reads as it did. -/
def permGroupUptoRow : OpenClaim := { program := "ytljhgikhgllpgaa", sum := "7a93e7e0e33cd0d87bc269cb10656d78d14e0c00a9a78485853549f7f61ac888", func := "ravelin/ravelinlaw3.PermGroup", spec := "permGroup", apart := false, narrowed := true }
def PermGroupUptoSaid : Prop := permGroupUptoRow.holds Try.pinned (OpenSpec.upto permGroupSpec)

/-- 'ravelinlaw3.PermSigns', WHERE WHAT IT READS IS OF BULK AT MOST 1048576: true; the input reads as it did. -/
def permSignsUptoRow : OpenClaim := { program := "ytljhgikhgllpgaa", sum := "7a93e7e0e33cd0d87bc269cb10656d78d14e0c00a9a78485853549f7f61ac888", func := "ravelin/ravelinlaw3.PermSigns", spec := "permSigns", unfollowed := true, recurses := true, apart := false, narrowed := true }
def PermSignsUptoSaid : Prop := permSignsUptoRow.holds Try.pinned (OpenSpec.upto permSignsSpec)

/-- 'ravelinlaw3.PermTimes', WHERE WHAT IT READS IS OF BULK AT MOST 1048576: true; the input reads as it did. -/
def permTimesUptoRow : OpenClaim := { program := "ytljhgikhgllpgaa", sum := "7a93e7e0e33cd0d87bc269cb10656d78d14e0c00a9a78485853549f7f61ac888", func := "ravelin/ravelinlaw3.PermTimes", spec := "permTimes", unfollowed := true, recurses := true, apart := false, narrowed := true }
def PermTimesUptoSaid : Prop := permTimesUptoRow.holds Try.pinned (OpenSpec.upto permTimesSpec)

/-- 'ravelinlaw3.RadixBack', WHERE WHAT IT READS IS OF BULK AT MOST 1048576: true; the input reads as it did. -/
def radixBackUptoRow : OpenClaim := { program := "ytljhgikhgllpgaa", sum := "7a93e7e0e33cd0d87bc269cb10656d78d14e0c00a9a78485853549f7f61ac888", func := "ravelin/ravelinlaw3.RadixBack", spec := "radixBack", apart := false, narrowed := true }
def RadixBackUptoSaid : Prop := radixBackUptoRow.holds Try.pinned (OpenSpec.upto radixBackSpec)

/-- 'ravelinlaw3.RadixWhole', WHERE WHAT IT READS IS OF BULK AT MOST 1048576: true; the input reads as it did. -/
def radixWholeUptoRow : OpenClaim := { program := "ytljhgikhgllpgaa", sum := "7a93e7e0e33cd0d87bc269cb10656d78d14e0c00a9a78485853549f7f61ac888", func := "ravelin/ravelinlaw3.RadixWhole", spec := "radixWhole", apart := false, narrowed := true }
def RadixWholeUptoSaid : Prop := radixWholeUptoRow.holds Try.pinned (OpenSpec.upto radixWholeSpec)

/-- 'ravelinlaw3.PermLehmer', WHERE WHAT IT READS IS OF BULK AT MOST 1048576: true; the input reads as it did. -/
def permLehmerUptoRow : OpenClaim := { program := "ytljhgikhgllpgaa", sum := "7a93e7e0e33cd0d87bc269cb10656d78d14e0c00a9a78485853549f7f61ac888", func := "ravelin/ravelinlaw3.PermLehmer", spec := "permLehmer", apart := false, narrowed := true }
def PermLehmerUptoSaid : Prop := permLehmerUptoRow.holds Try.pinned (OpenSpec.upto permLehmerSpec)

/-- 'ravelinlaw3.FoldClimbs', WHERE WHAT IT READS IS OF BULK AT MOST 1048576: true; the input reads as it did. -/
def foldClimbsUptoRow : OpenClaim := { program := "ytljhgikhgllpgaa", sum := "7a93e7e0e33cd0d87bc269cb10656d78d14e0c00a9a78485853549f7f61ac888", func := "ravelin/ravelinlaw3.FoldClimbs", spec := "foldClimbs", unfollowed := true, recurses := true, apart := false, narrowed := true }
def FoldClimbsUptoSaid : Prop := foldClimbsUptoRow.holds Try.pinned (OpenSpec.upto foldClimbsSpec)

/-- 'ravelinlaw3.FoldSwings', WHERE WHAT IT READS IS OF BULK AT MOST 1048576: true; the input reads as it did. -/
def foldSwingsUptoRow : OpenClaim := { program := "ytljhgikhgllpgaa", sum := "7a93e7e0e33cd0d87bc269cb10656d78d14e0c00a9a78485853549f7f61ac888", func := "ravelin/ravelinlaw3.FoldSwings", spec := "foldSwings", unfollowed := true, recurses := true, apart := false, narrowed := true }
def FoldSwingsUptoSaid : Prop := foldSwingsUptoRow.holds Try.pinned (OpenSpec.upto foldSwingsSpec)

/-- 'ravelinlaw3.GradeRises', WHERE WHAT IT READS IS OF BULK AT MOST 1048576: true; the input reads as it did. -/
def gradeRisesUptoRow : OpenClaim := { program := "ytljhgikhgllpgaa", sum := "7a93e7e0e33cd0d87bc269cb10656d78d14e0c00a9a78485853549f7f61ac888", func := "ravelin/ravelinlaw3.GradeRises", spec := "gradeRises", unfollowed := true, recurses := true, apart := false, narrowed := true }
def GradeRisesUptoSaid : Prop := gradeRisesUptoRow.holds Try.pinned (OpenSpec.upto gradeRisesSpec)

/-- 'ravelinlaw3.GradeTwice', WHERE WHAT IT READS IS OF BULK AT MOST 1048576: true; the input reads as it did. -/
def gradeTwiceUptoRow : OpenClaim := { program := "ytljhgikhgllpgaa", sum := "7a93e7e0e33cd0d87bc269cb10656d78d14e0c00a9a78485853549f7f61ac888", func := "ravelin/ravelinlaw3.GradeTwice", spec := "gradeTwice", unfollowed := true, recurses := true, apart := false, narrowed := true }
def GradeTwiceUptoSaid : Prop := gradeTwiceUptoRow.holds Try.pinned (OpenSpec.upto gradeTwiceSpec)

/-- 'ravelinlaw3.FoldTurns', WHERE WHAT IT READS IS OF BULK AT MOST 1048576: true; the input reads as it did. -/
def foldTurnsUptoRow : OpenClaim := { program := "ytljhgikhgllpgaa", sum := "7a93e7e0e33cd0d87bc269cb10656d78d14e0c00a9a78485853549f7f61ac888", func := "ravelin/ravelinlaw3.FoldTurns", spec := "foldTurns", unfollowed := true, recurses := true, apart := false, narrowed := true }
def FoldTurnsUptoSaid : Prop := foldTurnsUptoRow.holds Try.pinned (OpenSpec.upto foldTurnsSpec)

/-- 'ravelinlaw3.FoldLast', WHERE WHAT IT READS IS OF BULK AT MOST 1048576: true; the input reads as it did. -/
def foldLastUptoRow : OpenClaim := { program := "ytljhgikhgllpgaa", sum := "7a93e7e0e33cd0d87bc269cb10656d78d14e0c00a9a78485853549f7f61ac888", func := "ravelin/ravelinlaw3.FoldLast", spec := "foldLast", unfollowed := true, recurses := true, apart := false, narrowed := true }
def FoldLastUptoSaid : Prop := foldLastUptoRow.holds Try.pinned (OpenSpec.upto foldLastSpec)

/-- 'ravelinlaw3.GradeMixed', WHERE WHAT IT READS IS OF BULK AT MOST 1048576: true; the input reads as it did. -/
def gradeMixedUptoRow : OpenClaim := { program := "ytljhgikhgllpgaa", sum := "7a93e7e0e33cd0d87bc269cb10656d78d14e0c00a9a78485853549f7f61ac888", func := "ravelin/ravelinlaw3.GradeMixed", spec := "gradeMixed", unfollowed := true, recurses := true, apart := false, narrowed := true }
def GradeMixedUptoSaid : Prop := gradeMixedUptoRow.holds Try.pinned (OpenSpec.upto gradeMixedSpec)

/-- 'ravelinlaw3.GradeDowns', WHERE WHAT IT READS IS OF BULK AT MOST 1048576: true; the input reads as it did. -/
def gradeDownsUptoRow : OpenClaim := { program := "ytljhgikhgllpgaa", sum := "7a93e7e0e33cd0d87bc269cb10656d78d14e0c00a9a78485853549f7f61ac888", func := "ravelin/ravelinlaw3.GradeDowns", spec := "gradeDowns", unfollowed := true, recurses := true, apart := false, narrowed := true }
def GradeDownsUptoSaid : Prop := gradeDownsUptoRow.holds Try.pinned (OpenSpec.upto gradeDownsSpec)

end Rows
end Go.Proofs.Ytljhgikhgllpgaa
