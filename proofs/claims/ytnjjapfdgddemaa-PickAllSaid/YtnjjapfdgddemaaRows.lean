/-
  No cell of these rows narrows 'for every input' (looked for: loops, veiled, ifaces, maps, wideKeys, modest, calm, conditions, laid).
  DERIVED. THE GIVEN ROWS OF THIS SEAT. 3 by the template 'for every input the law returns true; each argument reads behind the call as it read before'; 0 by the template 'total and deterministic' (their statements: YtnjjapfdgddemaaTotals.lean).
  GIVEN WITH THE SEED: the statements are not yours to turn. If you find one false, say at which input.
  Laid BY PROGRAM, IN A SANDBOX (cutbox-rows.mjs): the forced cells as the released guide's own fill.sh prints them over the translation 66c05a887e585e89… (all of the seat's roots in one cut). By AI agents, Wed Nov 11 2026. No macro, syntax, notation, axiom, sorry.
-/
import Derived.Test.YtnjjapfdgddemaaChecked
import GoSem.Claim
import GoSem.ClaimJoined
import GoSem.ClaimMapViews
import Derived.JoinedTies
import Derived.KernelRfl
namespace Go.Proofs.Ytnjjapfdgddemaa
/- THE CELL 'sum', in the pinned program and in every row, IS THE sha256 OF THE DUMP (.gsa) THAT YtnjjapfdgddemaaProg.lean LOADS. Nothing in Lean hashes anything: it is a label: what it is worth is what the hold of that sum in a sandbox is worth. -/
noncomputable def Try.pinned : Pinned := { name := "ytnjjapfdgddemaa", sum := "66c05a887e585e890a0d15132aa01a99477fe319a90c5c288191acf510a500ea", checked := Try.checked }
namespace Rows
def none {H : Type} : Left H := { results := [], args := [] }

/-- 'ravelinlaw2.PickAll': WHATEVER THE INPUT: true; the input reads as it did. -/
def pickAllSpec : ChangeSpec := { name := "pickAll", fn := fun _ => fun
  | [d] => { results := [.lit (.bool true)], args := [d] }
  | _ => none }
def pickAllRow : OpenClaim := { program := "ytnjjapfdgddemaa", sum := "66c05a887e585e890a0d15132aa01a99477fe319a90c5c288191acf510a500ea", func := "ravelin/ravelinlaw2.PickAll", spec := "pickAll", unfollowed := true, recurses := true, apart := false }
def PickAllSaid : Prop := pickAllRow.holds Try.pinned (OpenSpec.ofChange pickAllSpec)

/-- ITS FALSE NEIGHBOUR: 'it returns false'. Refute it at one input. -/
def pickAllWrong : ChangeSpec := { name := "pickAll", fn := fun _ => fun
  | [d] => { results := [.lit (.bool false)], args := [d] }
  | _ => none }
def PickAllWrongFalsely : Prop := pickAllRow.holds Try.pinned (OpenSpec.ofChange pickAllWrong)

/-- 'ravelinlaw2.PickLens': WHATEVER THE INPUT: true; the input reads as it did. -/
def pickLensSpec : ChangeSpec := { name := "pickLens", fn := fun _ => fun
  | [d1, d2, d3, d4] => { results := [.lit (.bool true)], args := [d1, d2, d3, d4] }
  | _ => none }
def pickLensRow : OpenClaim := { program := "ytnjjapfdgddemaa", sum := "66c05a887e585e890a0d15132aa01a99477fe319a90c5c288191acf510a500ea", func := "ravelin/ravelinlaw2.PickLens", spec := "pickLens", apart := false }
def PickLensSaid : Prop := pickLensRow.holds Try.pinned (OpenSpec.ofChange pickLensSpec)

/-- ITS FALSE NEIGHBOUR: 'it returns false'. Refute it at one input. -/
def pickLensWrong : ChangeSpec := { name := "pickLens", fn := fun _ => fun
  | [d1, d2, d3, d4] => { results := [.lit (.bool false)], args := [d1, d2, d3, d4] }
  | _ => none }
def PickLensWrongFalsely : Prop := pickLensRow.holds Try.pinned (OpenSpec.ofChange pickLensWrong)

/-- 'ravelinlaw2.PickOthers': WHATEVER THE INPUT: true; the input reads as it did. -/
def pickOthersSpec : ChangeSpec := { name := "pickOthers", fn := fun _ => fun
  | [d1, d2, d3] => { results := [.lit (.bool true)], args := [d1, d2, d3] }
  | _ => none }
def pickOthersRow : OpenClaim := { program := "ytnjjapfdgddemaa", sum := "66c05a887e585e890a0d15132aa01a99477fe319a90c5c288191acf510a500ea", func := "ravelin/ravelinlaw2.PickOthers", spec := "pickOthers", apart := false }
def PickOthersSaid : Prop := pickOthersRow.holds Try.pinned (OpenSpec.ofChange pickOthersSpec)

/-- ITS FALSE NEIGHBOUR: 'it returns false'. Refute it at one input. -/
def pickOthersWrong : ChangeSpec := { name := "pickOthers", fn := fun _ => fun
  | [d1, d2, d3] => { results := [.lit (.bool false)], args := [d1, d2, d3] }
  | _ => none }
def PickOthersWrongFalsely : Prop := pickOthersRow.holds Try.pinned (OpenSpec.ofChange pickOthersWrong)

/- THE SECOND FORM. 'bulk': how many values and letters a reading holds, each counted each time it is reached (what is shared counts as often as it is met; a slice's spare places count too). A statement '..UptoSaid' is the law's where the arguments, and the package variables that the reading takes, are together of bulk at most 1048576: NARROWER than '..Said'. Prove '..Said' where nothing that the law and all that it calls make is longer than what came in: it says more and counts as full. Else prove '..UptoSaid'. A law counts once. -/
mutual
def uptoBulk {H : Type} : DataW H → Nat
  | .lit (.string bytes) => bytes.length + 1
  | .lit _ => 1
  | .nil => 1
  | .ptr d => uptoBulk d + 1
  | .slice elems spare => uptoBulkAll elems + uptoBulkAll spare + 1
  | .agg parts => uptoBulkAll parts + 1
  | .iface _ d => uptoBulk d + 1
  | .map entries => uptoBulkEntries entries + 1
  | .held _ => 1
def uptoBulkAll {H : Type} : List (DataW H) → Nat
  | [] => 0
  | d :: r => uptoBulk d + uptoBulkAll r
def uptoBulkEntries {H : Type} : List (Lit × DataW H) → Nat
  | [] => 0
  | x :: r => uptoBulkEntry x + uptoBulkEntries r
def uptoBulkEntry {H : Type} : Lit × DataW H → Nat
  | (.string bytes, d) => bytes.length + uptoBulk d + 1
  | (_, d) => uptoBulk d + 1
 end
def uptoSmall : (H : Type) → List (DataW H) → Bool := fun _ ds => decide (uptoBulkAll ds ≤ 1048576)
def OpenSpec.upto (s : _root_.Go.ChangeSpec) : _root_.Go.OpenSpec := { _root_.Go.OpenSpec.ofChange s with cond := some uptoSmall }

/-- 'ravelinlaw2.PickAll', WHERE WHAT IT READS IS OF BULK AT MOST 1048576: true; the input reads as it did. -/
def pickAllUptoRow : OpenClaim := { program := "ytnjjapfdgddemaa", sum := "66c05a887e585e890a0d15132aa01a99477fe319a90c5c288191acf510a500ea", func := "ravelin/ravelinlaw2.PickAll", spec := "pickAll", unfollowed := true, recurses := true, apart := false, narrowed := true }
def PickAllUptoSaid : Prop := pickAllUptoRow.holds Try.pinned (OpenSpec.upto pickAllSpec)

/-- 'ravelinlaw2.PickLens', WHERE WHAT IT READS IS OF BULK AT MOST 1048576: true; the input reads as it did. -/
def pickLensUptoRow : OpenClaim := { program := "ytnjjapfdgddemaa", sum := "66c05a887e585e890a0d15132aa01a99477fe319a90c5c288191acf510a500ea", func := "ravelin/ravelinlaw2.PickLens", spec := "pickLens", apart := false, narrowed := true }
def PickLensUptoSaid : Prop := pickLensUptoRow.holds Try.pinned (OpenSpec.upto pickLensSpec)

/-- 'ravelinlaw2.PickOthers', WHERE WHAT IT READS IS OF BULK AT MOST 1048576: true; the input reads as it did. -/
def pickOthersUptoRow : OpenClaim := { program := "ytnjjapfdgddemaa", sum := "66c05a887e585e890a0d15132aa01a99477fe319a90c5c288191acf510a500ea", func := "ravelin/ravelinlaw2.PickOthers", spec := "pickOthers", apart := false, narrowed := true }
def PickOthersUptoSaid : Prop := pickOthersUptoRow.holds Try.pinned (OpenSpec.upto pickOthersSpec)

end Rows
end Go.Proofs.Ytnjjapfdgddemaa
