/-
  No cell of these rows narrows 'for every input' (looked for: loops, veiled, ifaces, maps, wideKeys, modest, calm, conditions, laid).
  DERIVED. THE GIVEN ROWS OF THIS SEAT. 20 by the template 'for every input the law returns true; each argument reads behind the call as it read before'; 0 by the template 'total and deterministic' (their statements: YtfemeaehpjajlaaTotals.lean).
  GIVEN WITH THE SEED: the statements are not yours to turn. If you find one false, say at which input.
  Laid BY PROGRAM, IN A SANDBOX (cutbox-rows.mjs): the forced cells as the released guide's own fill.sh prints them over the translation 1cdc1b3717a6d827… (all of the seat's roots in one cut). By AI agents, Wed Nov 11 2026. No macro, syntax, notation, axiom, sorry.
-/
import Derived.Test.YtfemeaehpjajlaaChecked
import GoSem.Claim
import GoSem.ClaimJoined
import GoSem.ClaimMapViews
import Derived.JoinedTies
import Derived.KernelRfl
namespace Go.Proofs.Ytfemeaehpjajlaa
/- THE CELL 'sum', in the pinned program and in every row, IS THE sha256 OF THE DUMP (.gsa) THAT YtfemeaehpjajlaaProg.lean LOADS. Nothing in Lean hashes anything: it is a label: what it is worth is what the hold of that sum in a sandbox is worth. -/
noncomputable def Try.pinned : Pinned := { name := "ytfemeaehpjajlaa", sum := "1cdc1b3717a6d827bd950d64be5d443eed0a5de06972c6d73b79126bc9b05ba4", checked := Try.checked }
namespace Rows
def none {H : Type} : Left H := { results := [], args := [] }

/-- 'ravelinlaw2.TurnTwice': WHATEVER THE INPUT: true; the input reads as it did. -/
def turnTwiceSpec : ChangeSpec := { name := "turnTwice", fn := fun _ => fun
  | [d1, d2, d3] => { results := [.lit (.bool true)], args := [d1, d2, d3] }
  | _ => none }
def turnTwiceRow : OpenClaim := { program := "ytfemeaehpjajlaa", sum := "1cdc1b3717a6d827bd950d64be5d443eed0a5de06972c6d73b79126bc9b05ba4", func := "ravelin/ravelinlaw2.TurnTwice", spec := "turnTwice", unfollowed := true, recurses := true, apart := false }
def TurnTwiceSaid : Prop := turnTwiceRow.holds Try.pinned (OpenSpec.ofChange turnTwiceSpec)

/-- ITS FALSE NEIGHBOUR: 'it returns false'. Refute it at one input. -/
def turnTwiceWrong : ChangeSpec := { name := "turnTwice", fn := fun _ => fun
  | [d1, d2, d3] => { results := [.lit (.bool false)], args := [d1, d2, d3] }
  | _ => none }
def TurnTwiceWrongFalsely : Prop := turnTwiceRow.holds Try.pinned (OpenSpec.ofChange turnTwiceWrong)

/-- 'ravelinlaw2.TurnRounds': WHATEVER THE INPUT: true; the input reads as it did. -/
def turnRoundsSpec : ChangeSpec := { name := "turnRounds", fn := fun _ => fun
  | [d1, d2, d3, d4] => { results := [.lit (.bool true)], args := [d1, d2, d3, d4] }
  | _ => none }
def turnRoundsRow : OpenClaim := { program := "ytfemeaehpjajlaa", sum := "1cdc1b3717a6d827bd950d64be5d443eed0a5de06972c6d73b79126bc9b05ba4", func := "ravelin/ravelinlaw2.TurnRounds", spec := "turnRounds", unfollowed := true, recurses := true, apart := false }
def TurnRoundsSaid : Prop := turnRoundsRow.holds Try.pinned (OpenSpec.ofChange turnRoundsSpec)

/-- ITS FALSE NEIGHBOUR: 'it returns false'. Refute it at one input. -/
def turnRoundsWrong : ChangeSpec := { name := "turnRounds", fn := fun _ => fun
  | [d1, d2, d3, d4] => { results := [.lit (.bool false)], args := [d1, d2, d3, d4] }
  | _ => none }
def TurnRoundsWrongFalsely : Prop := turnRoundsRow.holds Try.pinned (OpenSpec.ofChange turnRoundsWrong)

/-- 'ravelinlaw2.TurnGroup': WHATEVER THE INPUT: true; the input reads as it did. -/
def turnGroupSpec : ChangeSpec := { name := "turnGroup", fn := fun _ => fun
  | [d1, d2, d3] => { results := [.lit (.bool true)], args := [d1, d2, d3] }
  | _ => none }
def turnGroupRow : OpenClaim := { program := "ytfemeaehpjajlaa", sum := "1cdc1b3717a6d827bd950d64be5d443eed0a5de06972c6d73b79126bc9b05ba4", func := "ravelin/ravelinlaw2.TurnGroup", spec := "turnGroup", apart := false }
def TurnGroupSaid : Prop := turnGroupRow.holds Try.pinned (OpenSpec.ofChange turnGroupSpec)

/-- ITS FALSE NEIGHBOUR: 'it returns false'. Refute it at one input. -/
def turnGroupWrong : ChangeSpec := { name := "turnGroup", fn := fun _ => fun
  | [d1, d2, d3] => { results := [.lit (.bool false)], args := [d1, d2, d3] }
  | _ => none }
def TurnGroupWrongFalsely : Prop := turnGroupRow.holds Try.pinned (OpenSpec.ofChange turnGroupWrong)

/-- 'ravelinlaw2.SeekFound': WHATEVER THE INPUT: true; the input reads as it did. -/
def seekFoundSpec : ChangeSpec := { name := "seekFound", fn := fun _ => fun
  | [d1, d2] => { results := [.lit (.bool true)], args := [d1, d2] }
  | _ => none }
def seekFoundRow : OpenClaim := { program := "ytfemeaehpjajlaa", sum := "1cdc1b3717a6d827bd950d64be5d443eed0a5de06972c6d73b79126bc9b05ba4", func := "ravelin/ravelinlaw2.SeekFound", spec := "seekFound", apart := false }
def SeekFoundSaid : Prop := seekFoundRow.holds Try.pinned (OpenSpec.ofChange seekFoundSpec)

/-- ITS FALSE NEIGHBOUR: 'it returns false'. Refute it at one input. -/
def seekFoundWrong : ChangeSpec := { name := "seekFound", fn := fun _ => fun
  | [d1, d2] => { results := [.lit (.bool false)], args := [d1, d2] }
  | _ => none }
def SeekFoundWrongFalsely : Prop := seekFoundRow.holds Try.pinned (OpenSpec.ofChange seekFoundWrong)

/-- 'ravelinlaw2.TurnMirrors': WHATEVER THE INPUT: true; the input reads as it did. -/
def turnMirrorsSpec : ChangeSpec := { name := "turnMirrors", fn := fun _ => fun
  | [d1, d2, d3] => { results := [.lit (.bool true)], args := [d1, d2, d3] }
  | _ => none }
def turnMirrorsRow : OpenClaim := { program := "ytfemeaehpjajlaa", sum := "1cdc1b3717a6d827bd950d64be5d443eed0a5de06972c6d73b79126bc9b05ba4", func := "ravelin/ravelinlaw2.TurnMirrors", spec := "turnMirrors", unfollowed := true, recurses := true, apart := false }
def TurnMirrorsSaid : Prop := turnMirrorsRow.holds Try.pinned (OpenSpec.ofChange turnMirrorsSpec)

/-- ITS FALSE NEIGHBOUR: 'it returns false'. Refute it at one input. -/
def turnMirrorsWrong : ChangeSpec := { name := "turnMirrors", fn := fun _ => fun
  | [d1, d2, d3] => { results := [.lit (.bool false)], args := [d1, d2, d3] }
  | _ => none }
def TurnMirrorsWrongFalsely : Prop := turnMirrorsRow.holds Try.pinned (OpenSpec.ofChange turnMirrorsWrong)

/-- 'ravelinlaw2.PickChains': WHATEVER THE INPUT: true; the input reads as it did. -/
def pickChainsSpec : ChangeSpec := { name := "pickChains", fn := fun _ => fun
  | [d1, d2, d3] => { results := [.lit (.bool true)], args := [d1, d2, d3] }
  | _ => none }
def pickChainsRow : OpenClaim := { program := "ytfemeaehpjajlaa", sum := "1cdc1b3717a6d827bd950d64be5d443eed0a5de06972c6d73b79126bc9b05ba4", func := "ravelin/ravelinlaw2.PickChains", spec := "pickChains", apart := false }
def PickChainsSaid : Prop := pickChainsRow.holds Try.pinned (OpenSpec.ofChange pickChainsSpec)

/-- ITS FALSE NEIGHBOUR: 'it returns false'. Refute it at one input. -/
def pickChainsWrong : ChangeSpec := { name := "pickChains", fn := fun _ => fun
  | [d1, d2, d3] => { results := [.lit (.bool false)], args := [d1, d2, d3] }
  | _ => none }
def PickChainsWrongFalsely : Prop := pickChainsRow.holds Try.pinned (OpenSpec.ofChange pickChainsWrong)

/-- 'ravelinlaw2.SeekOnce': WHATEVER THE INPUT: true; the input reads as it did. -/
def seekOnceSpec : ChangeSpec := { name := "seekOnce", fn := fun _ => fun
  | [d] => { results := [.lit (.bool true)], args := [d] }
  | _ => none }
def seekOnceRow : OpenClaim := { program := "ytfemeaehpjajlaa", sum := "1cdc1b3717a6d827bd950d64be5d443eed0a5de06972c6d73b79126bc9b05ba4", func := "ravelin/ravelinlaw2.SeekOnce", spec := "seekOnce", unfollowed := true, recurses := true, apart := false }
def SeekOnceSaid : Prop := seekOnceRow.holds Try.pinned (OpenSpec.ofChange seekOnceSpec)

/-- ITS FALSE NEIGHBOUR: 'it returns false'. Refute it at one input. -/
def seekOnceWrong : ChangeSpec := { name := "seekOnce", fn := fun _ => fun
  | [d] => { results := [.lit (.bool false)], args := [d] }
  | _ => none }
def SeekOnceWrongFalsely : Prop := seekOnceRow.holds Try.pinned (OpenSpec.ofChange seekOnceWrong)

/-- 'ravelinlaw2.SeekAlgebra': WHATEVER THE INPUT: true; the input reads as it did. -/
def seekAlgebraSpec : ChangeSpec := { name := "seekAlgebra", fn := fun _ => fun
  | [d1, d2, d3] => { results := [.lit (.bool true)], args := [d1, d2, d3] }
  | _ => none }
def seekAlgebraRow : OpenClaim := { program := "ytfemeaehpjajlaa", sum := "1cdc1b3717a6d827bd950d64be5d443eed0a5de06972c6d73b79126bc9b05ba4", func := "ravelin/ravelinlaw2.SeekAlgebra", spec := "seekAlgebra", unfollowed := true, recurses := true, apart := false }
def SeekAlgebraSaid : Prop := seekAlgebraRow.holds Try.pinned (OpenSpec.ofChange seekAlgebraSpec)

/-- ITS FALSE NEIGHBOUR: 'it returns false'. Refute it at one input. -/
def seekAlgebraWrong : ChangeSpec := { name := "seekAlgebra", fn := fun _ => fun
  | [d1, d2, d3] => { results := [.lit (.bool false)], args := [d1, d2, d3] }
  | _ => none }
def SeekAlgebraWrongFalsely : Prop := seekAlgebraRow.holds Try.pinned (OpenSpec.ofChange seekAlgebraWrong)

/-- 'ravelinlaw2.CutAgain': WHATEVER THE INPUT: true; the input reads as it did. -/
def cutAgainSpec : ChangeSpec := { name := "cutAgain", fn := fun _ => fun
  | [d1, d2, d3] => { results := [.lit (.bool true)], args := [d1, d2, d3] }
  | _ => none }
def cutAgainRow : OpenClaim := { program := "ytfemeaehpjajlaa", sum := "1cdc1b3717a6d827bd950d64be5d443eed0a5de06972c6d73b79126bc9b05ba4", func := "ravelin/ravelinlaw2.CutAgain", spec := "cutAgain", apart := false }
def CutAgainSaid : Prop := cutAgainRow.holds Try.pinned (OpenSpec.ofChange cutAgainSpec)

/-- ITS FALSE NEIGHBOUR: 'it returns false'. Refute it at one input. -/
def cutAgainWrong : ChangeSpec := { name := "cutAgain", fn := fun _ => fun
  | [d1, d2, d3] => { results := [.lit (.bool false)], args := [d1, d2, d3] }
  | _ => none }
def CutAgainWrongFalsely : Prop := cutAgainRow.holds Try.pinned (OpenSpec.ofChange cutAgainWrong)

/-- 'ravelinlaw2.TurnCorners': WHATEVER THE INPUT: true; the input reads as it did. -/
def turnCornersSpec : ChangeSpec := { name := "turnCorners", fn := fun _ => fun
  | [d] => { results := [.lit (.bool true)], args := [d] }
  | _ => none }
def turnCornersRow : OpenClaim := { program := "ytfemeaehpjajlaa", sum := "1cdc1b3717a6d827bd950d64be5d443eed0a5de06972c6d73b79126bc9b05ba4", func := "ravelin/ravelinlaw2.TurnCorners", spec := "turnCorners", unfollowed := true, recurses := true, apart := false }
def TurnCornersSaid : Prop := turnCornersRow.holds Try.pinned (OpenSpec.ofChange turnCornersSpec)

/-- ITS FALSE NEIGHBOUR: 'it returns false'. Refute it at one input. -/
def turnCornersWrong : ChangeSpec := { name := "turnCorners", fn := fun _ => fun
  | [d] => { results := [.lit (.bool false)], args := [d] }
  | _ => none }
def TurnCornersWrongFalsely : Prop := turnCornersRow.holds Try.pinned (OpenSpec.ofChange turnCornersWrong)

/-- 'ravelinlaw2.CutMonoid': WHATEVER THE INPUT: true; the input reads as it did. -/
def cutMonoidSpec : ChangeSpec := { name := "cutMonoid", fn := fun _ => fun
  | [d1, d2, d3, d4] => { results := [.lit (.bool true)], args := [d1, d2, d3, d4] }
  | _ => none }
def cutMonoidRow : OpenClaim := { program := "ytfemeaehpjajlaa", sum := "1cdc1b3717a6d827bd950d64be5d443eed0a5de06972c6d73b79126bc9b05ba4", func := "ravelin/ravelinlaw2.CutMonoid", spec := "cutMonoid", apart := false }
def CutMonoidSaid : Prop := cutMonoidRow.holds Try.pinned (OpenSpec.ofChange cutMonoidSpec)

/-- ITS FALSE NEIGHBOUR: 'it returns false'. Refute it at one input. -/
def cutMonoidWrong : ChangeSpec := { name := "cutMonoid", fn := fun _ => fun
  | [d1, d2, d3, d4] => { results := [.lit (.bool false)], args := [d1, d2, d3, d4] }
  | _ => none }
def CutMonoidWrongFalsely : Prop := cutMonoidRow.holds Try.pinned (OpenSpec.ofChange cutMonoidWrong)

/-- 'ravelinlaw2.CutBack': WHATEVER THE INPUT: true; the input reads as it did. -/
def cutBackSpec : ChangeSpec := { name := "cutBack", fn := fun _ => fun
  | [d1, d2, d3] => { results := [.lit (.bool true)], args := [d1, d2, d3] }
  | _ => none }
def cutBackRow : OpenClaim := { program := "ytfemeaehpjajlaa", sum := "1cdc1b3717a6d827bd950d64be5d443eed0a5de06972c6d73b79126bc9b05ba4", func := "ravelin/ravelinlaw2.CutBack", spec := "cutBack", apart := false }
def CutBackSaid : Prop := cutBackRow.holds Try.pinned (OpenSpec.ofChange cutBackSpec)

/-- ITS FALSE NEIGHBOUR: 'it returns false'. Refute it at one input. -/
def cutBackWrong : ChangeSpec := { name := "cutBack", fn := fun _ => fun
  | [d1, d2, d3] => { results := [.lit (.bool false)], args := [d1, d2, d3] }
  | _ => none }
def CutBackWrongFalsely : Prop := cutBackRow.holds Try.pinned (OpenSpec.ofChange cutBackWrong)

/-- 'ravelinlaw2.PickAll': WHATEVER THE INPUT: true; the input reads as it did. -/
def pickAllSpec : ChangeSpec := { name := "pickAll", fn := fun _ => fun
  | [d] => { results := [.lit (.bool true)], args := [d] }
  | _ => none }
def pickAllRow : OpenClaim := { program := "ytfemeaehpjajlaa", sum := "1cdc1b3717a6d827bd950d64be5d443eed0a5de06972c6d73b79126bc9b05ba4", func := "ravelin/ravelinlaw2.PickAll", spec := "pickAll", unfollowed := true, recurses := true, apart := false }
def PickAllSaid : Prop := pickAllRow.holds Try.pinned (OpenSpec.ofChange pickAllSpec)

/-- ITS FALSE NEIGHBOUR: 'it returns false'. Refute it at one input. -/
def pickAllWrong : ChangeSpec := { name := "pickAll", fn := fun _ => fun
  | [d] => { results := [.lit (.bool false)], args := [d] }
  | _ => none }
def PickAllWrongFalsely : Prop := pickAllRow.holds Try.pinned (OpenSpec.ofChange pickAllWrong)

/-- 'ravelinlaw2.CutWhole': WHATEVER THE INPUT: true; the input reads as it did. -/
def cutWholeSpec : ChangeSpec := { name := "cutWhole", fn := fun _ => fun
  | [d1, d2, d3] => { results := [.lit (.bool true)], args := [d1, d2, d3] }
  | _ => none }
def cutWholeRow : OpenClaim := { program := "ytfemeaehpjajlaa", sum := "1cdc1b3717a6d827bd950d64be5d443eed0a5de06972c6d73b79126bc9b05ba4", func := "ravelin/ravelinlaw2.CutWhole", spec := "cutWhole", apart := false }
def CutWholeSaid : Prop := cutWholeRow.holds Try.pinned (OpenSpec.ofChange cutWholeSpec)

/-- ITS FALSE NEIGHBOUR: 'it returns false'. Refute it at one input. -/
def cutWholeWrong : ChangeSpec := { name := "cutWhole", fn := fun _ => fun
  | [d1, d2, d3] => { results := [.lit (.bool false)], args := [d1, d2, d3] }
  | _ => none }
def CutWholeWrongFalsely : Prop := cutWholeRow.holds Try.pinned (OpenSpec.ofChange cutWholeWrong)

/-- 'ravelinlaw2.CutMirrors': WHATEVER THE INPUT: true; the input reads as it did. -/
def cutMirrorsSpec : ChangeSpec := { name := "cutMirrors", fn := fun _ => fun
  | [d1, d2, d3, d4] => { results := [.lit (.bool true)], args := [d1, d2, d3, d4] }
  | _ => none }
def cutMirrorsRow : OpenClaim := { program := "ytfemeaehpjajlaa", sum := "1cdc1b3717a6d827bd950d64be5d443eed0a5de06972c6d73b79126bc9b05ba4", func := "ravelin/ravelinlaw2.CutMirrors", spec := "cutMirrors", unfollowed := true, recurses := true, apart := false }
def CutMirrorsSaid : Prop := cutMirrorsRow.holds Try.pinned (OpenSpec.ofChange cutMirrorsSpec)

/-- ITS FALSE NEIGHBOUR: 'it returns false'. Refute it at one input. -/
def cutMirrorsWrong : ChangeSpec := { name := "cutMirrors", fn := fun _ => fun
  | [d1, d2, d3, d4] => { results := [.lit (.bool false)], args := [d1, d2, d3, d4] }
  | _ => none }
def CutMirrorsWrongFalsely : Prop := cutMirrorsRow.holds Try.pinned (OpenSpec.ofChange cutMirrorsWrong)

/-- 'ravelinlaw2.PickLens': WHATEVER THE INPUT: true; the input reads as it did. -/
def pickLensSpec : ChangeSpec := { name := "pickLens", fn := fun _ => fun
  | [d1, d2, d3, d4] => { results := [.lit (.bool true)], args := [d1, d2, d3, d4] }
  | _ => none }
def pickLensRow : OpenClaim := { program := "ytfemeaehpjajlaa", sum := "1cdc1b3717a6d827bd950d64be5d443eed0a5de06972c6d73b79126bc9b05ba4", func := "ravelin/ravelinlaw2.PickLens", spec := "pickLens", apart := false }
def PickLensSaid : Prop := pickLensRow.holds Try.pinned (OpenSpec.ofChange pickLensSpec)

/-- ITS FALSE NEIGHBOUR: 'it returns false'. Refute it at one input. -/
def pickLensWrong : ChangeSpec := { name := "pickLens", fn := fun _ => fun
  | [d1, d2, d3, d4] => { results := [.lit (.bool false)], args := [d1, d2, d3, d4] }
  | _ => none }
def PickLensWrongFalsely : Prop := pickLensRow.holds Try.pinned (OpenSpec.ofChange pickLensWrong)

/-- 'ravelinlaw2.PickOthers': WHATEVER THE INPUT: true; the input reads as it did. -/
def pickOthersSpec : ChangeSpec := { name := "pickOthers", fn := fun _ => fun
  | [d1, d2, d3] => { results := [.lit (.bool true)], args := [d1, d2, d3] }
  | _ => none }
def pickOthersRow : OpenClaim := { program := "ytfemeaehpjajlaa", sum := "1cdc1b3717a6d827bd950d64be5d443eed0a5de06972c6d73b79126bc9b05ba4", func := "ravelin/ravelinlaw2.PickOthers", spec := "pickOthers", apart := false }
def PickOthersSaid : Prop := pickOthersRow.holds Try.pinned (OpenSpec.ofChange pickOthersSpec)

/-- ITS FALSE NEIGHBOUR: 'it returns false'. Refute it at one input. -/
def pickOthersWrong : ChangeSpec := { name := "pickOthers", fn := fun _ => fun
  | [d1, d2, d3] => { results := [.lit (.bool false)], args := [d1, d2, d3] }
  | _ => none }
def PickOthersWrongFalsely : Prop := pickOthersRow.holds Try.pinned (OpenSpec.ofChange pickOthersWrong)

/-- 'ravelinlaw2.SeekMasks': WHATEVER THE INPUT: true; the input reads as it did. -/
def seekMasksSpec : ChangeSpec := { name := "seekMasks", fn := fun _ => fun
  | [d1, d2] => { results := [.lit (.bool true)], args := [d1, d2] }
  | _ => none }
def seekMasksRow : OpenClaim := { program := "ytfemeaehpjajlaa", sum := "1cdc1b3717a6d827bd950d64be5d443eed0a5de06972c6d73b79126bc9b05ba4", func := "ravelin/ravelinlaw2.SeekMasks", spec := "seekMasks", unfollowed := true, recurses := true, apart := false }
def SeekMasksSaid : Prop := seekMasksRow.holds Try.pinned (OpenSpec.ofChange seekMasksSpec)

/-- ITS FALSE NEIGHBOUR: 'it returns false'. Refute it at one input. -/
def seekMasksWrong : ChangeSpec := { name := "seekMasks", fn := fun _ => fun
  | [d1, d2] => { results := [.lit (.bool false)], args := [d1, d2] }
  | _ => none }
def SeekMasksWrongFalsely : Prop := seekMasksRow.holds Try.pinned (OpenSpec.ofChange seekMasksWrong)

/-- 'ravelinlaw2.TurnCells': WHATEVER THE INPUT: true; the input reads as it did. -/
def turnCellsSpec : ChangeSpec := { name := "turnCells", fn := fun _ => fun
  | [d1, d2, d3, d4, d5, d6] => { results := [.lit (.bool true)], args := [d1, d2, d3, d4, d5, d6] }
  | _ => none }
def turnCellsRow : OpenClaim := { program := "ytfemeaehpjajlaa", sum := "1cdc1b3717a6d827bd950d64be5d443eed0a5de06972c6d73b79126bc9b05ba4", func := "ravelin/ravelinlaw2.TurnCells", spec := "turnCells", unfollowed := true, recurses := true, apart := false }
def TurnCellsSaid : Prop := turnCellsRow.holds Try.pinned (OpenSpec.ofChange turnCellsSpec)

/-- ITS FALSE NEIGHBOUR: 'it returns false'. Refute it at one input. -/
def turnCellsWrong : ChangeSpec := { name := "turnCells", fn := fun _ => fun
  | [d1, d2, d3, d4, d5, d6] => { results := [.lit (.bool false)], args := [d1, d2, d3, d4, d5, d6] }
  | _ => none }
def TurnCellsWrongFalsely : Prop := turnCellsRow.holds Try.pinned (OpenSpec.ofChange turnCellsWrong)

/-- 'ravelinlaw2.CutMeshes': WHATEVER THE INPUT: true; the input reads as it did. -/
def cutMeshesSpec : ChangeSpec := { name := "cutMeshes", fn := fun _ => fun
  | [d1, d2, d3] => { results := [.lit (.bool true)], args := [d1, d2, d3] }
  | _ => none }
def cutMeshesRow : OpenClaim := { program := "ytfemeaehpjajlaa", sum := "1cdc1b3717a6d827bd950d64be5d443eed0a5de06972c6d73b79126bc9b05ba4", func := "ravelin/ravelinlaw2.CutMeshes", spec := "cutMeshes", unfollowed := true, recurses := true, apart := false }
def CutMeshesSaid : Prop := cutMeshesRow.holds Try.pinned (OpenSpec.ofChange cutMeshesSpec)

/-- ITS FALSE NEIGHBOUR: 'it returns false'. Refute it at one input. -/
def cutMeshesWrong : ChangeSpec := { name := "cutMeshes", fn := fun _ => fun
  | [d1, d2, d3] => { results := [.lit (.bool false)], args := [d1, d2, d3] }
  | _ => none }
def CutMeshesWrongFalsely : Prop := cutMeshesRow.holds Try.pinned (OpenSpec.ofChange cutMeshesWrong)

/- THE SECOND FORM. 'bulk': how many values and letters a reading holds, each counted each time it is reached (what is shared counts as often as it is met; a slice's spare places count too). A statement '..UptoSaid' is the law's where the arguments, and the package variables that the reading takes, are together of bulk at most 1048576: NARROWER than '..Said'. Prove '..Said' where nothing that the law and all that it calls make is longer than what came in: it says more and counts as full. Else prove '..UptoSaid'. A law counts once. -/
mutual
def uptoBulk {H : Type} : DataW H → Nat
  | .lit (.string bytes) => bytes.length + 1
  | .lit _ => 1
  | .nil => 1
  | .ptr d => uptoBulk d + 1
  | .slice elems spare => uptoBulkAll elems + uptoBulkAll spare + 1
  | .agg parts => uptoBulkAll parts + 1
  | .iface _ d => uptoBulk d + 1
  | .map entries => uptoBulkEntries entries + 1
  | .held _ => 1
def uptoBulkAll {H : Type} : List (DataW H) → Nat
  | [] => 0
  | d :: r => uptoBulk d + uptoBulkAll r
def uptoBulkEntries {H : Type} : List (Lit × DataW H) → Nat
  | [] => 0
  | x :: r => uptoBulkEntry x + uptoBulkEntries r
def uptoBulkEntry {H : Type} : Lit × DataW H → Nat
  | (.string bytes, d) => bytes.length + uptoBulk d + 1
  | (_, d) => uptoBulk d + 1
 end
def uptoSmall : (H : Type) → List (DataW H) → Bool := fun _ ds => decide (uptoBulkAll ds ≤ 1048576)
def OpenSpec.upto (s : _root_.Go.ChangeSpec) : _root_.Go.OpenSpec := { _root_.Go.OpenSpec.ofChange s with cond := some uptoSmall }

/-- 'ravelinlaw2.TurnTwice', WHERE WHAT IT READS IS OF BULK AT MOST 1048576: true; the input reads as it did. -/
def turnTwiceUptoRow : OpenClaim := { program := "ytfemeaehpjajlaa", sum := "1cdc1b3717a6d827bd950d64be5d443eed0a5de06972c6d73b79126bc9b05ba4", func := "ravelin/ravelinlaw2.TurnTwice", spec := "turnTwice", unfollowed := true, recurses := true, apart := false, narrowed := true }
def TurnTwiceUptoSaid : Prop := turnTwiceUptoRow.holds Try.pinned (OpenSpec.upto turnTwiceSpec)

/-- 'ravelinlaw2.TurnRounds', WHERE WHAT IT READS IS OF BULK AT MOST 1048576: true; the input reads as it did. -/
def turnRoundsUptoRow : OpenClaim := { program := "ytfemeaehpjajlaa", sum := "1cdc1b3717a6d827bd950d64be5d443eed0a5de06972c6d73b79126bc9b05ba4", func := "ravelin/ravelinlaw2.TurnRounds", spec := "turnRounds", unfollowed := true, recurses := true, apart := false, narrowed := true }
def TurnRoundsUptoSaid : Prop := turnRoundsUptoRow.holds Try.pinned (OpenSpec.upto turnRoundsSpec)

/-- 'ravelinlaw2.TurnGroup', WHERE WHAT IT READS IS OF BULK AT MOST 1048576: true; the input reads as it did. -/
def turnGroupUptoRow : OpenClaim := { program := "ytfemeaehpjajlaa", sum := "1cdc1b3717a6d827bd950d64be5d443eed0a5de06972c6d73b79126bc9b05ba4", func := "ravelin/ravelinlaw2.TurnGroup", spec := "turnGroup", apart := false, narrowed := true }
def TurnGroupUptoSaid : Prop := turnGroupUptoRow.holds Try.pinned (OpenSpec.upto turnGroupSpec)

/-- 'ravelinlaw2.SeekFound', WHERE WHAT IT READS IS OF BULK AT MOST 1048576: true; the input reads as it did. -/
def seekFoundUptoRow : OpenClaim := { program := "ytfemeaehpjajlaa", sum := "1cdc1b3717a6d827bd950d64be5d443eed0a5de06972c6d73b79126bc9b05ba4", func := "ravelin/ravelinlaw2.SeekFound", spec := "seekFound", apart := false, narrowed := true }
def SeekFoundUptoSaid : Prop := seekFoundUptoRow.holds Try.pinned (OpenSpec.upto seekFoundSpec)

/-- 'ravelinlaw2.TurnMirrors', WHERE WHAT IT READS IS OF BULK AT MOST 1048576: true; the input reads as it did. -/
def turnMirrorsUptoRow : OpenClaim := { program := "ytfemeaehpjajlaa", sum := "1cdc1b3717a6d827bd950d64be5d443eed0a5de06972c6d73b79126bc9b05ba4", func := "ravelin/ravelinlaw2.TurnMirrors", spec := "turnMirrors", unfollowed := true, recurses := true, apart := false, narrowed := true }
def TurnMirrorsUptoSaid : Prop := turnMirrorsUptoRow.holds Try.pinned (OpenSpec.upto turnMirrorsSpec)

/-- 'ravelinlaw2.PickChains', WHERE WHAT IT READS IS OF BULK AT MOST 1048576: true; the input reads as it did. -/
def pickChainsUptoRow : OpenClaim := { program := "ytfemeaehpjajlaa", sum := "1cdc1b3717a6d827bd950d64be5d443eed0a5de06972c6d73b79126bc9b05ba4", func := "ravelin/ravelinlaw2.PickChains", spec := "pickChains", apart := false, narrowed := true }
def PickChainsUptoSaid : Prop := pickChainsUptoRow.holds Try.pinned (OpenSpec.upto pickChainsSpec)

/-- 'ravelinlaw2.SeekOnce', WHERE WHAT IT READS IS OF BULK AT MOST 1048576: true; the input reads as it did. -/
def seekOnceUptoRow : OpenClaim := { program := "ytfemeaehpjajlaa", sum := "1cdc1b3717a6d827bd950d64be5d443eed0a5de06972c6d73b79126bc9b05ba4", func := "ravelin/ravelinlaw2.SeekOnce", spec := "seekOnce", unfollowed := true, recurses := true, apart := false, narrowed := true }
def SeekOnceUptoSaid : Prop := seekOnceUptoRow.holds Try.pinned (OpenSpec.upto seekOnceSpec)

/-- 'ravelinlaw2.SeekAlgebra', WHERE WHAT IT READS IS OF BULK AT MOST 1048576: true; the input reads as it did. -/
def seekAlgebraUptoRow : OpenClaim := { program := "ytfemeaehpjajlaa", sum := "1cdc1b3717a6d827bd950d64be5d443eed0a5de06972c6d73b79126bc9b05ba4", func := "ravelin/ravelinlaw2.SeekAlgebra", spec := "seekAlgebra", unfollowed := true, recurses := true, apart := false, narrowed := true }
def SeekAlgebraUptoSaid : Prop := seekAlgebraUptoRow.holds Try.pinned (OpenSpec.upto seekAlgebraSpec)

/-- 'ravelinlaw2.CutAgain', WHERE WHAT IT READS IS OF BULK AT MOST 1048576: true; the input reads as it did. -/
def cutAgainUptoRow : OpenClaim := { program := "ytfemeaehpjajlaa", sum := "1cdc1b3717a6d827bd950d64be5d443eed0a5de06972c6d73b79126bc9b05ba4", func := "ravelin/ravelinlaw2.CutAgain", spec := "cutAgain", apart := false, narrowed := true }
def CutAgainUptoSaid : Prop := cutAgainUptoRow.holds Try.pinned (OpenSpec.upto cutAgainSpec)

/-- 'ravelinlaw2.TurnCorners', WHERE WHAT IT READS IS OF BULK AT MOST 1048576: true; the input reads as it did. -/
def turnCornersUptoRow : OpenClaim := { program := "ytfemeaehpjajlaa", sum := "1cdc1b3717a6d827bd950d64be5d443eed0a5de06972c6d73b79126bc9b05ba4", func := "ravelin/ravelinlaw2.TurnCorners", spec := "turnCorners", unfollowed := true, recurses := true, apart := false, narrowed := true }
def TurnCornersUptoSaid : Prop := turnCornersUptoRow.holds Try.pinned (OpenSpec.upto turnCornersSpec)

/-- 'ravelinlaw2.CutMonoid', WHERE WHAT IT READS IS OF BULK AT MOST 1048576: true; the input reads as it did. -/
def cutMonoidUptoRow : OpenClaim := { program := "ytfemeaehpjajlaa", sum := "1cdc1b3717a6d827bd950d64be5d443eed0a5de06972c6d73b79126bc9b05ba4", func := "ravelin/ravelinlaw2.CutMonoid", spec := "cutMonoid", apart := false, narrowed := true }
def CutMonoidUptoSaid : Prop := cutMonoidUptoRow.holds Try.pinned (OpenSpec.upto cutMonoidSpec)

/-- 'ravelinlaw2.CutBack', WHERE WHAT IT READS IS OF BULK AT MOST 1048576: true; the input reads as it did. -/
def cutBackUptoRow : OpenClaim := { program := "ytfemeaehpjajlaa", sum := "1cdc1b3717a6d827bd950d64be5d443eed0a5de06972c6d73b79126bc9b05ba4", func := "ravelin/ravelinlaw2.CutBack", spec := "cutBack", apart := false, narrowed := true }
def CutBackUptoSaid : Prop := cutBackUptoRow.holds Try.pinned (OpenSpec.upto cutBackSpec)

/-- 'ravelinlaw2.PickAll', WHERE WHAT IT READS IS OF BULK AT MOST 1048576: true; the input reads as it did. -/
def pickAllUptoRow : OpenClaim := { program := "ytfemeaehpjajlaa", sum := "1cdc1b3717a6d827bd950d64be5d443eed0a5de06972c6d73b79126bc9b05ba4", func := "ravelin/ravelinlaw2.PickAll", spec := "pickAll", unfollowed := true, recurses := true, apart := false, narrowed := true }
def PickAllUptoSaid : Prop := pickAllUptoRow.holds Try.pinned (OpenSpec.upto pickAllSpec)

/-- 'ravelinlaw2.CutWhole', WHERE WHAT IT READS IS OF BULK AT MOST 1048576: true; the input reads as it did. -/
def cutWholeUptoRow : OpenClaim := { program := "ytfemeaehpjajlaa", sum := "1cdc1b3717a6d827bd950d64be5d443eed0a5de06972c6d73b79126bc9b05ba4", func := "ravelin/ravelinlaw2.CutWhole", spec := "cutWhole", apart := false, narrowed := true }
def CutWholeUptoSaid : Prop := cutWholeUptoRow.holds Try.pinned (OpenSpec.upto cutWholeSpec)

/-- 'ravelinlaw2.CutMirrors', WHERE WHAT IT READS IS OF BULK AT MOST 1048576: true; the input reads as it did. -/
def cutMirrorsUptoRow : OpenClaim := { program := "ytfemeaehpjajlaa", sum := "1cdc1b3717a6d827bd950d64be5d443eed0a5de06972c6d73b79126bc9b05ba4", func := "ravelin/ravelinlaw2.CutMirrors", spec := "cutMirrors", unfollowed := true, recurses := true, apart := false, narrowed := true }
def CutMirrorsUptoSaid : Prop := cutMirrorsUptoRow.holds Try.pinned (OpenSpec.upto cutMirrorsSpec)

/-- 'ravelinlaw2.PickLens', WHERE WHAT IT READS IS OF BULK AT MOST 1048576: true; the input reads as it did. -/
def pickLensUptoRow : OpenClaim := { program := "ytfemeaehpjajlaa", sum := "1cdc1b3717a6d827bd950d64be5d443eed0a5de06972c6d73b79126bc9b05ba4", func := "ravelin/ravelinlaw2.PickLens", spec := "pickLens", apart := false, narrowed := true }
def PickLensUptoSaid : Prop := pickLensUptoRow.holds Try.pinned (OpenSpec.upto pickLensSpec)

/-- 'ravelinlaw2.PickOthers', WHERE WHAT IT READS IS OF BULK AT MOST 1048576: true; the input reads as it did. -/
def pickOthersUptoRow : OpenClaim := { program := "ytfemeaehpjajlaa", sum := "1cdc1b3717a6d827bd950d64be5d443eed0a5de06972c6d73b79126bc9b05ba4", func := "ravelin/ravelinlaw2.PickOthers", spec := "pickOthers", apart := false, narrowed := true }
def PickOthersUptoSaid : Prop := pickOthersUptoRow.holds Try.pinned (OpenSpec.upto pickOthersSpec)

/-- 'ravelinlaw2.SeekMasks', WHERE WHAT IT READS IS OF BULK AT MOST 1048576: true; the input reads as it did. -/
def seekMasksUptoRow : OpenClaim := { program := "ytfemeaehpjajlaa", sum := "1cdc1b3717a6d827bd950d64be5d443eed0a5de06972c6d73b79126bc9b05ba4", func := "ravelin/ravelinlaw2.SeekMasks", spec := "seekMasks", unfollowed := true, recurses := true, apart := false, narrowed := true }
def SeekMasksUptoSaid : Prop := seekMasksUptoRow.holds Try.pinned (OpenSpec.upto seekMasksSpec)

/-- 'ravelinlaw2.TurnCells', WHERE WHAT IT READS IS OF BULK AT MOST 1048576: true; the input reads as it did. -/
def turnCellsUptoRow : OpenClaim := { program := "ytfemeaehpjajlaa", sum := "1cdc1b3717a6d827bd950d64be5d443eed0a5de06972c6d73b79126bc9b05ba4", func := "ravelin/ravelinlaw2.TurnCells", spec := "turnCells", unfollowed := true, recurses := true, apart := false, narrowed := true }
def TurnCellsUptoSaid : Prop := turnCellsUptoRow.holds Try.pinned (OpenSpec.upto turnCellsSpec)

/-- 'ravelinlaw2.CutMeshes', WHERE WHAT IT READS IS OF BULK AT MOST 1048576: true; the input reads as it did. -/
def cutMeshesUptoRow : OpenClaim := { program := "ytfemeaehpjajlaa", sum := "1cdc1b3717a6d827bd950d64be5d443eed0a5de06972c6d73b79126bc9b05ba4", func := "ravelin/ravelinlaw2.CutMeshes", spec := "cutMeshes", unfollowed := true, recurses := true, apart := false, narrowed := true }
def CutMeshesUptoSaid : Prop := cutMeshesUptoRow.holds Try.pinned (OpenSpec.upto cutMeshesSpec)

end Rows
end Go.Proofs.Ytfemeaehpjajlaa
