/-
  DERIVED. GIVEN WITH THE SEED: THE CARDS: each row of YtikjniibfomadaaDoorRows.lean that lists a variable, with what it lists TIED to the program's text (the seventh form; the later family's looks); each row that meets fmt, with fmt's text TOLD by the authors' own Lean function (tested against real Go, not proved from fmt's source: count such statements apart). THE CARD IS WHAT COUNTS. Prove the row's statement (the work); the ties are given (YtikjniibfomadaaDoorTie.lean); close each card by the builder's one call (the guide's Derived/Test/ToyasCard.lean, 'card_holds'). Laid BY PROGRAM, IN A SANDBOX (cutbox-door.mjs). By AI agents, Wed Nov 11 2026. No macro, syntax, notation, axiom, sorry.
-/
import Derived.Test.YtikjniibfomadaaDoorRows
import GoSem.ClaimSeven
namespace Go.Proofs.YtikjniibfomadaaDoor
namespace Rows

/-- THE TIED CARD OF 'ravelinlaw2.CutJoins'. -/
def cutJoinsCard : Claim7 := { stood := { row := cutJoinsRow, standIns := [], harness := (true, "8f3309d57c0211dae957a44e1cd87e1ce51db940ea1814c188844fd493098ff5"), looks := true }, kinds := [], alts := [], laidByText := true, laidKinds := [.handle], laidTests := true, laidLooks := .later }
def CutJoinsCardSaid : Prop := Claim7.holds Tryd.pinned (.plain (OpenSpec.ofChange cutJoinsSpec)) cutJoinsCard

/-- THE TIED CARD OF 'ravelinlaw2.CutSpreads'. -/
def cutSpreadsCard : Claim7 := { stood := { row := cutSpreadsRow, standIns := [], harness := (true, "8f3309d57c0211dae957a44e1cd87e1ce51db940ea1814c188844fd493098ff5"), looks := true }, kinds := [], alts := [], laidByText := true, laidKinds := [.handle], laidTests := true, laidLooks := .later }
def CutSpreadsCardSaid : Prop := Claim7.holds Tryd.pinned (.plain (OpenSpec.ofChange cutSpreadsSpec)) cutSpreadsCard

/-- THE TIED CARD OF 'ravelinlaw2.PickAts'. -/
def pickAtsCard : Claim7 := { stood := { row := pickAtsRow, standIns := [], harness := (true, "8f3309d57c0211dae957a44e1cd87e1ce51db940ea1814c188844fd493098ff5"), looks := true }, kinds := [], alts := [], laidByText := true, laidKinds := [.handle], laidTests := true, laidLooks := .later }
def PickAtsCardSaid : Prop := Claim7.holds Tryd.pinned (.plain (OpenSpec.ofChange pickAtsSpec)) pickAtsCard

/-- THE TIED CARD OF 'ravelinlaw2.PickPuts'. -/
def pickPutsCard : Claim7 := { stood := { row := pickPutsRow, standIns := [], harness := (true, "8f3309d57c0211dae957a44e1cd87e1ce51db940ea1814c188844fd493098ff5"), looks := true }, kinds := [], alts := [], laidByText := true, laidKinds := [.handle], laidTests := true, laidLooks := .later }
def PickPutsCardSaid : Prop := Claim7.holds Tryd.pinned (.plain (OpenSpec.ofChange pickPutsSpec)) pickPutsCard

/-- THE SECOND FORM's CARD OF 'ravelinlaw2.CutJoins'. -/
def cutJoinsUptoCard : Claim7 := { stood := { row := cutJoinsUptoRow, standIns := [], harness := (true, "8f3309d57c0211dae957a44e1cd87e1ce51db940ea1814c188844fd493098ff5"), looks := true }, kinds := [], alts := [], laidByText := true, laidKinds := [.handle], laidTests := true, laidLooks := .later }
def CutJoinsUptoCardSaid : Prop := Claim7.holds Tryd.pinned (.plain (OpenSpec.upto cutJoinsSpec)) cutJoinsUptoCard

/-- THE SECOND FORM's CARD OF 'ravelinlaw2.CutSpreads'. -/
def cutSpreadsUptoCard : Claim7 := { stood := { row := cutSpreadsUptoRow, standIns := [], harness := (true, "8f3309d57c0211dae957a44e1cd87e1ce51db940ea1814c188844fd493098ff5"), looks := true }, kinds := [], alts := [], laidByText := true, laidKinds := [.handle], laidTests := true, laidLooks := .later }
def CutSpreadsUptoCardSaid : Prop := Claim7.holds Tryd.pinned (.plain (OpenSpec.upto cutSpreadsSpec)) cutSpreadsUptoCard

/-- THE SECOND FORM's CARD OF 'ravelinlaw2.PickAts'. -/
def pickAtsUptoCard : Claim7 := { stood := { row := pickAtsUptoRow, standIns := [], harness := (true, "8f3309d57c0211dae957a44e1cd87e1ce51db940ea1814c188844fd493098ff5"), looks := true }, kinds := [], alts := [], laidByText := true, laidKinds := [.handle], laidTests := true, laidLooks := .later }
def PickAtsUptoCardSaid : Prop := Claim7.holds Tryd.pinned (.plain (OpenSpec.upto pickAtsSpec)) pickAtsUptoCard

/-- THE SECOND FORM's CARD OF 'ravelinlaw2.PickPuts'. -/
def pickPutsUptoCard : Claim7 := { stood := { row := pickPutsUptoRow, standIns := [], harness := (true, "8f3309d57c0211dae957a44e1cd87e1ce51db940ea1814c188844fd493098ff5"), looks := true }, kinds := [], alts := [], laidByText := true, laidKinds := [.handle], laidTests := true, laidLooks := .later }
def PickPutsUptoCardSaid : Prop := Claim7.holds Tryd.pinned (.plain (OpenSpec.upto pickPutsSpec)) pickPutsUptoCard
end Rows
end Go.Proofs.YtikjniibfomadaaDoor
