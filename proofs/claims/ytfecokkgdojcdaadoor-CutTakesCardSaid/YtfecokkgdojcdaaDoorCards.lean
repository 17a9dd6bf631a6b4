/-
  DERIVED. GIVEN WITH THE SEED: THE CARDS: each row of YtfecokkgdojcdaaDoorRows.lean that lists a variable, with what it lists TIED to the program's text (the seventh form; the later family's looks); each row that meets fmt, with fmt's text TOLD by the authors' own Lean function (tested against real Go, not proved from fmt's source: count such statements apart). THE CARD IS WHAT COUNTS. Prove the row's statement (the work); the ties are given (YtfecokkgdojcdaaDoorTie.lean); close each card by the builder's one call (the guide's Derived/Test/ToyasCard.lean, 'card_holds'). Laid BY PROGRAM, IN A SANDBOX (cutbox-door.mjs). By AI agents, Wed Nov 11 2026. No macro, syntax, notation, axiom, sorry.
-/
import Derived.Test.YtfecokkgdojcdaaDoorRows
import GoSem.ClaimSeven
namespace Go.Proofs.YtfecokkgdojcdaaDoor
namespace Rows

/-- THE TIED CARD OF 'ravelinlaw2.SeekIns'. -/
def seekInsCard : Claim7 := { stood := { row := seekInsRow, standIns := [], harness := (true, "c72d6491741e953bb5a551c3d4974195bb7181fca2f5ee6b508eabeec24127f3"), looks := true }, kinds := [], alts := [], laidByText := true, laidKinds := [.handle], laidTests := true, laidLooks := .later }
def SeekInsCardSaid : Prop := Claim7.holds Tryd.pinned (.plain (OpenSpec.ofChange seekInsSpec)) seekInsCard

/-- THE TIED CARD OF 'ravelinlaw2.SeekIndexes'. -/
def seekIndexesCard : Claim7 := { stood := { row := seekIndexesRow, standIns := [], harness := (true, "c72d6491741e953bb5a551c3d4974195bb7181fca2f5ee6b508eabeec24127f3"), looks := true }, kinds := [], alts := [], laidByText := true, laidKinds := [.handle], laidTests := true, laidLooks := .later }
def SeekIndexesCardSaid : Prop := Claim7.holds Tryd.pinned (.plain (OpenSpec.ofChange seekIndexesSpec)) seekIndexesCard

/-- THE TIED CARD OF 'ravelinlaw2.TurnReverses'. -/
def turnReversesCard : Claim7 := { stood := { row := turnReversesRow, standIns := [], harness := (true, "c72d6491741e953bb5a551c3d4974195bb7181fca2f5ee6b508eabeec24127f3"), looks := true }, kinds := [], alts := [], laidByText := true, laidKinds := [.handle], laidTests := true, laidLooks := .later }
def TurnReversesCardSaid : Prop := Claim7.holds Tryd.pinned (.plain (OpenSpec.ofChange turnReversesSpec)) turnReversesCard

/-- THE TIED CARD OF 'ravelinlaw2.CutJoins'. -/
def cutJoinsCard : Claim7 := { stood := { row := cutJoinsRow, standIns := [], harness := (true, "c72d6491741e953bb5a551c3d4974195bb7181fca2f5ee6b508eabeec24127f3"), looks := true }, kinds := [], alts := [], laidByText := true, laidKinds := [.handle], laidTests := true, laidLooks := .later }
def CutJoinsCardSaid : Prop := Claim7.holds Tryd.pinned (.plain (OpenSpec.ofChange cutJoinsSpec)) cutJoinsCard

/-- THE TIED CARD OF 'ravelinlaw2.TurnRotates'. -/
def turnRotatesCard : Claim7 := { stood := { row := turnRotatesRow, standIns := [], harness := (true, "c72d6491741e953bb5a551c3d4974195bb7181fca2f5ee6b508eabeec24127f3"), looks := true }, kinds := [], alts := [], laidByText := true, laidKinds := [.handle], laidTests := true, laidLooks := .later }
def TurnRotatesCardSaid : Prop := Claim7.holds Tryd.pinned (.plain (OpenSpec.ofChange turnRotatesSpec)) turnRotatesCard

/-- THE TIED CARD OF 'ravelinlaw2.TurnFlips'. -/
def turnFlipsCard : Claim7 := { stood := { row := turnFlipsRow, standIns := [], harness := (true, "c72d6491741e953bb5a551c3d4974195bb7181fca2f5ee6b508eabeec24127f3"), looks := true }, kinds := [], alts := [], laidByText := true, laidKinds := [.handle], laidTests := true, laidLooks := .later }
def TurnFlipsCardSaid : Prop := Claim7.holds Tryd.pinned (.plain (OpenSpec.ofChange turnFlipsSpec)) turnFlipsCard

/-- THE TIED CARD OF 'ravelinlaw2.CutDrops'. -/
def cutDropsCard : Claim7 := { stood := { row := cutDropsRow, standIns := [], harness := (true, "c72d6491741e953bb5a551c3d4974195bb7181fca2f5ee6b508eabeec24127f3"), looks := true }, kinds := [], alts := [], laidByText := true, laidKinds := [.handle], laidTests := true, laidLooks := .later }
def CutDropsCardSaid : Prop := Claim7.holds Tryd.pinned (.plain (OpenSpec.ofChange cutDropsSpec)) cutDropsCard

/-- THE TIED CARD OF 'ravelinlaw2.PickAts'. -/
def pickAtsCard : Claim7 := { stood := { row := pickAtsRow, standIns := [], harness := (true, "c72d6491741e953bb5a551c3d4974195bb7181fca2f5ee6b508eabeec24127f3"), looks := true }, kinds := [], alts := [], laidByText := true, laidKinds := [.handle], laidTests := true, laidLooks := .later }
def PickAtsCardSaid : Prop := Claim7.holds Tryd.pinned (.plain (OpenSpec.ofChange pickAtsSpec)) pickAtsCard

/-- THE TIED CARD OF 'ravelinlaw2.CutTakes'. -/
def cutTakesCard : Claim7 := { stood := { row := cutTakesRow, standIns := [], harness := (true, "c72d6491741e953bb5a551c3d4974195bb7181fca2f5ee6b508eabeec24127f3"), looks := true }, kinds := [], alts := [], laidByText := true, laidKinds := [.handle], laidTests := true, laidLooks := .later }
def CutTakesCardSaid : Prop := Claim7.holds Tryd.pinned (.plain (OpenSpec.ofChange cutTakesSpec)) cutTakesCard

/-- THE TIED CARD OF 'ravelinlaw2.CutKeeps'. -/
def cutKeepsCard : Claim7 := { stood := { row := cutKeepsRow, standIns := [], harness := (true, "c72d6491741e953bb5a551c3d4974195bb7181fca2f5ee6b508eabeec24127f3"), looks := true }, kinds := [], alts := [], laidByText := true, laidKinds := [.handle], laidTests := true, laidLooks := .later }
def CutKeepsCardSaid : Prop := Claim7.holds Tryd.pinned (.plain (OpenSpec.ofChange cutKeepsSpec)) cutKeepsCard

/-- THE TIED CARD OF 'ravelinlaw2.CutSpreads'. -/
def cutSpreadsCard : Claim7 := { stood := { row := cutSpreadsRow, standIns := [], harness := (true, "c72d6491741e953bb5a551c3d4974195bb7181fca2f5ee6b508eabeec24127f3"), looks := true }, kinds := [], alts := [], laidByText := true, laidKinds := [.handle], laidTests := true, laidLooks := .later }
def CutSpreadsCardSaid : Prop := Claim7.holds Tryd.pinned (.plain (OpenSpec.ofChange cutSpreadsSpec)) cutSpreadsCard

/-- THE TIED CARD OF 'ravelinlaw2.SeekSets'. -/
def seekSetsCard : Claim7 := { stood := { row := seekSetsRow, standIns := [], harness := (true, "c72d6491741e953bb5a551c3d4974195bb7181fca2f5ee6b508eabeec24127f3"), looks := true }, kinds := [], alts := [], laidByText := true, laidKinds := [.handle], laidTests := true, laidLooks := .later }
def SeekSetsCardSaid : Prop := Claim7.holds Tryd.pinned (.plain (OpenSpec.ofChange seekSetsSpec)) seekSetsCard

/-- THE TIED CARD OF 'ravelinlaw2.PickPuts'. -/
def pickPutsCard : Claim7 := { stood := { row := pickPutsRow, standIns := [], harness := (true, "c72d6491741e953bb5a551c3d4974195bb7181fca2f5ee6b508eabeec24127f3"), looks := true }, kinds := [], alts := [], laidByText := true, laidKinds := [.handle], laidTests := true, laidLooks := .later }
def PickPutsCardSaid : Prop := Claim7.holds Tryd.pinned (.plain (OpenSpec.ofChange pickPutsSpec)) pickPutsCard

/-- THE SECOND FORM's CARD OF 'ravelinlaw2.SeekIns'. -/
def seekInsUptoCard : Claim7 := { stood := { row := seekInsUptoRow, standIns := [], harness := (true, "c72d6491741e953bb5a551c3d4974195bb7181fca2f5ee6b508eabeec24127f3"), looks := true }, kinds := [], alts := [], laidByText := true, laidKinds := [.handle], laidTests := true, laidLooks := .later }
def SeekInsUptoCardSaid : Prop := Claim7.holds Tryd.pinned (.plain (OpenSpec.upto seekInsSpec)) seekInsUptoCard

/-- THE SECOND FORM's CARD OF 'ravelinlaw2.SeekIndexes'. -/
def seekIndexesUptoCard : Claim7 := { stood := { row := seekIndexesUptoRow, standIns := [], harness := (true, "c72d6491741e953bb5a551c3d4974195bb7181fca2f5ee6b508eabeec24127f3"), looks := true }, kinds := [], alts := [], laidByText := true, laidKinds := [.handle], laidTests := true, laidLooks := .later }
def SeekIndexesUptoCardSaid : Prop := Claim7.holds Tryd.pinned (.plain (OpenSpec.upto seekIndexesSpec)) seekIndexesUptoCard

/-- THE SECOND FORM's CARD OF 'ravelinlaw2.TurnReverses'. -/
def turnReversesUptoCard : Claim7 := { stood := { row := turnReversesUptoRow, standIns := [], harness := (true, "c72d6491741e953bb5a551c3d4974195bb7181fca2f5ee6b508eabeec24127f3"), looks := true }, kinds := [], alts := [], laidByText := true, laidKinds := [.handle], laidTests := true, laidLooks := .later }
def TurnReversesUptoCardSaid : Prop := Claim7.holds Tryd.pinned (.plain (OpenSpec.upto turnReversesSpec)) turnReversesUptoCard

/-- THE SECOND FORM's CARD OF 'ravelinlaw2.CutJoins'. -/
def cutJoinsUptoCard : Claim7 := { stood := { row := cutJoinsUptoRow, standIns := [], harness := (true, "c72d6491741e953bb5a551c3d4974195bb7181fca2f5ee6b508eabeec24127f3"), looks := true }, kinds := [], alts := [], laidByText := true, laidKinds := [.handle], laidTests := true, laidLooks := .later }
def CutJoinsUptoCardSaid : Prop := Claim7.holds Tryd.pinned (.plain (OpenSpec.upto cutJoinsSpec)) cutJoinsUptoCard

/-- THE SECOND FORM's CARD OF 'ravelinlaw2.TurnRotates'. -/
def turnRotatesUptoCard : Claim7 := { stood := { row := turnRotatesUptoRow, standIns := [], harness := (true, "c72d6491741e953bb5a551c3d4974195bb7181fca2f5ee6b508eabeec24127f3"), looks := true }, kinds := [], alts := [], laidByText := true, laidKinds := [.handle], laidTests := true, laidLooks := .later }
def TurnRotatesUptoCardSaid : Prop := Claim7.holds Tryd.pinned (.plain (OpenSpec.upto turnRotatesSpec)) turnRotatesUptoCard

/-- THE SECOND FORM's CARD OF 'ravelinlaw2.TurnFlips'. -/
def turnFlipsUptoCard : Claim7 := { stood := { row := turnFlipsUptoRow, standIns := [], harness := (true, "c72d6491741e953bb5a551c3d4974195bb7181fca2f5ee6b508eabeec24127f3"), looks := true }, kinds := [], alts := [], laidByText := true, laidKinds := [.handle], laidTests := true, laidLooks := .later }
def TurnFlipsUptoCardSaid : Prop := Claim7.holds Tryd.pinned (.plain (OpenSpec.upto turnFlipsSpec)) turnFlipsUptoCard

/-- THE SECOND FORM's CARD OF 'ravelinlaw2.CutDrops'. -/
def cutDropsUptoCard : Claim7 := { stood := { row := cutDropsUptoRow, standIns := [], harness := (true, "c72d6491741e953bb5a551c3d4974195bb7181fca2f5ee6b508eabeec24127f3"), looks := true }, kinds := [], alts := [], laidByText := true, laidKinds := [.handle], laidTests := true, laidLooks := .later }
def CutDropsUptoCardSaid : Prop := Claim7.holds Tryd.pinned (.plain (OpenSpec.upto cutDropsSpec)) cutDropsUptoCard

/-- THE SECOND FORM's CARD OF 'ravelinlaw2.PickAts'. -/
def pickAtsUptoCard : Claim7 := { stood := { row := pickAtsUptoRow, standIns := [], harness := (true, "c72d6491741e953bb5a551c3d4974195bb7181fca2f5ee6b508eabeec24127f3"), looks := true }, kinds := [], alts := [], laidByText := true, laidKinds := [.handle], laidTests := true, laidLooks := .later }
def PickAtsUptoCardSaid : Prop := Claim7.holds Tryd.pinned (.plain (OpenSpec.upto pickAtsSpec)) pickAtsUptoCard

/-- THE SECOND FORM's CARD OF 'ravelinlaw2.CutTakes'. -/
def cutTakesUptoCard : Claim7 := { stood := { row := cutTakesUptoRow, standIns := [], harness := (true, "c72d6491741e953bb5a551c3d4974195bb7181fca2f5ee6b508eabeec24127f3"), looks := true }, kinds := [], alts := [], laidByText := true, laidKinds := [.handle], laidTests := true, laidLooks := .later }
def CutTakesUptoCardSaid : Prop := Claim7.holds Tryd.pinned (.plain (OpenSpec.upto cutTakesSpec)) cutTakesUptoCard

/-- THE SECOND FORM's CARD OF 'ravelinlaw2.CutKeeps'. -/
def cutKeepsUptoCard : Claim7 := { stood := { row := cutKeepsUptoRow, standIns := [], harness := (true, "c72d6491741e953bb5a551c3d4974195bb7181fca2f5ee6b508eabeec24127f3"), looks := true }, kinds := [], alts := [], laidByText := true, laidKinds := [.handle], laidTests := true, laidLooks := .later }
def CutKeepsUptoCardSaid : Prop := Claim7.holds Tryd.pinned (.plain (OpenSpec.upto cutKeepsSpec)) cutKeepsUptoCard

/-- THE SECOND FORM's CARD OF 'ravelinlaw2.CutSpreads'. -/
def cutSpreadsUptoCard : Claim7 := { stood := { row := cutSpreadsUptoRow, standIns := [], harness := (true, "c72d6491741e953bb5a551c3d4974195bb7181fca2f5ee6b508eabeec24127f3"), looks := true }, kinds := [], alts := [], laidByText := true, laidKinds := [.handle], laidTests := true, laidLooks := .later }
def CutSpreadsUptoCardSaid : Prop := Claim7.holds Tryd.pinned (.plain (OpenSpec.upto cutSpreadsSpec)) cutSpreadsUptoCard

/-- THE SECOND FORM's CARD OF 'ravelinlaw2.SeekSets'. -/
def seekSetsUptoCard : Claim7 := { stood := { row := seekSetsUptoRow, standIns := [], harness := (true, "c72d6491741e953bb5a551c3d4974195bb7181fca2f5ee6b508eabeec24127f3"), looks := true }, kinds := [], alts := [], laidByText := true, laidKinds := [.handle], laidTests := true, laidLooks := .later }
def SeekSetsUptoCardSaid : Prop := Claim7.holds Tryd.pinned (.plain (OpenSpec.upto seekSetsSpec)) seekSetsUptoCard

/-- THE SECOND FORM's CARD OF 'ravelinlaw2.PickPuts'. -/
def pickPutsUptoCard : Claim7 := { stood := { row := pickPutsUptoRow, standIns := [], harness := (true, "c72d6491741e953bb5a551c3d4974195bb7181fca2f5ee6b508eabeec24127f3"), looks := true }, kinds := [], alts := [], laidByText := true, laidKinds := [.handle], laidTests := true, laidLooks := .later }
def PickPutsUptoCardSaid : Prop := Claim7.holds Tryd.pinned (.plain (OpenSpec.upto pickPutsSpec)) pickPutsUptoCard
end Rows
end Go.Proofs.YtfecokkgdojcdaaDoor
