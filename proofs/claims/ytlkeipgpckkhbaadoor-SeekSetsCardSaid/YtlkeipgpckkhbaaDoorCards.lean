/-
  DERIVED. GIVEN WITH THE SEED: THE CARDS: each row of YtlkeipgpckkhbaaDoorRows.lean that lists a variable, with what it lists TIED to the program's text (the seventh form; the later family's looks); each row that meets fmt, with fmt's text TOLD by the authors' own Lean function (tested against real Go, not proved from fmt's source: count such statements apart). THE CARD IS WHAT COUNTS. Prove the row's statement (the work); the ties are given (YtlkeipgpckkhbaaDoorTie.lean); close each card by the builder's one call (the guide's Derived/Test/ToyasCard.lean, 'card_holds'). Laid BY PROGRAM, IN A SANDBOX (cutbox-door.mjs). By AI agents, Wed Nov 11 2026. No macro, syntax, notation, axiom, sorry.
-/
import Derived.Test.YtlkeipgpckkhbaaDoorRows
import GoSem.ClaimSeven
namespace Go.Proofs.YtlkeipgpckkhbaaDoor
namespace Rows

/-- THE TIED CARD OF 'ravelinlaw2.CutDrops'. -/
def cutDropsCard : Claim7 := { stood := { row := cutDropsRow, standIns := [], harness := (true, "ef5e57eb3795f0cb0d68ca39d208a55ee090ba2214d5a53cdedff3b23187b820"), looks := true }, kinds := [], alts := [], laidByText := true, laidKinds := [.handle], laidTests := true, laidLooks := .later }
def CutDropsCardSaid : Prop := Claim7.holds Tryd.pinned (.plain (OpenSpec.ofChange cutDropsSpec)) cutDropsCard

/-- THE TIED CARD OF 'ravelinlaw2.TurnFlips'. -/
def turnFlipsCard : Claim7 := { stood := { row := turnFlipsRow, standIns := [], harness := (true, "ef5e57eb3795f0cb0d68ca39d208a55ee090ba2214d5a53cdedff3b23187b820"), looks := true }, kinds := [], alts := [], laidByText := true, laidKinds := [.handle], laidTests := true, laidLooks := .later }
def TurnFlipsCardSaid : Prop := Claim7.holds Tryd.pinned (.plain (OpenSpec.ofChange turnFlipsSpec)) turnFlipsCard

/-- THE TIED CARD OF 'ravelinlaw2.SeekSets'. -/
def seekSetsCard : Claim7 := { stood := { row := seekSetsRow, standIns := [], harness := (true, "ef5e57eb3795f0cb0d68ca39d208a55ee090ba2214d5a53cdedff3b23187b820"), looks := true }, kinds := [], alts := [], laidByText := true, laidKinds := [.handle], laidTests := true, laidLooks := .later }
def SeekSetsCardSaid : Prop := Claim7.holds Tryd.pinned (.plain (OpenSpec.ofChange seekSetsSpec)) seekSetsCard

/-- THE SECOND FORM's CARD OF 'ravelinlaw2.CutDrops'. -/
def cutDropsUptoCard : Claim7 := { stood := { row := cutDropsUptoRow, standIns := [], harness := (true, "ef5e57eb3795f0cb0d68ca39d208a55ee090ba2214d5a53cdedff3b23187b820"), looks := true }, kinds := [], alts := [], laidByText := true, laidKinds := [.handle], laidTests := true, laidLooks := .later }
def CutDropsUptoCardSaid : Prop := Claim7.holds Tryd.pinned (.plain (OpenSpec.upto cutDropsSpec)) cutDropsUptoCard

/-- THE SECOND FORM's CARD OF 'ravelinlaw2.TurnFlips'. -/
def turnFlipsUptoCard : Claim7 := { stood := { row := turnFlipsUptoRow, standIns := [], harness := (true, "ef5e57eb3795f0cb0d68ca39d208a55ee090ba2214d5a53cdedff3b23187b820"), looks := true }, kinds := [], alts := [], laidByText := true, laidKinds := [.handle], laidTests := true, laidLooks := .later }
def TurnFlipsUptoCardSaid : Prop := Claim7.holds Tryd.pinned (.plain (OpenSpec.upto turnFlipsSpec)) turnFlipsUptoCard

/-- THE SECOND FORM's CARD OF 'ravelinlaw2.SeekSets'. -/
def seekSetsUptoCard : Claim7 := { stood := { row := seekSetsUptoRow, standIns := [], harness := (true, "ef5e57eb3795f0cb0d68ca39d208a55ee090ba2214d5a53cdedff3b23187b820"), looks := true }, kinds := [], alts := [], laidByText := true, laidKinds := [.handle], laidTests := true, laidLooks := .later }
def SeekSetsUptoCardSaid : Prop := Claim7.holds Tryd.pinned (.plain (OpenSpec.upto seekSetsSpec)) seekSetsUptoCard
end Rows
end Go.Proofs.YtlkeipgpckkhbaaDoor
