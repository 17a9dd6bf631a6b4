/-
  DERIVED. GIVEN WITH THE SEED: THE CARDS: each row of YtfgockiecmfdhaaDoorRows.lean that lists a variable, with what it lists TIED to the program's text (the seventh form; the later family's looks); each row that meets fmt, with fmt's text TOLD by the authors' own Lean function (tested against real Go, not proved from fmt's source: count such statements apart). THE CARD IS WHAT COUNTS. Prove the row's statement (the work); the ties are given (YtfgockiecmfdhaaDoorTie.lean); close each card by the builder's one call (the guide's Derived/Test/ToyasCard.lean, 'card_holds'). Laid BY PROGRAM, IN A SANDBOX (cutbox-door.mjs). By AI agents, Wed Nov 11 2026. No macro, syntax, notation, axiom, sorry.
-/
import Derived.Test.YtfgockiecmfdhaaDoorRows
import GoSem.ClaimSeven
namespace Go.Proofs.YtfgockiecmfdhaaDoor
namespace Rows

/-- THE TIED CARD OF 'ravelinlaw2.CutJoins'. -/
def cutJoinsCard : Claim7 := { stood := { row := cutJoinsRow, standIns := [], harness := (true, "fa939f2f93ebc16dd638a2fb341e47b96b63e296749e6f210958344ab7912fc2"), looks := true }, kinds := [], alts := [], laidByText := true, laidKinds := [.handle], laidTests := true, laidLooks := .later }
def CutJoinsCardSaid : Prop := Claim7.holds Tryd.pinned (.plain (OpenSpec.ofChange cutJoinsSpec)) cutJoinsCard

/-- THE TIED CARD OF 'ravelinlaw2.CutKeeps'. -/
def cutKeepsCard : Claim7 := { stood := { row := cutKeepsRow, standIns := [], harness := (true, "fa939f2f93ebc16dd638a2fb341e47b96b63e296749e6f210958344ab7912fc2"), looks := true }, kinds := [], alts := [], laidByText := true, laidKinds := [.handle], laidTests := true, laidLooks := .later }
def CutKeepsCardSaid : Prop := Claim7.holds Tryd.pinned (.plain (OpenSpec.ofChange cutKeepsSpec)) cutKeepsCard

/-- THE TIED CARD OF 'ravelinlaw2.CutSpreads'. -/
def cutSpreadsCard : Claim7 := { stood := { row := cutSpreadsRow, standIns := [], harness := (true, "fa939f2f93ebc16dd638a2fb341e47b96b63e296749e6f210958344ab7912fc2"), looks := true }, kinds := [], alts := [], laidByText := true, laidKinds := [.handle], laidTests := true, laidLooks := .later }
def CutSpreadsCardSaid : Prop := Claim7.holds Tryd.pinned (.plain (OpenSpec.ofChange cutSpreadsSpec)) cutSpreadsCard

/-- THE SECOND FORM's CARD OF 'ravelinlaw2.CutJoins'. -/
def cutJoinsUptoCard : Claim7 := { stood := { row := cutJoinsUptoRow, standIns := [], harness := (true, "fa939f2f93ebc16dd638a2fb341e47b96b63e296749e6f210958344ab7912fc2"), looks := true }, kinds := [], alts := [], laidByText := true, laidKinds := [.handle], laidTests := true, laidLooks := .later }
def CutJoinsUptoCardSaid : Prop := Claim7.holds Tryd.pinned (.plain (OpenSpec.upto cutJoinsSpec)) cutJoinsUptoCard

/-- THE SECOND FORM's CARD OF 'ravelinlaw2.CutKeeps'. -/
def cutKeepsUptoCard : Claim7 := { stood := { row := cutKeepsUptoRow, standIns := [], harness := (true, "fa939f2f93ebc16dd638a2fb341e47b96b63e296749e6f210958344ab7912fc2"), looks := true }, kinds := [], alts := [], laidByText := true, laidKinds := [.handle], laidTests := true, laidLooks := .later }
def CutKeepsUptoCardSaid : Prop := Claim7.holds Tryd.pinned (.plain (OpenSpec.upto cutKeepsSpec)) cutKeepsUptoCard

/-- THE SECOND FORM's CARD OF 'ravelinlaw2.CutSpreads'. -/
def cutSpreadsUptoCard : Claim7 := { stood := { row := cutSpreadsUptoRow, standIns := [], harness := (true, "fa939f2f93ebc16dd638a2fb341e47b96b63e296749e6f210958344ab7912fc2"), looks := true }, kinds := [], alts := [], laidByText := true, laidKinds := [.handle], laidTests := true, laidLooks := .later }
def CutSpreadsUptoCardSaid : Prop := Claim7.holds Tryd.pinned (.plain (OpenSpec.upto cutSpreadsSpec)) cutSpreadsUptoCard
end Rows
end Go.Proofs.YtfgockiecmfdhaaDoor
