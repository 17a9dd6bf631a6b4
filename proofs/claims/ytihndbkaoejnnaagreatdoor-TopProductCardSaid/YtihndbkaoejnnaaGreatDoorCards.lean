/-
  DERIVED. GIVEN WITH THE SEED: THE CARDS: each row of YtihndbkaoejnnaaGreatDoorRows.lean that lists a variable, with what it lists TIED to the program's text (the seventh form; the later family's looks); each row that meets fmt, with fmt's text TOLD by the authors' own Lean function (tested against real Go, not proved from fmt's source: count such statements apart). THE CARD IS WHAT COUNTS. Prove the row's statement (the work); the ties are given (YtihndbkaoejnnaaGreatDoorTie.lean); close each card by the builder's one call (the guide's Derived/Test/ToyasCard.lean, 'card_holds'). Laid BY PROGRAM, IN A SANDBOX (cutbox-door.mjs). By AI agents, Wed Nov 11 2026. No macro, syntax, notation, axiom, sorry.
-/
import Derived.Test.YtihndbkaoejnnaaGreatDoorRows
import GoSem.ClaimSeven
namespace Go.Proofs.YtihndbkaoejnnaaGreatDoor
namespace Rows

/-- THE TIED CARD OF 'ravelintop.TopProduct'. -/
def topProductCard : Claim7 := { stood := { row := topProductRow, standIns := [], harness := (true, "906d92b61238d4d88c83bc3a4fafda22b64b1bd57833f7fd8828252c818abdc1"), looks := true }, kinds := [], alts := [], laidByText := true, laidKinds := [.data, .data, .data, .data, .sentinel, .sentinel, .pinned], laidTests := true, laidLooks := .later }
def TopProductCardSaid : Prop := Claim7.holds Tryz.pinned (.plain (OpenSpec.ofChange topProductSpec)) topProductCard

/-- THE TIED CARD OF 'ravelintop.TopOnce'. -/
def topOnceCard : Claim7 := { stood := { row := topOnceRow, standIns := [], harness := (true, "906d92b61238d4d88c83bc3a4fafda22b64b1bd57833f7fd8828252c818abdc1"), looks := true }, kinds := [], alts := [], laidByText := true, laidKinds := [.data, .data, .data, .data, .sentinel, .sentinel, .pinned], laidTests := true, laidLooks := .later }
def TopOnceCardSaid : Prop := Claim7.holds Tryz.pinned (.plain (OpenSpec.ofChange topOnceSpec)) topOnceCard

/-- THE TIED CARD OF 'ravelintop.TopTurned'. -/
def topTurnedCard : Claim7 := { stood := { row := topTurnedRow, standIns := [], harness := (true, "906d92b61238d4d88c83bc3a4fafda22b64b1bd57833f7fd8828252c818abdc1"), looks := true }, kinds := [], alts := [], laidByText := true, laidKinds := [.data, .data, .data, .data, .sentinel, .sentinel, .pinned], laidTests := true, laidLooks := .later }
def TopTurnedCardSaid : Prop := Claim7.holds Tryz.pinned (.plain (OpenSpec.ofChange topTurnedSpec)) topTurnedCard

/-- THE TIED CARD OF 'ravelintop.TopSums'. -/
def topSumsCard : Claim7 := { stood := { row := topSumsRow, standIns := [], harness := (true, "906d92b61238d4d88c83bc3a4fafda22b64b1bd57833f7fd8828252c818abdc1"), looks := true }, kinds := [], alts := [], laidByText := true, laidKinds := [.data, .data, .data, .data, .sentinel, .sentinel, .pinned], laidTests := true, laidLooks := .later }
def TopSumsCardSaid : Prop := Claim7.holds Tryz.pinned (.plain (OpenSpec.ofChange topSumsSpec)) topSumsCard

/-- THE TIED CARD OF 'ravelintop.TopSorts'. -/
def topSortsCard : Claim7 := { stood := { row := topSortsRow, standIns := [], harness := (true, "906d92b61238d4d88c83bc3a4fafda22b64b1bd57833f7fd8828252c818abdc1"), looks := true }, kinds := [], alts := [], laidByText := true, laidKinds := [.data, .data, .data, .data, .sentinel, .sentinel, .pinned], laidTests := true, laidLooks := .later }
def TopSortsCardSaid : Prop := Claim7.holds Tryz.pinned (.plain (OpenSpec.ofChange topSortsSpec)) topSortsCard

/-- THE SECOND FORM's CARD OF 'ravelintop.TopProduct'. -/
def topProductUptoCard : Claim7 := { stood := { row := topProductUptoRow, standIns := [], harness := (true, "906d92b61238d4d88c83bc3a4fafda22b64b1bd57833f7fd8828252c818abdc1"), looks := true }, kinds := [], alts := [], laidByText := true, laidKinds := [.data, .data, .data, .data, .sentinel, .sentinel, .pinned], laidTests := true, laidLooks := .later }
def TopProductUptoCardSaid : Prop := Claim7.holds Tryz.pinned (.plain (OpenSpec.upto topProductSpec)) topProductUptoCard

/-- THE SECOND FORM's CARD OF 'ravelintop.TopOnce'. -/
def topOnceUptoCard : Claim7 := { stood := { row := topOnceUptoRow, standIns := [], harness := (true, "906d92b61238d4d88c83bc3a4fafda22b64b1bd57833f7fd8828252c818abdc1"), looks := true }, kinds := [], alts := [], laidByText := true, laidKinds := [.data, .data, .data, .data, .sentinel, .sentinel, .pinned], laidTests := true, laidLooks := .later }
def TopOnceUptoCardSaid : Prop := Claim7.holds Tryz.pinned (.plain (OpenSpec.upto topOnceSpec)) topOnceUptoCard

/-- THE SECOND FORM's CARD OF 'ravelintop.TopTurned'. -/
def topTurnedUptoCard : Claim7 := { stood := { row := topTurnedUptoRow, standIns := [], harness := (true, "906d92b61238d4d88c83bc3a4fafda22b64b1bd57833f7fd8828252c818abdc1"), looks := true }, kinds := [], alts := [], laidByText := true, laidKinds := [.data, .data, .data, .data, .sentinel, .sentinel, .pinned], laidTests := true, laidLooks := .later }
def TopTurnedUptoCardSaid : Prop := Claim7.holds Tryz.pinned (.plain (OpenSpec.upto topTurnedSpec)) topTurnedUptoCard

/-- THE SECOND FORM's CARD OF 'ravelintop.TopSums'. -/
def topSumsUptoCard : Claim7 := { stood := { row := topSumsUptoRow, standIns := [], harness := (true, "906d92b61238d4d88c83bc3a4fafda22b64b1bd57833f7fd8828252c818abdc1"), looks := true }, kinds := [], alts := [], laidByText := true, laidKinds := [.data, .data, .data, .data, .sentinel, .sentinel, .pinned], laidTests := true, laidLooks := .later }
def TopSumsUptoCardSaid : Prop := Claim7.holds Tryz.pinned (.plain (OpenSpec.upto topSumsSpec)) topSumsUptoCard

/-- THE SECOND FORM's CARD OF 'ravelintop.TopSorts'. -/
def topSortsUptoCard : Claim7 := { stood := { row := topSortsUptoRow, standIns := [], harness := (true, "906d92b61238d4d88c83bc3a4fafda22b64b1bd57833f7fd8828252c818abdc1"), looks := true }, kinds := [], alts := [], laidByText := true, laidKinds := [.data, .data, .data, .data, .sentinel, .sentinel, .pinned], laidTests := true, laidLooks := .later }
def TopSortsUptoCardSaid : Prop := Claim7.holds Tryz.pinned (.plain (OpenSpec.upto topSortsSpec)) topSortsUptoCard
end Rows
end Go.Proofs.YtihndbkaoejnnaaGreatDoor
