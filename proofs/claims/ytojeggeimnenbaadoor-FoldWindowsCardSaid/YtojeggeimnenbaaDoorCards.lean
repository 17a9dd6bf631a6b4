/-
  DERIVED. GIVEN WITH THE SEED: THE CARDS: each row of YtojeggeimnenbaaDoorRows.lean that lists a variable, with what it lists TIED to the program's text (the seventh form; the later family's looks); each row that meets fmt, with fmt's text TOLD by the authors' own Lean function (tested against real Go, not proved from fmt's source: count such statements apart). THE CARD IS WHAT COUNTS. Prove the row's statement (the work); the ties are given (YtojeggeimnenbaaDoorTie.lean); close each card by the builder's one call (the guide's Derived/Test/ToyasCard.lean, 'card_holds'). Laid BY PROGRAM, IN A SANDBOX (cutbox-door.mjs). By AI agents, Wed Nov 11 2026. No macro, syntax, notation, axiom, sorry.
-/
import Derived.Test.YtojeggeimnenbaaDoorRows
import GoSem.ClaimSeven
namespace Go.Proofs.YtojeggeimnenbaaDoor
namespace Rows

/-- THE TIED CARD OF 'ravelinlaw3.FoldReduces'. -/
def foldReducesCard : Claim7 := { stood := { row := foldReducesRow, standIns := [], harness := (true, "6fd956923eed079408f3bf44ca9644ee4b8ffb52e193354d9271c87f90bcbf1c"), looks := true }, kinds := [], alts := [], laidByText := true, laidKinds := [.handle], laidTests := true, laidLooks := .later }
def FoldReducesCardSaid : Prop := Claim7.holds Tryd.pinned (.plain (OpenSpec.ofChange foldReducesSpec)) foldReducesCard

/-- THE TIED CARD OF 'ravelinlaw3.FoldScans'. -/
def foldScansCard : Claim7 := { stood := { row := foldScansRow, standIns := [], harness := (true, "6fd956923eed079408f3bf44ca9644ee4b8ffb52e193354d9271c87f90bcbf1c"), looks := true }, kinds := [], alts := [], laidByText := true, laidKinds := [.handle], laidTests := true, laidLooks := .later }
def FoldScansCardSaid : Prop := Claim7.holds Tryd.pinned (.plain (OpenSpec.ofChange foldScansSpec)) foldScansCard

/-- THE TIED CARD OF 'ravelinlaw3.FoldWindows'. -/
def foldWindowsCard : Claim7 := { stood := { row := foldWindowsRow, standIns := [], harness := (true, "6fd956923eed079408f3bf44ca9644ee4b8ffb52e193354d9271c87f90bcbf1c"), looks := true }, kinds := [], alts := [], laidByText := true, laidKinds := [.handle], laidTests := true, laidLooks := .later }
def FoldWindowsCardSaid : Prop := Claim7.holds Tryd.pinned (.plain (OpenSpec.ofChange foldWindowsSpec)) foldWindowsCard

/-- THE TIED CARD OF 'ravelinlaw3.FoldAxes'. -/
def foldAxesCard : Claim7 := { stood := { row := foldAxesRow, standIns := [], harness := (true, "6fd956923eed079408f3bf44ca9644ee4b8ffb52e193354d9271c87f90bcbf1c"), looks := true }, kinds := [], alts := [], laidByText := true, laidKinds := [.handle], laidTests := true, laidLooks := .later }
def FoldAxesCardSaid : Prop := Claim7.holds Tryd.pinned (.plain (OpenSpec.ofChange foldAxesSpec)) foldAxesCard

/-- THE TIED CARD OF 'ravelinlaw3.FoldSums'. -/
def foldSumsCard : Claim7 := { stood := { row := foldSumsRow, standIns := [], harness := (true, "6fd956923eed079408f3bf44ca9644ee4b8ffb52e193354d9271c87f90bcbf1c"), looks := true }, kinds := [], alts := [], laidByText := true, laidKinds := [.handle], laidTests := true, laidLooks := .later }
def FoldSumsCardSaid : Prop := Claim7.holds Tryd.pinned (.plain (OpenSpec.ofChange foldSumsSpec)) foldSumsCard

/-- THE TIED CARD OF 'ravelinlaw3.FoldJoins'. -/
def foldJoinsCard : Claim7 := { stood := { row := foldJoinsRow, standIns := [], harness := (true, "6fd956923eed079408f3bf44ca9644ee4b8ffb52e193354d9271c87f90bcbf1c"), looks := true }, kinds := [], alts := [], laidByText := true, laidKinds := [.handle], laidTests := true, laidLooks := .later }
def FoldJoinsCardSaid : Prop := Claim7.holds Tryd.pinned (.plain (OpenSpec.ofChange foldJoinsSpec)) foldJoinsCard

/-- THE SECOND FORM's CARD OF 'ravelinlaw3.FoldReduces'. -/
def foldReducesUptoCard : Claim7 := { stood := { row := foldReducesUptoRow, standIns := [], harness := (true, "6fd956923eed079408f3bf44ca9644ee4b8ffb52e193354d9271c87f90bcbf1c"), looks := true }, kinds := [], alts := [], laidByText := true, laidKinds := [.handle], laidTests := true, laidLooks := .later }
def FoldReducesUptoCardSaid : Prop := Claim7.holds Tryd.pinned (.plain (OpenSpec.upto foldReducesSpec)) foldReducesUptoCard

/-- THE SECOND FORM's CARD OF 'ravelinlaw3.FoldScans'. -/
def foldScansUptoCard : Claim7 := { stood := { row := foldScansUptoRow, standIns := [], harness := (true, "6fd956923eed079408f3bf44ca9644ee4b8ffb52e193354d9271c87f90bcbf1c"), looks := true }, kinds := [], alts := [], laidByText := true, laidKinds := [.handle], laidTests := true, laidLooks := .later }
def FoldScansUptoCardSaid : Prop := Claim7.holds Tryd.pinned (.plain (OpenSpec.upto foldScansSpec)) foldScansUptoCard

/-- THE SECOND FORM's CARD OF 'ravelinlaw3.FoldWindows'. -/
def foldWindowsUptoCard : Claim7 := { stood := { row := foldWindowsUptoRow, standIns := [], harness := (true, "6fd956923eed079408f3bf44ca9644ee4b8ffb52e193354d9271c87f90bcbf1c"), looks := true }, kinds := [], alts := [], laidByText := true, laidKinds := [.handle], laidTests := true, laidLooks := .later }
def FoldWindowsUptoCardSaid : Prop := Claim7.holds Tryd.pinned (.plain (OpenSpec.upto foldWindowsSpec)) foldWindowsUptoCard

/-- THE SECOND FORM's CARD OF 'ravelinlaw3.FoldAxes'. -/
def foldAxesUptoCard : Claim7 := { stood := { row := foldAxesUptoRow, standIns := [], harness := (true, "6fd956923eed079408f3bf44ca9644ee4b8ffb52e193354d9271c87f90bcbf1c"), looks := true }, kinds := [], alts := [], laidByText := true, laidKinds := [.handle], laidTests := true, laidLooks := .later }
def FoldAxesUptoCardSaid : Prop := Claim7.holds Tryd.pinned (.plain (OpenSpec.upto foldAxesSpec)) foldAxesUptoCard

/-- THE SECOND FORM's CARD OF 'ravelinlaw3.FoldSums'. -/
def foldSumsUptoCard : Claim7 := { stood := { row := foldSumsUptoRow, standIns := [], harness := (true, "6fd956923eed079408f3bf44ca9644ee4b8ffb52e193354d9271c87f90bcbf1c"), looks := true }, kinds := [], alts := [], laidByText := true, laidKinds := [.handle], laidTests := true, laidLooks := .later }
def FoldSumsUptoCardSaid : Prop := Claim7.holds Tryd.pinned (.plain (OpenSpec.upto foldSumsSpec)) foldSumsUptoCard

/-- THE SECOND FORM's CARD OF 'ravelinlaw3.FoldJoins'. -/
def foldJoinsUptoCard : Claim7 := { stood := { row := foldJoinsUptoRow, standIns := [], harness := (true, "6fd956923eed079408f3bf44ca9644ee4b8ffb52e193354d9271c87f90bcbf1c"), looks := true }, kinds := [], alts := [], laidByText := true, laidKinds := [.handle], laidTests := true, laidLooks := .later }
def FoldJoinsUptoCardSaid : Prop := Claim7.holds Tryd.pinned (.plain (OpenSpec.upto foldJoinsSpec)) foldJoinsUptoCard
end Rows
end Go.Proofs.YtojeggeimnenbaaDoor
