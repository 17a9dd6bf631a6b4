/-
  DERIVED. GIVEN WITH THE SEED: THE CARDS: each row of YtfaojciballhnaaDoorRows.lean that lists a variable, with what it lists TIED to the program's text (the seventh form; the later family's looks); each row that meets fmt, with fmt's text TOLD by the authors' own Lean function (tested against real Go, not proved from fmt's source: count such statements apart). THE CARD IS WHAT COUNTS. Prove the row's statement (the work); the ties are given (YtfaojciballhnaaDoorTie.lean); close each card by the builder's one call (the guide's Derived/Test/ToyasCard.lean, 'card_holds'). Laid BY PROGRAM, IN A SANDBOX (cutbox-door.mjs). By AI agents, Wed Nov 11 2026. No macro, syntax, notation, axiom, sorry.
-/
import Derived.Test.YtfaojciballhnaaDoorRows
import GoSem.ClaimSeven
namespace Go.Proofs.YtfaojciballhnaaDoor
namespace Rows

/-- THE TIED CARD OF 'ravelinlaw3.GradeUps'. -/
def gradeUpsCard : Claim7 := { stood := { row := gradeUpsRow, standIns := [], harness := (true, "59748a6ed3a20fb283b85113db883b6b7da5908baebe3fe7cf41ca176a09f86d"), looks := true }, kinds := [], alts := [], laidByText := true, laidKinds := [.handle], laidTests := true, laidLooks := .later }
def GradeUpsCardSaid : Prop := Claim7.holds Tryd.pinned (.plain (OpenSpec.ofChange gradeUpsSpec)) gradeUpsCard

/-- THE TIED CARD OF 'ravelinlaw3.GradeSorts'. -/
def gradeSortsCard : Claim7 := { stood := { row := gradeSortsRow, standIns := [], harness := (true, "59748a6ed3a20fb283b85113db883b6b7da5908baebe3fe7cf41ca176a09f86d"), looks := true }, kinds := [], alts := [], laidByText := true, laidKinds := [.handle], laidTests := true, laidLooks := .later }
def GradeSortsCardSaid : Prop := Claim7.holds Tryd.pinned (.plain (OpenSpec.ofChange gradeSortsSpec)) gradeSortsCard

/-- THE SECOND FORM's CARD OF 'ravelinlaw3.GradeUps'. -/
def gradeUpsUptoCard : Claim7 := { stood := { row := gradeUpsUptoRow, standIns := [], harness := (true, "59748a6ed3a20fb283b85113db883b6b7da5908baebe3fe7cf41ca176a09f86d"), looks := true }, kinds := [], alts := [], laidByText := true, laidKinds := [.handle], laidTests := true, laidLooks := .later }
def GradeUpsUptoCardSaid : Prop := Claim7.holds Tryd.pinned (.plain (OpenSpec.upto gradeUpsSpec)) gradeUpsUptoCard

/-- THE SECOND FORM's CARD OF 'ravelinlaw3.GradeSorts'. -/
def gradeSortsUptoCard : Claim7 := { stood := { row := gradeSortsUptoRow, standIns := [], harness := (true, "59748a6ed3a20fb283b85113db883b6b7da5908baebe3fe7cf41ca176a09f86d"), looks := true }, kinds := [], alts := [], laidByText := true, laidKinds := [.handle], laidTests := true, laidLooks := .later }
def GradeSortsUptoCardSaid : Prop := Claim7.holds Tryd.pinned (.plain (OpenSpec.upto gradeSortsSpec)) gradeSortsUptoCard
end Rows
end Go.Proofs.YtfaojciballhnaaDoor
