/-
  DERIVED. GIVEN WITH THE SEED: THE CARDS: each row of YtajcjipabfknhaaDoorRows.lean that lists a variable, with what it lists TIED to the program's text (the seventh form; the later family's looks); each row that meets fmt, with fmt's text TOLD by the authors' own Lean function (tested against real Go, not proved from fmt's source: count such statements apart). THE CARD IS WHAT COUNTS. Prove the row's statement (the work); the ties are given (YtajcjipabfknhaaDoorTie.lean); close each card by the builder's one call (the guide's Derived/Test/ToyasCard.lean, 'card_holds'). Laid BY PROGRAM, IN A SANDBOX (cutbox-door.mjs). By AI agents, Wed Nov 11 2026. No macro, syntax, notation, axiom, sorry.
-/
import Derived.Test.YtajcjipabfknhaaDoorRows
import GoSem.ClaimSeven
namespace Go.Proofs.YtajcjipabfknhaaDoor
namespace Rows

/-- THE TIED CARD OF 'ravelinlaw3.PermTurns'. -/
def permTurnsCard : Claim7 := { stood := { row := permTurnsRow, standIns := [], harness := (true, "4277f04116261ba5a205281c979721274b011f6e86fcd3eaf93b95b07aa555e7"), looks := true }, kinds := [], alts := [], laidByText := true, laidKinds := [.handle], laidTests := true, laidLooks := .later }
def PermTurnsCardSaid : Prop := Claim7.holds Tryd.pinned (.plain (OpenSpec.ofChange permTurnsSpec)) permTurnsCard

/-- THE TIED CARD OF 'ravelinlaw3.PermPowers'. -/
def permPowersCard : Claim7 := { stood := { row := permPowersRow, standIns := [], harness := (true, "4277f04116261ba5a205281c979721274b011f6e86fcd3eaf93b95b07aa555e7"), looks := true }, kinds := [], alts := [], laidByText := true, laidKinds := [.handle], laidTests := true, laidLooks := .later }
def PermPowersCardSaid : Prop := Claim7.holds Tryd.pinned (.plain (OpenSpec.ofChange permPowersSpec)) permPowersCard

/-- THE TIED CARD OF 'ravelinlaw3.PermCycles'. -/
def permCyclesCard : Claim7 := { stood := { row := permCyclesRow, standIns := [], harness := (true, "4277f04116261ba5a205281c979721274b011f6e86fcd3eaf93b95b07aa555e7"), looks := true }, kinds := [], alts := [], laidByText := true, laidKinds := [.handle], laidTests := true, laidLooks := .later }
def PermCyclesCardSaid : Prop := Claim7.holds Tryd.pinned (.plain (OpenSpec.ofChange permCyclesSpec)) permCyclesCard

/-- THE TIED CARD OF 'ravelinlaw3.RadixValues'. -/
def radixValuesCard : Claim7 := { stood := { row := radixValuesRow, standIns := [], harness := (true, "4277f04116261ba5a205281c979721274b011f6e86fcd3eaf93b95b07aa555e7"), looks := true }, kinds := [], alts := [], laidByText := true, laidKinds := [.handle], laidTests := true, laidLooks := .later }
def RadixValuesCardSaid : Prop := Claim7.holds Tryd.pinned (.plain (OpenSpec.ofChange radixValuesSpec)) radixValuesCard

/-- THE TIED CARD OF 'ravelinlaw3.PermRanks'. -/
def permRanksCard : Claim7 := { stood := { row := permRanksRow, standIns := [], harness := (true, "4277f04116261ba5a205281c979721274b011f6e86fcd3eaf93b95b07aa555e7"), looks := true }, kinds := [], alts := [], laidByText := true, laidKinds := [.handle], laidTests := true, laidLooks := .later }
def PermRanksCardSaid : Prop := Claim7.holds Tryd.pinned (.plain (OpenSpec.ofChange permRanksSpec)) permRanksCard

/-- THE SECOND FORM's CARD OF 'ravelinlaw3.PermTurns'. -/
def permTurnsUptoCard : Claim7 := { stood := { row := permTurnsUptoRow, standIns := [], harness := (true, "4277f04116261ba5a205281c979721274b011f6e86fcd3eaf93b95b07aa555e7"), looks := true }, kinds := [], alts := [], laidByText := true, laidKinds := [.handle], laidTests := true, laidLooks := .later }
def PermTurnsUptoCardSaid : Prop := Claim7.holds Tryd.pinned (.plain (OpenSpec.upto permTurnsSpec)) permTurnsUptoCard

/-- THE SECOND FORM's CARD OF 'ravelinlaw3.PermPowers'. -/
def permPowersUptoCard : Claim7 := { stood := { row := permPowersUptoRow, standIns := [], harness := (true, "4277f04116261ba5a205281c979721274b011f6e86fcd3eaf93b95b07aa555e7"), looks := true }, kinds := [], alts := [], laidByText := true, laidKinds := [.handle], laidTests := true, laidLooks := .later }
def PermPowersUptoCardSaid : Prop := Claim7.holds Tryd.pinned (.plain (OpenSpec.upto permPowersSpec)) permPowersUptoCard

/-- THE SECOND FORM's CARD OF 'ravelinlaw3.PermCycles'. -/
def permCyclesUptoCard : Claim7 := { stood := { row := permCyclesUptoRow, standIns := [], harness := (true, "4277f04116261ba5a205281c979721274b011f6e86fcd3eaf93b95b07aa555e7"), looks := true }, kinds := [], alts := [], laidByText := true, laidKinds := [.handle], laidTests := true, laidLooks := .later }
def PermCyclesUptoCardSaid : Prop := Claim7.holds Tryd.pinned (.plain (OpenSpec.upto permCyclesSpec)) permCyclesUptoCard

/-- THE SECOND FORM's CARD OF 'ravelinlaw3.RadixValues'. -/
def radixValuesUptoCard : Claim7 := { stood := { row := radixValuesUptoRow, standIns := [], harness := (true, "4277f04116261ba5a205281c979721274b011f6e86fcd3eaf93b95b07aa555e7"), looks := true }, kinds := [], alts := [], laidByText := true, laidKinds := [.handle], laidTests := true, laidLooks := .later }
def RadixValuesUptoCardSaid : Prop := Claim7.holds Tryd.pinned (.plain (OpenSpec.upto radixValuesSpec)) radixValuesUptoCard

/-- THE SECOND FORM's CARD OF 'ravelinlaw3.PermRanks'. -/
def permRanksUptoCard : Claim7 := { stood := { row := permRanksUptoRow, standIns := [], harness := (true, "4277f04116261ba5a205281c979721274b011f6e86fcd3eaf93b95b07aa555e7"), looks := true }, kinds := [], alts := [], laidByText := true, laidKinds := [.handle], laidTests := true, laidLooks := .later }
def PermRanksUptoCardSaid : Prop := Claim7.holds Tryd.pinned (.plain (OpenSpec.upto permRanksSpec)) permRanksUptoCard
end Rows
end Go.Proofs.YtajcjipabfknhaaDoor
