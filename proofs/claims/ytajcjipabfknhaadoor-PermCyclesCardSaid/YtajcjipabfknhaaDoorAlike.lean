/- The walk of the laws' alike. Conditions: none. -/
import Derived.Test.YtajcjipabfknhaaDoorBase
set_option linter.unusedSimpArgs false
set_option linter.unusedVariables false
namespace Go.Proofs.YtajcjipabfknhaaDoor
open Go Go.RowKit Go.Proofs.YtajcjipabfknhaaDoor.P

theorem ok_vec {xs : List Int} (h : xs.length ≤ 4096) : Ok ⟨false, [(xs.length : Int)], xs⟩ [xs.length] :=
  ⟨rfl, ⟨by simp, by simpa using h, by simpa [prod] using h⟩, by simp [prod], by simp⟩

/-- A law answers true and leaves what was there. -/
def Says (w : World) (e : Ending) (w' : World) : Prop := e = .returned (.bool true) ∧ Below w.heap.size w w'

end Go.Proofs.YtajcjipabfknhaaDoor
