/- The walks of the functions that lay new lists: slices.Clone, Vector, vec, Joined. Conditions: none. -/
import Derived.Test.YtajcjipabfknhaaDoorOwn
import Derived.Test.YtajcjipabfknhaaDoorBase
import Derived.Deep.RegionHeld3
import Derived.Deep.RegionLaw
set_option linter.unusedSimpArgs false
set_option linter.unusedVariables false
namespace Go.Proofs.YtajcjipabfknhaaDoor
open Go Go.RowKit Go.Proofs.YtajcjipabfknhaaDoor.P

/-- A call tells a new list. -/
def Lists (xs : List Int) (w : World) (e : Ending) (w' : World) : Prop :=
  ∃ A c, e = .returned (.slice A xs.length c) ∧ Owns w' w.heap.size (.slice A xs.length c) xs.length xs ∧ Below w.heap.size w w'

theorem below_grown {w w1 w' : World} {v : Value} {n : Nat} {xs : List Int} (h : Below w.heap.size w w1) (ho : Owns w1 w.heap.size v n xs) (hg : w1.grownBy w' v.ownBlock) : Below w.heap.size w w' :=
  h.grown hg h.size fun _ hk => (ho.lt hk).1

theorem take_at {xs : List Int} {k : Nat} {x : Int} (h : xs[k]? = some x) : xs.take k ++ [x] = xs.take (k + 1) := by rw [List.take_add_one, h]; rfl

end Go.Proofs.YtajcjipabfknhaaDoor
