/- The walk of cut.Take. Conditions: none. -/
import Derived.Test.YtlkeipgpckkhbaaDoorWindow
import Derived.Test.YtlkeipgpckkhbaaDoorPair
import Derived.Test.YtlkeipgpckkhbaaDoorStore
import Derived.Test.YtlkeipgpckkhbaaDoorCutLaw
namespace Go.Proofs.YtlkeipgpckkhbaaDoor
open Go Go.RowKit Go.Proofs.YtlkeipgpckkhbaaDoor.P

theorem takeSh_at {n : List Int} {k : Nat} {m : Int} (h : n[k]? = some m) : (ints (takeSh n))[k]? = some (max m (-m)) := by
  unfold ints takeSh
  rw [List.map_map, List.getElem?_map, h]
  simp only [Option.map_some, Function.comp, Option.some.injEq]
  omega
theorem takeFr_at {n : List Int} {t : List Nat} {k : Nat} {m : Int} (h : n[k]? = some m) (hk : k < t.length) : (takeFr n t)[k]? = some (if m < 0 then ((t.getD k 0 : Nat) : Int) + m else 0) := by
  unfold takeFr
  rw [List.getElem?_zipWith, h, List.getElem?_eq_getElem hk, getD_lt hk]

end Go.Proofs.YtlkeipgpckkhbaaDoor
