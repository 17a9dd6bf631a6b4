/- The walks of the references' Flaws, truth and Among. Conditions: none. -/
import Derived.Test.YtojeggeimnenbaaDoorRefFlaw
import Derived.Test.YtojeggeimnenbaaDoorRefAt
import Derived.Test.YtojeggeimnenbaaDoorHas
import Derived.Test.YtojeggeimnenbaaDoorGround
import Derived.Deep.RegionLaw
set_option linter.unusedSimpArgs false
set_option linter.unusedVariables false
namespace Go.Proofs.YtojeggeimnenbaaDoor
open Go Go.RowKit Go.Proofs.YtojeggeimnenbaaDoor.P

set_option maxHeartbeats 400000 in
theorem truth_any (b : Bool) (w : World) : Calls Tryd.prog 74 #[.bool b] w fun e w' => e = .returned (.int .i64 (if b then 1 else 0)) ∧ w = w' := by
  cases b
  · go_enter Tryd.func74, Tryd.ntmps74
    go_wp2
    go_ret
    exact ⟨rfl, rfl⟩
  · go_enter Tryd.func74, Tryd.ntmps74
    go_wp2
    go_ret
    exact ⟨rfl, rfl⟩

theorem isin_at' {a b : Arr} {k : Nat} {x : Int} (h : a.da[k]? = some x) : (isin a b).da[k]? = some (if hasB b a.ch x then 1 else 0) := by
  unfold isin
  rw [List.getElem?_map, h]
  rfl

end Go.Proofs.YtojeggeimnenbaaDoor
