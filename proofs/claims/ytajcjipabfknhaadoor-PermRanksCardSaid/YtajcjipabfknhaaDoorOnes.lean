/- The walk of bits.OnesCount, of numbers below 4096. Conditions: none. -/
import Derived.Test.YtajcjipabfknhaaDoorMem
import Derived.Laws.BitsAllLaws
import Derived.Test.YtajcjipabfknhaaDoorProg
import Derived.Deep.QuietTactic
import Derived.BigQuiet
set_option linter.unusedSimpArgs false
set_option linter.unusedVariables false
namespace Go.Proofs.YtajcjipabfknhaaDoor
open Go Go.RowKit Go.Proofs.YtajcjipabfknhaaDoor.P

/-- How many bits. -/
def ones (v : Nat) : Nat := (List.range 12).countP fun m => v.testBit m

set_option maxRecDepth 100000 in
set_option maxHeartbeats 1000000 in
theorem ones64_ok (v : Nat) (w : World) (hv : v < 4096) :
    Calls Tryd.prog 46 #[.int .u64 v] w fun e w' => e = .returned (.int .i64 (ones v)) ∧ w' = w := by
  go_enter Tryd.func46, Tryd.ntmps46
  go_wp2
  go_ret
  refine ⟨ret_int ?_, rfl⟩
  clear w
  have h : v = 64 * (v / 64) + v % 64 := by omega
  have ha : v / 64 < 64 := by omega
  have hb : v % 64 < 64 := by omega
  rw [h]
  generalize v / 64 = a at ha
  generalize v % 64 = b at hb
  clear h hv v
  revert b
  revert a
  decide +kernel

set_option maxHeartbeats 400000 in
theorem ones_ok (v : Nat) (w : World) (hv : v < 4096) :
    Calls Tryd.prog 38 #[.int .u64 v] w fun e w' => e = .returned (.int .i64 (ones v)) ∧ w' = w := by
  go_enter Tryd.func38, Tryd.ntmps38
  go_wp2_with fail
  refine (ones64_ok v _ hv).mono ?_
  rintro e w' ⟨rfl, rfl⟩
  go_wp2
  go_ret
  exact ⟨rfl, rfl⟩

end Go.Proofs.YtajcjipabfknhaaDoor
