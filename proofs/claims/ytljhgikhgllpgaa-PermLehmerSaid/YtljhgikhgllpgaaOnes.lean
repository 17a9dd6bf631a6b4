/- The walk of bits.OnesCount, of numbers below 4096. Conditions: none. -/
import Derived.Test.YtljhgikhgllpgaaMem
import Derived.Laws.BitsAllLaws
import Derived.Test.YtljhgikhgllpgaaProg
import Derived.Deep.QuietTactic
import Derived.BigQuiet
namespace Go.Proofs.Ytljhgikhgllpgaa
open Go Go.RowKit Go.Proofs.Ytljhgikhgllpgaa.P

/-- How many bits. -/
def ones (v : Nat) : Nat := (List.range 12).countP fun m => v.testBit m

set_option maxRecDepth 100000 in
set_option maxHeartbeats 1000000 in
theorem ones64_ok (v : Nat) (w : World) (hv : v < 4096) :
    Calls Try.prog 85 #[.int .u64 v] w fun e w' => e = .returned (.int .i64 (ones v)) ∧ w' = w := by
  go_enter Try.func85, Try.ntmps85
  go_wp2
  go_ret
  refine ⟨ret_int ?_, rfl⟩
  clear w
  have h : v = 64 * (v / 64) + v % 64 := by omega
  have ha : v / 64 < 64 := by omega
  have hb : v % 64 < 64 := by omega
  rw [h]
  generalize v / 64 = a at ha
  generalize v % 64 = b at hb
  clear h hv v
  revert b
  revert a
  decide +kernel

set_option maxHeartbeats 400000 in
theorem ones_ok (v : Nat) (w : World) (hv : v < 4096) :
    Calls Try.prog 55 #[.int .u64 v] w fun e w' => e = .returned (.int .i64 (ones v)) ∧ w' = w := by
  go_enter Try.func55, Try.ntmps55
  go_wp2_with fail
  refine (ones64_ok v _ hv).mono ?_
  rintro e w' ⟨rfl, rfl⟩
  go_wp2
  go_ret
  exact ⟨rfl, rfl⟩

end Go.Proofs.Ytljhgikhgllpgaa
