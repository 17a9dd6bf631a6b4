/- The walk of law3's 'list': two lists, both without an error. Conditions: none. -/
import Derived.Test.YtfaojciballhnaaAlike
import Derived.Test.YtfaojciballhnaaList
set_option linter.unusedSimpArgs false
set_option linter.unusedVariables false
namespace Go.Proofs.Ytfaojciballhnaa
open Go Go.RowKit Go.Proofs.Ytfaojciballhnaa.P

set_option maxHeartbeats 400000 in
theorem list_nil (va vb : Value) (xs ys : List Int) (w : World) (ha : IsInts w va xs) (hb : IsInts w vb ys) :
    Calls Try.prog 15 #[va, .nilIface, vb, .nilIface] w (TellsB (xs = ys) w) := by
  obtain ⟨A, ca, rfl, a1, a2, a3, -, H0⟩ := ha.open_
  obtain ⟨B, cb, rfl, b1, b2, b3, -, H1⟩ := hb.open_
  clear ha hb
  go_enter Try.func15, Try.ntmps15
  go_wp2_with fail
  refine (ints_any _ _ xs ys _ H0 H1).mono ?_
  rintro e w1 ⟨r, rfl, hr, hb1⟩
  have Hr := Lib.hid hr
  clear hr
  cases r
  · go_wp2
    go_ret
    exact tells_no rfl (by simpa using Hr.out) hb1
  · go_wp2
    go_ret
    exact tells_yes rfl (by simpa using Hr.out) hb1

end Go.Proofs.Ytfaojciballhnaa
