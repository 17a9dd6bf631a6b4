/- The walk of the laws' alike. Conditions: none. -/
import Derived.Test.YtfaojciballhnaaBase
set_option linter.unusedSimpArgs false
set_option linter.unusedVariables false
namespace Go.Proofs.Ytfaojciballhnaa
open Go Go.RowKit Go.Proofs.Ytfaojciballhnaa.P

theorem ok_vec {xs : List Int} (h : xs.length ≤ 4096) : Ok ⟨false, [(xs.length : Int)], xs⟩ [xs.length] :=
  ⟨rfl, ⟨by simp, by simpa using h, by simpa [prod] using h⟩, by simp [prod], by simp⟩

/-- A law answers true and leaves what was there. -/
def Says (w : World) (e : Ending) (w' : World) : Prop := e = .returned (.bool true) ∧ Below w.heap.size w w'

set_option maxHeartbeats 400000 in
theorem alike_nil (va vb : Value) (a b : Arr) (w : World) (ha : IsArr w va a) (hb : IsArr w vb b) :
    Calls Try.prog 17 #[va, .nilIface, vb, .nilIface] w (TellsB (a = b) w) := by
  obtain ⟨A, ca, D, cd, rfl, hs, hd⟩ := ha.open_
  obtain ⟨B, cb, E, ce, rfl, hs', hd'⟩ := hb.open_
  go_enter Try.func17, Try.ntmps17
  go_wp2_with fail
  refine (array_any _ _ a b _ (ha.mono (below_two _ _ _)) (hb.mono (below_two _ _ _))).mono ?_
  rintro e w1 ⟨r, rfl, hr, hb1⟩
  have Hr := Lib.hid hr
  have hbw := (below_two w _ _).trans (hb1.mono (below_two w _ _).size)
  clear hr
  cases r
  · go_wp2
    go_ret
    exact tells_no rfl (by simpa using Hr.out) hbw
  · go_wp2
    go_ret
    exact tells_yes rfl (by simpa using Hr.out) hbw

end Go.Proofs.Ytfaojciballhnaa
