/- The laws' 'ints', where both tell the same. Conditions: none. -/
import Derived.Test.YtfaojciballhnaaDoorAsErr
import Derived.Test.YtfaojciballhnaaDoorAlike
set_option linter.unusedSimpArgs false
set_option linter.unusedVariables false
namespace Go.Proofs.YtfaojciballhnaaDoor
open Go Go.RowKit Go.Proofs.YtfaojciballhnaaDoor.P
theorem ints_same (k : Int) (vg vw : Value) (xs : List Int) (w : World) (hg : Laid0 w) (h1 : IsInts w vg xs) (h2 : IsInts w vw xs) :
    Calls Tryd.prog 7 #[vg, errV k, vw, .int .i64 k] w fun e w' => e = .returned (.bool true) ∧ Below w.heap.size w w' := by
  go_enter Tryd.func7, Tryd.ntmps7
  go_wp2_with fail
  refine (error_any k k _ hg).mono ?_
  rintro e w1 ⟨r, rfl, hr, hb1⟩
  obtain rfl : r = true := hr.2 rfl
  clear hr
  go_wp2_with fail
  refine (ints_any _ _ xs xs _ (h1.mono hb1) (h2.mono hb1)).mono ?_
  rintro e w2 ⟨r, rfl, hr, hb2⟩
  obtain rfl : r = true := hr.2 rfl
  have hbw2 := hb1.trans (hb2.mono hb1.size)
  clear hr hb1 hb2
  go_wp2_with fail
  go_ret
  exact ⟨rfl, hbw2⟩
end Go.Proofs.YtfaojciballhnaaDoor
