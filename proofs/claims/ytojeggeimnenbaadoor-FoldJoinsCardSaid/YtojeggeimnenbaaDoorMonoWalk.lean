/- The law's own test whether it is the same whichever two come first. Conditions: none. -/
import Derived.Test.YtojeggeimnenbaaDoorMonoPlain
import Derived.Test.YtojeggeimnenbaaDoorAlike
import Derived.Test.YtojeggeimnenbaaDoorGround
set_option linter.unusedSimpArgs false
set_option linter.unusedVariables false
namespace Go.Proofs.YtojeggeimnenbaaDoor
open Go Go.RowKit Go.Proofs.YtojeggeimnenbaaDoor.P
theorem rev_wf {a : Arr} {k : Nat} (hw : Wf a.da) : Wf (rev k a).da := pull_wf (t := a.nsh) hw
theorem rot_wf {a : Arr} {k : Nat} {n : Int} (hw : Wf a.da) : Wf (rot n k a).da := pull_wf (t := a.nsh) hw
theorem rev_ch {a : Arr} {k : Nat} : (rev k a).ch = a.ch := rfl
theorem rot_ch {a : Arr} {k : Nat} {n : Int} : (rot n k a).ch = a.ch := rfl
set_option maxRecDepth 100000 in
set_option maxHeartbeats 4000000 in
theorem monoid_any (f : Int) (w : World) : Calls Tryd.prog 17 #[.int .i64 f] w (TellsB (Mono f) w) := by
  by_cases hm : Mono f
  · rcases hm with h | h | h | h | h | h
    all_goals
      subst h
      go_enter Tryd.func17, Tryd.ntmps17
      go_wp2_with fail
      go_ret
      exact tells_yes rfl (by decide) (Below.refl _ _)
  · have HM := Lib.hid hm
    have h1 : ¬ f = 1 := fun h => hm (.inl h)
    have h3 : ¬ f = 3 := fun h => hm (.inr (.inl h))
    have h6 : ¬ f = 6 := fun h => hm (.inr (.inr (.inl h)))
    have h7 : ¬ f = 7 := fun h => hm (.inr (.inr (.inr (.inl h))))
    have h14 : ¬ f = 14 := fun h => hm (.inr (.inr (.inr (.inr (.inl h)))))
    have h15 : ¬ f = 15 := fun h => hm (.inr (.inr (.inr (.inr (.inr h)))))
    clear hm
    go_enter Tryd.func17, Tryd.ntmps17
    go_wp2_with fail
    go_ret
    exact tells_no (by have h := HM.out; unfold Mono at h; simp; omega) HM.out (Below.refl _ _)
end Go.Proofs.YtojeggeimnenbaaDoor
