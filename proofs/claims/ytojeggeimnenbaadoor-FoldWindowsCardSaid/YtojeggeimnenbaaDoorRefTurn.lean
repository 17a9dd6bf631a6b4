/- The walks of the references' Axis and Reversed. Conditions: none. -/
import Derived.Test.YtojeggeimnenbaaDoorRefFlaw
import Derived.Test.YtojeggeimnenbaaDoorRefAt
import Derived.Test.YtojeggeimnenbaaDoorGround
import Derived.Test.YtojeggeimnenbaaDoorHelp
import Derived.RegionTactic
import Derived.BigQuiet
import Derived.Deep.RegionLaw
set_option linter.unusedSimpArgs false
set_option linter.unusedVariables false
namespace Go.Proofs.YtojeggeimnenbaaDoor.P
/-- A cell of an array pulled along an axis, by its place. -/
theorem pull_at {a : Arr} {t : List Nat} (h : Ok a t) {kk : Nat} {f : Nat → Nat} {i : Nat} (hi : i < prod t) : (pull kk f a).da[i]? = some (a.da.getD (place t ((coords t i).set kk (f ((coords t i).getD kk 0)))) 0) := by
  unfold pull tab
  rw [h.nsh_eq]
  simp only [List.getElem?_map, List.getElem?_range hi, Option.map_some]
  unfold Arr.cell
  rw [h.nsh_eq]
end Go.Proofs.YtojeggeimnenbaaDoor.P
namespace Go.Proofs.YtojeggeimnenbaaDoor
open Go Go.RowKit Go.Proofs.YtojeggeimnenbaaDoor.P

set_option maxHeartbeats 1000000 in
theorem axis_any {v : Value} {a : Arr} {w : World} {axis : Int} (ha : IsArr w v a) :
    Calls Tryd.prog 50 #[.int .i64 axis, v] w fun e w' => e = .returned (.int .i64 (axErr axis a)) ∧ Below w.heap.size w w' := by
  obtain ⟨A, ca, D, cd, rfl, hs, hd⟩ := ha.open_
  have HA := Lib.hid ha
  clear ha hs hd
  go_enter Tryd.func50, Tryd.ntmps50
  have z1 := Box.new w 25 #[.bool a.ch, .slice A a.sh.length ca, .slice D a.da.length cd]
  have hb0 := below_one w (.cells #[.bool a.ch, .slice A a.sh.length ca, .slice D a.da.length cd] 25)
  obtain ⟨t0, t1, t2⟩ := z1.three
  go_wp2_with fail
  refine (flaw_any (HA.out.mono hb0)).mono ?_
  rintro e w1 ⟨rfl, hb1⟩
  have b1 := z1.below hb1
  have hbw := hb0.trans (hb1.mono hb0.size)
  clear z1 hb0 hb1 t0 t1 t2
  obtain ⟨t0, t1, t2⟩ := b1.three
  by_cases c : arrErr a = 0
  · have HE0 := Lib.hid (show axErr axis a = if axis < 0 ∨ (a.sh.length : Int) ≤ axis then 5 else 0 by unfold axErr; rw [if_neg (fun h => h c)])
    rw [c]
    clear c
    rcases Int.lt_or_le axis 0 with h0 | h0
    · have HE := Lib.hid (show axErr axis a = 5 by rw [HE0.out, if_pos (.inl h0)])
      have c1 : decide (axis < 0) = true := by simpa using h0
      go_wp2_with fail
      go_ret
      exact ⟨ret_int HE.out.symm, hbw⟩
    · have c1 : decide (axis < 0) = false := by simpa using h0
      rcases Int.lt_or_le axis a.sh.length with h1 | h1
      · have HE := Lib.hid (show axErr axis a = 0 by rw [HE0.out, if_neg (by omega)])
        have c2 : decide ((a.sh.length : Int) ≤ axis) = false := by simpa using h1
        go_wp2_with fail
        go_ret
        exact ⟨ret_int HE.out.symm, hbw⟩
      · have HE := Lib.hid (show axErr axis a = 5 by rw [HE0.out, if_pos (.inr h1)])
        have c2 : decide ((a.sh.length : Int) ≤ axis) = true := by simpa using h1
        go_wp2_with fail
        go_ret
        exact ⟨ret_int HE.out.symm, hbw⟩
  · have HE := Lib.hid (show axErr axis a = arrErr a by unfold axErr; rw [if_pos c])
    have e1 : (arrErr a == 0) = false := by simp [c]
    clear c
    go_wp2_with fail
    go_ret
    exact ⟨ret_int HE.out.symm, hbw⟩

end Go.Proofs.YtojeggeimnenbaaDoor
