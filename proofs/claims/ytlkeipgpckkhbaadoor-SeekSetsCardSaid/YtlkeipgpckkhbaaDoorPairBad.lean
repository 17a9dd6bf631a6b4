/- The walk of seek.pair where something is wrong. Conditions: none. -/
import Derived.Test.YtlkeipgpckkhbaaDoorPairWalk
namespace Go.Proofs.YtlkeipgpckkhbaaDoor
open Go Go.RowKit Go.Proofs.YtlkeipgpckkhbaaDoor.P

def FailsFn (k : Int) (w : World) (e : Ending) (w' : World) : Prop := e = .returned (.tuple #[.nilFunc, .iface 25 (.int .i64 k)]) ∧ Below w.heap.size w w'

set_option maxRecDepth 100000 in
set_option maxHeartbeats 1000000 in
theorem pair_bad {va vb : Value} {a b : Arr} {w : World} (ha : IsArr w va a) (hb : IsArr w vb b) (h : pairErr a b ≠ 0) :
    Calls Tryd.prog 35 #[va, vb] w (FailsFn (pairErr a b) w) := by
  obtain ⟨A, ca, D, cd, rfl, hs, hd⟩ := ha.open_
  obtain ⟨A', ca', D', cd', rfl, hs', hd'⟩ := hb.open_
  have bA0 := (Box.new w 24 #[.bool a.ch, .slice A a.sh.length ca, .slice D a.da.length cd]).alloc (.cells #[.bool b.ch, .slice A' b.sh.length ca', .slice D' b.da.length cd'] 24)
  have bB0 := Box.new (w.alloc (.cells #[.bool a.ch, .slice A a.sh.length ca, .slice D a.da.length cd] 24)) 24 #[.bool b.ch, .slice A' b.sh.length ca', .slice D' b.da.length cd']
  rw [World.size_alloc] at bB0
  by_cases c1 : twoErr a b ≠ 0
  · have e : pairErr a b = twoErr a b := by unfold pairErr; rw [if_pos c1]
    rw [e]
    have C1 := Lib.hid c1
    have HE : errV (twoErr a b) = .iface 25 (.int .i64 (twoErr a b)) := by simp [errV, c1]
    clear c1 e h hs hd hs' hd'
    go_enter Tryd.func35, Tryd.ntmps35
    go_wp2_with fail
    refine (scheck_any (ha.mono (below_two _ _ _)) (hb.mono (below_two _ _ _))).mono ?_
    rintro e w1 ⟨rfl, hb1⟩
    rw [HE]
    have hbw := (below_two w _ _).trans (hb1.mono (below_two w _ _).size)
    go_wp2_with fail
    go_ret2
    exact ⟨rfl, hbw⟩
  · have c1' : twoErr a b = 0 := by simpa using c1
    have c2 : a.sh.length ≠ 1 ∨ b.sh.length ≠ 1 := by
      rcases Decidable.em (a.sh.length ≠ 1 ∨ b.sh.length ≠ 1) with h2 | h2
      · exact h2
      · exact absurd (by unfold pairErr; rw [if_neg c1, if_neg h2]) h
    have e : pairErr a b = 3 := by unfold pairErr; rw [if_neg c1, if_pos c2]
    rw [e]
    have C1 := Lib.hid c1'
    clear c1 c1' e h hs hd hs' hd'
    by_cases c3 : a.sh.length = 1
    · have e1 : ((a.sh.length : Int) != 1) = false := by simp; omega
      have e2 : ((b.sh.length : Int) != 1) = true := by simp; omega
      clear c2 c3
      go_enter Tryd.func35, Tryd.ntmps35
      go_wp2_with fail
      refine (scheck_any (ha.mono (below_two _ _ _)) (hb.mono (below_two _ _ _))).mono ?_
      rintro e w1 ⟨rfl, hb1⟩
      rw [C1.out]
      have bA1 := bA0.below hb1
      have bB1 := bB0.below hb1
      have hbw := (below_two w _ _).trans (hb1.mono (below_two w _ _).size)
      obtain ⟨t0, t1, t2⟩ := bA1.three
      obtain ⟨u0, u1, u2⟩ := bB1.three
      rw [errV_zero]
      go_wp2_with fail
      go_ret2
      exact ⟨rfl, hbw⟩
    · have e1 : ((a.sh.length : Int) != 1) = true := by simp; omega
      clear c2 c3
      go_enter Tryd.func35, Tryd.ntmps35
      go_wp2_with fail
      refine (scheck_any (ha.mono (below_two _ _ _)) (hb.mono (below_two _ _ _))).mono ?_
      rintro e w1 ⟨rfl, hb1⟩
      rw [C1.out]
      have bA1 := bA0.below hb1
      have hbw := (below_two w _ _).trans (hb1.mono (below_two w _ _).size)
      obtain ⟨t0, t1, t2⟩ := bA1.three
      rw [errV_zero]
      go_wp2_with fail
      go_ret2
      exact ⟨rfl, hbw⟩

end Go.Proofs.YtlkeipgpckkhbaaDoor
