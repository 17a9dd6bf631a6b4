/- The walks of seek's functions where something is wrong. Conditions: none. -/
import Derived.Test.YtlkeipgpckkhbaaDoorNubWalk
import Derived.Test.YtlkeipgpckkhbaaDoorMeetWalk
import Derived.Test.YtlkeipgpckkhbaaDoorWithoutWalk
namespace Go.Proofs.YtlkeipgpckkhbaaDoor
open Go Go.RowKit Go.Proofs.YtlkeipgpckkhbaaDoor.P

set_option maxRecDepth 100000 in
set_option maxHeartbeats 1000000 in
theorem nub_bad {v : Value} {a : Arr} {w : World} (ha : IsArr w v a) (h : nubErr a ≠ 0) :
    Calls Tryd.prog 12 #[v] w (Fails zeroArr (nubErr a) w) := by
  obtain ⟨A, ca, D, cd, rfl, hs, hd⟩ := ha.open_
  by_cases c1 : arrErr a ≠ 0
  · have e : nubErr a = arrErr a := by unfold nubErr; rw [if_pos c1]
    rw [e]
    have C1 := Lib.hid c1
    clear c1 e h hs hd
    go_enter Tryd.func12, Tryd.ntmps12
    go_wp2_with fail
    refine (check_bad (ha.mono (below_two _ _ _)) C1.out).mono ?_
    rintro e w1 ⟨rfl, hb⟩
    have b1 := (Box.new (w.alloc (.cells #[.bool a.ch, .slice A a.sh.length ca, .slice D a.da.length cd] 24)) 24 #[.bool false, .slice none 0 0, .slice none 0 0]).below hb
    rw [World.size_alloc] at b1
    obtain ⟨q0, q1, q2⟩ := b1.three
    have f1 := b1.frozen
    have hz := b1.lt
    have hbw : Below w.heap.size w w1 := (below_two _ _ _).trans (hb.mono (by simp; omega))
    go_wp2_with fail
    refine bodyPost_ret (v := .tuple #[zeroArr, .iface 25 (.int .i64 (arrErr a))]) (by simp [results, Tryd.results12, go_sem, q0, q1, q2, hz]) rfl ?_
    exact ⟨rfl, by go_grown⟩
  · have c2 : a.sh.length ≠ 1 := by intro e; exact h (by unfold nubErr; rw [if_neg c1, if_neg (by omega)])
    have e : nubErr a = 3 := by unfold nubErr; rw [if_neg c1, if_pos c2]
    rw [e]
    obtain ⟨t, ht⟩ := ok_of_arrErr (by simpa using c1)
    have e1 : ((a.sh.length : Int) != 1) = true := by simp; omega
    have HT := Lib.hid ht
    clear c1 c2 e h hs hd ht
    go_enter Tryd.func12, Tryd.ntmps12
    go_wp2_with fail
    refine (check_ok (ha.mono (below_two _ _ _)) HT.out).mono ?_
    rintro e w1 ⟨rfl, hb⟩
    have b1 := (Box.new (w.alloc (.cells #[.bool a.ch, .slice A a.sh.length ca, .slice D a.da.length cd] 24)) 24 #[.bool false, .slice none 0 0, .slice none 0 0]).below hb
    rw [World.size_alloc] at b1
    obtain ⟨t0, t1, t2⟩ := (((Box.new w 24 #[.bool a.ch, .slice A a.sh.length ca, .slice D a.da.length cd]).alloc (.cells #[.bool false, .slice none 0 0, .slice none 0 0] 24)).below hb).three
    obtain ⟨q0, q1, q2⟩ := b1.three
    have f1 := b1.frozen
    have hz := b1.lt
    have hbw : Below w.heap.size w w1 := (below_two _ _ _).trans (hb.mono (by simp; omega))
    go_wp2_with fail
    refine bodyPost_ret (v := .tuple #[zeroArr, .iface 25 (.int .i64 3)]) (by simp [results, Tryd.results12, go_sem, q0, q1, q2, hz]) rfl ?_
    exact ⟨rfl, by go_grown⟩

end Go.Proofs.YtlkeipgpckkhbaaDoor
