/- The walk of the law FoldWindows. Conditions: none. -/
import Derived.Test.YtojeggeimnenbaaDoorRefWindowed
import Derived.Test.YtojeggeimnenbaaDoorAsErr
import Derived.Test.YtojeggeimnenbaaDoorWinTold
import Derived.Test.YtojeggeimnenbaaDoorAlike
set_option linter.unusedSimpArgs false
set_option linter.unusedVariables false
namespace Go.Proofs.YtojeggeimnenbaaDoor
open Go Go.RowKit Go.Proofs.YtojeggeimnenbaaDoor.P

set_option maxRecDepth 100000 in
set_option maxHeartbeats 4000000 in
theorem foldWindows_walk (f : Int) (n : Int) (axis : Int) (va : Value) (a : Arr) (w : World) (hg : Laid0 w) (ha : IsArr w va a) (wfa : Wf a.da) :
    Calls Tryd.prog 5 #[.int .i64 f, .int .i64 n, .int .i64 axis, va] w (Says w) := by
  obtain ⟨A, ca, D, da, rfl, -, -⟩ := ha.open_
  go_enter Tryd.func5, Tryd.ntmps5
  go_wp2_with fail
  refine ((show Calls _ _ _ _ (RTold (winLine f n axis a) (winFault f n axis a) _) from windowed_rtold (ha.mono ((Below.refl w.heap.size w).trans ((below_one w _).mono (Below.refl w.heap.size w).size))) wfa)).mono ?_
  rintro e w1 ⟨r1, rfl, hr1, hb1⟩
  have hbw1 := ((Below.refl w.heap.size w).trans ((below_one w _).mono (Below.refl w.heap.size w).size)).trans (hb1.mono ((Below.refl w.heap.size w).trans ((below_one w _).mono (Below.refl w.heap.size w).size)).size)
  have b_a1 := (Box.new w 25 #[.bool a.ch, .slice A a.sh.length ca, .slice D a.da.length da]).below hb1
  clear hb1
  obtain ⟨c_a0, c_a1, c_a2⟩ := b_a1.three
  have l_a := b_a1.lt
  obtain ⟨A1, ca1, D1, cd1, rfl, hs1, hd1⟩ := hr1.open_
  go_wp2_with fail
  refine ((show Calls _ _ _ _ (PTold (winLine f n axis a) (winFault f n axis a) _) from (windows_told (ha.mono (hbw1.trans ((below_one w1 _).mono hbw1.size))) wfa).mono fun _ _ h => h.p)).mono ?_
  rintro e w2 ⟨r2, rfl, hr2, hb2⟩
  have hbw2 := (hbw1.trans ((below_one w1 _).mono hbw1.size)).trans (hb2.mono (hbw1.trans ((below_one w1 _).mono hbw1.size)).size)
  have b_a2 := (b_a1.alloc _).below hb2
  have b_xwant2 := (Box.new w1 25 #[.bool ((ans (winLine f n axis a) (winFault f n axis a))).ch, .slice A1 ((ans (winLine f n axis a) (winFault f n axis a))).sh.length ca1, .slice D1 ((ans (winLine f n axis a) (winFault f n axis a))).da.length cd1]).below hb2
  have a_want2 := (hr1.mono (below_one _ _)).mono hb2
  clear hb2 b_a1 hr1 hbw1 c_a0 c_a1 c_a2 l_a
  obtain ⟨c_a0, c_a1, c_a2⟩ := b_a2.three
  have l_a := b_a2.lt
  obtain ⟨c_xwant0, c_xwant1, c_xwant2⟩ := b_xwant2.three
  have l_xwant := b_xwant2.lt
  obtain ⟨A2, ca2, D2, cd2, rfl, hs2, hd2⟩ := hr2.open_
  go_wp2_with fail
  refine (is_yes (winFault f n axis a) _ _ (ans (winLine f n axis a) (winFault f n axis a)) _ (hg.mono (hbw2.trans ((below_one w2 _).mono hbw2.size))) (hr2.mono (below_one _ _)) (a_want2.mono (below_one _ _))).mono ?_
  rintro e w3 ⟨rfl, hb3⟩
  have hbw3 := (hbw2.trans ((below_one w2 _).mono hbw2.size)).trans (hb3.mono (hbw2.trans ((below_one w2 _).mono hbw2.size)).size)
  have b_a3 := (b_a2.alloc _).below hb3
  have b_xwant3 := (b_xwant2.alloc _).below hb3
  have b_xgot3 := (Box.new w2 25 #[.bool ((ans (winLine f n axis a) (winFault f n axis a))).ch, .slice A2 ((ans (winLine f n axis a) (winFault f n axis a))).sh.length ca2, .slice D2 ((ans (winLine f n axis a) (winFault f n axis a))).da.length cd2]).below hb3
  have a_want3 := (a_want2.mono (below_one _ _)).mono hb3
  have a_got3 := (hr2.mono (below_one _ _)).mono hb3
  clear hb3 b_a2 b_xwant2 a_want2 hr2 hbw2 c_a0 c_a1 c_a2 l_a c_xwant0 c_xwant1 c_xwant2 l_xwant
  obtain ⟨c_a0, c_a1, c_a2⟩ := b_a3.three
  have l_a := b_a3.lt
  obtain ⟨c_xwant0, c_xwant1, c_xwant2⟩ := b_xwant3.three
  have l_xwant := b_xwant3.lt
  obtain ⟨c_xgot0, c_xgot1, c_xgot2⟩ := b_xgot3.three
  have l_xgot := b_xgot3.lt
  go_wp2_with fail
  go_ret
  exact ⟨rfl, by have := hbw3.size; go_grown⟩

end Go.Proofs.YtojeggeimnenbaaDoor
