/- The walk of the law PickPuts. Conditions: none. -/
import Derived.Test.YtikjniibfomadaaDoorRefLaid
import Derived.Test.YtikjniibfomadaaDoorAsErr
import Derived.Test.YtikjniibfomadaaDoorPickPut
import Derived.Test.YtikjniibfomadaaDoorAlike
set_option linter.unusedSimpArgs false
set_option linter.unusedVariables false
namespace Go.Proofs.YtikjniibfomadaaDoor
open Go Go.RowKit Go.Proofs.YtikjniibfomadaaDoor.P

set_option maxRecDepth 100000 in
set_option maxHeartbeats 4000000 in
theorem pickPuts_walk (va : Value) (a : Arr) (vbs : Value) (bs : List Arr) (vv : Value) (v : Arr) (w : World) (hg : Laid0 w) (ha : IsArr w va a) (hbs : IsArrs w vbs bs) (hv : IsArr w vv v) :
    Calls Tryd.prog 6 #[va, vbs, vv] w (Says w) := by
  obtain ⟨A, ca, D, da, rfl, -, -⟩ := ha.open_
  obtain ⟨A', cb, D', db, rfl, -, -⟩ := hv.open_
  go_enter Tryd.func6, Tryd.ntmps6
  go_wp2_with fail
  refine ((show Calls _ _ _ _ (RTold (putOf a bs v) (putErr a bs v) _) from laid_told (ha.mono ((Below.refl w.heap.size w).trans ((below_two w _ _).mono (Below.refl w.heap.size w).size))) (hbs.mono ((Below.refl w.heap.size w).trans ((below_two w _ _).mono (Below.refl w.heap.size w).size))) (hv.mono ((Below.refl w.heap.size w).trans ((below_two w _ _).mono (Below.refl w.heap.size w).size))))).mono ?_
  rintro e w1 ⟨r1, rfl, hr1, hb1⟩
  have hbw1 := ((Below.refl w.heap.size w).trans ((below_two w _ _).mono (Below.refl w.heap.size w).size)).trans (hb1.mono ((Below.refl w.heap.size w).trans ((below_two w _ _).mono (Below.refl w.heap.size w).size)).size)
  have b_a1 := ((Box.new w 24 #[.bool a.ch, .slice A a.sh.length ca, .slice D a.da.length da]).alloc _).below hb1
  have b_v1 := (Box.new (w.alloc (.cells #[.bool a.ch, .slice A a.sh.length ca, .slice D a.da.length da] 24)) 24 #[.bool v.ch, .slice A' v.sh.length cb, .slice D' v.da.length db]).below hb1
  simp only [World.size_alloc, World.size_setCell] at b_v1
  clear hb1
  obtain ⟨c_a0, c_a1, c_a2⟩ := b_a1.three
  have l_a := b_a1.lt
  obtain ⟨c_v0, c_v1, c_v2⟩ := b_v1.three
  have l_v := b_v1.lt
  obtain ⟨A1, ca1, D1, cd1, rfl, hs1, hd1⟩ := hr1.open_
  go_wp2_with fail
  refine ((show Calls _ _ _ _ (PTold (putOf a bs v) (putErr a bs v) _) from (pick_put (ha.mono (hbw1.trans ((below_one w1 _).mono hbw1.size))) (hbs.mono (hbw1.trans ((below_one w1 _).mono hbw1.size))) (hv.mono (hbw1.trans ((below_one w1 _).mono hbw1.size)))).mono fun _ _ h => h.p)).mono ?_
  rintro e w2 ⟨r2, rfl, hr2, hb2⟩
  have hbw2 := (hbw1.trans ((below_one w1 _).mono hbw1.size)).trans (hb2.mono (hbw1.trans ((below_one w1 _).mono hbw1.size)).size)
  have b_a2 := (b_a1.alloc _).below hb2
  have b_v2 := (b_v1.alloc _).below hb2
  have b_xwant2 := (Box.new w1 24 #[.bool ((ans (putOf a bs v) (putErr a bs v))).ch, .slice A1 ((ans (putOf a bs v) (putErr a bs v))).sh.length ca1, .slice D1 ((ans (putOf a bs v) (putErr a bs v))).da.length cd1]).below hb2
  have a_want2 := (hr1.mono (below_one _ _)).mono hb2
  clear hb2 b_a1 b_v1 hr1 hbw1 c_a0 c_a1 c_a2 l_a c_v0 c_v1 c_v2 l_v
  obtain ⟨c_a0, c_a1, c_a2⟩ := b_a2.three
  have l_a := b_a2.lt
  obtain ⟨c_v0, c_v1, c_v2⟩ := b_v2.three
  have l_v := b_v2.lt
  obtain ⟨c_xwant0, c_xwant1, c_xwant2⟩ := b_xwant2.three
  have l_xwant := b_xwant2.lt
  obtain ⟨A2, ca2, D2, cd2, rfl, hs2, hd2⟩ := hr2.open_
  go_wp2_with fail
  refine (is_yes (putErr a bs v) _ _ (ans (putOf a bs v) (putErr a bs v)) _ (hg.mono (hbw2.trans ((below_one w2 _).mono hbw2.size))) (hr2.mono (below_one _ _)) (a_want2.mono (below_one _ _))).mono ?_
  rintro e w3 ⟨rfl, hb3⟩
  have hbw3 := (hbw2.trans ((below_one w2 _).mono hbw2.size)).trans (hb3.mono (hbw2.trans ((below_one w2 _).mono hbw2.size)).size)
  have b_a3 := (b_a2.alloc _).below hb3
  have b_v3 := (b_v2.alloc _).below hb3
  have b_xwant3 := (b_xwant2.alloc _).below hb3
  have b_xgot3 := (Box.new w2 24 #[.bool ((ans (putOf a bs v) (putErr a bs v))).ch, .slice A2 ((ans (putOf a bs v) (putErr a bs v))).sh.length ca2, .slice D2 ((ans (putOf a bs v) (putErr a bs v))).da.length cd2]).below hb3
  have a_want3 := (a_want2.mono (below_one _ _)).mono hb3
  have a_got3 := (hr2.mono (below_one _ _)).mono hb3
  clear hb3 b_a2 b_v2 b_xwant2 a_want2 hr2 hbw2 c_a0 c_a1 c_a2 l_a c_v0 c_v1 c_v2 l_v c_xwant0 c_xwant1 c_xwant2 l_xwant
  obtain ⟨c_a0, c_a1, c_a2⟩ := b_a3.three
  have l_a := b_a3.lt
  obtain ⟨c_v0, c_v1, c_v2⟩ := b_v3.three
  have l_v := b_v3.lt
  obtain ⟨c_xwant0, c_xwant1, c_xwant2⟩ := b_xwant3.three
  have l_xwant := b_xwant3.lt
  obtain ⟨c_xgot0, c_xgot1, c_xgot2⟩ := b_xgot3.three
  have l_xgot := b_xgot3.lt
  go_wp2_with fail
  go_ret
  exact ⟨rfl, by have := hbw3.size; go_grown⟩

end Go.Proofs.YtikjniibfomadaaDoor
