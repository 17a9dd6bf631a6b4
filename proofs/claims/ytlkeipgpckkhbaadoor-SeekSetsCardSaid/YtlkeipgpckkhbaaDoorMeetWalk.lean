/- The walk of seek.Meet. Conditions: none. -/
import Derived.Test.YtlkeipgpckkhbaaDoorPairWalk
import Derived.Test.YtlkeipgpckkhbaaDoorHelp
namespace Go.Proofs.YtlkeipgpckkhbaaDoor
open Go Go.RowKit Go.Proofs.YtlkeipgpckkhbaaDoor.P

set_option maxRecDepth 100000 in
set_option maxHeartbeats 1000000 in
theorem meet_gives {va vb : Value} {a b : Arr} {w : World} (ha : IsArr w va a) (hb : IsArr w vb b) (hwa : Wf a.da) (hwb : Wf b.da) (h : pairErr a b = 0) :
    Calls Tryd.prog 15 #[va, vb] w (GivesOk (vecOf a.ch (sel (fun _ x => hasB b a.ch x) a.da)) w) := by
  obtain ⟨A, ca, D, cd, rfl, hs, hd⟩ := ha.open_
  obtain ⟨A', ca', D', cd', rfl, hs', hd'⟩ := hb.open_
  obtain ⟨s, t, hsO, htO, h1, h2⟩ := pairErr_zero h
  have hl := ok_da_le hsO
  have H := Lib.hid h
  have HW := Lib.hid hwa
  have HV := Lib.hid hwb
  clear h hsO htO h1 h2 hwa hwb hs hd hs' hd'
  have bA0 := ((Box.new w 24 #[.bool a.ch, .slice A a.sh.length ca, .slice D a.da.length cd]).alloc (.cells #[.bool b.ch, .slice A' b.sh.length ca', .slice D' b.da.length cd'] 24)).alloc (.cells #[.bool false, .slice none 0 0, .slice none 0 0] 24)
  have bB0 := (Box.new (w.alloc (.cells #[.bool a.ch, .slice A a.sh.length ca, .slice D a.da.length cd] 24)) 24 #[.bool b.ch, .slice A' b.sh.length ca', .slice D' b.da.length cd']).alloc (.cells #[.bool false, .slice none 0 0, .slice none 0 0] 24)
  have bR0 := Box.new ((w.alloc (.cells #[.bool a.ch, .slice A a.sh.length ca, .slice D a.da.length cd] 24)).alloc (.cells #[.bool b.ch, .slice A' b.sh.length ca', .slice D' b.da.length cd'] 24)) 24 #[.bool false, .slice none 0 0, .slice none 0 0]
  simp only [World.size_alloc] at bB0 bR0
  have hb0 := below_three w (.cells #[.bool a.ch, .slice A a.sh.length ca, .slice D a.da.length cd] 24) (.cells #[.bool b.ch, .slice A' b.sh.length ca', .slice D' b.da.length cd'] 24) (.cells #[.bool false, .slice none 0 0, .slice none 0 0] 24)
  obtain ⟨t0, t1, t2⟩ := bA0.three
  obtain ⟨u0, u1, u2⟩ := bB0.three
  go_enter Tryd.func15, Tryd.ntmps15
  go_wp2_with fail
  refine (pair_ok (ha.mono hb0) (hb.mono hb0) HV.out H.out).mono ?_
  rintro e w1 ⟨g0, ga, gb, g, a1, a2, b1, b2, rfl, x1, x2, x3, x4, hb1⟩
  have bR1 := bR0.below hb1
  have bA1 := bA0.below hb1
  have hbw := hb0.trans (hb1.mono hb0.size)
  clear hb1 bR0 bA0 bB0 t0 t1 t2 u0 u1 u2
  obtain ⟨t0, t1, t2⟩ := bA1.three
  go_wp2_with fail
  refine (chosen_any _ a _ _ (fun _ x => hasB b a.ch x) _ (ha.mono hbw) hl (fun i x hx W hW => pair1_any i x g0 ga gb g a b _ _ a1 a2 b1 b2 W (x1.below hW) (x2.below hW) (x3.below hW) (x4.mono hW) (HW.out.at_ hx)) (fun args W => rfl)).mono ?_
  rintro e w3 ⟨r, rfl, hr, hb3⟩
  obtain ⟨A5, c5, D5, d5, rfl, -, -⟩ := hr.open_
  have bR3 := bR1.below hb3
  have hbw4 := hbw.trans (hb3.mono hbw.size)
  have zl := bR3.lt
  obtain ⟨z0, z1, z2⟩ := bR3.three
  have zf := bR3.frozen
  clear hb3 bR1 bA1 t0 t1 t2
  go_wp2_with fail
  refine bodyPost_ret (v := .tuple #[.agg #[.bool (vecOf a.ch (sel (fun _ x => hasB b a.ch x) a.da)).ch, .slice A5 (vecOf a.ch (sel (fun _ x => hasB b a.ch x) a.da)).sh.length c5, .slice D5 (vecOf a.ch (sel (fun _ x => hasB b a.ch x) a.da)).da.length d5], .nilIface]) (by simp [results, Tryd.results15, go_sem, zl, z0, z1, z2]; first | done | rfl | exact ⟨rfl, rfl, rfl⟩) rfl ?_
  exact ⟨_, rfl, hr.stored bR3 _ _ _, by have := hbw4.size; go_grown⟩

end Go.Proofs.YtlkeipgpckkhbaaDoor
