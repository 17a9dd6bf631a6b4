/- What the card TopOnce leans on: NubWalk, MeetWalk. Conditions: none but those of its theorems. -/
import Derived.Test.YtihndbkaoejnnaaGreatDoorOnceAN
import Derived.Test.YtihndbkaoejnnaaGreatDoorOnceAA
set_option linter.unusedSimpArgs false
set_option linter.unusedVariables false
namespace Go.Proofs.YtihndbkaoejnnaaGreatDoor
open Go Go.RowKit Go.Proofs.YtihndbkaoejnnaaGreatDoor.P

set_option maxRecDepth 100000 in
set_option maxHeartbeats 1000000 in
theorem nub_new {v : Value} {a : Arr} {w : World} (ha : IsArr w v a) (hw : Wf a.da) (h : nubErr a = 0) :
    Calls Tryz.prog 15 #[v] w (GivesOkN (nub a) w) := by
  obtain ⟨A, ca, D, cd, rfl, hs, hd⟩ := ha.open_
  obtain ⟨s, hsO, h1⟩ := nubErr_zero h
  have hl := ok_da_le hsO
  have HO := Lib.hid hsO
  have e1 : ((a.sh.length : Int) != 1) = false := by simp; omega
  have HW := Lib.hid hw
  clear h hsO h1 hw hs hd
  go_enter Tryz.func15, Tryz.ntmps15
  go_wp2_with fail
  refine (check_ok (ha.mono (below_two _ _ _)) HO.out).mono ?_
  rintro e w1 ⟨rfl, hb1⟩
  have bA0 := ((Box.new w 25 #[.bool a.ch, .slice A a.sh.length ca, .slice D a.da.length cd]).alloc (.cells #[.bool false, .slice none 0 0, .slice none 0 0] 25)).below hb1
  have bR0 := Box.new (w.alloc (.cells #[.bool a.ch, .slice A a.sh.length ca, .slice D a.da.length cd] 25)) 25 #[.bool false, .slice none 0 0, .slice none 0 0]
  rw [World.size_alloc] at bR0
  have bR1 := bR0.below hb1
  have hbw := (below_two w (.cells #[.bool a.ch, .slice A a.sh.length ca, .slice D a.da.length cd] 25) (.cells #[.bool false, .slice none 0 0, .slice none 0 0] 25)).trans (hb1.mono (below_two w _ _).size)
  obtain ⟨t0, t1, t2⟩ := bA0.three
  clear hb1 bR0
  go_wp2_with fail
  refine (firsts_any (ha.mono hbw) HW.out hl).mono ?_
  rintro e w2 ⟨g, rfl, hg, hf, hb2⟩
  have bA2 := bA0.below hb2
  have bR2 := bR1.below hb2
  have hbw2 := hbw.trans (hb2.mono hbw.size)
  have bM := Box.new w2 58 #[.map (some g)]
  obtain ⟨u0, u1, u2⟩ := (bA2.alloc (.cells #[.map (some g)] 58)).three
  clear hb2 bA0 bR1 t0 t1 t2
  go_wp2_with fail
  have hbw3 := hbw2.alloc hbw2.size (.cells #[.map (some g)] 58)
  refine (chosen_new _ a _ _ (firstB a.da) _ (ha.mono hbw3) hl (fun i x hx W hW => nub1_any i x w2.heap.size g a.da W (bM.below hW) ((hf.mono (below_one _ _)).mono hW) (List.mem_of_getElem? hx) (HW.out.at_ hx)) (fun args W => ?_)).mono ?_
  · rfl
  rintro e w3 ⟨r, rfl, hr, hb3, hnv⟩
  have HNV := Lib.hid (hnv.low (B' := w.heap.size) hbw3.size)
  clear hnv
  obtain ⟨A5, c5, D5, d5, rfl, -, -⟩ := hr.open_
  have bR3 := (bR2.alloc (.cells #[.map (some g)] 58)).below hb3
  have hbw4 := hbw3.trans (hb3.mono hbw3.size)
  have zl := bR3.lt
  obtain ⟨z0, z1, z2⟩ := bR3.three
  have zf := bR3.frozen
  clear hb3 bR2 u0 u1 u2
  go_wp2_with fail
  refine bodyPost_ret (v := .tuple #[.agg #[.bool (nub a).ch, .slice A5 (nub a).sh.length c5, .slice D5 (nub a).da.length d5], .nilIface]) (by simp [results, Tryz.results15, go_sem, zl, z0, z1, z2]; first | done | rfl | exact ⟨rfl, rfl, rfl⟩) rfl ?_
  exact ⟨_, rfl, hr.stored bR3 _ _ _, by have := hbw4.size; go_grown, HNV.out⟩

theorem nub_gives {v : Value} {a : Arr} {w : World} (ha : IsArr w v a) (hw : Wf a.da) (h : nubErr a = 0) :
    Calls Tryz.prog 15 #[v] w (GivesOk (nub a) w) := (nub_new ha hw h).mono fun _ _ p => p.old

end Go.Proofs.YtihndbkaoejnnaaGreatDoor

namespace Go.Proofs.YtihndbkaoejnnaaGreatDoor
open Go Go.RowKit Go.Proofs.YtihndbkaoejnnaaGreatDoor.P

end Go.Proofs.YtihndbkaoejnnaaGreatDoor
