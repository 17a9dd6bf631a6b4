/- What the card TopOnce leans on: PlainCup, ActCup. Conditions: none but those of its theorems. -/
import Derived.Test.YtihndbkaoejnnaaGreatDoorOnceAB
import Derived.Test.YtihndbkaoejnnaaGreatDoorOnceAO
set_option linter.unusedSimpArgs false
set_option linter.unusedVariables false
namespace Go.Proofs.YtihndbkaoejnnaaGreatDoor
open Go Go.RowKit Go.Proofs.YtihndbkaoejnnaaGreatDoor.P

set_option maxRecDepth 100000 in
set_option maxHeartbeats 4000000 in
theorem plain_cup {a : Arr} {n : Nat} (h : Ok a [n]) (hw : Wf a.da) : PlainOne 28 a (nub a) := by
  have HR := Lib.hid (rank_one h)
  have HW := Lib.hid hw
  have HE := Lib.hid (show nubErr a = 0 by unfold nubErr; rw [if_neg (by rw [arrErr_ok h]; simp), if_neg (by rw [rank_one h]; simp)])
  obtain ⟨b, hb⟩ : ∃ b, b = nub a := ⟨_, rfl⟩
  rw [← hb]
  have HC := Lib.hid (fun (W : World) (v : Value) (hv : IsArr W v a) => (show Calls Tryz.prog 15 #[v] W (GivesOkN b W) by rw [hb]; exact nub_new hv HW.out HE.out))
  clear hb h hw
  intro w v ha
  obtain ⟨A, ca, D, cd, rfl, -, -⟩ := ha.open_
  rw [show a.sh.length = 1 from HR.out] at ha ⊢
  have hx3 := (Box.new w 25 #[.bool a.ch, .slice A 1 ca, .slice D a.da.length cd]).alloc (.cells #[.bool false, .slice none 0 0, .slice none 0 0] 25)
  have hx4 := Box.new (w.alloc (.cells #[.bool a.ch, .slice A 1 ca, .slice D a.da.length cd] 25)) 25 #[.bool false, .slice none 0 0, .slice none 0 0]
  rw [World.size_alloc] at hx4
  have hbw := below_two w (.cells #[.bool a.ch, .slice A 1 ca, .slice D a.da.length cd] 25) (.cells #[.bool false, .slice none 0 0, .slice none 0 0] 25)
  obtain ⟨t0, t1, t2⟩ := hx3.three
  have HIN := Lib.hid ha
  clear ha
  go_enter Tryz.func150, Tryz.ntmps150
  go_wp2_with fail
  refine (last_any (by omega)).mono ?_
  rintro e w1 ⟨rfl, hb1⟩
  have x3 := hx3.below hb1
  have x4 := hx4.below hb1
  have hbw1 := hbw.trans (hb1.mono hbw.size)
  obtain ⟨u0, u1, u2⟩ := x3.three
  have ul := x3.lt
  have HA1 := Lib.hid (HIN.out.mono hbw1)
  clear hb1 hx3 hx4 t0 t1 t2 hbw
  go_wp2_with fail
  refine (HC.out _ _ HA1.out).mono ?_
  rintro e w2 ⟨r, rfl, hr, hb2, hn⟩
  obtain ⟨A2, c2, D2, d2, rfl, -, -⟩ := hr.open_
  have HNV := Lib.hid (hn.low (B' := w.heap.size) hbw1.size)
  have HRA := Lib.hid hr
  have x42 := x4.below hb2
  have hbw2 := hbw1.trans (hb2.mono hbw1.size)
  obtain ⟨z0, z1, z2⟩ := x42.three
  have zf := x42.frozen
  have zl := x42.lt
  clear hb2 x4 u0 u1 u2 ul hn hr
  go_wp2_with fail
  refine bodyPost_ret (v := .tuple #[.agg #[.bool b.ch, .slice A2 b.sh.length c2, .slice D2 b.da.length d2], .nilIface]) (by simp [results, Tryz.results150, go_sem, zl, z0, z1, z2]; first | done | rfl | exact ⟨rfl, rfl, rfl⟩) rfl ?_
  exact ⟨_, rfl, HRA.out.stored x42 _ _ _, by have := hbw2.size; go_grown, HNV.out⟩

end Go.Proofs.YtihndbkaoejnnaaGreatDoor

namespace Go.Proofs.YtihndbkaoejnnaaGreatDoor
open Go Go.RowKit Go.Proofs.YtihndbkaoejnnaaGreatDoor.P

theorem act_cup {a : Arr} {n : Nat} (h : Ok a [n]) (hw : Wf a.da) : ActOne 0 28 0 a (nub a) := one_plain (arrErr_ok h) (.inr (.inl (rank_one h))) (fun W => known_plain (by omega) 0 W) (plain_cup h hw)

end Go.Proofs.YtihndbkaoejnnaaGreatDoor
