/- What the card TopSorts leans on: PlainUp, ActUp. Conditions: none but those of its theorems. -/
import Derived.Test.YtihndbkaoejnnaaGreatDoorSortsAA
import Derived.Test.YtihndbkaoejnnaaGreatDoorSortsAG
set_option linter.unusedSimpArgs false
set_option linter.unusedVariables false
namespace Go.Proofs.YtihndbkaoejnnaaGreatDoor
open Go Go.RowKit Go.Proofs.YtihndbkaoejnnaaGreatDoor.P

set_option maxRecDepth 100000 in
set_option maxHeartbeats 4000000 in
theorem plain_up {a : Arr} {n : Nat} (h : Ok a [n]) : PlainOne 26 a ⟨false, [(n : Int)], ints (gradeOf false (rowOf a.da a.long) a.rows)⟩ := by
  have HR := Lib.hid (rank_one h)
  have hl : (ints (gradeOf false (rowOf a.da a.long) a.rows)).length = n := by
    have hr : a.rows = n := by unfold Arr.rows; rw [h.nsh_eq]; rfl
    rw [hr]
    simp [ints, gradeOf, ordOf]
  obtain ⟨X, hX⟩ : ∃ X, X = ints (gradeOf false (rowOf a.da a.long) a.rows) := ⟨_, rfl⟩
  have HE := Lib.hid (show gradeErr a = 0 by unfold gradeErr; rw [if_neg (by rw [arrErr_ok h]; simp), if_neg (by rw [rank_one h]; simp)])
  rw [← hX] at hl ⊢
  have HXL := Lib.hid hl
  have HC := Lib.hid (fun (W : World) (v : Value) (hv : IsArr W v a) => (show Calls Tryz.prog 196 #[v] W (GToldN X 0 W) by have h9 := up_new hv; rw [← hX, HE.out] at h9; exact h9))
  clear hX hl h
  intro w v ha
  obtain ⟨A, ca, D, cd, rfl, -, -⟩ := ha.open_
  rw [show a.sh.length = 1 from HR.out] at ha ⊢
  have hx3 := (Box.new w 25 #[.bool a.ch, .slice A 1 ca, .slice D a.da.length cd]).alloc (.cells #[.bool false, .slice none 0 0, .slice none 0 0] 25)
  have hx4 := Box.new (w.alloc (.cells #[.bool a.ch, .slice A 1 ca, .slice D a.da.length cd] 25)) 25 #[.bool false, .slice none 0 0, .slice none 0 0]
  rw [World.size_alloc] at hx4
  have hbw := below_two w (.cells #[.bool a.ch, .slice A 1 ca, .slice D a.da.length cd] 25) (.cells #[.bool false, .slice none 0 0, .slice none 0 0] 25)
  obtain ⟨t0, t1, t2⟩ := hx3.three
  have HIN := Lib.hid ha
  clear ha
  go_enter Tryz.func150, Tryz.ntmps150
  go_wp2_with fail
  refine (last_any (by omega)).mono ?_
  rintro e w1 ⟨rfl, hb1⟩
  have x3 := hx3.below hb1
  have x4 := hx4.below hb1
  have hbw1 := hbw.trans (hb1.mono hbw.size)
  obtain ⟨u0, u1, u2⟩ := x3.three
  have ul := x3.lt
  have HA1 := Lib.hid (HIN.out.mono hbw1)
  clear hb1 hx3 hx4 t0 t1 t2 hbw
  go_wp2_with fail
  refine (HC.out _ _ HA1.out).mono ?_
  rintro e w2 ⟨r, rfl, hr, hb2, hn⟩
  rw [if_pos rfl] at hr
  obtain ⟨P, c2, rfl, -, -, -, -, -⟩ := hr.open_
  have HN := Lib.hid (fun j e => Nat.le_trans hbw1.size (hn j e))
  have HRA := Lib.hid hr
  have x42 := x4.below hb2
  have hbw2 := hbw1.trans (hb2.mono hbw1.size)
  clear hb2 x4 u0 u1 u2 ul hn hr
  simp only [errV_zero]
  go_wp2_with fail
  refine list_any.mono ?_
  rintro e w3 ⟨g, rfl, hg, hi, hb3⟩
  have HI := Lib.hid hi
  have HRB := Lib.hid (HRA.out.mono hb3)
  have hgw : w.heap.size ≤ g := Nat.le_trans hbw2.size hg
  have x43 := x42.below hb3
  have hbw3 := hbw2.trans (hb3.mono hbw2.size)
  obtain ⟨z0, z1, z2⟩ := x43.three
  have zf := x43.frozen
  have zl := x43.lt
  clear hb3 hi x42
  go_wp2_with fail
  refine bodyPost_ret (v := .tuple #[.agg #[.bool false, .slice (some ⟨g, 0, none⟩) 1 1, .slice P X.length c2], .nilIface]) (by simp [results, Tryz.results150, go_sem, zl, z0, z1, z2]; first | done | rfl | exact ⟨rfl, rfl, rfl⟩) rfl ?_
  have hIA : IsArr w3 (.agg #[.bool false, .slice (some ⟨g, 0, none⟩) 1 1, .slice P X.length c2]) ⟨false, [(n : Int)], X⟩ := ⟨_, _, rfl, by have := HI.out; rw [HXL.out] at this; exact this, HRB.out⟩
  exact ⟨_, rfl, hIA.stored x43 _ _ _, by have := hbw3.size; go_grown, newV (block_from hgw) HN.out⟩

end Go.Proofs.YtihndbkaoejnnaaGreatDoor

namespace Go.Proofs.YtihndbkaoejnnaaGreatDoor
open Go Go.RowKit Go.Proofs.YtihndbkaoejnnaaGreatDoor.P

theorem act_up {a : Arr} {n : Nat} (h : Ok a [n]) : ActOne 0 26 0 a ⟨false, [(n : Int)], ints (gradeOf false (rowOf a.da a.long) a.rows)⟩ := one_plain (arrErr_ok h) (.inr (.inl (rank_one h))) (fun W => known_plain (by omega) 0 W) (plain_up h)

end Go.Proofs.YtihndbkaoejnnaaGreatDoor
