/- The walk of the law GradeTwice. Conditions: none. -/
import Derived.Test.YtfaojciballhnaaGradeRisesWalk
import Derived.Test.YtfaojciballhnaaPermOps
import Derived.Test.YtfaojciballhnaaSame
set_option linter.unusedSimpArgs false
set_option linter.unusedVariables false
namespace Go.Proofs.Ytfaojciballhnaa.P
open Go Go.RowKit
open Go.Sort (SWO)
theorem rowOf_one {d : List Int} {i : Nat} (h : i < d.length) : rowOf d 1 i = [d[i]] := by
  unfold rowOf
  rw [Nat.mul_one, List.drop_eq_getElem_cons h]; rfl
/-- An order's order. -/
theorem gradeOf_perm {X : List Nat} (h : X.Perm (List.range X.length)) : gradeOf false (rowOf (ints X) 1) X.length = invOf X := by
  rw [← ordOf_perm h]
  refine ordOf_congr (cOf_swo false _) (ltBy_swo _) fun x y hx hy => ?_
  show decide (cmpL _ _ < 0) = decide (cmpL _ _ < 0)
  have e : ∀ i, i < X.length → rowOf (ints X) 1 i = [((X.getD i 0 : Nat) : Int)] := fun i hi => by
    rw [rowOf_one (by rw [length_ints]; exact hi), List.getD_eq_getElem?_getD, List.getElem?_eq_getElem hi]
    simp [ints]
  rw [e x hx, e y hy]
theorem vec_grade {X : List Nat} (h : X.Perm (List.range X.length)) (hl : X.length ≤ 4096) :
    gradeErr ⟨false, [(X.length : Int)], ints X⟩ = 0 ∧ ints (gradeOf false (rowOf (ints X) (Arr.long ⟨false, [(X.length : Int)], ints X⟩)) (Arr.rows ⟨false, [(X.length : Int)], ints X⟩)) = ints (invOf X) := by
  have ho : Ok (⟨false, [(X.length : Int)], ints X⟩ : Arr) [X.length] := by
    refine ⟨rfl, ⟨by simp, fun m hm => ?_, by simpa [prod] using hl⟩, by simp [length_ints, prod], fun h => by cases h⟩
    simp at hm
    omega
  constructor
  · unfold gradeErr
    rw [if_neg (fun e => e (arrErr_ok ho)), if_neg (by simp)]
  · have e1 : Arr.long ⟨false, [(X.length : Int)], ints X⟩ = 1 := by unfold Arr.long; rw [ho.nsh_eq]; rfl
    have e2 : Arr.rows ⟨false, [(X.length : Int)], ints X⟩ = X.length := by unfold Arr.rows; rw [ho.nsh_eq]; rfl
    rw [e1, e2, gradeOf_perm h]
end Go.Proofs.Ytfaojciballhnaa.P
namespace Go.Proofs.Ytfaojciballhnaa
open Go Go.RowKit Go.Proofs.Ytfaojciballhnaa.P
theorem up_201 {v : Value} {w : World} (ha : IsArr w v ⟨false, [3], [2, 0, 1]⟩) :
    Calls Try.prog 7 #[v] w fun e w' => ∃ r, e = .returned (.tuple #[r, .nilIface]) ∧ IsInts w' r [1, 2, 0] ∧ Below w.heap.size w w' := by
  have h := up_told ha
  have e1 : gradeErr ⟨false, [3], [2, 0, 1]⟩ = 0 := by decide
  have e2 : ints (gradeOf false (rowOf [2, 0, 1] (Arr.long ⟨false, [3], [2, 0, 1]⟩)) (Arr.rows ⟨false, [3], [2, 0, 1]⟩)) = [1, 2, 0] := by
    have : gradeOf false (rowOf [2, 0, 1] (Arr.long ⟨false, [3], [2, 0, 1]⟩)) (Arr.rows ⟨false, [3], [2, 0, 1]⟩) = [1, 2, 0] := ord_small (cOf_swo false _) (by decide) (by decide)
    rw [this]; rfl
  rw [e1, e2] at h
  exact h
theorem up_vec {v : Value} {X : List Nat} {w : World} (h : X.Perm (List.range X.length)) (hl : X.length ≤ 4096) (ha : IsArr w v ⟨false, [(X.length : Int)], ints X⟩) :
    Calls Try.prog 7 #[v] w fun e w' => ∃ r, e = .returned (.tuple #[r, .nilIface]) ∧ IsInts w' r (ints (invOf X)) ∧ Below w.heap.size w w' := by
  have h1 := up_told ha
  obtain ⟨e1, e2⟩ := vec_grade h hl
  rw [e1, e2] at h1
  exact h1
set_option maxRecDepth 100000 in
set_option maxHeartbeats 4000000 in
theorem gradeTwice_walk (v : Value) (a : Arr) (w : World) (ha : IsArr w v a) :
    Calls Try.prog 4 #[v] w (Says w) := by
  obtain ⟨A, ca, D, cd, rfl, hs, hd⟩ := ha.open_
  have hb0 := below_two w (.cells #[.bool a.ch, .slice A a.sh.length ca, .slice D a.da.length cd] 24) (.cells #[.int .i64 2, .int .i64 0, .int .i64 1] 3)
  have b0 := (Box.new w 24 #[.bool a.ch, .slice A a.sh.length ca, .slice D a.da.length cd]).alloc (.cells #[.int .i64 2, .int .i64 0, .int .i64 1] 3)
  have x0 := (Box.new (w.alloc (.cells #[.bool a.ch, .slice A a.sh.length ca, .slice D a.da.length cd] 24)) 3 #[.int .i64 2, .int .i64 0, .int .i64 1]).isInts (xs := [2, 0, 1]) (n := 3) rfl (by omega)
  simp only [World.size_alloc] at x0
  have HA := Lib.hid ha
  clear ha hs hd
  go_enter Try.func4, Try.ntmps4
  go_wp2_with fail
  refine (vec_any _ [2, 0, 1] _ x0).mono ?_
  rintro e w1 ⟨r1, rfl, hr1, hb1⟩
  have hbw1 := hb0.trans (hb1.mono hb0.size)
  have b1 := b0.below hb1
  have HR1 := Lib.hid hr1
  clear x0 hb0 b0 hb1 hr1
  go_wp2_with fail
  refine (up_201 HR1.out).mono ?_
  rintro e w2 ⟨r2, rfl, hr2, hb2⟩
  have hbw2 := hbw1.trans (hb2.mono hbw1.size)
  have b2 := b1.below hb2
  have y0 := (Box.new w2 3 #[.int .i64 1, .int .i64 2, .int .i64 0]).isInts (xs := [1, 2, 0]) (n := 3) rfl (by omega)
  have hb3 := below_one w2 (.cells #[.int .i64 1, .int .i64 2, .int .i64 0] 3)
  have HI := Lib.hid (ints_any _ _ _ _ _ (hr2.mono hb3) y0)
  have hbw3 := hbw2.trans (hb3.mono hbw2.size)
  have b3 := b2.below hb3
  clear hb2 hr2 y0 hb3 b1 b2 hbw1 hbw2
  go_wp2_with fail
  refine HI.out.mono ?_
  rintro e w4 ⟨r4, rfl, hr4, hb4⟩
  obtain rfl : r4 = true := by first | exact hr4.2 rfl | exact hr4.2 trivial | simpa using hr4
  have hbw4 := hbw3.trans (hb4.mono hbw3.size)
  have b4 := b3.below hb4
  clear hb4 hr4 b3 hbw3
  obtain ⟨t0, t1, t2⟩ := b4.three
  go_wp2_with fail
  have HUP := Lib.hid (up_told (HA.out.mono hbw4))
  obtain ⟨X, hX⟩ : ∃ X, X = gradeOf false (rowOf a.da a.long) a.rows := ⟨_, rfl⟩
  rw [← hX] at HUP
  by_cases hE : gradeErr a = 0
  · obtain ⟨n, t, ht⟩ := gradeErr_zero hE
    rw [hE] at HUP
    have hr : a.rows = n := by unfold Arr.rows; rw [ht.nsh_eq]; rfl
    have hn4 : n ≤ 4096 := ht.good.2.1 n (by simp)
    have hXl : X.length = n := by rw [hX, hr]; exact (gradeOf_is _ _ _).length
    have HXP := Lib.hid (show X.Perm (List.range X.length) by rw [hXl, hX, hr]; exact (gradeOf_is _ _ _).1)
    have HPX := Lib.hid (show Perm X by rw [hX]; exact grade_perm _ _ _)
    have HX4 := Lib.hid (show X.length ≤ 4096 by omega)
    clear hE ht hr hX hXl hn4
    refine HUP.out.mono ?_
    rintro e w5 ⟨r5, rfl, hr5, hb5⟩
    simp only [errV_zero]
    have hr5' : IsInts w5 r5 (ints X) := hr5
    have HP := Lib.hid hr5'
    have hbw5 := hbw4.trans (hb5.mono hbw4.size)
    clear hr5 hr5' hb5 hbw4 b4 t0 t1 t2
    go_wp2_with fail
    refine (vector_any false _ _ _ HP.out).mono ?_
    rintro e w6 ⟨r6, rfl, hr6, hb6⟩
    rw [length_ints] at hr6
    have HR6 := Lib.hid hr6
    have HB6 := Lib.hid hb6
    clear hr6 hb6
    go_wp2_with fail
    refine (up_vec HXP.out HX4.out HR6.out).mono ?_
    rintro e w7 ⟨r7, rfl, hr7, hb7⟩
    have HR7 := Lib.hid hr7
    have HB7 := Lib.hid (HB6.out.trans (hb7.mono HB6.out.size))
    clear hr7 hb7
    go_wp2_with fail
    refine (inverse_ok _ X _ (HP.out.mono HB7.out) HPX.out HX4.out).mono ?_
    rintro e w8 ⟨r8, rfl, hr8, hb8⟩
    have HR8 := Lib.hid hr8
    have HR78 := Lib.hid (HR7.out.mono hb8)
    have HB8 := Lib.hid (HB7.out.trans (hb8.mono HB7.out.size))
    clear hr8 hb8
    go_wp2_with fail
    refine (list_nil _ _ _ _ _ HR78.out HR8.out).mono ?_
    rintro e w9 ⟨r9, rfl, hr9, hb9⟩
    obtain rfl : r9 = true := by first | exact hr9.2 rfl | exact hr9.2 trivial | simpa using hr9
    have HR79 := Lib.hid (HR78.out.mono hb9)
    have HB9 := Lib.hid (HB8.out.trans (hb9.mono HB8.out.size))
    clear hr9 hb9
    go_wp2_with fail
    refine (vector_any false _ _ _ HR79.out).mono ?_
    rintro e w10 ⟨r10, rfl, hr10, hb10⟩
    rw [length_ints] at hr10
    have HR10 := Lib.hid hr10
    have HB10 := Lib.hid (HB9.out.trans (hb10.mono HB9.out.size))
    clear hr10 hb10
    go_wp2_with fail
    refine (up_vec (by rw [invOf_length]; exact invOf_perm HXP.out) (by rw [invOf_length]; exact HX4.out) HR10.out).mono ?_
    rintro e w11 ⟨r11, rfl, hr11, hb11⟩
    rw [invOf_two HXP.out] at hr11
    have HR11 := Lib.hid hr11
    have HB11 := Lib.hid (HB10.out.trans (hb11.mono HB10.out.size))
    clear hr11 hb11
    go_wp2_with fail
    refine (list_nil _ _ _ _ _ HR11.out (HP.out.mono HB11.out)).mono ?_
    rintro e w12 ⟨r12, rfl, hr12, hb12⟩
    obtain rfl : r12 = true := by first | exact hr12.2 rfl | exact hr12.2 trivial | simpa using hr12
    have HB12 := Lib.hid (HB11.out.trans (hb12.mono HB11.out.size))
    clear hr12 hb12
    go_wp2_with fail
    go_ret
    exact ⟨rfl, hbw5.trans (HB12.out.mono hbw5.size)⟩
  · have HE := Lib.hid hE
    refine HUP.out.mono ?_
    rintro e w5 ⟨r5, rfl, hr5, hb5⟩
    rw [errV_ne HE.out]
    have hbw5 := hbw4.trans (hb5.mono hbw4.size)
    clear hr5 hb5 hbw4 hE
    go_wp2_with fail
    go_ret
    exact ⟨rfl, hbw5⟩
end Go.Proofs.Ytfaojciballhnaa
