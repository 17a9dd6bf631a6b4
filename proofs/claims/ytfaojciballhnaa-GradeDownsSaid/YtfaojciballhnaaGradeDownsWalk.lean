/- The walk of the law GradeDowns. Conditions: cells that a word has. -/
import Derived.Test.YtfaojciballhnaaGradeRisesWalk
import Derived.Test.YtfaojciballhnaaEachAll
import Derived.Test.YtfaojciballhnaaSame
set_option linter.unusedSimpArgs false
set_option linter.unusedVariables false
namespace Go.Proofs.Ytfaojciballhnaa.P
open Go Go.RowKit
open Go.Sort (SWO)
/-- Each number taken from -1. -/
def oppOf (a : Arr) : Arr := ⟨false, a.sh, a.da.map fun v => -1 - v⟩
theorem oppOf_ok {a : Arr} {t : List Nat} (h : Ok a t) : Ok (oppOf a) t := ⟨h.sh, h.good, by show (a.da.map _).length = _; rw [List.length_map]; exact h.len, fun e => by cases e⟩
theorem rowOf_map (d : List Int) (f : Int → Int) (L i : Nat) : rowOf (d.map f) L i = (rowOf d L i).map f := by unfold rowOf; rw [List.map_take, List.map_drop]
/-- From the greatest it is as of the opposite from the least. -/
theorem gradeOf_opp {d : List Int} {n L : Nat} (h : d.length = n * L) : gradeOf false (rowOf (d.map fun v => -1 - v) L) n = gradeOf true (rowOf d L) n :=
  ordOf_congr (cOf_swo false _) (cOf_swo true _) fun x y hx hy => by
    show decide (cmpL _ _ < 0) = decide (cmpL _ _ < 0)
    rw [rowOf_map, rowOf_map, cmpL_opp (by rw [rowOf_length h hx, rowOf_length h hy])]
end Go.Proofs.Ytfaojciballhnaa.P
namespace Go.Proofs.Ytfaojciballhnaa
open Go Go.RowKit Go.Proofs.Ytfaojciballhnaa.P
theorem down_535 {v : Value} {w : World} (ha : IsArr w v ⟨false, [3], [5, 3, 5]⟩) :
    Calls Try.prog 20 #[v] w fun e w' => ∃ r, e = .returned (.tuple #[r, .nilIface]) ∧ IsInts w' r [0, 2, 1] ∧ Below w.heap.size w w' := by
  have h := down_told ha
  have e1 : gradeErr ⟨false, [3], [5, 3, 5]⟩ = 0 := by decide
  have e2 : ints (gradeOf true (rowOf [5, 3, 5] (Arr.long ⟨false, [3], [5, 3, 5]⟩)) (Arr.rows ⟨false, [3], [5, 3, 5]⟩)) = [0, 2, 1] := by
    have : gradeOf true (rowOf [5, 3, 5] (Arr.long ⟨false, [3], [5, 3, 5]⟩)) (Arr.rows ⟨false, [3], [5, 3, 5]⟩) = [0, 2, 1] := ord_small (cOf_swo true _) (by decide) (by decide)
    rw [this]; rfl
  rw [e1, e2] at h
  exact h
theorem opp_told {v u : Value} {a : Arr} {t : List Nat} {w : World} (hu : IsArr w u ⟨false, [], [-1]⟩) (ha : IsArr w v a) (ht : Ok a t) (hc : a.ch = false) (hw : Wf a.da) :
    Calls Try.prog 21 #[.int .i64 2, u, v] w (GivesOk (oppOf a) w) := by
  refine (each_told (f := 2) hu ha hw).mono fun e w' h => ?_
  have e0 : eachErr 2 ⟨false, [], [-1]⟩ a = 0 := by
    unfold eachErr
    rw [if_neg (by decide), if_neg (by decide), if_neg (fun e => e (arrErr_ok ht)), if_pos (.inl rfl), if_neg (fun h => by rcases h.2.2 with h | h <;> simp [hc] at h)]
  rcases h with ⟨h, -⟩ | ⟨-, h⟩
  · exact absurd e0 h
  · have ew : ∀ i, cellE false a.ch 2 (oneAt ⟨false, [], [-1]⟩ a i) (twoAt ⟨false, [], [-1]⟩ a i) = 0 := fun i => by unfold cellE; rw [hc, if_neg (by decide)]; unfold twoE; simp
    rcases h with ⟨-, h⟩ | ⟨i, -, -, h, -⟩
    · have ev : (⟨false, fitSh ⟨false, [], [-1]⟩ a, (List.range (fitN ⟨false, [], [-1]⟩ a)).map fun i => cellV false a.ch 2 (oneAt ⟨false, [], [-1]⟩ a i) (twoAt ⟨false, [], [-1]⟩ a i)⟩ : Arr) = oppOf a := by
        unfold oppOf fitSh fitN
        have h0 : (⟨false, [], [-1]⟩ : Arr).sh.length = 0 := rfl
        rw [if_pos h0, if_pos h0]
        congr 1
        refine List.ext_getElem (by simp) fun i h1 h2 => ?_
        rw [List.length_map, List.length_range] at h1
        have hwi : -9223372036854775808 ≤ a.da[i] ∧ a.da[i] ≤ 9223372036854775807 := by
          have h := hw a.da[i] (List.getElem_mem h1)
          simp only [Lit.wf, Bool.and_eq_true, decide_eq_true_eq] at h
          exact h
        simp only [List.getElem_map, List.getElem_range]
        unfold cellV oneAt twoAt
        rw [hc, if_neg (by decide), if_pos h0, if_pos h0]
        have e1 : a.da.getD i 0 = a.da[i] := by rw [List.getD_eq_getElem?_getD, List.getElem?_eq_getElem h1]; rfl
        rw [e1]
        unfold twoV
        rw [if_neg (by decide), if_pos rfl]
        show wrap64 (-1 - a.da[i]) = -1 - a.da[i]
        first | exact IntWalk.i64_in (-1 - a.da[i]) (by omega) | (unfold wrap64; omega)
      rw [← ev]
      exact h
    · exact absurd (ew i) h
set_option maxRecDepth 100000 in
set_option maxHeartbeats 4000000 in
theorem gradeDowns_walk (v : Value) (a : Arr) (w : World) (ha : IsArr w v a) (hwf : Wf a.da) :
    Calls Try.prog 6 #[v] w (Says w) := by
  obtain ⟨A, ca, D, cd, rfl, hs, hd⟩ := ha.open_
  have hb0 := below_two w (.cells #[.bool a.ch, .slice A a.sh.length ca, .slice D a.da.length cd] 24) (.cells #[.int .i64 5, .int .i64 3, .int .i64 5] 3)
  have b0 := (Box.new w 24 #[.bool a.ch, .slice A a.sh.length ca, .slice D a.da.length cd]).alloc (.cells #[.int .i64 5, .int .i64 3, .int .i64 5] 3)
  have x0 := (Box.new (w.alloc (.cells #[.bool a.ch, .slice A a.sh.length ca, .slice D a.da.length cd] 24)) 3 #[.int .i64 5, .int .i64 3, .int .i64 5]).isInts (xs := [5, 3, 5]) (n := 3) rfl (by omega)
  simp only [World.size_alloc] at x0
  have HA := Lib.hid ha
  have HW := Lib.hid hwf
  clear ha hs hd hwf
  go_enter Try.func6, Try.ntmps6
  go_wp2_with fail
  refine (vec_any _ [5, 3, 5] _ x0).mono ?_
  rintro e w1 ⟨r1, rfl, hr1, hb1⟩
  have hbw1 := hb0.trans (hb1.mono hb0.size)
  have b1 := b0.below hb1
  have HR1 := Lib.hid hr1
  clear x0 hb0 b0 hb1 hr1
  go_wp2_with fail
  refine (down_535 HR1.out).mono ?_
  rintro e w2 ⟨r2, rfl, hr2, hb2⟩
  have hbw2 := hbw1.trans (hb2.mono hbw1.size)
  have b2 := b1.below hb2
  have y0 := (Box.new w2 3 #[.int .i64 0, .int .i64 2, .int .i64 1]).isInts (xs := [0, 2, 1]) (n := 3) rfl (by omega)
  have hb3 := below_one w2 (.cells #[.int .i64 0, .int .i64 2, .int .i64 1] 3)
  have HI := Lib.hid (ints_any _ _ _ _ _ (hr2.mono hb3) y0)
  have hbw3 := hbw2.trans (hb3.mono hbw2.size)
  have b3 := b2.below hb3
  clear hb2 hr2 y0 hb3 b1 b2 hbw1 hbw2
  go_wp2_with fail
  refine HI.out.mono ?_
  rintro e w4 ⟨r4, rfl, hr4, hb4⟩
  obtain rfl : r4 = true := by first | exact hr4.2 rfl | exact hr4.2 trivial | simpa using hr4
  have hbw4 := hbw3.trans (hb4.mono hbw3.size)
  have b4 := b3.below hb4
  clear hb4 hr4 b3 hbw3
  obtain ⟨t0, t1, t2⟩ := b4.three
  go_wp2_with fail
  have HUP := Lib.hid (down_told (HA.out.mono hbw4))
  obtain ⟨X, hX⟩ : ∃ X, X = gradeOf true (rowOf a.da a.long) a.rows := ⟨_, rfl⟩
  rw [← hX] at HUP
  by_cases hE : gradeErr a = 0
  · obtain ⟨n, t, ht⟩ := gradeErr_zero hE
    rw [hE] at HUP
    have HT := Lib.hid ht
    have hr : a.rows = n := by unfold Arr.rows; rw [ht.nsh_eq]; rfl
    have hl : a.long = prod t := by unfold Arr.long; rw [ht.nsh_eq]; rfl
    have HXX := Lib.hid (show ints (gradeOf false (rowOf (oppOf a).da (oppOf a).long) (oppOf a).rows) = ints X ∧ gradeErr (oppOf a) = 0 by
      have ho := oppOf_ok ht
      have e1 : (oppOf a).rows = n := by unfold Arr.rows; rw [ho.nsh_eq]; rfl
      have e2 : (oppOf a).long = prod t := by unfold Arr.long; rw [ho.nsh_eq]; rfl
      refine ⟨?_, ?_⟩
      · rw [hX, e1, e2, hr, hl]
        congr 1
        exact gradeOf_opp (by rw [ht.len]; rfl)
      · unfold gradeErr
        rw [if_neg (fun e => e (arrErr_ok ho)), if_neg (by rw [ho.sh]; simp [ints])])
    clear hE ht hr hl hX
    refine HUP.out.mono ?_
    rintro e w5 ⟨r5, rfl, hr5, hb5⟩
    simp only [errV_zero]
    have hr5' : IsInts w5 r5 (ints X) := hr5
    have HP := Lib.hid hr5'
    have hbw5 := hbw4.trans (hb5.mono hbw4.size)
    have b5 := b4.below hb5
    clear hr5 hr5' hb5 hbw4 b4 t0 t1 t2
    by_cases hch : a.ch = true
    · have b6 := b5
      rw [hch] at b6 ⊢
      obtain ⟨t0, t1, t2⟩ := b6.three
      clear b5 b6 hch
      go_wp2_with fail
      go_ret
      exact ⟨rfl, hbw5⟩
    · have hcf : a.ch = false := by simpa using hch
      have HCF := Lib.hid hcf
      have HAF := Lib.hid (show IsArr w (.agg #[.bool false, .slice A a.sh.length ca, .slice D a.da.length cd]) a by have h := HA.out; rwa [hcf] at h)
      clear hch
      rw [hcf] at b5 ⊢
      clear hcf
      have hl6 := below_one w5 (.cells #[.int .i64 (-1)] 3)
      have b6 := b5.alloc (.cells #[.int .i64 (-1)] 3)
      have z0 := (Box.new w5 3 #[.int .i64 (-1)]).isInts (xs := [-1]) (n := 1) rfl (by omega)
      have hbw6 := hbw5.trans (hl6.mono hbw5.size)
      have HO := Lib.hid (opp_told (u := .agg #[.bool false, .slice none 0 0, .slice (some ⟨w5.heap.size, 0, none⟩) 1 1]) ⟨_, _, rfl, (Owns.nil _ 0).isInts, z0⟩ (HAF.out.mono hbw6) HT.out HCF.out HW.out)
      obtain ⟨s0, s1, s2⟩ := b6.three
      obtain ⟨t0, t1, t2⟩ := b5.three
      clear z0 b6
      go_wp2_with fail
      refine HO.out.mono ?_
      rintro e w7 ⟨r7, rfl, hr7, hb7⟩
      have HP7 := Lib.hid (HP.out.mono (hl6.trans (hb7.mono hl6.size)))
      have hbw7 := hbw6.trans (hb7.mono hbw6.size)
      obtain ⟨A7, ca7, D7, cd7, rfl, -, -⟩ := hr7.open_
      have HR7 := Lib.hid hr7
      clear hr7 hb7 s0 s1 s2 t0 t1 t2 hl6 hbw6 hbw5 b5
      have b8 := Box.new w7 24 #[.bool (oppOf a).ch, .slice A7 (oppOf a).sh.length ca7, .slice D7 (oppOf a).da.length cd7]
      have hb8 := below_one w7 (.cells #[.bool (oppOf a).ch, .slice A7 (oppOf a).sh.length ca7, .slice D7 (oppOf a).da.length cd7] 24)
      obtain ⟨s0, s1, s2⟩ := b8.three
      go_wp2_with fail
      have HU7 := Lib.hid (up_told (HR7.out.mono hb8))
      rw [HXX.out.1, HXX.out.2] at HU7
      have hbw8 := hbw7.trans (hb8.mono hbw7.size)
      have HP8 := Lib.hid (HP7.out.mono hb8)
      have b9 := b8
      clear s0 s1 s2 hb8 hbw7
      refine HU7.out.mono ?_
      rintro e w9 ⟨r9, rfl, hr9, hb9⟩
      simp only [errV_zero]
      have hr9' : IsInts w9 r9 (ints X) := hr9
      have HR9 := Lib.hid hr9'
      have HP9 := Lib.hid (HP8.out.mono hb9)
      have hbw9 := hbw8.trans (hb9.mono hbw8.size)
      clear hr9 hr9' hb9 hbw8 b8 b9
      go_wp2_with fail
      refine (list_nil _ _ _ _ _ HP9.out HR9.out).mono ?_
      rintro e w10 ⟨r10, rfl, hr10, hb10⟩
      obtain rfl : r10 = true := by first | exact hr10.2 rfl | exact hr10.2 trivial | simpa using hr10
      have hbw10 := hbw9.trans (hb10.mono hbw9.size)
      clear hr10 hb10 hbw9
      go_wp2_with fail
      go_ret
      exact ⟨rfl, hbw10⟩
  · have HE := Lib.hid hE
    refine HUP.out.mono ?_
    rintro e w5 ⟨r5, rfl, hr5, hb5⟩
    rw [errV_ne HE.out]
    have hbw5 := hbw4.trans (hb5.mono hbw4.size)
    clear hr5 hb5 hbw4 hE
    go_wp2_with fail
    go_ret
    exact ⟨rfl, hbw5⟩
end Go.Proofs.Ytfaojciballhnaa
