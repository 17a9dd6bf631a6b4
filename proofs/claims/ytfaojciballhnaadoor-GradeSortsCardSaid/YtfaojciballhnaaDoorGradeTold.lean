/- What grade.Up and grade.Down tell, whatever they are given. Conditions: none. -/
import Derived.Test.YtfaojciballhnaaDoorGradeUp
set_option linter.unusedSimpArgs false
set_option linter.unusedVariables false
namespace Go.Proofs.YtfaojciballhnaaDoor
open Go Go.RowKit Go.Proofs.YtfaojciballhnaaDoor.P
open Go.Sort (SWO)
/-- A call tells a list, or an error and none. -/
def GTold (xs : List Int) (k : Int) (w : World) (e : Ending) (w' : World) : Prop := ∃ r, e = .returned (.tuple #[r, errV k]) ∧ IsInts w' r (if k = 0 then xs else []) ∧ Below w.heap.size w w'
theorem gradeErr_zero {a : Arr} (h : gradeErr a = 0) : ∃ n t, Ok a (n :: t) := by
  unfold gradeErr at h
  by_cases h1 : arrErr a = 0
  · rw [if_neg (fun e => e h1)] at h
    obtain ⟨t, ht⟩ := ok_of_arrErr h1
    cases t with
    | nil => rw [if_pos (by rw [ht.sh]; rfl)] at h; cases h
    | cons n t => exact ⟨n, t, ht⟩
  · rw [if_pos h1] at h; exact absurd h h1
theorem cut_err {v : Value} {a : Arr} {w : World} (ha : IsArr w v a) (h : gradeErr a ≠ 0) :
    Calls Tryd.prog 15 #[v] w fun e w' => e = .returned (.tuple #[.slice none 0 0, .iface 25 (.int .i64 (gradeErr a))]) ∧ Below w.heap.size w w' := by
  unfold gradeErr at h ⊢
  by_cases h1 : arrErr a = 0
  · rw [if_neg (fun e => e h1)] at h ⊢
    by_cases h2 : a.sh.length = 0
    · rw [if_pos h2]
      obtain ⟨t, ht⟩ := ok_of_arrErr h1
      cases t with
      | nil => exact cut_rank ha ht
      | cons n t => rw [ht.sh] at h2; simp [ints] at h2
    · rw [if_neg h2] at h; exact absurd rfl h
  · rw [if_pos h1]
    exact cut_bad ha h1
theorem sort_none {P : Option Addr} {cv : Value} (w : World) : Calls Tryd.prog 26 #[.slice P 0 0, cv] w fun e w' => e = .returned (.tuple #[]) ∧ w' = w := by
  go_enter Tryd.func26, Tryd.ntmps26
  go_wp2_with fail
  refine (stable_none _).mono ?_
  rintro e w1 ⟨rfl, rfl⟩
  go_wp2_with fail
  go_end0
  exact ⟨rfl, rfl⟩
set_option maxHeartbeats 1000000 in
theorem order_none {P : Option Addr} {f : Nat} {c : List Int → List Int → Int} {r : Nat → List Int} {w : World} :
    Calls Tryd.prog 16 #[.slice P 0 0, .func (.func f) #[] #[]] w fun e w' => ∃ v, e = .returned v ∧ IsInts w' v (ints (ordOf (fun x y : Nat => decide (c (r x) (r y) < 0)) 0)) ∧ Below w.heap.size w w' := by
  have hmk : ∀ w, (Instr.makeSlice 22 (.int .i64 0) (.int .i64 0)).run Tryd.prog w = _ := run_make_list 0 (by omega)
  have hz : ints (ordOf (fun x y : Nat => decide (c (r x) (r y) < 0)) 0) = [] := by unfold ordOf; simp [ints]
  rw [hz]
  have b2 := ((Box.new w 43 #[.slice P 0 0]).alloc (  .cells #[.func (.func f) #[] #[]] 41)).alloc (.cells (madeCells #[.int .i64 0] 0) 3)
  have hbw := below_three w (.cells #[.slice P 0 0] 43) (  .cells #[.func (.func f) #[] #[]] 41) (.cells (madeCells #[.int .i64 0] 0) 3)
  have hrow := Row.made ((w.alloc (.cells #[.slice P 0 0] 43)).alloc (  .cells #[.func (.func f) #[] #[]] 41)) 0
  simp only [World.size_alloc] at hrow
  go_enter Tryd.func16, Tryd.ntmps16
  go_wp2_with fail
  go_loopw [12] (fun s12 wr => s12 = .int .i64 0 ∧ Below w.heap.size w wr ∧ Row wr (w.heap.size + 1 + 1) []) (fun _ _ => 0)
  case atStart => exact ⟨rfl, by first | exact hbw | simpa [madeCells] using hbw, by first | exact hrow | simpa [madeCells] using hrow⟩
  case round =>
    clear hbw hrow b2
    obtain ⟨rfl, hbw, hrow⟩ := hrel
    go_wp2_with fail
    refine (sort_none _).mono ?_
    rintro e w1 ⟨rfl, rfl⟩
    go_wp2_with fail
    go_ret
    exact ⟨_, rfl, hrow.isInts (n := 0) rfl (by omega), hbw⟩

theorem enters_up : ∀ args w, (callFunc 17 args).run Tryd.prog w = .ok (.enter 17 args) w := enters_of Tryd.func17 (by kernel_rfl) rfl
set_option maxHeartbeats 1000000 in
theorem up_told {v : Value} {a : Arr} {w : World} (ha : IsArr w v a) :
    Calls Tryd.prog 6 #[v] w (GTold (ints (gradeOf false (rowOf a.da a.long) a.rows)) (gradeErr a) w) := by
  obtain ⟨A, ca, D, cd, rfl, hs, hd⟩ := ha.open_
  obtain ⟨K, hK⟩ : ∃ K, K = gradeErr a := ⟨_, rfl⟩
  obtain ⟨X, hX⟩ : ∃ X, X = ints (gradeOf false (rowOf a.da a.long) a.rows) := ⟨_, rfl⟩
  have hb0 := below_one w (.cells #[.bool a.ch, .slice A a.sh.length ca, .slice D a.da.length cd] 24)
  have b0 := Box.new w 24 #[.bool a.ch, .slice A a.sh.length ca, .slice D a.da.length cd]
  have HA := Lib.hid (ha.mono hb0)
  by_cases hE : gradeErr a = 0
  · obtain ⟨n, t, ht⟩ := gradeErr_zero hE
    have hr : a.rows = n := by unfold Arr.rows; rw [ht.nsh_eq]; rfl
    have hl : a.long = prod t := by unfold Arr.long; rw [ht.nsh_eq]; rfl
    rw [hE, hr, hl]
    have HT := Lib.hid ht
    have hn4 : n ≤ 4096 := ht.good.2.1 n (by simp)
    clear ha hs hd hE hr hl ht hK hX
    rcases Nat.eq_zero_or_pos n with hz | hz
    · subst hz
      go_enter Tryd.func6, Tryd.ntmps6
      obtain ⟨t0, t1, t2⟩ := b0.three
      go_wp2_with fail
      refine (cut_none HA.out HT.out).mono ?_
      rintro e w1 ⟨g, rfl, hb1⟩
      have hbw := hb0.trans (hb1.mono hb0.size)
      clear hb1 hb0 t0 t1 t2 b0
      go_wp2_with fail
      refine (order_none (c := cOf false) (r := rowOf a.da (prod t))).mono ?_
      rintro e w2 ⟨u, rfl, hu, hb2⟩
      have HU := Lib.hid hu
      have hbw2 := hbw.trans (hb2.mono hbw.size)
      clear hu hb2
      go_wp2_with fail
      refine bodyPost_ret (v := .tuple #[u, .nilIface]) (by simp [results, Tryd.results6, go_sem]) rfl ?_
      exact ⟨u, rfl, HU.out, hbw2⟩
    · go_enter Tryd.func6, Tryd.ntmps6
      obtain ⟨t0, t1, t2⟩ := b0.three
      go_wp2_with fail
      refine (cut_ok HA.out HT.out hz).mono ?_
      rintro e w1 ⟨g, rfl, hr1, hb1⟩
      have HR := Lib.hid hr1
      have hbw := hb0.trans (hb1.mono hb0.size)
      clear hb1 hb0 t0 t1 t2 b0 hr1
      go_wp2_with fail
      refine (order_any enters_up cmps_up (cOf_swo false _) HR.out hz hn4).mono ?_
      rintro e w2 ⟨u, rfl, hu, hb2⟩
      have HU := Lib.hid hu
      have hbw2 := hbw.trans (hb2.mono hbw.size)
      clear hu hb2
      go_wp2_with fail
      refine bodyPost_ret (v := .tuple #[u, .nilIface]) (by simp [results, Tryd.results6, go_sem]) rfl ?_
      exact ⟨u, rfl, HU.out, hbw2⟩
  · have HE := Lib.hid hE
    rw [← hX]
    have HC := Lib.hid (cut_err HA.out hE)
    rw [← hK] at HC HE ⊢
    clear ha hs hd hE hK hX
    go_enter Tryd.func6, Tryd.ntmps6
    obtain ⟨t0, t1, t2⟩ := b0.three
    go_wp2_with fail
    refine HC.out.mono ?_
    rintro e w1 ⟨rfl, hb1⟩
    have hbw := hb0.trans (hb1.mono hb0.size)
    clear hb1 hb0 t0 t1 t2 b0
    go_wp2_with fail
    refine bodyPost_ret (v := .tuple #[.slice none 0 0, .iface 25 (.int .i64 K)]) (by simp [results, Tryd.results6, go_sem]) rfl ?_
    exact ⟨_, by rw [errV_ne HE.out], by rw [if_neg HE.out]; exact (Owns.nil w1 0).isInts, hbw⟩

theorem enters_down : ∀ args w, (callFunc 20 args).run Tryd.prog w = .ok (.enter 20 args) w := enters_of Tryd.func20 (by kernel_rfl) rfl
set_option maxHeartbeats 1000000 in
theorem down_told {v : Value} {a : Arr} {w : World} (ha : IsArr w v a) :
    Calls Tryd.prog 8 #[v] w (GTold (ints (gradeOf true (rowOf a.da a.long) a.rows)) (gradeErr a) w) := by
  obtain ⟨A, ca, D, cd, rfl, hs, hd⟩ := ha.open_
  obtain ⟨K, hK⟩ : ∃ K, K = gradeErr a := ⟨_, rfl⟩
  obtain ⟨X, hX⟩ : ∃ X, X = ints (gradeOf true (rowOf a.da a.long) a.rows) := ⟨_, rfl⟩
  have hb0 := below_one w (.cells #[.bool a.ch, .slice A a.sh.length ca, .slice D a.da.length cd] 24)
  have b0 := Box.new w 24 #[.bool a.ch, .slice A a.sh.length ca, .slice D a.da.length cd]
  have HA := Lib.hid (ha.mono hb0)
  by_cases hE : gradeErr a = 0
  · obtain ⟨n, t, ht⟩ := gradeErr_zero hE
    have hr : a.rows = n := by unfold Arr.rows; rw [ht.nsh_eq]; rfl
    have hl : a.long = prod t := by unfold Arr.long; rw [ht.nsh_eq]; rfl
    rw [hE, hr, hl]
    have HT := Lib.hid ht
    have hn4 : n ≤ 4096 := ht.good.2.1 n (by simp)
    clear ha hs hd hE hr hl ht hK hX
    rcases Nat.eq_zero_or_pos n with hz | hz
    · subst hz
      go_enter Tryd.func8, Tryd.ntmps8
      obtain ⟨t0, t1, t2⟩ := b0.three
      go_wp2_with fail
      refine (cut_none HA.out HT.out).mono ?_
      rintro e w1 ⟨g, rfl, hb1⟩
      have hbw := hb0.trans (hb1.mono hb0.size)
      clear hb1 hb0 t0 t1 t2 b0
      go_wp2_with fail
      refine (order_none (c := cOf true) (r := rowOf a.da (prod t))).mono ?_
      rintro e w2 ⟨u, rfl, hu, hb2⟩
      have HU := Lib.hid hu
      have hbw2 := hbw.trans (hb2.mono hbw.size)
      clear hu hb2
      go_wp2_with fail
      refine bodyPost_ret (v := .tuple #[u, .nilIface]) (by simp [results, Tryd.results8, go_sem]) rfl ?_
      exact ⟨u, rfl, HU.out, hbw2⟩
    · go_enter Tryd.func8, Tryd.ntmps8
      obtain ⟨t0, t1, t2⟩ := b0.three
      go_wp2_with fail
      refine (cut_ok HA.out HT.out hz).mono ?_
      rintro e w1 ⟨g, rfl, hr1, hb1⟩
      have HR := Lib.hid hr1
      have hbw := hb0.trans (hb1.mono hb0.size)
      clear hb1 hb0 t0 t1 t2 b0 hr1
      go_wp2_with fail
      refine (order_any enters_down cmps_down (cOf_swo true _) HR.out hz hn4).mono ?_
      rintro e w2 ⟨u, rfl, hu, hb2⟩
      have HU := Lib.hid hu
      have hbw2 := hbw.trans (hb2.mono hbw.size)
      clear hu hb2
      go_wp2_with fail
      refine bodyPost_ret (v := .tuple #[u, .nilIface]) (by simp [results, Tryd.results8, go_sem]) rfl ?_
      exact ⟨u, rfl, HU.out, hbw2⟩
  · have HE := Lib.hid hE
    rw [← hX]
    have HC := Lib.hid (cut_err HA.out hE)
    rw [← hK] at HC HE ⊢
    clear ha hs hd hE hK hX
    go_enter Tryd.func8, Tryd.ntmps8
    obtain ⟨t0, t1, t2⟩ := b0.three
    go_wp2_with fail
    refine HC.out.mono ?_
    rintro e w1 ⟨rfl, hb1⟩
    have hbw := hb0.trans (hb1.mono hb0.size)
    clear hb1 hb0 t0 t1 t2 b0
    go_wp2_with fail
    refine bodyPost_ret (v := .tuple #[.slice none 0 0, .iface 25 (.int .i64 K)]) (by simp [results, Tryd.results8, go_sem]) rfl ?_
    exact ⟨_, by rw [errV_ne HE.out], by rw [if_neg HE.out]; exact (Owns.nil w1 0).isInts, hbw⟩
end Go.Proofs.YtfaojciballhnaaDoor
