/- The walk of the law GradeUps. Conditions: none. -/
import Derived.Test.YtfaojciballhnaaDoorRefGraded
import Derived.Test.YtfaojciballhnaaDoorIntsYes
set_option linter.unusedSimpArgs false
set_option linter.unusedVariables false
namespace Go.Proofs.YtfaojciballhnaaDoor
open Go Go.RowKit Go.Proofs.YtfaojciballhnaaDoor.P
set_option maxRecDepth 100000 in
set_option maxHeartbeats 4000000 in
theorem gradeUps_walk (v : Value) (a : Arr) (w : World) (hg : Laid0 w) (ha : IsArr w v a) :
    Calls Tryd.prog 3 #[v] w (Says w) := by
  obtain ⟨A, ca, D, cd, rfl, hs, hd⟩ := ha.open_
  have HG := Lib.hid hg
  have HA := Lib.hid ha
  have hb0 := below_one w (.cells #[.bool a.ch, .slice A a.sh.length ca, .slice D a.da.length cd] 24)
  have b0 := Box.new w 24 #[.bool a.ch, .slice A a.sh.length ca, .slice D a.da.length cd]
  obtain ⟨K, hK⟩ : ∃ K, K = gradeErr a := ⟨_, rfl⟩
  obtain ⟨X, hX⟩ : ∃ X, X = (if K = 0 then ints (gradeOf false (rowOf a.da a.long) a.rows) else []) := ⟨_, rfl⟩
  obtain ⟨Y, hY⟩ : ∃ Y, Y = (if K = 0 then ints (gradeOf true (rowOf a.da a.long) a.rows) else []) := ⟨_, rfl⟩
  have H1 := Lib.hid (fun (W : World) (h : Below w.heap.size w W) => show Calls Tryd.prog 5 #[_, .bool false] W (fun e w' => ∃ r, e = .returned (.tuple #[r, .int .i64 K]) ∧ IsInts w' r X ∧ Below W.heap.size W w') from (graded_told false (ha.mono h)).mono fun e w' ⟨r, h1, h2, h3⟩ => ⟨r, by rw [hK]; exact h1, by rw [hX, hK]; exact h2, h3⟩)
  have H2 := Lib.hid (fun (W : World) (h : Below w.heap.size w W) => show Calls Tryd.prog 6 #[_] W (fun e w' => ∃ r, e = .returned (.tuple #[r, errV K]) ∧ IsInts w' r X ∧ Below W.heap.size W w') from (up_told (ha.mono h)).mono fun e w' ⟨r, h1, h2, h3⟩ => ⟨r, by rw [hK]; exact h1, by rw [hX, hK]; exact h2, h3⟩)
  have H3 := Lib.hid (fun (W : World) (h : Below w.heap.size w W) => show Calls Tryd.prog 5 #[_, .bool true] W (fun e w' => ∃ r, e = .returned (.tuple #[r, .int .i64 K]) ∧ IsInts w' r Y ∧ Below W.heap.size W w') from (graded_told true (ha.mono h)).mono fun e w' ⟨r, h1, h2, h3⟩ => ⟨r, by rw [hK]; exact h1, by rw [hY, hK]; exact h2, h3⟩)
  have H4 := Lib.hid (fun (W : World) (h : Below w.heap.size w W) => show Calls Tryd.prog 8 #[_] W (fun e w' => ∃ r, e = .returned (.tuple #[r, errV K]) ∧ IsInts w' r Y ∧ Below W.heap.size W w') from (down_told (ha.mono h)).mono fun e w' ⟨r, h1, h2, h3⟩ => ⟨r, by rw [hK]; exact h1, by rw [hY, hK]; exact h2, h3⟩)
  clear hg ha hs hd hK hX hY
  go_enter Tryd.func3, Tryd.ntmps3
  obtain ⟨t0, t1, t2⟩ := b0.three
  go_wp2_with fail
  refine (H1.out _ hb0).mono ?_
  rintro e w1 ⟨r1, rfl, hr1, hb1⟩
  have hbw1 := hb0.trans (hb1.mono hb0.size)
  have b1 := b0.below hb1
  have HR1 := Lib.hid hr1
  clear t0 t1 t2 b0 hb0 hb1 hr1
  obtain ⟨t0, t1, t2⟩ := b1.three
  go_wp2_with fail
  refine (H2.out _ hbw1).mono ?_
  rintro e w2 ⟨r2, rfl, hr2, hb2⟩
  have hbw2 := hbw1.trans (hb2.mono hbw1.size)
  have b2 := b1.below hb2
  have HR2 := Lib.hid hr2
  have HR12 := Lib.hid (HR1.out.mono hb2)
  clear t0 t1 t2 b1 hb2 hr2 hbw1
  go_wp2_with fail
  refine (ints_same K _ _ X _ (HG.out.mono hbw2) HR2.out HR12.out).mono ?_
  rintro e w3 ⟨rfl, hb3⟩
  have hbw3 := hbw2.trans (hb3.mono hbw2.size)
  have b3 := b2.below hb3
  clear b2 hb3 hbw2
  obtain ⟨t0, t1, t2⟩ := b3.three
  go_wp2_with fail
  refine (H3.out _ hbw3).mono ?_
  rintro e w4 ⟨r4, rfl, hr4, hb4⟩
  have hbw4 := hbw3.trans (hb4.mono hbw3.size)
  have b4 := b3.below hb4
  have HR4 := Lib.hid hr4
  clear t0 t1 t2 b3 hb4 hr4 hbw3
  obtain ⟨t0, t1, t2⟩ := b4.three
  go_wp2_with fail
  refine (H4.out _ hbw4).mono ?_
  rintro e w5 ⟨r5, rfl, hr5, hb5⟩
  have hbw5 := hbw4.trans (hb5.mono hbw4.size)
  have HR5 := Lib.hid hr5
  have HR45 := Lib.hid (HR4.out.mono hb5)
  clear t0 t1 t2 b4 hb5 hr5 hbw4
  go_wp2_with fail
  refine (ints_same K _ _ Y _ (HG.out.mono hbw5) HR5.out HR45.out).mono ?_
  rintro e w6 ⟨rfl, hb6⟩
  have hbw6 := hbw5.trans (hb6.mono hbw5.size)
  clear hb6 hbw5
  go_wp2_with fail
  go_ret
  exact ⟨rfl, hbw6⟩
end Go.Proofs.YtfaojciballhnaaDoor
