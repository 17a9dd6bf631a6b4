/- What grade.Sort tells, whatever it is given. Conditions: none. -/
import Derived.Test.YtfaojciballhnaaGradeSort
set_option linter.unusedSimpArgs false
set_option linter.unusedVariables false
namespace Go.Proofs.Ytfaojciballhnaa
open Go Go.RowKit Go.Proofs.Ytfaojciballhnaa.P
set_option maxHeartbeats 1000000 in
theorem cut_empty {v : Value} {a : Arr} {w : World} {t : List Nat} (r : Nat → List Int) (ha : IsArr w v a) (ht : Ok a (0 :: t)) :
    Calls Try.prog 22 #[v] w fun e w' => ∃ g, e = .returned (.tuple #[.slice (some ⟨g, 0, none⟩) 0 0, .nilIface]) ∧ RowsAt w' g 0 r ∧ Below w.heap.size w w' := by
  obtain ⟨A, ca, D, cd, rfl, hs, hd⟩ := ha.open_
  obtain ⟨as_, x, hax, hx, hasl, hcx⟩ := Elems.at_ (xs := a.sh) (k := 0) (by obtain ⟨_, _, e, _, _, _, _, h9⟩ := hs; injection e with e1 _ _; subst e1; exact h9) (by rw [ht.sh]; simp [ints])
  subst hax
  obtain rfl : x = 0 := by rw [ht.sh] at hx; simpa [ints] using hx.symm
  rw [addr_add_zero] at hcx
  have HA := Lib.hid (check_ok (ha.mono (below_one w (.cells #[.bool a.ch, .slice (some as_) a.sh.length ca, .slice D a.da.length cd] 24))) ht)
  have hsl : a.sh.length = t.length + 1 := by rw [ht.sh]; simp [ints]
  have hmk : ∀ w, (Instr.makeSlice 49 (.int .i64 0) (.int .i64 0)).run Try.prog w = _ := run_make_rows 0 (by omega)
  have hsl1 : 1 ≤ a.sh.length := by rw [hsl]; omega
  have hsz2 : ((a.sh.length : Int) == 0) = false := by rw [beq_eq_false_iff_ne]; omega
  clear ha hs hd ht hx hsl
  go_enter Try.func22, Try.ntmps22
  have b0 := Box.new w 24 #[.bool a.ch, .slice (some as_) a.sh.length ca, .slice D a.da.length cd]
  have hb0 := below_one w (.cells #[.bool a.ch, .slice (some as_) a.sh.length ca, .slice D a.da.length cd] 24)
  obtain ⟨t0, t1, t2⟩ := b0.three
  go_wp2_with fail
  refine HA.out.mono ?_
  rintro e w1 ⟨rfl, hb1⟩
  have hbw := hb0.trans (hb1.mono hb0.size)
  have b1 := b0.below hb1
  have hc1 : w1.cell? as_ = some (.int .i64 0) := (hbw.cell hasl).trans hcx
  clear hb1 hb0 t0 t1 t2 b0 hcx
  obtain ⟨t0, t1, t2⟩ := b1.three
  have hbw2 := hbw.alloc hbw.size (.cells (madeCells #[.slice none 0 0] 0) 22)
  have hbx := Lib.hid (Box.new w1 22 (madeCells #[.slice none 0 0] 0))
  go_wp2_with fail
  refine bodyPost_ret (v := .tuple #[.slice (some ⟨w1.heap.size, 0, none⟩) 0 0, .nilIface]) (by simp [results, Try.results22, go_sem]) rfl ?_
  exact ⟨_, rfl, ⟨_, hbx.out, fun i h => absurd h (Nat.not_lt_zero _)⟩, hbw2⟩
theorem sort_any {v : Value} {a : Arr} {w : World} {n : Nat} {t : List Nat} (ha : IsArr w v a) (ht : Ok a (n :: t)) :
    Calls Try.prog 16 #[v] w (GivesOk (sortOf a) w) := by
  have hr : a.rows = n := by unfold Arr.rows; rw [ht.nsh_eq]; rfl
  have hl : a.long = prod t := by unfold Arr.long; rw [ht.nsh_eq]; rfl
  unfold sortOf
  rw [hr, hl]
  have h : IsOrd (fun x y : Nat => decide (cOf false (rowOf a.da (prod t) x) (rowOf a.da (prod t) y) < 0)) n (gradeOf false (rowOf a.da (prod t)) n) := ordOf_is (cOf_swo false _) n
  refine sort_gen h.length (fun x hx => h.lt hx) ha ht.good.2.2 (by rw [ht.len]; rfl) (fun W hb => ?_) (fun W g hR => ?_)
  · rcases Nat.eq_zero_or_pos n with hz | hz
    · subst hz; exact cut_empty _ (ha.mono hb) ht
    · exact cut_ok (ha.mono hb) ht hz
  · rcases Nat.eq_zero_or_pos n with hz | hz
    · subst hz; exact order_none (c := cOf false) (r := rowOf a.da (prod t))
    · exact order_any enters_up cmps_up (cOf_swo false _) hR hz (ht.good.2.1 n (by simp))
theorem sort_told {v : Value} {a : Arr} {w : World} (ha : IsArr w v a) : Calls Try.prog 16 #[v] w (Told (sortOf a) (gradeErr a) w) := by
  by_cases hE : gradeErr a = 0
  · obtain ⟨n, t, ht⟩ := gradeErr_zero hE
    exact (sort_any ha ht).mono fun e w' h => .inl ⟨hE, h⟩
  · exact (sort_bad ha hE).mono fun e w' h => .inr ⟨hE, h⟩
end Go.Proofs.Ytfaojciballhnaa
