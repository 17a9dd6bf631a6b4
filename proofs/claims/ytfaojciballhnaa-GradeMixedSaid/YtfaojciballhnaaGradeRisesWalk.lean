/- The walk of the law GradeRises. Conditions: none. -/
import Derived.Test.YtfaojciballhnaaGradeFns
import Derived.Test.YtfaojciballhnaaPermS
import Derived.Test.YtfaojciballhnaaAlike
set_option linter.unusedSimpArgs false
set_option linter.unusedVariables false
namespace Go.Proofs.Ytfaojciballhnaa.P
open Go Go.RowKit
open Go.Sort (SWO)
theorem ord_small {lt : Nat → Nat → Bool} (hS : SWO lt) {n : Nat} {l : List Nat} (h1 : l.isPerm (List.range n) = true) (h2 : l.Pairwise fun x y => stb lt id y x = false) : ordOf lt n = l :=
  (ordOf_is hS n).one ⟨List.isPerm_iff.1 h1, h2⟩
theorem gradeOf_is (down : Bool) (r : Nat → List Int) (n : Nat) : IsOrd (fun x y : Nat => decide (cOf down (r x) (r y) < 0)) n (gradeOf down r n) := ordOf_is (cOf_swo down r) n
theorem grade_perm (down : Bool) (r : Nat → List Int) (n : Nat) : Perm (gradeOf down r n) := by
  have h := gradeOf_is down r n
  exact ⟨h.nodup, fun x hx => by rw [h.length]; exact h.lt hx⟩
/-- Of two that stand side by side the first one is less, or they are equal and stood so. -/
theorem grade_rises {r : Nat → List Int} {n i : Nat} {l : List Nat} (h : IsOrd (fun x y : Nat => decide (cOf false (r x) (r y) < 0)) n l) {x y : Nat} (hx : l[i]? = some x) (hy : l[i + 1]? = some y) :
    cmpL (r x) (r y) ≤ 0 ∧ (cmpL (r x) (r y) = 0 → x ≤ y) := by
  obtain ⟨h1, e1⟩ := List.getElem?_eq_some_iff.1 hx
  obtain ⟨h2, e2⟩ := List.getElem?_eq_some_iff.1 hy
  have h3 := List.pairwise_iff_getElem.1 h.2 i (i + 1) h1 h2 (by omega)
  rw [e1, e2, stb_no] at h3
  obtain ⟨h4, h5⟩ := h3
  simp only [decide_eq_false_iff_not, decide_eq_true_eq] at h4 h5
  have h4' : ¬ cmpL (r y) (r x) < 0 := h4
  have h5' : cmpL (r x) (r y) < 0 ∨ x ≤ y := h5
  rw [cmpL_neg] at h4'
  exact ⟨by omega, fun e => by omega⟩
end Go.Proofs.Ytfaojciballhnaa.P
namespace Go.Proofs.Ytfaojciballhnaa
open Go Go.RowKit Go.Proofs.Ytfaojciballhnaa.P
theorem up_535 {v : Value} {w : World} (ha : IsArr w v ⟨false, [3], [5, 3, 5]⟩) :
    Calls Try.prog 7 #[v] w fun e w' => ∃ r, e = .returned (.tuple #[r, .nilIface]) ∧ IsInts w' r [1, 0, 2] ∧ Below w.heap.size w w' := by
  have h := up_told ha
  have e1 : gradeErr ⟨false, [3], [5, 3, 5]⟩ = 0 := by decide
  have e2 : ints (gradeOf false (rowOf [5, 3, 5] (Arr.long ⟨false, [3], [5, 3, 5]⟩)) (Arr.rows ⟨false, [3], [5, 3, 5]⟩)) = [1, 0, 2] := by
    have : gradeOf false (rowOf [5, 3, 5] (Arr.long ⟨false, [3], [5, 3, 5]⟩)) (Arr.rows ⟨false, [3], [5, 3, 5]⟩) = [1, 0, 2] := ord_small (cOf_swo false _) (by decide) (by decide)
    rw [this]; rfl
  rw [e1, e2] at h
  exact h
theorem slice_run {D : Option Addr} {len cd lo L : Nat} {hz : Int} (h1 : lo + L ≤ cd) (e : hz = (lo : Int) + (L : Int)) (w : World) :
    (Instr.slice 22 (.slice D len cd) (some (.int .i64 (lo : Int))) (some (.int .i64 hz)) none).run Try.prog w = .ok (.slice (if cd = lo then D else D.map fun a => a.add lo) L (cd - lo)) w := by
  have h2 : (Instr.slice 22 (.slice D len cd) (some (.int .i64 (lo : Int))) (some (.int .i64 hz)) none).run Try.prog w = _ := run_slice_lh w 22 D len cd Try.underlying22 .i64 .i64 (lo : Int) hz (by omega) (by omega) (by omega)
  have he : Try.prog.elem 22 = 3 := by kernel_rfl
  rw [h2, e, he]
  have e2 : ((lo : Int) + (L : Int)).toNat = lo + L := by omega
  have hzz := Try.sizeOf3 w
  simp only [go_sem, hzz, Result.andThen, sliced, Int.toNat_natCast, e2, Nat.mul_one]
  rw [show lo + L - lo = L by omega]
set_option maxRecDepth 100000 in
set_option maxHeartbeats 4000000 in
theorem gradeRises_walk (v : Value) (a : Arr) (w : World) (ha : IsArr w v a) :
    Calls Try.prog 3 #[v] w (Says w) := by
  obtain ⟨A, ca, D, cd, rfl, hs, hd⟩ := ha.open_
  have hb0 := below_two w (.cells #[.bool a.ch, .slice A a.sh.length ca, .slice D a.da.length cd] 24) (.cells #[.int .i64 5, .int .i64 3, .int .i64 5] 3)
  have b0 := (Box.new w 24 #[.bool a.ch, .slice A a.sh.length ca, .slice D a.da.length cd]).alloc (.cells #[.int .i64 5, .int .i64 3, .int .i64 5] 3)
  have x0 := (Box.new (w.alloc (.cells #[.bool a.ch, .slice A a.sh.length ca, .slice D a.da.length cd] 24)) 3 #[.int .i64 5, .int .i64 3, .int .i64 5]).isInts (xs := [5, 3, 5]) (n := 3) rfl (by omega)
  simp only [World.size_alloc] at x0
  have HA := Lib.hid ha
  have HD := Lib.hid hd
  clear ha hs hd
  go_enter Try.func3, Try.ntmps3
  go_wp2_with fail
  refine (vec_any _ [5, 3, 5] _ x0).mono ?_
  rintro e w1 ⟨r1, rfl, hr1, hb1⟩
  have hbw1 := hb0.trans (hb1.mono hb0.size)
  have b1 := b0.below hb1
  have HR1 := Lib.hid hr1
  clear x0 hb0 b0 hb1 hr1
  go_wp2_with fail
  refine (up_535 HR1.out).mono ?_
  rintro e w2 ⟨r2, rfl, hr2, hb2⟩
  have hbw2 := hbw1.trans (hb2.mono hbw1.size)
  have b2 := b1.below hb2
  have y0 := (Box.new w2 3 #[.int .i64 1, .int .i64 0, .int .i64 2]).isInts (xs := [1, 0, 2]) (n := 3) rfl (by omega)
  have hb3 := below_one w2 (.cells #[.int .i64 1, .int .i64 0, .int .i64 2] 3)
  have HI := Lib.hid (ints_any _ _ _ _ _ (hr2.mono hb3) y0)
  have hbw3 := hbw2.trans (hb3.mono hbw2.size)
  have b3 := b2.below hb3
  clear hb2 hr2 y0 hb3 b1 b2 hbw1 hbw2
  go_wp2_with fail
  refine HI.out.mono ?_
  rintro e w4 ⟨r4, rfl, hr4, hb4⟩
  obtain rfl : r4 = true := by first | exact hr4.2 rfl | exact hr4.2 trivial | simpa using hr4
  have hbw4 := hbw3.trans (hb4.mono hbw3.size)
  have b4 := b3.below hb4
  clear hb4 hr4 b3 hbw3
  obtain ⟨t0, t1, t2⟩ := b4.three
  go_wp2_with fail
  have HUP := Lib.hid (up_told (HA.out.mono hbw4))
  obtain ⟨X, hX⟩ : ∃ X, X = gradeOf false (rowOf a.da a.long) a.rows := ⟨_, rfl⟩
  rw [← hX] at HUP
  by_cases hE : gradeErr a = 0
  · obtain ⟨n, t, ht⟩ := gradeErr_zero hE
    rw [hE] at HUP
    have hr : a.rows = n := by unfold Arr.rows; rw [ht.nsh_eq]; rfl
    have hl : a.long = prod t := by unfold Arr.long; rw [ht.nsh_eq]; rfl
    obtain ⟨L, hL⟩ : ∃ L, L = prod t := ⟨_, rfl⟩
    have HL := Lib.hid hL
    have HT := Lib.hid ht
    have HO := Lib.hid (show IsOrd (fun x y : Nat => decide (cOf false (rowOf a.da L x) (rowOf a.da L y) < 0)) n X by rw [hX, hr, hl, ← hL]; exact gradeOf_is _ _ _)
    have HXL := Lib.hid (show X.length = n from HO.out.length)
    have HXP := Lib.hid (show IsOrder (ints X) by rw [order_ints, hX]; exact grade_perm _ _ _)
    have hn4 : n ≤ 4096 := ht.good.2.1 n (by simp)
    have HP4 := Lib.hid (show n * L ≤ 4096 by rw [hL]; exact ht.good.2.2)
    have HDL := Lib.hid (show a.da.length = n * L by rw [hL, ht.len]; rfl)
    clear hE ht hr hl hX hL
    refine HUP.out.mono ?_
    rintro e w5 ⟨r5, rfl, hr5, hb5⟩
    have hbw5 := hbw4.trans (hb5.mono hbw4.size)
    have b5 := b4.below hb5
    simp only [errV_zero]
    have hr5' : IsInts w5 r5 (ints X) := hr5
    obtain ⟨P, cp, rfl, cp1, cp2, cp3, EP, HP⟩ := hr5'.open_
    rw [length_ints, HXL.out] at HP cp1 ⊢
    have HPI := Lib.hid HP
    have HEP := Lib.hid EP
    clear hr5 hr5' hb5 hbw4 b4 t0 t1 t2 EP HP cp3
    go_wp2_with fail
    refine (permutation_any HPI.out).mono ?_
    rintro e w6 ⟨r6, rfl, hr6, hb6⟩
    obtain rfl : r6 = true := hr6.2 HXP.out
    have hbw6 := hbw5.trans (hb6.mono hbw5.size)
    have b6 := b5.below hb6
    have HB6 := Lib.hid hb6
    clear hr6 hb6 b5
    obtain ⟨t0, t1, t2⟩ := b6.three
    go_wp2_with fail
    refine (rows_any (HA.out.mono hbw6) HT.out).mono ?_
    rintro e w7 ⟨rfl, hb7⟩
    have hbw7 := hbw6.trans (hb7.mono hbw6.size)
    have b7 := b6.below hb7
    have HB7 := Lib.hid (HB6.out.trans (hb7.mono HB6.out.size))
    clear hb7 b6 hbw6 hbw5 t0 t1 t2
    obtain ⟨M, hM⟩ : ∃ M : Nat, M = if n = 0 then 0 else prod t := ⟨_, rfl⟩
    have HM := Lib.hid (show 1 ≤ n → M = L from fun h => by rw [hM, HL.out, if_neg (by omega)])
    rw [← hM]
    clear hM
    have hnn : ((n : Int) != (n : Int)) = false := by simp
    go_wp2_with fail
    go_loopw [11] (fun s11 wr => ∃ i : Nat, 1 ≤ i ∧ s11 = .int .i64 i ∧ Box wr w.heap.size 24 #[.bool a.ch, .slice A a.sh.length ca, .slice D a.da.length cd] ∧ Below w5.heap.size w5 wr ∧ Below w.heap.size w wr) (fun s11 _ => n - (intOf s11).toNat)
    case atStart => exact ⟨1, Nat.le_refl _, rfl, b7, HB7.out, hbw7⟩
    case round =>
      clear b7 HB7 hbw7
      obtain ⟨i, hi, rfl, b, hb5, hbw⟩ := hrel
      rcases Nat.lt_or_ge i n with hlt | hge
      · obtain ⟨j, hj⟩ : ∃ j, i = j + 1 := ⟨i - 1, by omega⟩
        have HJ := Lib.hid hj
        have ej : (i : Int) - 1 = (j : Int) := by omega
        have hjn : j < n := by omega
        clear hj
        have hM : M = L := HM.out (by omega)
        subst hM
        obtain ⟨ap, x, hap, hx, hapl, hcx⟩ := Elems.later HEP.out hb5 (k := j) (by rw [length_ints, HXL.out]; exact hjn)
        subst hap
        obtain ⟨ap2, y, hap2, hy, hapl2, hcy⟩ := Elems.later HEP.out hb5 (k := i) (by rw [length_ints, HXL.out]; exact hlt)
        injection hap2 with hap2
        subst hap2
        obtain ⟨x', hx', rfl⟩ : ∃ x', X[j]? = some x' ∧ ((x' : Nat) : Int) = x := by simpa [ints] using hx
        obtain ⟨y', hy', rfl⟩ : ∃ x', X[i]? = some x' ∧ ((x' : Nat) : Int) = y := by simpa [ints] using hy
        have hxn : x' < n := HO.out.lt (List.mem_of_getElem? hx')
        have hyn : y' < n := HO.out.lt (List.mem_of_getElem? hy')
        obtain ⟨C, hC⟩ : ∃ C, C = cmpL (rowOf a.da M x') (rowOf a.da M y') := ⟨_, rfl⟩
        have hgr := grade_rises HO.out hx' (by rw [← HJ.out]; exact hy')
        rw [← hC] at hgr
        have HGR := Lib.hid hgr
        obtain ⟨p1, hp1⟩ : ∃ q, q = x' * M := ⟨_, rfl⟩
        obtain ⟨p2, hp2⟩ : ∃ q, q = y' * M := ⟨_, rfl⟩
        have lx := rowOf_length HDL.out hxn
        have ly := rowOf_length HDL.out hyn
        have H : ∀ k, Calls Try.prog 12 #[.slice (if cd = p1 then D else D.map fun a => a.add p1) M (cd - p1), .slice (if cd = p2 then D else D.map fun a => a.add p2) M (cd - p2)] (wr.drewN k) fun e w' => e = .returned (.int .i64 C) ∧ ∃ m, w' = (wr.drewN k).drewN m := fun k => by
          have h1 := (row_piece HD.out HDL.out hxn).mono (hbw.trans (below_draws _ wr k))
          have h2 := (row_piece HD.out HDL.out hyn).mono (hbw.trans (below_draws _ wr k))
          rw [lx] at h1
          rw [ly] at h2
          rw [hC, hp1, hp2]
          exact qcmp_any h1 h2 (by rw [lx, ly])
        have q1 : p1 + M ≤ a.da.length := by
          rw [HDL.out, hp1]
          have := Nat.mul_le_mul_right M (show x' + 1 ≤ n from hxn)
          rwa [Nat.add_mul, Nat.one_mul] at this
        have q2 : p2 + M ≤ a.da.length := by
          rw [HDL.out, hp2]
          have := Nat.mul_le_mul_right M (show y' + 1 ≤ n from hyn)
          rwa [Nat.add_mul, Nat.one_mul] at this
        have hd4 : a.da.length ≤ 4096 := by rw [HDL.out]; exact HP4.out
        have hac : a.da.length ≤ cd := by obtain ⟨_, _, e, h1, -⟩ := HD.out; injection e with _ _ e3; omega
        have m1 : (x' : Int) * (M : Int) = (p1 : Int) := by rw [hp1]; push_cast; rfl
        have m2 : (y' : Int) * (M : Int) = (p2 : Int) := by rw [hp2]; push_cast; rfl
        have u1 : IntKind.i64.wrap (p1 : Int) = (p1 : Int) := IntWalk.i64_in _ (by omega)
        have u2 : IntKind.i64.wrap (p2 : Int) = (p2 : Int) := IntWalk.i64_in _ (by omega)
        have u3 : IntKind.i64.wrap ((p1 : Int) + (M : Int)) = (p1 : Int) + (M : Int) := IntWalk.i64_in _ (by omega)
        have u4 : IntKind.i64.wrap ((p2 : Int) + (M : Int)) = (p2 : Int) + (M : Int) := IntWalk.i64_in _ (by omega)
        have u5 : IntKind.i64.wrap (j : Int) = (j : Int) := IntWalk.i64_in _ (by omega)
        have u6 : IntKind.i64.wrap ((i : Int) + 1) = (i : Int) + 1 := IntWalk.i64_in _ (by omega)
        have s1 : (p1 : Int) + (M : Int) ≤ (cd : Int) := by omega
        have s2 : (p2 : Int) + (M : Int) ≤ (cd : Int) := by omega
        have s3 : ((p1 : Int) + (M : Int)).toNat = p1 + M := by omega
        have s4 : ((p2 : Int) + (M : Int)).toNat = p2 + M := by omega
        have s5 : p1 ≤ p1 + M := Nat.le_add_right _ _
        have s6 : p2 ≤ p2 + M := Nat.le_add_right _ _
        obtain ⟨t0, t1, t2⟩ := b.three
        have tl := b.lt
        have E1 := fun w => slice_run (D := D) (len := a.da.length) (cd := cd) (lo := p1) (L := M) (by omega) rfl w
        have E2 := fun w => slice_run (D := D) (len := a.da.length) (cd := cd) (lo := p2) (L := M) (by omega) rfl w
        generalize Value.slice (if cd = p1 then D else D.map fun a => a.add p1) M (cd - p1) = V1 at H E1
        generalize Value.slice (if cd = p2 then D else D.map fun a => a.add p2) M (cd - p2) = V2 at H E2
        clear hx hy hx' hy' hp1 hp2 lx ly hC hgr q1 q2
        go_wp2_with fail
        go_quiet (first | (go_at_fn 12; refine Calls.quiet_of (H _)) | (go_at_call 12; refine Calls.quiet_of (H _)) | (refine Calls.quiet_of (H _)))
        all_goals
          clear H t0 t1 t2 E1 E2
          have c1 : decide (C > 0) = false := decide_eq_false (by have := HGR.out.1; omega)
          by_cases hc : C = 0
          · have c2 : (C == 0) = true := by rw [hc]; rfl
            have c3 : decide ((x' : Int) > (y' : Int)) = false := decide_eq_false (by have := HGR.out.2 hc; omega)
            have c4 : ¬ y' < x' := by have := HGR.out.2 hc; omega
            have c5 : ¬ (y' : Int) < (x' : Int) := by omega
            clear hc
            go_wp2_with fail
            go_roundw
            case rel => exact ⟨i + 1, by omega, by go_num, b.drewN _, hb5.trans (below_draws _ _ _), hbw.trans (below_draws _ _ _)⟩
            case measure => simp [intOf]; omega
          · have c2 : (C == 0) = false := by rw [beq_eq_false_iff_ne]; exact hc
            clear hc
            go_wp2_with fail
            go_roundw
            case rel => exact ⟨i + 1, by omega, by go_num, b.drewN _, hb5.trans (below_draws _ _ _), hbw.trans (below_draws _ _ _)⟩
            case measure => simp [intOf]; omega
      · go_wp2_with fail
        go_ret
        exact ⟨rfl, hbw⟩
  · have HE := Lib.hid hE
    refine HUP.out.mono ?_
    rintro e w5 ⟨r5, rfl, hr5, hb5⟩
    rw [errV_ne HE.out]
    have hbw5 := hbw4.trans (hb5.mono hbw4.size)
    clear hr5 hb5 hbw4 hE
    go_wp2_with fail
    go_ret
    exact ⟨rfl, hbw5⟩
end Go.Proofs.Ytfaojciballhnaa
