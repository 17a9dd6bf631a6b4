/- The walk of the reference's Graded: each row's place is how many are ahead of it. Conditions: none. -/
import Derived.Test.YtfaojciballhnaaDoorGradeTold
import Derived.Test.YtfaojciballhnaaDoorQCmp
import Derived.Test.YtfaojciballhnaaDoorRefFlaw
set_option linter.unusedSimpArgs false
set_option linter.unusedVariables false
namespace Go.Proofs.YtfaojciballhnaaDoor
open Go Go.RowKit Go.Proofs.YtfaojciballhnaaDoor.P
open Go.Sort (SWO)
/-- The reference tells a list and an error's number. -/
def QTold (xs : List Int) (k : Int) (w : World) (e : Ending) (w' : World) : Prop := ∃ r, e = .returned (.tuple #[r, .int .i64 k]) ∧ IsInts w' r (if k = 0 then xs else []) ∧ Below w.heap.size w w'
set_option maxRecDepth 100000 in
theorem slice_run {D : Option Addr} {len cd lo L : Nat} {hz : Int} (h1 : lo + L ≤ cd) (e : hz = (lo : Int) + (L : Int)) (w : World) :
    (Instr.slice 22 (.slice D len cd) (some (.int .i64 (lo : Int))) (some (.int .i64 hz)) none).run Tryd.prog w = .ok (.slice (if cd = lo then D else D.map fun a => a.add lo) L (cd - lo)) w := by
  have h2 : (Instr.slice 22 (.slice D len cd) (some (.int .i64 (lo : Int))) (some (.int .i64 hz)) none).run Tryd.prog w = _ := run_slice_lh w 22 D len cd Tryd.underlying22 .i64 .i64 (lo : Int) hz (by omega) (by omega) (by omega)
  have he : Tryd.prog.elem 22 = 3 := by kernel_rfl
  rw [h2, e, he]
  have e2 : ((lo : Int) + (L : Int)).toNat = lo + L := by omega
  have hzz := Tryd.sizeOf3 w
  simp only [go_sem, hzz, Result.andThen, sliced, Int.toNat_natCast, e2, Nat.mul_one]
  rw [show lo + L - lo = L by omega]
set_option maxRecDepth 100000 in
theorem graded_bad {v : Value} {a : Arr} {w : World} (down : Bool) (ha : IsArr w v a) (hE : gradeErr a ≠ 0) :
    Calls Tryd.prog 5 #[v, .bool down] w fun e w' => e = .returned (.tuple #[.slice none 0 0, .int .i64 (gradeErr a)]) ∧ Below w.heap.size w w' := by
  obtain ⟨A, ca, D, cd, rfl, hs, hd⟩ := ha.open_
  have hb0 := below_one w (.cells #[.bool a.ch, .slice A a.sh.length ca, .slice D a.da.length cd] 24)
  have b0 := Box.new w 24 #[.bool a.ch, .slice A a.sh.length ca, .slice D a.da.length cd]
  have HF := Lib.hid (flaw_any (ha.mono hb0))
  obtain ⟨K, hK⟩ : ∃ K, K = gradeErr a := ⟨_, rfl⟩
  rw [← hK] at hE ⊢
  have HE := Lib.hid hE
  by_cases h1 : arrErr a = 0
  · have h2 : a.sh.length = 0 := by
      by_cases h2 : a.sh.length = 0
      · exact h2
      · exfalso; apply hE; rw [hK]; unfold gradeErr; rw [if_neg (fun e => e h1), if_neg h2]
    have h3 : K = 3 := by rw [hK]; unfold gradeErr; rw [if_neg (fun e => e h1), if_pos h2]
    subst h3
    rw [h1] at HF
    rw [h2] at HF b0 hb0 ⊢
    clear ha hs hd hE hK h1 h2
    go_enter Tryd.func5, Tryd.ntmps5
    obtain ⟨t0, t1, t2⟩ := b0.three
    go_wp2_with fail
    refine HF.out.mono ?_
    rintro e w1 ⟨rfl, hb1⟩
    have hbw := hb0.trans (hb1.mono hb0.size)
    have b1 := b0.below hb1
    clear t0 t1 t2 b0 hb0 hb1
    obtain ⟨t0, t1, t2⟩ := b1.three
    go_wp2_with fail
    refine bodyPost_ret (v := .tuple #[.slice none 0 0, .int .i64 3]) (by simp [results, Tryd.results5, go_sem]) rfl ?_
    exact ⟨rfl, hbw⟩
  · have h3 : K = arrErr a := by rw [hK]; unfold gradeErr; rw [if_pos h1]
    rw [← h3] at HF
    have d1 : (K == 0) = false := by rw [beq_eq_false_iff_ne]; exact hE
    have d2 : (K != 0) = true := by simpa using hE
    clear ha hs hd hE hK h1 h3
    go_enter Tryd.func5, Tryd.ntmps5
    obtain ⟨t0, t1, t2⟩ := b0.three
    go_wp2_with fail
    refine HF.out.mono ?_
    rintro e w1 ⟨rfl, hb1⟩
    have hbw := hb0.trans (hb1.mono hb0.size)
    clear t0 t1 t2 b0 hb0 hb1
    go_wp2_with fail
    refine bodyPost_ret (v := .tuple #[.slice none 0 0, .int .i64 K]) (by simp [results, Tryd.results5, go_sem]) rfl ?_
    exact ⟨rfl, hbw⟩
theorem stb_c {down : Bool} {r : Nat → List Int} {j i : Nat} {c : Int} (hc : c = cOf down (r j) (r i)) : stb (fun x y : Nat => decide (cOf down (r x) (r y) < 0)) id j i = true ↔ (c < 0 ∨ (c = 0 ∧ j < i)) := by
  rw [stb_eq]
  have e : cOf down (r i) (r j) = - c := by
    rw [hc]
    cases down
    · exact cmpL_neg _ _
    · exact cmpL_neg _ _
  simp only [decide_eq_true_eq, decide_eq_false_iff_not, e, id, ← hc]
  omega
set_option maxRecDepth 100000 in
set_option maxHeartbeats 8000000 in
theorem graded_ok {v : Value} {a : Arr} {w : World} {n : Nat} {t : List Nat} (down : Bool) (ha : IsArr w v a) (ht : Ok a (n :: t)) :
    Calls Tryd.prog 5 #[v, .bool down] w fun e w' => ∃ r, e = .returned (.tuple #[r, .int .i64 0]) ∧ IsInts w' r (ints (gradeOf down (rowOf a.da (prod t)) n)) ∧ Below w.heap.size w w' := by
  obtain ⟨A, ca, D, cd, rfl, hs, hd⟩ := ha.open_
  have hb0 := below_one w (.cells #[.bool a.ch, .slice A a.sh.length ca, .slice D a.da.length cd] 24)
  have b0 := Box.new w 24 #[.bool a.ch, .slice A a.sh.length ca, .slice D a.da.length cd]
  have HF := Lib.hid (flaw_any (ha.mono hb0))
  rw [arrErr_ok ht] at HF
  have HA := Lib.hid ha
  have HD := Lib.hid hd
  have HT := Lib.hid ht
  have hsl : a.sh.length = t.length + 1 := by rw [ht.sh]; simp [ints]
  have hs1 : ((a.sh.length : Int) == 0) = false := by rw [beq_eq_false_iff_ne]; omega
  have hs2 : decide ((a.sh.length : Int) = 0) = false := decide_eq_false (by omega)
  have hs3 : 1 ≤ a.sh.length := by omega
  obtain ⟨L, hL⟩ : ∃ L, L = prod t := ⟨_, rfl⟩
  have HDL := Lib.hid (show a.da.length = n * L by rw [hL, ht.len]; rfl)
  have hn4 : n ≤ 4096 := ht.good.2.1 n (by simp)
  have HP4 := Lib.hid (show n * L ≤ 4096 by rw [hL]; exact ht.good.2.2)
  obtain ⟨lt, hlt⟩ : ∃ lt : Nat → Nat → Bool, lt = fun x y : Nat => decide (cOf down (rowOf a.da L x) (rowOf a.da L y) < 0) := ⟨_, rfl⟩
  have HLT := Lib.hid hlt
  have HSW := Lib.hid (show SWO lt by rw [hlt]; exact cOf_swo down _)
  have HG := Lib.hid (show gradeOf down (rowOf a.da (prod t)) n = ordOf lt n by rw [hlt, hL]; rfl)
  rw [HG.out]
  obtain ⟨M, hM⟩ : ∃ M : Nat, M = if n = 0 then 0 else prod t := ⟨_, rfl⟩
  have HM := Lib.hid (show 1 ≤ n → M = L from fun h => by rw [hM, hL, if_neg (by omega)])
  have HRW := Lib.hid (fun (W : World) (h : Below w.heap.size w W) => rows_any (ha.mono h) ht)
  rw [← hM] at HRW
  have hmk := run_make_list n (by omega)
  clear ha hs hd ht hsl hL hlt hM
  go_enter Tryd.func5, Tryd.ntmps5
  obtain ⟨t0, t1, t2⟩ := b0.three
  go_wp2_with fail
  refine HF.out.mono ?_
  rintro e w1 ⟨rfl, hb1⟩
  have hbw := hb0.trans (hb1.mono hb0.size)
  have b1 := b0.below hb1
  clear t0 t1 t2 b0 hb0 hb1
  obtain ⟨t0, t1, t2⟩ := b1.three
  go_wp2_with fail
  refine (HRW.out _ hbw).mono ?_
  rintro e w2 ⟨rfl, hb2⟩
  have hbw2 := hbw.trans (hb2.mono hbw.size)
  have b2 := b1.below hb2
  clear t0 t1 t2 b1 hb2 hbw
  have b3 := b2.alloc (.cells (madeCells #[.int .i64 0] n) 3)
  have hrow := Row.made w2 n
  have hbw3 := hbw2.alloc hbw2.size (.cells (madeCells #[.int .i64 0] n) 3)
  have hg2 := b2.lt
  rw [show List.replicate n (0 : Int) = placesOfTo lt n 0 from rfl] at hrow
  go_wp2_with fail
  obtain ⟨w3, hw3⟩ : ∃ w3, w3 = w2.alloc (.cells (madeCells #[.int .i64 0] n) 3) := ⟨_, rfl⟩
  obtain ⟨g, hg⟩ : ∃ g, g = w2.heap.size := ⟨_, rfl⟩
  rw [← hw3] at b3 hrow hbw3 ⊢
  rw [← hg] at hrow hg2 ⊢
  clear hw3 hg b2 hbw2 hmk
  go_loopw [10] (fun s10 wr => ∃ i : Nat, i ≤ n ∧ s10 = .int .i64 i ∧ Box wr w.heap.size 24 #[.bool a.ch, .slice A a.sh.length ca, .slice D a.da.length cd] ∧ Row wr g (placesOfTo lt n i) ∧ Below w.heap.size w wr) (fun s10 _ => n - (intOf s10).toNat)
  case atStart => exact ⟨0, Nat.zero_le _, rfl, b3, hrow, hbw3⟩
  case round =>
    clear b3 hrow hbw3
    obtain ⟨i, hi, rfl, b, hrow, hbw⟩ := hrel
    rcases Nat.lt_or_ge i n with hin | hge
    · have hMt : M = L := HM.out (by omega)
      subst hMt
      have hinz : (i : Int) < (n : Int) := by omega
      go_wp2_with fail
      go_loopw [11, 12] (fun s11 s12 wr2 => ∃ A5 j : Nat, s11 = .int .i64 A5 ∧ s12 = .int .i64 j ∧ j ≤ n ∧ A5 ≤ j ∧ Hid (A5 = aheadTo lt i j) ∧ Box wr2 w.heap.size 24 #[.bool a.ch, .slice A a.sh.length ca, .slice D a.da.length cd] ∧ Row wr2 g (placesOfTo lt n i) ∧ Below w.heap.size w wr2) (fun _ s12 _ => n - (intOf s12).toNat)
      case atStart => exact ⟨0, 0, rfl, rfl, Nat.zero_le _, Nat.le_refl _, rfl, b, hrow, hbw⟩
      case round =>
        clear b hrow hbw
        obtain ⟨A5, j, rfl, rfl, hj, hA5, HA5, b, hrow, hbw⟩ := hrel
        rcases Nat.lt_or_ge j n with hlt | hge
        · obtain ⟨C, hC⟩ : ∃ C, C = cmpL (rowOf a.da M j) (rowOf a.da M i) := ⟨_, rfl⟩
          obtain ⟨c, hc⟩ : ∃ c, c = cOf down (rowOf a.da M j) (rowOf a.da M i) := ⟨_, rfl⟩
          have HSB := Lib.hid (show stb lt id j i = true ↔ (c < 0 ∨ (c = 0 ∧ j < i)) by rw [HLT.out]; exact stb_c hc)
          have HCC := Lib.hid (show (down = false → c = C) ∧ (down = true → c = - C) from ⟨fun e => by rw [hc, hC, e]; rfl, fun e => by rw [hc, hC, e]; exact cmpL_neg _ _⟩)
          have hC3 := cmpL_three (rowOf a.da M j) (rowOf a.da M i)
          rw [← hC] at hC3
          obtain ⟨p1, hp1⟩ : ∃ q, q = j * M := ⟨_, rfl⟩
          obtain ⟨p2, hp2⟩ : ∃ q, q = i * M := ⟨_, rfl⟩
          have lx := rowOf_length HDL.out hlt
          have ly := rowOf_length HDL.out hin
          have H : ∀ k, Calls Tryd.prog 14 #[.slice (if cd = p1 then D else D.map fun a => a.add p1) M (cd - p1), .slice (if cd = p2 then D else D.map fun a => a.add p2) M (cd - p2)] (wr.drewN k) fun e w' => e = .returned (.int .i64 C) ∧ ∃ m, w' = (wr.drewN k).drewN m := fun k => by
            have h1 := (row_piece HD.out HDL.out hlt).mono (hbw.trans (below_draws _ wr k))
            have h2 := (row_piece HD.out HDL.out hin).mono (hbw.trans (below_draws _ wr k))
            rw [lx] at h1
            rw [ly] at h2
            rw [hC, hp1, hp2]
            exact qcmp_any h1 h2 (by rw [lx, ly])
          have q1 : p1 + M ≤ a.da.length := by
            rw [HDL.out, hp1]
            have := Nat.mul_le_mul_right M (show j + 1 ≤ n from hlt)
            rwa [Nat.add_mul, Nat.one_mul] at this
          have q2 : p2 + M ≤ a.da.length := by
            rw [HDL.out, hp2]
            have := Nat.mul_le_mul_right M (show i + 1 ≤ n from hin)
            rwa [Nat.add_mul, Nat.one_mul] at this
          have hd4 : a.da.length ≤ 4096 := by rw [HDL.out]; exact HP4.out
          have hac : a.da.length ≤ cd := by obtain ⟨_, _, e, h1, -⟩ := HD.out; injection e with _ _ e3; omega
          have m1 : (j : Int) * (M : Int) = (p1 : Int) := by rw [hp1]; push_cast; rfl
          have m2 : (i : Int) * (M : Int) = (p2 : Int) := by rw [hp2]; push_cast; rfl
          have u1 : IntKind.i64.wrap (p1 : Int) = (p1 : Int) := IntWalk.i64_in _ (by omega)
          have u2 : IntKind.i64.wrap (p2 : Int) = (p2 : Int) := IntWalk.i64_in _ (by omega)
          have u3 : IntKind.i64.wrap ((p1 : Int) + (M : Int)) = (p1 : Int) + (M : Int) := IntWalk.i64_in _ (by omega)
          have u4 : IntKind.i64.wrap ((p2 : Int) + (M : Int)) = (p2 : Int) + (M : Int) := IntWalk.i64_in _ (by omega)
          have u5 : IntKind.i64.wrap ((j : Int) + 1) = (j : Int) + 1 := IntWalk.i64_in _ (by omega)
          have u6 : IntKind.i64.wrap ((A5 : Int) + 1) = (A5 : Int) + 1 := IntWalk.i64_in _ (by omega)
          obtain ⟨t0, t1, t2⟩ := b.three
          have tl := b.lt
          have E1 := fun w => slice_run (D := D) (len := a.da.length) (cd := cd) (lo := p1) (L := M) (by omega) rfl w
          have E2 := fun w => slice_run (D := D) (len := a.da.length) (cd := cd) (lo := p2) (L := M) (by omega) rfl w
          generalize Value.slice (if cd = p1 then D else D.map fun a => a.add p1) M (cd - p1) = V1 at H E1
          generalize Value.slice (if cd = p2 then D else D.map fun a => a.add p2) M (cd - p2) = V2 at H E2
          clear hp1 hp2 lx ly hC hc q1 q2
          go_wp2_with fail
          go_quiet (first | (go_at_fn 14; refine Calls.quiet_of (H _)) | (go_at_call 14; refine Calls.quiet_of (H _)) | (refine Calls.quiet_of (H _)))
          all_goals
            have b6 := b.drewN nq
            have hrow6 : Row (wr.drewN nq) g (placesOfTo lt n i) := hrow
            have hbw6 := hbw.trans (below_draws _ wr nq)
            clear H t0 t1 t2 E1 E2 b hrow hbw m1 m2
            generalize wr.drewN nq = w6 at b6 hrow6 hbw6 ⊢
            cases down with
            | false =>
              obtain rfl : c = C := HCC.out.1 rfl
              rcases Int.lt_trichotomy c 0 with hc | hc | hc
              · have HST := Lib.hid (show stb lt id j i = true from HSB.out.2 (.inl hc))
                have d1 : decide (c < 0) = true := decide_eq_true hc
                clear hc
                have HS := Lib.hid (show aheadTo lt i (j + 1) = A5 + 1 by rw [aheadTo_succ, ← HA5.out, if_pos HST.out])
                go_wp2_with fail
                go_roundw
                case rel => exact ⟨A5 + 1, j + 1, by go_num, by go_num, hlt, by omega, HS.out.symm, b6, hrow6, hbw6⟩
                case measure => simp [intOf]; omega
              · have d1 : decide (c < 0) = false := decide_eq_false (by omega)
                have d2 : (c == 0) = true := by rw [hc]; rfl
                rcases Nat.lt_or_ge j i with hj | hj
                · have HST := Lib.hid (show stb lt id j i = true from HSB.out.2 (.inr ⟨hc, hj⟩))
                  clear hc
                  have d3 : decide ((j : Int) < (i : Int)) = true := decide_eq_true (by omega)
                  have HS := Lib.hid (show aheadTo lt i (j + 1) = A5 + 1 by rw [aheadTo_succ, ← HA5.out, if_pos HST.out])
                  go_wp2_with fail
                  go_roundw
                  case rel => exact ⟨A5 + 1, j + 1, by go_num, by go_num, hlt, by omega, HS.out.symm, b6, hrow6, hbw6⟩
                  case measure => simp [intOf]; omega
                · have HST := Lib.hid (show stb lt id j i = false by
                    cases h : stb lt id j i with
                    | false => rfl
                    | true => have := HSB.out.1 h; omega)
                  clear hc
                  have d3 : ¬ j < i := by omega
                  have d4 : ¬ (j : Int) < (i : Int) := by omega
                  have HS := Lib.hid (show aheadTo lt i (j + 1) = A5 by rw [aheadTo_succ, ← HA5.out, if_neg (by rw [HST.out]; decide), Nat.add_zero])
                  go_wp2_with fail
                  go_roundw
                  case rel => exact ⟨A5, j + 1, rfl, by go_num, hlt, by omega, HS.out.symm, b6, hrow6, hbw6⟩
                  case measure => simp [intOf]; omega
              · have HST := Lib.hid (show stb lt id j i = false by
                  cases h : stb lt id j i with
                  | false => rfl
                  | true => have := HSB.out.1 h; omega)
                have d1 : decide (c < 0) = false := decide_eq_false (by omega)
                have d2 : (c == 0) = false := by rw [beq_eq_false_iff_ne]; omega
                clear hc
                have d5 := True.intro
                have HS := Lib.hid (show aheadTo lt i (j + 1) = A5 by rw [aheadTo_succ, ← HA5.out, if_neg (by rw [HST.out]; decide), Nat.add_zero])
                go_wp2_with fail
                go_roundw
                case rel => exact ⟨A5, j + 1, rfl, by go_num, hlt, by omega, HS.out.symm, b6, hrow6, hbw6⟩
                case measure => simp [intOf]; omega
            | true =>
              have eneg : - C = c := (HCC.out.2 rfl).symm
              have wneg : IntKind.i64.wrap c = c := IntWalk.i64_in _ (by omega)
              rcases Int.lt_trichotomy c 0 with hc | hc | hc
              · have HST := Lib.hid (show stb lt id j i = true from HSB.out.2 (.inl hc))
                have d1 : decide (c < 0) = true := decide_eq_true hc
                clear hc
                have HS := Lib.hid (show aheadTo lt i (j + 1) = A5 + 1 by rw [aheadTo_succ, ← HA5.out, if_pos HST.out])
                go_wp2_with fail
                go_roundw
                case rel => exact ⟨A5 + 1, j + 1, by go_num, by go_num, hlt, by omega, HS.out.symm, b6, hrow6, hbw6⟩
                case measure => simp [intOf]; omega
              · have d1 : decide (c < 0) = false := decide_eq_false (by omega)
                have d2 : (c == 0) = true := by rw [hc]; rfl
                rcases Nat.lt_or_ge j i with hj | hj
                · have HST := Lib.hid (show stb lt id j i = true from HSB.out.2 (.inr ⟨hc, hj⟩))
                  clear hc
                  have d3 : decide ((j : Int) < (i : Int)) = true := decide_eq_true (by omega)
                  have HS := Lib.hid (show aheadTo lt i (j + 1) = A5 + 1 by rw [aheadTo_succ, ← HA5.out, if_pos HST.out])
                  go_wp2_with fail
                  go_roundw
                  case rel => exact ⟨A5 + 1, j + 1, by go_num, by go_num, hlt, by omega, HS.out.symm, b6, hrow6, hbw6⟩
                  case measure => simp [intOf]; omega
                · have HST := Lib.hid (show stb lt id j i = false by
                    cases h : stb lt id j i with
                    | false => rfl
                    | true => have := HSB.out.1 h; omega)
                  clear hc
                  have d3 : ¬ j < i := by omega
                  have d4 : ¬ (j : Int) < (i : Int) := by omega
                  have HS := Lib.hid (show aheadTo lt i (j + 1) = A5 by rw [aheadTo_succ, ← HA5.out, if_neg (by rw [HST.out]; decide), Nat.add_zero])
                  go_wp2_with fail
                  go_roundw
                  case rel => exact ⟨A5, j + 1, rfl, by go_num, hlt, by omega, HS.out.symm, b6, hrow6, hbw6⟩
                  case measure => simp [intOf]; omega
              · have HST := Lib.hid (show stb lt id j i = false by
                  cases h : stb lt id j i with
                  | false => rfl
                  | true => have := HSB.out.1 h; omega)
                have d1 : decide (c < 0) = false := decide_eq_false (by omega)
                have d2 : (c == 0) = false := by rw [beq_eq_false_iff_ne]; omega
                clear hc
                have d5 := True.intro
                have HS := Lib.hid (show aheadTo lt i (j + 1) = A5 by rw [aheadTo_succ, ← HA5.out, if_neg (by rw [HST.out]; decide), Nat.add_zero])
                go_wp2_with fail
                go_roundw
                case rel => exact ⟨A5, j + 1, rfl, by go_num, hlt, by omega, HS.out.symm, b6, hrow6, hbw6⟩
                case measure => simp [intOf]; omega
        · obtain rfl : j = n := by omega
          have hA : A5 = aheadTo lt i j := HA5.out
          have hAl : A5 < j := by
            obtain ⟨h, -⟩ := (ordOf_is HSW.out j).placed HSW.out hin
            rw [(ordOf_is HSW.out j).length] at h
            omega
          have hc1 := hrow.at_ (k := A5) (List.getElem?_eq_getElem (by rw [placesOfTo_length]; exact hAl))
          have hfr := Box.frozen hrow A5
          have hgl := Box.lt hrow
          have HST := Lib.hid (show (placesOfTo lt j i).set A5 (i : Int) = placesOfTo lt j (i + 1) by rw [hA]; rfl)
          have wi : IntKind.i64.wrap ((i : Int) + 1) = (i : Int) + 1 := IntWalk.i64_in _ (by omega)
          have hAz : (A5 : Int) < (j : Int) := by omega
          clear hA
          go_wp2_with fail
          go_roundw
          case rel => exact ⟨i + 1, hin, by go_num, b.far (p := ⟨g, A5, none⟩) (by simp; omega) _, by rw [← HST.out]; exact hrow.store A5 _, hbw.setCell (p := ⟨g, A5, none⟩) (by simp; omega) _⟩
          case measure => simp [intOf]; omega
    · obtain rfl : i = n := by omega
      rw [placesOfTo_all HSW.out i] at hrow
      have HLI := Lib.hid (show i = ((ordOf lt i).map fun k => ((k : Nat) : Int)).length by rw [List.length_map, (ordOf_is HSW.out i).length])
      go_wp2_with fail
      refine bodyPost_ret (v := .tuple #[.slice (some ⟨g, 0, none⟩) i i, .int .i64 0]) (by simp [results, Tryd.results5, go_sem]) rfl ?_
      exact ⟨_, rfl, hrow.isInts HLI.out (by omega), hbw⟩
theorem graded_told {v : Value} {a : Arr} {w : World} (down : Bool) (ha : IsArr w v a) :
    Calls Tryd.prog 5 #[v, .bool down] w (QTold (ints (gradeOf down (rowOf a.da a.long) a.rows)) (gradeErr a) w) := by
  by_cases hE : gradeErr a = 0
  · obtain ⟨n, t, ht⟩ := gradeErr_zero hE
    have hr : a.rows = n := by unfold Arr.rows; rw [ht.nsh_eq]; rfl
    have hl : a.long = prod t := by unfold Arr.long; rw [ht.nsh_eq]; rfl
    rw [hE, hr, hl]
    exact graded_ok down ha ht
  · refine (graded_bad down ha hE).mono ?_
    rintro e w' ⟨rfl, hb⟩
    exact ⟨_, rfl, by rw [if_neg hE]; exact (Owns.nil w' 0).isInts, hb⟩
end Go.Proofs.YtfaojciballhnaaDoor
