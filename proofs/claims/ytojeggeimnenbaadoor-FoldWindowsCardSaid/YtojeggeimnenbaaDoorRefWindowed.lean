/- The walk of the reference's Windowed. Conditions: none but these. -/
import Derived.Test.YtojeggeimnenbaaDoorRefLinedW
import Derived.Test.YtojeggeimnenbaaDoorGround
set_option linter.unusedSimpArgs false
set_option linter.unusedVariables false
namespace Go.Proofs.YtojeggeimnenbaaDoor
open Go Go.RowKit Go.Proofs.YtojeggeimnenbaaDoor.P
set_option maxRecDepth 100000 in
set_option maxHeartbeats 8000000 in
theorem windowed_rtold {v : Value} {a : Arr} {w : World} {f axis : Int} {n : Int} (ha : IsArr w v a) (hw : Wf a.da) :
    Calls Tryd.prog 14 #[.int .i64 f, .int .i64 n, .int .i64 axis, v] w (RTold (winLine f n axis a) (winFault f n axis a) w) := by
  obtain ⟨A, ca, D, cd, rfl, hs, hd⟩ := ha.open_
  have HA := Lib.hid ha
  have HS := Lib.hid hs
  have HW := Lib.hid hw
  obtain ⟨RA, hRA⟩ : ∃ RA, RA = winLine f n axis a := ⟨_, rfl⟩
  obtain ⟨RE, hRE⟩ : ∃ RE, RE = winFault f n axis a := ⟨_, rfl⟩
  have HRA := Lib.hid hRA
  have HRE := Lib.hid hRE
  rw [← hRA, ← hRE]
  clear ha hs hd hw hRA hRE
  go_enter Tryd.func14, Tryd.ntmps14
  have z1 := (Box.new w 25 #[.bool a.ch, .slice A a.sh.length ca, .slice D a.da.length cd]).alloc (.cells #[.bool false, .slice none 0 0, .slice none 0 0] 25)
  have z3 := Box.new (w.alloc (.cells #[.bool a.ch, .slice A a.sh.length ca, .slice D a.da.length cd] 25)) 25 #[.bool false, .slice none 0 0, .slice none 0 0]
  simp only [World.size_alloc] at z3
  have hb0 := below_two w (.cells #[.bool a.ch, .slice A a.sh.length ca, .slice D a.da.length cd] 25) (.cells #[.bool false, .slice none 0 0, .slice none 0 0] 25)
  obtain ⟨t0, t1, t2⟩ := z1.three
  go_wp2_with fail
  refine (linefault_any (HA.out.mono hb0)).mono ?_
  rintro e w1 ⟨rfl, hb1⟩
  have bA := z1.below hb1
  have bR := z3.below hb1
  have hbw := hb0.trans (hb1.mono hb0.size)
  clear z1 z3 hb0 hb1 t0 t1 t2
  obtain ⟨q0, q1, q2⟩ := bR.three
  have qf := bR.frozen
  have hzR := bR.lt
  by_cases c1 : foldErr f axis a = 0
  case neg =>
    obtain ⟨E, hE⟩ : ∃ E, E = foldErr f axis a := ⟨_, rfl⟩
    have HE := Lib.hid (show RE = E by rw [HRE.out, hE]; unfold winFault; rw [if_pos c1])
    rw [← hE] at c1 ⊢
    have HNZ := Lib.hid c1
    have e1 : (E != 0) = true := by simpa using c1
    clear c1 hE
    go_wp2_with fail
    refine bodyPost_ret (v := .tuple #[zeroArr, .int .i64 E]) (by simp [results, Tryd.results14, go_sem, q0, q1, q2, hzR]) rfl ?_
    rw [HE.out]
    exact RTold.bad HNZ.out (by have := hbw.size; go_grown)
  obtain ⟨t, kk, ht, rfl, hkk, hca, hfz⟩ := foldErr_zero c1
  rw [c1]
  have HT := Lib.hid ht
  have HKK := Lib.hid hkk
  have HC1 := Lib.hid c1
  obtain ⟨L, hL⟩ : ∃ L, L = t.getD kk 0 := ⟨_, rfl⟩
  have HLL := Lib.hid hL
  have hL4 : L ≤ 4096 := by rw [hL, List.getD_eq_getElem?_getD, List.getElem?_eq_getElem hkk]; exact ht.good.2.1 _ (List.getElem_mem _)
  have hal : a.sh.length = t.length := by rw [ht.sh, length_ints]
  have hka : kk < a.sh.length := by omega
  have HXK := Lib.hid (show a.sh[kk]? = some (L : Int) by rw [ht.sh, hL]; exact ints_get hkk)
  obtain ⟨as_, x, hax, hx, has, hcx⟩ := Elems.later (IsInts.elems HS.out) hbw hka
  rw [HXK.out] at hx
  injection hx with hx
  subst hx
  subst hax
  have HBW := Lib.hid hbw
  have HBS := Lib.hid hbw.size
  have hkaz : (kk : Int) < (a.sh.length : Int) := by omega
  obtain ⟨t0, t1, t2⟩ := bA.three
  have hlA := bA.lt
  by_cases hb : n < 1 ∨ (L : Int) < n
  · have HE := Lib.hid (show RE = 4 by rw [HRE.out]; unfold winFault; rw [if_neg (fun h => h c1), ht.nsh_eq, Int.toNat_natCast, ← hL, if_pos hb])
    have HNZ := Lib.hid (show (4 : Int) ≠ 0 by decide)
    clear c1 ht hkk hca hfz hal hL
    by_cases h1 : n < 1
    · have d1 : decide (n < 1) = true := decide_eq_true h1
      clear hb
      go_wp2_with fail
      refine bodyPost_ret (v := .tuple #[zeroArr, .int .i64 4]) (by simp [results, Tryd.results14, go_sem, q0, q1, q2, hzR]) rfl ?_
      rw [HE.out]
      exact RTold.bad HNZ.out (by have := HBW.out.size; have := HBW.out; go_grown)
    · have d1 : decide (n < 1) = false := decide_eq_false h1
      have h2 : (L : Int) < n := hb.resolve_left h1
      have d2 : decide (n > (L : Int)) = true := decide_eq_true h2
      clear hb
      go_wp2_with fail
      refine bodyPost_ret (v := .tuple #[zeroArr, .int .i64 4]) (by simp [results, Tryd.results14, go_sem, q0, q1, q2, hzR]) rfl ?_
      rw [HE.out]
      exact RTold.bad HNZ.out (by have := HBW.out.size; have := HBW.out; go_grown)
  · obtain ⟨m, rfl⟩ := Int.eq_ofNat_of_zero_le (show 0 ≤ n by omega)
    have hm1 : 1 ≤ m := by omega
    have hmL : m ≤ L := by omega
    have HM1 := Lib.hid hm1
    have HMT := Lib.hid (show m ≤ t.getD kk 0 by rw [← hL]; exact hmL)
    have HLM := Lib.hid (show (L : Int) - (m : Int) + 1 = ((t.getD kk 0 - m + 1 : Nat) : Int) by rw [← hL]; omega)
    have HRA2 := Lib.hid (show alongOf f a t kk (t.getD kk 0 - m + 1) (fun j => j) (fun _ => m) = RA by rw [HRA.out]; unfold winLine; rw [ht.nsh_eq, Int.toNat_natCast, Int.toNat_natCast])
    have HRE2 := Lib.hid (show alongErr f a t kk (t.getD kk 0 - m + 1) (fun j => j) (fun _ => m) = RE by rw [HRE.out]; unfold winFault; rw [if_neg (fun h => h c1), ht.nsh_eq, Int.toNat_natCast, ← hL, if_neg hb, Int.toNat_natCast])
    have d1 : decide ((m : Int) < 1) = false := decide_eq_false (by omega)
    have d2 : decide ((m : Int) > (L : Int)) = false := decide_eq_false (by omega)
    have d3 : ¬ (L : Int) < (m : Int) := by omega
    have d4 : ¬ L < m := by omega
    have d5 : ¬ (m : Int) < 1 := by omega
    have d6 : m ≠ 0 := by omega
    have w1 : IntKind.i64.wrap ((L : Int) - (m : Int)) = (L : Int) - (m : Int) := IntWalk.i64_in _ (by omega)
    have w2 : IntKind.i64.wrap ((L : Int) - (m : Int) + 1) = (L : Int) - (m : Int) + 1 := IntWalk.i64_in _ (by omega)
    clear c1 ht hkk hca hfz hal hL hb q0 q1 q2 qf
    go_wp2_with fail
    refine wp_region_gate 15 1 (fun i v lo hi w' => match i with
        | 0 => v = .int .i64 f
        | 1 => v = .int .i64 (kk : Nat)
        | 2 => v = .agg #[.bool a.ch, .slice (some as_) a.sh.length ca, .slice D a.da.length cd]
        | 3 => v = .pointer (some ⟨w.heap.size, 1, none⟩)
        | 4 => v = .slice (some as_) a.sh.length ca
        | 5 => v = .int .i64 (kk : Nat)
        | 6 => v = .pointer (some (as_.add kk))
        | 7 => v = .int .i64 (L : Nat)
        | 8 => v = .int .i64 (m : Nat)
        | 9 => v = .int .i64 ((L : Int) - (m : Int))
        | 10 => v = .int .i64 ((L : Int) - (m : Int) + 1)
        | 11 => v = .int .i64 (m : Nat)
        | 12 => ∃ r, v = .tuple #[r, .int .i64 RE] ∧ IsArr w' r (ans RA RE)
        | 13 => IsArr w' v (ans RA RE)
        | 14 => v = .int .i64 RE
        | _ => True) (by kernel_rfl) (by kernel_rfl) (by kernel_rfl) ?hV ?step ?last
    case hV =>
      intro i v lo hi w1 w2 h hb
      match i, h with
      | 0, h => exact h
      | 1, h => exact h
      | 2, h => exact h
      | 3, h => exact h
      | 4, h => exact h
      | 5, h => exact h
      | 6, h => exact h
      | 7, h => exact h
      | 8, h => exact h
      | 9, h => exact h
      | 10, h => exact h
      | 11, h => exact h
      | 12, ⟨r, h1, h2⟩ => exact ⟨r, h1, h2.mono hb⟩
      | 13, h => exact h.mono hb
      | 14, h => exact h
      | i + 15, _ => trivial
    case step =>
      simp only [List.take_succ_cons, List.take_zero, putAll, Act.put, List.setIfInBounds_toArray, List.set_cons_zero, List.set_cons_succ, Nat.reduceAdd, Nat.zero_add]
      intro i o ho hi u lo up wr hbr hd hj K hK
      obtain ⟨hcw, hfw⟩ := bcell hbr
      match i, ho with
      | 0, ho =>
        simp only [List.getElem?_cons_zero, Option.some.injEq] at ho
        subst ho
        simp only [Act.put, List.setIfInBounds_toArray, List.set_cons_zero, List.set_cons_succ] at hK
        refine wpOp_step rfl fun K' hK' => ?_
        go_simp
        exact hK' _ _ (hK _ _ (Below.refl _ _) rfl)
      | 1, ho =>
        simp only [List.getElem?_cons_succ, List.getElem?_cons_zero, Option.some.injEq] at ho
        subst ho
        simp only [Act.put, List.setIfInBounds_toArray, List.set_cons_zero, List.set_cons_succ] at hK
        refine wpOp_step rfl fun K' hK' => ?_
        go_simp
        exact hK' _ _ (hK _ _ (Below.refl _ _) rfl)
      | 2, ho =>
        simp only [List.getElem?_cons_succ, List.getElem?_cons_zero, Option.some.injEq] at ho
        subst ho
        simp only [Act.put, List.setIfInBounds_toArray, List.set_cons_zero, List.set_cons_succ] at hK
        refine wpOp_step rfl fun K' hK' => ?_
        go_simp
        exact hK' _ _ (hK _ _ (Below.refl _ _) rfl)
      | 3, ho =>
        simp only [List.getElem?_cons_succ, List.getElem?_cons_zero, Option.some.injEq] at ho
        subst ho
        simp only [Act.put, List.setIfInBounds_toArray, List.set_cons_zero, List.set_cons_succ] at hK
        refine wpOp_step rfl fun K' hK' => ?_
        go_simp
        exact hK' _ _ (hK _ _ (Below.refl _ _) rfl)
      | 4, ho =>
        simp only [List.getElem?_cons_succ, List.getElem?_cons_zero, Option.some.injEq] at ho
        subst ho
        simp only [Act.put, List.setIfInBounds_toArray, List.set_cons_zero, List.set_cons_succ] at hK
        have h3 : u 3 = .pointer (some ⟨w.heap.size, 1, none⟩) := hd ⟨3, .data⟩ (by simp) rfl
        simp only [h3] at hK
        refine wpOp_step rfl fun K' hK' => ?_
        go_simp
        exact hK' _ _ (hK _ _ (Below.refl _ _) rfl)
      | 5, ho =>
        simp only [List.getElem?_cons_succ, List.getElem?_cons_zero, Option.some.injEq] at ho
        subst ho
        simp only [Act.put, List.setIfInBounds_toArray, List.set_cons_zero, List.set_cons_succ] at hK
        refine wpOp_step rfl fun K' hK' => ?_
        go_simp
        exact hK' _ _ (hK _ _ (Below.refl _ _) rfl)
      | 6, ho =>
        simp only [List.getElem?_cons_succ, List.getElem?_cons_zero, Option.some.injEq] at ho
        subst ho
        simp only [Act.put, List.setIfInBounds_toArray, List.set_cons_zero, List.set_cons_succ] at hK
        have h4 : u 4 = .slice (some as_) a.sh.length ca := hd ⟨4, .data⟩ (by simp) rfl
        have h5 : u 5 = .int .i64 (kk : Nat) := hd ⟨5, .data⟩ (by simp) rfl
        simp only [h4, h5] at hK
        refine wpOp_step rfl fun K' hK' => ?_
        go_simp
        exact hK' _ _ (hK _ _ (Below.refl _ _) rfl)
      | 7, ho =>
        simp only [List.getElem?_cons_succ, List.getElem?_cons_zero, Option.some.injEq] at ho
        subst ho
        simp only [Act.put, List.setIfInBounds_toArray, List.set_cons_zero, List.set_cons_succ] at hK
        have h6 : u 6 = .pointer (some (as_.add kk)) := hd ⟨6, .data⟩ (by simp) rfl
        simp only [h6] at hK
        have hcx7 : wr.cell? (as_.add kk) = some (.int .i64 (L : Nat)) := (hbr.cell (by rw [addr_block_add]; exact Nat.lt_of_lt_of_le has HBS.out)).trans hcx
        refine wpOp_step rfl fun K' hK' => ?_
        go_simp
        exact hK' _ _ (hK _ _ (Below.refl _ _) rfl)
      | 8, ho =>
        simp only [List.getElem?_cons_succ, List.getElem?_cons_zero, Option.some.injEq] at ho
        subst ho
        simp only [Act.put, List.setIfInBounds_toArray, List.set_cons_zero, List.set_cons_succ] at hK
        refine wpOp_step rfl fun K' hK' => ?_
        go_simp
        exact hK' _ _ (hK _ _ (Below.refl _ _) rfl)
      | 9, ho =>
        simp only [List.getElem?_cons_succ, List.getElem?_cons_zero, Option.some.injEq] at ho
        subst ho
        simp only [Act.put, List.setIfInBounds_toArray, List.set_cons_zero, List.set_cons_succ] at hK
        have h7 : u 7 = .int .i64 (L : Nat) := hd ⟨7, .data⟩ (by simp) rfl
        have h8 : u 8 = .int .i64 (m : Nat) := hd ⟨8, .data⟩ (by simp) rfl
        simp only [h7, h8] at hK
        refine wpOp_step rfl fun K' hK' => ?_
        go_simp
        exact hK' _ _ (hK _ _ (Below.refl _ _) rfl)
      | 10, ho =>
        simp only [List.getElem?_cons_succ, List.getElem?_cons_zero, Option.some.injEq] at ho
        subst ho
        simp only [Act.put, List.setIfInBounds_toArray, List.set_cons_zero, List.set_cons_succ] at hK
        have h9 : u 9 = .int .i64 ((L : Int) - (m : Int)) := hd ⟨9, .data⟩ (by simp) rfl
        simp only [h9] at hK
        refine wpOp_step rfl fun K' hK' => ?_
        go_simp
        exact hK' _ _ (hK _ _ (Below.refl _ _) rfl)
      | 11, ho =>
        simp only [List.getElem?_cons_succ, List.getElem?_cons_zero, Option.some.injEq] at ho
        subst ho
        simp only [Act.put, List.setIfInBounds_toArray, List.set_cons_zero, List.set_cons_succ] at hK
        refine wpOp_step rfl fun K' hK' => ?_
        go_simp
        exact hK' _ _ (hK _ _ (Below.refl _ _) rfl)
      | 12, ho =>
        simp only [List.getElem?_cons_succ, List.getElem?_cons_zero, Option.some.injEq] at ho
        subst ho
        simp only [Act.put, List.setIfInBounds_toArray, List.set_cons_zero, List.set_cons_succ] at hK
        have h0 : u 0 = .int .i64 f := hd ⟨0, .data⟩ (by simp) rfl
        have h1 : u 1 = .int .i64 (kk : Nat) := hd ⟨1, .data⟩ (by simp) rfl
        have h2 : u 2 = .agg #[.bool a.ch, .slice (some as_) a.sh.length ca, .slice D a.da.length cd] := hd ⟨2, .data⟩ (by simp) rfl
        have h10 : u 10 = .int .i64 ((L : Int) - (m : Int) + 1) := hd ⟨10, .data⟩ (by simp) rfl
        have h11 : u 11 = .int .i64 (m : Nat) := hd ⟨11, .data⟩ (by simp) rfl
        simp only [h0, h1, h2, h10, h11] at hK
        refine wpOp_step rfl fun K' hK' => ?_
        go_simp
        have HLN := Lib.hid (lined_win (f := f) (m := m) (HA.out.mono (HBW.out.trans (hbr.mono HBW.out.size))) HT.out HKK.out HW.out HM1.out HMT.out)
        rw [HRA2.out, HRE2.out] at HLN
        rw [← HLM.out] at HLN
        refine HLN.out.mono ?_
        rintro e w5 ⟨r, rfl, hr, hb5⟩
        exact hK' _ _ (hK _ _ hb5 ⟨r, rfl, hr⟩)
      | 13, ho =>
        simp only [List.getElem?_cons_succ, List.getElem?_cons_zero, Option.some.injEq] at ho
        subst ho
        simp only [Act.put, List.setIfInBounds_toArray, List.set_cons_zero, List.set_cons_succ] at hK
        obtain ⟨r, h8, hr8⟩ := hd ⟨12, .data⟩ (by simp) rfl
        simp only [h8] at hK
        refine wpOp_step rfl fun K' hK' => ?_
        go_simp
        exact hK' _ _ (hK _ _ (Below.refl _ _) hr8)
      | 14, ho =>
        simp only [List.getElem?_cons_succ, List.getElem?_cons_zero, Option.some.injEq] at ho
        subst ho
        simp only [Act.put, List.setIfInBounds_toArray, List.set_cons_zero, List.set_cons_succ] at hK
        obtain ⟨r, h8, hr8⟩ := hd ⟨12, .data⟩ (by simp) rfl
        simp only [h8] at hK
        refine wpOp_step rfl fun K' hK' => ?_
        go_simp
        exact hK' _ _ (hK _ _ (Below.refl _ _) rfl)
      | i + 15, ho => omega
    case last =>
      simp only [List.take_succ_cons, List.take_zero, putAll, Act.put, List.setIfInBounds_toArray, List.set_cons_zero, List.set_cons_succ, Nat.reduceAdd, Nat.zero_add]
      intro u wr lo up hbr hv hj
      have hr : IsArr wr (u 13) (ans RA RE) := hv 13 (by omega)
      have e8 : u 14 = .int .i64 RE := hv 14 (by omega)
      obtain ⟨A8, ca8, D8, cd8, h9, -, -⟩ := hr.open_
      rw [h9] at hr
      simp only [e8, h9]
      have HR8 := Lib.hid hr
      have HBR8 := Lib.hid hbr
      have bR8 := bR.below hbr
      obtain ⟨q0, q1, q2⟩ := bR8.three
      have qf := bR8.frozen
      have hzR := bR8.lt
      clear hv hj e8 h9 hr hbr
      unfold tailWp
      refine wpOp_step rfl fun K' hK' => ?_
      go_simp
      refine hK' _ _ ?_
      clear hK'
      refine wpOp_step rfl fun K' hK' => ?_
      go_simp
      refine hK' _ _ ?_
      clear hK'
      go_wp2_with fail
      have hg3 := grownBy_three wr (w.heap.size + 1) (.bool (ans RA RE).ch) (.slice A8 (ans RA RE).sh.length ca8) (.slice D8 (ans RA RE).da.length cd8)
      have z := ((bR8.store 0 (.bool (ans RA RE).ch)).store 1 (.slice A8 (ans RA RE).sh.length ca8)).store 2 (.slice D8 (ans RA RE).da.length cd8)
      simp only [List.setIfInBounds_toArray, List.set_cons_zero, List.set_cons_succ] at z
      obtain ⟨z0, z1, z2⟩ := z.three
      have zl := z.lt
      refine bodyPost_ret (v := .tuple #[.agg #[.bool (ans RA RE).ch, .slice A8 (ans RA RE).sh.length ca8, .slice D8 (ans RA RE).da.length cd8], .int .i64 RE]) (by simp [results, Tryd.results14, go_sem, z0, z1, z2, zl]) rfl ?_
      exact ⟨_, rfl, HR8.out.stored bR8 _ _ _, (HBW.out.trans (HBR8.out.mono HBW.out.size)).grown hg3 (HBW.out.trans (HBR8.out.mono HBW.out.size)).size (fun j e => by cases e; omega)⟩
end Go.Proofs.YtojeggeimnenbaaDoor
