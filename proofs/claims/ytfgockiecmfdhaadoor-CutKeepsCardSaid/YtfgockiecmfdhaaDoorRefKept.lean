/- The walk of the reference's Kept. Conditions: none. -/
import Derived.Test.YtfgockiecmfdhaaDoorRefTurn
import Derived.Test.YtfgockiecmfdhaaDoorRefMask
import Derived.Test.YtfgockiecmfdhaaDoorKeptPlain
import Derived.Test.YtfgockiecmfdhaaDoorKeepWalk
namespace Go.Proofs.YtfgockiecmfdhaaDoor
open Go Go.RowKit Go.Proofs.YtfgockiecmfdhaaDoor.P

set_option maxRecDepth 100000 in
set_option maxHeartbeats 4000000 in
theorem kept_told {vm v : Value} {m : List Int} {axis : Int} {a : Arr} {w : World} (hm : IsInts w vm m) (ha : IsArr w v a) :
    Calls Tryd.prog 9 #[vm, .int .i64 axis, v] w (RTold (keep m axis.toNat a) (keepErr m axis a) w) := by
  obtain ⟨A, ca, D, cd, rfl, hs, hd⟩ := ha.open_
  obtain ⟨B, cb, rfl, b1, b2, b3, EB, H1⟩ := hm.open_
  obtain ⟨D0, cd0, eD, d1, d2, d3, d0, d4⟩ := id hd
  cases eD
  have HA := Lib.hid ha
  have HS := Lib.hid hs
  have HD := Lib.hid (show Elems w D a.da from d4)
  have HMI := Lib.hid H1
  have HME := Lib.hid EB
  clear ha hs hd d0 d4 hm H1 EB
  go_enter Tryd.func9, Tryd.ntmps9
  have z1 := (Box.new w 24 #[.bool a.ch, .slice A a.sh.length ca, .slice D a.da.length cd]).alloc (.cells #[.bool false, .slice none 0 0, .slice none 0 0] 24)
  have z3 := Box.new (w.alloc (.cells #[.bool a.ch, .slice A a.sh.length ca, .slice D a.da.length cd] 24)) 24 #[.bool false, .slice none 0 0, .slice none 0 0]
  simp only [World.size_alloc] at z3
  have hb0 := below_two w (.cells #[.bool a.ch, .slice A a.sh.length ca, .slice D a.da.length cd] 24) (.cells #[.bool false, .slice none 0 0, .slice none 0 0] 24)
  obtain ⟨t0, t1, t2⟩ := z1.three
  go_wp2_with fail
  refine (axis_any (HA.out.mono hb0)).mono ?_
  rintro e w1 ⟨rfl, hb1⟩
  have bA := z1.below hb1
  have bR := z3.below hb1
  have hbw := hb0.trans (hb1.mono hb0.size)
  clear z1 z3 hb0 hb1 t0 t1 t2
  obtain ⟨q0, q1, q2⟩ := bR.three
  have qf := bR.frozen
  have hzR := bR.lt
  by_cases c1 : axErr axis a = 0
  case neg =>
    have HE0 := Lib.hid c1
    have HE := Lib.hid (show keepErr m axis a = axErr axis a by unfold keepErr; unfold axErr at c1 ⊢; split; rfl; split; rfl; rename_i h1 h2; rw [if_neg h1, if_neg h2] at c1; exact absurd rfl c1)
    have e1 : (axErr axis a != 0) = true := by simp [c1]
    clear c1
    go_wp2_with fail
    refine bodyPost_ret (v := .tuple #[zeroArr, .int .i64 (axErr axis a)]) (by simp [results, Tryd.results9, go_sem, q0, q1, q2, hzR]) rfl ?_
    rw [HE.out]
    exact RTold.bad HE0.out (by have := hbw.size; go_grown)
  have HKE := Lib.hid (show keepErr m axis a = if (m.length : Int) ≠ a.sh.getD axis.toNat 0 then 4 else if ¬ Mask m then 6 else 0 by unfold keepErr; unfold axErr at c1; split at c1; (rename_i h1; exact absurd c1 h1); split at c1; omega; rename_i h1 h2; rw [if_neg h1, if_neg h2])
  obtain ⟨t, kk, ht, rfl, hkk⟩ := axErr_zero c1
  rw [Int.toNat_natCast] at HKE
  have HKK := Lib.hid hkk
  have HT := Lib.hid ht
  have hal : a.sh.length = t.length := by rw [ht.sh, length_ints]
  have hka : kk < a.sh.length := by rw [hal]; exact hkk
  have HKA := Lib.hid hka
  have hsl : a.sh.length ≤ 4096 := by have := ht.good.1; omega
  have HAL := Lib.hid hal
  have hdl : a.da.length ≤ 4096 := by rw [ht.len]; exact ht.good.2.2
  rw [c1]
  obtain ⟨M, hM⟩ : ∃ M, M = t.getD kk 0 := ⟨_, rfl⟩
  have hshk : a.sh.getD kk 0 = (M : Int) := by rw [ht.sh, hM]; rw [List.getD_eq_getElem?_getD, ints_get hkk]; rfl
  have HMM := Lib.hid hM
  obtain ⟨as_, y, rfl, hy, has, hcy⟩ := Elems.later (IsInts.elems HS.out) hbw (k := kk) hka
  have hyM : y = (M : Int) := by rw [List.getD_eq_getElem?_getD, hy] at hshk; exact hshk
  subst hyM
  have lA := bA.lt
  obtain ⟨t0, t1, t2⟩ := bA.three
  clear c1 ht hkk hal hM hy
  by_cases c2 : m.length = M
  case neg =>
    have HE := Lib.hid (show keepErr m (kk : Int) a = 4 by rw [HKE.out, if_pos (by rw [hshk]; omega)])
    have e2 : ((m.length : Int) != (M : Int)) = true := by simp; omega
    clear c2
    go_wp2_with fail
    refine bodyPost_ret (v := .tuple #[zeroArr, .int .i64 4]) (by simp [results, Tryd.results9, go_sem, q0, q1, q2, hzR]) rfl ?_
    rw [HE.out]
    exact RTold.bad (by decide) (by have := hbw.size; go_grown)
  have C2 := Lib.hid c2
  have e2 : ((m.length : Int) != (M : Int)) = false := by simp; omega
  clear c2
  go_wp2_with fail
  refine (rmask_any _ m _ (HMI.out.mono hbw)).mono ?_
  rintro e w2 ⟨rfl, rfl⟩
  by_cases c3 : Mask m
  case neg =>
    have HE := Lib.hid (show keepErr m (kk : Int) a = 6 by rw [HKE.out, if_neg (by rw [hshk]; have := C2.out; omega), if_pos c3])
    rw [decide_eq_false c3]
    clear c3
    go_wp2_with fail
    refine bodyPost_ret (v := .tuple #[zeroArr, .int .i64 6]) (by simp [results, Tryd.results9, go_sem, q0, q1, q2, hzR]) rfl ?_
    rw [HE.out]
    exact RTold.bad (by decide) (by have := hbw.size; go_grown)
  have HE := Lib.hid (show keepErr m (kk : Int) a = 0 by rw [HKE.out, if_neg (by rw [hshk]; have := C2.out; omega), if_neg (fun h => h c3)])
  have HMK := Lib.hid c3
  rw [decide_eq_true c3]
  obtain ⟨C, hC⟩ : ∃ C, C = cnt m m.length := ⟨_, rfl⟩
  have HC := Lib.hid hC
  have hCM : C ≤ M := by rw [hC, ← C2.out]; exact cnt_le _ _
  have HML := Lib.hid (show m.length = t.getD kk 0 by rw [C2.out, HMM.out])
  obtain ⟨X, hX⟩ : ∃ X, X = (keep m kk a).da := ⟨_, rfl⟩
  have HX := Lib.hid hX
  have HOK := Lib.hid (keep_ok HT.out HKK.out HML.out)
  obtain ⟨n, hn⟩ : ∃ n, n = innerOf t kk := ⟨_, rfl⟩
  have HNN := Lib.hid hn
  have HPR := Lib.hid (show a.da.length = outerOf t kk * M * n by rw [HT.out.len, prod_axis HKK.out, HMM.out, HNN.out])
  have HXL := Lib.hid (show X.length = outerOf t kk * C * n by rw [hX, HOK.out.len, prod_set HKK.out, HC.out, HNN.out])
  clear c3 hC hX hn q0 q1 q2 qf hzR hcy has hshk HKE
  obtain ⟨wP, hwP⟩ : ∃ wP, wP = w1 := ⟨_, rfl⟩
  subst hwP
  have hlA := bA.lt
  have hlR := bR.lt
  have HSW1 := Lib.hid (HS.out.mono hbw)
  go_wp2_with fail
  refine wp_region_open (fun i v lo hi w' => match i with
    | 0 => v = .pointer (some ⟨w.heap.size, 0, none⟩)
    | 1 => v = .bool a.ch
    | 2 => v = .pointer (some ⟨w.heap.size, 1, none⟩)
    | 3 => v = .slice (some as_) a.sh.length ca
    | 4 => ∃ m, v = .slice (some ⟨m, 0, none⟩) a.sh.length a.sh.length ∧ Row w' m (a.sh) ∧ lo ≤ m ∧ m < hi ∧ wP.heap.size ≤ lo
    | 5 => ∃ ms, v = .agg #[.bool a.ch, .slice (some ⟨ms, 0, none⟩) a.sh.length a.sh.length, .slice none 0 0] ∧ Row w' ms (a.sh) ∧ wP.heap.size ≤ ms
    | 6 => ∃ g, v = .pointer (some ⟨g, 0, none⟩) ∧ Box w' g 24 #[.bool false, .slice none 0 0, .slice none 0 0] ∧ wP.heap.size ≤ g
    | _ => True) (by kernel_rfl) (by kernel_rfl) (by kernel_rfl) ?hV ?step ?last
  case hV =>
    intro i v lo hi w1 w2 h hb
    match i, h with
    | 0, h => exact h
    | 1, h => exact h
    | 2, h => exact h
    | 3, h => exact h
    | 4, ⟨m, e, ho, hm, hl, hz⟩ => exact ⟨m, e, Box.below ho hb, hm, hl, hz⟩
    | 5, ⟨ms, e, hrs, hms⟩ => exact ⟨ms, e, Box.below hrs hb, hms⟩
    | 6, ⟨g, e, hx, hz⟩ => exact ⟨g, e, hx.below hb, hz⟩
    | i + 7, _ => trivial
  case step =>
    simp only [putAll, Act.put, List.setIfInBounds_toArray, List.set_cons_zero, List.set_cons_succ, Nat.reduceAdd, Nat.zero_add]
    intro i o ho hi uu lo up wr hbr hd hj K hK
    obtain ⟨hcw, hfw⟩ := bcell hbr
    match i, ho with
    | 0, ho =>
      simp only [List.getElem?_cons_zero, Option.some.injEq] at ho
      subst ho
      first | (simp [Region.binds] at hd; simp only [hd] at hK) | skip
      refine wpOp_step rfl fun K' hK' => ?_
      go_simp
      exact hK' _ _ (hK _ _ (Below.refl _ _) rfl)
    | 1, ho =>
      simp only [List.getElem?_cons_succ, List.getElem?_cons_zero, Option.some.injEq] at ho
      subst ho
      first | (simp [Region.binds] at hd; simp only [hd] at hK) | skip
      refine wpOp_step rfl fun K' hK' => ?_
      go_simp
      exact hK' _ _ (hK _ _ (Below.refl _ _) rfl)
    | 2, ho =>
      simp only [List.getElem?_cons_succ, List.getElem?_cons_zero, Option.some.injEq] at ho
      subst ho
      first | (simp [Region.binds] at hd; simp only [hd] at hK) | skip
      refine wpOp_step rfl fun K' hK' => ?_
      go_simp
      exact hK' _ _ (hK _ _ (Below.refl _ _) rfl)
    | 3, ho =>
      simp only [List.getElem?_cons_succ, List.getElem?_cons_zero, Option.some.injEq] at ho
      subst ho
      first | (simp [Region.binds] at hd; simp only [hd] at hK) | skip
      refine wpOp_step rfl fun K' hK' => ?_
      go_simp
      exact hK' _ _ (hK _ _ (Below.refl _ _) rfl)
    | 4, ho =>
      simp only [List.getElem?_cons_succ, List.getElem?_cons_zero, Option.some.injEq] at ho
      subst ho
      first | (simp [Region.binds] at hd; simp only [hd] at hK) | skip
      refine wpOp_step rfl fun K' hK' => ?_
      go_simp
      refine (copied_ok _ (a.sh) _ (HSW1.out.mono (((Below.refl wP.heap.size wP)).trans (hbr.mono (Nat.le_refl _)))) hsl).mono ?_
      rintro e w1 ⟨g1, rfl, hg1, hr1, hb1⟩
      have hz := hbr.size
      try simp only [World.size_alloc] at hz
      exact hK' _ _ (hK _ _ hb1 ⟨g1, rfl, hr1, hg1, Box.lt hr1, by omega⟩)
    | 5, ho =>
      simp only [List.getElem?_cons_succ, List.getElem?_cons_zero, Option.some.injEq] at ho
      subst ho
      have h1 : uu 1 = .bool a.ch := hd ⟨1, .data⟩ (by simp) rfl
      obtain ⟨ms, es, os, mds, ls, zs⟩ := hd ⟨4, .data⟩ (by simp) rfl
      dsimp only at os mds ls zs
      simp only [h1, es] at hK
      refine wpOp_step rfl fun K' hK' => ?_
      go_simp
      exact hK' _ _ (hK _ _ (Below.refl _ _) ⟨ms, rfl, os, by omega⟩)
    | 6, ho =>
      simp only [List.getElem?_cons_succ, List.getElem?_cons_zero, Option.some.injEq] at ho
      subst ho
      first | (simp [Region.binds] at hd; simp only [hd] at hK) | skip
      have hz := hbr.size
      try simp only [World.size_alloc] at hz
      refine wpOp_step rfl fun K' hK' => ?_
      go_simp
      exact hK' _ _ (hK _ _ (below_one _ _) ⟨_, rfl, Box.new _ _ _, by omega⟩)
    | i + 7, ho => simp at hi; omega
  case last =>
    simp only [putAll, Act.put, List.setIfInBounds_toArray, List.set_cons_zero, List.set_cons_succ, Nat.reduceAdd, Nat.zero_add]
    intro uu wr lo up hbr hv hj
    obtain ⟨ms, e9, r4, m4⟩ := hv 5 (by simp)
    obtain ⟨g, e10, bg, hg⟩ := hv 6 (by simp)
    obtain ⟨g0, g1, g2⟩ := bg.three
    have gf := bg.frozen
    simp only [e9, e10]
    clear hv hj e9 e10
    refine wpOp_step rfl fun K' hK' => ?_
    go_simp
    refine hK' _ _ ?_
    have hbw := ((Below.refl wP.heap.size wP)).trans (hbr.mono (Nat.le_refl _))
    have hgg := grownBy_three wr g (.bool a.ch) (.slice (some ⟨ms, 0, none⟩) a.sh.length a.sh.length) (.slice none 0 0)
    have i1 := ((bg.store 0 (.bool a.ch)).store 1 (.slice (some ⟨ms, 0, none⟩) a.sh.length a.sh.length)).store 2 (.slice none 0 0)
    simp only [List.setIfInBounds_toArray, List.set_cons_zero, List.set_cons_succ] at i1
    have hgms : g ≠ ms := Box.apart bg r4 (by decide)
    have i3 : Row _ ms _ := Box.grown r4 hgg (by intro e; injection e with e; exact hgms e)
    have iw := hbw.grown hgg hbw.size (fun j e => by cases e; omega)
    have hgl : g < (((wr.setCell ⟨g, 0, none⟩ (.bool a.ch)).setCell ⟨g, 1, none⟩ (.slice (some ⟨ms, 0, none⟩) a.sh.length a.sh.length)).setCell ⟨g, 2, none⟩ (.slice none 0 0)).heap.size := i1.lt
    clear hbr hgg r4 bg g0 g1 g2 gf hbw hK' 
    generalize (((wr.setCell ⟨g, 0, none⟩ (.bool a.ch)).setCell ⟨g, 1, none⟩ (.slice (some ⟨ms, 0, none⟩) a.sh.length a.sh.length)).setCell ⟨g, 2, none⟩ (.slice none 0 0)) = W2 at i3 i1 iw hgl ⊢
    have hgP : wP.heap.size ≤ g := hg
    have hmP := m4
    have hmW := Box.lt i3
    have hW12 := iw.size
    have HI1 := Lib.hid i1
    have HI3 := Lib.hid i3
    have HIW := Lib.hid iw
    have HGM := Lib.hid hgms
    have HMW := Lib.hid (HMI.out.mono (hbw.trans (iw.mono hbw.size)))
    obtain ⟨g0, g1, g2⟩ := i1.three
    clear i1 i3 iw hgms hg m4 t0 t1 t2
    go_wp2_with fail
    refine wp_region_gate 6 0 (fun i v lo hi w' => match i with
        | 0 => v = .pointer (some ⟨g, 1, none⟩)
        | 1 => v = .slice (some ⟨ms, 0, none⟩) a.sh.length a.sh.length
        | 2 => v = .int .i64 (kk : Nat)
        | 3 => v = .slice B m.length cb
        | 4 => v = .int .i64 (C : Nat)
        | 5 => v = .pointer (some ⟨ms, kk, none⟩)
        | _ => True) (by kernel_rfl) (by kernel_rfl) (by kernel_rfl) ?hV ?step ?last
    case hV =>
      intro i v lo hi w1 w2 h hb
      match i, h with
      | 0, h => exact h
      | 1, h => exact h
      | 2, h => exact h
      | 3, h => exact h
      | 4, h => exact h
      | 5, h => exact h
      | i + 6, _ => trivial
    case step =>
      simp only [List.take_succ_cons, List.take_zero, putAll, Act.put, List.setIfInBounds_toArray, List.set_cons_zero, List.set_cons_succ, Nat.reduceAdd, Nat.zero_add]
      intro i o ho hi u lo up wr hbr hd hj K hK
      obtain ⟨hcw, hfw⟩ := bcell hbr
      match i, ho with
      | 0, ho =>
        simp only [List.getElem?_cons_zero, Option.some.injEq] at ho
        subst ho
        simp only [Act.put, List.setIfInBounds_toArray, List.set_cons_zero, List.set_cons_succ] at hK
        first | (simp [Region.binds] at hd; simp only [hd] at hK) | skip
        refine wpOp_step rfl fun K' hK' => ?_
        go_simp
        exact hK' _ _ (hK _ _ (Below.refl _ _) rfl)
      | 1, ho =>
        simp only [List.getElem?_cons_succ, List.getElem?_cons_zero, Option.some.injEq] at ho
        subst ho
        simp only [Act.put, List.setIfInBounds_toArray, List.set_cons_zero, List.set_cons_succ] at hK
        first | (simp [Region.binds] at hd; simp only [hd] at hK) | skip
        refine wpOp_step rfl fun K' hK' => ?_
        go_simp
        exact hK' _ _ (hK _ _ (Below.refl _ _) rfl)
      | 2, ho =>
        simp only [List.getElem?_cons_succ, List.getElem?_cons_zero, Option.some.injEq] at ho
        subst ho
        simp only [Act.put, List.setIfInBounds_toArray, List.set_cons_zero, List.set_cons_succ] at hK
        first | (simp [Region.binds] at hd; simp only [hd] at hK) | skip
        refine wpOp_step rfl fun K' hK' => ?_
        go_simp
        exact hK' _ _ (hK _ _ (Below.refl _ _) rfl)
      | 3, ho =>
        simp only [List.getElem?_cons_succ, List.getElem?_cons_zero, Option.some.injEq] at ho
        subst ho
        simp only [Act.put, List.setIfInBounds_toArray, List.set_cons_zero, List.set_cons_succ] at hK
        first | (simp [Region.binds] at hd; simp only [hd] at hK) | skip
        refine wpOp_step rfl fun K' hK' => ?_
        go_simp
        exact hK' _ _ (hK _ _ (Below.refl _ _) rfl)
      | 4, ho =>
        simp only [List.getElem?_cons_succ, List.getElem?_cons_zero, Option.some.injEq] at ho
        subst ho
        simp only [Act.put, List.setIfInBounds_toArray, List.set_cons_zero, List.set_cons_succ] at hK
        have h3 : u 3 = .slice B m.length cb := hd ⟨3, .data⟩ (by simp) rfl
        simp only [h3] at hK
        refine wpOp_step rfl fun K' hK' => ?_
        go_simp
        refine (rsum_ok _ m _ (HMW.out.mono hbr) HMK.out).mono ?_
        rintro e w6 ⟨rfl, rfl⟩
        rw [← HC.out]
        exact hK' _ _ (hK _ _ (Below.refl _ _) rfl)
      | 5, ho =>
        simp only [List.getElem?_cons_succ, List.getElem?_cons_zero, Option.some.injEq] at ho
        subst ho
        simp only [Act.put, List.setIfInBounds_toArray, List.set_cons_zero, List.set_cons_succ] at hK
        first | (simp [Region.binds] at hd; simp only [hd] at hK) | skip
        refine wpOp_step rfl fun K' hK' => ?_
        go_simp
        exact hK' _ _ (hK _ _ (Below.refl _ _) rfl)
      | i + 6, ho => omega
    case last =>
      simp only [List.take_succ_cons, List.take_zero, putAll, Act.put, List.setIfInBounds_toArray, List.set_cons_zero, List.set_cons_succ, Nat.reduceAdd, Nat.zero_add]
      intro u wr lo up hbr hv hj
      have e4 : u 4 = .int .i64 (C : Nat) := hv 4 (by omega)
      have e5 : u 5 = .pointer (some ⟨ms, kk, none⟩) := hv 5 (by omega)
      simp only [e4, e5]
      clear hv hj e4 e5
      have hrr : Row wr ms a.sh := Box.below HI3.out hbr
      have hcs := hrr.at_ (List.getElem?_eq_getElem HKA.out)
      have hfs := Box.frozen hrr kk
      have hst := hrr.store kk (C : Int)
      have HST := Lib.hid hst
      have HI1r := Lib.hid ((HI1.out.below hbr).far (p := ⟨ms, kk, none⟩) (by simp; exact HGM.out) (.int .i64 (C : Int)))
      have HBr := Lib.hid ((HIW.out.trans (hbr.mono HIW.out.size)).setCell (p := ⟨ms, kk, none⟩) (by simp; omega) (.int .i64 (C : Int)))
      have hzr := hbr.size
      unfold tailWp
      refine wpOp_step rfl fun K' hK' => ?_
      go_simp
      refine hK' _ _ ?_
      clear hK' hst
      obtain ⟨W3, hW3⟩ : ∃ W3, W3 = wr.setCell ⟨ms, kk, none⟩ (.int .i64 (C : Int)) := ⟨_, rfl⟩
      rw [← hW3] at HST HI1r HBr ⊢
      have hz3 : W2.heap.size ≤ W3.heap.size := by rw [hW3]; simpa using hzr
      clear hW3 g0 g1 g2 hrr hcs hfs
      go_wp2_with fail
      go_loopw [10] (fun sI wr => ∃ (k K : Nat) (A4 : Option Addr) (c4 : Nat), k ≤ a.da.length ∧ K ≤ k ∧ sI = .int .i64 k ∧ Box wr g 24 #[.bool a.ch, .slice (some ⟨ms, 0, none⟩) a.sh.length a.sh.length, .slice A4 K c4] ∧ Owns wr W2.heap.size (.slice A4 K c4) K (X.take K) ∧ Row wr ms (a.sh.set kk (C : Int)) ∧ Below wP.heap.size wP wr ∧ W2.heap.size ≤ wr.heap.size ∧ (0 < M → 0 < n → KAt m M n k K) ∧ (M = 0 ∨ n = 0 → K = 0)) (fun sI _ => a.da.length - (intOf sI).toNat)
      case atStart => exact ⟨0, 0, none, 0, Nat.zero_le _, Nat.le_refl _, rfl, HI1r.out, Owns.nil _ _, HST.out, HBr.out, hz3, (fun h1 h2 => KAt.start m h1 h2), fun _ => rfl⟩
      case round =>
        obtain ⟨k, K, A4, c4, hk, hKk, rfl, h1, h2, h3, hbl, hws, hka1, hka0⟩ := hrel
        have HKA1 := Lib.hid hka1
        have HKA0 := Lib.hid hka0
        clear hka1 hka0
        have hlo := h1.lt
        have hlm := Box.lt h3
        obtain ⟨t0, t1, t2⟩ := (bA.below hbl).three
        have lA2 := (bA.below hbl).lt
        rcases Nat.lt_or_ge k a.da.length with hlt | hge
        · have HPT := Lib.hid (show k < prod t by rw [← HT.out.len]; exact hlt)
          have hz := hbl.size
          have HH1 := Lib.hid h1
          have HH2 := Lib.hid h2
          have HH3 := Lib.hid h3
          have HBL := Lib.hid hbl
          have hbwl := hbw.trans (hbl.mono hbw.size)
          have HSL := Lib.hid ((HS.out.mono hbwl).eq' HT.out.sh)
          clear h1 h2 h3 hbl
          go_wp2_with fail
          refine (coords_ok _ t k _ HSL.out HT.out.good.1 HT.out.good.2.1 HPT.out (by omega)).mono ?_
          rintro e w5 ⟨g5, rfl, hg5, hr5, hb5⟩
          have hbl5 := HBL.out.trans (hb5.mono HBL.out.size)
          have h15 := HH1.out.below hb5
          have h25 := HH2.out.below hb5
          have h35 : Row w5 ms (a.sh.set kk (C : Int)) := Box.below HH3.out hb5
          have hs5 := hb5.size
          have hkl : kk < t.length := HKK.out
          have hcl := coords_lt HPT.out hkl
          have hc1 := hr5.at_ (show (ints (coords t k))[kk]? = some (((coords t k).getD kk 0 : Nat) : Int) from ints_get (by rw [length_coords]; exact hkl))
          obtain ⟨ix, hix⟩ : ∃ ix, ix = (coords t k).getD kk 0 := ⟨_, rfl⟩
          rw [← hix] at hc1 hcl
          have hixm : ix < m.length := by rw [HML.out]; exact hcl
          obtain ⟨am, x, rfl, hx, ham, hcm⟩ := Elems.later HME.out (hbw.trans (hbl5.mono hbw.size)) hixm
          obtain ⟨ad, y, hay, hy, hal, hcy⟩ := Elems.later HD.out (hbw.trans (hbl5.mono hbw.size)) hlt
          subst hay
          have hst0 := HT.out.len
          have hM0 : 0 < M := by rw [HMM.out]; omega
          have hn0 : 0 < n := by
            rcases Nat.eq_zero_or_pos n with h | h
            · exfalso; have := HPR.out; rw [h, Nat.mul_zero] at this; omega
            · exact h
          have hks := kept_step HT.out hkl HML.out HPT.out (by rw [← HMM.out, ← HNN.out]; exact HKA1.out hM0 hn0)
          rw [← hix, hx, ← HMM.out, ← HNN.out] at hks
          have HKS := Lib.hid hks
          have HY := Lib.hid hy
          have hne := h25.ne_box h15 (by decide)
          clear t0 t1 t2 lA2 hx hy hks hix hr5 hst0
          obtain ⟨t0, t1, t2⟩ := (bA.below hbl5).three
          have lA2 := (bA.below hbl5).lt
          obtain ⟨g0, g1, g2⟩ := h15.three
          have hgf := h15.frozen 2
          have hlo5 := h15.lt
          have hka5 : kk < t.length := hkl
          by_cases hx1 : x = 1
          · have e1 : (x == 1) = true := by simp [hx1]
            have hK1 := HKS.out.1 (by rw [hx1])
            have HXK := Lib.hid (show X[K]? = some y by rw [HX.out, hK1.1, HY.out])
            have HK2 := Lib.hid hK1.2
            clear hx1 hK1
            go_wp2_with fail
            go_region_law
              ((refine step_append_ints _ rfl rfl _ _ (by rfl) W2.heap.size K (.slice A4 K c4) (X.take K) (by rfl) ((h25.alloc _).drew) (some ⟨w5.heap.size, 0, none⟩) 1 1 [y] (by rfl) (by simp) (elems_new w5 y) rfl (by omega) (by simp; omega) ?_; intro A5 c5 w6 hown5 hgrow5 hat5; have b5 := ((h15.alloc _).drew).grown hgrow5 hne; have hc5 := b5.three.2.2; have hf5 := b5.frozen 2))
            all_goals
              have hmw : (Value.slice A4 K c4).ownBlock ≠ some ms := fun e => by have := (h25.lt e).1; omega
              go_wp2_with fail
              go_roundw
              case rel => exact ⟨k + 1, K + 1, A5, c5, by omega, by omega, by go_num, b5.store 2 _, by rw [← take_at HXK.out]; exact hown5.setCell (p := ⟨g, 2, none⟩) (hown5.ne_box b5 (by decide)) _, Box.far (Box.grown ((Box.alloc h35 _).drew) hgrow5 hmw) (p := ⟨g, 2, none⟩) (by simp; exact Ne.symm HGM.out) _, ((((hbl5.alloc hbl5.size _).drew).grown hgrow5 (by simp; have := hbl5.size; omega) (fun _ e => by have := (h25.lt e).1; omega))).setCell (p := ⟨g, 2, none⟩) (by simp; omega) _, by have := hgrow5.size; simp at this ⊢; omega, (fun _ _ => HK2.out), fun h => by omega⟩
              case measure => simp [intOf]; omega
          · have e1 : (x == 1) = false := by simp [hx1]
            have HK2 := Lib.hid (HKS.out.2 (fun e => hx1 (by injection e)))
            clear hx1
            go_wp2_with fail
            go_roundw
            case rel => exact ⟨k + 1, K, A4, c4, by omega, by omega, by go_num, h15, h25, h35, hbl5, by omega, (fun _ _ => HK2.out), fun h => by omega⟩
            case measure => simp [intOf]; omega
        · have hke : k = a.da.length := by omega
          subst hke
          have hKX : K = X.length := by
            rw [HXL.out]
            rcases Nat.eq_zero_or_pos M with h | h
            · have h5 : C = 0 := by omega
              rw [HKA0.out (.inl h), h5]; simp
            · rcases Nat.eq_zero_or_pos n with h' | h'
              · rw [HKA0.out (.inr h'), h']; simp
              · have h6 := HKA1.out h h'
                rw [HPR.out] at h6
                have h7 := KAt.last h h' h6
                rw [h7, HC.out, C2.out]
          subst hKX
          rw [List.take_of_length_le (Nat.le_refl _)] at h2
          obtain ⟨g0, g1, g2⟩ := h1.three
          have b3 := bR.below hbl
          have rf := b3.frozen
          obtain ⟨e0, e1, e2⟩ := b3.three
          have rl := b3.lt
          go_wp2_with fail
          have hgg := grownBy_three wr (w.heap.size + 1) (.bool a.ch) (.slice (some ⟨ms, 0, none⟩) a.sh.length a.sh.length) (.slice A4 X.length c4)
          have z := ((b3.store 0 (.bool a.ch)).store 1 (.slice (some ⟨ms, 0, none⟩) a.sh.length a.sh.length)).store 2 (.slice A4 X.length c4)
          simp only [List.setIfInBounds_toArray, List.set_cons_zero, List.set_cons_succ] at z
          obtain ⟨z0, z1, z2⟩ := z.three
          have zl := z.lt
          refine bodyPost_ret (v := .tuple #[.agg #[.bool a.ch, .slice (some ⟨ms, 0, none⟩) a.sh.length a.sh.length, .slice A4 X.length c4], .int .i64 0]) (by simp [results, Tryd.results9, go_sem, z0, z1, z2, zl]) rfl ?_
          have hgn : w.heap.size + 1 ≠ ms := by omega
          have iS : IsInts _ (.slice (some ⟨ms, 0, none⟩) a.sh.length a.sh.length) (a.sh.set kk (C : Int)) := (Box.grown h3 hgg (by intro e; injection e with e; exact hgn e) : Row _ ms (a.sh.set kk (C : Int))).isInts (by rw [List.length_set]) (by omega)
          have iD := (h2.kept hgg (.inr (h2.ne_low (by omega)))).isInts
          have hbx := hbw.trans (hbl.mono hbw.size)
          rw [Int.toNat_natCast]
          refine RTold.ok HE.out ?_ (hbx.grown hgg hbx.size (fun j e => by cases e; omega))
          exact ⟨_, _, rfl, by rw [HOK.out.sh, ← ints_set, ← HT.out.sh, ← HC.out]; exact iS, by rw [← HX.out]; exact iD⟩

end Go.Proofs.YtfgockiecmfdhaaDoor
