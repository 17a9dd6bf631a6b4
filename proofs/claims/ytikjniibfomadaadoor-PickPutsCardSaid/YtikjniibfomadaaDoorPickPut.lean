/- The walk of pick.Put. Conditions: none. -/
import Derived.Test.YtikjniibfomadaaDoorPickLaw
import Derived.Test.YtikjniibfomadaaDoorPutPlain
import Derived.Test.YtikjniibfomadaaDoorMore
import Derived.RegionTactic
import Derived.BigQuiet
set_option linter.unusedSimpArgs false
set_option linter.unusedVariables false
namespace Go.Proofs.YtikjniibfomadaaDoor
open Go Go.RowKit Go.Proofs.YtikjniibfomadaaDoor.P

set_option maxRecDepth 100000 in
set_option maxHeartbeats 400000 in
theorem equal_any (va vb : Value) (xs ys : List Int) (w : World) (ha : IsInts w va xs) (hb : IsInts w vb ys) (hl : xs.length = ys.length) : Calls Tryd.prog 39 #[va, vb] w (TellsB (xs = ys) w) := by
  obtain ⟨A, ca, rfl, a1, a2, a3, EA0, -⟩ := ha.open_
  obtain ⟨B, cb, rfl, b1, b2, b3, EB0, -⟩ := hb.open_
  have EA := Lib.hid EA0
  have EB := Lib.hid EB0
  have HL := Lib.hid hl
  rw [← hl]
  clear EA0 EB0 ha hb hl b1 b3
  go_enter Tryd.func39, Tryd.ntmps39
  go_wp2_with fail
  go_loopw [13] (fun s13 wr => ∃ k : Nat, k ≤ xs.length ∧ s13 = .int .i64 k ∧ SameTo k xs ys ∧ Below w.heap.size w wr) (fun s13 _ => xs.length - (intOf s13).toNat)
  case atStart => exact ⟨0, Nat.zero_le _, rfl, SameTo.zero _ _, Below.refl _ _⟩
  case round =>
    obtain ⟨k, hk, rfl, hsm, hbl⟩ := hrel
    rcases Nat.lt_or_ge k xs.length with hlt | hge
    · obtain ⟨ad, x, rfl, hx, hal, hcx⟩ := Elems.later EA.out hbl hlt
      obtain ⟨ae, y, rfl, hy, hae, hcy⟩ := Elems.later EB.out hbl (show k < ys.length by rw [← HL.out]; exact hlt)
      have HX := Lib.hid hx
      have HY := Lib.hid hy
      have HSM := Lib.hid hsm
      clear hx hy hsm
      by_cases hxy : x = y
      · subst hxy
        go_wp2_with fail
        go_quiet (fail)
        all_goals go_wp2_with fail
        go_roundw
        case rel => exact ⟨k + 1, by omega, by go_num, HSM.out.succ HX.out HY.out, hbl.trans (below_draws _ _ _)⟩
        case measure => simp [intOf]; omega
      · have hne : (x != y) = true := by simp [hxy]
        have HXY := Lib.hid hxy
        clear hxy
        go_wp2_with fail
        go_quiet (fail)
        all_goals go_wp2_with fail
        go_ret
        exact tells_no rfl (fun h => HXY.out (by subst h; have := HX.out.symm.trans HY.out; injection this)) (hbl.trans (below_draws _ _ _))
    · have HSM := Lib.hid hsm
      clear hsm
      go_wp2_with fail
      go_ret
      exact tells_yes rfl (HSM.out.all hge (by rw [← HL.out]; exact hge)) hbl

theorem putErr_of {a : Arr} {t : List Nat} {bs : List Arr} {v : Arr} (ht : Ok a t) (h : allErr (a :: (bs ++ [v])) = 0) :
    putErr a bs v = if pickErr t bs ≠ 0 then pickErr t bs else if a.ch ≠ v.ch then 6 else if v.sh ≠ [] ∧ v.sh.length ≠ (catSh bs).length then 3 else if v.sh ≠ [] ∧ v.sh ≠ catSh bs then 4 else 0 := by
  unfold putErr
  rw [if_neg (fun k => k h), ht.nsh_eq]

set_option maxRecDepth 100000 in
set_option maxHeartbeats 4000000 in
theorem pick_put {va vb vv : Value} {a v : Arr} {bs : List Arr} {w : World} (ha : IsArr w va a) (hb : IsArrs w vb bs) (hv : IsArr w vv v) :
    Calls Tryd.prog 15 #[va, vb, vv] w (ToldN (putOf a bs v) (putErr a bs v) w) := by
  obtain ⟨A, ca, D, cd, rfl, hs, hd⟩ := ha.open_
  obtain ⟨V, cv, X, cx, rfl, us, ud⟩ := hv.open_
  have HB := Lib.hid hb
  have HA := Lib.hid ha
  have HV := Lib.hid hv
  have HSa := Lib.hid hs
  have HDa := Lib.hid hd
  have HU := Lib.hid us
  have HX := Lib.hid (show Elems w X v.da from ud.elems)
  obtain ⟨D0, cd0, eD, d1, d2, d3, d4, d5⟩ := id hd
  cases eD
  obtain ⟨X0, cx0, eX, x1, x2, x3, x4, x5⟩ := id ud
  cases eX
  clear hs hd us ud hb ha hv d4 d5 x4 x5
  go_enter Tryd.func15, Tryd.ntmps15
  have z1 := ((Box.new w 24 #[.bool a.ch, .slice A a.sh.length ca, .slice D a.da.length cd]).alloc (.cells #[.bool v.ch, .slice V v.sh.length cv, .slice X v.da.length cx] 24)).alloc (.cells #[.bool false, .slice none 0 0, .slice none 0 0] 24)
  have z2 := (Box.new (w.alloc (.cells #[.bool a.ch, .slice A a.sh.length ca, .slice D a.da.length cd] 24)) 24 #[.bool v.ch, .slice V v.sh.length cv, .slice X v.da.length cx]).alloc (.cells #[.bool false, .slice none 0 0, .slice none 0 0] 24)
  have z3 := Box.new ((w.alloc (.cells #[.bool a.ch, .slice A a.sh.length ca, .slice D a.da.length cd] 24)).alloc (.cells #[.bool v.ch, .slice V v.sh.length cv, .slice X v.da.length cx] 24)) 24 #[.bool false, .slice none 0 0, .slice none 0 0]
  have z4 := Box.new (((w.alloc (.cells #[.bool a.ch, .slice A a.sh.length ca, .slice D a.da.length cd] 24)).alloc (.cells #[.bool v.ch, .slice V v.sh.length cv, .slice X v.da.length cx] 24)).alloc (.cells #[.bool false, .slice none 0 0, .slice none 0 0] 24)) 24 #[.bool v.ch, .slice V v.sh.length cv, .slice X v.da.length cx]
  simp only [World.size_alloc] at z2 z3 z4
  obtain ⟨t0, t1, t2⟩ := z1.three
  obtain ⟨v0, v1, v2⟩ := z2.three
  go_wp2_with fail
  refine (pick_check (HA.out.mono (below_four _ _ _ _ _)) (HB.out.mono (below_four _ _ _ _ _)) (arrs_one z4 (HV.out.mono (below_four _ _ _ _ _))) (by simp)).mono ?_
  rintro e w1 ⟨rfl, hb1⟩
  have bA := (z1.alloc (.cells #[.bool v.ch, .slice V v.sh.length cv, .slice X v.da.length cx] 24)).below hb1
  have bV := (z2.alloc (.cells #[.bool v.ch, .slice V v.sh.length cv, .slice X v.da.length cx] 24)).below hb1
  have bR := (z3.alloc (.cells #[.bool v.ch, .slice V v.sh.length cv, .slice X v.da.length cx] 24)).below hb1
  have hbw1 : Below w.heap.size w w1 := (below_four _ _ _ _ _).trans (hb1.mono (by simp; omega))
  have hs1 := hbw1.size
  clear t0 t1 t2 v0 v1 v2 z1 z2 z3 z4 hb1
  obtain ⟨q0, q1, q2⟩ := bR.three
  have qf := bR.frozen
  have hzR := bR.lt
  by_cases c1 : allErr (a :: (bs ++ [v])) = 0
  · obtain ⟨t, ht⟩ := ok_of_arrErr (allErr_zero c1 a (List.mem_cons_self ..))
    have HG := Lib.hid (show ∀ b ∈ bs, ∃ s, Ok b s from fun b hb => ok_of_arrErr (allErr_zero c1 b (List.mem_cons_of_mem _ (List.mem_append_left _ hb))))
    obtain ⟨u, hu⟩ := ok_of_arrErr (allErr_zero c1 v (List.mem_cons_of_mem _ (List.mem_append_right _ (List.mem_cons_self ..))))
    have HT := Lib.hid ht
    have HVO := Lib.hid hu
    have HEE := Lib.hid (putErr_of ht c1)
    have HO := Lib.hid (show putOf a bs v = ⟨a.ch, a.sh, putTo v (placesOf t bs) (placesOf t bs).length a.da⟩ by unfold putOf; rw [ht.nsh_eq])
    rw [c1, errV_zero]
    clear c1 ht hu
    obtain ⟨t0, t1, t2⟩ := bA.three
    go_wp2_with fail
    refine (pick_find (HA.out.mono hbw1) (HB.out.mono hbw1) HT.out HG.out).mono ?_
    rintro e w2 ⟨S1, n1, k1, Q1, M, q1_, rfl, hb2, hok⟩
    have HOK := Lib.hid hok
    have HW1 := Lib.hid hzR
    have bA2 := bA.below hb2
    have bV2 := bV.below hb2
    have bR2 := bR.below hb2
    have hbw2 := hbw1.trans (hb2.mono hs1)
    have hs2 := hb2.size
    clear hok t0 t1 t2 q0 q1 q2 qf hzR bA bV bR
    obtain ⟨q0, q1, q2⟩ := bR2.three
    have qf := bR2.frozen
    by_cases c2 : pickErr t bs = 0
    · obtain ⟨rfl, hM, os, oq⟩ := HOK.out c2
      have C2 := Lib.hid c2
      rw [c2, errV_zero]
      clear c2
      obtain ⟨wC, hwC⟩ : ∃ wC, wC = w2.alloc (.cells #[.slice S1 (catSh bs).length k1, .slice Q1 M q1_] 64) := ⟨_, rfl⟩
      have OS := Lib.hid (os.alloc (.cells #[.slice S1 (catSh bs).length k1, .slice Q1 M q1_] 64))
      have OQ := Lib.hid (oq.alloc (.cells #[.slice S1 (catSh bs).length k1, .slice Q1 M q1_] 64))
      have bA := bA2.alloc (.cells #[.slice S1 (catSh bs).length k1, .slice Q1 M q1_] 64)
      have bV := bV2.alloc (.cells #[.slice S1 (catSh bs).length k1, .slice Q1 M q1_] 64)
      have bR := bR2.alloc (.cells #[.slice S1 (catSh bs).length k1, .slice Q1 M q1_] 64)
      have bP := Box.new w2 64 #[.slice S1 (catSh bs).length k1, .slice Q1 M q1_]
      have hbwD := hbw2.alloc hbw2.size (.cells #[.slice S1 (catSh bs).length k1, .slice Q1 M q1_] 64)
      have HSC := Lib.hid (show wC.heap.size = w2.heap.size + 1 by rw [hwC]; simp)
      obtain ⟨P1, P2, P3, P4⟩ := pick_parts C2.out
      have hMp : M = prodLen bs := by rw [hM, ← placesTo_all (Nat.le_refl _), placesTo_len P1 (Nat.le_refl _), List.take_length]
      have HMP := Lib.hid hMp
      have hM4 : M ≤ 4096 := by rw [hMp]; exact (cat_val HG.out P3).2
      have HMM := Lib.hid hM
      have HI := Lib.hid (show ∀ q ∈ placesOf t bs, 0 ≤ q ∧ q < (prod t : Int) by
        have h := places_in P1 P4 (k := bs.length) (Nat.le_refl _)
        rw [placesTo_all (Nat.le_refl _), P1, List.take_length] at h
        exact h)
      have HCS := Lib.hid (catSh_ints HG.out)
      clear hM hMp P1 P2 P3 P4 q0 q1 q2 qf
      obtain ⟨t0, t1, t2⟩ := bA.three
      obtain ⟨v0, v1, v2⟩ := bV.three
      obtain ⟨p0, p1⟩ := bP.two
      obtain ⟨q0, q1, q2⟩ := bR.three
      have qf := bR.frozen
      have hzR := bR.lt
      by_cases c3 : a.ch = v.ch
      · have e3 : (a.ch == v.ch) = true := by simp [c3]
        have C3 := Lib.hid c3
        clear c3
        by_cases c4 : v.sh = []
        · have l4 : v.sh.length = 0 := by rw [c4]; rfl
          have C4 := Lib.hid c4
          have HE := Lib.hid (show putErr a bs v = 0 by rw [HEE.out, if_neg (fun h => h C2.out), if_neg (fun h => h C3.out), if_neg (fun h => h.1 C4.out), if_neg (fun h => h.1 C4.out)])
          have HVL := Lib.hid (show v.da.length = 1 by rw [HVO.out.len]; have := HVO.out.sh; rw [C4.out] at this; rw [show u = [] from ints_inj this.symm]; rfl)
          clear c4
          go_wp2_with fail
          rw [← hwC] at OS OQ bA bV bR bP hbwD t0 t1 t2 v0 v1 v2 p0 p1 q0 q1 q2 qf ⊢
          clear hwC bA2 bV2 bR2 os oq hb2 q0 q1 q2 qf l4
          have HSD := Lib.hid (HSa.out.mono hbwD)
          have HDD := Lib.hid (HDa.out.mono hbwD)
          have hlA := bA.lt
          have hlV := bV.lt
          have hlR := bR.lt
          have hlP := bP.lt
          refine wp_region_open (fun i v lo hi w' => match i with
            | 0 => v = .pointer (some ⟨w.heap.size, 0, none⟩)
            | 1 => v = .bool a.ch
            | 2 => v = .pointer (some ⟨w.heap.size, 1, none⟩)
            | 3 => v = .slice A a.sh.length ca
            | 4 => ∃ A' c', v = .slice A' a.sh.length c' ∧ Owns w' lo v a.sh.length (a.sh) ∧ (∀ b, v.ownBlock = some b → b < hi) ∧ wC.heap.size ≤ lo
            | 5 => v = .pointer (some ⟨w.heap.size, 2, none⟩)
            | 6 => v = .slice D a.da.length cd
            | 7 => ∃ A' c', v = .slice A' a.da.length c' ∧ Owns w' lo v a.da.length (a.da) ∧ (∀ b, v.ownBlock = some b → b < hi) ∧ wC.heap.size ≤ lo
            | 8 => ∃ A' c' D' d', v = .agg #[.bool a.ch, .slice A' a.sh.length c', .slice D' a.da.length d'] ∧ Owns w' (wC.heap.size) (.slice A' a.sh.length c') a.sh.length (a.sh) ∧ Owns w' (wC.heap.size) (.slice D' a.da.length d') a.da.length (a.da) ∧ ∀ m, (Value.slice D' a.da.length d').ownBlock = some m → (Value.slice A' a.sh.length c').ownBlock ≠ some m
            | 9 => ∃ g, v = .pointer (some ⟨g, 0, none⟩) ∧ Box w' g 24 #[.bool false, .slice none 0 0, .slice none 0 0] ∧ wC.heap.size ≤ g
            | _ => True) (by kernel_rfl) (by kernel_rfl) (by kernel_rfl) ?hV ?step ?last
          case hV =>
            intro i v lo hi w1 w2 h hb
            match i, h with
            | 0, h => exact h
            | 1, h => exact h
            | 2, h => exact h
            | 3, h => exact h
            | 4, ⟨A', c', e, ho, hl, hz⟩ => exact ⟨A', c', e, ho.below hb, hl, hz⟩
            | 5, h => exact h
            | 6, h => exact h
            | 7, ⟨A', c', e, ho, hl, hz⟩ => exact ⟨A', c', e, ho.below hb, hl, hz⟩
            | 8, ⟨A', c', D', d', e, ho, ho', hne⟩ => exact ⟨A', c', D', d', e, ho.below hb, ho'.below hb, hne⟩
            | 9, ⟨g, e, hx, hz⟩ => exact ⟨g, e, hx.below hb, hz⟩
            | i + 10, _ => trivial
          case step =>
            simp only [putAll, Act.put, List.setIfInBounds_toArray, List.set_cons_zero, List.set_cons_succ, Nat.reduceAdd, Nat.zero_add]
            intro i o ho hi uu lo up wr hbr hd hj K hK
            obtain ⟨hcw, hfw⟩ := bcell hbr
            match i, ho with
            | 0, ho =>
              simp only [List.getElem?_cons_zero, Option.some.injEq] at ho
              subst ho
              first | (simp [Region.binds] at hd; simp only [hd] at hK) | skip
              refine wpOp_step rfl fun K' hK' => ?_
              go_simp
              exact hK' _ _ (hK _ _ (Below.refl _ _) rfl)
            | 1, ho =>
              simp only [List.getElem?_cons_succ, List.getElem?_cons_zero, Option.some.injEq] at ho
              subst ho
              first | (simp [Region.binds] at hd; simp only [hd] at hK) | skip
              refine wpOp_step rfl fun K' hK' => ?_
              go_simp
              exact hK' _ _ (hK _ _ (Below.refl _ _) rfl)
            | 2, ho =>
              simp only [List.getElem?_cons_succ, List.getElem?_cons_zero, Option.some.injEq] at ho
              subst ho
              first | (simp [Region.binds] at hd; simp only [hd] at hK) | skip
              refine wpOp_step rfl fun K' hK' => ?_
              go_simp
              exact hK' _ _ (hK _ _ (Below.refl _ _) rfl)
            | 3, ho =>
              simp only [List.getElem?_cons_succ, List.getElem?_cons_zero, Option.some.injEq] at ho
              subst ho
              first | (simp [Region.binds] at hd; simp only [hd] at hK) | skip
              refine wpOp_step rfl fun K' hK' => ?_
              go_simp
              exact hK' _ _ (hK _ _ (Below.refl _ _) rfl)
            | 4, ho =>
              simp only [List.getElem?_cons_succ, List.getElem?_cons_zero, Option.some.injEq] at ho
              subst ho
              first | (simp [Region.binds] at hd; simp only [hd] at hK) | skip
              refine wpOp_step rfl fun K' hK' => ?_
              go_simp
              refine (clone_any _ (a.sh) _ (HSD.out.mono (((Below.refl wC.heap.size wC)).trans (hbr.mono (Nat.le_refl _))))).mono ?_
              rintro e w1 ⟨A1, c1, rfl, ho, hb1⟩
              try simp only [length_ints] at ho hK' ⊢
              have hz := hbr.size
              try simp only [World.size_alloc] at hz
              exact hK' _ _ (hK _ _ hb1 ⟨A1, c1, rfl, ho, fun b e => (ho.lt e).2, by omega⟩)
            | 5, ho =>
              simp only [List.getElem?_cons_succ, List.getElem?_cons_zero, Option.some.injEq] at ho
              subst ho
              first | (simp [Region.binds] at hd; simp only [hd] at hK) | skip
              refine wpOp_step rfl fun K' hK' => ?_
              go_simp
              exact hK' _ _ (hK _ _ (Below.refl _ _) rfl)
            | 6, ho =>
              simp only [List.getElem?_cons_succ, List.getElem?_cons_zero, Option.some.injEq] at ho
              subst ho
              first | (simp [Region.binds] at hd; simp only [hd] at hK) | skip
              refine wpOp_step rfl fun K' hK' => ?_
              go_simp
              exact hK' _ _ (hK _ _ (Below.refl _ _) rfl)
            | 7, ho =>
              simp only [List.getElem?_cons_succ, List.getElem?_cons_zero, Option.some.injEq] at ho
              subst ho
              first | (simp [Region.binds] at hd; simp only [hd] at hK) | skip
              refine wpOp_step rfl fun K' hK' => ?_
              go_simp
              refine (clone_any _ (a.da) _ (HDD.out.mono (((Below.refl wC.heap.size wC)).trans (hbr.mono (Nat.le_refl _))))).mono ?_
              rintro e w1 ⟨A1, c1, rfl, ho, hb1⟩
              try simp only [length_ints] at ho hK' ⊢
              have hz := hbr.size
              try simp only [World.size_alloc] at hz
              exact hK' _ _ (hK _ _ hb1 ⟨A1, c1, rfl, ho, fun b e => (ho.lt e).2, by omega⟩)
            | 8, ho =>
              simp only [List.getElem?_cons_succ, List.getElem?_cons_zero, Option.some.injEq] at ho
              subst ho
              have h1 : uu 1 = .bool a.ch := hd ⟨1, .data⟩ (by simp) rfl
              obtain ⟨A', c', es, os, ls, zs⟩ := hd ⟨4, .data⟩ (by simp) rfl
              obtain ⟨D', d', ed, od, ld, zd⟩ := hd ⟨7, .data⟩ (by simp) rfl
              have hdj := hj ⟨4, .data⟩ (by simp) ⟨7, .data⟩ (by simp) rfl rfl (by simp)
              dsimp only at os ls zs od ld zd hdj
              simp only [h1, es, ed] at hK
              rw [es] at os ls
              rw [ed] at od ld
              have hne : ∀ m, (Value.slice D' a.da.length d').ownBlock = some m → (Value.slice A' a.sh.length c').ownBlock ≠ some m := fun m e1 e2 => by have h1 := (os.lt e2).1; have h2 := ls m e2; have h3 := (od.lt e1).1; have h4 := ld m e1; omega
              refine wpOp_step rfl fun K' hK' => ?_
              go_simp
              exact hK' _ _ (hK _ _ (Below.refl _ _) ⟨A', c', D', d', rfl, os.base (by omega), od.base (by omega), hne⟩)
            | 9, ho =>
              simp only [List.getElem?_cons_succ, List.getElem?_cons_zero, Option.some.injEq] at ho
              subst ho
              first | (simp [Region.binds] at hd; simp only [hd] at hK) | skip
              have hz := hbr.size
              try simp only [World.size_alloc] at hz
              refine wpOp_step rfl fun K' hK' => ?_
              go_simp
              exact hK' _ _ (hK _ _ (below_one _ _) ⟨_, rfl, Box.new _ _ _, by omega⟩)
            | i + 10, ho => simp at hi; omega
          case last =>
            simp only [putAll, Act.put, List.setIfInBounds_toArray, List.set_cons_zero, List.set_cons_succ, Nat.reduceAdd, Nat.zero_add]
            intro uu wr lo up hbr hv hj
            obtain ⟨A', c', D', d', e9, o4, o8, hne⟩ := hv 8 (by simp)
            obtain ⟨g, e10, bg, hg⟩ := hv 9 (by simp)
            obtain ⟨g0, g1, g2⟩ := bg.three
            have gf := bg.frozen
            simp only [e9, e10]
            clear hv hj e9 e10
            refine wpOp_step rfl fun K' hK' => ?_
            go_simp
            refine hK' _ _ ?_
            have hbw := ((Below.refl wC.heap.size wC)).trans (hbr.mono (Nat.le_refl _))
            have hgg := grownBy_three wr g (.bool a.ch) (.slice A' a.sh.length c') (.slice D' a.da.length d')
            have i1 := ((bg.store 0 (.bool a.ch)).store 1 (.slice A' a.sh.length c')).store 2 (.slice D' a.da.length d')
            simp only [List.setIfInBounds_toArray, List.set_cons_zero, List.set_cons_succ] at i1
            have i3 := o4.kept hgg (.inr (o4.ne_box bg (by decide)))
            have i2 := o8.kept hgg (.inr (o8.ne_box bg (by decide)))
            have iw := hbw.grown hgg hbw.size (fun j e => by cases e; omega)
            have hgl : g < (((wr.setCell ⟨g, 0, none⟩ (.bool a.ch)).setCell ⟨g, 1, none⟩ (.slice A' a.sh.length c')).setCell ⟨g, 2, none⟩ (.slice D' a.da.length d')).heap.size := i1.lt
            clear hbr hgg o4 o8 bg g0 g1 g2 gf hbw hK' 
            generalize (((wr.setCell ⟨g, 0, none⟩ (.bool a.ch)).setCell ⟨g, 1, none⟩ (.slice A' a.sh.length c')).setCell ⟨g, 2, none⟩ (.slice D' a.da.length d')) = W2 at i3 i2 i1 iw hgl ⊢
            have hgC : wC.heap.size ≤ g := hg
            obtain ⟨P, hP⟩ : ∃ P, P = placesOf t bs := ⟨_, rfl⟩
            have HPP := Lib.hid hP
            have QE := Lib.hid (OQ.out.isInts.elems)
            have QL := Lib.hid OQ.out.length
            have HXD := Lib.hid (Elems.mono HX.out hbwD)
            have SR := i2.srow
            have HNE := Lib.hid hne
            have HDN := Lib.hid (show ∀ b, (Value.slice D' a.da.length d').ownBlock = some b → wC.heap.size ≤ b from fun b e => (i2.lt e).1)
            have BA := Lib.hid bA
            have BV := Lib.hid bV
            have BR := Lib.hid bR
            obtain ⟨pp0, pp1⟩ := (Box.below bP iw).two
            have HG2 := Lib.hid i1
            have HSR := Lib.hid SR
            have HOW := Lib.hid i3
            have HIW := Lib.hid iw
            clear hP t0 t1 t2 v0 v1 v2 p0 p1 i1 i2 i3 iw SR hne bA bV bR bP
            go_wp2_with fail
            go_loopw [84] (fun s84 wr => ∃ (k : Nat), k ≤ M ∧ s84 = .int .i64 k ∧ Box wr g 24 #[.bool a.ch, .slice A' a.sh.length c', .slice D' a.da.length d'] ∧ SRow wr wC.heap.size D' a.da.length d' (putTo v P k a.da) ∧
                Owns wr wC.heap.size (.slice A' a.sh.length c') a.sh.length a.sh ∧ Below wC.heap.size wC wr) (fun s84 _ => M - (intOf s84).toNat)
            case atStart => exact ⟨0, Nat.zero_le _, rfl, HG2.out, HSR.out, HOW.out, HIW.out⟩
            case round =>
              clear pp0 pp1
              obtain ⟨k, hk, rfl, h1, h2, h3, hbl⟩ := hrel
              rcases Nat.lt_or_ge k M with hlt | hge
              · obtain ⟨adq, q, rfl, hq, halq, hcq⟩ := Elems.later QE.out hbl (k := k) (by rw [QL.out]; exact hlt)
                obtain ⟨y0, y1⟩ := HI.out q (List.mem_of_getElem? hq)
                obtain ⟨qn, rfl⟩ := Int.eq_ofNat_of_zero_le y0
                have hqd : qn < a.da.length := by rw [HT.out.len]; omega
                have hvl : 0 < v.da.length := by rw [HVL.out]; omega
                obtain ⟨adx, x, rfl, hx, halx, hcx⟩ := Elems.later HXD.out hbl hvl
                rw [show adx.add 0 = adx by simp [Addr.add]] at hcx
                obtain ⟨m, rfl, hmB, hm⟩ := h2.2.2.2.2.2 (by omega)
                have hst := hm.store qn x
                have hpt : (putTo v P k a.da).set qn x = putTo v P (k + 1) a.da := by
                  rw [putTo, HPP.out]
                  unfold putV
                  rw [if_pos C4.out]
                  simp only [List.getD_eq_getElem?_getD, hq, hx, Option.getD_some, Int.toNat_natCast]
                rw [hpt] at hst
                have HST := Lib.hid hst
                obtain ⟨z, hz⟩ : ∃ z, (putTo v P k a.da)[qn]? = some z := ⟨_, List.getElem?_eq_getElem (by rw [putTo_length]; exact hqd)⟩
                have hc1 := hm.cell hz
                have hf1 := hm.frozen qn
                have hm1 := hm.lt
                obtain ⟨v0, v1, v2⟩ := (BV.out.below hbl).three
                obtain ⟨g0, g1, g2⟩ := h1.three
                have hgm : g ≠ m := by
                  obtain ⟨cs, hb, -⟩ := hm
                  exact Box.apart h1 hb (by decide)
                have HGM := Lib.hid hgm
                have hmo : (Value.slice A' a.sh.length c').ownBlock ≠ some m := HNE.out m rfl
                have HMO := Lib.hid hmo
                have H1 := Lib.hid h1
                have H3 := Lib.hid h3
                have hmd : m < wr.heap.size := hm1
                clear hq hx y0 y1 hz hpt hst hm h1 h2 h3 hgm hmo
                obtain ⟨wo, rfl⟩ : ∃ wo : World, wo = wr := ⟨_, rfl⟩
                go_wp2_with fail
                go_region
                all_goals
                  go_wp2_with fail
                  go_roundw
                  case rel => exact ⟨k + 1, by omega, by go_num, (H1.out.drewN _).far (p := ⟨m, qn, none⟩) HGM.out _, (HST.out).srow hmB, (H3.out).setCell (p := ⟨m, qn, none⟩) HMO.out _, (hbl.setCell (p := ⟨m, qn, none⟩) (by simp; omega) _).drew⟩
                  case measure => simp [intOf]; omega
              · have hke : k = M := by omega
                subst hke
                obtain ⟨g0, g1, g2⟩ := h1.three
                have b3 := BR.out.below hbl
                have rf := b3.frozen
                obtain ⟨e0, e1, e2⟩ := b3.three
                have rl := b3.lt
                go_wp2_with fail
                have hgg := grownBy_three wr (w.heap.size + 1 + 1) (.bool a.ch) (.slice A' a.sh.length c') (.slice D' a.da.length d')
                have z := ((b3.store 0 (.bool a.ch)).store 1 (.slice A' a.sh.length c')).store 2 (.slice D' a.da.length d')
                simp only [List.setIfInBounds_toArray, List.set_cons_zero, List.set_cons_succ] at z
                obtain ⟨z0, z1, z2⟩ := z.three
                have zl := z.lt
                refine bodyPost_ret (v := .tuple #[.agg #[.bool a.ch, .slice A' a.sh.length c', .slice D' a.da.length d'], .nilIface]) (by simp [results, Tryd.results15, go_sem, z0, z1, z2, zl]) rfl ?_
                have hsz := hbwD.size
                have iS := (h3.kept hgg (.inr (h3.ne_low (by omega)))).isInts
                have iD : IsInts _ (.slice D' a.da.length d') _ := h2.isInts.off hgg b3 (noInts_arr _ _ _ _ _ _ _)
                refine .inl ⟨by rw [HE.out], _, rfl, ?_, (hbwD.trans (hbl.mono hbwD.size)).grown hgg (hbwD.trans (hbl.mono hbwD.size)).size (fun j e => by cases e; omega), ?_⟩
                · rw [HO.out, ← HMM.out, ← HPP.out]
                  exact ⟨_, _, rfl, iS, by simpa [putTo_length] using iD⟩
                · exact ⟨_, _, _, _, _, _, _, rfl, fun b e => by have := (h3.lt e).1; omega, fun b e => by have := HDN.out b e; omega⟩

        · have C4 := Lib.hid c4
          have l4 : ¬ v.sh.length = 0 := fun h => C4.out (List.eq_nil_of_length_eq_zero h)
          have l6 : ((v.sh.length : Int) == 0) = false := by rw [beq_eq_false_iff_ne]; omega
          by_cases c5 : v.sh.length = (catSh bs).length
          · have C5 := Lib.hid c5
            clear c5 c4
            have l5 : ((v.sh.length : Int) != ((catSh bs).length : Int)) = false := by rw [C5.out]; simp
            go_wp2_with fail
            rw [← hwC] at OS OQ bA bV bR bP hbwD t0 t1 t2 v0 v1 v2 p0 p1 q0 q1 q2 qf ⊢
            refine (equal_any _ _ v.sh (catSh bs) _ (HU.out.mono hbwD) OS.out.isInts C5.out).mono ?_
            rintro e w3 ⟨r, rfl, hr, hb3⟩
            have HR := Lib.hid hr
            have hbw3 := hbwD
            have bA3 := bA.below hb3
            have bV3 := bV.below hb3
            have bR3 := bR.below hb3
            have bP3 := bP.below hb3
            have OS3 := Lib.hid (OS.out.below hb3)
            have OQ3 := Lib.hid (OQ.out.below hb3)
            have hbwE := hbwD.trans (hb3.mono hbwD.size)
            clear hwC bA2 bV2 bR2 os oq hb2 t0 t1 t2 v0 v1 v2 p0 p1 q0 q1 q2 qf hzR bA bV bR bP OS OQ hbwD hbw3 l5 hr
            obtain ⟨bA, bV, bR, bP, OS, OQ, hbwD⟩ := (⟨bA3, bV3, bR3, bP3, OS3, OQ3, hbwE⟩ : _ ∧ _ ∧ _ ∧ _ ∧ _ ∧ _ ∧ _) 
            clear bA3 bV3 bR3 bP3 OS3 OQ3 hbwE
            by_cases c6 : v.sh = catSh bs
            · obtain rfl : r = true := HR.out.2 c6
              have HE := Lib.hid (show putErr a bs v = 0 by rw [HEE.out, if_neg (fun h => h C2.out), if_neg (fun h => h C3.out), if_neg (fun h => h.2 C5.out), if_neg (fun h => h.2 c6)])
              have HVL := Lib.hid (show v.da.length = M by
                obtain ⟨u', e1, e2⟩ := HCS.out
                have e := HVO.out.sh
                rw [c6, e1] at e
                rw [HVO.out.len, HMP.out, ← e2, ints_inj e])
              clear c6
              obtain ⟨t0, t1, t2⟩ := bA.three
              obtain ⟨v0, v1, v2⟩ := bV.three
              obtain ⟨p0, p1⟩ := bP.two
              have hsD := hbwD.size
              go_wp2_with fail
              have HSD := Lib.hid (HSa.out.mono hbwD)
              have HDD := Lib.hid (HDa.out.mono hbwD)
              have hlA := bA.lt
              have hlV := bV.lt
              have hlR := bR.lt
              have hlP := bP.lt
              refine wp_region_open (fun i v lo hi w' => match i with
                | 0 => v = .pointer (some ⟨w.heap.size, 0, none⟩)
                | 1 => v = .bool a.ch
                | 2 => v = .pointer (some ⟨w.heap.size, 1, none⟩)
                | 3 => v = .slice A a.sh.length ca
                | 4 => ∃ A' c', v = .slice A' a.sh.length c' ∧ Owns w' lo v a.sh.length (a.sh) ∧ (∀ b, v.ownBlock = some b → b < hi) ∧ w3.heap.size ≤ lo
                | 5 => v = .pointer (some ⟨w.heap.size, 2, none⟩)
                | 6 => v = .slice D a.da.length cd
                | 7 => ∃ A' c', v = .slice A' a.da.length c' ∧ Owns w' lo v a.da.length (a.da) ∧ (∀ b, v.ownBlock = some b → b < hi) ∧ w3.heap.size ≤ lo
                | 8 => ∃ A' c' D' d', v = .agg #[.bool a.ch, .slice A' a.sh.length c', .slice D' a.da.length d'] ∧ Owns w' (w3.heap.size) (.slice A' a.sh.length c') a.sh.length (a.sh) ∧ Owns w' (w3.heap.size) (.slice D' a.da.length d') a.da.length (a.da) ∧ ∀ m, (Value.slice D' a.da.length d').ownBlock = some m → (Value.slice A' a.sh.length c').ownBlock ≠ some m
                | 9 => ∃ g, v = .pointer (some ⟨g, 0, none⟩) ∧ Box w' g 24 #[.bool false, .slice none 0 0, .slice none 0 0] ∧ w3.heap.size ≤ g
                | _ => True) (by kernel_rfl) (by kernel_rfl) (by kernel_rfl) ?hV ?step ?last
              case hV =>
                intro i v lo hi w1 w2 h hb
                match i, h with
                | 0, h => exact h
                | 1, h => exact h
                | 2, h => exact h
                | 3, h => exact h
                | 4, ⟨A', c', e, ho, hl, hz⟩ => exact ⟨A', c', e, ho.below hb, hl, hz⟩
                | 5, h => exact h
                | 6, h => exact h
                | 7, ⟨A', c', e, ho, hl, hz⟩ => exact ⟨A', c', e, ho.below hb, hl, hz⟩
                | 8, ⟨A', c', D', d', e, ho, ho', hne⟩ => exact ⟨A', c', D', d', e, ho.below hb, ho'.below hb, hne⟩
                | 9, ⟨g, e, hx, hz⟩ => exact ⟨g, e, hx.below hb, hz⟩
                | i + 10, _ => trivial
              case step =>
                simp only [putAll, Act.put, List.setIfInBounds_toArray, List.set_cons_zero, List.set_cons_succ, Nat.reduceAdd, Nat.zero_add]
                intro i o ho hi uu lo up wr hbr hd hj K hK
                obtain ⟨hcw, hfw⟩ := bcell hbr
                match i, ho with
                | 0, ho =>
                  simp only [List.getElem?_cons_zero, Option.some.injEq] at ho
                  subst ho
                  first | (simp [Region.binds] at hd; simp only [hd] at hK) | skip
                  refine wpOp_step rfl fun K' hK' => ?_
                  go_simp
                  exact hK' _ _ (hK _ _ (Below.refl _ _) rfl)
                | 1, ho =>
                  simp only [List.getElem?_cons_succ, List.getElem?_cons_zero, Option.some.injEq] at ho
                  subst ho
                  first | (simp [Region.binds] at hd; simp only [hd] at hK) | skip
                  refine wpOp_step rfl fun K' hK' => ?_
                  go_simp
                  exact hK' _ _ (hK _ _ (Below.refl _ _) rfl)
                | 2, ho =>
                  simp only [List.getElem?_cons_succ, List.getElem?_cons_zero, Option.some.injEq] at ho
                  subst ho
                  first | (simp [Region.binds] at hd; simp only [hd] at hK) | skip
                  refine wpOp_step rfl fun K' hK' => ?_
                  go_simp
                  exact hK' _ _ (hK _ _ (Below.refl _ _) rfl)
                | 3, ho =>
                  simp only [List.getElem?_cons_succ, List.getElem?_cons_zero, Option.some.injEq] at ho
                  subst ho
                  first | (simp [Region.binds] at hd; simp only [hd] at hK) | skip
                  refine wpOp_step rfl fun K' hK' => ?_
                  go_simp
                  exact hK' _ _ (hK _ _ (Below.refl _ _) rfl)
                | 4, ho =>
                  simp only [List.getElem?_cons_succ, List.getElem?_cons_zero, Option.some.injEq] at ho
                  subst ho
                  first | (simp [Region.binds] at hd; simp only [hd] at hK) | skip
                  refine wpOp_step rfl fun K' hK' => ?_
                  go_simp
                  refine (clone_any _ (a.sh) _ (HSD.out.mono (((Below.refl w3.heap.size w3)).trans (hbr.mono (Nat.le_refl _))))).mono ?_
                  rintro e w1 ⟨A1, c1, rfl, ho, hb1⟩
                  try simp only [length_ints] at ho hK' ⊢
                  have hz := hbr.size
                  try simp only [World.size_alloc] at hz
                  exact hK' _ _ (hK _ _ hb1 ⟨A1, c1, rfl, ho, fun b e => (ho.lt e).2, by omega⟩)
                | 5, ho =>
                  simp only [List.getElem?_cons_succ, List.getElem?_cons_zero, Option.some.injEq] at ho
                  subst ho
                  first | (simp [Region.binds] at hd; simp only [hd] at hK) | skip
                  refine wpOp_step rfl fun K' hK' => ?_
                  go_simp
                  exact hK' _ _ (hK _ _ (Below.refl _ _) rfl)
                | 6, ho =>
                  simp only [List.getElem?_cons_succ, List.getElem?_cons_zero, Option.some.injEq] at ho
                  subst ho
                  first | (simp [Region.binds] at hd; simp only [hd] at hK) | skip
                  refine wpOp_step rfl fun K' hK' => ?_
                  go_simp
                  exact hK' _ _ (hK _ _ (Below.refl _ _) rfl)
                | 7, ho =>
                  simp only [List.getElem?_cons_succ, List.getElem?_cons_zero, Option.some.injEq] at ho
                  subst ho
                  first | (simp [Region.binds] at hd; simp only [hd] at hK) | skip
                  refine wpOp_step rfl fun K' hK' => ?_
                  go_simp
                  refine (clone_any _ (a.da) _ (HDD.out.mono (((Below.refl w3.heap.size w3)).trans (hbr.mono (Nat.le_refl _))))).mono ?_
                  rintro e w1 ⟨A1, c1, rfl, ho, hb1⟩
                  try simp only [length_ints] at ho hK' ⊢
                  have hz := hbr.size
                  try simp only [World.size_alloc] at hz
                  exact hK' _ _ (hK _ _ hb1 ⟨A1, c1, rfl, ho, fun b e => (ho.lt e).2, by omega⟩)
                | 8, ho =>
                  simp only [List.getElem?_cons_succ, List.getElem?_cons_zero, Option.some.injEq] at ho
                  subst ho
                  have h1 : uu 1 = .bool a.ch := hd ⟨1, .data⟩ (by simp) rfl
                  obtain ⟨A', c', es, os, ls, zs⟩ := hd ⟨4, .data⟩ (by simp) rfl
                  obtain ⟨D', d', ed, od, ld, zd⟩ := hd ⟨7, .data⟩ (by simp) rfl
                  have hdj := hj ⟨4, .data⟩ (by simp) ⟨7, .data⟩ (by simp) rfl rfl (by simp)
                  dsimp only at os ls zs od ld zd hdj
                  simp only [h1, es, ed] at hK
                  rw [es] at os ls
                  rw [ed] at od ld
                  have hne : ∀ m, (Value.slice D' a.da.length d').ownBlock = some m → (Value.slice A' a.sh.length c').ownBlock ≠ some m := fun m e1 e2 => by have h1 := (os.lt e2).1; have h2 := ls m e2; have h3 := (od.lt e1).1; have h4 := ld m e1; omega
                  refine wpOp_step rfl fun K' hK' => ?_
                  go_simp
                  exact hK' _ _ (hK _ _ (Below.refl _ _) ⟨A', c', D', d', rfl, os.base (by omega), od.base (by omega), hne⟩)
                | 9, ho =>
                  simp only [List.getElem?_cons_succ, List.getElem?_cons_zero, Option.some.injEq] at ho
                  subst ho
                  first | (simp [Region.binds] at hd; simp only [hd] at hK) | skip
                  have hz := hbr.size
                  try simp only [World.size_alloc] at hz
                  refine wpOp_step rfl fun K' hK' => ?_
                  go_simp
                  exact hK' _ _ (hK _ _ (below_one _ _) ⟨_, rfl, Box.new _ _ _, by omega⟩)
                | i + 10, ho => simp at hi; omega
              case last =>
                simp only [putAll, Act.put, List.setIfInBounds_toArray, List.set_cons_zero, List.set_cons_succ, Nat.reduceAdd, Nat.zero_add]
                intro uu wr lo up hbr hv hj
                obtain ⟨A', c', D', d', e9, o4, o8, hne⟩ := hv 8 (by simp)
                obtain ⟨g, e10, bg, hg⟩ := hv 9 (by simp)
                obtain ⟨g0, g1, g2⟩ := bg.three
                have gf := bg.frozen
                simp only [e9, e10]
                clear hv hj e9 e10
                refine wpOp_step rfl fun K' hK' => ?_
                go_simp
                refine hK' _ _ ?_
                have hbw := ((Below.refl w3.heap.size w3)).trans (hbr.mono (Nat.le_refl _))
                have hgg := grownBy_three wr g (.bool a.ch) (.slice A' a.sh.length c') (.slice D' a.da.length d')
                have i1 := ((bg.store 0 (.bool a.ch)).store 1 (.slice A' a.sh.length c')).store 2 (.slice D' a.da.length d')
                simp only [List.setIfInBounds_toArray, List.set_cons_zero, List.set_cons_succ] at i1
                have i3 := o4.kept hgg (.inr (o4.ne_box bg (by decide)))
                have i2 := o8.kept hgg (.inr (o8.ne_box bg (by decide)))
                have iw := hbw.grown hgg hbw.size (fun j e => by cases e; omega)
                have hgl : g < (((wr.setCell ⟨g, 0, none⟩ (.bool a.ch)).setCell ⟨g, 1, none⟩ (.slice A' a.sh.length c')).setCell ⟨g, 2, none⟩ (.slice D' a.da.length d')).heap.size := i1.lt
                clear hbr hgg o4 o8 bg g0 g1 g2 gf hbw hK' 
                generalize (((wr.setCell ⟨g, 0, none⟩ (.bool a.ch)).setCell ⟨g, 1, none⟩ (.slice A' a.sh.length c')).setCell ⟨g, 2, none⟩ (.slice D' a.da.length d')) = W2 at i3 i2 i1 iw hgl ⊢
                have hgC : w3.heap.size ≤ g := hg
                obtain ⟨P, hP⟩ : ∃ P, P = placesOf t bs := ⟨_, rfl⟩
                have HPP := Lib.hid hP
                have QE := Lib.hid (OQ.out.isInts.elems)
                have QL := Lib.hid OQ.out.length
                have HXD := Lib.hid (Elems.mono HX.out hbwD)
                have SR := i2.srow
                have HNE := Lib.hid hne
                have HDN := Lib.hid (show ∀ b, (Value.slice D' a.da.length d').ownBlock = some b → w3.heap.size ≤ b from fun b e => (i2.lt e).1)
                have BA := Lib.hid bA
                have BV := Lib.hid bV
                have BR := Lib.hid bR
                obtain ⟨pp0, pp1⟩ := (Box.below bP iw).two
                have HG2 := Lib.hid i1
                have HSR := Lib.hid SR
                have HOW := Lib.hid i3
                have HIW := Lib.hid iw
                clear hP t0 t1 t2 v0 v1 v2 p0 p1 i1 i2 i3 iw SR hne bA bV bR bP
                go_wp2_with fail
                go_loopw [84] (fun s84 wr => ∃ (k : Nat), k ≤ M ∧ s84 = .int .i64 k ∧ Box wr g 24 #[.bool a.ch, .slice A' a.sh.length c', .slice D' a.da.length d'] ∧ SRow wr w3.heap.size D' a.da.length d' (putTo v P k a.da) ∧
                    Owns wr w3.heap.size (.slice A' a.sh.length c') a.sh.length a.sh ∧ Below w3.heap.size w3 wr) (fun s84 _ => M - (intOf s84).toNat)
                case atStart => exact ⟨0, Nat.zero_le _, rfl, HG2.out, HSR.out, HOW.out, HIW.out⟩
                case round =>
                  clear pp0 pp1
                  obtain ⟨k, hk, rfl, h1, h2, h3, hbl⟩ := hrel
                  rcases Nat.lt_or_ge k M with hlt | hge
                  · obtain ⟨adq, q, rfl, hq, halq, hcq⟩ := Elems.later QE.out hbl (k := k) (by rw [QL.out]; exact hlt)
                    obtain ⟨y0, y1⟩ := HI.out q (List.mem_of_getElem? hq)
                    obtain ⟨qn, rfl⟩ := Int.eq_ofNat_of_zero_le y0
                    have hqd : qn < a.da.length := by rw [HT.out.len]; omega
                    have hvl : k < v.da.length := by rw [HVL.out]; exact hlt
                    obtain ⟨adx, x, rfl, hx, halx, hcx⟩ := Elems.later HXD.out hbl hvl
                    obtain ⟨m, rfl, hmB, hm⟩ := h2.2.2.2.2.2 (by omega)
                    have hst := hm.store qn x
                    have hpt : (putTo v P k a.da).set qn x = putTo v P (k + 1) a.da := by
                      rw [putTo, HPP.out]
                      unfold putV
                      rw [if_neg C4.out]
                      simp only [List.getD_eq_getElem?_getD, hq, hx, Option.getD_some, Int.toNat_natCast]
                    rw [hpt] at hst
                    have HST := Lib.hid hst
                    obtain ⟨z, hz⟩ : ∃ z, (putTo v P k a.da)[qn]? = some z := ⟨_, List.getElem?_eq_getElem (by rw [putTo_length]; exact hqd)⟩
                    have hc1 := hm.cell hz
                    have hf1 := hm.frozen qn
                    have hm1 := hm.lt
                    obtain ⟨v0, v1, v2⟩ := (BV.out.below hbl).three
                    obtain ⟨g0, g1, g2⟩ := h1.three
                    have hgm : g ≠ m := by
                      obtain ⟨cs, hb, -⟩ := hm
                      exact Box.apart h1 hb (by decide)
                    have HGM := Lib.hid hgm
                    have hmo : (Value.slice A' a.sh.length c').ownBlock ≠ some m := HNE.out m rfl
                    have HMO := Lib.hid hmo
                    have H1 := Lib.hid h1
                    have H3 := Lib.hid h3
                    have hmd : m < wr.heap.size := hm1
                    clear hq hx y0 y1 hz hpt hst hm h1 h2 h3 hgm hmo
                    obtain ⟨wo, rfl⟩ : ∃ wo : World, wo = wr := ⟨_, rfl⟩
                    go_wp2_with fail
                    go_region
                    all_goals
                      go_wp2_with fail
                      go_roundw
                      case rel => exact ⟨k + 1, by omega, by go_num, (H1.out.drewN _).far (p := ⟨m, qn, none⟩) HGM.out _, (HST.out).srow hmB, (H3.out).setCell (p := ⟨m, qn, none⟩) HMO.out _, (hbl.setCell (p := ⟨m, qn, none⟩) (by simp; omega) _).drew⟩
                      case measure => simp [intOf]; omega
                  · have hke : k = M := by omega
                    subst hke
                    obtain ⟨g0, g1, g2⟩ := h1.three
                    have b3 := BR.out.below hbl
                    have rf := b3.frozen
                    obtain ⟨e0, e1, e2⟩ := b3.three
                    have rl := b3.lt
                    go_wp2_with fail
                    have hgg := grownBy_three wr (w.heap.size + 1 + 1) (.bool a.ch) (.slice A' a.sh.length c') (.slice D' a.da.length d')
                    have z := ((b3.store 0 (.bool a.ch)).store 1 (.slice A' a.sh.length c')).store 2 (.slice D' a.da.length d')
                    simp only [List.setIfInBounds_toArray, List.set_cons_zero, List.set_cons_succ] at z
                    obtain ⟨z0, z1, z2⟩ := z.three
                    have zl := z.lt
                    refine bodyPost_ret (v := .tuple #[.agg #[.bool a.ch, .slice A' a.sh.length c', .slice D' a.da.length d'], .nilIface]) (by simp [results, Tryd.results15, go_sem, z0, z1, z2, zl]) rfl ?_
                    have hsz := hbwD.size
                    have iS := (h3.kept hgg (.inr (h3.ne_low (by omega)))).isInts
                    have iD : IsInts _ (.slice D' a.da.length d') _ := h2.isInts.off hgg b3 (noInts_arr _ _ _ _ _ _ _)
                    refine .inl ⟨by rw [HE.out], _, rfl, ?_, (hbwD.trans (hbl.mono hbwD.size)).grown hgg (hbwD.trans (hbl.mono hbwD.size)).size (fun j e => by cases e; omega), ?_⟩
                    · rw [HO.out, ← HMM.out, ← HPP.out]
                      exact ⟨_, _, rfl, iS, by simpa [putTo_length] using iD⟩
                    · exact ⟨_, _, _, _, _, _, _, rfl, fun b e => by have := (h3.lt e).1; omega, fun b e => by have := HDN.out b e; omega⟩

            · have hrf : r = false := by
                cases r
                · rfl
                · exact absurd (HR.out.1 rfl) c6
              subst hrf
              have HE := Lib.hid (show putErr a bs v = 4 by rw [HEE.out, if_neg (fun h => h C2.out), if_neg (fun h => h C3.out), if_neg (fun h => h.2 C5.out), if_pos ⟨C4.out, c6⟩])
              clear c6
              obtain ⟨q0, q1, q2⟩ := bR.three
              have qf := bR.frozen
              have hzR := bR.lt
              go_wp2_with fail
              refine bodyPost_ret (v := .tuple #[zeroArr, .iface 25 (.int .i64 (4))]) (by simp [results, Tryd.results15, go_sem, q0, q1, q2, hzR]) rfl ?_
              exact .inr ⟨by rw [HE.out]; decide, by rw [HE.out], by have := hbwD.size; go_grown⟩
          · have l5 : ((v.sh.length : Int) != ((catSh bs).length : Int)) = true := by simp; omega
            have HE := Lib.hid (show putErr a bs v = 3 by rw [HEE.out, if_neg (fun h => h C2.out), if_neg (fun h => h C3.out), if_pos ⟨C4.out, c5⟩])
            clear c5 c4
            go_wp2_with fail
            rw [← hwC] at bR hbwD q0 q1 q2 qf hzR ⊢
            refine bodyPost_ret (v := .tuple #[zeroArr, .iface 25 (.int .i64 (3))]) (by simp [results, Tryd.results15, go_sem, q0, q1, q2, hzR]) rfl ?_
            exact .inr ⟨by rw [HE.out]; decide, by rw [HE.out], by have := hbwD.size; go_grown⟩
      · have e3 : (a.ch == v.ch) = false := by simp [c3]
        have HE := Lib.hid (show putErr a bs v = 6 by rw [HEE.out, if_neg (fun h => h C2.out), if_pos c3])
        clear c3
        go_wp2_with fail
        rw [← hwC] at bR hbwD q0 q1 q2 qf hzR ⊢
        refine bodyPost_ret (v := .tuple #[zeroArr, .iface 25 (.int .i64 (6))]) (by simp [results, Tryd.results15, go_sem, q0, q1, q2, hzR]) rfl ?_
        exact .inr ⟨by rw [HE.out]; decide, by rw [HE.out], by have := hbwD.size; go_grown⟩
    · have C2 := Lib.hid c2
      have HE := Lib.hid (show putErr a bs v = pickErr t bs by rw [HEE.out, if_pos c2])
      rw [errV_ne c2]
      clear c2
      have hzR := bR2.lt
      go_wp2_with fail
      refine bodyPost_ret (v := .tuple #[zeroArr, .iface 25 (.int .i64 (pickErr t bs))]) (by simp [results, Tryd.results15, go_sem, q0, q1, q2, hzR]) rfl ?_
      exact .inr ⟨by rw [HE.out]; exact C2.out, by rw [HE.out], by have := hbw2.size; go_grown⟩
  · have C1 := Lib.hid c1
    have HE := Lib.hid (show putErr a bs v = allErr (a :: (bs ++ [v])) by unfold putErr; rw [if_pos c1])
    rw [errV_ne c1]
    clear c1
    go_wp2_with fail
    refine bodyPost_ret (v := .tuple #[zeroArr, .iface 25 (.int .i64 (allErr (a :: (bs ++ [v]))))]) (by simp [results, Tryd.results15, go_sem, q0, q1, q2, hzR]) rfl ?_
    exact .inr ⟨by rw [HE.out]; exact C1.out, by rw [HE.out], by have := hbw1.size; go_grown⟩

end Go.Proofs.YtikjniibfomadaaDoor
