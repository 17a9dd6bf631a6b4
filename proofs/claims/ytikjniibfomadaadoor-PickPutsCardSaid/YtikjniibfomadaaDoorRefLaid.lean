/- The walk of the reference Laid: other cells at some places. Conditions: none. -/
import Derived.Test.YtikjniibfomadaaDoorRefPicked
import Derived.Test.YtikjniibfomadaaDoorRefShaped
import Derived.Test.YtikjniibfomadaaDoorPickPut
set_option linter.unusedSimpArgs false
set_option linter.unusedVariables false
namespace Go.Proofs.YtikjniibfomadaaDoor
open Go Go.RowKit Go.Proofs.YtikjniibfomadaaDoor.P

set_option maxRecDepth 100000 in
set_option maxHeartbeats 16000000 in
theorem laid_told {va vb vv : Value} {a v : Arr} {bs : List Arr} {w : World} (ha : IsArr w va a) (hb : IsArrs w vb bs) (hv : IsArr w vv v) :
    Calls Tryd.prog 14 #[va, vb, vv] w (RTold (putOf a bs v) (putErr a bs v) w) := by
  obtain ⟨A, ca, D, cd, rfl, hs, hd⟩ := ha.open_
  obtain ⟨A', ca', D', cd', rfl, hs', hd'⟩ := hv.open_
  obtain ⟨D0, cd0, eD, d1, d2, d3, d0, d4⟩ := id hd
  cases eD
  have HA := Lib.hid ha
  have HB := Lib.hid hb
  have HV := Lib.hid hv
  have HS := Lib.hid hs
  have HSV := Lib.hid hs'
  have HD := Lib.hid (show Elems w D a.da from d4)
  clear ha hb hv hs hd hs' hd' d0 d4
  go_enter Tryd.func14, Tryd.ntmps14
  have bA0 := ((Box.new w 24 #[.bool a.ch, .slice A a.sh.length ca, .slice D a.da.length cd]).alloc (.cells #[.bool v.ch, .slice A' v.sh.length ca', .slice D' v.da.length cd'] 24)).alloc (.cells #[.bool false, .slice none 0 0, .slice none 0 0] 24)
  have bV0 := (Box.new (w.alloc (.cells #[.bool a.ch, .slice A a.sh.length ca, .slice D a.da.length cd] 24)) 24 #[.bool v.ch, .slice A' v.sh.length ca', .slice D' v.da.length cd']).alloc (.cells #[.bool false, .slice none 0 0, .slice none 0 0] 24)
  have bR0 := Box.new ((w.alloc (.cells #[.bool a.ch, .slice A a.sh.length ca, .slice D a.da.length cd] 24)).alloc (.cells #[.bool v.ch, .slice A' v.sh.length ca', .slice D' v.da.length cd'] 24)) 24 #[.bool false, .slice none 0 0, .slice none 0 0]
  simp only [World.size_alloc] at bV0 bR0
  have hb0 := below_three w (.cells #[.bool a.ch, .slice A a.sh.length ca, .slice D a.da.length cd] 24) (.cells #[.bool v.ch, .slice A' v.sh.length ca', .slice D' v.da.length cd'] 24) (.cells #[.bool false, .slice none 0 0, .slice none 0 0] 24)
  obtain ⟨t0, t1, t2⟩ := bA0.three
  go_wp2_with fail
  refine (allflaws_any (HA.out.mono hb0) (HB.out.mono hb0)).mono ?_
  rintro e w1 ⟨rfl, hb1⟩
  have bA := bA0.below hb1
  have bV := bV0.below hb1
  have bR := bR0.below hb1
  have hbw := hb0.trans (hb1.mono hb0.size)
  have HEE := Lib.hid (allErr_snoc (a :: bs) v)
  have HPE := Lib.hid (show putErr a bs v = if allErr ((a :: bs) ++ [v]) ≠ 0 then allErr ((a :: bs) ++ [v]) else if pickErr a.nsh bs ≠ 0 then pickErr a.nsh bs else if a.ch ≠ v.ch then 6 else if v.sh ≠ [] ∧ v.sh.length ≠ (catSh bs).length then 3 else if v.sh ≠ [] ∧ v.sh ≠ catSh bs then 4 else 0 from rfl)
  clear bA0 bV0 bR0 hb0 hb1 t0 t1 t2
  obtain ⟨v0, v1, v2⟩ := bV.three
  have lV := bV.lt
  by_cases c1 : allErr (a :: bs) = 0
  case neg =>
    obtain ⟨q0, q1, q2⟩ := bR.three
    have qf := bR.frozen
    have hzR := bR.lt
    have hee : allErr ((a :: bs) ++ [v]) = allErr (a :: bs) := by rw [HEE.out, if_pos c1]
    have HE := Lib.hid (show putErr a bs v = allErr (a :: bs) by rw [HPE.out, hee, if_pos c1])
    have HE0 := Lib.hid c1
    obtain ⟨ce, hce⟩ : ∃ ce, ce = allErr (a :: bs) := ⟨_, rfl⟩
    have e1 : (ce != 0) = true := by rw [hce]; simp [c1]
    have e1' : (ce == 0) = false := by rw [hce]; simp [c1]
    rw [← hce] at HE HE0 ⊢
    clear c1 hce hee
    go_wp2_with fail
    refine bodyPost_ret (v := .tuple #[zeroArr, .int .i64 ce]) (by simp [results, Tryd.results14, go_sem, q0, q1, q2, hzR]) rfl ?_
    rw [HE.out]
    exact RTold.bad HE0.out (by have := hbw.size; go_grown)
  have HEV := Lib.hid (show allErr ((a :: bs) ++ [v]) = arrErr v by rw [HEE.out, if_neg (fun h => h c1)])
  have hall := allErr_zero c1
  obtain ⟨t, ht⟩ := ok_of_arrErr (hall a List.mem_cons_self)
  have HG := Lib.hid (show ∀ b ∈ bs, ∃ s, Ok b s from fun b hb => ok_of_arrErr (hall b (List.mem_cons_of_mem _ hb)))
  have HT := Lib.hid ht
  have HNS := Lib.hid ht.nsh_eq
  have hdl : a.da.length ≤ 4096 := by rw [ht.len]; exact ht.good.2.2
  have hsl : a.sh.length ≤ 4096 := by rw [ht.sh, length_ints]; have := ht.good.1; omega
  rw [c1]
  clear c1 ht hall
  go_wp2_with fail
  refine (flaw_any (HV.out.mono hbw)).mono ?_
  rintro e w1' ⟨rfl, hb1⟩
  have bA := bA.below hb1
  have bV := bV.below hb1
  have bR := bR.below hb1
  have hbw := hbw.trans (hb1.mono hbw.size)
  clear v0 v1 v2 lV hb1
  obtain ⟨q0, q1, q2⟩ := bR.three
  have qf := bR.frozen
  have hzR := bR.lt
  obtain ⟨t0, t1, t2⟩ := bA.three
  have lA := bA.lt
  by_cases c2 : arrErr v = 0
  case neg =>
    have HE := Lib.hid (show putErr a bs v = arrErr v by rw [HPE.out, HEV.out, if_pos c2])
    have HE0 := Lib.hid c2
    obtain ⟨ce, hce⟩ : ∃ ce, ce = arrErr v := ⟨_, rfl⟩
    have e1 : (ce != 0) = true := by rw [hce]; simp [c2]
    rw [← hce] at HE HE0 ⊢
    clear c2 hce
    go_wp2_with fail
    refine bodyPost_ret (v := .tuple #[zeroArr, .int .i64 ce]) (by simp [results, Tryd.results14, go_sem, q0, q1, q2, hzR]) rfl ?_
    rw [HE.out]
    exact RTold.bad HE0.out (by have := hbw.size; go_grown)
  have HK1 := Lib.hid (show putErr a bs v = if pickErr t bs ≠ 0 then pickErr t bs else if a.ch ≠ v.ch then 6 else if v.sh ≠ [] ∧ v.sh.length ≠ (catSh bs).length then 3 else if v.sh ≠ [] ∧ v.sh ≠ catSh bs then 4 else 0 by rw [HPE.out, HEV.out, if_neg (fun h => h c2), HNS.out])
  obtain ⟨u, hu⟩ := ok_of_arrErr c2
  have HU := Lib.hid hu
  have hvl6 : v.sh.length ≤ 6 := by rw [hu.sh, length_ints]; exact hu.good.1
  rw [c2]
  clear c2 hu
  go_wp2_with fail
  refine (named_ok (HA.out.mono hbw) (HB.out.mono hbw) HT.out HG.out).mono ?_
  rintro e w2 ⟨rs, rp, rfl, hok, hb2⟩
  have bA := bA.below hb2
  have bV := bV.below hb2
  have bR := bR.below hb2
  have hbw := hbw.trans (hb2.mono hbw.size)
  have HOKK := Lib.hid hok
  clear hok hb2 q0 q1 q2 qf hzR t0 t1 t2 lA
  obtain ⟨q0, q1, q2⟩ := bR.three
  have qf := bR.frozen
  have hzR := bR.lt
  by_cases c3 : pickErr t bs = 0
  case neg =>
    have HE := Lib.hid (show putErr a bs v = pickErr t bs by rw [HK1.out, if_pos c3])
    have HE0 := Lib.hid c3
    obtain ⟨ce, hce⟩ : ∃ ce, ce = pickErr t bs := ⟨_, rfl⟩
    have e1 : (ce != 0) = true := by rw [hce]; simp [c3]
    rw [← hce] at HE HE0 ⊢
    clear c3 hce
    go_wp2_with fail
    refine bodyPost_ret (v := .tuple #[zeroArr, .int .i64 ce]) (by simp [results, Tryd.results14, go_sem, q0, q1, q2, hzR]) rfl ?_
    rw [HE.out]
    exact RTold.bad HE0.out (by have := hbw.size; go_grown)
  have HK2 := Lib.hid (show putErr a bs v = if a.ch ≠ v.ch then 6 else if v.sh ≠ [] ∧ v.sh.length ≠ (catSh bs).length then 3 else if v.sh ≠ [] ∧ v.sh ≠ catSh bs then 4 else 0 by rw [HK1.out, if_neg (fun h => h c3)])
  obtain ⟨hs0, hp0⟩ := HOKK.out c3
  obtain ⟨hlen, hany, hcat, hidx⟩ : bs.length = t.length ∧ bs.any (·.ch) = false ∧ cntErr (catSh bs) = 0 ∧ idxBad t bs = false := by
    unfold pickErr at c3
    by_cases h1 : bs.length = t.length
    · rw [if_neg (fun h => h h1)] at c3
      cases h2 : bs.any (·.ch)
      · rw [h2] at c3
        rw [if_neg (by simp)] at c3
        by_cases h3 : cntErr (catSh bs) = 0
        · rw [if_neg (fun h => h h3)] at c3
          cases h4 : idxBad t bs
          · exact ⟨h1, rfl, h3, rfl⟩
          · rw [h4] at c3; simp at c3
        · rw [if_pos h3] at c3; exact absurd c3 h3
      · rw [h2] at c3; simp at c3
    · rw [if_pos h1] at c3; omega
  rw [c3]
  have hsh := shs_ints HG.out
  have hgo : GoodSh (shs bs) := by
    have h := hcat
    rw [hsh] at h
    obtain ⟨u2, hu2, hgu⟩ := cntErr_zero h
    rwa [ints_inj hu2]
  obtain ⟨T, hT⟩ : ∃ T, T = shs bs := ⟨_, rfl⟩
  rw [← hT] at hsh hgo
  have HTT := Lib.hid hgo
  have HCS := Lib.hid hsh
  have hcl : (catSh bs).length = T.length := by rw [hsh, length_ints]
  have HMT := Lib.hid (show (placesOf t bs).length = prod T by
    rw [← placesTo_all (Nat.le_refl _), placesTo_len hlen (Nat.le_refl _), List.take_length, hT, shs_prod HG.out])
  have HPI := Lib.hid (show ∀ k q, (placesOf t bs)[k]? = some q → 0 ≤ q ∧ q < (a.da.length : Int) from fun k q hq => by
    have h1 := places_in hlen hidx (Nat.le_refl _) q (by rw [placesTo_all (Nat.le_refl _)]; exact List.mem_of_getElem? hq)
    rw [show t.take bs.length = t by rw [hlen, List.take_length], ← HT.out.len] at h1
    exact h1)
  obtain ⟨RS, cs, rfl, s1, s2, s3, -, HS0⟩ := hs0.open_
  obtain ⟨RP, cp, rfl, p1, p2, p3, EP, HP0⟩ := hp0.open_
  rw [hcl] at s1 s3 HS0 ⊢
  have HSS0 := Lib.hid (show IsInts w2 (.slice RS T.length cs) (ints T) from by have h := HS0; rwa [hsh] at h)
  have hT6 : T.length ≤ 6 := hgo.1
  obtain ⟨M, hM⟩ : ∃ M, M = (placesOf t bs).length := ⟨_, rfl⟩
  have HML := Lib.hid hM
  have HMT := Lib.hid (show M = prod T by rw [hM, HMT.out])
  have hM4 : M ≤ 4096 := by rw [HMT.out]; exact hgo.2.2
  rw [← hM] at p1 p3 HP0 ⊢
  have HPL0 := Lib.hid HP0
  obtain ⟨X, hX⟩ : ∃ X, X = (putOf a bs v).da := ⟨_, rfl⟩
  have HXX := Lib.hid hX
  have HXL := Lib.hid (show X.length = a.da.length by rw [hX]; unfold putOf; exact putTo_length _ _ _ _)
  have HCL := Lib.hid hcl
  clear c3 hlen hany hcat hidx hs0 hp0 HS0 EP HP0 hM hX hsh hgo hT hcl
  obtain ⟨t0, t1, t2⟩ := bA.three
  have lA := bA.lt
  obtain ⟨v0, v1, v2⟩ := bV.three
  have lV := bV.lt
  by_cases c4 : a.ch = v.ch
  case neg =>
    have e1 : (a.ch != v.ch) = true := by simpa using c4
    have e1' : (a.ch == v.ch) = false := by simpa using c4
    have HE := Lib.hid (show putErr a bs v = 6 by rw [HK2.out, if_pos c4])
    clear c4
    go_wp2_with fail
    refine bodyPost_ret (v := .tuple #[zeroArr, .int .i64 6]) (by simp [results, Tryd.results14, go_sem, q0, q1, q2, hzR]) rfl ?_
    rw [HE.out]
    exact RTold.bad (by decide) (by have := hbw.size; go_grown)
  have e4 : (a.ch != v.ch) = false := by simpa using c4
  have HK3 := Lib.hid (show putErr a bs v = if v.sh ≠ [] ∧ v.sh.length ≠ T.length then 3 else if v.sh ≠ [] ∧ v.sh ≠ ints T then 4 else 0 by rw [HK2.out, if_neg (fun h => h c4), HCL.out, HCS.out])
  have e4' : (a.ch == v.ch) = true := by simpa using c4
  clear c4
  by_cases c5 : v.sh = []
  · have hvz : v.sh.length = 0 := by rw [c5]; rfl
    have HE := Lib.hid (show putErr a bs v = 0 by rw [HK3.out, if_neg (fun h => h.1 c5), if_neg (fun h => h.1 c5)])
    have HUC := Lib.hid (show u = [] ∨ u = T by
      left
      have h1 : ints u = [] := by rw [← HU.out.sh]; exact c5
      cases u with | nil => rfl | cons x l => simp [ints] at h1)
    have d5 : decide (0 < v.sh.length) = false := by simp; omega
    have hvz2 : ¬ 0 < v.sh.length := by omega
    have HVZ := Lib.hid hvz
    clear c5 hvz
    go_wp2_with fail
    have HSS := HSS0
    have HVV := Lib.hid (HV.out.mono hbw)
    have HPL := HPL0
    refine (shaped_ok HSS.out HVV.out HTT.out HU.out HUC.out).mono ?_
    rintro e w4 ⟨r, rfl, hr, hb4⟩
    have bA4 := bA.below hb4
    have bR4 := bR.below hb4
    have hbw4 := hbw.trans (hb4.mono hbw.size)
    obtain ⟨A3, c3, D3, cd3, rfl, h3s, h3d⟩ := hr.open_
    have H3D := Lib.hid h3d
    have HPP := Lib.hid (HPL.out.mono hb4)
    clear hr hb4 h3s h3d q0 q1 q2 qf hzR t0 t1 t2 v0 v1 v2 lA lV
    go_wp2_with fail
    obtain ⟨gw, hgw⟩ : ∃ g, g = w4.heap.size := ⟨_, rfl⟩
    obtain ⟨wP, hwP⟩ : ∃ W, W = w4.alloc (.cells #[.bool (shapedOf v T).ch, .slice A3 (shapedOf v T).sh.length c3, .slice D3 (shapedOf v T).da.length cd3] 24) := ⟨_, rfl⟩
    have BW := Lib.hid (show Box wP gw 24 #[.bool (shapedOf v T).ch, .slice A3 (shapedOf v T).sh.length c3, .slice D3 (shapedOf v T).da.length cd3] by rw [hwP, hgw]; exact Box.new _ _ _)
    have HBP := Lib.hid (show Below w4.heap.size w4 wP by rw [hwP]; exact below_one _ _)
    have hgwP : gw < wP.heap.size := by rw [hwP, hgw]; simp
    rw [← hwP, ← hgw]
    clear hwP hgw
    have bAP := bA4.below HBP.out
    have bRP := bR4.below HBP.out
    have hbwP := hbw4.trans (HBP.out.mono hbw4.size)
    have HSW1 := Lib.hid (HS.out.mono hbwP)
    have HDW := Lib.hid (show Elems wP D3 (shapedOf v T).da from IsInts.elems (H3D.out.mono HBP.out))
    have HPW := Lib.hid (IsInts.elems (HPP.out.mono HBP.out))
    obtain ⟨t0, t1, t2⟩ := bAP.three
    have hlA := bAP.lt
    have hlR := bRP.lt
    refine wp_region_open (fun i v lo hi w' => match i with
      | 0 => v = .pointer (some ⟨w.heap.size, 0, none⟩)
      | 1 => v = .bool a.ch
      | 2 => v = .pointer (some ⟨w.heap.size, 1, none⟩)
      | 3 => v = .slice A a.sh.length ca
      | 4 => ∃ m, v = .slice (some ⟨m, 0, none⟩) a.sh.length a.sh.length ∧ Row w' m (a.sh) ∧ lo ≤ m ∧ m < hi ∧ wP.heap.size ≤ lo
      | 5 => ∃ ms, v = .agg #[.bool a.ch, .slice (some ⟨ms, 0, none⟩) a.sh.length a.sh.length, .slice none 0 0] ∧ Row w' ms (a.sh) ∧ wP.heap.size ≤ ms
      | 6 => ∃ g, v = .pointer (some ⟨g, 0, none⟩) ∧ Box w' g 24 #[.bool false, .slice none 0 0, .slice none 0 0] ∧ wP.heap.size ≤ g
      | _ => True) (by kernel_rfl) (by kernel_rfl) (by kernel_rfl) ?hV ?step ?last
    case hV =>
      intro i v lo hi w1 w2 h hb
      match i, h with
      | 0, h => exact h
      | 1, h => exact h
      | 2, h => exact h
      | 3, h => exact h
      | 4, ⟨m, e, ho, hm, hl, hz⟩ => exact ⟨m, e, Box.below ho hb, hm, hl, hz⟩
      | 5, ⟨ms, e, hrs, hms⟩ => exact ⟨ms, e, Box.below hrs hb, hms⟩
      | 6, ⟨g, e, hx, hz⟩ => exact ⟨g, e, hx.below hb, hz⟩
      | i + 7, _ => trivial
    case step =>
      simp only [putAll, Act.put, List.setIfInBounds_toArray, List.set_cons_zero, List.set_cons_succ, Nat.reduceAdd, Nat.zero_add]
      intro i o ho hi uu lo up wr hbr hd hj K hK
      obtain ⟨hcw, hfw⟩ := bcell hbr
      match i, ho with
      | 0, ho =>
        simp only [List.getElem?_cons_zero, Option.some.injEq] at ho
        subst ho
        first | (simp [Region.binds] at hd; simp only [hd] at hK) | skip
        refine wpOp_step rfl fun K' hK' => ?_
        go_simp
        exact hK' _ _ (hK _ _ (Below.refl _ _) rfl)
      | 1, ho =>
        simp only [List.getElem?_cons_succ, List.getElem?_cons_zero, Option.some.injEq] at ho
        subst ho
        first | (simp [Region.binds] at hd; simp only [hd] at hK) | skip
        refine wpOp_step rfl fun K' hK' => ?_
        go_simp
        exact hK' _ _ (hK _ _ (Below.refl _ _) rfl)
      | 2, ho =>
        simp only [List.getElem?_cons_succ, List.getElem?_cons_zero, Option.some.injEq] at ho
        subst ho
        first | (simp [Region.binds] at hd; simp only [hd] at hK) | skip
        refine wpOp_step rfl fun K' hK' => ?_
        go_simp
        exact hK' _ _ (hK _ _ (Below.refl _ _) rfl)
      | 3, ho =>
        simp only [List.getElem?_cons_succ, List.getElem?_cons_zero, Option.some.injEq] at ho
        subst ho
        first | (simp [Region.binds] at hd; simp only [hd] at hK) | skip
        refine wpOp_step rfl fun K' hK' => ?_
        go_simp
        exact hK' _ _ (hK _ _ (Below.refl _ _) rfl)
      | 4, ho =>
        simp only [List.getElem?_cons_succ, List.getElem?_cons_zero, Option.some.injEq] at ho
        subst ho
        first | (simp [Region.binds] at hd; simp only [hd] at hK) | skip
        refine wpOp_step rfl fun K' hK' => ?_
        go_simp
        refine (copied_ok _ (a.sh) _ (HSW1.out.mono (((Below.refl wP.heap.size wP)).trans (hbr.mono (Nat.le_refl _)))) hsl).mono ?_
        rintro e w1 ⟨g1, rfl, hg1, hr1, hb1⟩
        have hz := hbr.size
        try simp only [World.size_alloc] at hz
        exact hK' _ _ (hK _ _ hb1 ⟨g1, rfl, hr1, hg1, Box.lt hr1, by omega⟩)
      | 5, ho =>
        simp only [List.getElem?_cons_succ, List.getElem?_cons_zero, Option.some.injEq] at ho
        subst ho
        have h1 : uu 1 = .bool a.ch := hd ⟨1, .data⟩ (by simp) rfl
        obtain ⟨ms, es, os, mds, ls, zs⟩ := hd ⟨4, .data⟩ (by simp) rfl
        dsimp only at os mds ls zs
        simp only [h1, es] at hK
        refine wpOp_step rfl fun K' hK' => ?_
        go_simp
        exact hK' _ _ (hK _ _ (Below.refl _ _) ⟨ms, rfl, os, by omega⟩)
      | 6, ho =>
        simp only [List.getElem?_cons_succ, List.getElem?_cons_zero, Option.some.injEq] at ho
        subst ho
        first | (simp [Region.binds] at hd; simp only [hd] at hK) | skip
        have hz := hbr.size
        try simp only [World.size_alloc] at hz
        refine wpOp_step rfl fun K' hK' => ?_
        go_simp
        exact hK' _ _ (hK _ _ (below_one _ _) ⟨_, rfl, Box.new _ _ _, by omega⟩)
      | i + 7, ho => simp at hi; omega
    case last =>
      simp only [putAll, Act.put, List.setIfInBounds_toArray, List.set_cons_zero, List.set_cons_succ, Nat.reduceAdd, Nat.zero_add]
      intro uu wr lo up hbr hv hj
      obtain ⟨ms, e9, r4, m4⟩ := hv 5 (by simp)
      obtain ⟨g, e10, bg, hg⟩ := hv 6 (by simp)
      obtain ⟨g0, g1, g2⟩ := bg.three
      have gf := bg.frozen
      simp only [e9, e10]
      clear hv hj e9 e10
      refine wpOp_step rfl fun K' hK' => ?_
      go_simp
      refine hK' _ _ ?_
      have hbw := ((Below.refl wP.heap.size wP)).trans (hbr.mono (Nat.le_refl _))
      have hgg := grownBy_three wr g (.bool a.ch) (.slice (some ⟨ms, 0, none⟩) a.sh.length a.sh.length) (.slice none 0 0)
      have i1 := ((bg.store 0 (.bool a.ch)).store 1 (.slice (some ⟨ms, 0, none⟩) a.sh.length a.sh.length)).store 2 (.slice none 0 0)
      simp only [List.setIfInBounds_toArray, List.set_cons_zero, List.set_cons_succ] at i1
      have hgms : g ≠ ms := Box.apart bg r4 (by decide)
      have i3 : Row _ ms _ := Box.grown r4 hgg (by intro e; injection e with e; exact hgms e)
      have iw := hbw.grown hgg hbw.size (fun j e => by cases e; omega)
      have hgl : g < (((wr.setCell ⟨g, 0, none⟩ (.bool a.ch)).setCell ⟨g, 1, none⟩ (.slice (some ⟨ms, 0, none⟩) a.sh.length a.sh.length)).setCell ⟨g, 2, none⟩ (.slice none 0 0)).heap.size := i1.lt
      clear hbr hgg r4 bg g0 g1 g2 gf hbw hK' 
      generalize (((wr.setCell ⟨g, 0, none⟩ (.bool a.ch)).setCell ⟨g, 1, none⟩ (.slice (some ⟨ms, 0, none⟩) a.sh.length a.sh.length)).setCell ⟨g, 2, none⟩ (.slice none 0 0)) = W2 at i3 i1 iw hgl ⊢
      have hgP : wP.heap.size ≤ g := hg
      have hmP := m4
      have hmW := Box.lt i3
      have hW12 := iw.size
      have HI1 := Lib.hid i1
      have HI3 := Lib.hid i3
      have HIW := Lib.hid iw
      have HGM := Lib.hid hgms
      clear i1 i3 iw hgms hg m4 t0 t1 t2
      have hgw2 := BW.out.below HIW.out
      obtain ⟨t0, t1, t2⟩ := (bAP.below HIW.out).three
      go_wp2_with fail
      clear t0 t1 t2 hgw2
      go_loopw [14] (fun sI wr => ∃ (k : Nat) (A4 : Option Addr) (c4 : Nat), k ≤ a.da.length ∧ sI = .int .i64 k ∧ Box wr g 24 #[.bool a.ch, .slice (some ⟨ms, 0, none⟩) a.sh.length a.sh.length, .slice A4 k c4] ∧ Owns wr W2.heap.size (.slice A4 k c4) k (X.take k) ∧ Row wr ms a.sh ∧ Below wP.heap.size wP wr ∧ W2.heap.size ≤ wr.heap.size) (fun sI _ => a.da.length - (intOf sI).toNat)
      case atStart => exact ⟨0, none, 0, Nat.zero_le _, rfl, HI1.out, Owns.nil _ _, HI3.out, HIW.out, Nat.le_refl _⟩
      case round =>
        obtain ⟨k, A4, c4, hk, rfl, h1, h2, h3, hbl, hws⟩ := hrel
        have hlo := h1.lt
        have hlm := Box.lt h3
        obtain ⟨g0, g1, g2⟩ := h1.three
        have bAk := bAP.below hbl
        obtain ⟨t0, t1, t2⟩ := bAk.three
        have lA2 := bAk.lt
        have bWk := BW.out.below hbl
        obtain ⟨y0, y1, y2⟩ := bWk.three
        have yl := bWk.lt
        have hbwl := hbwP.trans (hbl.mono hbwP.size)
        rcases Nat.lt_or_ge k a.da.length with hlt | hge
        · obtain ⟨ad, x, rfl, hx, hax, hcx⟩ := Elems.later HD.out hbwl hlt
          have HX0 := Lib.hid (show (putTo v (placesOf t bs) 0 a.da)[k]? = some x from hx)
          have hzz := hbl.size
          clear hx
          go_wp2_with fail
          go_loop [15, 16] (fun sc sj => ∃ (j : Nat) (c : Int), j ≤ M ∧ sj = .int .i64 j ∧ sc = .int .i64 c ∧ (putTo v (placesOf t bs) j a.da)[k]? = some c) (fun _ sj => M - (intOf sj).toNat)
          case atStart => exact ⟨0, x, Nat.zero_le _, rfl, rfl, HX0.out⟩
          case round =>
            obtain ⟨j, c, hj, rfl, rfl, hc⟩ := hrel
            have HC := Lib.hid hc
            clear hc
            rcases Nat.lt_or_ge j M with hjl | hjg
            · obtain ⟨ap, q, rfl, hq, hap, hcq⟩ := Elems.later HPW.out hbl (k := j) (by rw [← HML.out]; exact hjl)
              obtain ⟨hq0, hql⟩ := HPI.out j q hq
              obtain ⟨P, rfl⟩ := Int.eq_ofNat_of_zero_le hq0
              obtain ⟨aw, y, rfl, hy, haw, hcy⟩ := Elems.later HDW.out hbl (k := j) (by unfold shapedOf; simp; rw [← HMT.out]; exact hjl)
              have hyv : y = putV v j := by
                unfold shapedOf at hy
                simp only [List.getElem?_map] at hy
                rw [List.getElem?_range (by rw [← HMT.out]; exact hjl)] at hy
                simp at hy
                exact hy.symm
              have HG := Lib.hid (show (placesOf t bs).getD j 0 = (P : Int) by rw [List.getD_eq_getElem?_getD, hq]; rfl)
              have hwdl : (shapedOf v T).da.length = M := by unfold shapedOf; simp [HMT.out]
              have HWDL := Lib.hid hwdl
              have hjw : j < (shapedOf v T).da.length := by rw [hwdl]; exact hjl
              have HYV := Lib.hid hyv
              clear hq hy hq0 hql hyv hwdl
              by_cases hPk : P = k
              · have HN := Lib.hid (show (putTo v (placesOf t bs) (j + 1) a.da)[k]? = some y by
                  rw [putTo, HG.out, Int.toNat_natCast, hPk, List.getElem?_set_self (by rw [putTo_length]; exact hlt), HYV.out])
                have e1 : ((P : Int) == (k : Int)) = true := by simp [hPk]
                clear hPk
                go_wp2_with fail
                go_round
                case rel => exact ⟨j + 1, y, by omega, by go_num, rfl, HN.out⟩
                case measure => simp [intOf]; omega
              · have HN := Lib.hid (show (putTo v (placesOf t bs) (j + 1) a.da)[k]? = some c by
                  rw [putTo, HG.out, Int.toNat_natCast, List.getElem?_set_ne hPk, HC.out])
                have e1 : ((P : Int) == (k : Int)) = false := by simp; omega
                clear hPk
                go_wp2_with fail
                go_round
                case rel => exact ⟨j + 1, c, by omega, by go_num, rfl, HN.out⟩
                case measure => simp [intOf]; omega
            · obtain rfl : j = M := by omega
              have HXK := Lib.hid (show X[k]? = some c by rw [HXX.out]; unfold putOf; rw [HNS.out, ← HML.out]; exact HC.out)
              go_wp2_with (at_builtin; refine wpList_append_ints _ rfl rfl _ _ rfl W2.heap.size k _ (X.take k) rfl (h2.alloc _) (some ⟨wr.heap.size, 0, none⟩) 1 1 [c] rfl (by simp) (elems_new wr c) rfl (by omega) (by simp; omega) ?_; intro A5 c5 w5 hown5 hgrow5 hat5; have b5 := Box.grown (w := wr.alloc _) (h1.alloc _) hgrow5 (h2.ne_box h1 (by decide)); have hc5 := b5.three.2.2; have hf5 := b5.frozen 2; have hl5 := b5.lt)
              have hgm2 := HGM.out
              have hmw : (Value.slice A4 k c4).ownBlock ≠ some ms := fun e => by have := (h2.lt e).1; omega
              go_roundw
              case rel => exact ⟨k + 1, A5, c5, by omega, by go_num, b5.store 2 _, by rw [← take_at HXK.out]; exact hown5.setCell (p := ⟨g, 2, none⟩) (hown5.ne_box b5 (by decide)) _, Box.far (Box.grown (Box.alloc h3 _) hgrow5 hmw) (p := ⟨g, 2, none⟩) (by simp; exact Ne.symm hgm2) _, ((hbl.alloc hbl.size _).grown hgrow5 (by simp; omega) (fun _ e => by have := (h2.lt e).1; omega)).setCell (p := ⟨g, 2, none⟩) (by simp; omega) _, by have := hgrow5.size; simp at this ⊢; omega⟩
              case measure => simp [intOf]; omega
        · have hke : k = a.da.length := by omega
          subst hke
          rw [List.take_of_length_le (by rw [HXL.out]; exact Nat.le_refl _)] at h2
          have b3 := bRP.below hbl
          have rf := b3.frozen
          obtain ⟨e0, e1, e2⟩ := b3.three
          have rl := b3.lt
          go_wp2_with fail
          have hgg := grownBy_three wr (w.heap.size + 1 + 1) (.bool a.ch) (.slice (some ⟨ms, 0, none⟩) a.sh.length a.sh.length) (.slice A4 a.da.length c4)
          have z := ((b3.store 0 (.bool a.ch)).store 1 (.slice (some ⟨ms, 0, none⟩) a.sh.length a.sh.length)).store 2 (.slice A4 a.da.length c4)
          simp only [List.setIfInBounds_toArray, List.set_cons_zero, List.set_cons_succ] at z
          obtain ⟨z0, z1, z2⟩ := z.three
          have zl := z.lt
          refine bodyPost_ret (v := .tuple #[.agg #[.bool a.ch, .slice (some ⟨ms, 0, none⟩) a.sh.length a.sh.length, .slice A4 a.da.length c4], .int .i64 0]) (by simp [results, Tryd.results14, go_sem, z0, z1, z2, zl]) rfl ?_
          have hgn : w.heap.size + 1 + 1 ≠ ms := by omega
          have iS : IsInts _ (.slice (some ⟨ms, 0, none⟩) a.sh.length a.sh.length) a.sh := (Box.grown h3 hgg (by intro e; injection e with e; exact hgn e) : Row _ ms a.sh).isInts rfl (by omega)
          have iD := (h2.kept hgg (.inr (h2.ne_low (by omega)))).isInts
          rw [HE.out]
          refine RTold.ok rfl ?_ (hbwl.grown hgg hbwl.size (fun j e => by cases e; omega))
          have hx2 : X = (putOf a bs v).da := HXX.out
          rw [hx2] at iD
          exact ⟨_, _, rfl, iS, iD⟩
  · have hvp : 0 < v.sh.length := by
      rcases Nat.eq_zero_or_pos v.sh.length with h | h
      · exact absurd (List.eq_nil_of_length_eq_zero h) c5
      · exact h
    have d5 : decide (0 < v.sh.length) = true := by simpa using hvp
    have HC5 := Lib.hid c5
    clear c5
    by_cases c6 : v.sh.length = T.length
    case neg =>
      have e5 : ((v.sh.length : Int) != (T.length : Int)) = true := by simp; omega
      have e5' : ¬ v.sh.length = T.length := c6
      have HE := Lib.hid (show putErr a bs v = 3 by rw [HK3.out, if_pos ⟨HC5.out, c6⟩])
      clear c6
      go_wp2_with fail
      refine bodyPost_ret (v := .tuple #[zeroArr, .int .i64 3]) (by simp [results, Tryd.results14, go_sem, q0, q1, q2, hzR]) rfl ?_
      rw [HE.out]
      exact RTold.bad (by decide) (by have := hbw.size; go_grown)
    have e5 : ((v.sh.length : Int) != (T.length : Int)) = false := by simp [c6]
    have HC6 := Lib.hid c6
    have hvT : v.sh.length ≤ T.length ∧ T.length ≤ v.sh.length := by omega
    go_wp2_with fail
    try rw [HC6.out]
    clear t0 t1 t2 lA v0 v1 v2 lV q0 q1 q2 qf hzR c6 e5
    go_loopw [11] (fun si wr => ∃ i : Nat, i ≤ T.length ∧ si = .int .i64 i ∧ (∀ j, j < i → v.sh[j]? = (ints T)[j]?) ∧ Below w2.heap.size w2 wr) (fun si _ => T.length - (intOf si).toNat)
    case atStart => exact ⟨0, Nat.zero_le _, rfl, (fun j h => by omega), Below.refl _ _⟩
    case round =>
      obtain ⟨i, hi, rfl, hsm, hbl⟩ := hrel
      have HSM := Lib.hid hsm
      have bA := bA.below hbl
      have bV := bV.below hbl
      have bR := bR.below hbl
      have HBL := Lib.hid hbl
      have hbw := hbw.trans (hbl.mono hbw.size)
      clear hsm
      obtain ⟨v0, v1, v2⟩ := bV.three
      have lV := bV.lt
      rcases Nat.lt_or_ge i T.length with hlt | hge
      · obtain ⟨ax, x, rfl, hx, hax, hcx⟩ := Elems.later (IsInts.elems HSS0.out) hbl (k := i) (by rw [length_ints]; exact hlt)
        obtain ⟨ay, y, rfl, hy, hay, hcy⟩ := Elems.later (IsInts.elems HSV.out) hbw (k := i) (by rw [HC6.out]; exact hlt)
        have HX := Lib.hid hx
        have HY := Lib.hid hy
        have hiv : i < v.sh.length := by rw [HC6.out]; exact hlt
        clear hx hy hbl
        by_cases hxy : y = x
        · have e6 : (y != x) = false := by simp [hxy]
          have HN := Lib.hid (show ∀ j, j < i + 1 → v.sh[j]? = (ints T)[j]? from fun j hj => by
            rcases Nat.lt_or_ge j i with h | h
            · exact HSM.out j h
            · obtain rfl : j = i := by omega
              rw [HX.out, HY.out, hxy])
          clear hxy
          go_wp2_with fail
          go_quiet (fail)
          all_goals go_wp2_with fail
          go_roundw
          case rel => exact ⟨i + 1, by omega, by go_num, HN.out, by first | exact HBL.out.trans (below_draws _ _ _) | exact HBL.out⟩
          case measure => simp [intOf]; omega
        · have e6 : (y != x) = true := by simp [hxy]
          have HE := Lib.hid (show putErr a bs v = 4 by
            rw [HK3.out, if_neg (fun h => h.2 HC6.out), if_pos ⟨HC5.out, fun h => by
              have h1 := HY.out
              rw [h, HX.out] at h1
              injection h1 with h1
              exact hxy h1.symm⟩])
          obtain ⟨q0, q1, q2⟩ := bR.three
          have qf := bR.frozen
          have hzR := bR.lt
          clear hxy
          go_wp2_with fail
          go_quiet (fail)
          all_goals go_wp2_with fail
          refine bodyPost_ret (v := .tuple #[zeroArr, .int .i64 4]) (by simp [results, Tryd.results14, go_sem, q0, q1, q2, hzR]) rfl ?_
          rw [HE.out]
          have hbd := hbw.trans (below_draws w.heap.size wr nq)
          exact RTold.bad (by decide) (by have := hbd.size; go_grown)
      · obtain rfl : i = T.length := by omega
        have hvs : v.sh = ints T := List.ext_getElem? fun j => by
          rcases Nat.lt_or_ge j T.length with h | h
          · exact HSM.out j h
          · rw [List.getElem?_eq_none (by rw [HC6.out]; exact h), List.getElem?_eq_none (by rw [length_ints]; exact h)]
        have HE := Lib.hid (show putErr a bs v = 0 by rw [HK3.out, if_neg (fun h => h.2 HC6.out), if_neg (fun h => h.2 hvs)])
        have HUC := Lib.hid (show u = [] ∨ u = T from .inr (ints_inj (by rw [← HU.out.sh]; exact hvs)))
        have HSS := Lib.hid (HSS0.out.mono hbl)
        have HVV := Lib.hid (HV.out.mono hbw)
        have HPL := Lib.hid (HPL0.out.mono hbl)
        obtain ⟨q0, q1, q2⟩ := bR.three
        have qf := bR.frozen
        have hzR := bR.lt
        obtain ⟨t0, t1, t2⟩ := bA.three
        have lA := bA.lt
        clear hvs hbl
        go_wp2_with fail
        refine (shaped_ok HSS.out HVV.out HTT.out HU.out HUC.out).mono ?_
        rintro e w4 ⟨r, rfl, hr, hb4⟩
        have bA4 := bA.below hb4
        have bR4 := bR.below hb4
        have hbw4 := hbw.trans (hb4.mono hbw.size)
        obtain ⟨A3, c3, D3, cd3, rfl, h3s, h3d⟩ := hr.open_
        have H3D := Lib.hid h3d
        have HPP := Lib.hid (HPL.out.mono hb4)
        clear hr hb4 h3s h3d q0 q1 q2 qf hzR t0 t1 t2 v0 v1 v2 lA lV
        go_wp2_with fail
        obtain ⟨gw, hgw⟩ : ∃ g, g = w4.heap.size := ⟨_, rfl⟩
        obtain ⟨wP, hwP⟩ : ∃ W, W = w4.alloc (.cells #[.bool (shapedOf v T).ch, .slice A3 (shapedOf v T).sh.length c3, .slice D3 (shapedOf v T).da.length cd3] 24) := ⟨_, rfl⟩
        have BW := Lib.hid (show Box wP gw 24 #[.bool (shapedOf v T).ch, .slice A3 (shapedOf v T).sh.length c3, .slice D3 (shapedOf v T).da.length cd3] by rw [hwP, hgw]; exact Box.new _ _ _)
        have HBP := Lib.hid (show Below w4.heap.size w4 wP by rw [hwP]; exact below_one _ _)
        have hgwP : gw < wP.heap.size := by rw [hwP, hgw]; simp
        rw [← hwP, ← hgw]
        clear hwP hgw
        have bAP := bA4.below HBP.out
        have bRP := bR4.below HBP.out
        have hbwP := hbw4.trans (HBP.out.mono hbw4.size)
        have HSW1 := Lib.hid (HS.out.mono hbwP)
        have HDW := Lib.hid (show Elems wP D3 (shapedOf v T).da from IsInts.elems (H3D.out.mono HBP.out))
        have HPW := Lib.hid (IsInts.elems (HPP.out.mono HBP.out))
        obtain ⟨t0, t1, t2⟩ := bAP.three
        have hlA := bAP.lt
        have hlR := bRP.lt
        refine wp_region_open (fun i v lo hi w' => match i with
          | 0 => v = .pointer (some ⟨w.heap.size, 0, none⟩)
          | 1 => v = .bool a.ch
          | 2 => v = .pointer (some ⟨w.heap.size, 1, none⟩)
          | 3 => v = .slice A a.sh.length ca
          | 4 => ∃ m, v = .slice (some ⟨m, 0, none⟩) a.sh.length a.sh.length ∧ Row w' m (a.sh) ∧ lo ≤ m ∧ m < hi ∧ wP.heap.size ≤ lo
          | 5 => ∃ ms, v = .agg #[.bool a.ch, .slice (some ⟨ms, 0, none⟩) a.sh.length a.sh.length, .slice none 0 0] ∧ Row w' ms (a.sh) ∧ wP.heap.size ≤ ms
          | 6 => ∃ g, v = .pointer (some ⟨g, 0, none⟩) ∧ Box w' g 24 #[.bool false, .slice none 0 0, .slice none 0 0] ∧ wP.heap.size ≤ g
          | _ => True) (by kernel_rfl) (by kernel_rfl) (by kernel_rfl) ?hV ?step ?last
        case hV =>
          intro i v lo hi w1 w2 h hb
          match i, h with
          | 0, h => exact h
          | 1, h => exact h
          | 2, h => exact h
          | 3, h => exact h
          | 4, ⟨m, e, ho, hm, hl, hz⟩ => exact ⟨m, e, Box.below ho hb, hm, hl, hz⟩
          | 5, ⟨ms, e, hrs, hms⟩ => exact ⟨ms, e, Box.below hrs hb, hms⟩
          | 6, ⟨g, e, hx, hz⟩ => exact ⟨g, e, hx.below hb, hz⟩
          | i + 7, _ => trivial
        case step =>
          simp only [putAll, Act.put, List.setIfInBounds_toArray, List.set_cons_zero, List.set_cons_succ, Nat.reduceAdd, Nat.zero_add]
          intro i o ho hi uu lo up wr hbr hd hj K hK
          obtain ⟨hcw, hfw⟩ := bcell hbr
          match i, ho with
          | 0, ho =>
            simp only [List.getElem?_cons_zero, Option.some.injEq] at ho
            subst ho
            first | (simp [Region.binds] at hd; simp only [hd] at hK) | skip
            refine wpOp_step rfl fun K' hK' => ?_
            go_simp
            exact hK' _ _ (hK _ _ (Below.refl _ _) rfl)
          | 1, ho =>
            simp only [List.getElem?_cons_succ, List.getElem?_cons_zero, Option.some.injEq] at ho
            subst ho
            first | (simp [Region.binds] at hd; simp only [hd] at hK) | skip
            refine wpOp_step rfl fun K' hK' => ?_
            go_simp
            exact hK' _ _ (hK _ _ (Below.refl _ _) rfl)
          | 2, ho =>
            simp only [List.getElem?_cons_succ, List.getElem?_cons_zero, Option.some.injEq] at ho
            subst ho
            first | (simp [Region.binds] at hd; simp only [hd] at hK) | skip
            refine wpOp_step rfl fun K' hK' => ?_
            go_simp
            exact hK' _ _ (hK _ _ (Below.refl _ _) rfl)
          | 3, ho =>
            simp only [List.getElem?_cons_succ, List.getElem?_cons_zero, Option.some.injEq] at ho
            subst ho
            first | (simp [Region.binds] at hd; simp only [hd] at hK) | skip
            refine wpOp_step rfl fun K' hK' => ?_
            go_simp
            exact hK' _ _ (hK _ _ (Below.refl _ _) rfl)
          | 4, ho =>
            simp only [List.getElem?_cons_succ, List.getElem?_cons_zero, Option.some.injEq] at ho
            subst ho
            first | (simp [Region.binds] at hd; simp only [hd] at hK) | skip
            refine wpOp_step rfl fun K' hK' => ?_
            go_simp
            refine (copied_ok _ (a.sh) _ (HSW1.out.mono (((Below.refl wP.heap.size wP)).trans (hbr.mono (Nat.le_refl _)))) hsl).mono ?_
            rintro e w1 ⟨g1, rfl, hg1, hr1, hb1⟩
            have hz := hbr.size
            try simp only [World.size_alloc] at hz
            exact hK' _ _ (hK _ _ hb1 ⟨g1, rfl, hr1, hg1, Box.lt hr1, by omega⟩)
          | 5, ho =>
            simp only [List.getElem?_cons_succ, List.getElem?_cons_zero, Option.some.injEq] at ho
            subst ho
            have h1 : uu 1 = .bool a.ch := hd ⟨1, .data⟩ (by simp) rfl
            obtain ⟨ms, es, os, mds, ls, zs⟩ := hd ⟨4, .data⟩ (by simp) rfl
            dsimp only at os mds ls zs
            simp only [h1, es] at hK
            refine wpOp_step rfl fun K' hK' => ?_
            go_simp
            exact hK' _ _ (hK _ _ (Below.refl _ _) ⟨ms, rfl, os, by omega⟩)
          | 6, ho =>
            simp only [List.getElem?_cons_succ, List.getElem?_cons_zero, Option.some.injEq] at ho
            subst ho
            first | (simp [Region.binds] at hd; simp only [hd] at hK) | skip
            have hz := hbr.size
            try simp only [World.size_alloc] at hz
            refine wpOp_step rfl fun K' hK' => ?_
            go_simp
            exact hK' _ _ (hK _ _ (below_one _ _) ⟨_, rfl, Box.new _ _ _, by omega⟩)
          | i + 7, ho => simp at hi; omega
        case last =>
          simp only [putAll, Act.put, List.setIfInBounds_toArray, List.set_cons_zero, List.set_cons_succ, Nat.reduceAdd, Nat.zero_add]
          intro uu wr lo up hbr hv hj
          obtain ⟨ms, e9, r4, m4⟩ := hv 5 (by simp)
          obtain ⟨g, e10, bg, hg⟩ := hv 6 (by simp)
          obtain ⟨g0, g1, g2⟩ := bg.three
          have gf := bg.frozen
          simp only [e9, e10]
          clear hv hj e9 e10
          refine wpOp_step rfl fun K' hK' => ?_
          go_simp
          refine hK' _ _ ?_
          have hbw := ((Below.refl wP.heap.size wP)).trans (hbr.mono (Nat.le_refl _))
          have hgg := grownBy_three wr g (.bool a.ch) (.slice (some ⟨ms, 0, none⟩) a.sh.length a.sh.length) (.slice none 0 0)
          have i1 := ((bg.store 0 (.bool a.ch)).store 1 (.slice (some ⟨ms, 0, none⟩) a.sh.length a.sh.length)).store 2 (.slice none 0 0)
          simp only [List.setIfInBounds_toArray, List.set_cons_zero, List.set_cons_succ] at i1
          have hgms : g ≠ ms := Box.apart bg r4 (by decide)
          have i3 : Row _ ms _ := Box.grown r4 hgg (by intro e; injection e with e; exact hgms e)
          have iw := hbw.grown hgg hbw.size (fun j e => by cases e; omega)
          have hgl : g < (((wr.setCell ⟨g, 0, none⟩ (.bool a.ch)).setCell ⟨g, 1, none⟩ (.slice (some ⟨ms, 0, none⟩) a.sh.length a.sh.length)).setCell ⟨g, 2, none⟩ (.slice none 0 0)).heap.size := i1.lt
          clear hbr hgg r4 bg g0 g1 g2 gf hbw hK' 
          generalize (((wr.setCell ⟨g, 0, none⟩ (.bool a.ch)).setCell ⟨g, 1, none⟩ (.slice (some ⟨ms, 0, none⟩) a.sh.length a.sh.length)).setCell ⟨g, 2, none⟩ (.slice none 0 0)) = W2 at i3 i1 iw hgl ⊢
          have hgP : wP.heap.size ≤ g := hg
          have hmP := m4
          have hmW := Box.lt i3
          have hW12 := iw.size
          have HI1 := Lib.hid i1
          have HI3 := Lib.hid i3
          have HIW := Lib.hid iw
          have HGM := Lib.hid hgms
          clear i1 i3 iw hgms hg m4 t0 t1 t2
          have hgw2 := BW.out.below HIW.out
          obtain ⟨t0, t1, t2⟩ := (bAP.below HIW.out).three
          go_wp2_with fail
          clear t0 t1 t2 hgw2
          go_loopw [14] (fun sI wr => ∃ (k : Nat) (A4 : Option Addr) (c4 : Nat), k ≤ a.da.length ∧ sI = .int .i64 k ∧ Box wr g 24 #[.bool a.ch, .slice (some ⟨ms, 0, none⟩) a.sh.length a.sh.length, .slice A4 k c4] ∧ Owns wr W2.heap.size (.slice A4 k c4) k (X.take k) ∧ Row wr ms a.sh ∧ Below wP.heap.size wP wr ∧ W2.heap.size ≤ wr.heap.size) (fun sI _ => a.da.length - (intOf sI).toNat)
          case atStart => exact ⟨0, none, 0, Nat.zero_le _, rfl, HI1.out, Owns.nil _ _, HI3.out, HIW.out, Nat.le_refl _⟩
          case round =>
            obtain ⟨k, A4, c4, hk, rfl, h1, h2, h3, hbl, hws⟩ := hrel
            have hlo := h1.lt
            have hlm := Box.lt h3
            obtain ⟨g0, g1, g2⟩ := h1.three
            have bAk := bAP.below hbl
            obtain ⟨t0, t1, t2⟩ := bAk.three
            have lA2 := bAk.lt
            have bWk := BW.out.below hbl
            obtain ⟨y0, y1, y2⟩ := bWk.three
            have yl := bWk.lt
            have hbwl := hbwP.trans (hbl.mono hbwP.size)
            rcases Nat.lt_or_ge k a.da.length with hlt | hge
            · obtain ⟨ad, x, rfl, hx, hax, hcx⟩ := Elems.later HD.out hbwl hlt
              have HX0 := Lib.hid (show (putTo v (placesOf t bs) 0 a.da)[k]? = some x from hx)
              have hzz := hbl.size
              clear hx
              go_wp2_with fail
              go_loop [15, 16] (fun sc sj => ∃ (j : Nat) (c : Int), j ≤ M ∧ sj = .int .i64 j ∧ sc = .int .i64 c ∧ (putTo v (placesOf t bs) j a.da)[k]? = some c) (fun _ sj => M - (intOf sj).toNat)
              case atStart => exact ⟨0, x, Nat.zero_le _, rfl, rfl, HX0.out⟩
              case round =>
                obtain ⟨j, c, hj, rfl, rfl, hc⟩ := hrel
                have HC := Lib.hid hc
                clear hc
                rcases Nat.lt_or_ge j M with hjl | hjg
                · obtain ⟨ap, q, rfl, hq, hap, hcq⟩ := Elems.later HPW.out hbl (k := j) (by rw [← HML.out]; exact hjl)
                  obtain ⟨hq0, hql⟩ := HPI.out j q hq
                  obtain ⟨P, rfl⟩ := Int.eq_ofNat_of_zero_le hq0
                  obtain ⟨aw, y, rfl, hy, haw, hcy⟩ := Elems.later HDW.out hbl (k := j) (by unfold shapedOf; simp; rw [← HMT.out]; exact hjl)
                  have hyv : y = putV v j := by
                    unfold shapedOf at hy
                    simp only [List.getElem?_map] at hy
                    rw [List.getElem?_range (by rw [← HMT.out]; exact hjl)] at hy
                    simp at hy
                    exact hy.symm
                  have HG := Lib.hid (show (placesOf t bs).getD j 0 = (P : Int) by rw [List.getD_eq_getElem?_getD, hq]; rfl)
                  have hwdl : (shapedOf v T).da.length = M := by unfold shapedOf; simp [HMT.out]
                  have HWDL := Lib.hid hwdl
                  have hjw : j < (shapedOf v T).da.length := by rw [hwdl]; exact hjl
                  have HYV := Lib.hid hyv
                  clear hq hy hq0 hql hyv hwdl
                  by_cases hPk : P = k
                  · have HN := Lib.hid (show (putTo v (placesOf t bs) (j + 1) a.da)[k]? = some y by
                      rw [putTo, HG.out, Int.toNat_natCast, hPk, List.getElem?_set_self (by rw [putTo_length]; exact hlt), HYV.out])
                    have e1 : ((P : Int) == (k : Int)) = true := by simp [hPk]
                    clear hPk
                    go_wp2_with fail
                    go_round
                    case rel => exact ⟨j + 1, y, by omega, by go_num, rfl, HN.out⟩
                    case measure => simp [intOf]; omega
                  · have HN := Lib.hid (show (putTo v (placesOf t bs) (j + 1) a.da)[k]? = some c by
                      rw [putTo, HG.out, Int.toNat_natCast, List.getElem?_set_ne hPk, HC.out])
                    have e1 : ((P : Int) == (k : Int)) = false := by simp; omega
                    clear hPk
                    go_wp2_with fail
                    go_round
                    case rel => exact ⟨j + 1, c, by omega, by go_num, rfl, HN.out⟩
                    case measure => simp [intOf]; omega
                · obtain rfl : j = M := by omega
                  have HXK := Lib.hid (show X[k]? = some c by rw [HXX.out]; unfold putOf; rw [HNS.out, ← HML.out]; exact HC.out)
                  go_wp2_with (at_builtin; refine wpList_append_ints _ rfl rfl _ _ rfl W2.heap.size k _ (X.take k) rfl (h2.alloc _) (some ⟨wr.heap.size, 0, none⟩) 1 1 [c] rfl (by simp) (elems_new wr c) rfl (by omega) (by simp; omega) ?_; intro A5 c5 w5 hown5 hgrow5 hat5; have b5 := Box.grown (w := wr.alloc _) (h1.alloc _) hgrow5 (h2.ne_box h1 (by decide)); have hc5 := b5.three.2.2; have hf5 := b5.frozen 2; have hl5 := b5.lt)
                  have hgm2 := HGM.out
                  have hmw : (Value.slice A4 k c4).ownBlock ≠ some ms := fun e => by have := (h2.lt e).1; omega
                  go_roundw
                  case rel => exact ⟨k + 1, A5, c5, by omega, by go_num, b5.store 2 _, by rw [← take_at HXK.out]; exact hown5.setCell (p := ⟨g, 2, none⟩) (hown5.ne_box b5 (by decide)) _, Box.far (Box.grown (Box.alloc h3 _) hgrow5 hmw) (p := ⟨g, 2, none⟩) (by simp; exact Ne.symm hgm2) _, ((hbl.alloc hbl.size _).grown hgrow5 (by simp; omega) (fun _ e => by have := (h2.lt e).1; omega)).setCell (p := ⟨g, 2, none⟩) (by simp; omega) _, by have := hgrow5.size; simp at this ⊢; omega⟩
                  case measure => simp [intOf]; omega
            · have hke : k = a.da.length := by omega
              subst hke
              rw [List.take_of_length_le (by rw [HXL.out]; exact Nat.le_refl _)] at h2
              have b3 := bRP.below hbl
              have rf := b3.frozen
              obtain ⟨e0, e1, e2⟩ := b3.three
              have rl := b3.lt
              go_wp2_with fail
              have hgg := grownBy_three wr (w.heap.size + 1 + 1) (.bool a.ch) (.slice (some ⟨ms, 0, none⟩) a.sh.length a.sh.length) (.slice A4 a.da.length c4)
              have z := ((b3.store 0 (.bool a.ch)).store 1 (.slice (some ⟨ms, 0, none⟩) a.sh.length a.sh.length)).store 2 (.slice A4 a.da.length c4)
              simp only [List.setIfInBounds_toArray, List.set_cons_zero, List.set_cons_succ] at z
              obtain ⟨z0, z1, z2⟩ := z.three
              have zl := z.lt
              refine bodyPost_ret (v := .tuple #[.agg #[.bool a.ch, .slice (some ⟨ms, 0, none⟩) a.sh.length a.sh.length, .slice A4 a.da.length c4], .int .i64 0]) (by simp [results, Tryd.results14, go_sem, z0, z1, z2, zl]) rfl ?_
              have hgn : w.heap.size + 1 + 1 ≠ ms := by omega
              have iS : IsInts _ (.slice (some ⟨ms, 0, none⟩) a.sh.length a.sh.length) a.sh := (Box.grown h3 hgg (by intro e; injection e with e; exact hgn e) : Row _ ms a.sh).isInts rfl (by omega)
              have iD := (h2.kept hgg (.inr (h2.ne_low (by omega)))).isInts
              rw [HE.out]
              refine RTold.ok rfl ?_ (hbwl.grown hgg hbwl.size (fun j e => by cases e; omega))
              have hx2 : X = (putOf a bs v).da := HXX.out
              rw [hx2] at iD
              exact ⟨_, _, rfl, iS, iD⟩

end Go.Proofs.YtikjniibfomadaaDoor
