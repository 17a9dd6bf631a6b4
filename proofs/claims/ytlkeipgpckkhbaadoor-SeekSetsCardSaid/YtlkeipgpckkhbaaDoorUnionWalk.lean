/- The walk of seek.Union. Conditions: none. -/
import Derived.Test.YtlkeipgpckkhbaaDoorUnionReg
import Derived.Test.YtlkeipgpckkhbaaDoorSeekTold
import Derived.Test.YtlkeipgpckkhbaaDoorPairBad
namespace Go.Proofs.YtlkeipgpckkhbaaDoor
open Go Go.RowKit Go.Proofs.YtlkeipgpckkhbaaDoor.P

set_option maxRecDepth 100000 in
set_option maxHeartbeats 2000000 in
theorem union_bad1 {va vb : Value} {a b : Arr} {w : World} (ha : IsArr w va a) (hb : IsArr w vb b) (h : pairErr a b ≠ 0) :
    Calls Tryd.prog 17 #[va, vb] w (Fails zeroArr (pairErr a b) w) := by
  obtain ⟨A, ca, D, cd, rfl, hs, hd⟩ := ha.open_
  obtain ⟨A', ca', D', cd', rfl, hs', hd'⟩ := hb.open_
  have HE := errV_ne h
  have H := Lib.hid h
  clear h hs hd hs' hd'
  have bA0 := ((Box.new w 24 #[.bool a.ch, .slice A a.sh.length ca, .slice D a.da.length cd]).alloc (.cells #[.bool b.ch, .slice A' b.sh.length ca', .slice D' b.da.length cd'] 24)).alloc (.cells #[.bool false, .slice none 0 0, .slice none 0 0] 24)
  have bB0 := (Box.new (w.alloc (.cells #[.bool a.ch, .slice A a.sh.length ca, .slice D a.da.length cd] 24)) 24 #[.bool b.ch, .slice A' b.sh.length ca', .slice D' b.da.length cd']).alloc (.cells #[.bool false, .slice none 0 0, .slice none 0 0] 24)
  have bR0 := Box.new ((w.alloc (.cells #[.bool a.ch, .slice A a.sh.length ca, .slice D a.da.length cd] 24)).alloc (.cells #[.bool b.ch, .slice A' b.sh.length ca', .slice D' b.da.length cd'] 24)) 24 #[.bool false, .slice none 0 0, .slice none 0 0]
  simp only [World.size_alloc] at bB0 bR0
  have hb0 := below_three w (.cells #[.bool a.ch, .slice A a.sh.length ca, .slice D a.da.length cd] 24) (.cells #[.bool b.ch, .slice A' b.sh.length ca', .slice D' b.da.length cd'] 24) (.cells #[.bool false, .slice none 0 0, .slice none 0 0] 24)
  obtain ⟨t0, t1, t2⟩ := bA0.three
  obtain ⟨u0, u1, u2⟩ := bB0.three
  go_enter Tryd.func17, Tryd.ntmps17
  go_wp2_with fail
  refine (pair_bad (ha.mono hb0) (hb.mono hb0) H.out).mono ?_
  rintro e w1 ⟨rfl, hb1⟩
  have b1 := bR0.below hb1
  have hbw := hb0.trans (hb1.mono hb0.size)
  obtain ⟨q0, q1, q2⟩ := b1.three
  have f1 := b1.frozen
  have hz := b1.lt
  clear bR0 bA0 bB0 t0 t1 t2 u0 u1 u2 hb1
  go_wp2_with fail
  refine bodyPost_ret (v := .tuple #[zeroArr, .iface 25 (.int .i64 (pairErr a b))]) (by simp [results, Tryd.results17, go_sem, q0, q1, q2, hz]) rfl ?_
  exact ⟨rfl, by have := hbw.size; go_grown⟩

set_option maxRecDepth 100000 in
set_option maxHeartbeats 4000000 in
theorem union_rest {va vb : Value} {a b : Arr} {w : World} (ha : IsArr w va a) (hb : IsArr w vb b) (hwa : Wf a.da) (hwb : Wf b.da) (h : pairErr a b = 0) :
    Calls Tryd.prog 17 #[va, vb] w (Told (union a b) (unionErr a b) w) := by
  obtain ⟨A, ca, D, cd, rfl, hs, hd⟩ := ha.open_
  obtain ⟨A', ca', D', cd', rfl, hs', hd'⟩ := hb.open_
  obtain ⟨s, t, hsO, htO, h1, h2⟩ := pairErr_zero h
  have hl := ok_da_le hsO
  have hlw := ok_da_le (without_ok htO a)
  have hba := pairErr_ok htO hsO h2 h1
  have H := Lib.hid h
  have HBA := Lib.hid hba
  have HW := Lib.hid hwa
  have HV := Lib.hid hwb
  have HD := Lib.hid hd
  clear h hsO htO h1 h2 hwa hwb hs hd hs' hd' hba
  have bA0 := ((Box.new w 24 #[.bool a.ch, .slice A a.sh.length ca, .slice D a.da.length cd]).alloc (.cells #[.bool b.ch, .slice A' b.sh.length ca', .slice D' b.da.length cd'] 24)).alloc (.cells #[.bool false, .slice none 0 0, .slice none 0 0] 24)
  have bB0 := (Box.new (w.alloc (.cells #[.bool a.ch, .slice A a.sh.length ca, .slice D a.da.length cd] 24)) 24 #[.bool b.ch, .slice A' b.sh.length ca', .slice D' b.da.length cd']).alloc (.cells #[.bool false, .slice none 0 0, .slice none 0 0] 24)
  have bR0 := Box.new ((w.alloc (.cells #[.bool a.ch, .slice A a.sh.length ca, .slice D a.da.length cd] 24)).alloc (.cells #[.bool b.ch, .slice A' b.sh.length ca', .slice D' b.da.length cd'] 24)) 24 #[.bool false, .slice none 0 0, .slice none 0 0]
  simp only [World.size_alloc] at bB0 bR0
  have hb0 := below_three w (.cells #[.bool a.ch, .slice A a.sh.length ca, .slice D a.da.length cd] 24) (.cells #[.bool b.ch, .slice A' b.sh.length ca', .slice D' b.da.length cd'] 24) (.cells #[.bool false, .slice none 0 0, .slice none 0 0] 24)
  obtain ⟨t0, t1, t2⟩ := bA0.three
  obtain ⟨u0, u1, u2⟩ := bB0.three
  go_enter Tryd.func17, Tryd.ntmps17
  go_wp2_with fail
  refine (pair_ok (ha.mono hb0) (hb.mono hb0) HV.out H.out).mono ?_
  rintro e w1 ⟨p0, pa, pb, pg, a1, a2, b1, b2, rfl, -, -, -, -, hb1⟩
  have bR1 := bR0.below hb1
  have bA1 := bA0.below hb1
  have bB1 := bB0.below hb1
  have hbw := hb0.trans (hb1.mono hb0.size)
  clear hb1 bR0 bA0 bB0 t0 t1 t2 u0 u1 u2
  obtain ⟨t0, t1, t2⟩ := bA1.three
  obtain ⟨u0, u1, u2⟩ := bB1.three
  obtain ⟨q0, q1, q2⟩ := bR1.three
  have fR := bR1.frozen
  have hzR := bR1.lt
  by_cases hc : a.ch = b.ch
  case neg =>
    have e1 : (a.ch == b.ch) = false := by simp [hc]
    have HE := Lib.hid (show unionErr a b = 6 by unfold unionErr; rw [if_neg (by rw [H.out]; simp), if_pos hc])
    clear hc
    go_wp2_with fail
    refine bodyPost_ret (v := .tuple #[zeroArr, .iface 25 (.int .i64 6)]) (by simp [results, Tryd.results17, go_sem, q0, q1, q2, hzR]) rfl ?_
    exact .inr ⟨by rw [HE.out]; decide, by rw [HE.out], by have := hbw.size; go_grown⟩
  have e1 : (a.ch == b.ch) = true := by simp [hc]
  have HC := Lib.hid hc
  clear hc
  go_wp2_with fail
  refine ((without_told (hb.mono hbw) (ha.mono hbw) HV.out HW.out).mono fun e w' h => h.ok HBA.out).mono ?_
  rintro e w2 ⟨r, rfl, hr, hb2⟩
  obtain ⟨Am, cam, Dm, cm, rfl, -, hdm⟩ := hr.open_
  obtain ⟨_, _, eD, m1, m2, m3, mn, m4⟩ := id hdm
  cases eD
  obtain ⟨m, hm⟩ : ∃ m, m = (without b a).da.length := ⟨_, rfl⟩
  have bR2 := (bR1.below hb2).alloc (.cells #[.bool (without b a).ch, .slice Am (without b a).sh.length cam, .slice Dm (without b a).da.length cm] 24)
  have bA3 := (bA1.below hb2).alloc (.cells #[.bool (without b a).ch, .slice Am (without b a).sh.length cam, .slice Dm (without b a).da.length cm] 24)
  have bM3 := Box.new w2 24 #[.bool (without b a).ch, .slice Am (without b a).sh.length cam, .slice Dm (without b a).da.length cm]
  have hbw3 := (hbw.trans (hb2.mono hbw.size)).trans ((below_one w2 (.cells #[.bool (without b a).ch, .slice Am (without b a).sh.length cam, .slice Dm (without b a).da.length cm] 24)).mono (hbw.trans (hb2.mono hbw.size)).size)
  have Em0 : Elems (w2.alloc (.cells #[.bool (without b a).ch, .slice Am (without b a).sh.length cam, .slice Dm (without b a).da.length cm] 24)) Dm (without b a).da := Elems.mono m4 (below_one _ _)
  have Em := Lib.hid Em0
  have Mn := Lib.hid mn
  clear t0 t1 t2 u0 u1 u2 q0 q1 q2 fR hzR bR1 bA1 bB1 hb2 hr hdm m4 mn Em0 hbw
  go_wp2_with fail
  have Ml := Lib.hid hm.symm
  rw [← hm] at hlw bM3 bA3 bR2 hbw3 Em ⊢
  clear hm m1 m2 m3
  obtain ⟨W3, hW3⟩ : ∃ W, W = w2.alloc (.cells #[.bool (without b a).ch, .slice Am (without b a).sh.length cam, .slice Dm m cm] 24) := ⟨_, rfl⟩
  obtain ⟨gm, hgm⟩ : ∃ g, g = w2.heap.size := ⟨_, rfl⟩
  rw [← hW3] at bM3 bA3 bR2 hbw3 Em ⊢
  rw [← hgm] at bM3 ⊢
  clear hW3 hgm
  obtain ⟨V, hVe⟩ : ∃ V : Nat → Value → Prop, V = fun i v => match i with
      | 0 => v = .pointer (some ⟨w.heap.size, 0, none⟩)
      | 1 => v = .bool a.ch
      | 2 => v = .pointer (some ⟨w.heap.size, 2, none⟩)
      | 3 => v = .slice D a.da.length cd
      | 5 => v = .pointer (some ⟨gm, 2, none⟩)
      | 6 => v = .slice Dm m cm
      | _ => True := ⟨_, rfl⟩
  have hV0 : ∀ v, V 0 v ↔ v = .pointer (some ⟨w.heap.size, 0, none⟩) := fun _ => by subst hVe; rfl
  have hV1 : ∀ v, V 1 v ↔ v = .bool a.ch := fun _ => by subst hVe; rfl
  have hV2 : ∀ v, V 2 v ↔ v = .pointer (some ⟨w.heap.size, 2, none⟩) := fun _ => by subst hVe; rfl
  have hV3 : ∀ v, V 3 v ↔ v = .slice D a.da.length cd := fun _ => by subst hVe; rfl
  have hV4 : ∀ v, V 4 v := fun _ => by subst hVe; trivial
  have hV5 : ∀ v, V 5 v ↔ v = .pointer (some ⟨gm, 2, none⟩) := fun _ => by subst hVe; rfl
  have hV6 : ∀ v, V 6 v ↔ v = .slice Dm m cm := fun _ => by subst hVe; rfl
  have hV7 : ∀ v, V 7 v := fun _ => by subst hVe; trivial
  have hV8 : ∀ v, V 8 v := fun _ => by subst hVe; trivial
  have hV9 : ∀ v, V 9 v := fun _ => by subst hVe; trivial
  have hV10 : ∀ v, V 10 v := fun _ => by subst hVe; trivial
  clear hVe
  refine wp_region_inv (UInv V W3 a.ch a.da.length m a.da (without b a).da) (by kernel_rfl) (by kernel_rfl) (by kernel_rfl) UInv.start ?step ?fin
  case step =>
    simp only [putAll, Act.put, List.setIfInBounds_toArray, List.set_cons_zero, List.set_cons_succ, Nat.reduceAdd, Nat.zero_add]
    intro i o ho done u_ wr hnd hdep hI K hK
    have hbr := hI.1
    have hv := hI.2.1
    match i, ho with
    | 0, ho =>
      simp only [List.getElem?_cons_zero, Option.some.injEq] at ho
      subst ho
      simp only [Act.put, List.setIfInBounds_toArray, List.set_cons_zero, List.set_cons_succ] at hK
      refine wpOp_step rfl fun K' hK' => ?_
      go_simp
      exact hK' _ _ (hK _ _ (hI.keep hnd (by decide) ((hV0 _).2 rfl)))
    | 1, ho =>
      simp only [List.getElem?_cons_succ, List.getElem?_cons_zero, Option.some.injEq] at ho
      subst ho
      simp only [Act.put, List.setIfInBounds_toArray, List.set_cons_zero, List.set_cons_succ] at hK
      have e0 := (hV0 _).1 (hv 0 (hdep ⟨0, .data⟩ (by simp) rfl))
      simp only [e0] at hK
      obtain ⟨t0, t1, t2⟩ := (bA3.below hbr).three
      refine wpOp_step rfl fun K' hK' => ?_
      go_simp
      exact hK' _ _ (hK _ _ (hI.keep hnd (by decide) ((hV1 _).2 rfl)))
    | 2, ho =>
      simp only [List.getElem?_cons_succ, List.getElem?_cons_zero, Option.some.injEq] at ho
      subst ho
      simp only [Act.put, List.setIfInBounds_toArray, List.set_cons_zero, List.set_cons_succ] at hK
      refine wpOp_step rfl fun K' hK' => ?_
      go_simp
      exact hK' _ _ (hK _ _ (hI.keep hnd (by decide) ((hV2 _).2 rfl)))
    | 3, ho =>
      simp only [List.getElem?_cons_succ, List.getElem?_cons_zero, Option.some.injEq] at ho
      subst ho
      simp only [Act.put, List.setIfInBounds_toArray, List.set_cons_zero, List.set_cons_succ] at hK
      have e2 := (hV2 _).1 (hv 2 (hdep ⟨2, .data⟩ (by simp) rfl))
      simp only [e2] at hK
      obtain ⟨t0, t1, t2⟩ := (bA3.below hbr).three
      refine wpOp_step rfl fun K' hK' => ?_
      go_simp
      exact hK' _ _ (hK _ _ (hI.keep hnd (by decide) ((hV3 _).2 rfl)))
    | 4, ho =>
      simp only [List.getElem?_cons_succ, List.getElem?_cons_zero, Option.some.injEq] at ho
      subst ho
      simp only [Act.put, List.setIfInBounds_toArray, List.set_cons_zero, List.set_cons_succ] at hK
      have e3 := (hV3 _).1 (hv 3 (hdep ⟨3, .data⟩ (by simp) rfl))
      simp only [e3] at hK
      refine wpOp_step rfl fun K' hK' => ?_
      go_simp
      refine (clone_any _ a.da _ (HD.out.mono (hbw3.trans (hbr.mono hbw3.size)))).mono ?_
      rintro e w9 ⟨A9, c9, rfl, ho9, hb9⟩
      exact hK' _ _ (hK _ _ (hI.clone hnd (hV4 _) hb9 ⟨A9, c9, rfl, ho9.base hbr.size⟩))
    | 5, ho =>
      simp only [List.getElem?_cons_succ, List.getElem?_cons_zero, Option.some.injEq] at ho
      subst ho
      simp only [Act.put, List.setIfInBounds_toArray, List.set_cons_zero, List.set_cons_succ] at hK
      refine wpOp_step rfl fun K' hK' => ?_
      go_simp
      exact hK' _ _ (hK _ _ (hI.keep hnd (by decide) ((hV5 _).2 rfl)))
    | 6, ho =>
      simp only [List.getElem?_cons_succ, List.getElem?_cons_zero, Option.some.injEq] at ho
      subst ho
      simp only [Act.put, List.setIfInBounds_toArray, List.set_cons_zero, List.set_cons_succ] at hK
      have e5 := (hV5 _).1 (hv 5 (hdep ⟨5, .data⟩ (by simp) rfl))
      simp only [e5] at hK
      obtain ⟨t0, t1, t2⟩ := (bM3.below hbr).three
      refine wpOp_step rfl fun K' hK' => ?_
      go_simp
      exact hK' _ _ (hK _ _ (hI.keep hnd (by decide) ((hV6 _).2 rfl)))
    | 7, ho =>
      simp only [List.getElem?_cons_succ, List.getElem?_cons_zero, Option.some.injEq] at ho
      subst ho
      simp only [Act.put, List.setIfInBounds_toArray, List.set_cons_zero, List.set_cons_succ] at hK
      have d4 : done 4 = true := hdep ⟨4, .data⟩ (by simp) rfl
      have e6 := (hV6 _).1 (hv 6 (hdep ⟨6, .data⟩ (by simp) rfl))
      obtain ⟨A9, c9, e4, ho9⟩ := hI.2.2.1 d4 hnd
      refine wpOp_step rfl fun K' hK' => ?_
      refine wp_append_ints _ rfl (Operand.tmp 38) (Operand.tmp 40) rfl W3.heap.size a.da.length (u_ 4) a.da rfl ho9 Dm m cm (without b a).da (e6) Mn.out (Elems.mono Em.out hbr) Ml.out (by omega) hbr.size ?_
      intro A8 c8 w8 hown8 hgrow8 hat8
      exact hK' _ _ (hK _ _ (hI.append hnd d4 (hV7 _) hgrow8 ⟨A8, c8, rfl, hown8⟩))
    | 8, ho =>
      simp only [List.getElem?_cons_succ, List.getElem?_cons_zero, Option.some.injEq] at ho
      subst ho
      simp only [Act.put, List.setIfInBounds_toArray, List.set_cons_zero, List.set_cons_succ] at hK
      have d7 : done 7 = true := hdep ⟨7, .data⟩ (by simp) rfl
      have e1 := (hV1 _).1 (hv 1 (hdep ⟨1, .data⟩ (by simp) rfl))
      obtain ⟨A9, c9, e7, ho9⟩ := (hI.2.2.2.1 d7).2
      simp only [e1, e7] at hK
      refine wpOp_step rfl fun K' hK' => ?_
      go_simp
      exact hK' _ _ (hK _ _ (hI.build hnd d7 (hV8 _) (by rw [e7])))
    | 9, ho =>
      simp only [List.getElem?_cons_succ, List.getElem?_cons_zero, Option.some.injEq] at ho
      subst ho
      simp only [Act.put, List.setIfInBounds_toArray, List.set_cons_zero, List.set_cons_succ] at hK
      refine wpOp_step rfl fun K' hK' => ?_
      go_simp
      exact hK' _ _ (hK _ _ (hI.var hnd rfl (hV9 _) rfl))
    | 10, ho =>
      simp only [List.getElem?_cons_succ, List.getElem?_cons_zero, Option.some.injEq] at ho
      subst ho
      simp only [Act.put, List.setIfInBounds_toArray, List.set_cons_zero, List.set_cons_succ] at hK
      have d8 : done 8 = true := hdep ⟨8, .data⟩ (by simp) rfl
      have d9 : done 9 = true := hdep ⟨9, .data⟩ (by simp) rfl
      obtain ⟨d7, e8⟩ := hI.2.2.2.2.1 d8
      obtain ⟨A9, c9, e7, ho9⟩ := (hI.2.2.2.1 d7).2
      obtain ⟨g, e9, hg9, bg, -⟩ := hI.2.2.2.2.2.1 d9
      have bg := bg hnd
      rw [e7] at e8
      obtain ⟨g0, g1, g2⟩ := bg.three
      have gf := bg.frozen
      have gl := bg.lt
      simp only [e7, e8, e9] at hK
      refine wpOp_step rfl fun K' hK' => ?_
      go_simp
      exact hK' _ _ (hK (.bool true) _ (hI.store hnd d8 d9 e9 (hV10 _) e7))
    | i + 11, ho => simp at ho
  case fin =>
    simp only [putAll, Act.put, List.setIfInBounds_toArray, List.set_cons_zero, List.set_cons_succ, Nat.reduceAdd, Nat.zero_add]
    intro done u_ wr hd hI
    simp only [List.length_cons, List.length_nil, Nat.reduceAdd, Nat.zero_add] at hd
    obtain ⟨hbr, hv, -, h4, h5, h6, -⟩ := hI
    obtain ⟨-, A9, c9, e7, ho9⟩ := h4 (hd 7 (by omega))
    obtain ⟨g, e9, hg9, -, bg⟩ := h6 (hd 9 (by omega))
    have bg := bg (hd 10 (by omega))
    rw [e7] at bg ho9
    simp only [e9]
    clear h4 h5 h6 hv hd e7 e9
    have hbw4 := hbw3.trans (hbr.mono hbw3.size)
    have hN : (union a b).da.length = a.da.length + m := by rw [← Ml.out]; simp [union, vecOf]
    have bR4 := bR2.below hbr
    obtain ⟨g0, g1, g2⟩ := bg.three
    obtain ⟨q0, q1, q2⟩ := bR4.three
    have fR := bR4.frozen
    have zl := bR4.lt
    have gl := bg.lt
    have gf := bg.frozen
    have hsz := hbw3.size
    have HN := Lib.hid hN
    clear hN
    by_cases c7 : 4096 < a.da.length + m
    · have d7 : decide ((4096 : Int) < (a.da.length : Int) + (m : Int)) = true := by simp; omega
      have d7' : decide ((4096 : Int) < ((a.da.length + m : Nat) : Int)) = true := by simp; omega
      have HE := Lib.hid (show unionErr a b = 7 by unfold unionErr; rw [if_neg (by rw [H.out]; simp), if_neg (by simp [HC.out]), if_pos (by rw [HN.out]; exact c7)])
      clear c7
      go_wp2_with fail
      refine bodyPost_ret (v := .tuple #[zeroArr, .iface 25 (.int .i64 7)]) (by simp [results, Tryd.results17, go_sem, q0, q1, q2, zl]) rfl ?_
      exact .inr ⟨by rw [HE.out]; decide, by rw [HE.out], by have := hbw4.size; go_grown⟩
    have d7 : decide ((4096 : Int) < (a.da.length : Int) + (m : Int)) = false := by simp; omega
    have d7' : decide ((4096 : Int) < ((a.da.length + m : Nat) : Int)) = false := by simp; omega
    have HE := Lib.hid (show unionErr a b = 0 by unfold unionErr; rw [if_neg (by rw [H.out]; simp), if_neg (by simp [HC.out]), if_neg (by rw [HN.out]; exact c7)])
    clear c7
    have zlW := bR2.lt
    have bR5 := bR4.far (p := ⟨g, 1, none⟩) (by simp; omega) (.slice (some ⟨wr.heap.size, 0, none⟩) 1 1)
    obtain ⟨x0, x1, x2⟩ := bR5.three
    have xf := bR5.frozen
    have bg5 := bg.store 1 (.slice (some ⟨wr.heap.size, 0, none⟩) 1 1)
    simp only [List.setIfInBounds_toArray, List.set_cons_zero, List.set_cons_succ] at bg5
    obtain ⟨y0, y1, y2⟩ := bg5.three
    have hne : ¬ (w.heap.size + 1 + 1 = g) := by omega
    have hlen : (((a.da ++ (without b a).da).length : Nat) : Int) = (a.da.length : Int) + (m : Int) := by rw [List.length_append, Ml.out]; simp
    have HLEN := Lib.hid hlen
    clear hlen
    go_wp2_with fail
    refine bodyPost_ret (v := .tuple #[.agg #[.bool a.ch, .slice (some ⟨wr.heap.size, 0, none⟩) 1 1, .slice A9 (a.da.length + m) c9], .nilIface]) (by simp [results, Tryd.results17, go_sem, zl, x0, x1, x2]; first | done | rfl | exact ⟨rfl, rfl, rfl⟩) rfl ?_
    have k1 := ho9.setCell (p := ⟨g, 1, none⟩) (ho9.ne_box bg (by decide)) (.slice (some ⟨wr.heap.size, 0, none⟩) 1 1)
    have gg := grownBy_three (wr.setCell ⟨g, 1, none⟩ (.slice (some ⟨wr.heap.size, 0, none⟩) 1 1)) (w.heap.size + 1 + 1) (.bool a.ch) (.slice (some ⟨wr.heap.size, 0, none⟩) 1 1) (.slice A9 (a.da.length + m) c9)
    have k2 := ((k1.kept gg (.inr (k1.ne_low (by omega)))).alloc (.cells #[.int .i64 ((a.da.length : Int) + (m : Int))] 3)).isInts
    have bS := Box.new ((((wr.setCell ⟨g, 1, none⟩ (.slice (some ⟨wr.heap.size, 0, none⟩) 1 1)).setCell ⟨w.heap.size + 1 + 1, 0, none⟩ (.bool a.ch)).setCell ⟨w.heap.size + 1 + 1, 1, none⟩ (.slice (some ⟨wr.heap.size, 0, none⟩) 1 1)).setCell ⟨w.heap.size + 1 + 1, 2, none⟩ (.slice A9 (a.da.length + m) c9)) 3 #[.int .i64 ((a.da.length : Int) + (m : Int))]
    simp only [World.size_setCell] at bS
    have k3 := bS.isInts (xs := [(a.da.length : Int) + (m : Int)]) (n := 1) rfl (by omega)
    refine .inl ⟨HE.out, _, rfl, ⟨_, _, rfl, ?_, k2⟩, by have := hbw4.size; go_grown⟩
    show IsInts _ _ [(((a.da ++ (without b a).da).length : Nat) : Int)]
    rw [HLEN.out]
    exact k3

theorem union_told {va vb : Value} {a b : Arr} {w : World} (ha : IsArr w va a) (hb : IsArr w vb b) (hwa : Wf a.da) (hwb : Wf b.da) : Calls Tryd.prog 17 #[va, vb] w (Told (union a b) (unionErr a b) w) := by
  by_cases h : pairErr a b = 0
  · exact union_rest ha hb hwa hwb h
  · have e : unionErr a b = pairErr a b := by unfold unionErr; rw [if_pos h]
    rw [e]
    exact (union_bad1 ha hb h).mono fun e w' p => .inr ⟨h, p⟩

end Go.Proofs.YtlkeipgpckkhbaaDoor
