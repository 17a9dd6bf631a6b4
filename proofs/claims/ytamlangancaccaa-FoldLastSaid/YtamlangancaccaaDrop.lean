/- The walk of cut.Drop. Conditions: none. -/
import Derived.Test.YtamlangancaccaaWindow
import Derived.Test.YtamlangancaccaaPair
import Derived.Test.YtamlangancaccaaStore
import Derived.Test.YtamlangancaccaaCutLaw
set_option linter.unusedSimpArgs false
set_option linter.unusedVariables false
namespace Go.Proofs.Ytamlangancaccaa
open Go Go.RowKit Go.Proofs.Ytamlangancaccaa.P

theorem clamp_bd (m : Int) (l : Nat) : -(l : Int) ≤ clamp m l ∧ clamp m l ≤ l := by unfold clamp; omega
theorem dropSh_at {n : List Int} {t : List Nat} {k : Nat} {m : Int} (h : n[k]? = some m) (hk : k < t.length) : (ints (dropSh n t))[k]? = some (if 0 ≤ clamp m (t.getD k 0) then ((t.getD k 0 : Nat) : Int) - clamp m (t.getD k 0) else ((t.getD k 0 : Nat) : Int) + clamp m (t.getD k 0)) := by
  unfold dropSh
  rw [getElem?_ints, List.getElem?_zipWith, h, List.getElem?_eq_getElem hk, getD_lt hk]
  have := clamp_bd m t[k]
  simp only [Option.map_some, Option.some.injEq]
  split <;> omega
theorem dropFr_at {n : List Int} {t : List Nat} {k : Nat} {m : Int} (h : n[k]? = some m) (hk : k < t.length) : (dropFr n t)[k]? = some (if 0 ≤ clamp m (t.getD k 0) then clamp m (t.getD k 0) else 0) := by
  unfold dropFr
  rw [List.getElem?_zipWith, h, List.getElem?_eq_getElem hk, getD_lt hk]

set_option maxRecDepth 100000 in
set_option maxHeartbeats 4000000 in
theorem drop_new {vn v : Value} {n : List Int} {a : Arr} {w : World} (hn : IsInts w vn n) (ha : IsArr w v a) : Calls Try.prog 13 #[vn, v] w (ToldN (drop n a) (dropErr n a) w) := by
  obtain ⟨A, ca, D, cd, rfl, hs, hd⟩ := ha.open_
  obtain ⟨B, cb, rfl, b1, b2, b3, EB, H1⟩ := hn.open_
  obtain ⟨A0, ca0, eA, a1, a2, a3, a0, a4⟩ := id hs
  cases eA
  have EA := Lib.hid (show Elems w A a.sh from a4)
  have EN := Lib.hid EB
  clear a4 a0 EB hd
  by_cases c1 : arrErr a ≠ 0
  · have e : dropErr n a = arrErr a := by unfold dropErr; rw [if_pos c1]
    rw [e]
    have C1 := Lib.hid c1
    clear c1 e
    go_enter Try.func13, Try.ntmps13
    go_wp2_with fail
    refine (check_bad (ha.mono (below_two _ _ _)) C1.out).mono ?_
    rintro e w1 ⟨rfl, hb⟩
    have b1 := (Box.new (w.alloc (.cells #[.bool a.ch, .slice A a.sh.length ca, .slice D a.da.length cd] 25)) 25 #[.bool false, .slice none 0 0, .slice none 0 0]).below hb
    rw [World.size_alloc] at b1
    obtain ⟨q0, q1, q2⟩ := b1.three
    have f1 := b1.frozen
    have hz := b1.lt
    have hbw : Below w.heap.size w w1 := (below_two _ _ _).trans (hb.mono (by simp; omega))
    go_wp2_with fail
    refine bodyPost_ret (v := .tuple #[zeroArr, .iface 48 (.int .i64 (arrErr a))]) (by simp [results, Try.results13, go_sem, q0, q1, q2, hz]) rfl ?_
    exact .inr ⟨C1.out, rfl, by go_grown⟩
  obtain ⟨t, ht⟩ := ok_of_arrErr (by simpa using c1)
  have hsl : a.sh.length = t.length := by rw [ht.sh, length_ints]
  have HT := Lib.hid ht
  have HSL := Lib.hid hsl
  have ht6 := ht.good.1
  have HC1 := Lib.hid c1
  clear ht c1 hsl
  go_enter Try.func13, Try.ntmps13
  go_wp2_with fail
  refine (check_ok (ha.mono (below_two _ _ _)) HT.out).mono ?_
  rintro e w1 ⟨rfl, hb⟩
  have bA := ((Box.new w 25 #[.bool a.ch, .slice A a.sh.length ca, .slice D a.da.length cd]).alloc (.cells #[.bool false, .slice none 0 0, .slice none 0 0] 25)).below hb
  have bR := (Box.new (w.alloc (.cells #[.bool a.ch, .slice A a.sh.length ca, .slice D a.da.length cd] 25)) 25 #[.bool false, .slice none 0 0, .slice none 0 0]).below hb
  rw [World.size_alloc] at bR
  have hbw1 : Below w.heap.size w w1 := (below_two _ _ _).trans (hb.mono (by simp; omega))
  obtain ⟨p0, p1, p2⟩ := bA.three
  obtain ⟨q0, q1, q2⟩ := bR.three
  have f1 := bR.frozen
  have hz := bR.lt
  clear hb
  by_cases c2 : n.length = a.sh.length
  case neg =>
    have e : dropErr n a = 4 := by unfold dropErr; rw [if_neg HC1.out, if_pos c2]
    have HE := Lib.hid e
    have c2' : ((n.length : Int) != (a.sh.length : Int)) = true := by simp; omega
    clear c2 e
    go_wp2_with fail
    refine bodyPost_ret (v := .tuple #[zeroArr, .iface 48 (.int .i64 4)]) (by simp [results, Try.results13, go_sem, q0, q1, q2, hz]) rfl ?_
    exact .inr ⟨by rw [HE.out]; decide, by rw [HE.out], by go_grown⟩
  have c2' : ((n.length : Int) != (a.sh.length : Int)) = false := by simp; omega
  have C2 := Lib.hid c2
  have hn6 : n.length ≤ 6 := by have := HSL.out; omega
  have hmk := run_make_list n.length (by omega)
  have he0 : dropErr n a = 0 := by unfold dropErr; rw [if_neg HC1.out, if_neg (by have := C2.out; omega)]
  have HE := Lib.hid he0
  clear he0
  clear c2
  go_wp2_with fail
  obtain ⟨V, hVe⟩ : ∃ V : Nat → Value → World → Prop, V = fun i v w' => match i with
      | 0 => v = .pointer (some ⟨w.heap.size, 1, none⟩)
      | 1 => v = .slice A a.sh.length ca
      | 2 => ∃ A' c', v = .slice A' a.sh.length c' ∧ Owns w' (w.heap.size + 2) v a.sh.length a.sh
      | 3 => v = .slice B n.length cb
      | 4 => v = .int .i64 n.length
      | 5 => ∃ m, v = .slice (some ⟨m, 0, none⟩) n.length n.length ∧ Row w' m (List.replicate n.length 0) ∧ w.heap.size + 2 ≤ m
      | 6 => ∃ A' c', v = .slice A' a.sh.length c' ∧ Owns w' (w.heap.size + 2) v a.sh.length a.sh
      | 7 => ∃ m, v = .slice (some ⟨m, 0, none⟩) n.length n.length ∧ Row w' m (List.replicate n.length 0) ∧ w.heap.size + 2 ≤ m
      | _ => True := ⟨_, rfl⟩
  have hVm : ∀ j v w1 w2, V j v w1 → Below w1.heap.size w1 w2 → V j v w2 := by
    intro j v w1 w2 h hb
    subst hVe
    match j, h with
    | 0, h => exact h
    | 1, h => exact h
    | 2, ⟨A', c', e, hr⟩ => exact ⟨A', c', e, hr.below hb⟩
    | 3, h => exact h
    | 4, h => exact h
    | 5, ⟨m, e, hr, hm⟩ => exact ⟨m, e, Box.below hr hb, hm⟩
    | 6, ⟨A', c', e, hr⟩ => exact ⟨A', c', e, hr.below hb⟩
    | 7, ⟨m, e, hr, hm⟩ => exact ⟨m, e, Box.below hr hb, hm⟩
    | i + 8, _ => trivial
  have hV0 : ∀ v w', V 0 v w' ↔ v = .pointer (some ⟨w.heap.size, 1, none⟩) := fun _ _ => by subst hVe; rfl
  have hV1 : ∀ v w', V 1 v w' ↔ v = .slice A a.sh.length ca := fun _ _ => by subst hVe; rfl
  have hV2 : ∀ v w', V 2 v w' ↔ ∃ A' c', v = .slice A' a.sh.length c' ∧ Owns w' (w.heap.size + 2) v a.sh.length a.sh := fun _ _ => by subst hVe; rfl
  have hV3 : ∀ v w', V 3 v w' ↔ v = .slice B n.length cb := fun _ _ => by subst hVe; rfl
  have hV4 : ∀ v w', V 4 v w' ↔ v = .int .i64 n.length := fun _ _ => by subst hVe; rfl
  have hV5 : ∀ v w', V 5 v w' ↔ ∃ m, v = .slice (some ⟨m, 0, none⟩) n.length n.length ∧ Row w' m (List.replicate n.length 0) ∧ w.heap.size + 2 ≤ m := fun _ _ => by subst hVe; rfl
  have hV6 : ∀ v w', V 6 v w' ↔ ∃ A' c', v = .slice A' a.sh.length c' ∧ Owns w' (w.heap.size + 2) v a.sh.length a.sh := fun _ _ => by subst hVe; rfl
  have hV7 : ∀ v w', V 7 v w' ↔ ∃ m, v = .slice (some ⟨m, 0, none⟩) n.length n.length ∧ Row w' m (List.replicate n.length 0) ∧ w.heap.size + 2 ≤ m := fun _ _ => by subst hVe; rfl
  obtain ⟨al, hal⟩ : ∃ al : Nat → Nat, al = fun j => match j with | 6 => 2 | 7 => 5 | j => j := ⟨_, rfl⟩
  have a0 : al 0 = 0 := by subst hal; rfl
  have a1 : al 1 = 1 := by subst hal; rfl
  have a2 : al 2 = 2 := by subst hal; rfl
  have a3 : al 3 = 3 := by subst hal; rfl
  have a4 : al 4 = 4 := by subst hal; rfl
  have a5 : al 5 = 5 := by subst hal; rfl
  have a6 : al 6 = 2 := by subst hal; rfl
  have a7 : al 7 = 5 := by subst hal; rfl
  have hlt : ∀ j v m wr, (j = 2 ∨ j = 5) → V j v wr → v.ownBlock = some m → m < wr.heap.size := by
    intro j v m wr hj h e
    subst hVe
    rcases hj with rfl | rfl
    · obtain ⟨A2, c2, rfl, hr⟩ := h; exact (hr.lt e).2
    · obtain ⟨m2, rfl, hr, -⟩ := h; injection e with e; subst e; exact Box.lt hr
  clear hVe hal
  refine wp_region_inv (PairInv V w1 2 5 al) (by kernel_rfl) (by kernel_rfl) (by kernel_rfl) (PairInv.start V w1 2 5 al) ?step ?fin
  case step =>
    simp only [putAll, Act.put, List.setIfInBounds_toArray, List.set_cons_zero, List.set_cons_succ, Nat.reduceAdd, Nat.zero_add]
    intro i o ho done u_ wr hnd hdep hI K hK
    have hbr := hI.1
    have hv := hI.2.1
    match i, ho with
    | 0, ho =>
      simp only [List.getElem?_cons_zero, Option.some.injEq] at ho
      subst ho
      simp only [Act.put, List.setIfInBounds_toArray, List.set_cons_zero, List.set_cons_succ] at hK
      refine wpOp_step rfl fun K' hK' => ?_
      go_simp
      exact hK' _ _ (hK _ _ (hI.keep hnd (by decide) (by decide) hVm (Below.refl _ _) ((hV0 _ _).2 rfl) (.inl a0)))
    | 1, ho =>
      simp only [List.getElem?_cons_succ, List.getElem?_cons_zero, Option.some.injEq] at ho
      subst ho
      simp only [Act.put, List.setIfInBounds_toArray, List.set_cons_zero, List.set_cons_succ] at hK
      have e0 := (hV0 _ _).1 (hv 0 (hdep ⟨0, .data⟩ (by simp) rfl))
      simp only [e0] at hK
      have hbA := bA.below hbr
      obtain ⟨y0, y1, y2⟩ := hbA.three
      refine wpOp_step rfl fun K' hK' => ?_
      go_simp
      exact hK' _ _ (hK _ _ (hI.keep hnd (by decide) (by decide) hVm (Below.refl _ _) ((hV1 _ _).2 rfl) (.inl a1)))
    | 2, ho =>
      simp only [List.getElem?_cons_succ, List.getElem?_cons_zero, Option.some.injEq] at ho
      subst ho
      simp only [Act.put, List.setIfInBounds_toArray, List.set_cons_zero, List.set_cons_succ] at hK
      have e1 := (hV1 _ _).1 (hv 1 (hdep ⟨1, .data⟩ (by simp) rfl))
      simp only [e1] at hK
      have hz := hbr.size
      have hz2 := hbw1.size
      have hz3 := bR.lt
      refine wpOp_step rfl fun K' hK' => ?_
      go_simp
      go_at_call 18
      refine (clone_any _ a.sh _ (hs.mono (hbw1.trans (hbr.mono hbw1.size)))).mono ?_
      rintro e w5 ⟨A5, c5, rfl, ho5, hb5⟩
      exact hK' _ _ (hK _ _ (hI.made hnd (by decide) (by decide) a2 hVm (fun j v m => hlt j v m wr) hb5 (by intro m e; exact (ho5.lt e).1) ((hV2 _ _).2 ⟨A5, c5, rfl, ho5.base (by omega)⟩)))
    | 3, ho =>
      simp only [List.getElem?_cons_succ, List.getElem?_cons_zero, Option.some.injEq] at ho
      subst ho
      simp only [Act.put, List.setIfInBounds_toArray, List.set_cons_zero, List.set_cons_succ] at hK
      refine wpOp_step rfl fun K' hK' => ?_
      go_simp
      exact hK' _ _ (hK _ _ (hI.keep hnd (by decide) (by decide) hVm (Below.refl _ _) ((hV3 _ _).2 rfl) (.inl a3)))
    | 4, ho =>
      simp only [List.getElem?_cons_succ, List.getElem?_cons_zero, Option.some.injEq] at ho
      subst ho
      simp only [Act.put, List.setIfInBounds_toArray, List.set_cons_zero, List.set_cons_succ] at hK
      have e3 := (hV3 _ _).1 (hv 3 (hdep ⟨3, .data⟩ (by simp) rfl))
      simp only [e3] at hK
      refine wpOp_step rfl fun K' hK' => ?_
      go_simp
      exact hK' _ _ (hK _ _ (hI.keep hnd (by decide) (by decide) hVm (Below.refl _ _) ((hV4 _ _).2 rfl) (.inl a4)))
    | 5, ho =>
      simp only [List.getElem?_cons_succ, List.getElem?_cons_zero, Option.some.injEq] at ho
      subst ho
      simp only [Act.put, List.setIfInBounds_toArray, List.set_cons_zero, List.set_cons_succ] at hK
      have e4 := (hV4 _ _).1 (hv 4 (hdep ⟨4, .data⟩ (by simp) rfl))
      simp only [e4] at hK
      have hz := hbr.size
      have hz2 := hbw1.size
      have hz3 := bR.lt
      refine wpOp_step rfl fun K' hK' => ?_
      go_simp
      exact hK' _ _ (hK _ _ (hI.made hnd (by decide) (by decide) a5 hVm (fun j v m => hlt j v m wr) (below_one _ _) (by rintro m e; simp [Value.ownBlock] at e; omega) ((hV5 _ _).2 ⟨_, rfl, Row.made _ _, by omega⟩)))
    | 6, ho =>
      simp only [List.getElem?_cons_succ, List.getElem?_cons_zero, Option.some.injEq] at ho
      subst ho
      simp only [Act.put, List.setIfInBounds_toArray, List.set_cons_zero, List.set_cons_succ] at hK
      have dj : done 2 = true := by simp [Region.binds] at hdep; simp [hdep]
      have hvj := hv 2 dj
      refine wpOp_step rfl fun K' hK' => ?_
      go_simp
      exact hK' _ _ (hK _ _ (hI.keep hnd (by decide) (by decide) hVm (Below.refl _ _) ((hV6 _ _).2 ((hV2 _ _).1 hvj)) (.inr (by rw [a6]; exact ⟨dj, rfl⟩))))
    | 7, ho =>
      simp only [List.getElem?_cons_succ, List.getElem?_cons_zero, Option.some.injEq] at ho
      subst ho
      simp only [Act.put, List.setIfInBounds_toArray, List.set_cons_zero, List.set_cons_succ] at hK
      have dj : done 5 = true := by simp [Region.binds] at hdep; simp [hdep]
      have hvj := hv 5 dj
      refine wpOp_step rfl fun K' hK' => ?_
      go_simp
      exact hK' _ _ (hK _ _ (hI.keep hnd (by decide) (by decide) hVm (Below.refl _ _) ((hV7 _ _).2 ((hV5 _ _).1 hvj)) (.inr (by rw [a7]; exact ⟨dj, rfl⟩))))
    | i + 8, ho => simp at ho
  case fin =>
    simp only [putAll, Act.put, List.setIfInBounds_toArray, List.set_cons_zero, List.set_cons_succ, Nat.reduceAdd, Nat.zero_add]
    intro done u_ wr hd hI
    obtain ⟨hbr, hv, hap, hals⟩ := hI
    simp only [List.length_cons, List.length_nil, Nat.reduceAdd, Nat.zero_add] at hd
    have ap := hap (hd 2 (by omega)) (hd 5 (by omega))
    have q6 : u_ 6 = u_ 2 := by have := (hals 6 (hd 6 (by omega))).2; rwa [a6] at this
    have q7 : u_ 7 = u_ 5 := by have := (hals 7 (hd 7 (by omega))).2; rwa [a7] at this
    obtain ⟨As, cs, es, os⟩ := (hV6 _ _).1 (hv 6 (hd 6 (by omega)))
    obtain ⟨gf, ef, rf, hgf⟩ := (hV7 _ _).1 (hv 7 (hd 7 (by omega)))
    rw [← q6, ← q7] at ap
    rw [es, ef] at ap
    rw [es] at os
    have hne : ∀ g, As = some ⟨g, 0, none⟩ → g ≠ gf := fun g e e2 => ap g (by rw [e]; rfl) (by rw [e2]; rfl)
    simp only [es, ef]
    have bA1 := bA.below hbr
    have bR1 := bR.below hbr
    have hbw2 := hbw1.trans (hbr.mono hbw1.size)
    have hlS : (ints (dropSh n t)).length = a.sh.length := by rw [length_ints, dropSh_length, C2.out, HSL.out]; simp
    have hlF : (dropFr n t).length = n.length := by rw [dropFr_length, C2.out, HSL.out]; simp
    have HLS := Lib.hid hlS
    have HLF := Lib.hid hlF
    have rs' : SRow wr (w.heap.size + 2) As a.sh.length cs (MixTo (ints (dropSh n t)) a.sh 0) := by rw [mix_zero]; exact os.srow
    have rf' : Row wr gf (FillTo (dropFr n t) 0) := by rw [fillTo_zero, hlF]; exact rf
    have HNE := Lib.hid hne
    clear os rf ap es ef hals hap hv hd hVm hlt bA bR p0 p1 p2 q0 q1 q2 f1 hz hmk hlS hlF hne
    clear hV0 hV1 hV2 hV3 hV4 hV5 hV6 hV7 a0 a1 a2 a3 a4 a5 a6 a7 q6 q7 hbw1 hbr
    go_wp2_with fail
    go_loopw [33] (fun i wr => ∃ k : Nat, k ≤ n.length ∧ i = .int .i64 k ∧ SRow wr (w.heap.size + 2) As a.sh.length cs (MixTo (ints (dropSh n t)) a.sh k) ∧ Row wr gf (FillTo (dropFr n t) k) ∧ Box wr w.heap.size 25 #[.bool a.ch, .slice A a.sh.length ca, .slice D a.da.length cd] ∧
        Box wr (w.heap.size + 1) 25 #[.bool false, .slice none 0 0, .slice none 0 0] ∧ Below w.heap.size w wr) (fun i _ => n.length - (intOf i).toNat)
    case atStart => exact ⟨0, Nat.zero_le _, rfl, rs', rf', bA1, bR1, hbw2⟩
    case round =>
      clear rs' rf' bA1 bR1 hbw2
      obtain ⟨k, hk, rfl, rs, rf, bA, bR, hbl⟩ := hrel
      have hzA := bA.lt
      have hzR := bR.lt
      rcases Nat.lt_or_ge k n.length with hlt | hge
      · obtain ⟨ad, m, rfl, hm, hal, hcm⟩ := Elems.later EN.out hbl hlt
        have hkA : k < a.sh.length := by rw [← C2.out]; exact hlt
        have hkt : k < t.length := by rw [← HSL.out]; exact hkA
        obtain ⟨r1, r2, r3, r4, r5, r6⟩ := rs
        obtain ⟨gs, rfl, hgs, hmi⟩ := r6 (by omega)
        have hne := HNE.out gs rfl
        have hsk : (MixTo (ints (dropSh n t)) a.sh k)[k]? = some ((t.getD k 0 : Nat) : Int) := by
          rw [mix_at (by rw [HLS.out]; omega), HT.out.sh]
          exact ints_get hkt
        have hS := dropSh_at (t := t) hm hkt
        have hF := dropFr_at (t := t) hm hkt
        have hcl := clamp_bd m (t.getD k 0)
        have hY4 : t.getD k 0 ≤ 4096 := by rw [getD_lt hkt]; exact HT.out.good.2.1 _ (List.getElem_mem _)
        have gS := hmi.cell hsk
        have gF := rf.at_ (fillTo_at (X := dropFr n t) (k := k) (by rw [HLF.out]; exact hlt))
        obtain ⟨X, hX⟩ : ∃ X, X = t.getD k 0 := ⟨_, rfl⟩
        rw [← hX] at gS hS hF hcl hY4
        obtain ⟨M, hM⟩ : ∃ M, M = clamp m X := ⟨_, rfl⟩
        rw [← hM] at hS hF hcl
        have fS := hmi.frozen k
        have lS := hmi.lt
        have fF := Box.frozen rf k
        have lF := Box.lt rf
        have HS := Lib.hid hS
        have HF := Lib.hid hF
        have HM := Lib.hid hM
        have HMI := Lib.hid hmi
        have HRF := Lib.hid rf
        clear hS hF hM hX hsk hmi rf r1 r2 r3 r4 r5 r6 hm hkt
        obtain ⟨Y, hY⟩ : ∃ Y, Y = -(X : Int) := ⟨_, rfl⟩
        have hwn : IntKind.i64.wrap (-(X : Int)) = Y := by rw [hY]; exact IntWalk.i64_in _ (by omega)
        have hng : -(X : Int) = Y := hY.symm
        have hY2 : Y ≤ 0 ∧ -4096 ≤ Y ∧ Y ≤ X := ⟨by omega, by omega, by omega⟩
        obtain ⟨y0, y1, y2⟩ := hY2
        have HY := Lib.hid hY
        clear hY
        rcases Int.lt_or_le m Y with h1 | h1
        · have hM2 : Y = M := by have := HY.out; have h9 := HM.out; unfold clamp at h9; omega
          subst hM2
          have h2 : ¬ (X : Int) < Y := by omega
          clear hcl
          rcases Int.lt_or_le (Y) 0 with h0 | h0
          · skip
            have hS2 : (ints (dropSh n t))[k]? = some ((X : Int) + Y) := by rw [HS.out, if_neg (by omega)]
            have hF2 : (dropFr n t)[k]? = some 0 := by rw [HF.out, if_neg (by omega)]
            have s1 : ∀ j, Mine ((wr.drewN j).setCell ⟨gs, k, none⟩ (.int .i64 ((X : Int) + Y))) gs a.sh.length cs (MixTo (ints (dropSh n t)) a.sh (k + 1)) := fun j => by rw [← mix_set hS2 hkA]; exact (HMI.out.drewN j).store k _
            have f1 : ∀ j, Row ((wr.drewN j).setCell ⟨gs, k, none⟩ (.int .i64 ((X : Int) + Y))) gf (FillTo (dropFr n t) (k + 1)) := fun j => by rw [← fillTo_skip hF2]; exact Box.far (Box.drewN HRF.out j) (p := ⟨gs, k, none⟩) (Ne.symm hne) _
            have S1 := Lib.hid s1
            have F1 := Lib.hid f1
            clear hS2 hF2 s1 f1
            go_wp2_with fail
            go_quiet (fail)
            all_goals go_wp2_with fail
            go_roundw
            case rel => exact ⟨k + 1, by omega, by go_num, (S1.out _).srow hgs, F1.out _, (bA.drewN _).far (p := ⟨gs, k, none⟩) (by simp; omega) _, (bR.drewN _).far (p := ⟨gs, k, none⟩) (by simp; omega) _, (hbl.trans (below_draws _ _ _)).setCell (p := ⟨gs, k, none⟩) (by simp; omega) _⟩
            case measure => simp [intOf]; omega
          · skip
            have hS2 : (ints (dropSh n t))[k]? = some ((X : Int) - Y) := by first | (rw [HS.out, if_pos (by omega)]; done) | (rw [HS.out, if_pos (by omega)]; congr 1; omega)
            have hF2 : (dropFr n t)[k]? = some (Y) := by rw [HF.out, if_pos (by omega)]
            have s2 : ∀ j, Mine (((wr.drewN j).setCell ⟨gs, k, none⟩ (.int .i64 ((X : Int) - Y))).setCell ⟨gf, k, none⟩ (.int .i64 (Y))) gs a.sh.length cs (MixTo (ints (dropSh n t)) a.sh (k + 1)) := fun j => by rw [← mix_set hS2 hkA]; exact ((HMI.out.drewN j).store k _).far (p := ⟨gf, k, none⟩) hne _
            have f2 : ∀ j, Row (((wr.drewN j).setCell ⟨gs, k, none⟩ (.int .i64 ((X : Int) - Y))).setCell ⟨gf, k, none⟩ (.int .i64 (Y))) gf (FillTo (dropFr n t) (k + 1)) := fun j => by rw [← fillTo_set hF2]; exact Row.store (Box.far (Box.drewN HRF.out j) (p := ⟨gs, k, none⟩) (Ne.symm hne) _) k _
            have gF3 : (wr.setCell ⟨gs, k, none⟩ (.int .i64 ((X : Int) - Y))).cell? ⟨gf, k, none⟩ = some (.int .i64 0) := cellS gF (Ne.symm hne)
            have S2 := Lib.hid s2
            have F2 := Lib.hid f2
            clear hS2 hF2 s2 f2
            go_wp2_with fail
            go_quiet (fail)
            all_goals go_wp2_with fail
            go_roundw
            case rel => exact ⟨k + 1, by omega, by go_num, (S2.out _).srow hgs, F2.out _, ((bA.drewN _).far (p := ⟨gs, k, none⟩) (by simp; omega) _).far (p := ⟨gf, k, none⟩) (by simp; omega) _, ((bR.drewN _).far (p := ⟨gs, k, none⟩) (by simp; omega) _).far (p := ⟨gf, k, none⟩) (by simp; omega) _, ((hbl.trans (below_draws _ _ _)).setCell (p := ⟨gs, k, none⟩) (by simp; omega) _).setCell (p := ⟨gf, k, none⟩) (by simp; omega) _⟩
            case measure => simp [intOf]; omega
        have h1' : ¬ m < Y := by omega
        rcases Int.lt_or_le (X : Int) m with h2 | h2
        · have hM2 : (X : Int) = M := by have := HY.out; have h9 := HM.out; unfold clamp at h9; omega
          subst hM2
          clear hcl
          have hS2 : (ints (dropSh n t))[k]? = some (0) := by first | (rw [HS.out, if_pos (by omega)]; done) | (rw [HS.out, if_pos (by omega)]; congr 1; omega)
          have hF2 : (dropFr n t)[k]? = some ((X : Int)) := by rw [HF.out, if_pos (by omega)]
          have s2 : ∀ j, Mine (((wr.drewN j).setCell ⟨gs, k, none⟩ (.int .i64 (0))).setCell ⟨gf, k, none⟩ (.int .i64 ((X : Int)))) gs a.sh.length cs (MixTo (ints (dropSh n t)) a.sh (k + 1)) := fun j => by rw [← mix_set hS2 hkA]; exact ((HMI.out.drewN j).store k _).far (p := ⟨gf, k, none⟩) hne _
          have f2 : ∀ j, Row (((wr.drewN j).setCell ⟨gs, k, none⟩ (.int .i64 (0))).setCell ⟨gf, k, none⟩ (.int .i64 ((X : Int)))) gf (FillTo (dropFr n t) (k + 1)) := fun j => by rw [← fillTo_set hF2]; exact Row.store (Box.far (Box.drewN HRF.out j) (p := ⟨gs, k, none⟩) (Ne.symm hne) _) k _
          have gF3 : (wr.setCell ⟨gs, k, none⟩ (.int .i64 (0))).cell? ⟨gf, k, none⟩ = some (.int .i64 0) := cellS gF (Ne.symm hne)
          have S2 := Lib.hid s2
          have F2 := Lib.hid f2
          clear hS2 hF2 s2 f2
          go_wp2_with fail
          go_quiet (fail)
          all_goals go_wp2_with fail
          go_roundw
          case rel => exact ⟨k + 1, by omega, by go_num, (S2.out _).srow hgs, F2.out _, ((bA.drewN _).far (p := ⟨gs, k, none⟩) (by simp; omega) _).far (p := ⟨gf, k, none⟩) (by simp; omega) _, ((bR.drewN _).far (p := ⟨gs, k, none⟩) (by simp; omega) _).far (p := ⟨gf, k, none⟩) (by simp; omega) _, ((hbl.trans (below_draws _ _ _)).setCell (p := ⟨gs, k, none⟩) (by simp; omega) _).setCell (p := ⟨gf, k, none⟩) (by simp; omega) _⟩
          case measure => simp [intOf]; omega
        have h2' : ¬ (X : Int) < m := by omega
        · have hM2 : m = M := by have := HY.out; have h9 := HM.out; unfold clamp at h9; omega
          subst hM2
          clear hcl
          rcases Int.lt_or_le (m) 0 with h0 | h0
          · skip
            have hS2 : (ints (dropSh n t))[k]? = some ((X : Int) + m) := by rw [HS.out, if_neg (by omega)]
            have hF2 : (dropFr n t)[k]? = some 0 := by rw [HF.out, if_neg (by omega)]
            have s1 : ∀ j, Mine ((wr.drewN j).setCell ⟨gs, k, none⟩ (.int .i64 ((X : Int) + m))) gs a.sh.length cs (MixTo (ints (dropSh n t)) a.sh (k + 1)) := fun j => by rw [← mix_set hS2 hkA]; exact (HMI.out.drewN j).store k _
            have f1 : ∀ j, Row ((wr.drewN j).setCell ⟨gs, k, none⟩ (.int .i64 ((X : Int) + m))) gf (FillTo (dropFr n t) (k + 1)) := fun j => by rw [← fillTo_skip hF2]; exact Box.far (Box.drewN HRF.out j) (p := ⟨gs, k, none⟩) (Ne.symm hne) _
            have S1 := Lib.hid s1
            have F1 := Lib.hid f1
            clear hS2 hF2 s1 f1
            go_wp2_with fail
            go_quiet (fail)
            all_goals go_wp2_with fail
            go_roundw
            case rel => exact ⟨k + 1, by omega, by go_num, (S1.out _).srow hgs, F1.out _, (bA.drewN _).far (p := ⟨gs, k, none⟩) (by simp; omega) _, (bR.drewN _).far (p := ⟨gs, k, none⟩) (by simp; omega) _, (hbl.trans (below_draws _ _ _)).setCell (p := ⟨gs, k, none⟩) (by simp; omega) _⟩
            case measure => simp [intOf]; omega
          · skip
            have hS2 : (ints (dropSh n t))[k]? = some ((X : Int) - m) := by first | (rw [HS.out, if_pos (by omega)]; done) | (rw [HS.out, if_pos (by omega)]; congr 1; omega)
            have hF2 : (dropFr n t)[k]? = some (m) := by rw [HF.out, if_pos (by omega)]
            have s2 : ∀ j, Mine (((wr.drewN j).setCell ⟨gs, k, none⟩ (.int .i64 ((X : Int) - m))).setCell ⟨gf, k, none⟩ (.int .i64 (m))) gs a.sh.length cs (MixTo (ints (dropSh n t)) a.sh (k + 1)) := fun j => by rw [← mix_set hS2 hkA]; exact ((HMI.out.drewN j).store k _).far (p := ⟨gf, k, none⟩) hne _
            have f2 : ∀ j, Row (((wr.drewN j).setCell ⟨gs, k, none⟩ (.int .i64 ((X : Int) - m))).setCell ⟨gf, k, none⟩ (.int .i64 (m))) gf (FillTo (dropFr n t) (k + 1)) := fun j => by rw [← fillTo_set hF2]; exact Row.store (Box.far (Box.drewN HRF.out j) (p := ⟨gs, k, none⟩) (Ne.symm hne) _) k _
            have gF3 : (wr.setCell ⟨gs, k, none⟩ (.int .i64 ((X : Int) - m))).cell? ⟨gf, k, none⟩ = some (.int .i64 0) := cellS gF (Ne.symm hne)
            have S2 := Lib.hid s2
            have F2 := Lib.hid f2
            clear hS2 hF2 s2 f2
            go_wp2_with fail
            go_quiet (fail)
            all_goals go_wp2_with fail
            go_roundw
            case rel => exact ⟨k + 1, by omega, by go_num, (S2.out _).srow hgs, F2.out _, ((bA.drewN _).far (p := ⟨gs, k, none⟩) (by simp; omega) _).far (p := ⟨gf, k, none⟩) (by simp; omega) _, ((bR.drewN _).far (p := ⟨gs, k, none⟩) (by simp; omega) _).far (p := ⟨gf, k, none⟩) (by simp; omega) _, ((hbl.trans (below_draws _ _ _)).setCell (p := ⟨gs, k, none⟩) (by simp; omega) _).setCell (p := ⟨gf, k, none⟩) (by simp; omega) _⟩
            case measure => simp [intOf]; omega
      · have hke : k = n.length := by omega
        subst hke
        rw [mix_all (n := n.length) (by rw [HLS.out, C2.out]) C2.out.symm] at rs
        rw [show FillTo (dropFr n t) n.length = dropFr n t by rw [← HLF.out]; exact fillTo_all _] at rf
        have iS := rs.isInts
        have iF := rf.isInts (n := n.length) HLF.out.symm (by omega)
        have ia := ha.mono hbl
        have hnt : n.length = t.length := by rw [C2.out, HSL.out]
        have HG := Lib.hid (dropSh_good hnt HT.out.good)
        have HNT := Lib.hid hnt
        clear rs rf hnt
        have hfb : ∀ (k : Nat) (f : Int), (dropFr n t)[k]? = some f → -8192 ≤ f ∧ f ≤ 8192 := by
          intro k f hf
          have hkl := (List.getElem?_eq_some_iff.1 hf).1
          rw [HLF.out] at hkl
          have hkt : k < t.length := by rw [← HNT.out]; exact hkl
          have hx : n[k]? = some n[k] := List.getElem?_eq_getElem hkl
          rw [dropFr_at hx hkt] at hf
          injection hf with hf
          have h1 := clamp_bd n[k] (t.getD k 0)
          have h2 : t.getD k 0 ≤ 4096 := by rw [getD_lt hkt]; exact HT.out.good.2.1 _ (List.getElem_mem _)
          split at hf <;> omega
        have HFB := Lib.hid hfb
        clear hfb
        obtain ⟨p0, p1, p2⟩ := bA.three
        go_wp2_with fail
        refine (window_new ia iF iS HT.out HG.out (by rw [dropSh_length, HNT.out, Nat.min_self]) (by rw [HLF.out, HNT.out]) HFB.out).mono ?_
        rintro e w3 ⟨r, rfl, hr, hb3, hnv⟩
        obtain ⟨A3, ca3, D3, cd3, rfl, hs3, hd3⟩ := hr.open_
        have bR3 := bR.below hb3
        obtain ⟨q0, q1, q2⟩ := bR3.three
        have fR3 := bR3.frozen
        have hz3 := bR3.lt
        have hbw3 := hbl.trans (hb3.mono hbl.size)
        clear hb3 hs3 hd3
        have htk : drop n a = win (dropFr n t) (dropSh n t) a := by unfold drop; rw [HT.out.nsh_eq]
        have HTK := Lib.hid htk
        clear htk
        go_wp2_with fail
        refine bodyPost_ret (v := .tuple #[.agg #[.bool (win (dropFr n t) (dropSh n t) a).ch, .slice A3 (win (dropFr n t) (dropSh n t) a).sh.length ca3, .slice D3 (win (dropFr n t) (dropSh n t) a).da.length cd3], .nilIface]) (by simp [results, Try.results13, go_sem, q0, q1, q2, hz3]) rfl ?_
        refine .inl ⟨HE.out, ?_⟩
        rw [HTK.out]
        exact ⟨_, rfl, hr.laid bR3 _ _ _, by have := hbw3.size; go_grown, hnv.low hbl.size⟩

theorem drop_told {vn v : Value} {n : List Int} {a : Arr} {w : World} (hn : IsInts w vn n) (ha : IsArr w v a) : Calls Try.prog 13 #[vn, v] w (Told (drop n a) (dropErr n a) w) := (drop_new hn ha).mono fun _ _ h => h.elim (fun h => .inl ⟨h.1, h.2.old⟩) .inr

end Go.Proofs.Ytamlangancaccaa
