/- The walk of cut.Take. Conditions: none. -/
import Derived.Test.YtfecokkgdojcdaaDoorWindow
import Derived.Test.YtfecokkgdojcdaaDoorPair
import Derived.Test.YtfecokkgdojcdaaDoorStore
import Derived.Test.YtfecokkgdojcdaaDoorCutLaw
namespace Go.Proofs.YtfecokkgdojcdaaDoor
open Go Go.RowKit Go.Proofs.YtfecokkgdojcdaaDoor.P

theorem takeSh_at {n : List Int} {k : Nat} {m : Int} (h : n[k]? = some m) : (ints (takeSh n))[k]? = some (max m (-m)) := by
  unfold ints takeSh
  rw [List.map_map, List.getElem?_map, h]
  simp only [Option.map_some, Function.comp, Option.some.injEq]
  omega
theorem takeFr_at {n : List Int} {t : List Nat} {k : Nat} {m : Int} (h : n[k]? = some m) (hk : k < t.length) : (takeFr n t)[k]? = some (if m < 0 then ((t.getD k 0 : Nat) : Int) + m else 0) := by
  unfold takeFr
  rw [List.getElem?_zipWith, h, List.getElem?_eq_getElem hk, getD_lt hk]

set_option maxRecDepth 100000 in
set_option maxHeartbeats 4000000 in
theorem take_new {vn v : Value} {n : List Int} {a : Arr} {w : World} (hn : IsInts w vn n) (ha : IsArr w v a) : Calls Tryd.prog 34 #[vn, v] w (ToldN (take n a) (takeErr n a) w) := by
  obtain ⟨A, ca, D, cd, rfl, hs, hd⟩ := ha.open_
  obtain ⟨B, cb, rfl, b1, b2, b3, EB, H1⟩ := hn.open_
  obtain ⟨A0, ca0, eA, a1, a2, a3, a0, a4⟩ := id hs
  cases eA
  have EA := Lib.hid (show Elems w A a.sh from a4)
  have EN := Lib.hid EB
  clear a4 a0 EB hs hd
  by_cases c1 : arrErr a ≠ 0
  · have e : takeErr n a = arrErr a := by unfold takeErr; rw [if_pos c1]
    rw [e]
    have C1 := Lib.hid c1
    clear c1 e
    go_enter Tryd.func34, Tryd.ntmps34
    go_wp2_with fail
    refine (check_bad (ha.mono (below_two _ _ _)) C1.out).mono ?_
    rintro e w1 ⟨rfl, hb⟩
    have b1 := (Box.new (w.alloc (.cells #[.bool a.ch, .slice A a.sh.length ca, .slice D a.da.length cd] 24)) 24 #[.bool false, .slice none 0 0, .slice none 0 0]).below hb
    rw [World.size_alloc] at b1
    obtain ⟨q0, q1, q2⟩ := b1.three
    have f1 := b1.frozen
    have hz := b1.lt
    have hbw : Below w.heap.size w w1 := (below_two _ _ _).trans (hb.mono (by simp; omega))
    go_wp2_with fail
    refine bodyPost_ret (v := .tuple #[zeroArr, .iface 25 (.int .i64 (arrErr a))]) (by simp [results, Tryd.results34, go_sem, q0, q1, q2, hz]) rfl ?_
    exact .inr ⟨C1.out, rfl, by go_grown⟩
  obtain ⟨t, ht⟩ := ok_of_arrErr (by simpa using c1)
  have hsl : a.sh.length = t.length := by rw [ht.sh, length_ints]
  have HT := Lib.hid ht
  have HSL := Lib.hid hsl
  have ht6 := ht.good.1
  have HC1 := Lib.hid c1
  clear ht c1 hsl
  go_enter Tryd.func34, Tryd.ntmps34
  go_wp2_with fail
  refine (check_ok (ha.mono (below_two _ _ _)) HT.out).mono ?_
  rintro e w1 ⟨rfl, hb⟩
  have bA := ((Box.new w 24 #[.bool a.ch, .slice A a.sh.length ca, .slice D a.da.length cd]).alloc (.cells #[.bool false, .slice none 0 0, .slice none 0 0] 24)).below hb
  have bR := (Box.new (w.alloc (.cells #[.bool a.ch, .slice A a.sh.length ca, .slice D a.da.length cd] 24)) 24 #[.bool false, .slice none 0 0, .slice none 0 0]).below hb
  rw [World.size_alloc] at bR
  have hbw1 : Below w.heap.size w w1 := (below_two _ _ _).trans (hb.mono (by simp; omega))
  obtain ⟨p0, p1, p2⟩ := bA.three
  obtain ⟨q0, q1, q2⟩ := bR.three
  have f1 := bR.frozen
  have hz := bR.lt
  clear hb
  by_cases c2 : n.length = a.sh.length
  case neg =>
    have e : takeErr n a = 4 := by unfold takeErr; rw [if_neg HC1.out, if_pos c2]
    have HE := Lib.hid e
    have c2' : ((n.length : Int) != (a.sh.length : Int)) = true := by simp; omega
    clear c2 e
    go_wp2_with fail
    refine bodyPost_ret (v := .tuple #[zeroArr, .iface 25 (.int .i64 4)]) (by simp [results, Tryd.results34, go_sem, q0, q1, q2, hz]) rfl ?_
    exact .inr ⟨by rw [HE.out]; decide, by rw [HE.out], by go_grown⟩
  have c2' : ((n.length : Int) != (a.sh.length : Int)) = false := by simp; omega
  have C2 := Lib.hid c2
  have hn6 : n.length ≤ 6 := by have := HSL.out; omega
  have hmk := run_make_list n.length (by omega)
  clear c2
  go_wp2_with fail
  obtain ⟨V, hVe⟩ : ∃ V : Nat → Value → World → Prop, V = fun i v w' => match i with
      | 0 => v = .slice B n.length cb
      | 1 => v = .int .i64 n.length
      | 2 => ∃ m, v = .slice (some ⟨m, 0, none⟩) n.length n.length ∧ Row w' m (List.replicate n.length 0) ∧ w.heap.size + 2 ≤ m
      | 3 => v = .slice B n.length cb
      | 4 => v = .int .i64 n.length
      | 5 => ∃ m, v = .slice (some ⟨m, 0, none⟩) n.length n.length ∧ Row w' m (List.replicate n.length 0) ∧ w.heap.size + 2 ≤ m
      | 6 => ∃ m, v = .slice (some ⟨m, 0, none⟩) n.length n.length ∧ Row w' m (List.replicate n.length 0) ∧ w.heap.size + 2 ≤ m
      | 7 => ∃ m, v = .slice (some ⟨m, 0, none⟩) n.length n.length ∧ Row w' m (List.replicate n.length 0) ∧ w.heap.size + 2 ≤ m
      | _ => True := ⟨_, rfl⟩
  have hVm : ∀ j v w1 w2, V j v w1 → Below w1.heap.size w1 w2 → V j v w2 := by
    intro j v w1 w2 h hb
    subst hVe
    match j, h with
    | 0, h => exact h
    | 1, h => exact h
    | 2, ⟨m, e, hr, hm⟩ => exact ⟨m, e, Box.below hr hb, hm⟩
    | 3, h => exact h
    | 4, h => exact h
    | 5, ⟨m, e, hr, hm⟩ => exact ⟨m, e, Box.below hr hb, hm⟩
    | 6, ⟨m, e, hr, hm⟩ => exact ⟨m, e, Box.below hr hb, hm⟩
    | 7, ⟨m, e, hr, hm⟩ => exact ⟨m, e, Box.below hr hb, hm⟩
    | i + 8, _ => trivial
  have hV0 : ∀ v w', V 0 v w' ↔ v = .slice B n.length cb := fun _ _ => by subst hVe; rfl
  have hV1 : ∀ v w', V 1 v w' ↔ v = .int .i64 n.length := fun _ _ => by subst hVe; rfl
  have hV2 : ∀ v w', V 2 v w' ↔ ∃ m, v = .slice (some ⟨m, 0, none⟩) n.length n.length ∧ Row w' m (List.replicate n.length 0) ∧ w.heap.size + 2 ≤ m := fun _ _ => by subst hVe; rfl
  have hV3 : ∀ v w', V 3 v w' ↔ v = .slice B n.length cb := fun _ _ => by subst hVe; rfl
  have hV4 : ∀ v w', V 4 v w' ↔ v = .int .i64 n.length := fun _ _ => by subst hVe; rfl
  have hV5 : ∀ v w', V 5 v w' ↔ ∃ m, v = .slice (some ⟨m, 0, none⟩) n.length n.length ∧ Row w' m (List.replicate n.length 0) ∧ w.heap.size + 2 ≤ m := fun _ _ => by subst hVe; rfl
  have hV6 : ∀ v w', V 6 v w' ↔ ∃ m, v = .slice (some ⟨m, 0, none⟩) n.length n.length ∧ Row w' m (List.replicate n.length 0) ∧ w.heap.size + 2 ≤ m := fun _ _ => by subst hVe; rfl
  have hV7 : ∀ v w', V 7 v w' ↔ ∃ m, v = .slice (some ⟨m, 0, none⟩) n.length n.length ∧ Row w' m (List.replicate n.length 0) ∧ w.heap.size + 2 ≤ m := fun _ _ => by subst hVe; rfl
  obtain ⟨al, hal⟩ : ∃ al : Nat → Nat, al = fun j => match j with | 6 => 2 | 7 => 5 | j => j := ⟨_, rfl⟩
  have a0 : al 0 = 0 := by subst hal; rfl
  have a1 : al 1 = 1 := by subst hal; rfl
  have a2 : al 2 = 2 := by subst hal; rfl
  have a3 : al 3 = 3 := by subst hal; rfl
  have a4 : al 4 = 4 := by subst hal; rfl
  have a5 : al 5 = 5 := by subst hal; rfl
  have a6 : al 6 = 2 := by subst hal; rfl
  have a7 : al 7 = 5 := by subst hal; rfl
  have hlt : ∀ j v m wr, (j = 2 ∨ j = 5) → V j v wr → v.ownBlock = some m → m < wr.heap.size := by
    intro j v m wr hj h e
    subst hVe
    rcases hj with rfl | rfl
    · obtain ⟨m2, rfl, hr, -⟩ := h; injection e with e; subst e; exact Box.lt hr
    · obtain ⟨m2, rfl, hr, -⟩ := h; injection e with e; subst e; exact Box.lt hr
  clear hVe hal
  refine wp_region_inv (PairInv V w1 2 5 al) (by kernel_rfl) (by kernel_rfl) (by kernel_rfl) (PairInv.start V w1 2 5 al) ?step ?fin
  case step =>
    simp only [putAll, Act.put, List.setIfInBounds_toArray, List.set_cons_zero, List.set_cons_succ, Nat.reduceAdd, Nat.zero_add]
    intro i o ho done u_ wr hnd hdep hI K hK
    have hbr := hI.1
    have hv := hI.2.1
    match i, ho with
    | 0, ho =>
      simp only [List.getElem?_cons_zero, Option.some.injEq] at ho
      subst ho
      simp only [Act.put, List.setIfInBounds_toArray, List.set_cons_zero, List.set_cons_succ] at hK
      refine wpOp_step rfl fun K' hK' => ?_
      go_simp
      exact hK' _ _ (hK _ _ (hI.keep hnd (by decide) (by decide) hVm (Below.refl _ _) ((hV0 _ _).2 rfl) (.inl a0)))
    | 1, ho =>
      simp only [List.getElem?_cons_succ, List.getElem?_cons_zero, Option.some.injEq] at ho
      subst ho
      simp only [Act.put, List.setIfInBounds_toArray, List.set_cons_zero, List.set_cons_succ] at hK
      have e0 := (hV0 _ _).1 (hv 0 (hdep ⟨0, .data⟩ (by simp) rfl))
      simp only [e0] at hK
      refine wpOp_step rfl fun K' hK' => ?_
      go_simp
      exact hK' _ _ (hK _ _ (hI.keep hnd (by decide) (by decide) hVm (Below.refl _ _) ((hV1 _ _).2 rfl) (.inl a1)))
    | 2, ho =>
      simp only [List.getElem?_cons_succ, List.getElem?_cons_zero, Option.some.injEq] at ho
      subst ho
      simp only [Act.put, List.setIfInBounds_toArray, List.set_cons_zero, List.set_cons_succ] at hK
      have e1 := (hV1 _ _).1 (hv 1 (hdep ⟨1, .data⟩ (by simp) rfl))
      simp only [e1] at hK
      have hz := hbr.size
      have hz2 := hbw1.size
      have hz3 := bR.lt
      refine wpOp_step rfl fun K' hK' => ?_
      go_simp
      exact hK' _ _ (hK _ _ (hI.made hnd (by decide) (by decide) a2 hVm (fun j v m => hlt j v m wr) (below_one _ _) (by rintro m e; simp [Value.ownBlock] at e; omega) ((hV2 _ _).2 ⟨_, rfl, Row.made _ _, by omega⟩)))
    | 3, ho =>
      simp only [List.getElem?_cons_succ, List.getElem?_cons_zero, Option.some.injEq] at ho
      subst ho
      simp only [Act.put, List.setIfInBounds_toArray, List.set_cons_zero, List.set_cons_succ] at hK
      refine wpOp_step rfl fun K' hK' => ?_
      go_simp
      exact hK' _ _ (hK _ _ (hI.keep hnd (by decide) (by decide) hVm (Below.refl _ _) ((hV3 _ _).2 rfl) (.inl a3)))
    | 4, ho =>
      simp only [List.getElem?_cons_succ, List.getElem?_cons_zero, Option.some.injEq] at ho
      subst ho
      simp only [Act.put, List.setIfInBounds_toArray, List.set_cons_zero, List.set_cons_succ] at hK
      have e3 := (hV3 _ _).1 (hv 3 (hdep ⟨3, .data⟩ (by simp) rfl))
      simp only [e3] at hK
      refine wpOp_step rfl fun K' hK' => ?_
      go_simp
      exact hK' _ _ (hK _ _ (hI.keep hnd (by decide) (by decide) hVm (Below.refl _ _) ((hV4 _ _).2 rfl) (.inl a4)))
    | 5, ho =>
      simp only [List.getElem?_cons_succ, List.getElem?_cons_zero, Option.some.injEq] at ho
      subst ho
      simp only [Act.put, List.setIfInBounds_toArray, List.set_cons_zero, List.set_cons_succ] at hK
      have e4 := (hV4 _ _).1 (hv 4 (hdep ⟨4, .data⟩ (by simp) rfl))
      simp only [e4] at hK
      have hz := hbr.size
      have hz2 := hbw1.size
      have hz3 := bR.lt
      refine wpOp_step rfl fun K' hK' => ?_
      go_simp
      exact hK' _ _ (hK _ _ (hI.made hnd (by decide) (by decide) a5 hVm (fun j v m => hlt j v m wr) (below_one _ _) (by rintro m e; simp [Value.ownBlock] at e; omega) ((hV5 _ _).2 ⟨_, rfl, Row.made _ _, by omega⟩)))
    | 6, ho =>
      simp only [List.getElem?_cons_succ, List.getElem?_cons_zero, Option.some.injEq] at ho
      subst ho
      simp only [Act.put, List.setIfInBounds_toArray, List.set_cons_zero, List.set_cons_succ] at hK
      have dj : done 2 = true := by simp [Region.binds] at hdep; simp [hdep]
      have hvj := hv 2 dj
      refine wpOp_step rfl fun K' hK' => ?_
      go_simp
      exact hK' _ _ (hK _ _ (hI.keep hnd (by decide) (by decide) hVm (Below.refl _ _) ((hV6 _ _).2 ((hV2 _ _).1 hvj)) (.inr (by rw [a6]; exact ⟨dj, rfl⟩))))
    | 7, ho =>
      simp only [List.getElem?_cons_succ, List.getElem?_cons_zero, Option.some.injEq] at ho
      subst ho
      simp only [Act.put, List.setIfInBounds_toArray, List.set_cons_zero, List.set_cons_succ] at hK
      have dj : done 5 = true := by simp [Region.binds] at hdep; simp [hdep]
      have hvj := hv 5 dj
      refine wpOp_step rfl fun K' hK' => ?_
      go_simp
      exact hK' _ _ (hK _ _ (hI.keep hnd (by decide) (by decide) hVm (Below.refl _ _) ((hV7 _ _).2 ((hV5 _ _).1 hvj)) (.inr (by rw [a7]; exact ⟨dj, rfl⟩))))
    | i + 8, ho => simp at ho
  case fin =>
    simp only [putAll, Act.put, List.setIfInBounds_toArray, List.set_cons_zero, List.set_cons_succ, Nat.reduceAdd, Nat.zero_add]
    intro done u_ wr hd hI
    obtain ⟨hbr, hv, hap, hals⟩ := hI
    simp only [List.length_cons, List.length_nil, Nat.reduceAdd, Nat.zero_add] at hd
    have ap := hap (hd 2 (by omega)) (hd 5 (by omega))
    have q6 : u_ 6 = u_ 2 := by have := (hals 6 (hd 6 (by omega))).2; rwa [a6] at this
    have q7 : u_ 7 = u_ 5 := by have := (hals 7 (hd 7 (by omega))).2; rwa [a7] at this
    obtain ⟨gs, es, rs, hgs⟩ := (hV6 _ _).1 (hv 6 (hd 6 (by omega)))
    obtain ⟨gf, ef, rf, hgf⟩ := (hV7 _ _).1 (hv 7 (hd 7 (by omega)))
    rw [← q6, ← q7] at ap
    rw [es, ef] at ap
    have hne : gs ≠ gf := fun e => ap gs rfl (by rw [e]; rfl)
    simp only [es, ef]
    have bA1 := bA.below hbr
    have bR1 := bR.below hbr
    have hbw2 := hbw1.trans (hbr.mono hbw1.size)
    have hlS : (ints (takeSh n)).length = n.length := by rw [length_ints, takeSh_length]
    have hlF : (takeFr n t).length = n.length := by rw [takeFr_length, C2.out, HSL.out]; simp
    have HLS := Lib.hid hlS
    have HLF := Lib.hid hlF
    have rs' : Row wr gs (FillTo (ints (takeSh n)) 0) := by rw [fillTo_zero, hlS]; exact rs
    have rf' : Row wr gf (FillTo (takeFr n t) 0) := by rw [fillTo_zero, hlF]; exact rf
    clear rs rf ap es ef hals hap hv hd hVm hlt bA bR p0 p1 p2 q0 q1 q2 f1 hz hmk hlS hlF
    clear hV0 hV1 hV2 hV3 hV4 hV5 hV6 hV7 a0 a1 a2 a3 a4 a5 a6 a7 q6 q7 hbw1 hbr
    go_wp2_with fail
    go_loopw [35] (fun i wr => ∃ k : Nat, k ≤ n.length ∧ i = .int .i64 k ∧ (∀ j m, j < k → n[j]? = some m → -4096 ≤ m ∧ m ≤ 4096) ∧ Row wr gs (FillTo (ints (takeSh n)) k) ∧ Row wr gf (FillTo (takeFr n t) k) ∧ Box wr w.heap.size 24 #[.bool a.ch, .slice A a.sh.length ca, .slice D a.da.length cd] ∧
        Box wr (w.heap.size + 1) 24 #[.bool false, .slice none 0 0, .slice none 0 0] ∧ Below w.heap.size w wr) (fun i _ => n.length - (intOf i).toNat)
    case atStart => exact ⟨0, Nat.zero_le _, rfl, (fun j m h => by omega), rs', rf', bA1, bR1, hbw2⟩
    case round =>
      clear rs' rf' bA1 bR1 hbw2
      obtain ⟨k, hk, rfl, hin, rs, rf, bA, bR, hbl⟩ := hrel
      obtain ⟨p0, p1, p2⟩ := bA.three
      obtain ⟨q0, q1, q2⟩ := bR.three
      have fR := bR.frozen
      have hzA := bA.lt
      have hzR := bR.lt
      have HIN := Lib.hid hin
      clear hin
      rcases Nat.lt_or_ge k n.length with hlt | hge
      · obtain ⟨ad, m, rfl, hm, hal, hcm⟩ := Elems.later EN.out hbl hlt
        obtain ⟨ae, y, rfl, hy, hae, hcy⟩ := Elems.later EA.out hbl (k := k) (by rw [← C2.out]; exact hlt)
        rw [HT.out.sh] at hy
        obtain ⟨rfl, hkt⟩ := ints_getD hy
        have hkA : k < a.sh.length := by rw [← C2.out]; exact hlt
        have HM := Lib.hid hm
        rcases Int.lt_or_le 4096 m with h1 | h1
        · have d1 : decide ((4096 : Int) < m) = true := by simpa using h1
          have e : takeErr n a = 7 := by
            unfold takeErr
            rw [if_neg HC1.out, if_neg (by have := C2.out; omega), if_pos ⟨m, List.mem_of_getElem? HM.out, .inl h1⟩]
          have HE := Lib.hid e
          clear e hm hy
          go_wp2_with fail
          refine bodyPost_ret (v := .tuple #[zeroArr, .iface 25 (.int .i64 7)]) (by simp [results, Tryd.results34, go_sem, q0, q1, q2, hzR]) rfl ?_
          exact .inr ⟨by rw [HE.out]; decide, by rw [HE.out], by have := hbl.size; go_grown⟩
        have d1 : decide ((4096 : Int) < m) = false := by simp; omega
        rcases Int.lt_or_le m (-4096) with h2 | h2
        · have d2 : decide (m < (-4096 : Int)) = true := by simpa using h2
          have e : takeErr n a = 7 := by
            unfold takeErr
            rw [if_neg HC1.out, if_neg (by have := C2.out; omega), if_pos ⟨m, List.mem_of_getElem? HM.out, .inr h2⟩]
          have HE := Lib.hid e
          clear e hm hy
          go_wp2_with fail
          refine bodyPost_ret (v := .tuple #[zeroArr, .iface 25 (.int .i64 7)]) (by simp [results, Tryd.results34, go_sem, q0, q1, q2, hzR]) rfl ?_
          exact .inr ⟨by rw [HE.out]; decide, by rw [HE.out], by have := hbl.size; go_grown⟩
        have d2 : decide (m < (-4096 : Int)) = false := by simp; omega
        have hS := takeSh_at hm
        have hF := takeFr_at (t := t) hm hkt
        have hY4 : t.getD k 0 ≤ 4096 := by rw [getD_lt hkt]; exact HT.out.good.2.1 _ (List.getElem_mem _)
        have hin2 : ∀ j x, j < k + 1 → n[j]? = some x → -4096 ≤ x ∧ x ≤ 4096 := by
          intro j x hj hx
          by_cases e : j = k
          · subst e
            rw [HM.out] at hx
            injection hx with hx
            subst hx
            exact ⟨h2, h1⟩
          · exact HIN.out j x (by omega) hx
        obtain ⟨M, hM⟩ : ∃ M, M = max m (-m) := ⟨_, rfl⟩
        rw [← hM] at hS
        have gS := rs.at_ (fillTo_at (X := ints (takeSh n)) (k := k) (by rw [HLS.out]; exact hlt))
        have gF := rf.at_ (fillTo_at (X := takeFr n t) (k := k) (by rw [HLF.out]; exact hlt))
        have fS := Box.frozen rs k
        have fF := Box.frozen rf k
        have lS := Box.lt rs
        have lF := Box.lt rf
        have hs1 := rs.store k M
        rw [fillTo_set hS] at hs1
        have hf1 : Row (wr.setCell ⟨gs, k, none⟩ (.int .i64 M)) gf (FillTo (takeFr n t) k) := Box.far rf (p := ⟨gs, k, none⟩) (Ne.symm hne) _
        have bA1 := bA.far (p := ⟨gs, k, none⟩) (by simp; omega) (.int .i64 M)
        have bR1 := bR.far (p := ⟨gs, k, none⟩) (by simp; omega) (.int .i64 M)
        have hbl1 := hbl.setCell (p := ⟨gs, k, none⟩) (by simp; omega) (.int .i64 M)
        have gF1 := hf1.at_ (fillTo_at (X := takeFr n t) (k := k) (by rw [HLF.out]; exact hlt))
        have fF1 := Box.frozen hf1 k
        obtain ⟨s0, s1, s2⟩ := bA1.three
        have hcy1 : (wr.setCell ⟨gs, k, none⟩ (.int .i64 M)).cell? (ae.add k) = some (.int .i64 ((t.getD k 0 : Nat) : Int)) := cellS hcy (by rw [addr_block_add]; simp; omega)
        obtain ⟨Y, hY⟩ : ∃ Y, Y = t.getD k 0 := ⟨_, rfl⟩
        rw [← hY] at hcy hcy1 hY4 hF
        have Hin2 := Lib.hid hin2
        have Hs1 := Lib.hid hs1
        have Hf1 := Lib.hid hf1
        have HF := Lib.hid hF
        clear hin2 hs1 hf1 hF hS hm hy hY
        rcases Int.lt_or_le m 0 with h3 | h3
        · obtain rfl : M = -m := by omega
          clear hM
          have d3 : decide (m < (0 : Int)) = true := by simpa using h3
          have hF2 : (takeFr n t)[k]? = some ((Y : Int) + m) := by rw [HF.out, if_pos h3]
          have hf2 := Hf1.out.store k ((Y : Int) + m)
          rw [fillTo_set hF2] at hf2
          have Hf2 := Lib.hid hf2
          clear hF2 hf2
          go_wp2_with fail
          go_roundw
          case rel => exact ⟨k + 1, by omega, by go_num, Hin2.out, Box.far Hs1.out (p := ⟨gf, k, none⟩) hne _, Hf2.out, bA1.far (p := ⟨gf, k, none⟩) (by simp; omega) _, bR1.far (p := ⟨gf, k, none⟩) (by simp; omega) _, hbl1.setCell (p := ⟨gf, k, none⟩) (by simp; omega) _⟩
          case measure => simp [intOf]; omega
        · obtain rfl : M = m := by omega
          clear hM
          have d3 : decide (M < (0 : Int)) = false := by simp; omega
          have hF2 : (takeFr n t)[k]? = some 0 := by rw [HF.out, if_neg (by omega)]
          have hf2 := Hf1.out
          rw [fillTo_skip hF2] at hf2
          have Hf2 := Lib.hid hf2
          clear hF2 hf2
          go_wp2_with fail
          go_roundw
          case rel => exact ⟨k + 1, by omega, by go_num, Hin2.out, Hs1.out, Hf2.out, bA1, bR1, hbl1⟩
          case measure => simp [intOf]; omega
      · have hke : k = n.length := by omega
        subst hke
        rw [show FillTo (ints (takeSh n)) n.length = ints (takeSh n) by rw [← HLS.out]; exact fillTo_all _] at rs
        rw [show FillTo (takeFr n t) n.length = takeFr n t by rw [← HLF.out]; exact fillTo_all _] at rf
        have iS := rs.isInts (n := n.length) HLS.out.symm (by omega)
        have iF := rf.isInts (n := n.length) HLF.out.symm (by omega)
        have ia := ha.mono hbl
        have hfar : ¬ takeFar n := by
          rintro ⟨m, hm, hc⟩
          obtain ⟨j, hj⟩ := List.getElem?_of_mem hm
          have := HIN.out j m (List.getElem?_eq_some_iff.1 hj).1 hj
          omega
        have he : takeErr n a = cntErr (ints (takeSh n)) := by
          unfold takeErr
          rw [if_neg HC1.out, if_neg (by have := C2.out; omega), if_neg hfar]
        have HE := Lib.hid he
        clear he hfar rs rf
        by_cases c4 : cntErr (ints (takeSh n)) = 0
        case neg =>
          have C4 := Lib.hid c4
          clear c4
          go_wp2_with fail
          refine (count_bad _ _ _ iS C4.out).mono ?_
          rintro e w2 ⟨rfl, rfl⟩
          go_wp2_with fail
          refine bodyPost_ret (v := .tuple #[zeroArr, .iface 25 (.int .i64 (cntErr (ints (takeSh n))))]) (by simp [results, Tryd.results34, go_sem, q0, q1, q2, hzR]) rfl ?_
          exact .inr ⟨by rw [HE.out]; exact C4.out, by rw [HE.out], by have := hbl.size; go_grown⟩
        obtain ⟨u, hu, hg⟩ := cntErr_zero c4
        have hu := ints_inj hu
        subst hu
        have HG := Lib.hid hg
        have C4 := Lib.hid c4
        clear c4 hg
        have hfb : ∀ (k : Nat) (f : Int), (takeFr n t)[k]? = some f → -8192 ≤ f ∧ f ≤ 8192 := by
          intro k f hf
          have hkl := (List.getElem?_eq_some_iff.1 hf).1
          rw [HLF.out] at hkl
          have hkt : k < t.length := by rw [← HSL.out, ← C2.out]; exact hkl
          have hx : n[k]? = some n[k] := List.getElem?_eq_getElem hkl
          rw [takeFr_at hx hkt] at hf
          injection hf with hf
          have h1 := HIN.out k _ hkl hx
          have h2 : t.getD k 0 ≤ 4096 := by rw [getD_lt hkt]; exact HT.out.good.2.1 _ (List.getElem_mem _)
          split at hf <;> omega
        have HFB := Lib.hid hfb
        clear hfb
        go_wp2_with fail
        refine (count_ok _ _ _ iS HG.out).mono ?_
        rintro e w2 ⟨rfl, rfl⟩
        go_wp2_with fail
        refine (window_new ia iF iS HT.out HG.out (by rw [takeSh_length, C2.out, HSL.out]) (by rw [HLF.out, C2.out, HSL.out]) HFB.out).mono ?_
        rintro e w3 ⟨r, rfl, hr, hb3, hnv⟩
        obtain ⟨A3, ca3, D3, cd3, rfl, hs3, hd3⟩ := hr.open_
        have bR3 := bR.below hb3
        obtain ⟨q0, q1, q2⟩ := bR3.three
        have fR3 := bR3.frozen
        have hz3 := bR3.lt
        have hbw3 := hbl.trans (hb3.mono hbl.size)
        clear hb3 hs3 hd3
        have htk : take n a = win (takeFr n t) (takeSh n) a := by unfold take; rw [HT.out.nsh_eq]
        have HTK := Lib.hid htk
        clear htk
        go_wp2_with fail
        refine bodyPost_ret (v := .tuple #[.agg #[.bool (win (takeFr n t) (takeSh n) a).ch, .slice A3 (win (takeFr n t) (takeSh n) a).sh.length ca3, .slice D3 (win (takeFr n t) (takeSh n) a).da.length cd3], .nilIface]) (by simp [results, Tryd.results34, go_sem, q0, q1, q2, hz3]) rfl ?_
        refine .inl ⟨by rw [HE.out]; exact C4.out, ?_⟩
        rw [HTK.out]
        exact ⟨_, rfl, hr.laid bR3 _ _ _, by have := hbw3.size; go_grown, hnv.low hbl.size⟩

theorem take_told {vn v : Value} {n : List Int} {a : Arr} {w : World} (hn : IsInts w vn n) (ha : IsArr w v a) : Calls Tryd.prog 34 #[vn, v] w (Told (take n a) (takeErr n a) w) := (take_new hn ha).mono fun _ _ h => h.elim (fun h => .inl ⟨h.1, h.2.old⟩) .inr

end Go.Proofs.YtfecokkgdojcdaaDoor
