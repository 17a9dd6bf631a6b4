/- The walk of the reference's Joined. Conditions: none. -/
import Derived.Test.YtikjniibfomadaaDoorRefTurn
import Derived.Test.YtikjniibfomadaaDoorRefAmong
import Derived.Test.YtikjniibfomadaaDoorJoinPlain
namespace Go.Proofs.YtikjniibfomadaaDoor.P
theorem glue_at {a b : Arr} {t : List Nat} {k l : Nat} (ha : Ok a t) (hb : Ok b (t.set k l)) (hk : k < t.length) {i : Nat} (hi : i < prod (t.set k (t.getD k 0 + l))) :
    (glue k a b).da[i]? = some ((glue k a b).cell (coords (t.set k (t.getD k 0 + l)) i)) := by
  have h1 := coords_inside hi
  rw [glue_cell ha hb hk h1, glue_def, ha.nsh_eq, nsh_set hb hk]
  have h2 := tab_get (c := a.ch) (g := fun ix => if ix.getD k 0 < t.getD k 0 then a.cell ix else b.cell (ix.set k (ix.getD k 0 - t.getD k 0))) h1
  rw [place_coords hi] at h2
  exact h2
end Go.Proofs.YtikjniibfomadaaDoor.P
namespace Go.Proofs.YtikjniibfomadaaDoor
open Go Go.RowKit Go.Proofs.YtikjniibfomadaaDoor.P

set_option maxRecDepth 100000 in
set_option maxHeartbeats 4000000 in
theorem joined_rtold {va vb : Value} {axis : Int} {a b : Arr} {w : World} (ha : IsArr w va a) (hb : IsArr w vb b) :
    Calls Tryd.prog 7 #[.int .i64 axis, va, vb] w (RTold (glue axis.toNat a b) (joinErr axis a b) w) := by
  obtain ⟨A, ca, D, cd, rfl, hs, hd⟩ := ha.open_
  obtain ⟨A', ca', D', cd', rfl, hs', hd'⟩ := hb.open_
  obtain ⟨D0, cd0, eD, d1, d2, d3, d0, d4⟩ := id hd
  cases eD
  obtain ⟨D0, cd0, eD, f1, f2, f3, f0, f4⟩ := id hd'
  cases eD
  have HA := Lib.hid ha
  have HB := Lib.hid hb
  have HS := Lib.hid hs
  have HS' := Lib.hid hs'
  have HD := Lib.hid (show Elems w D a.da from d4)
  have HD' := Lib.hid (show Elems w D' b.da from f4)
  clear ha hb hs hs' hd hd' d0 d4 f0 f4
  go_enter Tryd.func7, Tryd.ntmps7
  have bA0 := ((Box.new w 24 #[.bool a.ch, .slice A a.sh.length ca, .slice D a.da.length cd]).alloc (.cells #[.bool b.ch, .slice A' b.sh.length ca', .slice D' b.da.length cd'] 24)).alloc (.cells #[.bool false, .slice none 0 0, .slice none 0 0] 24)
  have bB0 := (Box.new (w.alloc (.cells #[.bool a.ch, .slice A a.sh.length ca, .slice D a.da.length cd] 24)) 24 #[.bool b.ch, .slice A' b.sh.length ca', .slice D' b.da.length cd']).alloc (.cells #[.bool false, .slice none 0 0, .slice none 0 0] 24)
  have bR0 := Box.new ((w.alloc (.cells #[.bool a.ch, .slice A a.sh.length ca, .slice D a.da.length cd] 24)).alloc (.cells #[.bool b.ch, .slice A' b.sh.length ca', .slice D' b.da.length cd'] 24)) 24 #[.bool false, .slice none 0 0, .slice none 0 0]
  simp only [World.size_alloc] at bB0 bR0
  have hb0 := below_three w (.cells #[.bool a.ch, .slice A a.sh.length ca, .slice D a.da.length cd] 24) (.cells #[.bool b.ch, .slice A' b.sh.length ca', .slice D' b.da.length cd'] 24) (.cells #[.bool false, .slice none 0 0, .slice none 0 0] 24)
  obtain ⟨t0, t1, t2⟩ := bA0.three
  obtain ⟨u0, u1, u2⟩ := bB0.three
  go_wp2_with fail
  refine (flaws_any (HA.out.mono hb0) (HB.out.mono hb0)).mono ?_
  rintro e w1 ⟨rfl, hb1⟩
  have bA := bA0.below hb1
  have bB := bB0.below hb1
  have bR := bR0.below hb1
  have hbw := hb0.trans (hb1.mono hb0.size)
  clear bA0 bB0 bR0 hb0 hb1 t0 t1 t2 u0 u1 u2
  obtain ⟨t0, t1, t2⟩ := bA.three
  obtain ⟨u0, u1, u2⟩ := bB.three
  obtain ⟨q0, q1, q2⟩ := bR.three
  have fR := bR.frozen
  have hzA := bA.lt
  have hzB := bB.lt
  have hzR := bR.lt
  by_cases c1 : twoErr a b = 0
  case neg =>
    have HE0 := Lib.hid c1
    have HE := Lib.hid (show joinErr axis a b = twoErr a b by
      unfold joinErr; unfold twoErr at c1 ⊢
      by_cases h1 : arrErr a ≠ 0
      · rw [if_pos h1, if_pos h1]
      · rw [if_neg h1] at c1 ⊢; rw [if_pos c1, if_neg h1])
    obtain ⟨ce, hce⟩ : ∃ ce, ce = twoErr a b := ⟨_, rfl⟩
    have HCE := Lib.hid hce
    have e1 : (ce != 0) = true := by simp [hce, c1]
    rw [← hce]
    clear c1 hce
    go_wp2_with fail
    refine bodyPost_ret (v := .tuple #[zeroArr, .int .i64 ce]) (by simp [results, Tryd.results7, go_sem, q0, q1, q2, hzR]) rfl ?_
    rw [HE.out, HCE.out]
    exact RTold.bad HE0.out (by have := hbw.size; go_grown)
  rw [c1]
  obtain ⟨hea, heb⟩ : arrErr a = 0 ∧ arrErr b = 0 := by
    unfold twoErr at c1
    by_cases h1 : arrErr a ≠ 0
    · rw [if_pos h1] at c1; exact absurd c1 h1
    · rw [if_neg h1] at c1; exact ⟨by simpa using h1, c1⟩
  obtain ⟨t, ht⟩ := ok_of_arrErr hea
  obtain ⟨tu, hu⟩ := ok_of_arrErr heb
  have la : a.sh.length = t.length := by rw [ht.sh, length_ints]
  have lb : b.sh.length = tu.length := by rw [hu.sh, length_ints]
  have HT := Lib.hid ht
  have HU := Lib.hid hu
  have HLA := Lib.hid la
  have HLB := Lib.hid lb
  have HEA := Lib.hid (show ¬ arrErr a ≠ 0 by simp [hea])
  have HEB := Lib.hid (show ¬ arrErr b ≠ 0 by simp [heb])
  have ht6 := ht.good.1
  have hsl : a.sh.length ≤ 4096 := by omega
  clear c1 ht hu la lb hea heb
  by_cases c3 : a.sh.length = b.sh.length
  case neg =>
    have c3' : ((a.sh.length : Int) != (b.sh.length : Int)) = true := by simp; omega
    have HE := Lib.hid (show joinErr axis a b = 3 by unfold joinErr; rw [if_neg HEA.out, if_neg HEB.out, if_pos c3])
    clear c3
    go_wp2_with fail
    refine bodyPost_ret (v := .tuple #[zeroArr, .int .i64 3]) (by simp [results, Tryd.results7, go_sem, q0, q1, q2, hzR]) rfl ?_
    rw [HE.out]
    exact RTold.bad (by decide) (by have := hbw.size; go_grown)
  have c3' : ((a.sh.length : Int) != (b.sh.length : Int)) = false := by simp; omega
  have C3 := Lib.hid c3
  clear c3
  rcases Int.lt_or_le axis 0 with g0 | g0
  · have d0 : decide (axis < (0 : Int)) = true := by simpa using g0
    have HE := Lib.hid (show joinErr axis a b = 5 by unfold joinErr; rw [if_neg HEA.out, if_neg HEB.out, if_neg (by have := C3.out; omega), if_pos (.inl g0)])
    go_wp2_with fail
    refine bodyPost_ret (v := .tuple #[zeroArr, .int .i64 5]) (by simp [results, Tryd.results7, go_sem, q0, q1, q2, hzR]) rfl ?_
    rw [HE.out]
    exact RTold.bad (by decide) (by have := hbw.size; go_grown)
  rcases Int.lt_or_le axis a.sh.length with g1 | g1
  case inr =>
    have d0 : decide (axis < (0 : Int)) = false := by simp; omega
    have d1 : decide ((a.sh.length : Int) ≤ axis) = true := by simpa using g1
    have HE := Lib.hid (show joinErr axis a b = 5 by unfold joinErr; rw [if_neg HEA.out, if_neg HEB.out, if_neg (by have := C3.out; omega), if_pos (.inr g1)])
    go_wp2_with fail
    refine bodyPost_ret (v := .tuple #[zeroArr, .int .i64 5]) (by simp [results, Tryd.results7, go_sem, q0, q1, q2, hzR]) rfl ?_
    rw [HE.out]
    exact RTold.bad (by decide) (by have := hbw.size; go_grown)
  obtain ⟨kk, rfl⟩ := Int.eq_ofNat_of_zero_le g0
  have hka : kk < a.sh.length := by omega
  have d1 : decide (a.sh.length ≤ kk) = false := by simp; omega
  have d2 : decide ((a.sh.length : Int) ≤ (kk : Int)) = false := by simp; omega
  have HKK := Lib.hid (show ¬ ((kk : Int) < 0 ∨ (a.sh.length : Int) ≤ (kk : Int)) by omega)
  go_wp2_with fail
  clear t0 t1 t2 u0 u1 u2 q0 q1 q2 fR hzA hzB hzR
  go_loopw [9] (fun s wr => ∃ j : Nat, j ≤ a.sh.length ∧ s = .int .i64 j ∧ (∀ i, i < j → i ≠ kk → a.sh.getD i 0 = b.sh.getD i 0) ∧ Below w1.heap.size w1 wr) (fun s _ => a.sh.length - (intOf s).toNat)
  case atStart => exact ⟨0, Nat.zero_le _, rfl, (fun i h => by omega), Below.refl _ _⟩
  case round =>
    obtain ⟨j, hj, rfl, hsame, hd0⟩ := hrel
    have HD0 := Lib.hid hd0
    have hbl := hbw.trans (hd0.mono hbw.size)
    have bA2 := bA.below hd0
    have bB2 := bB.below hd0
    have bR2 := bR.below hd0
    obtain ⟨t0, t1, t2⟩ := bA2.three
    obtain ⟨u0, u1, u2⟩ := bB2.three
    have hzA := bA2.lt
    have hzB := bB2.lt
    have HSM := Lib.hid hsame
    clear hsame
    rcases Nat.lt_or_ge j a.sh.length with hlt | hge
    · obtain ⟨ax, x, rfl, hx, hax, hcx⟩ := Elems.later (IsInts.elems HS.out) hbl hlt
      have hlt2 : j < b.sh.length := by rw [← C3.out]; exact hlt
      obtain ⟨ay, y, rfl, hy, hay, hcy⟩ := Elems.later (IsInts.elems HS'.out) hbl hlt2
      have HXX := Lib.hid (show a.sh.getD j 0 = x by rw [List.getD_eq_getElem?_getD, hx]; rfl)
      have HYY := Lib.hid (show b.sh.getD j 0 = y by rw [List.getD_eq_getElem?_getD, hy]; rfl)
      clear hx hy
      by_cases hjk : j = kk
      · have e1 : ((j : Int) != (kk : Int)) = false := by simp; omega
        have HJK := Lib.hid hjk
        clear hjk bA bB bR bA2 bB2 bR2 hbw hbl hd0
        go_wp2_with fail
        go_quiet (fail)
        all_goals go_wp2_with fail
        go_roundw
        case rel => exact ⟨j + 1, by omega, by go_num, (fun i hi hik => HSM.out i (by have := HJK.out; omega) hik), HD0.out.trans (below_draws _ _ _)⟩
        case measure => simp [intOf]; omega
      · have e1 : ((j : Int) != (kk : Int)) = true := by simp; omega
        have HJK := Lib.hid hjk
        clear hjk
        by_cases hxy : x = y
        · have e2 : (x != y) = false := by simp [hxy]
          have HXY := Lib.hid hxy
          clear hxy bA bB bR bA2 bB2 bR2 hbw hbl hd0
          go_wp2_with fail
          go_quiet (fail)
          all_goals go_wp2_with fail
          go_roundw
          case rel => exact ⟨j + 1, by omega, by go_num, (fun i hi hik => by
            rcases Nat.lt_or_ge i j with h | h
            · exact HSM.out i h hik
            · obtain rfl : i = j := by omega
              rw [HXX.out, HYY.out, HXY.out]), HD0.out.trans (below_draws _ _ _)⟩
          case measure => simp [intOf]; omega
        · have e2 : (x != y) = true := by simp [hxy]
          have HE := Lib.hid (show joinErr (kk : Int) a b = 4 by
            unfold joinErr
            rw [if_neg HEA.out, if_neg HEB.out, if_neg (by have := C3.out; omega), if_neg HKK.out, if_pos ⟨j, hlt, by have := HJK.out; omega, by rw [HXX.out, HYY.out]; exact hxy⟩])
          obtain ⟨q0, q1, q2⟩ := bR2.three
          have fR := bR2.frozen
          have hzR := bR2.lt
          clear hxy
          go_wp2_with fail
          go_quiet (fail)
          all_goals go_wp2_with fail
          refine bodyPost_ret (v := .tuple #[zeroArr, .int .i64 4]) (by simp [results, Tryd.results7, go_sem, q0, q1, q2, hzR]) rfl ?_
          rw [HE.out]
          have hbd := hbl.trans (below_draws w.heap.size wr nq)
          exact RTold.bad (by decide) (by have := hbd.size; go_grown)
    · obtain rfl : j = a.sh.length := by omega
      have HDF := Lib.hid (show ¬ Differ (kk : Int) a.sh b.sh by rintro ⟨i, h1, h2, h3⟩; exact h3 (HSM.out i h1 (by omega)))
      have hzw := hd0.size
      have hz3 := bR.lt
      clear bA bB bR hd0 hbw HSM HD0
      obtain ⟨q0, q1, q2⟩ := bR2.three
      have fR := bR2.frozen
      have hzR := bR2.lt
      by_cases c5 : a.ch = b.ch
      case neg =>
        have e5 : (a.ch == b.ch) = false := by simpa using c5
        have HE := Lib.hid (show joinErr (kk : Int) a b = 6 by
          unfold joinErr
          rw [if_neg HEA.out, if_neg HEB.out, if_neg (by have := C3.out; omega), if_neg HKK.out, if_neg HDF.out, if_pos c5])
        clear c5
        go_wp2_with fail
        refine bodyPost_ret (v := .tuple #[zeroArr, .int .i64 6]) (by simp [results, Tryd.results7, go_sem, q0, q1, q2, hzR]) rfl ?_
        rw [HE.out]
        exact RTold.bad (by decide) (by have := hbl.size; go_grown)
      have e5 : (a.ch == b.ch) = true := by simpa using c5
      have HC5 := Lib.hid c5
      clear c5
      go_wp2_with fail
      refine (copied_ok _ a.sh _ (HS.out.mono hbl) hsl).mono ?_
      rintro e w2 ⟨ms, rfl, hms, hr2, hb2⟩
      have bA3 := bA2.below hb2
      have bB3 := bB2.below hb2
      have bR3 := bR2.below hb2
      have hbl3 := hbl.trans (hb2.mono hbl.size)
      have hmw2 := Box.lt hr2
      have hmsw : w1.heap.size ≤ ms := by omega
      have hkb : kk < b.sh.length := by rw [← C3.out]; exact hka
      obtain ⟨bs_, y, rfl, hy, hbs, hcy⟩ := Elems.later (IsInts.elems HS'.out) hbl3 (k := kk) hkb
      have hkt : kk < t.length := by rw [← HLA.out]; exact hka
      have hku : kk < tu.length := by rw [← HLB.out]; exact hkb
      obtain ⟨M, hM⟩ : ∃ M, M = t.getD kk 0 := ⟨_, rfl⟩
      obtain ⟨L, hL⟩ : ∃ L, L = tu.getD kk 0 := ⟨_, rfl⟩
      have hM4 : M ≤ 4096 := by rw [hM, List.getD_eq_getElem?_getD, List.getElem?_eq_getElem hkt]; exact HT.out.good.2.1 _ (List.getElem_mem _)
      have hL4 : L ≤ 4096 := by rw [hL, List.getD_eq_getElem?_getD, List.getElem?_eq_getElem hku]; exact HU.out.good.2.1 _ (List.getElem_mem _)
      have hyL : y = (L : Int) := by have h := hy; rw [HU.out.sh, ints_get hku, ← hL] at h; injection h with h; exact h.symm
      subst hyL
      have hcM := hr2.at_ (show a.sh[kk]? = some (M : Int) by rw [HT.out.sh, ints_get hkt, hM])
      have hst := hr2.store kk ((M : Int) + (L : Int))
      have HST := Lib.hid hst
      have hf2 := Box.frozen hr2 kk
      have hw0 : IntKind.i64.wrap ((M : Int) + L) = (M : Int) + L := IntWalk.i64_in _ (by omega)
      have HML := Lib.hid hM
      have HLL := Lib.hid hL
      have HGS := Lib.hid (show joinSh kk a.sh b.sh = a.sh.set kk ((M : Int) + (L : Int)) by
        unfold joinSh
        rw [HT.out.sh, HU.out.sh, hM, hL, List.getD_eq_getElem?_getD, List.getD_eq_getElem?_getD, ints_get hkt, ints_get hku]
        rfl)
      have bA4 := bA3.far (p := ⟨ms, kk, none⟩) (by simp; omega) (.int .i64 ((M : Int) + (L : Int)))
      have bB4 := bB3.far (p := ⟨ms, kk, none⟩) (by simp; omega) (.int .i64 ((M : Int) + (L : Int)))
      have bR4 := bR3.far (p := ⟨ms, kk, none⟩) (by simp; omega) (.int .i64 ((M : Int) + (L : Int)))
      have hbl4 := hbl3.setCell (p := ⟨ms, kk, none⟩) (by simp; omega) (.int .i64 ((M : Int) + (L : Int)))
      clear hy hM hL hst hr2 hb2 hms bA2 bB2 bR2 t0 t1 t2 u0 u1 u2 q0 q1 q2 fR hzA hzB hzR hbl bA3 bR3
      obtain ⟨u0, u1, u2⟩ := bB3.three
      have hzB := bB3.lt
      go_wp2_with fail
      go_region
      obtain ⟨wP, hwP⟩ : ∃ W, W = (w2.setCell ⟨ms, kk, none⟩ (.int .i64 ((M : Int) + (L : Int)))).drew := ⟨_, rfl⟩
      have hbd : Below w.heap.size w wP := by rw [hwP]; exact hbl4.trans (below_draws _ _ 1)
      have bAP : Box wP w.heap.size 24 #[.bool a.ch, .slice A a.sh.length ca, .slice D a.da.length cd] := by rw [hwP]; exact bA4.drewN 1
      have bBP : Box wP (w.heap.size + 1) 24 #[.bool b.ch, .slice (some bs_) b.sh.length ca', .slice D' b.da.length cd'] := by rw [hwP]; exact bB4.drewN 1
      have bRP : Box wP (w.heap.size + 1 + 1) 24 #[.bool false, .slice none 0 0, .slice none 0 0] := by rw [hwP]; exact bR4.drewN 1
      have HRS := Lib.hid (show Row wP ms (a.sh.set kk ((M : Int) + (L : Int))) by rw [hwP]; exact HST.out.drewN 1)
      have hmlP : ms < wP.heap.size := by rw [hwP]; simpa using hmw2
      rw [← hwP]
      clear hwP hcM hf2 HST hcy u0 u1 u2 hzB bA4 bB4 bR4 bB3 hbl4 hw0
      have HRI := Lib.hid (HRS.out.isInts (n := a.sh.length) (by rw [List.length_set]) (by omega))
      go_wp2_with fail
      refine (fault_any _ (a.sh.set kk ((M : Int) + (L : Int))) _ HRI.out).mono ?_
      rintro e w3 ⟨rfl, rfl⟩
      obtain ⟨q0, q1, q2⟩ := bRP.three
      have qf := bRP.frozen
      have hzR := bRP.lt
      have HKE3 := Lib.hid (show joinErr (kk : Int) a b = cntErr (a.sh.set kk ((M : Int) + (L : Int))) by
        unfold joinErr
        rw [if_neg HEA.out, if_neg HEB.out, if_neg (by have := C3.out; omega), if_neg HKK.out, if_neg HDF.out, if_neg (fun h => h HC5.out), Int.toNat_natCast, HGS.out])
      by_cases c4 : cntErr (a.sh.set kk ((M : Int) + (L : Int))) = 0
      case neg =>
        have HE0 := Lib.hid c4
        obtain ⟨ce, hce⟩ : ∃ ce, ce = cntErr (a.sh.set kk ((M : Int) + (L : Int))) := ⟨_, rfl⟩
        have e3 : (ce != 0) = true := by rw [hce]; simp [c4]
        rw [← hce]
        have HCE := Lib.hid hce
        clear c4 hce
        go_wp2_with fail
        refine bodyPost_ret (v := .tuple #[zeroArr, .int .i64 ce]) (by simp [results, Tryd.results7, go_sem, q0, q1, q2, hzR]) rfl ?_
        rw [HKE3.out, HCE.out]
        exact RTold.bad HE0.out (by have := hbd.size; go_grown)
      have HE := Lib.hid (show joinErr (kk : Int) a b = 0 by rw [HKE3.out, c4])
      obtain ⟨t', k', l', y1, y2, y3, y4, y5, y6⟩ := joinErr_zero HE.out
      obtain rfl : kk = k' := by omega
      obtain rfl : t = t' := ints_inj (by rw [← HT.out.sh, y1.sh])
      have hl' : L = l' := by
        have h1 : ints tu = ints (t.set kk l') := by rw [← HU.out.sh, y4.sh]
        rw [HLL.out, ints_inj h1, getD_set hkt]
      subst hl'
      have HUO := Lib.hid y4
      have HCH := Lib.hid y5
      obtain ⟨ts, hts⟩ : ∃ ts, ts = t.set kk (t.getD kk 0 + L) := ⟨_, rfl⟩
      have HTS := Lib.hid hts
      have HGU := Lib.hid (show GoodSh ts by rw [hts]; exact y6)
      have hui : a.sh.set kk ((M : Int) + (L : Int)) = ints ts := by rw [HT.out.sh, hts, ← ints_set, ← HML.out]; rfl
      rw [hui] at HRS HRI
      rw [c4]
      have HUL := Lib.hid (show a.sh.length = ts.length by rw [hts, List.length_set]; exact HLA.out)
      have HKU := Lib.hid (show kk < ts.length by rw [hts, List.length_set]; exact hkt)
      obtain ⟨X, hX⟩ : ∃ X, X = (glue kk a b).da := ⟨_, rfl⟩
      have HX := Lib.hid hX
      have HOK := Lib.hid (show Ok (glue kk a b) ts by rw [hts]; exact glue_ok HT.out HUO.out hkt y5 y6)
      obtain ⟨N, hN⟩ : ∃ N, N = prod ts := ⟨_, rfl⟩
      have HN := Lib.hid hN
      have hN4 : N ≤ 4096 := by rw [hN]; exact HGU.out.2.2
      have HXL := Lib.hid (show X.length = N by rw [hX, hN]; exact HOK.out.len)
      have hdl : a.da.length ≤ 4096 := by rw [HT.out.len]; exact HT.out.good.2.2
      have hdl' : b.da.length ≤ 4096 := by rw [HU.out.len]; exact HU.out.good.2.2
      have HKT := Lib.hid hkt
      obtain ⟨as_, ya, rfl, hya, hasl, hcya⟩ := Elems.later (IsInts.elems HS.out) hbd (k := kk) hka
      have HYA := Lib.hid (show ya = (M : Int) by have h := hya; rw [HT.out.sh, ints_get hkt, ← HML.out] at h; injection h with h; exact h.symm)
      clear c4 hts hui hX hN HKE3 q0 q1 q2 qf y1 y2 y3 y4 y5 y6 hya hcya
      obtain ⟨t0, t1, t2⟩ := bAP.three
      have lA := bAP.lt
      go_wp2_with fail
      have HI1 := Lib.hid (show Box _ _ _ _ from Box.new wP 24 #[.bool a.ch, .slice (some ⟨ms, 0, none⟩) a.sh.length a.sh.length, .slice none 0 0])
      obtain ⟨g, hg⟩ : ∃ g, g = wP.heap.size := ⟨_, rfl⟩
      obtain ⟨W2, hW2⟩ : ∃ W2, W2 = wP.alloc (.cells #[.bool a.ch, .slice (some ⟨ms, 0, none⟩) a.sh.length a.sh.length, .slice none 0 0] 24) := ⟨_, rfl⟩
      have HIW := Lib.hid (show Below wP.heap.size wP W2 by rw [hW2]; exact below_one _ _)
      have hzW2 : W2.heap.size = g + 1 := by rw [hW2, hg]; simp
      rw [← hW2, ← hg] at HI1 ⊢
      have HI3 := Lib.hid (show Row W2 ms (ints ts) from Box.below HRS.out HIW.out)
      have HGM := Lib.hid (show g ≠ ms by omega)
      have hgP : wP.heap.size ≤ g := by omega
      clear hW2 t0 t1 t2 lA
      refine (cells_ok _ ts _ (HRI.out.mono HIW.out) HGU.out).mono ?_
      rintro e w4 ⟨rfl, rfl⟩
      rw [← HN.out]
      clear hg
      go_wp2_with fail
      go_loopw [13] (fun sI wr => ∃ (k : Nat) (A4 : Option Addr) (c4 : Nat), k ≤ N ∧ sI = .int .i64 k ∧ Box wr g 24 #[.bool a.ch, .slice (some ⟨ms, 0, none⟩) a.sh.length a.sh.length, .slice A4 k c4] ∧ Owns wr W2.heap.size (.slice A4 k c4) k (X.take k) ∧ Row wr ms (ints ts) ∧ Below wP.heap.size wP wr ∧ W2.heap.size ≤ wr.heap.size) (fun sI _ => N - (intOf sI).toNat)
      case atStart => exact ⟨0, none, 0, Nat.zero_le _, rfl, HI1.out, Owns.nil _ _, HI3.out, HIW.out, Nat.le_refl _⟩
      case round =>
        obtain ⟨k, A4, c4, hk, rfl, h1, h2, h3, hbl, hws⟩ := hrel
        have hlo := h1.lt
        have hlm := Box.lt h3
        rcases Nat.lt_or_ge k N with hlt | hge2
        · have HPT := Lib.hid (show k < prod ts by rw [← HN.out]; exact hlt)
          have hz := hbl.size
          have HH1 := Lib.hid h1
          have HH2 := Lib.hid h2
          have HH3 := Lib.hid h3
          have HBL := Lib.hid hbl
          have HSL := Lib.hid (h3.isInts (n := a.sh.length) (by rw [length_ints]; exact HUL.out) (by omega))
          clear h1 h2 h3 hbl
          go_wp2_with fail
          have hco := coords_ok _ ts k _ HSL.out HGU.out.1 HGU.out.2.1 HPT.out (by omega)
          rw [show ts.length = t.length by rw [← HUL.out, HLA.out]] at hco
          refine hco.mono ?_
          clear hco
          rintro e w5 ⟨g5, rfl, hg5, hr5, hb5⟩
          have hbl5 := HBL.out.trans (hb5.mono HBL.out.size)
          have h15 := HH1.out.below hb5
          have h25 := HH2.out.below hb5
          have h35 : Row w5 ms (ints ts) := Box.below HH3.out hb5
          have hs5 := hb5.size
          have hl5 := Box.lt hr5
          have hkts : kk < ts.length := HKU.out
          have hkt : kk < t.length := HKT.out
          have hcl := coords_lt HPT.out hkts
          have hc1 := hr5.at_ (show (ints (coords ts k))[kk]? = some (((coords ts k).getD kk 0 : Nat) : Int) from ints_get (by rw [length_coords]; exact hkts))
          obtain ⟨Q, hQ⟩ : ∃ Q, Q = (coords ts k).getD kk 0 := ⟨_, rfl⟩
          rw [← hQ] at hc1 hcl
          have hQm : Q < M + L := by have h := hcl; rw [HTS.out, getD_set hkt, ← HML.out] at h; exact h
          have hbw5 := hbd.trans (hbl5.mono hbd.size)
          obtain ⟨as2, ya2, has2, hya2, hasl2, hcya2⟩ := Elems.later (IsInts.elems HS.out) hbw5 (k := kk) hka
          have hay : ya2 = (M : Int) := by have h := hya2; rw [HT.out.sh, ints_get hkt, ← HML.out] at h; injection h with h; exact h.symm
          subst hay
          injection has2 with has2
          subst has2
          have hgl := glue_at HT.out HUO.out hkt (show k < prod (t.set kk (t.getD kk 0 + L)) by rw [← HTS.out]; exact HPT.out)
          have hin5 := coords_inside (show k < prod (t.set kk (t.getD kk 0 + L)) by rw [← HTS.out]; exact HPT.out)
          rw [glue_cell HT.out HUO.out hkt hin5, ← HTS.out, ← hQ, ← HML.out, ← HX.out] at hgl
          have HGL := Lib.hid hgl
          have HIN5 := Lib.hid hin5
          have HQ := Lib.hid hQ
          have hf5 := Box.frozen hr5 kk
          have HR5 := Lib.hid hr5
          have bA5 := bAP.below hbl5
          have lA5 := bA5.lt
          have hlAP := bAP.lt
          have hlBP := bBP.lt
          obtain ⟨t0, t1, t2⟩ := bA5.three
          clear hQ hgl hin5 hr5 hcl hb5 hya2
          rcases Nat.lt_or_ge Q M with hQM | hQM
          · have e6 : decide ((Q : Int) < (M : Int)) = true := by simp; omega
            obtain ⟨ix, hix⟩ : ∃ ix, ix = coords ts k := ⟨_, rfl⟩
            go_wp2_with fail
            go_quiet (fail)
            all_goals go_wp2_with fail
            obtain ⟨wo, hwo⟩ : ∃ W, W = w5.drewN nq := ⟨_, rfl⟩
            have h1 : Box wo g 24 #[.bool a.ch, .slice (some ⟨ms, 0, none⟩) a.sh.length a.sh.length, .slice A4 k c4] := by rw [hwo]; exact h15.drewN _
            have h2 : Owns wo W2.heap.size (.slice A4 k c4) k (X.take k) := by rw [hwo]; exact h25.drewN _
            have h3 : Row wo ms (ints ts) := by rw [hwo]; exact h35.drewN _
            have hbl : Below wP.heap.size wP wo := by rw [hwo]; exact hbl5.trans (below_draws _ _ _)
            have hs7 : wr.heap.size ≤ wo.heap.size := by rw [hwo]; simpa using hs5
            have hrx : Row wo g5 (ints ix) := by rw [hwo, hix]; exact HR5.out.drewN _
            rw [← hwo]
            have hwz : W2.heap.size ≤ wo.heap.size := by omega
            have hg5o : g5 < wo.heap.size := Box.lt hrx
            have HAT := Lib.hid (hrx.isInts (n := t.length) (by rw [length_ints, hix, length_coords, ← HUL.out, HLA.out]) (by omega))
            have hinside : Inside t ix := by
              rw [hix, HTS.out]
              exact inside_glue1 hkt HIN5.out (by rw [← HTS.out, ← HQ.out, ← HML.out]; exact hQM)
            have HIX := Lib.hid hinside
            obtain ⟨P, hP⟩ : ∃ P, P = place t ix := ⟨_, rfl⟩
            have HPP := Lib.hid hP
            have hPl : P < a.da.length := by rw [hP, HT.out.len]; exact place_lt hinside
            have hbwo := hbd.trans (hbl.mono hbd.size)
            obtain ⟨ad, x, hax, hx, halx, hcx⟩ := Elems.later HD.out hbwo hPl
            subst hax
            have HXK := Lib.hid (show X[k]? = some x by
              rw [HGL.out, if_pos hQM, ← hix, ← hx, hP]
              exact (cell_get HT.out hinside).symm)
            have HCX := Lib.hid (show ∀ wx, Below wo.heap.size wo wx → wx.cell? (ad.add P) = some (.int .i64 x) from fun wx h => (h.cell (p := ad.add P) (by rw [addr_block_add]; have := hbwo.size; omega)).trans hcx)
            have HSW := Lib.hid ((HS.out.mono hbwo).eq' HT.out.sh)
            have hz2 := hbl.size
            obtain ⟨g0, g1, g2⟩ := h1.three
            have hlo2 := h1.lt
            clear t0 t1 t2 lA5 h15 h25 h35 hbl5 hc1 hf5 bA5
            obtain ⟨t0, t1, t2⟩ := (bAP.below hbl).three
            have lA2 := (bAP.below hbl).lt
            clear hx hcx hP hinside hix hwo hrx
            go_wp2_with fail
            refine wp_region_gate 11 2 (fun i v lo hi w' => match i with
                | 0 => v = .pointer (some ⟨g, 2, none⟩)
                | 1 => v = .slice A4 k c4
                | 2 => v = .pointer (some ⟨w.heap.size, 2, none⟩)
                | 3 => v = .slice (some ad) a.da.length cd
                | 4 => v = .pointer (some ⟨w.heap.size, 1, none⟩)
                | 5 => v = .slice (some as_) a.sh.length ca
                | 6 => v = .slice (some ⟨g5, 0, none⟩) t.length t.length
                | 7 => v = .int .i64 (P : Nat)
                | 8 => v = .pointer (some (ad.add P))
                | 9 => v = .int .i64 x
                | 10 => ∃ m, v = .slice (some ⟨m, 0, none⟩) 1 1 ∧ Elems w' (some ⟨m, 0, none⟩) [x]
                | _ => True) (by kernel_rfl) (by kernel_rfl) (by kernel_rfl) ?hV ?step ?last
            case hV =>
              intro i v lo hi w1 w2 h hb
              match i, h with
              | 0, h => exact h
              | 1, h => exact h
              | 2, h => exact h
              | 3, h => exact h
              | 4, h => exact h
              | 5, h => exact h
              | 6, h => exact h
              | 7, h => exact h
              | 8, h => exact h
              | 9, h => exact h
              | 10, ⟨m, e, hel⟩ => exact ⟨m, e, hel.mono hb⟩
              | i + 11, _ => trivial
            case step =>
              simp only [List.take_succ_cons, List.take_zero, putAll, Act.put, List.setIfInBounds_toArray, List.set_cons_zero, List.set_cons_succ, Nat.reduceAdd, Nat.zero_add]
              intro i o ho hi u lo up wr hbr hd hj K hK
              obtain ⟨hcw, hfw⟩ := bcell hbr
              match i, ho with
              | 0, ho =>
                simp only [List.getElem?_cons_zero, Option.some.injEq] at ho
                subst ho
                simp only [Act.put, List.setIfInBounds_toArray, List.set_cons_zero, List.set_cons_succ] at hK
                first | (simp [Region.binds] at hd; simp only [hd] at hK) | skip
                refine wpOp_step rfl fun K' hK' => ?_
                go_simp
                exact hK' _ _ (hK _ _ (Below.refl _ _) rfl)
              | 1, ho =>
                simp only [List.getElem?_cons_succ, List.getElem?_cons_zero, Option.some.injEq] at ho
                subst ho
                simp only [Act.put, List.setIfInBounds_toArray, List.set_cons_zero, List.set_cons_succ] at hK
                first | (simp [Region.binds] at hd; simp only [hd] at hK) | skip
                refine wpOp_step rfl fun K' hK' => ?_
                go_simp
                exact hK' _ _ (hK _ _ (Below.refl _ _) rfl)
              | 2, ho =>
                simp only [List.getElem?_cons_succ, List.getElem?_cons_zero, Option.some.injEq] at ho
                subst ho
                simp only [Act.put, List.setIfInBounds_toArray, List.set_cons_zero, List.set_cons_succ] at hK
                first | (simp [Region.binds] at hd; simp only [hd] at hK) | skip
                refine wpOp_step rfl fun K' hK' => ?_
                go_simp
                exact hK' _ _ (hK _ _ (Below.refl _ _) rfl)
              | 3, ho =>
                simp only [List.getElem?_cons_succ, List.getElem?_cons_zero, Option.some.injEq] at ho
                subst ho
                simp only [Act.put, List.setIfInBounds_toArray, List.set_cons_zero, List.set_cons_succ] at hK
                first | (simp [Region.binds] at hd; simp only [hd] at hK) | skip
                refine wpOp_step rfl fun K' hK' => ?_
                go_simp
                exact hK' _ _ (hK _ _ (Below.refl _ _) rfl)
              | 4, ho =>
                simp only [List.getElem?_cons_succ, List.getElem?_cons_zero, Option.some.injEq] at ho
                subst ho
                simp only [Act.put, List.setIfInBounds_toArray, List.set_cons_zero, List.set_cons_succ] at hK
                first | (simp [Region.binds] at hd; simp only [hd] at hK) | skip
                refine wpOp_step rfl fun K' hK' => ?_
                go_simp
                exact hK' _ _ (hK _ _ (Below.refl _ _) rfl)
              | 5, ho =>
                simp only [List.getElem?_cons_succ, List.getElem?_cons_zero, Option.some.injEq] at ho
                subst ho
                simp only [Act.put, List.setIfInBounds_toArray, List.set_cons_zero, List.set_cons_succ] at hK
                first | (simp [Region.binds] at hd; simp only [hd] at hK) | skip
                refine wpOp_step rfl fun K' hK' => ?_
                go_simp
                exact hK' _ _ (hK _ _ (Below.refl _ _) rfl)
              | 6, ho =>
                simp only [List.getElem?_cons_succ, List.getElem?_cons_zero, Option.some.injEq] at ho
                subst ho
                simp only [Act.put, List.setIfInBounds_toArray, List.set_cons_zero, List.set_cons_succ] at hK
                first | (simp [Region.binds] at hd; simp only [hd] at hK) | skip
                refine wpOp_step rfl fun K' hK' => ?_
                go_simp
                exact hK' _ _ (hK _ _ (Below.refl _ _) rfl)
              | 7, ho =>
                simp only [List.getElem?_cons_succ, List.getElem?_cons_zero, Option.some.injEq] at ho
                subst ho
                simp only [Act.put, List.setIfInBounds_toArray, List.set_cons_zero, List.set_cons_succ] at hK
                have h5 : u 5 = .slice (some as_) a.sh.length ca := hd ⟨5, .data⟩ (by simp) rfl
                have h6 : u 6 = .slice (some ⟨g5, 0, none⟩) t.length t.length := hd ⟨6, .data⟩ (by simp) rfl
                simp only [h5, h6] at hK
                refine wpOp_step rfl fun K' hK' => ?_
                go_simp
                refine (where_ok _ _ t ix _ (HSW.out.mono hbr) (HAT.out.mono hbr) HIX.out HT.out.good.1 HT.out.good.2.2).mono ?_
                rintro e w6 ⟨rfl, rfl⟩
                rw [← HPP.out]
                exact hK' _ _ (hK _ _ (Below.refl _ _) rfl)
              | 8, ho =>
                simp only [List.getElem?_cons_succ, List.getElem?_cons_zero, Option.some.injEq] at ho
                subst ho
                simp only [Act.put, List.setIfInBounds_toArray, List.set_cons_zero, List.set_cons_succ] at hK
                first | (simp [Region.binds] at hd; simp only [hd] at hK) | skip
                refine wpOp_step rfl fun K' hK' => ?_
                go_simp
                exact hK' _ _ (hK _ _ (Below.refl _ _) rfl)
              | 9, ho =>
                simp only [List.getElem?_cons_succ, List.getElem?_cons_zero, Option.some.injEq] at ho
                subst ho
                simp only [Act.put, List.setIfInBounds_toArray, List.set_cons_zero, List.set_cons_succ] at hK
                have h8 : u 8 = .pointer (some (ad.add P)) := hd ⟨8, .data⟩ (by simp) rfl
                have hcr := HCX.out wr hbr
                simp only [h8] at hK
                refine wpOp_step rfl fun K' hK' => ?_
                go_simp
                exact hK' _ _ (hK _ _ (Below.refl _ _) rfl)
              | 10, ho =>
                simp only [List.getElem?_cons_succ, List.getElem?_cons_zero, Option.some.injEq] at ho
                subst ho
                simp only [Act.put, List.setIfInBounds_toArray, List.set_cons_zero, List.set_cons_succ] at hK
                have hX : u 9 = .int .i64 (x) := hd ⟨9, .data⟩ (by simp) rfl
                simp only [hX] at hK
                refine wpOp_step rfl fun K' hK' => ?_
                go_simp
                exact hK' _ _ (hK _ _ (below_one _ _) ⟨_, rfl, elems_new _ _⟩)
              | i + 11, ho => omega
            case last =>
              simp only [List.take_succ_cons, List.take_zero, putAll, Act.put, List.setIfInBounds_toArray, List.set_cons_zero, List.set_cons_succ, Nat.reduceAdd, Nat.zero_add]
              intro u wr lo up hbr hv hj
              obtain ⟨m0, eb, hel⟩ := hv 10 (by omega)
              have e1 : u 1 = .slice A4 k c4 := hv 1 (by omega)
              have hzr := hbr.size
              have hne := (h2.below hbr).ne_box (h1.below hbr) (by decide)
              simp only [eb, e1]
              clear hv hj eb e1
              unfold tailWp
              refine wpOp_step rfl fun K' hK' => ?_
              refine step_append_ints _ rfl rfl _ _ (by rfl) (W2.heap.size) k _ (X.take k) (by rfl) (h2.below hbr) (some ⟨m0, 0, none⟩) 1 1 [x] (by rfl) (fun e => by cases e) hel rfl (by omega) (by omega) ?_
              intro A5 c5 w5 hown5 hgrow5 hat5
              refine hK' _ _ ?_
              clear hK'
              have b5 := (h1.below hbr).grown hgrow5 hne
              have hc5 := b5.three.2.2
              have hf5 := b5.frozen 2
              have hl5 := b5.lt
              unfold tailWp
              refine wpOp_step rfl fun K' hK' => ?_
              go_simp
              refine hK' _ _ ?_
              clear hK'
              unfold tailWp
              refine wpOp_step rfl fun K' hK' => ?_
              go_simp
              refine hK' _ _ ?_
              clear hK'
              have hblr := hbl.trans (hbr.mono hbl.size)
              have hbl5 := (hblr.grown hgrow5 hblr.size (fun j e => by have := (h2.lt e).1; omega)).setCell (p := ⟨g, 2, none⟩) (by first | (simp; done) | (simp; omega)) (.slice A5 (k + 1) c5)
              have b6 := b5.store 2 (.slice A5 (k + 1) c5)
              have h6 := hown5.setCell (p := ⟨g, 2, none⟩) (hown5.ne_box b5 (by decide)) (.slice A5 (k + 1) c5)
              simp only [List.setIfInBounds_toArray, List.set_cons_zero, List.set_cons_succ] at b6
              have hsz7 := hgrow5.size
              have h37 : Row _ ms (ints ts) := Box.far (Box.grown (Box.below h3 hbr) hgrow5 (h2.ne_low (by omega))) (p := ⟨g, 2, none⟩) (by simp; omega) (.slice A5 (k + 1) c5)
              clear hc5 hf5 b5 hown5 hgrow5
              go_wp2_with fail
              go_roundw
              case rel => exact ⟨k + 1, A5, c5, by omega, by go_num, b6, by rw [← take_at HXK.out]; exact h6, h37, hbl5, by simp; omega⟩
              case measure => simp [intOf]; omega
          · have e6 : decide ((Q : Int) < (M : Int)) = false := by simp; omega
            have e6' : decide (Q < M) = false := by simp; omega
            obtain ⟨R, hR⟩ : ∃ R, R = Q - M := ⟨_, rfl⟩
            have hRL : R < L := by omega
            have e7 : IntKind.i64.wrap ((Q : Int) - M) = (R : Int) := by rw [IntWalk.i64_in _ (by omega)]; omega
            have HR := Lib.hid hR
            have hst := HR5.out.store kk (R : Int)
            rw [ints_set] at hst
            have HST := Lib.hid hst
            clear hst hR
            go_wp2_with fail
            go_quiet (fail)
            go_wp2_with fail
            go_region
            obtain ⟨ix, hix⟩ : ∃ ix, ix = (coords ts k).set kk R := ⟨_, rfl⟩
            obtain ⟨wo, hwo⟩ : ∃ W, W = (w5.drewN (nq + 1)).setCell ⟨g5, kk, none⟩ (.int .i64 (R : Int)) := ⟨_, rfl⟩
            have h1 : Box wo g 24 #[.bool a.ch, .slice (some ⟨ms, 0, none⟩) a.sh.length a.sh.length, .slice A4 k c4] := by rw [hwo]; exact (h15.drewN _).far (p := ⟨g5, kk, none⟩) (by simp; omega) _
            have h2 : Owns wo W2.heap.size (.slice A4 k c4) k (X.take k) := by rw [hwo]; exact (h25.drewN _).setCell (p := ⟨g5, kk, none⟩) (fun e => by have := (HH2.out.lt e).2; simp at this; omega) _
            have h3 : Row wo ms (ints ts) := by rw [hwo]; exact Box.far (Box.drewN h35 _) (p := ⟨g5, kk, none⟩) (by simp; omega) _
            have hbl : Below wP.heap.size wP wo := by rw [hwo]; exact (hbl5.trans (below_draws _ _ _)).setCell (p := ⟨g5, kk, none⟩) (by simp; omega) _
            have hs7 : wr.heap.size ≤ wo.heap.size := by rw [hwo]; simp; omega
            have hrx : Row wo g5 (ints ix) := by
              rw [hwo, hix]
              have h10 : Row ((w5.drewN (nq + 1)).setCell ⟨g5, kk, none⟩ (.int .i64 (R : Int))) g5 ((ints (coords ts k)).set kk (R : Int)) := (show Row (w5.drewN (nq + 1)) g5 (ints (coords ts k)) from Box.drewN HR5.out (nq + 1)).store kk (R : Int)
              rw [ints_set] at h10
              exact h10
            rw [← hwo]
            have hwz : W2.heap.size ≤ wo.heap.size := by omega
            have hg5o : g5 < wo.heap.size := Box.lt hrx
            have HATB := Lib.hid (hrx.isInts (n := t.length) (by rw [length_ints, hix, List.length_set, length_coords, ← HUL.out, HLA.out]) (by omega))
            have hinsideB : Inside (t.set kk L) ix := by
              rw [hix, HTS.out]
              exact inside_move HIN5.out hRL
            have HIXB := Lib.hid hinsideB
            obtain ⟨P, hP⟩ : ∃ P, P = place (t.set kk L) ix := ⟨_, rfl⟩
            have HPPB := Lib.hid hP
            have hPl : P < b.da.length := by rw [hP, HUO.out.len]; exact place_lt hinsideB
            have hbwo := hbd.trans (hbl.mono hbd.size)
            obtain ⟨ad, x, hax, hx, halx, hcx⟩ := Elems.later HD'.out hbwo hPl
            subst hax
            have HXK := Lib.hid (show X[k]? = some x by
              rw [HGL.out, if_neg (by omega), ← HR.out, ← hix, ← hx, hP]
              exact (cell_get HUO.out hinsideB).symm)
            have HCX := Lib.hid (show ∀ wx, Below wo.heap.size wo wx → wx.cell? (ad.add P) = some (.int .i64 x) from fun wx h => (h.cell (p := ad.add P) (by rw [addr_block_add]; have := hbwo.size; omega)).trans hcx)
            have HSWB := Lib.hid ((HS'.out.mono hbwo).eq' HUO.out.sh)
            have hz2 := hbl.size
            obtain ⟨g0, g1, g2⟩ := h1.three
            have hlo2 := h1.lt
            clear t0 t1 t2 lA5 h15 h25 h35 hbl5 hc1 hf5 bA5
            obtain ⟨t0, t1, t2⟩ := (bBP.below hbl).three
            have lA2 := (bBP.below hbl).lt
            clear hx hcx hP hinsideB hix hwo hrx e7
            go_wp2_with fail
            refine wp_region_gate 11 2 (fun i v lo hi w' => match i with
                | 0 => v = .pointer (some ⟨g, 2, none⟩)
                | 1 => v = .slice A4 k c4
                | 2 => v = .pointer (some ⟨w.heap.size + 1, 2, none⟩)
                | 3 => v = .slice (some ad) b.da.length cd'
                | 4 => v = .pointer (some ⟨w.heap.size + 1, 1, none⟩)
                | 5 => v = .slice (some bs_) b.sh.length ca'
                | 6 => v = .slice (some ⟨g5, 0, none⟩) t.length t.length
                | 7 => v = .int .i64 (P : Nat)
                | 8 => v = .pointer (some (ad.add P))
                | 9 => v = .int .i64 x
                | 10 => ∃ m, v = .slice (some ⟨m, 0, none⟩) 1 1 ∧ Elems w' (some ⟨m, 0, none⟩) [x]
                | _ => True) (by kernel_rfl) (by kernel_rfl) (by kernel_rfl) ?hV ?step ?last
            case hV =>
              intro i v lo hi w1 w2 h hb
              match i, h with
              | 0, h => exact h
              | 1, h => exact h
              | 2, h => exact h
              | 3, h => exact h
              | 4, h => exact h
              | 5, h => exact h
              | 6, h => exact h
              | 7, h => exact h
              | 8, h => exact h
              | 9, h => exact h
              | 10, ⟨m, e, hel⟩ => exact ⟨m, e, hel.mono hb⟩
              | i + 11, _ => trivial
            case step =>
              simp only [List.take_succ_cons, List.take_zero, putAll, Act.put, List.setIfInBounds_toArray, List.set_cons_zero, List.set_cons_succ, Nat.reduceAdd, Nat.zero_add]
              intro i o ho hi u lo up wr hbr hd hj K hK
              obtain ⟨hcw, hfw⟩ := bcell hbr
              match i, ho with
              | 0, ho =>
                simp only [List.getElem?_cons_zero, Option.some.injEq] at ho
                subst ho
                simp only [Act.put, List.setIfInBounds_toArray, List.set_cons_zero, List.set_cons_succ] at hK
                first | (simp [Region.binds] at hd; simp only [hd] at hK) | skip
                refine wpOp_step rfl fun K' hK' => ?_
                go_simp
                exact hK' _ _ (hK _ _ (Below.refl _ _) rfl)
              | 1, ho =>
                simp only [List.getElem?_cons_succ, List.getElem?_cons_zero, Option.some.injEq] at ho
                subst ho
                simp only [Act.put, List.setIfInBounds_toArray, List.set_cons_zero, List.set_cons_succ] at hK
                first | (simp [Region.binds] at hd; simp only [hd] at hK) | skip
                refine wpOp_step rfl fun K' hK' => ?_
                go_simp
                exact hK' _ _ (hK _ _ (Below.refl _ _) rfl)
              | 2, ho =>
                simp only [List.getElem?_cons_succ, List.getElem?_cons_zero, Option.some.injEq] at ho
                subst ho
                simp only [Act.put, List.setIfInBounds_toArray, List.set_cons_zero, List.set_cons_succ] at hK
                first | (simp [Region.binds] at hd; simp only [hd] at hK) | skip
                refine wpOp_step rfl fun K' hK' => ?_
                go_simp
                exact hK' _ _ (hK _ _ (Below.refl _ _) rfl)
              | 3, ho =>
                simp only [List.getElem?_cons_succ, List.getElem?_cons_zero, Option.some.injEq] at ho
                subst ho
                simp only [Act.put, List.setIfInBounds_toArray, List.set_cons_zero, List.set_cons_succ] at hK
                first | (simp [Region.binds] at hd; simp only [hd] at hK) | skip
                refine wpOp_step rfl fun K' hK' => ?_
                go_simp
                exact hK' _ _ (hK _ _ (Below.refl _ _) rfl)
              | 4, ho =>
                simp only [List.getElem?_cons_succ, List.getElem?_cons_zero, Option.some.injEq] at ho
                subst ho
                simp only [Act.put, List.setIfInBounds_toArray, List.set_cons_zero, List.set_cons_succ] at hK
                first | (simp [Region.binds] at hd; simp only [hd] at hK) | skip
                refine wpOp_step rfl fun K' hK' => ?_
                go_simp
                exact hK' _ _ (hK _ _ (Below.refl _ _) rfl)
              | 5, ho =>
                simp only [List.getElem?_cons_succ, List.getElem?_cons_zero, Option.some.injEq] at ho
                subst ho
                simp only [Act.put, List.setIfInBounds_toArray, List.set_cons_zero, List.set_cons_succ] at hK
                first | (simp [Region.binds] at hd; simp only [hd] at hK) | skip
                refine wpOp_step rfl fun K' hK' => ?_
                go_simp
                exact hK' _ _ (hK _ _ (Below.refl _ _) rfl)
              | 6, ho =>
                simp only [List.getElem?_cons_succ, List.getElem?_cons_zero, Option.some.injEq] at ho
                subst ho
                simp only [Act.put, List.setIfInBounds_toArray, List.set_cons_zero, List.set_cons_succ] at hK
                first | (simp [Region.binds] at hd; simp only [hd] at hK) | skip
                refine wpOp_step rfl fun K' hK' => ?_
                go_simp
                exact hK' _ _ (hK _ _ (Below.refl _ _) rfl)
              | 7, ho =>
                simp only [List.getElem?_cons_succ, List.getElem?_cons_zero, Option.some.injEq] at ho
                subst ho
                simp only [Act.put, List.setIfInBounds_toArray, List.set_cons_zero, List.set_cons_succ] at hK
                have h5 : u 5 = .slice (some bs_) b.sh.length ca' := hd ⟨5, .data⟩ (by simp) rfl
                have h6 : u 6 = .slice (some ⟨g5, 0, none⟩) t.length t.length := hd ⟨6, .data⟩ (by simp) rfl
                simp only [h5, h6] at hK
                refine wpOp_step rfl fun K' hK' => ?_
                go_simp
                refine (where_ok _ _ (t.set kk L) ix _ (HSWB.out.mono hbr) (HATB.out.mono hbr) HIXB.out HUO.out.good.1 HUO.out.good.2.2).mono ?_
                rintro e w6 ⟨rfl, rfl⟩
                rw [← HPPB.out]
                exact hK' _ _ (hK _ _ (Below.refl _ _) rfl)
              | 8, ho =>
                simp only [List.getElem?_cons_succ, List.getElem?_cons_zero, Option.some.injEq] at ho
                subst ho
                simp only [Act.put, List.setIfInBounds_toArray, List.set_cons_zero, List.set_cons_succ] at hK
                first | (simp [Region.binds] at hd; simp only [hd] at hK) | skip
                refine wpOp_step rfl fun K' hK' => ?_
                go_simp
                exact hK' _ _ (hK _ _ (Below.refl _ _) rfl)
              | 9, ho =>
                simp only [List.getElem?_cons_succ, List.getElem?_cons_zero, Option.some.injEq] at ho
                subst ho
                simp only [Act.put, List.setIfInBounds_toArray, List.set_cons_zero, List.set_cons_succ] at hK
                have h8 : u 8 = .pointer (some (ad.add P)) := hd ⟨8, .data⟩ (by simp) rfl
                have hcr := HCX.out wr hbr
                simp only [h8] at hK
                refine wpOp_step rfl fun K' hK' => ?_
                go_simp
                exact hK' _ _ (hK _ _ (Below.refl _ _) rfl)
              | 10, ho =>
                simp only [List.getElem?_cons_succ, List.getElem?_cons_zero, Option.some.injEq] at ho
                subst ho
                simp only [Act.put, List.setIfInBounds_toArray, List.set_cons_zero, List.set_cons_succ] at hK
                have hX : u 9 = .int .i64 (x) := hd ⟨9, .data⟩ (by simp) rfl
                simp only [hX] at hK
                refine wpOp_step rfl fun K' hK' => ?_
                go_simp
                exact hK' _ _ (hK _ _ (below_one _ _) ⟨_, rfl, elems_new _ _⟩)
              | i + 11, ho => omega
            case last =>
              simp only [List.take_succ_cons, List.take_zero, putAll, Act.put, List.setIfInBounds_toArray, List.set_cons_zero, List.set_cons_succ, Nat.reduceAdd, Nat.zero_add]
              intro u wr lo up hbr hv hj
              obtain ⟨m0, eb, hel⟩ := hv 10 (by omega)
              have e1 : u 1 = .slice A4 k c4 := hv 1 (by omega)
              have hzr := hbr.size
              have hne := (h2.below hbr).ne_box (h1.below hbr) (by decide)
              simp only [eb, e1]
              clear hv hj eb e1
              unfold tailWp
              refine wpOp_step rfl fun K' hK' => ?_
              refine step_append_ints _ rfl rfl _ _ (by rfl) (W2.heap.size) k _ (X.take k) (by rfl) (h2.below hbr) (some ⟨m0, 0, none⟩) 1 1 [x] (by rfl) (fun e => by cases e) hel rfl (by omega) (by omega) ?_
              intro A5 c5 w5 hown5 hgrow5 hat5
              refine hK' _ _ ?_
              clear hK'
              have b5 := (h1.below hbr).grown hgrow5 hne
              have hc5 := b5.three.2.2
              have hf5 := b5.frozen 2
              have hl5 := b5.lt
              unfold tailWp
              refine wpOp_step rfl fun K' hK' => ?_
              go_simp
              refine hK' _ _ ?_
              clear hK'
              unfold tailWp
              refine wpOp_step rfl fun K' hK' => ?_
              go_simp
              refine hK' _ _ ?_
              clear hK'
              have hblr := hbl.trans (hbr.mono hbl.size)
              have hbl5 := (hblr.grown hgrow5 hblr.size (fun j e => by have := (h2.lt e).1; omega)).setCell (p := ⟨g, 2, none⟩) (by first | (simp; done) | (simp; omega)) (.slice A5 (k + 1) c5)
              have b6 := b5.store 2 (.slice A5 (k + 1) c5)
              have h6 := hown5.setCell (p := ⟨g, 2, none⟩) (hown5.ne_box b5 (by decide)) (.slice A5 (k + 1) c5)
              simp only [List.setIfInBounds_toArray, List.set_cons_zero, List.set_cons_succ] at b6
              have hsz7 := hgrow5.size
              have h37 : Row _ ms (ints ts) := Box.far (Box.grown (Box.below h3 hbr) hgrow5 (h2.ne_low (by omega))) (p := ⟨g, 2, none⟩) (by simp; omega) (.slice A5 (k + 1) c5)
              clear hc5 hf5 b5 hown5 hgrow5
              go_wp2_with fail
              go_roundw
              case rel => exact ⟨k + 1, A5, c5, by omega, by go_num, b6, by rw [← take_at HXK.out]; exact h6, h37, hbl5, by simp; omega⟩
              case measure => simp [intOf]; omega
        · have hke : k = N := by omega
          subst hke
          rw [List.take_of_length_le (by rw [HXL.out]; exact Nat.le_refl _)] at h2
          obtain ⟨g0, g1, g2⟩ := h1.three
          have b3 := bRP.below hbl
          have rf := b3.frozen
          obtain ⟨e0, e1, e2⟩ := b3.three
          have rl := b3.lt
          go_wp2_with fail
          have hgg := grownBy_three wr (w.heap.size + 1 + 1) (.bool a.ch) (.slice (some ⟨ms, 0, none⟩) a.sh.length a.sh.length) (.slice A4 k c4)
          have z := ((b3.store 0 (.bool a.ch)).store 1 (.slice (some ⟨ms, 0, none⟩) a.sh.length a.sh.length)).store 2 (.slice A4 k c4)
          simp only [List.setIfInBounds_toArray, List.set_cons_zero, List.set_cons_succ] at z
          obtain ⟨z0, z1, z2⟩ := z.three
          have zl := z.lt
          refine bodyPost_ret (v := .tuple #[.agg #[.bool a.ch, .slice (some ⟨ms, 0, none⟩) a.sh.length a.sh.length, .slice A4 k c4], .int .i64 0]) (by simp [results, Tryd.results7, go_sem, z0, z1, z2, zl]) rfl ?_
          have hgn : w.heap.size + 1 + 1 ≠ ms := by omega
          have iS : IsInts _ (.slice (some ⟨ms, 0, none⟩) a.sh.length a.sh.length) (ints ts) := (Box.grown h3 hgg (by intro e; injection e with e; exact hgn e) : Row _ ms (ints ts)).isInts (by rw [length_ints]; exact HUL.out) (by omega)
          have iD := (h2.kept hgg (.inr (h2.ne_low (by omega)))).isInts
          have hbx := hbd.trans (hbl.mono hbd.size)
          rw [Int.toNat_natCast]
          refine RTold.ok HE.out ?_ (hbx.grown hgg hbx.size (fun j e => by cases e; omega))
          exact ⟨_, _, rfl, by rw [HOK.out.sh]; exact iS, by rw [← HX.out]; exact iD⟩

end Go.Proofs.YtikjniibfomadaaDoor
