/- The walk of the reference's Spread. Conditions: none. -/
import Derived.Test.YtikjniibfomadaaDoorRefTurn
import Derived.Test.YtikjniibfomadaaDoorRefMask
import Derived.Test.YtikjniibfomadaaDoorSpreadWalk
namespace Go.Proofs.YtikjniibfomadaaDoor.P
theorem spread_at {a : Arr} {t : List Nat} {k : Nat} {m : List Int} (h : Ok a t) {i : Nat} (hi : i < prod (t.set k m.length)) :
    (spread m k a).da[i]? = some (if m[(coords (t.set k m.length) i).getD k 0]? = some 1 then a.cell ((coords (t.set k m.length) i).set k (cnt m ((coords (t.set k m.length) i).getD k 0))) else fillOf a.ch) := by
  unfold spread
  rw [h.nsh_eq]
  have h1 := tab_get (c := a.ch) (g := fun ix => if m[ix.getD k 0]? = some 1 then a.cell (ix.set k (cnt m (ix.getD k 0))) else fillOf a.ch) (coords_inside hi)
  rw [place_coords hi] at h1
  exact h1
end Go.Proofs.YtikjniibfomadaaDoor.P
namespace Go.Proofs.YtikjniibfomadaaDoor
open Go Go.RowKit Go.Proofs.YtikjniibfomadaaDoor.P
theorem IsInts.front {w : World} {A : Option Addr} {n c q : Nat} {xs : List Int} (h : IsInts w (.slice A n c) xs) (hq : q ≤ xs.length) : IsInts w (.slice A q c) (xs.take q) := by
  obtain ⟨A', c', e, h1, h2, h3, h4, h5⟩ := h
  cases e
  have e1 : (xs.take q).length = q := by rw [List.length_take]; omega
  refine ⟨A, c, by rw [e1], by omega, h2, by omega, h4, fun k x hx => h5 k x ?_⟩
  rw [List.getElem?_take] at hx
  split at hx
  · exact hx
  · cases hx

set_option maxRecDepth 100000 in
set_option maxHeartbeats 4000000 in
theorem rspread_told {vm v : Value} {m : List Int} {axis : Int} {a : Arr} {w : World} (hm : IsInts w vm m) (ha : IsArr w v a) :
    Calls Tryd.prog 10 #[vm, .int .i64 axis, v] w (RTold (spread m axis.toNat a) (spreadErr m axis a) w) := by
  obtain ⟨A, ca, D, cd, rfl, hs, hd⟩ := ha.open_
  obtain ⟨B, cb, rfl, b1, b2, b3, EB, H1⟩ := hm.open_
  obtain ⟨D0, cd0, eD, d1, d2, d3, d0, d4⟩ := id hd
  cases eD
  have HA := Lib.hid ha
  have HS := Lib.hid hs
  have HD := Lib.hid (show Elems w D a.da from d4)
  have HMI := Lib.hid H1
  have HME := Lib.hid EB
  have HB1 := Lib.hid (And.intro b1 (And.intro b2 b3))
  clear ha hs hd d0 d4 hm H1 EB
  go_enter Tryd.func10, Tryd.ntmps10
  have z1 := (Box.new w 24 #[.bool a.ch, .slice A a.sh.length ca, .slice D a.da.length cd]).alloc (.cells #[.bool false, .slice none 0 0, .slice none 0 0] 24)
  have z3 := Box.new (w.alloc (.cells #[.bool a.ch, .slice A a.sh.length ca, .slice D a.da.length cd] 24)) 24 #[.bool false, .slice none 0 0, .slice none 0 0]
  simp only [World.size_alloc] at z3
  have hb0 := below_two w (.cells #[.bool a.ch, .slice A a.sh.length ca, .slice D a.da.length cd] 24) (.cells #[.bool false, .slice none 0 0, .slice none 0 0] 24)
  obtain ⟨t0, t1, t2⟩ := z1.three
  go_wp2_with fail
  refine (axis_any (HA.out.mono hb0)).mono ?_
  rintro e w1 ⟨rfl, hb1⟩
  have bA := z1.below hb1
  have bR := z3.below hb1
  have hbw := hb0.trans (hb1.mono hb0.size)
  clear z1 z3 hb0 hb1 t0 t1 t2
  obtain ⟨q0, q1, q2⟩ := bR.three
  have qf := bR.frozen
  have hzR := bR.lt
  by_cases c1 : axErr axis a = 0
  case neg =>
    have HE0 := Lib.hid c1
    have HE := Lib.hid (show spreadErr m axis a = axErr axis a by unfold spreadErr; unfold axErr at c1 ⊢; split; rfl; split; rfl; rename_i h1 h2; rw [if_neg h1, if_neg h2] at c1; exact absurd rfl c1)
    have e1 : (axErr axis a != 0) = true := by simp [c1]
    clear c1
    go_wp2_with fail
    refine bodyPost_ret (v := .tuple #[zeroArr, .int .i64 (axErr axis a)]) (by simp [results, Tryd.results10, go_sem, q0, q1, q2, hzR]) rfl ?_
    rw [HE.out]
    exact RTold.bad HE0.out (by have := hbw.size; go_grown)
  have HKE := Lib.hid (show spreadErr m axis a = if ¬ Mask m then 6 else if ((cnt m m.length : Nat) : Int) ≠ a.sh.getD axis.toNat 0 then 4 else cntErr (a.sh.set axis.toNat (m.length : Int)) by unfold spreadErr; unfold axErr at c1; split at c1; (rename_i h1; exact absurd c1 h1); split at c1; omega; rename_i h1 h2; rw [if_neg h1, if_neg h2])
  obtain ⟨t, kk, ht, rfl, hkk⟩ := axErr_zero c1
  rw [Int.toNat_natCast] at HKE
  have HKK := Lib.hid hkk
  have HT := Lib.hid ht
  have hal : a.sh.length = t.length := by rw [ht.sh, length_ints]
  have hka : kk < a.sh.length := by rw [hal]; exact hkk
  have HKA := Lib.hid hka
  have hsl : a.sh.length ≤ 4096 := by have := ht.good.1; omega
  have HAL := Lib.hid hal
  have hdl : a.da.length ≤ 4096 := by rw [ht.len]; exact ht.good.2.2
  rw [c1]
  have hshk : a.sh.getD kk 0 = ((t.getD kk 0 : Nat) : Int) := by rw [ht.sh]; rw [List.getD_eq_getElem?_getD, ints_get hkk]; rfl
  have HSHK := Lib.hid hshk
  clear c1 ht hkk hal hshk
  go_wp2_with fail
  refine (rmask_any _ m _ (HMI.out.mono hbw)).mono ?_
  rintro e w2 ⟨rfl, rfl⟩
  by_cases c3 : Mask m
  case neg =>
    have HE := Lib.hid (show spreadErr m (kk : Int) a = 6 by rw [HKE.out, if_pos c3])
    rw [decide_eq_false c3]
    clear c3
    go_wp2_with fail
    refine bodyPost_ret (v := .tuple #[zeroArr, .int .i64 6]) (by simp [results, Tryd.results10, go_sem, q0, q1, q2, hzR]) rfl ?_
    rw [HE.out]
    exact RTold.bad (by decide) (by have := hbw.size; go_grown)
  have HMK := Lib.hid c3
  rw [decide_eq_true c3]
  obtain ⟨C, hC⟩ : ∃ C, C = cnt m m.length := ⟨_, rfl⟩
  have HC := Lib.hid hC
  obtain ⟨M, hM⟩ : ∃ M, M = t.getD kk 0 := ⟨_, rfl⟩
  have HMM := Lib.hid hM
  obtain ⟨as_, y, rfl, hy, has, hcy⟩ := Elems.later (IsInts.elems HS.out) hbw (k := kk) hka
  have hyM : y = (M : Int) := by have h := HSHK.out; rw [List.getD_eq_getElem?_getD, hy, ← hM] at h; exact h
  subst hyM
  have HWH := Lib.hid (show ∀ n2, Calls Tryd.prog 29 #[.slice B m.length cb] (w1.drewN n2) fun e w' => e = .returned (.int .i64 (C : Nat)) ∧ w1.drewN n2 = w' from fun n2 => by
    rw [hC]
    exact rsum_ok _ m _ ((HMI.out.mono hbw).mono (below_draws _ _ _)) HMK.out)
  have HKE2 := Lib.hid (show spreadErr m (kk : Int) a = if ((C : Nat) : Int) ≠ (M : Int) then 4 else cntErr (a.sh.set kk (m.length : Int)) by rw [HKE.out, if_neg (fun h => h c3), hC, HSHK.out, hM])
  clear c3 hC hM hy HKE
  obtain ⟨t0, t1, t2⟩ := bA.three
  have lA := bA.lt
  by_cases c2 : C = M
  case neg =>
    have HE := Lib.hid (show spreadErr m (kk : Int) a = 4 by rw [HKE2.out, if_pos (by omega)])
    have e2 : ((C : Int) != (M : Int)) = true := by simp; omega
    clear c2
    go_wp2_with fail
    go_quiet ((exact Calls.quiet_of_same (quiet_call (HWH.out _))))
    all_goals go_wp2_with fail
    refine bodyPost_ret (v := .tuple #[zeroArr, .int .i64 4]) (by simp [results, Tryd.results10, go_sem, q0, q1, q2, hzR]) rfl ?_
    rw [HE.out]
    have hbd := hbw.trans (below_draws w.heap.size w1 nq)
    exact RTold.bad (by decide) (by have := hbd.size; go_grown)
  have HCM := Lib.hid c2
  have HKE3 := Lib.hid (show spreadErr m (kk : Int) a = cntErr (a.sh.set kk (m.length : Int)) by rw [HKE2.out, if_neg (by omega)])
  have e2 : ((C : Int) != (M : Int)) = false := by simp; omega
  clear c2 HKE2
  go_wp2_with fail
  go_quiet ((exact Calls.quiet_of_same (quiet_call (HWH.out _))))
  go_wp2_with fail
  refine (copied_ok _ a.sh _ ((HS.out.mono hbw).mono (below_draws _ _ _)) hsl).mono ?_
  rintro e w2 ⟨ms, rfl, hms, hr2, hb2'⟩
  have hb2 : Below w1.heap.size w1 w2 := (below_draws _ _ _).trans hb2'
  have hms1 : w1.heap.size ≤ ms := by simpa using hms
  have hmw2 := Box.lt hr2
  have bA2 := bA.below hb2
  have bR2 := bR.below hb2
  have hbw2 := hbw.trans (hb2.mono hbw.size)
  have HST := Lib.hid (hr2.store kk (m.length : Int))
  have hf2 := Box.frozen hr2 kk
  have hcs := hr2.at_ (List.getElem?_eq_getElem HKA.out)
  clear hms hr2 hb2' hb2 bA bR t0 t1 t2 lA q0 q1 q2 qf hcy has
  have bA3 := bA2.far (p := ⟨ms, kk, none⟩) (by simp; omega) (.int .i64 (m.length : Int))
  have bR3 := bR2.far (p := ⟨ms, kk, none⟩) (by simp; omega) (.int .i64 (m.length : Int))
  have hbw3 := hbw2.setCell (p := ⟨ms, kk, none⟩) (by simp; omega) (.int .i64 (m.length : Int))
  clear bA2 bR2
  go_wp2_with fail
  obtain ⟨wP, hwP⟩ : ∃ W, W = w2.setCell ⟨ms, kk, none⟩ (.int .i64 (m.length : Int)) := ⟨_, rfl⟩
  rw [← hwP] at bA3 bR3 hbw3 HST ⊢
  have hmlP : ms < wP.heap.size := by rw [hwP]; simpa using hmw2
  have HRS := Lib.hid (show Row wP ms (a.sh.set kk (m.length : Int)) from HST.out)
  have HMI3 := Lib.hid (HMI.out.mono hbw3)
  have HRI := Lib.hid (HRS.out.isInts (n := a.sh.length) (by rw [List.length_set]) (by omega))
  clear hbw2 hcs hf2 hwP HST hbw
  refine (fault_any _ (a.sh.set kk (m.length : Int)) _ HRI.out).mono ?_
  rintro e w3 ⟨rfl, rfl⟩
  obtain ⟨q0, q1, q2⟩ := bR3.three
  have qf := bR3.frozen
  have hzR := bR3.lt
  by_cases c4 : cntErr (a.sh.set kk (m.length : Int)) = 0
  case neg =>
    have HE0 := Lib.hid c4
    have e3 : (cntErr (a.sh.set kk (m.length : Int)) != 0) = true := by simp [c4]
    obtain ⟨ce, hce⟩ : ∃ ce, ce = cntErr (a.sh.set kk (m.length : Int)) := ⟨_, rfl⟩
    rw [← hce] at e3 ⊢
    have HCE := Lib.hid hce
    clear c4 hce
    go_wp2_with fail
    refine bodyPost_ret (v := .tuple #[zeroArr, .int .i64 ce]) (by simp [results, Tryd.results10, go_sem, q0, q1, q2, hzR]) rfl ?_
    rw [HKE3.out, HCE.out]
    exact RTold.bad HE0.out (by have := hbw3.size; go_grown)
  have HE := Lib.hid (show spreadErr m (kk : Int) a = 0 by rw [HKE3.out, c4])
  obtain ⟨tu, hu⟩ : ∃ tu, tu = t.set kk m.length := ⟨_, rfl⟩
  have HUE := Lib.hid hu
  have hul : tu.length = t.length := by rw [hu, List.length_set]
  have hui : a.sh.set kk (m.length : Int) = ints tu := by rw [HT.out.sh, hu, ← ints_set]
  have HGU := Lib.hid (show GoodSh tu by obtain ⟨v2, hv2, hg2⟩ := cntErr_zero (by rw [hui] at c4; exact c4); rw [ints_inj hv2]; exact hg2)
  rw [hui] at HRS HRI
  rw [c4]
  have HUL := Lib.hid (show a.sh.length = tu.length by rw [hul]; exact HAL.out)
  have HKU := Lib.hid (show kk < tu.length by rw [hul]; exact HKK.out)
  obtain ⟨X, hX⟩ : ∃ X, X = (spread m kk a).da := ⟨_, rfl⟩
  have HX := Lib.hid hX
  have HOK := Lib.hid (show Ok (spread m kk a) tu by rw [hu]; exact spread_ok HT.out HKK.out (by rw [← HC.out, HCM.out, HMM.out]) (by rw [← hu]; exact HGU.out))
  obtain ⟨N, hN⟩ : ∃ N, N = prod tu := ⟨_, rfl⟩
  have HN := Lib.hid hN
  have hN4 : N ≤ 4096 := by rw [hN]; exact HGU.out.2.2
  have HXL := Lib.hid (show X.length = N by rw [hX, hN]; exact HOK.out.len)
  obtain ⟨fx, hfx⟩ : ∃ fx : Int, fx = if a.ch then 32 else 0 := ⟨_, rfl⟩
  have HFX := Lib.hid hfx
  clear c4 hu hul hui hX hN hfx HKE3 q0 q1 q2 qf
  obtain ⟨t0, t1, t2⟩ := bA3.three
  have lA := bA3.lt
  go_wp2_with fail
  have HI1 := Lib.hid (show Box _ _ _ _ from Box.new wP 24 #[.bool a.ch, .slice (some ⟨ms, 0, none⟩) a.sh.length a.sh.length, .slice none 0 0])
  obtain ⟨g, hg⟩ : ∃ g, g = wP.heap.size := ⟨_, rfl⟩
  obtain ⟨W2, hW2⟩ : ∃ W2, W2 = wP.alloc (.cells #[.bool a.ch, .slice (some ⟨ms, 0, none⟩) a.sh.length a.sh.length, .slice none 0 0] 24) := ⟨_, rfl⟩
  have HIW := Lib.hid (show Below wP.heap.size wP W2 by rw [hW2]; exact below_one _ _)
  have hzW2 : W2.heap.size = g + 1 := by rw [hW2, hg]; simp
  rw [← hW2, ← hg] at HI1 ⊢
  have HI3 := Lib.hid (show Row W2 ms (ints tu) from Box.below HRS.out HIW.out)
  have HGM := Lib.hid (show g ≠ ms by omega)
  have hgP : wP.heap.size ≤ g := by omega
  clear hW2 t0 t1 t2 lA
  have bA := bA3.below HIW.out
  have lA := bA.lt
  have hb23 := hbw3.trans (HIW.out.mono hbw3.size)
  refine (cells_ok _ tu _ (HRI.out.mono HIW.out) HGU.out).mono ?_
  rintro e w4 ⟨rfl, rfl⟩
  rw [← HN.out]
  clear hg hb23
  go_wp2_with fail
  go_loopw [12] (fun sI wr => ∃ (k : Nat) (A4 : Option Addr) (c4 : Nat), k ≤ N ∧ sI = .int .i64 k ∧ Box wr g 24 #[.bool a.ch, .slice (some ⟨ms, 0, none⟩) a.sh.length a.sh.length, .slice A4 k c4] ∧ Owns wr W2.heap.size (.slice A4 k c4) k (X.take k) ∧ Row wr ms (ints tu) ∧ Below wP.heap.size wP wr ∧ W2.heap.size ≤ wr.heap.size) (fun sI _ => N - (intOf sI).toNat)
  case atStart => exact ⟨0, none, 0, Nat.zero_le _, rfl, HI1.out, Owns.nil _ _, HI3.out, HIW.out, Nat.le_refl _⟩
  case round =>
    obtain ⟨k, A4, c4, hk, rfl, h1, h2, h3, hbl, hws⟩ := hrel
    have hlo := h1.lt
    have hlm := Box.lt h3
    rcases Nat.lt_or_ge k N with hlt | hge
    · have HPT := Lib.hid (show k < prod tu by rw [← HN.out]; exact hlt)
      have hz := hbl.size
      have HH1 := Lib.hid h1
      have HH2 := Lib.hid h2
      have HH3 := Lib.hid h3
      have HBL := Lib.hid hbl
      have HSL := Lib.hid (h3.isInts (n := a.sh.length) (by rw [length_ints]; exact HUL.out) (by omega))
      clear h1 h2 h3 hbl
      go_wp2_with fail
      have hco := coords_ok _ tu k _ HSL.out HGU.out.1 HGU.out.2.1 HPT.out (by omega)
      rw [show tu.length = t.length by rw [← HUL.out, HAL.out]] at hco
      refine hco.mono ?_
      clear hco
      rintro e w5 ⟨g5, rfl, hg5, hr5, hb5⟩
      have hbl5 := HBL.out.trans (hb5.mono HBL.out.size)
      have h15 := HH1.out.below hb5
      have h25 := HH2.out.below hb5
      have h35 : Row w5 ms (ints tu) := Box.below HH3.out hb5
      have hs5 := hb5.size
      have hl5 := Box.lt hr5
      have hku : kk < tu.length := HKU.out
      have hkt : kk < t.length := HKK.out
      have hcl := coords_lt HPT.out hku
      have hc1 := hr5.at_ (show (ints (coords tu k))[kk]? = some (((coords tu k).getD kk 0 : Nat) : Int) from ints_get (by rw [length_coords]; exact hku))
      obtain ⟨Q, hQ⟩ : ∃ Q, Q = (coords tu k).getD kk 0 := ⟨_, rfl⟩
      rw [← hQ] at hc1 hcl
      have hQm : Q < m.length := by have h := hcl; rw [HUE.out, getD_set hkt] at h; exact h
      have hm4 : m.length ≤ 4096 := by have h := HGU.out.2.1 (tu.getD kk 0) (by rw [List.getD_eq_getElem?_getD, List.getElem?_eq_getElem hku]; exact List.getElem_mem _); rwa [HUE.out, getD_set hkt] at h
      have hbw5 := hbw3.trans (hbl5.mono hbw3.size)
      obtain ⟨am, x0, rfl, hx0, ham, hcm⟩ := Elems.later HME.out hbw5 hQm
      have hsp := spread_at (m := m) (k := kk) HT.out (show k < prod (t.set kk m.length) by rw [← HUE.out]; exact HPT.out)
      rw [← HUE.out, ← hQ, ← HX.out] at hsp
      have HQ := Lib.hid hQ
      have HX0 := Lib.hid hx0
      have HSP := Lib.hid hsp
      have hf5 := Box.frozen hr5 kk
      have HR5 := Lib.hid hr5
      have hx01 := HMK.out x0 (List.mem_of_getElem? hx0)
      have lA5 := (bA3.below hbl5).lt
      obtain ⟨t0, t1, t2⟩ := (bA3.below hbl5).three
      clear hQ hx0 hsp hr5 hcl hb5
      by_cases hz0 : x0 = 0
      · have e5 : (x0 == 0) = true := by simp [hz0]
        have HXK := Lib.hid (show X[k]? = some fx by rw [HSP.out, HX0.out, hz0, if_neg (by decide), HFX.out]; unfold fillOf; rfl)
        clear hz0 hx01
        obtain ⟨wo, rfl⟩ : ∃ W, W = w5 := ⟨_, rfl⟩
        have h1 := h15
        have h2 := h25
        have h3 := h35
        have hbl := hbl5
        have HAA := Lib.hid (HA.out.mono hbw5)
        obtain ⟨g0, g1, g2⟩ := h1.three
        have hlo2 := h1.lt
        go_wp2_with fail
        refine wp_region_gate 5 2 (fun i v lo hi w' => match i with
            | 0 => v = .pointer (some ⟨g, 2, none⟩)
            | 1 => v = .slice A4 k c4
            | 2 => v = .agg #[.bool a.ch, .slice (some as_) a.sh.length ca, .slice D a.da.length cd]
            | 3 => v = .int .i64 fx
            | 4 => ∃ m, v = .slice (some ⟨m, 0, none⟩) 1 1 ∧ Elems w' (some ⟨m, 0, none⟩) [fx]
            | _ => True) (by kernel_rfl) (by kernel_rfl) (by kernel_rfl) ?hV ?step ?last
        case hV =>
          intro i v lo hi w1 w2 h hb
          match i, h with
          | 0, h => exact h
          | 1, h => exact h
          | 2, h => exact h
          | 3, h => exact h
          | 4, ⟨m, e, hel⟩ => exact ⟨m, e, hel.mono hb⟩
          | i + 5, _ => trivial
        case step =>
          simp only [List.take_succ_cons, List.take_zero, putAll, Act.put, List.setIfInBounds_toArray, List.set_cons_zero, List.set_cons_succ, Nat.reduceAdd, Nat.zero_add]
          intro i o ho hi u lo up wr hbr hd hj K hK
          obtain ⟨hcw, hfw⟩ := bcell hbr
          match i, ho with
          | 0, ho =>
            simp only [List.getElem?_cons_zero, Option.some.injEq] at ho
            subst ho
            simp only [Act.put, List.setIfInBounds_toArray, List.set_cons_zero, List.set_cons_succ] at hK
            first | (simp [Region.binds] at hd; simp only [hd] at hK) | skip
            refine wpOp_step rfl fun K' hK' => ?_
            go_simp
            exact hK' _ _ (hK _ _ (Below.refl _ _) rfl)
          | 1, ho =>
            simp only [List.getElem?_cons_succ, List.getElem?_cons_zero, Option.some.injEq] at ho
            subst ho
            simp only [Act.put, List.setIfInBounds_toArray, List.set_cons_zero, List.set_cons_succ] at hK
            first | (simp [Region.binds] at hd; simp only [hd] at hK) | skip
            refine wpOp_step rfl fun K' hK' => ?_
            go_simp
            exact hK' _ _ (hK _ _ (Below.refl _ _) rfl)
          | 2, ho =>
            simp only [List.getElem?_cons_succ, List.getElem?_cons_zero, Option.some.injEq] at ho
            subst ho
            simp only [Act.put, List.setIfInBounds_toArray, List.set_cons_zero, List.set_cons_succ] at hK
            first | (simp [Region.binds] at hd; simp only [hd] at hK) | skip
            refine wpOp_step rfl fun K' hK' => ?_
            go_simp
            exact hK' _ _ (hK _ _ (Below.refl _ _) rfl)
          | 3, ho =>
            simp only [List.getElem?_cons_succ, List.getElem?_cons_zero, Option.some.injEq] at ho
            subst ho
            simp only [Act.put, List.setIfInBounds_toArray, List.set_cons_zero, List.set_cons_succ] at hK
            have h2' : u 2 = .agg #[.bool a.ch, .slice (some as_) a.sh.length ca, .slice D a.da.length cd] := hd ⟨2, .data⟩ (by simp) rfl
            simp only [h2'] at hK
            refine wpOp_step rfl fun K' hK' => ?_
            go_simp
            refine (fillR_any (HAA.out.mono hbr)).mono ?_
            rintro e w6 ⟨rfl, hb6⟩
            rw [← HFX.out]
            exact hK' _ _ (hK _ _ hb6 rfl)
          | 4, ho =>
            simp only [List.getElem?_cons_succ, List.getElem?_cons_zero, Option.some.injEq] at ho
            subst ho
            simp only [Act.put, List.setIfInBounds_toArray, List.set_cons_zero, List.set_cons_succ] at hK
            have hX : u 3 = .int .i64 (fx) := hd ⟨3, .data⟩ (by simp) rfl
            simp only [hX] at hK
            refine wpOp_step rfl fun K' hK' => ?_
            go_simp
            exact hK' _ _ (hK _ _ (below_one _ _) ⟨_, rfl, elems_new _ _⟩)
          | i + 5, ho => omega
        case last =>
          simp only [List.take_succ_cons, List.take_zero, putAll, Act.put, List.setIfInBounds_toArray, List.set_cons_zero, List.set_cons_succ, Nat.reduceAdd, Nat.zero_add]
          intro u wr lo up hbr hv hj
          obtain ⟨m0, eb, hel⟩ := hv 4 (by omega)
          have e1 : u 1 = .slice A4 k c4 := hv 1 (by omega)
          have hzr := hbr.size
          have hne := (h2.below hbr).ne_box (h1.below hbr) (by decide)
          simp only [eb, e1]
          clear hv hj eb e1
          unfold tailWp
          refine wpOp_step rfl fun K' hK' => ?_
          refine step_append_ints _ rfl rfl _ _ (by rfl) (W2.heap.size) k _ (X.take k) (by rfl) (h2.below hbr) (some ⟨m0, 0, none⟩) 1 1 [fx] (by rfl) (fun e => by cases e) hel rfl (by omega) (by omega) ?_
          intro A5 c5 w5 hown5 hgrow5 hat5
          refine hK' _ _ ?_
          clear hK'
          have b5 := (h1.below hbr).grown hgrow5 hne
          have hc5 := b5.three.2.2
          have hf5 := b5.frozen 2
          have hl5 := b5.lt
          unfold tailWp
          refine wpOp_step rfl fun K' hK' => ?_
          go_simp
          refine hK' _ _ ?_
          clear hK'
          unfold tailWp
          refine wpOp_step rfl fun K' hK' => ?_
          go_simp
          refine hK' _ _ ?_
          clear hK'
          have hblr := hbl.trans (hbr.mono hbl.size)
          have hbl5 := (hblr.grown hgrow5 hblr.size (fun j e => by have := (h2.lt e).1; omega)).setCell (p := ⟨g, 2, none⟩) (by first | (simp; done) | (simp; omega)) (.slice A5 (k + 1) c5)
          have b6 := b5.store 2 (.slice A5 (k + 1) c5)
          have h6 := hown5.setCell (p := ⟨g, 2, none⟩) (hown5.ne_box b5 (by decide)) (.slice A5 (k + 1) c5)
          simp only [List.setIfInBounds_toArray, List.set_cons_zero, List.set_cons_succ] at b6
          have hsz7 := hgrow5.size
          have h37 : Row _ ms (ints tu) := Box.far (Box.grown (Box.below h3 hbr) hgrow5 (h2.ne_low (by omega))) (p := ⟨g, 2, none⟩) (by simp; omega) (.slice A5 (k + 1) c5)
          clear hc5 hf5 b5 hown5 hgrow5
          go_wp2_with fail
          go_roundw
          case rel => exact ⟨k + 1, A5, c5, by omega, by go_num, b6, by rw [← take_at HXK.out]; exact h6, h37, hbl5, by simp; omega⟩
          case measure => simp [intOf]; omega
      · have e5 : (x0 == 0) = false := by simp [hz0]
        have hx1 : x0 = 1 := by omega
        have HX1 := Lib.hid (show m[Q]? = some 1 by rw [HX0.out, hx1])
        clear hz0 hx01 hx1
        have HMT := Lib.hid (show IsInts w5 (.slice (some am) Q cb) (m.take Q) from IsInts.front (HMI.out.mono hbw5) (by omega))
        have HMKT := Lib.hid (show Mask (m.take Q) from fun y hy => HMK.out y (List.mem_of_mem_take hy))
        have hQ4 : Q ≤ cb := by have := HB1.out; omega
        go_wp2_with fail
        refine (rsum_ok _ (m.take Q) _ HMT.out HMKT.out).mono ?_
        rintro e w6 ⟨rfl, rfl⟩
        obtain ⟨F, hF⟩ : ∃ F, F = cnt (m.take Q) (m.take Q).length := ⟨_, rfl⟩
        rw [← hF]
        have HF := Lib.hid (show F = cnt m Q by rw [hF]; unfold cnt; rw [List.take_length])
        have hFM : F < M := by rw [HF.out, ← HCM.out, HC.out]; exact cnt_lt HX1.out
        have hst := HR5.out.store kk (F : Int)
        rw [ints_set] at hst
        have HST := Lib.hid hst
        clear hF hst
        go_wp2_with fail
        obtain ⟨ix, hix⟩ : ∃ ix, ix = (coords tu k).set kk F := ⟨_, rfl⟩
        obtain ⟨wo, hwo⟩ : ∃ W, W = w5.setCell ⟨g5, kk, none⟩ (.int .i64 (F : Int)) := ⟨_, rfl⟩
        have h1 : Box wo g 24 #[.bool a.ch, .slice (some ⟨ms, 0, none⟩) a.sh.length a.sh.length, .slice A4 k c4] := by rw [hwo]; exact h15.far (p := ⟨g5, kk, none⟩) (by simp; omega) _
        have h2 : Owns wo W2.heap.size (.slice A4 k c4) k (X.take k) := by rw [hwo]; exact h25.setCell (p := ⟨g5, kk, none⟩) (fun e => by have := (HH2.out.lt e).2; simp at this; omega) _
        have h3 : Row wo ms (ints tu) := by rw [hwo]; exact Box.far h35 (p := ⟨g5, kk, none⟩) (by simp; omega) _
        have hbl : Below wP.heap.size wP wo := by rw [hwo]; exact hbl5.setCell (p := ⟨g5, kk, none⟩) (by simp; omega) _
        have hs7 : wr.heap.size ≤ wo.heap.size := by rw [hwo]; simp; omega
        have hrx : Row wo g5 (ints ix) := by rw [hwo, hix]; exact HST.out
        rw [← hwo]
        have hwz : W2.heap.size ≤ wo.heap.size := by omega
        have hg5o : g5 < wo.heap.size := Box.lt hrx
        have HAT := Lib.hid (hrx.isInts (n := t.length) (by rw [length_ints, hix, List.length_set, length_coords, ← HUL.out, HAL.out]) (by have := HT.out.good.1; omega))
        have hinside : Inside t ix := by
          rw [hix]
          exact inside_to (l := m.length) (by rw [← HUE.out]; exact coords_inside HPT.out) (by rw [← HMM.out]; exact hFM)
        have HIX := Lib.hid hinside
        obtain ⟨P, hP⟩ : ∃ P, P = place t ix := ⟨_, rfl⟩
        have HPP := Lib.hid hP
        have hPl : P < a.da.length := by rw [hP, HT.out.len]; exact place_lt hinside
        have hbwo := hbw3.trans (hbl.mono hbw3.size)
        obtain ⟨ad, x, hax, hx, halx, hcx⟩ := Elems.later HD.out hbwo hPl
        subst hax
        have HXK := Lib.hid (show X[k]? = some x by
          rw [HSP.out, HX1.out, if_pos rfl, ← HF.out, ← hix, ← hx, hP]
          exact (cell_get HT.out hinside).symm)
        have HCX := Lib.hid (show ∀ wx, Below wo.heap.size wo wx → wx.cell? (ad.add P) = some (.int .i64 x) from fun wx h => (h.cell (p := ad.add P) (by rw [addr_block_add]; have := hbwo.size; omega)).trans hcx)
        have HSW := Lib.hid ((HS.out.mono hbwo).eq' HT.out.sh)
        have hz2 := hbl.size
        obtain ⟨g0, g1, g2⟩ := h1.three
        have hlo2 := h1.lt
        clear t0 t1 t2 lA5 h15 h25 h35 hbl5 hc1 hf5 hcm ham
        obtain ⟨t0, t1, t2⟩ := (bA3.below hbl).three
        have lA2 := (bA3.below hbl).lt
        clear hx hcx hP hinside hix hwo hrx
        go_wp2_with fail
        refine wp_region_gate 11 2 (fun i v lo hi w' => match i with
            | 0 => v = .pointer (some ⟨g, 2, none⟩)
            | 1 => v = .slice A4 k c4
            | 2 => v = .pointer (some ⟨w.heap.size, 2, none⟩)
            | 3 => v = .slice (some ad) a.da.length cd
            | 4 => v = .pointer (some ⟨w.heap.size, 1, none⟩)
            | 5 => v = .slice (some as_) a.sh.length ca
            | 6 => v = .slice (some ⟨g5, 0, none⟩) t.length t.length
            | 7 => v = .int .i64 (P : Nat)
            | 8 => v = .pointer (some (ad.add P))
            | 9 => v = .int .i64 x
            | 10 => ∃ m, v = .slice (some ⟨m, 0, none⟩) 1 1 ∧ Elems w' (some ⟨m, 0, none⟩) [x]
            | _ => True) (by kernel_rfl) (by kernel_rfl) (by kernel_rfl) ?hV ?step ?last
        case hV =>
          intro i v lo hi w1 w2 h hb
          match i, h with
          | 0, h => exact h
          | 1, h => exact h
          | 2, h => exact h
          | 3, h => exact h
          | 4, h => exact h
          | 5, h => exact h
          | 6, h => exact h
          | 7, h => exact h
          | 8, h => exact h
          | 9, h => exact h
          | 10, ⟨m, e, hel⟩ => exact ⟨m, e, hel.mono hb⟩
          | i + 11, _ => trivial
        case step =>
          simp only [List.take_succ_cons, List.take_zero, putAll, Act.put, List.setIfInBounds_toArray, List.set_cons_zero, List.set_cons_succ, Nat.reduceAdd, Nat.zero_add]
          intro i o ho hi u lo up wr hbr hd hj K hK
          obtain ⟨hcw, hfw⟩ := bcell hbr
          match i, ho with
          | 0, ho =>
            simp only [List.getElem?_cons_zero, Option.some.injEq] at ho
            subst ho
            simp only [Act.put, List.setIfInBounds_toArray, List.set_cons_zero, List.set_cons_succ] at hK
            first | (simp [Region.binds] at hd; simp only [hd] at hK) | skip
            refine wpOp_step rfl fun K' hK' => ?_
            go_simp
            exact hK' _ _ (hK _ _ (Below.refl _ _) rfl)
          | 1, ho =>
            simp only [List.getElem?_cons_succ, List.getElem?_cons_zero, Option.some.injEq] at ho
            subst ho
            simp only [Act.put, List.setIfInBounds_toArray, List.set_cons_zero, List.set_cons_succ] at hK
            first | (simp [Region.binds] at hd; simp only [hd] at hK) | skip
            refine wpOp_step rfl fun K' hK' => ?_
            go_simp
            exact hK' _ _ (hK _ _ (Below.refl _ _) rfl)
          | 2, ho =>
            simp only [List.getElem?_cons_succ, List.getElem?_cons_zero, Option.some.injEq] at ho
            subst ho
            simp only [Act.put, List.setIfInBounds_toArray, List.set_cons_zero, List.set_cons_succ] at hK
            first | (simp [Region.binds] at hd; simp only [hd] at hK) | skip
            refine wpOp_step rfl fun K' hK' => ?_
            go_simp
            exact hK' _ _ (hK _ _ (Below.refl _ _) rfl)
          | 3, ho =>
            simp only [List.getElem?_cons_succ, List.getElem?_cons_zero, Option.some.injEq] at ho
            subst ho
            simp only [Act.put, List.setIfInBounds_toArray, List.set_cons_zero, List.set_cons_succ] at hK
            first | (simp [Region.binds] at hd; simp only [hd] at hK) | skip
            refine wpOp_step rfl fun K' hK' => ?_
            go_simp
            exact hK' _ _ (hK _ _ (Below.refl _ _) rfl)
          | 4, ho =>
            simp only [List.getElem?_cons_succ, List.getElem?_cons_zero, Option.some.injEq] at ho
            subst ho
            simp only [Act.put, List.setIfInBounds_toArray, List.set_cons_zero, List.set_cons_succ] at hK
            first | (simp [Region.binds] at hd; simp only [hd] at hK) | skip
            refine wpOp_step rfl fun K' hK' => ?_
            go_simp
            exact hK' _ _ (hK _ _ (Below.refl _ _) rfl)
          | 5, ho =>
            simp only [List.getElem?_cons_succ, List.getElem?_cons_zero, Option.some.injEq] at ho
            subst ho
            simp only [Act.put, List.setIfInBounds_toArray, List.set_cons_zero, List.set_cons_succ] at hK
            first | (simp [Region.binds] at hd; simp only [hd] at hK) | skip
            refine wpOp_step rfl fun K' hK' => ?_
            go_simp
            exact hK' _ _ (hK _ _ (Below.refl _ _) rfl)
          | 6, ho =>
            simp only [List.getElem?_cons_succ, List.getElem?_cons_zero, Option.some.injEq] at ho
            subst ho
            simp only [Act.put, List.setIfInBounds_toArray, List.set_cons_zero, List.set_cons_succ] at hK
            first | (simp [Region.binds] at hd; simp only [hd] at hK) | skip
            refine wpOp_step rfl fun K' hK' => ?_
            go_simp
            exact hK' _ _ (hK _ _ (Below.refl _ _) rfl)
          | 7, ho =>
            simp only [List.getElem?_cons_succ, List.getElem?_cons_zero, Option.some.injEq] at ho
            subst ho
            simp only [Act.put, List.setIfInBounds_toArray, List.set_cons_zero, List.set_cons_succ] at hK
            have h5 : u 5 = .slice (some as_) a.sh.length ca := hd ⟨5, .data⟩ (by simp) rfl
            have h6 : u 6 = .slice (some ⟨g5, 0, none⟩) t.length t.length := hd ⟨6, .data⟩ (by simp) rfl
            simp only [h5, h6] at hK
            refine wpOp_step rfl fun K' hK' => ?_
            go_simp
            refine (where_ok _ _ t ix _ (HSW.out.mono hbr) (HAT.out.mono hbr) HIX.out HT.out.good.1 HT.out.good.2.2).mono ?_
            rintro e w6 ⟨rfl, rfl⟩
            rw [← HPP.out]
            exact hK' _ _ (hK _ _ (Below.refl _ _) rfl)
          | 8, ho =>
            simp only [List.getElem?_cons_succ, List.getElem?_cons_zero, Option.some.injEq] at ho
            subst ho
            simp only [Act.put, List.setIfInBounds_toArray, List.set_cons_zero, List.set_cons_succ] at hK
            first | (simp [Region.binds] at hd; simp only [hd] at hK) | skip
            refine wpOp_step rfl fun K' hK' => ?_
            go_simp
            exact hK' _ _ (hK _ _ (Below.refl _ _) rfl)
          | 9, ho =>
            simp only [List.getElem?_cons_succ, List.getElem?_cons_zero, Option.some.injEq] at ho
            subst ho
            simp only [Act.put, List.setIfInBounds_toArray, List.set_cons_zero, List.set_cons_succ] at hK
            have h8 : u 8 = .pointer (some (ad.add P)) := hd ⟨8, .data⟩ (by simp) rfl
            have hcr := HCX.out wr hbr
            simp only [h8] at hK
            refine wpOp_step rfl fun K' hK' => ?_
            go_simp
            exact hK' _ _ (hK _ _ (Below.refl _ _) rfl)
          | 10, ho =>
            simp only [List.getElem?_cons_succ, List.getElem?_cons_zero, Option.some.injEq] at ho
            subst ho
            simp only [Act.put, List.setIfInBounds_toArray, List.set_cons_zero, List.set_cons_succ] at hK
            have hX : u 9 = .int .i64 (x) := hd ⟨9, .data⟩ (by simp) rfl
            simp only [hX] at hK
            refine wpOp_step rfl fun K' hK' => ?_
            go_simp
            exact hK' _ _ (hK _ _ (below_one _ _) ⟨_, rfl, elems_new _ _⟩)
          | i + 11, ho => omega
        case last =>
          simp only [List.take_succ_cons, List.take_zero, putAll, Act.put, List.setIfInBounds_toArray, List.set_cons_zero, List.set_cons_succ, Nat.reduceAdd, Nat.zero_add]
          intro u wr lo up hbr hv hj
          obtain ⟨m0, eb, hel⟩ := hv 10 (by omega)
          have e1 : u 1 = .slice A4 k c4 := hv 1 (by omega)
          have hzr := hbr.size
          have hne := (h2.below hbr).ne_box (h1.below hbr) (by decide)
          simp only [eb, e1]
          clear hv hj eb e1
          unfold tailWp
          refine wpOp_step rfl fun K' hK' => ?_
          refine step_append_ints _ rfl rfl _ _ (by rfl) (W2.heap.size) k _ (X.take k) (by rfl) (h2.below hbr) (some ⟨m0, 0, none⟩) 1 1 [x] (by rfl) (fun e => by cases e) hel rfl (by omega) (by omega) ?_
          intro A5 c5 w5 hown5 hgrow5 hat5
          refine hK' _ _ ?_
          clear hK'
          have b5 := (h1.below hbr).grown hgrow5 hne
          have hc5 := b5.three.2.2
          have hf5 := b5.frozen 2
          have hl5 := b5.lt
          unfold tailWp
          refine wpOp_step rfl fun K' hK' => ?_
          go_simp
          refine hK' _ _ ?_
          clear hK'
          unfold tailWp
          refine wpOp_step rfl fun K' hK' => ?_
          go_simp
          refine hK' _ _ ?_
          clear hK'
          have hblr := hbl.trans (hbr.mono hbl.size)
          have hbl5 := (hblr.grown hgrow5 hblr.size (fun j e => by have := (h2.lt e).1; omega)).setCell (p := ⟨g, 2, none⟩) (by first | (simp; done) | (simp; omega)) (.slice A5 (k + 1) c5)
          have b6 := b5.store 2 (.slice A5 (k + 1) c5)
          have h6 := hown5.setCell (p := ⟨g, 2, none⟩) (hown5.ne_box b5 (by decide)) (.slice A5 (k + 1) c5)
          simp only [List.setIfInBounds_toArray, List.set_cons_zero, List.set_cons_succ] at b6
          have hsz7 := hgrow5.size
          have h37 : Row _ ms (ints tu) := Box.far (Box.grown (Box.below h3 hbr) hgrow5 (h2.ne_low (by omega))) (p := ⟨g, 2, none⟩) (by simp; omega) (.slice A5 (k + 1) c5)
          clear hc5 hf5 b5 hown5 hgrow5
          go_wp2_with fail
          go_roundw
          case rel => exact ⟨k + 1, A5, c5, by omega, by go_num, b6, by rw [← take_at HXK.out]; exact h6, h37, hbl5, by simp; omega⟩
          case measure => simp [intOf]; omega
    · have hke : k = N := by omega
      subst hke
      rw [List.take_of_length_le (by rw [HXL.out]; exact Nat.le_refl _)] at h2
      obtain ⟨g0, g1, g2⟩ := h1.three
      have b3 := bR3.below hbl
      have rf := b3.frozen
      obtain ⟨e0, e1, e2⟩ := b3.three
      have rl := b3.lt
      go_wp2_with fail
      have hgg := grownBy_three wr (w.heap.size + 1) (.bool a.ch) (.slice (some ⟨ms, 0, none⟩) a.sh.length a.sh.length) (.slice A4 k c4)
      have z := ((b3.store 0 (.bool a.ch)).store 1 (.slice (some ⟨ms, 0, none⟩) a.sh.length a.sh.length)).store 2 (.slice A4 k c4)
      simp only [List.setIfInBounds_toArray, List.set_cons_zero, List.set_cons_succ] at z
      obtain ⟨z0, z1, z2⟩ := z.three
      have zl := z.lt
      refine bodyPost_ret (v := .tuple #[.agg #[.bool a.ch, .slice (some ⟨ms, 0, none⟩) a.sh.length a.sh.length, .slice A4 k c4], .int .i64 0]) (by simp [results, Tryd.results10, go_sem, z0, z1, z2, zl]) rfl ?_
      have hgn : w.heap.size + 1 ≠ ms := by omega
      have iS : IsInts _ (.slice (some ⟨ms, 0, none⟩) a.sh.length a.sh.length) (ints tu) := (Box.grown h3 hgg (by intro e; injection e with e; exact hgn e) : Row _ ms (ints tu)).isInts (by rw [length_ints]; exact HUL.out) (by omega)
      have iD := (h2.kept hgg (.inr (h2.ne_low (by omega)))).isInts
      have hbx := hbw3.trans (hbl.mono hbw3.size)
      rw [Int.toNat_natCast]
      refine RTold.ok HE.out ?_ (hbx.grown hgg hbx.size (fun j e => by cases e; omega))
      exact ⟨_, _, rfl, by rw [HOK.out.sh]; exact iS, by rw [← HX.out]; exact iD⟩

end Go.Proofs.YtikjniibfomadaaDoor
