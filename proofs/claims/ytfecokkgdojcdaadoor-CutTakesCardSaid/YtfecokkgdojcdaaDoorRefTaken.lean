/- The walk of the reference's Taken. Conditions: none. -/
import Derived.Test.YtfecokkgdojcdaaDoorRefPart
import Derived.Test.YtfecokkgdojcdaaDoorTake
namespace Go.Proofs.YtfecokkgdojcdaaDoor
open Go Go.RowKit Go.Proofs.YtfecokkgdojcdaaDoor.P
theorem apart_ne {v v' : Value} (h : ApartV v v') : v.ownBlock = none ∨ v.ownBlock ≠ v'.ownBlock := by
  cases e : v.ownBlock with
  | none => exact .inl rfl
  | some m => exact .inr fun h2 => h m e h2.symm
theorem apart_next {w : World} {B b k : Nat} {v1 v2 v3 : Value} {xs : List Int} (hap : ApartV v1 v2) (h2 : Owns w B v2 k xs) (hb : w.heap.size ≤ b) (hat : v3.ownBlock = v1.ownBlock ∨ v3.ownBlock = some b) : ApartV v3 v2 := by
  intro m e1 e2
  rcases hat with h | h
  · rw [h] at e1; exact hap m e1 e2
  · rw [h] at e1
    injection e1 with e1
    have := (h2.lt e2).2
    omega
theorem apart_next' {w : World} {B b k : Nat} {v1 v2 v3 : Value} {xs : List Int} (hap : ApartV v1 v2) (h1 : Owns w B v1 k xs) (hb : w.heap.size ≤ b) (hat : v3.ownBlock = v2.ownBlock ∨ v3.ownBlock = some b) : ApartV v1 v3 :=
  (apart_next hap.symm h1 hb hat).symm

set_option maxRecDepth 100000 in
set_option maxHeartbeats 4000000 in
theorem taken_told {vn v : Value} {n : List Int} {a : Arr} {w : World} (hn : IsInts w vn n) (ha : IsArr w v a) :
    Calls Tryd.prog 33 #[vn, v] w (RTold (take n a) (takeErr n a) w) := by
  obtain ⟨A, ca, D, cd, rfl, hs, hd⟩ := ha.open_
  obtain ⟨B, cb, rfl, b1, b2, b3, EB, H1⟩ := hn.open_
  obtain ⟨A0, ca0, eA, a1, a2, a3, a0, a4⟩ := id hs
  cases eA
  have HA := Lib.hid ha
  have EA := Lib.hid (show Elems w A a.sh from a4)
  have EN := Lib.hid EB
  clear ha hs hd hn EB H1 a0 a4
  go_enter Tryd.func33, Tryd.ntmps33
  have z1 := (Box.new w 24 #[.bool a.ch, .slice A a.sh.length ca, .slice D a.da.length cd]).alloc (.cells #[.bool false, .slice none 0 0, .slice none 0 0] 24)
  have z3 := Box.new (w.alloc (.cells #[.bool a.ch, .slice A a.sh.length ca, .slice D a.da.length cd] 24)) 24 #[.bool false, .slice none 0 0, .slice none 0 0]
  simp only [World.size_alloc] at z3
  have hb0 := below_two w (.cells #[.bool a.ch, .slice A a.sh.length ca, .slice D a.da.length cd] 24) (.cells #[.bool false, .slice none 0 0, .slice none 0 0] 24)
  obtain ⟨t0, t1, t2⟩ := z1.three
  go_wp2_with fail
  refine (flaw_any (HA.out.mono hb0)).mono ?_
  rintro e w1 ⟨rfl, hb1⟩
  have bA := z1.below hb1
  have bR := z3.below hb1
  have hbw := hb0.trans (hb1.mono hb0.size)
  clear z1 z3 hb0 hb1 t0 t1 t2
  obtain ⟨q0, q1, q2⟩ := bR.three
  have qf := bR.frozen
  have hzR := bR.lt
  by_cases c1 : arrErr a = 0
  case neg =>
    have HE := Lib.hid (show takeErr n a = arrErr a by unfold takeErr; rw [if_pos c1])
    have HE0 := Lib.hid c1
    have e1 : (arrErr a != 0) = true := by simp [c1]
    clear c1
    go_wp2_with fail
    refine bodyPost_ret (v := .tuple #[zeroArr, .int .i64 (arrErr a)]) (by simp [results, Tryd.results33, go_sem, q0, q1, q2, hzR]) rfl ?_
    rw [HE.out]
    exact RTold.bad HE0.out (by have := hbw.size; go_grown)
  obtain ⟨t, ht⟩ := ok_of_arrErr c1
  have hsl : a.sh.length = t.length := by rw [ht.sh, length_ints]
  have HT := Lib.hid ht
  have HSL := Lib.hid hsl
  have ht6 := ht.good.1
  have HC1 := Lib.hid c1
  rw [c1]
  clear c1 ht hsl
  obtain ⟨t0, t1, t2⟩ := bA.three
  by_cases c2 : n.length = a.sh.length
  case neg =>
    have HE := Lib.hid (show takeErr n a = 4 by unfold takeErr; rw [if_neg (fun h => h HC1.out), if_pos c2])
    have c2' : ((n.length : Int) != (a.sh.length : Int)) = true := by simp; omega
    clear c2
    go_wp2_with fail
    refine bodyPost_ret (v := .tuple #[zeroArr, .int .i64 4]) (by simp [results, Tryd.results33, go_sem, q0, q1, q2, hzR]) rfl ?_
    rw [HE.out]
    exact RTold.bad (by decide) (by have := hbw.size; go_grown)
  have c2' : ((n.length : Int) != (a.sh.length : Int)) = false := by simp; omega
  have C2 := Lib.hid c2
  have hn6 : n.length ≤ 6 := by have := HSL.out; omega
  obtain ⟨S, hSe⟩ : ∃ S : List Int, S = ints (takeSh n) := ⟨_, rfl⟩
  obtain ⟨F, hFe⟩ : ∃ F : List Int, F = takeFr n t := ⟨_, rfl⟩
  have HSE := Lib.hid hSe
  have HFE := Lib.hid hFe
  have HLS := Lib.hid (show S.length = n.length by rw [hSe, length_ints, takeSh_length])
  have HLF := Lib.hid (show F.length = n.length by rw [hFe, takeFr_length, c2, HSL.out]; simp)
  clear c2 q0 q1 q2 qf hzR hSe hFe
  have hzA := bA.lt
  have hzW := hbw.size
  go_wp2_with fail
  clear t0 t1 t2
  go_loopw [7, 8, 9] (fun s7 s8 s9 wr => ∃ (k : Nat) (A1 A2 : Option Addr) (c1 c2 : Nat), k ≤ n.length ∧ s9 = .int .i64 k ∧ s7 = .slice A1 k c1 ∧ s8 = .slice A2 k c2 ∧ (∀ j m, j < k → n[j]? = some m → -4096 ≤ m ∧ m ≤ 4096) ∧ Owns wr w1.heap.size (.slice A1 k c1) k (S.take k) ∧ Owns wr w1.heap.size (.slice A2 k c2) k (F.take k) ∧ ApartV (.slice A1 k c1) (.slice A2 k c2) ∧ Below w1.heap.size w1 wr) (fun _ _ s9 _ => n.length - (intOf s9).toNat)
  case atStart => exact ⟨0, none, none, 0, 0, Nat.zero_le _, rfl, rfl, rfl, (fun j m h => by omega), Owns.nil _ _, Owns.nil _ _, (fun m h => by cases h), Below.refl _ _⟩
  case round =>
    obtain ⟨k, A1, A2, c1, c2, hk, rfl, rfl, rfl, hin, o1, o2, hap, hbl⟩ := hrel
    have HIN := Lib.hid hin
    clear hin
    rcases Nat.lt_or_ge k n.length with hlt | hge
    · obtain ⟨ad, m, rfl, hm, hal, hcm0⟩ := Elems.at_ EN.out hlt
      obtain ⟨ae, y, rfl, hy, hae, hcy0⟩ := Elems.at_ EA.out (k := k) (by rw [← C2.out]; exact hlt)
      rw [HT.out.sh] at hy
      obtain ⟨rfl, hkt⟩ := ints_getD hy
      have hY4 : t.getD k 0 ≤ 4096 := by rw [getD_lt hkt]; exact HT.out.good.2.1 _ (List.getElem_mem _)
      obtain ⟨Y, hY⟩ : ∃ Y, Y = t.getD k 0 := ⟨_, rfl⟩
      rw [← hY] at hcy0 hY4
      have HCM := Lib.hid (show ∀ wx, Below w1.heap.size w1 wx → wx.cell? (ad.add k) = some (.int .i64 m) from fun wx h => ((hbw.trans (h.mono hbw.size)).cell (p := ad.add k) (by rw [addr_block_add]; exact hal)).trans hcm0)
      have HCY := Lib.hid (show ∀ wx, Below w1.heap.size w1 wx → wx.cell? (ae.add k) = some (.int .i64 Y) from fun wx h => ((hbw.trans (h.mono hbw.size)).cell (p := ae.add k) (by rw [addr_block_add]; exact hae)).trans hcy0)
      have HM := Lib.hid hm
      have HY := Lib.hid hY
      have hcm := HCM.out wr hbl
      have hcy := HCY.out wr hbl
      have hkA : k < a.sh.length := by rw [← C2.out]; exact hlt
      obtain ⟨t0, t1, t2⟩ := (bA.below hbl).three
      have lA2 := (bA.below hbl).lt
      have O1 := Lib.hid o1
      have O2 := Lib.hid o2
      have HAP := Lib.hid hap
      have HBL := Lib.hid hbl
      clear o1 o2 hap hm hy hY hcm0 hcy0
      rcases Int.lt_or_le 4096 m with h1 | h1
      · have d1 : decide ((4096 : Int) < m) = true := by simpa using h1
        have HE := Lib.hid (show takeErr n a = 7 by
          unfold takeErr
          rw [if_neg (fun h => h HC1.out), if_neg (by have := C2.out; omega), if_pos ⟨m, List.mem_of_getElem? HM.out, .inl h1⟩])
        obtain ⟨q0, q1, q2⟩ := (bR.below hbl).three
        have qf := (bR.below hbl).frozen
        have hzR := (bR.below hbl).lt
        go_wp2_with fail
        refine bodyPost_ret (v := .tuple #[zeroArr, .int .i64 7]) (by simp [results, Tryd.results33, go_sem, q0, q1, q2, hzR]) rfl ?_
        rw [HE.out]
        exact RTold.bad (by decide) (by have h := hbw.trans (hbl.mono hbw.size); have := h.size; go_grown)
      have d1 : decide ((4096 : Int) < m) = false := by simp; omega
      rcases Int.lt_or_le m (-4096) with h2 | h2
      · have d2 : decide (m < (-4096 : Int)) = true := by simpa using h2
        have HE := Lib.hid (show takeErr n a = 7 by
          unfold takeErr
          rw [if_neg (fun h => h HC1.out), if_neg (by have := C2.out; omega), if_pos ⟨m, List.mem_of_getElem? HM.out, .inr h2⟩])
        obtain ⟨q0, q1, q2⟩ := (bR.below hbl).three
        have qf := (bR.below hbl).frozen
        have hzR := (bR.below hbl).lt
        go_wp2_with fail
        refine bodyPost_ret (v := .tuple #[zeroArr, .int .i64 7]) (by simp [results, Tryd.results33, go_sem, q0, q1, q2, hzR]) rfl ?_
        rw [HE.out]
        exact RTold.bad (by decide) (by have h := hbw.trans (hbl.mono hbw.size); have := h.size; go_grown)
      have d2 : decide (m < (-4096 : Int)) = false := by simp; omega
      have HIN2 := Lib.hid (show ∀ j x, j < k + 1 → n[j]? = some x → -4096 ≤ x ∧ x ≤ 4096 from by
        intro j x hj hx
        by_cases e : j = k
        · subst e
          rw [HM.out] at hx
          injection hx with hx
          subst hx
          exact ⟨h2, h1⟩
        · exact HIN.out j x (by omega) hx)
      have hS : S[k]? = some (max m (-m)) := by rw [HSE.out]; exact takeSh_at HM.out
      have hF : F[k]? = some (if m < 0 then (Y : Int) + m else 0) := by rw [HFE.out, HY.out]; exact takeFr_at HM.out hkt
      rcases Int.lt_or_le m 0 with h3 | h3
      · have d3 : decide ((0 : Int) ≤ m) = false := by simp; omega
        have HXK := Lib.hid (show S[k]? = some (-m) by rw [hS]; congr 1; omega)
        have HYK := Lib.hid (show F[k]? = some ((Y : Int) + m) by rw [hF, if_pos h3])
        have hw0 : IntKind.i64.wrap (-m) = -m := IntWalk.i64_in _ (by omega)
        have hw1 : IntKind.i64.wrap ((Y : Int) + m) = (Y : Int) + m := IntWalk.i64_in _ (by omega)
        clear hS hF
        have o1 := O1.out
        have o2 := O2.out
        have hap := HAP.out
        have hbl := HBL.out
        go_wp2_with (at_builtin; refine wpList_append_ints _ rfl rfl _ _ rfl w1.heap.size k (.slice A1 k c1) (S.take k) rfl (o1.alloc _) (some ⟨wr.heap.size, 0, none⟩) 1 1 [-m] rfl (by simp) (elems_new wr (-m)) rfl (by omega) (by have := hbl.size; simp; omega) ?_; intro A3 c3 w3 hown3 hgrow3 hat3; have hb3 : Below w1.heap.size w1 w3 := (hbl.alloc hbl.size _).grown hgrow3 (by have := hbl.size; simp; omega) (fun _ e => (o1.lt e).1); have hcm3 := HCM.out w3 hb3; have hcy3 := HCY.out w3 hb3; obtain ⟨s0, s1, s2⟩ := (bA.below hb3).three; have lA3 := (bA.below hb3).lt)
        have p2 : Owns w3 w1.heap.size (.slice A2 k c2) k (F.take k) := (o2.alloc _).kept hgrow3 (apart_ne hap.symm)
        have hap3 : ApartV (.slice A3 (k + 1) c3) (.slice A2 k c2) := apart_next hap o2 (by simp) hat3
        rw [take_at HXK.out] at hown3
        have P1 := Lib.hid hown3
        have P2 := Lib.hid p2
        have HAP3 := Lib.hid hap3
        have HB3 := Lib.hid hb3
        have hz3 := hb3.size
        clear o1 o2 hap hown3 hgrow3 hat3 p2 hap3
        go_wp2_with fail
        go_region_law
          ((refine step_append_ints _ rfl rfl _ _ (by rfl) w1.heap.size k (.slice A2 k c2) (F.take k) (by rfl) ((P2.out.alloc _).drew) (some ⟨w3.heap.size, 0, none⟩) 1 1 [(Y : Int) + m] (by rfl) (by simp) (elems_new w3 ((Y : Int) + m)) rfl (by omega) (by simp; omega) ?_; intro A4 c4 w4 hown4 hgrow4 hat4))
        all_goals
          have hb4 : Below w1.heap.size w1 w4 := ((HB3.out.alloc HB3.out.size _).drew).grown hgrow4 (by simp; omega) (fun _ e => (P2.out.lt e).1)
          have r1 : Owns w4 w1.heap.size (.slice A3 (k + 1) c3) (k + 1) (S.take (k + 1)) := ((P1.out.alloc _).drew).kept hgrow4 (apart_ne HAP3.out)
          have hap4 : ApartV (.slice A3 (k + 1) c3) (.slice A4 (k + 1) c4) := apart_next' HAP3.out P1.out (by simp) hat4
          rw [take_at HYK.out] at hown4
          go_wp2_with fail
          go_roundw
          case rel => exact ⟨k + 1, A3, A4, c3, c4, by omega, by go_num, rfl, rfl, HIN2.out, r1, hown4, hap4, hb4⟩
          case measure => simp [intOf]; omega
      · have d3 : decide ((0 : Int) ≤ m) = true := by simpa using h3
        have HXK := Lib.hid (show S[k]? = some m by rw [hS]; congr 1; omega)
        have HYK := Lib.hid (show F[k]? = some 0 by rw [hF, if_neg (by omega)])
        clear hS hF
        have o1 := O1.out
        have o2 := O2.out
        have hap := HAP.out
        have hbl := HBL.out
        go_wp2_with (at_builtin; first | (refine wpList_append_ints _ rfl rfl _ _ rfl w1.heap.size k (.slice A1 k c1) (S.take k) rfl (o1.alloc _) (some ⟨wr.heap.size, 0, none⟩) 1 1 [m] rfl (by simp) (elems_new wr (m)) rfl (by omega) (by have := hbl.size; simp; omega) ?_; intro A3 c3 w3 hown3 hgrow3 hat3; have hb3 : Below w1.heap.size w1 w3 := (hbl.alloc hbl.size _).grown hgrow3 (by have := hbl.size; simp; omega) (fun _ e => (o1.lt e).1); have hz3 := hb3.size; have p2 : Owns w3 w1.heap.size (.slice A2 k c2) k (F.take k) := (o2.alloc _).kept hgrow3 (apart_ne hap.symm)) | (refine wpList_append_ints _ rfl rfl _ _ rfl w1.heap.size k (.slice A2 k c2) (F.take k) rfl (p2.alloc _) (some ⟨w3.heap.size, 0, none⟩) 1 1 [0] rfl (by simp) (elems_new w3 (0)) rfl (by omega) (by simp; omega) ?_; intro A4 c4 w4 hown4 hgrow4 hat4))
        have hap3 : ApartV (.slice A3 (k + 1) c3) (.slice A2 k c2) := apart_next hap o2 (by simp) hat3
        have hb4 : Below w1.heap.size w1 w4 := (hb3.alloc hb3.size _).grown hgrow4 (by simp; omega) (fun _ e => (p2.lt e).1)
        have r1 : Owns w4 w1.heap.size (.slice A3 (k + 1) c3) (k + 1) (S.take k ++ [m]) := (hown3.alloc _).kept hgrow4 (apart_ne hap3)
        have hap4 : ApartV (.slice A3 (k + 1) c3) (.slice A4 (k + 1) c4) := apart_next' hap3 hown3 (by simp) hat4
        rw [take_at HYK.out] at hown4
        rw [take_at HXK.out] at r1
        go_roundw
        case rel => exact ⟨k + 1, A3, A4, c3, c4, by omega, by go_num, rfl, rfl, HIN2.out, r1, hown4, hap4, hb4⟩
        case measure => simp [intOf]; omega
    · obtain rfl : k = n.length := by omega
      rw [List.take_of_length_le (by rw [HLS.out]; exact Nat.le_refl _)] at o1
      rw [List.take_of_length_le (by rw [HLF.out]; exact Nat.le_refl _)] at o2
      have iS := o1.isInts
      have iF := o2.isInts
      have hbw2 := hbw.trans (hbl.mono hbw.size)
      clear o1 o2 hap
      have hfar : ¬ takeFar n := by
        rintro ⟨m, hm, hc⟩
        obtain ⟨j, hj⟩ := List.getElem?_of_mem hm
        have := HIN.out j m (List.getElem?_eq_some_iff.1 hj).1 hj
        omega
      have HE1 := Lib.hid (show takeErr n a = cntErr S by
        unfold takeErr
        rw [if_neg (fun h => h HC1.out), if_neg (by have := C2.out; omega), if_neg hfar, HSE.out])
      clear hfar
      go_wp2_with fail
      refine (fault_any _ S _ (by have h := iS; exact h)).mono ?_
      rintro e w2 ⟨rfl, rfl⟩
      by_cases c4 : cntErr S = 0
      case neg =>
        have HE0 := Lib.hid c4
        have e1 : (cntErr S != 0) = true := by simp [c4]
        clear c4
        obtain ⟨q0, q1, q2⟩ := (bR.below hbl).three
        have qf := (bR.below hbl).frozen
        have hzR := (bR.below hbl).lt
        go_wp2_with fail
        refine bodyPost_ret (v := .tuple #[zeroArr, .int .i64 (cntErr S)]) (by simp [results, Tryd.results33, go_sem, q0, q1, q2, hzR]) rfl ?_
        rw [HE1.out]
        exact RTold.bad HE0.out (by have := hbw2.size; go_grown)
      have HE := Lib.hid (show takeErr n a = 0 by rw [HE1.out]; exact c4)
      obtain ⟨u, hu, hg⟩ := cntErr_zero c4
      rw [HSE.out] at hu
      have hu := ints_inj hu
      subst hu
      have HG := Lib.hid hg
      rw [c4]
      clear c4 hg
      have HFB := Lib.hid (show ∀ (k : Nat) (f : Int), F[k]? = some f → -8192 ≤ f ∧ f ≤ 8192 from by
        intro k f hf
        have hkl := (List.getElem?_eq_some_iff.1 hf).1
        rw [HLF.out] at hkl
        have hkt : k < t.length := by rw [← HSL.out, ← C2.out]; exact hkl
        have hx : n[k]? = some n[k] := List.getElem?_eq_getElem hkl
        rw [HFE.out, takeFr_at hx hkt] at hf
        injection hf with hf
        have h1 := HIN.out k _ hkl hx
        have h2 : t.getD k 0 ≤ 4096 := by rw [getD_lt hkt]; exact HT.out.good.2.1 _ (List.getElem_mem _)
        split at hf <;> omega)
      obtain ⟨t0, t1, t2⟩ := (bA.below hbl).three
      have lA2 := (bA.below hbl).lt
      have hbz := hbl.size
      go_wp2_with fail
      refine (part_any (HA.out.mono hbw2) HT.out (s := takeSh n) (iS.eq' HSE.out) iF HG.out (by rw [takeSh_length, C2.out, HSL.out]) (by rw [HLF.out, C2.out, HSL.out]) HFB.out).mono ?_
      rintro e w3 ⟨r, rfl, hr, hb3⟩
      obtain ⟨A3, ca3, D3, cd3, rfl, hs3, hd3⟩ := hr.open_
      have bR3 := (bR.below hbl).below hb3
      obtain ⟨q0, q1, q2⟩ := bR3.three
      have fR3 := bR3.frozen
      have hz3 := bR3.lt
      have hbw3 := hbw2.trans (hb3.mono hbw2.size)
      clear hb3 hs3 hd3 t0 t1 t2 lA2
      have HTK := Lib.hid (show take n a = win F (takeSh n) a by unfold take; rw [HT.out.nsh_eq, HFE.out])
      go_wp2_with fail
      refine bodyPost_ret (v := .tuple #[.agg #[.bool (win F (takeSh n) a).ch, .slice A3 (win F (takeSh n) a).sh.length ca3, .slice D3 (win F (takeSh n) a).da.length cd3], .int .i64 0]) (by simp [results, Tryd.results33, go_sem, q0, q1, q2, hz3]) rfl ?_
      rw [HTK.out, HE.out]
      exact RTold.ok rfl (hr.laid bR3 _ _ _) (by have := hbw3.size; go_grown)

end Go.Proofs.YtfecokkgdojcdaaDoor
