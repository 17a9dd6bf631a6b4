/- The walk of the reference's Flipped. Conditions: none. -/
import Derived.Test.YtlkeipgpckkhbaaDoorRefFlaw
import Derived.Test.YtlkeipgpckkhbaaDoorRefAxed
import Derived.Test.YtlkeipgpckkhbaaDoorFlipWalk
import Derived.Test.YtlkeipgpckkhbaaDoorTail
import Derived.Test.YtlkeipgpckkhbaaDoorHelp
import Derived.Test.YtlkeipgpckkhbaaDoorFunnel
import Derived.RegionTactic
import Derived.BigQuiet
import Derived.Deep.RegionLaw
namespace Go.Proofs.YtlkeipgpckkhbaaDoor
open Go Go.RowKit Go.Proofs.YtlkeipgpckkhbaaDoor.P
theorem ints_back (u : List Nat) : (ints u).map Int.toNat = u := by
  unfold ints
  rw [List.map_map]
  refine List.ext_getElem (by simp) fun i h1 h2 => ?_
  simp
theorem flip_at {a : Arr} {t q : List Nat} (h : Ok a t) {i : Nat} (hi : i < prod (flipSh q t)) : (flip q a).da[i]? = some (a.da.getD (place t (aft (coords (flipSh q t) i) q)) 0) := by
  unfold P.flip tab
  rw [h.nsh_eq]
  simp only [List.getElem?_map, List.getElem?_range hi, Option.map_some]
  unfold Arr.cell
  rw [h.nsh_eq]
theorem apart_low {v v' : Value} {g : Nat} (h : ∀ b, v.ownBlock = some b → b < g) (h' : ∀ b, v'.ownBlock = some b → g < b) : v.ownBlock = none ∨ v.ownBlock ≠ v'.ownBlock := by
  cases e : v.ownBlock with
  | none => exact .inl rfl
  | some b =>
    refine .inr fun e2 => ?_
    have h1 := h b e
    have h2 := h' b e2.symm
    omega

set_option maxRecDepth 100000 in
set_option maxHeartbeats 4000000 in
theorem flipped_told {vn v : Value} {n : List Int} {a : Arr} {w : World} (hn : IsInts w vn n) (ha : IsArr w v a) :
    Calls Tryd.prog 9 #[vn, v] w (RTold (flip (n.map Int.toNat) a) (flipErr n a) w) := by
  obtain ⟨A, ca, D, cd, rfl, hs, hd⟩ := ha.open_
  obtain ⟨B, cb, rfl, b1, b2, b3, EB, H1⟩ := hn.open_
  obtain ⟨A0, ca0, eA, a1, a2, a3, a0, a4⟩ := id hs
  cases eA
  have HA := Lib.hid ha
  have EA := Lib.hid (show Elems w A a.sh from a4)
  have HNI := Lib.hid H1
  have HSI := Lib.hid hs
  have HD := Lib.hid hd.elems
  clear ha hs hd hn EB H1 a0 a4
  go_enter Tryd.func9, Tryd.ntmps9
  have z1 := (Box.new w 24 #[.bool a.ch, .slice A a.sh.length ca, .slice D a.da.length cd]).alloc (.cells #[.bool false, .slice none 0 0, .slice none 0 0] 24)
  have z3 := Box.new (w.alloc (.cells #[.bool a.ch, .slice A a.sh.length ca, .slice D a.da.length cd] 24)) 24 #[.bool false, .slice none 0 0, .slice none 0 0]
  simp only [World.size_alloc] at z3
  have hb0 := below_two w (.cells #[.bool a.ch, .slice A a.sh.length ca, .slice D a.da.length cd] 24) (.cells #[.bool false, .slice none 0 0, .slice none 0 0] 24)
  obtain ⟨t0, t1, t2⟩ := z1.three
  go_wp2_with fail
  refine (flaw_any (HA.out.mono hb0)).mono ?_
  rintro e w1 ⟨rfl, hb1⟩
  have bA := z1.below hb1
  have bR := z3.below hb1
  have hbw := hb0.trans (hb1.mono hb0.size)
  clear z1 z3 hb0 hb1 t0 t1 t2
  obtain ⟨q0, q1, q2⟩ := bR.three
  have qf := bR.frozen
  have hzR := bR.lt
  by_cases c1 : arrErr a = 0
  case neg =>
    have HE := Lib.hid (show flipErr n a = arrErr a by unfold flipErr; rw [if_pos c1])
    have HE0 := Lib.hid c1
    have e1 : (arrErr a != 0) = true := by simp [c1]
    clear c1
    go_wp2_with fail
    refine bodyPost_ret (v := .tuple #[zeroArr, .int .i64 (arrErr a)]) (by simp [results, Tryd.results9, go_sem, q0, q1, q2, hzR]) rfl ?_
    rw [HE.out]
    exact RTold.bad HE0.out (by have := hbw.size; go_grown)
  obtain ⟨t, ht⟩ := ok_of_arrErr c1
  have HT := Lib.hid ht
  have HC1 := Lib.hid c1
  have ht6 := ht.good.1
  have hal4 : a.sh.length ≤ 6 := by rw [ht.sh, length_ints]; exact ht6
  rw [c1]
  clear c1
  obtain ⟨t0, t1, t2⟩ := bA.three
  have lA := bA.lt
  by_cases c2 : axesErr a.sh n = 0
  case neg =>
    have HE := Lib.hid (show flipErr n a = axesErr a.sh n by unfold flipErr; rw [if_neg (fun h => h HC1.out)])
    have HE0 := Lib.hid c2
    have e1 : (axesErr a.sh n != 0) = true := by simp [c2]
    clear c2 ht
    go_wp2_with fail
    refine (axed_bad (HSI.out.mono hbw) (HNI.out.mono hbw) HE0.out).mono ?_
    rintro e w2 ⟨rfl, rfl⟩
    go_wp2_with fail
    refine bodyPost_ret (v := .tuple #[zeroArr, .int .i64 (axesErr a.sh n)]) (by simp [results, Tryd.results9, go_sem, q0, q1, q2, hzR]) rfl ?_
    rw [HE.out]
    exact RTold.bad HE0.out (by have := hbw.size; go_grown)
  have HE := Lib.hid (show flipErr n a = 0 by unfold flipErr; rw [if_neg (fun h => h HC1.out)]; exact c2)
  obtain ⟨t', u, et, -, rfl, hu, hl⟩ := axesErr_zero c2
  have et2 : t' = t := ints_inj (et.symm.trans ht.sh)
  subst et2
  have htn : (ints u).map Int.toNat = u := ints_back u
  have HTN := Lib.hid htn
  have HU := Lib.hid hu
  have HL := Lib.hid hl
  have HALT := Lib.hid (show a.sh.length = t'.length by rw [et, length_ints])
  have HULT := Lib.hid (length_ints u)
  have HST := Lib.hid (show IsInts w (.slice A a.sh.length ca) (ints t') from HSI.out.eq' et)
  have hul6 : (ints u).length ≤ 6 := by rw [length_ints, hl]; exact ht6
  have hdl : a.da.length ≤ 4096 := by rw [ht.len]; exact ht.good.2.2
  obtain ⟨S, hS⟩ : ∃ S, S = flipSh u t' := ⟨_, rfl⟩
  have HS := Lib.hid hS
  have HSL := Lib.hid (show S.length = t'.length by rw [hS, flipSh_length, hl])
  have HSG := Lib.hid (show GoodSh S by rw [hS]; exact flipSh_good hu hl ht.good)
  obtain ⟨X, hX⟩ : ∃ X, X = (flip u a).da := ⟨_, rfl⟩
  have HX := Lib.hid hX
  have HPS := Lib.hid (show prod S = a.da.length by rw [hS, prod_perm (flipSh_perm hu hl), ht.len])
  have HXL := Lib.hid (show X.length = a.da.length by rw [hX, ← HPS.out, hS]; exact (flip_ok ht hu hl).len)
  have hmk := run_make_list t'.length (by omega)
  clear c2 et ht htn hu hl hS hX
  go_wp2_with fail
  refine (axed_ok (HST.out.mono hbw) (HNI.out.mono hbw) HT.out.good HU.out HL.out).mono ?_
  rintro e w2 ⟨A1, c1, rfl, hoS, hb2⟩
  rw [← HS.out] at hoS
  have hbw2 := hbw.trans (hb2.mono hbw.size)
  have bA2 := bA.below hb2
  have bR2 := bR.below hb2
  obtain ⟨wP, hwP⟩ : ∃ wP, wP = w2 := ⟨_, rfl⟩
  subst hwP
  have hz2 := hb2.size
  have hzW := hbw.size
  have HOS := Lib.hid hoS
  have HSB := Lib.hid (show ∀ b, (Value.slice A1 t'.length c1).ownBlock = some b → b < wP.heap.size from fun b e => (hoS.lt e).2)
  clear hoS q0 q1 q2 qf hzR t0 t1 t2 hb2 bA bR
  obtain ⟨t0, t1, t2⟩ := bA2.three
  have lA2 := bA2.lt
  go_wp2_with fail
  have i1 := Box.new wP 24 #[.bool a.ch, .slice A1 t'.length c1, .slice none 0 0]
  obtain ⟨W2, hW2⟩ : ∃ W2, W2 = wP.alloc (.cells #[.bool a.ch, .slice A1 t'.length c1, .slice none 0 0] 24) := ⟨_, rfl⟩
  rw [← hW2] at i1 ⊢
  have HI1 := Lib.hid i1
  have HI3 := Lib.hid (show Owns W2 w1.heap.size (.slice A1 t'.length c1) t'.length (ints S) by rw [hW2]; exact HOS.out.alloc _)
  have HIW := Lib.hid (show Below wP.heap.size wP W2 by rw [hW2]; exact below_one _ _)
  have hzz : W2.heap.size = wP.heap.size + 1 := by rw [hW2]; simp
  obtain ⟨g, hgg0⟩ : ∃ g, g = wP.heap.size := ⟨_, rfl⟩
  have hgP : wP.heap.size ≤ g := by omega
  have hgW : g < W2.heap.size := by omega
  rw [← hgg0] at HI1 ⊢
  have HSB2 := Lib.hid (show ∀ b, (Value.slice A1 t'.length c1).ownBlock = some b → b < g by rw [hgg0]; exact HSB.out)
  have hgP1 : g ≤ wP.heap.size := by omega
  have hzz1 : W2.heap.size ≤ wP.heap.size + 1 := by omega
  clear i1 hW2 t0 t1 t2 lA2 hgg0 hzz
  go_loopw [9] (fun sI wr => ∃ (k : Nat) (A4 : Option Addr) (c4 : Nat), k ≤ a.da.length ∧ sI = .int .i64 k ∧ Box wr g 24 #[.bool a.ch, .slice A1 t'.length c1, .slice A4 k c4] ∧ Owns wr W2.heap.size (.slice A4 k c4) k (X.take k) ∧ Owns wr w1.heap.size (.slice A1 t'.length c1) t'.length (ints S) ∧ Below wP.heap.size wP wr ∧ W2.heap.size ≤ wr.heap.size) (fun sI _ => a.da.length - (intOf sI).toNat)
  case atStart => exact ⟨0, none, 0, Nat.zero_le _, rfl, HI1.out, Owns.nil _ _, HI3.out, HIW.out, Nat.le_refl _⟩
  case round =>
    obtain ⟨k, A4, c4, hk, rfl, h1, h2, h3, hbl, hws⟩ := hrel
    have hlo := h1.lt
    obtain ⟨t0, t1, t2⟩ := (bA2.below hbl).three
    have lA2 := (bA2.below hbl).lt
    rcases Nat.lt_or_ge k a.da.length with hlt | hge
    · have HPT := Lib.hid (show k < prod S by rw [HPS.out]; exact hlt)
      have hz := hbl.size
      have HH1 := Lib.hid h1
      have HH2 := Lib.hid h2
      have HH3 := Lib.hid h3
      have HBL := Lib.hid hbl
      have HSL1 := Lib.hid (show IsInts wr (.slice A1 t'.length c1) (ints S) from h3.isInts)
      clear h1 h2 h3 hbl
      go_wp2_with fail
      refine (coords_ok _ S k _ HSL1.out HSG.out.1 HSG.out.2.1 HPT.out (by omega)).mono ?_
      rintro e w5 ⟨g5, rfl, hg5, hr5, hb5⟩
      rw [HSL.out]
      have hbl5 := HBL.out.trans (hb5.mono HBL.out.size)
      have h15 := HH1.out.below hb5
      have h25 := HH2.out.below hb5
      have h35 := HH3.out.below hb5
      have hs5 := hb5.size
      have hl5 := Box.lt hr5
      have hrow := Row.made w5 t'.length
      obtain ⟨FR, hFR⟩ : ∃ FR, FR = ints (aft (coords S k) u) := ⟨_, rfl⟩
      have HFR := Lib.hid hFR
      have HFL := Lib.hid (show FR.length = t'.length by rw [hFR, length_ints, aft_length, HL.out])
      rw [← HFL.out, ← fillTo_zero] at hrow
      rw [HFL.out] at hrow
      have HR := Lib.hid hrow
      have HR5 := Lib.hid (show Row (w5.alloc _) g5 (ints (coords S k)) from Box.alloc hr5 (.cells (madeCells #[.int .i64 0] t'.length) 3))
      have H15 := Lib.hid (h15.alloc (.cells (madeCells #[.int .i64 0] t'.length) 3))
      have H25 := Lib.hid (h25.alloc (.cells (madeCells #[.int .i64 0] t'.length) 3))
      have H35 := Lib.hid (h35.alloc (.cells (madeCells #[.int .i64 0] t'.length) 3))
      have HB5 := Lib.hid (hbl5.alloc hbl5.size (.cells (madeCells #[.int .i64 0] t'.length) 3))
      have hzb5 := hbl5.size
      clear hr5 h15 h25 h35 hbl5 hb5 hFR hrow t0 t1 t2 lA2
      go_wp2_with fail
      go_loopw [12] (fun sJ wr2 => ∃ m : Nat, m ≤ t'.length ∧ sJ = .int .i64 m ∧ Row wr2 w5.heap.size (FillTo FR m) ∧ Row wr2 g5 (ints (coords S k)) ∧ Box wr2 g 24 #[.bool a.ch, .slice A1 t'.length c1, .slice A4 k c4] ∧ Owns wr2 W2.heap.size (.slice A4 k c4) k (X.take k) ∧ Owns wr2 w1.heap.size (.slice A1 t'.length c1) t'.length (ints S) ∧ Below wP.heap.size wP wr2 ∧ w5.heap.size < wr2.heap.size) (fun sJ _ => t'.length - (intOf sJ).toNat)
      case atStart => exact ⟨0, Nat.zero_le _, rfl, HR.out, HR5.out, H15.out, H25.out, H35.out, HB5.out, by simp⟩
      case round =>
        obtain ⟨m, hm, rfl, q0, q1, q2, q3, q4, q5, q6⟩ := hrel
        rcases Nat.lt_or_ge m t'.length with hlm2 | hgm2
        · have hmu : m < u.length := by rw [HL.out]; exact hlm2
          obtain ⟨af, f, rfl, hf, haf, hcf⟩ := Elems.later (IsInts.elems HNI.out) (hbw2.trans (q5.mono hbw2.size)) (k := m) (by rw [length_ints]; exact hmu)
          obtain ⟨rfl, -⟩ := ints_getD hf
          have hUl : u.getD m 0 < t'.length := by rw [← HL.out]; exact HU.out.lt hmu
          have hfm : FR[m]? = some (((coords S k).getD (u.getD m 0) 0 : Nat) : Int) := by
            rw [HFR.out, ← getD_aft hmu]
            exact ints_get (by rw [aft_length]; exact hmu)
          obtain ⟨U, hU⟩ : ∃ U, U = u.getD m 0 := ⟨_, rfl⟩
          rw [← hU] at hcf hUl hfm
          have hc1 := q1.at_ (show (ints (coords S k))[U]? = some (((coords S k).getD U 0 : Nat) : Int) from ints_get (by rw [length_coords, HSL.out]; exact hUl))
          obtain ⟨C, hC⟩ : ∃ C, C = (coords S k).getD U 0 := ⟨_, rfl⟩
          rw [← hC] at hc1 hfm
          have gk := q0.at_ (fillTo_at (X := FR) (k := m) (by rw [HFL.out]; exact hlm2))
          have gf := Box.frozen q0 m
          have hst := q0.store m (C : Int)
          rw [fillTo_set hfm] at hst
          have hUt : U < t'.length := hUl
          have hlu : m < (ints u).length := by rw [length_ints]; exact hmu
          have HST2 := Lib.hid hst
          have Q1 := Lib.hid q1
          have Q2 := Lib.hid q2
          have Q3 := Lib.hid q3
          have Q4 := Lib.hid q4
          have Q5 := Lib.hid q5
          clear hf hfm hU hC hst q0 q1 q2 q3 q4 q5
          go_wp2_with fail
          go_roundw
          case rel => exact ⟨m + 1, by omega, by go_num, HST2.out, Box.far Q1.out (p := ⟨w5.heap.size, m, none⟩) (by simp; omega) _, Q2.out.far (p := ⟨w5.heap.size, m, none⟩) (by simp; omega) _, Q3.out.setCell (p := ⟨w5.heap.size, m, none⟩) (fun e => by have := (HH2.out.lt e).2; simp at this; omega) _, Q4.out.setCell (p := ⟨w5.heap.size, m, none⟩) (fun e => by have := (HH3.out.lt e).2; simp at this; omega) _, Q5.out.setCell (p := ⟨w5.heap.size, m, none⟩) (by simp; omega) _, by simp; omega⟩
          case measure => simp [intOf]; omega
        · obtain rfl : m = t'.length := by omega
          rw [show FillTo FR t'.length = FR by rw [← HFL.out]; exact fillTo_all _] at q0
          obtain ⟨gf, hgf⟩ : ∃ gf, gf = w5.heap.size := ⟨_, rfl⟩
          rw [← hgf] at q0 ⊢
          have hgf1 : gf < wr.heap.size := by omega
          obtain ⟨ix, hix⟩ : ∃ ix, ix = aft (coords S k) u := ⟨_, rfl⟩
          have hinside : Inside t' ix := by rw [hix]; exact aft_inside HU.out HL.out (by rw [← HS.out]; exact coords_inside HPT.out)
          have HAT := Lib.hid ((show Row wr gf (ints ix) by rw [hix, ← HFR.out]; exact q0).isInts (n := t'.length) (by rw [length_ints, hix, aft_length, HL.out]) (by omega))
          obtain ⟨wo, hwo⟩ : ∃ wo, wo = wr := ⟨_, rfl⟩
          subst hwo
          have h1 := q2
          have h2 := q3
          have h3 := q4
          have hbl := q5
          clear q0 q1 q2 q3 q4 q5
          have HIX := Lib.hid hinside
          obtain ⟨P, hP⟩ : ∃ P, P = place t' ix := ⟨_, rfl⟩
          have HPP := Lib.hid hP
          have hPl : P < a.da.length := by rw [hP, HT.out.len]; exact place_lt hinside
          have hbwo := hbw2.trans (hbl.mono hbw2.size)
          obtain ⟨ad, x, hax, hx, halx, hcx⟩ := Elems.later HD.out hbwo hPl
          subst hax
          have HXK := Lib.hid (show X[k]? = some x by rw [HX.out, flip_at HT.out (by rw [← HS.out]; exact HPT.out), ← HS.out, ← hix, ← hP, List.getD_eq_getElem?_getD, hx]; rfl)
          have HCX := Lib.hid (show ∀ wx, Below wo.heap.size wo wx → wx.cell? (ad.add P) = some (.int .i64 x) from fun wx h => (h.cell (p := ad.add P) (by rw [addr_block_add]; have := hbwo.size; omega)).trans hcx)
          have HSW := Lib.hid (HST.out.mono hbwo)
          have hz2 := hbl.size
          obtain ⟨g0, g1, g2⟩ := h1.three
          have hlo2 := h1.lt
          have hwz : W2.heap.size ≤ wo.heap.size := by omega
          obtain ⟨t0, t1, t2⟩ := (bA2.below hbl).three
          have lA2 := (bA2.below hbl).lt
          clear hx hcx hP hinside hix hgf
          go_wp2_with fail
          refine wp_region_gate 11 2 (fun i v lo hi w' => match i with
              | 0 => v = .pointer (some ⟨g, 2, none⟩)
              | 1 => v = .slice A4 k c4
              | 2 => v = .pointer (some ⟨w.heap.size, 2, none⟩)
              | 3 => v = .slice (some ad) a.da.length cd
              | 4 => v = .pointer (some ⟨w.heap.size, 1, none⟩)
              | 5 => v = .slice A a.sh.length ca
              | 6 => v = .slice (some ⟨gf, 0, none⟩) t'.length t'.length
              | 7 => v = .int .i64 (P : Nat)
              | 8 => v = .pointer (some (ad.add P))
              | 9 => v = .int .i64 x
              | 10 => ∃ m, v = .slice (some ⟨m, 0, none⟩) 1 1 ∧ Elems w' (some ⟨m, 0, none⟩) [x]
              | _ => True) (by kernel_rfl) (by kernel_rfl) (by kernel_rfl) ?hV ?step ?last
          case hV =>
            intro i v lo hi w1 w2 h hb
            match i, h with
            | 0, h => exact h
            | 1, h => exact h
            | 2, h => exact h
            | 3, h => exact h
            | 4, h => exact h
            | 5, h => exact h
            | 6, h => exact h
            | 7, h => exact h
            | 8, h => exact h
            | 9, h => exact h
            | 10, ⟨m, e, hel⟩ => exact ⟨m, e, hel.mono hb⟩
            | i + 11, _ => trivial
          case step =>
            simp only [List.take_succ_cons, List.take_zero, putAll, Act.put, List.setIfInBounds_toArray, List.set_cons_zero, List.set_cons_succ, Nat.reduceAdd, Nat.zero_add]
            intro i o ho hi u lo up wr hbr hd hj K hK
            obtain ⟨hcw, hfw⟩ := bcell hbr
            match i, ho with
            | 0, ho =>
              simp only [List.getElem?_cons_zero, Option.some.injEq] at ho
              subst ho
              simp only [Act.put, List.setIfInBounds_toArray, List.set_cons_zero, List.set_cons_succ] at hK
              first | (simp [Region.binds] at hd; simp only [hd] at hK) | skip
              refine wpOp_step rfl fun K' hK' => ?_
              go_simp
              exact hK' _ _ (hK _ _ (Below.refl _ _) rfl)
            | 1, ho =>
              simp only [List.getElem?_cons_succ, List.getElem?_cons_zero, Option.some.injEq] at ho
              subst ho
              simp only [Act.put, List.setIfInBounds_toArray, List.set_cons_zero, List.set_cons_succ] at hK
              first | (simp [Region.binds] at hd; simp only [hd] at hK) | skip
              refine wpOp_step rfl fun K' hK' => ?_
              go_simp
              exact hK' _ _ (hK _ _ (Below.refl _ _) rfl)
            | 2, ho =>
              simp only [List.getElem?_cons_succ, List.getElem?_cons_zero, Option.some.injEq] at ho
              subst ho
              simp only [Act.put, List.setIfInBounds_toArray, List.set_cons_zero, List.set_cons_succ] at hK
              first | (simp [Region.binds] at hd; simp only [hd] at hK) | skip
              refine wpOp_step rfl fun K' hK' => ?_
              go_simp
              exact hK' _ _ (hK _ _ (Below.refl _ _) rfl)
            | 3, ho =>
              simp only [List.getElem?_cons_succ, List.getElem?_cons_zero, Option.some.injEq] at ho
              subst ho
              simp only [Act.put, List.setIfInBounds_toArray, List.set_cons_zero, List.set_cons_succ] at hK
              first | (simp [Region.binds] at hd; simp only [hd] at hK) | skip
              refine wpOp_step rfl fun K' hK' => ?_
              go_simp
              exact hK' _ _ (hK _ _ (Below.refl _ _) rfl)
            | 4, ho =>
              simp only [List.getElem?_cons_succ, List.getElem?_cons_zero, Option.some.injEq] at ho
              subst ho
              simp only [Act.put, List.setIfInBounds_toArray, List.set_cons_zero, List.set_cons_succ] at hK
              first | (simp [Region.binds] at hd; simp only [hd] at hK) | skip
              refine wpOp_step rfl fun K' hK' => ?_
              go_simp
              exact hK' _ _ (hK _ _ (Below.refl _ _) rfl)
            | 5, ho =>
              simp only [List.getElem?_cons_succ, List.getElem?_cons_zero, Option.some.injEq] at ho
              subst ho
              simp only [Act.put, List.setIfInBounds_toArray, List.set_cons_zero, List.set_cons_succ] at hK
              first | (simp [Region.binds] at hd; simp only [hd] at hK) | skip
              refine wpOp_step rfl fun K' hK' => ?_
              go_simp
              exact hK' _ _ (hK _ _ (Below.refl _ _) rfl)
            | 6, ho =>
              simp only [List.getElem?_cons_succ, List.getElem?_cons_zero, Option.some.injEq] at ho
              subst ho
              simp only [Act.put, List.setIfInBounds_toArray, List.set_cons_zero, List.set_cons_succ] at hK
              first | (simp [Region.binds] at hd; simp only [hd] at hK) | skip
              refine wpOp_step rfl fun K' hK' => ?_
              go_simp
              exact hK' _ _ (hK _ _ (Below.refl _ _) rfl)
            | 7, ho =>
              simp only [List.getElem?_cons_succ, List.getElem?_cons_zero, Option.some.injEq] at ho
              subst ho
              simp only [Act.put, List.setIfInBounds_toArray, List.set_cons_zero, List.set_cons_succ] at hK
              have h5 : u 5 = .slice A a.sh.length ca := hd ⟨5, .data⟩ (by simp) rfl
              have h6 : u 6 = .slice (some ⟨gf, 0, none⟩) t'.length t'.length := hd ⟨6, .data⟩ (by simp) rfl
              simp only [h5, h6] at hK
              refine wpOp_step rfl fun K' hK' => ?_
              go_simp
              refine (where_ok _ _ t' ix _ (HSW.out.mono hbr) (HAT.out.mono hbr) HIX.out HT.out.good.1 HT.out.good.2.2).mono ?_
              rintro e w6 ⟨rfl, rfl⟩
              rw [← HPP.out]
              exact hK' _ _ (hK _ _ (Below.refl _ _) rfl)
            | 8, ho =>
              simp only [List.getElem?_cons_succ, List.getElem?_cons_zero, Option.some.injEq] at ho
              subst ho
              simp only [Act.put, List.setIfInBounds_toArray, List.set_cons_zero, List.set_cons_succ] at hK
              first | (simp [Region.binds] at hd; simp only [hd] at hK) | skip
              refine wpOp_step rfl fun K' hK' => ?_
              go_simp
              exact hK' _ _ (hK _ _ (Below.refl _ _) rfl)
            | 9, ho =>
              simp only [List.getElem?_cons_succ, List.getElem?_cons_zero, Option.some.injEq] at ho
              subst ho
              simp only [Act.put, List.setIfInBounds_toArray, List.set_cons_zero, List.set_cons_succ] at hK
              have h8 : u 8 = .pointer (some (ad.add P)) := hd ⟨8, .data⟩ (by simp) rfl
              have hcr := HCX.out wr hbr
              simp only [h8] at hK
              refine wpOp_step rfl fun K' hK' => ?_
              go_simp
              exact hK' _ _ (hK _ _ (Below.refl _ _) rfl)
            | 10, ho =>
              simp only [List.getElem?_cons_succ, List.getElem?_cons_zero, Option.some.injEq] at ho
              subst ho
              simp only [Act.put, List.setIfInBounds_toArray, List.set_cons_zero, List.set_cons_succ] at hK
              have hX : u 9 = .int .i64 (x) := hd ⟨9, .data⟩ (by simp) rfl
              simp only [hX] at hK
              refine wpOp_step rfl fun K' hK' => ?_
              go_simp
              exact hK' _ _ (hK _ _ (below_one _ _) ⟨_, rfl, elems_new _ _⟩)
            | i + 11, ho => omega
          case last =>
            simp only [List.take_succ_cons, List.take_zero, putAll, Act.put, List.setIfInBounds_toArray, List.set_cons_zero, List.set_cons_succ, Nat.reduceAdd, Nat.zero_add]
            intro u wr lo up hbr hv hj
            obtain ⟨m0, eb, hel⟩ := hv 10 (by omega)
            have e1 : u 1 = .slice A4 k c4 := hv 1 (by omega)
            have hzr := hbr.size
            have hne := (h2.below hbr).ne_box (h1.below hbr) (by decide)
            simp only [eb, e1]
            clear hv hj eb e1
            unfold tailWp
            refine wpOp_step rfl fun K' hK' => ?_
            refine step_append_ints _ rfl rfl _ _ (by rfl) (W2.heap.size) k _ (X.take k) (by rfl) (h2.below hbr) (some ⟨m0, 0, none⟩) 1 1 [x] (by rfl) (fun e => by cases e) hel rfl (by omega) (by omega) ?_
            intro A5 c5 w5 hown5 hgrow5 hat5
            refine hK' _ _ ?_
            clear hK'
            have b5 := (h1.below hbr).grown hgrow5 hne
            have hc5 := b5.three.2.2
            have hf5 := b5.frozen 2
            have hl5 := b5.lt
            unfold tailWp
            refine wpOp_step rfl fun K' hK' => ?_
            go_simp
            refine hK' _ _ ?_
            clear hK'
            unfold tailWp
            refine wpOp_step rfl fun K' hK' => ?_
            go_simp
            refine hK' _ _ ?_
            clear hK'
            have hblr := hbl.trans (hbr.mono hbl.size)
            have hbl5 := (hblr.grown hgrow5 hblr.size (fun j e => by have := (h2.lt e).1; omega)).setCell (p := ⟨g, 2, none⟩) (by first | (simp; done) | (simp; omega)) (.slice A5 (k + 1) c5)
            have b6 := b5.store 2 (.slice A5 (k + 1) c5)
            have h6 := hown5.setCell (p := ⟨g, 2, none⟩) (hown5.ne_box b5 (by decide)) (.slice A5 (k + 1) c5)
            simp only [List.setIfInBounds_toArray, List.set_cons_zero, List.set_cons_succ] at b6
            have hsz7 := hgrow5.size
            have h37 := ((h3.below hbr).kept hgrow5 (apart_low HSB2.out (fun b e => by have := (h2.lt e).1; omega))).setCell (p := ⟨g, 2, none⟩) (fun e => by have := HSB2.out g e; omega) (.slice A5 (k + 1) c5)
            clear hc5 hf5 b5 hown5 hgrow5
            go_wp2_with fail
            go_roundw
            case rel => exact ⟨k + 1, A5, c5, by omega, by go_num, b6, by rw [← take_at HXK.out]; exact h6, h37, hbl5, by simp; omega⟩
            case measure => simp [intOf]; omega
    · have hke : k = a.da.length := by omega
      subst hke
      rw [List.take_of_length_le (by rw [HXL.out]; exact Nat.le_refl _)] at h2
      obtain ⟨g0, g1, g2⟩ := h1.three
      have b3 := bR2.below hbl
      have rf := b3.frozen
      obtain ⟨e0, e1, e2⟩ := b3.three
      have rl := b3.lt
      go_wp2_with fail
      have hgg := grownBy_three wr (w.heap.size + 1) (.bool a.ch) (.slice A1 t'.length c1) (.slice A4 a.da.length c4)
      have z := ((b3.store 0 (.bool a.ch)).store 1 (.slice A1 t'.length c1)).store 2 (.slice A4 a.da.length c4)
      simp only [List.setIfInBounds_toArray, List.set_cons_zero, List.set_cons_succ] at z
      obtain ⟨z0, z1, z2⟩ := z.three
      have zl := z.lt
      refine bodyPost_ret (v := .tuple #[.agg #[.bool a.ch, .slice A1 t'.length c1, .slice A4 a.da.length c4], .int .i64 0]) (by simp [results, Tryd.results9, go_sem, z0, z1, z2, zl]) rfl ?_
      have iS := (h3.kept hgg (.inr (h3.ne_box b3 (by decide)))).isInts
      have iD := (h2.kept hgg (.inr (h2.ne_box b3 (by decide)))).isInts
      have hbx := hbw2.trans (hbl.mono hbw2.size)
      rw [HTN.out]
      refine RTold.ok HE.out ?_ (hbx.grown hgg hbx.size (fun j e => by cases e; omega))
      exact ⟨_, _, rfl, by rw [(flip_ok HT.out HU.out HL.out).sh, ← HS.out]; exact iS, by rw [← HX.out]; exact iD⟩

end Go.Proofs.YtlkeipgpckkhbaaDoor
