/- The walk of the reference's Part: of this shape, from these indices on, fills outside. Conditions: none. -/
import Derived.Test.YtlkeipgpckkhbaaDoorRefFlaw
import Derived.Test.YtlkeipgpckkhbaaDoorRefInside
import Derived.Test.YtlkeipgpckkhbaaDoorTail
import Derived.Test.YtlkeipgpckkhbaaDoorHelp
import Derived.Test.YtlkeipgpckkhbaaDoorFunnel
import Derived.Test.YtlkeipgpckkhbaaDoorPair
import Derived.Test.YtlkeipgpckkhbaaDoorMoved
import Derived.RegionTactic
import Derived.BigQuiet
import Derived.Deep.RegionLaw
namespace Go.Proofs.YtlkeipgpckkhbaaDoor
open Go Go.RowKit Go.Proofs.YtlkeipgpckkhbaaDoor.P
theorem copied_nat (v : Value) (s : List Nat) (w : World) (ha : IsInts w v (ints s)) (hl : s.length ≤ 4096) :
    Calls Tryd.prog 37 #[v] w fun e w' => ∃ g, e = .returned (.slice (some ⟨g, 0, none⟩) s.length s.length) ∧ w.heap.size ≤ g ∧ Row w' g (ints s) ∧ Below w.heap.size w w' := by
  have h := copied_ok v (ints s) w ha (by rw [length_ints]; exact hl)
  rwa [length_ints] at h
theorem winIn_ints {t : List Nat} {js : List Int} (hl : js.length = t.length) (h : WinIn t js t.length) : js = ints (js.map Int.toNat) := by
  unfold ints
  rw [List.map_map]
  refine (List.ext_getElem (by simp) fun i h1 h2 => ?_)
  have := (h i (by omega)).1
  simp only [List.getD_eq_getElem?_getD, List.getElem?_eq_getElem h1, Option.getD_some] at this
  simp only [List.getElem_map, Function.comp_apply]
  omega

set_option maxRecDepth 100000 in
set_option maxHeartbeats 4000000 in
theorem part_any {v vs vf : Value} {a : Arr} {t s : List Nat} {fr : List Int} {w : World} (ha : IsArr w v a) (ht : Ok a t) (hs' : IsInts w vs (ints s)) (hf : IsInts w vf fr) (hgs : GoodSh s)
    (hl : s.length = t.length) (hfl : fr.length = t.length) (hfb : ∀ (k : Nat) (f : Int), fr[k]? = some f → -8192 ≤ f ∧ f ≤ 8192) :
    Calls Tryd.prog 19 #[v, vs, vf] w fun e w' => ∃ r, e = .returned r ∧ IsArr w' r (win fr s a) ∧ Below w.heap.size w w' := by
  obtain ⟨A, ca, D, cd, rfl, hs, hd⟩ := ha.open_
  obtain ⟨D0, cd0, eD, d1, d2, d3, d0, d4⟩ := id hd
  cases eD
  obtain ⟨S, cs, rfl, s1, s2, s3, ES, HS0⟩ := hs'.open_
  obtain ⟨Fv, cf, rfl, f1, f2, f3, EF, HF0⟩ := hf.open_
  simp only [length_ints] at s1 s3 HS0 ⊢
  have HA := Lib.hid ha
  have HS := Lib.hid (hs.eq' ht.sh)
  have HD := Lib.hid (show Elems w D a.da from d4)
  have HSS := Lib.hid HS0
  have EF' := Lib.hid EF
  have HT := Lib.hid ht
  have HG := Lib.hid hgs
  have HL := Lib.hid hl
  have HFL := Lib.hid hfl
  have HFB := Lib.hid hfb
  have hsl : s.length ≤ 4096 := by have := hgs.1; omega
  have hdl : a.da.length ≤ 4096 := by rw [ht.len]; exact ht.good.2.2
  obtain ⟨N, hN⟩ : ∃ N, N = prod s := ⟨_, rfl⟩
  have hN4 : N ≤ 4096 := by rw [hN]; exact hgs.2.2
  have HN := Lib.hid hN
  obtain ⟨X, hX⟩ : ∃ X, X = (win fr s a).da := ⟨_, rfl⟩
  have HX := Lib.hid hX
  have HXL := Lib.hid (show X.length = N by rw [hX, hN]; exact (win_ok ht hgs hl hfl).len)
  clear hX hN ha hs hd d0 d4 hs' hf ES EF ht hgs hl hfl hfb HS0
  go_enter Tryd.func19, Tryd.ntmps19
  have z1 := (Box.new w 24 #[.bool a.ch, .slice A a.sh.length ca, .slice D a.da.length cd]).alloc (.cells #[.bool false, .slice none 0 0, .slice none 0 0] 24)
  have z3 := Box.new (w.alloc (.cells #[.bool a.ch, .slice A a.sh.length ca, .slice D a.da.length cd] 24)) 24 #[.bool false, .slice none 0 0, .slice none 0 0]
  simp only [World.size_alloc] at z3
  have hb0 := below_two w (.cells #[.bool a.ch, .slice A a.sh.length ca, .slice D a.da.length cd] 24) (.cells #[.bool false, .slice none 0 0, .slice none 0 0] 24)
  obtain ⟨t0, t1, t2⟩ := z1.three
  go_wp2_with fail
  obtain ⟨wP, hwP⟩ : ∃ wP, wP = (w.alloc (.cells #[.bool a.ch, .slice A a.sh.length ca, .slice D a.da.length cd] 24)).alloc (.cells #[.bool false, .slice none 0 0, .slice none 0 0] 24) := ⟨_, rfl⟩
  rw [← hwP] at z1 z3 hb0 t0 t1 t2 ⊢
  have hzP : wP.heap.size = w.heap.size + 2 := by rw [hwP]; simp
  clear hwP
  have bA := z1
  have bR := z3
  have hbw := hb0
  clear z1 z3 hb0
  have hlA := bA.lt
  have hlR := bR.lt
  have HSW1 := Lib.hid (HSS.out.mono hbw)
  refine wp_region_open (fun i v lo hi w' => match i with
    | 0 => v = .pointer (some ⟨w.heap.size, 0, none⟩)
    | 1 => v = .bool a.ch
    | 2 => v = .slice S s.length cs
    | 3 => ∃ m, v = .slice (some ⟨m, 0, none⟩) s.length s.length ∧ Row w' m (ints s) ∧ lo ≤ m ∧ m < hi ∧ wP.heap.size ≤ lo
    | 4 => ∃ ms, v = .agg #[.bool a.ch, .slice (some ⟨ms, 0, none⟩) s.length s.length, .slice none 0 0] ∧ Row w' ms (ints s) ∧ wP.heap.size ≤ ms
    | 5 => ∃ g, v = .pointer (some ⟨g, 0, none⟩) ∧ Box w' g 24 #[.bool false, .slice none 0 0, .slice none 0 0] ∧ wP.heap.size ≤ g
    | _ => True) (by kernel_rfl) (by kernel_rfl) (by kernel_rfl) ?hV ?step ?last
  case hV =>
    intro i v lo hi w1 w2 h hb
    match i, h with
    | 0, h => exact h
    | 1, h => exact h
    | 2, h => exact h
    | 3, ⟨m, e, ho, hm, hl, hz⟩ => exact ⟨m, e, Box.below ho hb, hm, hl, hz⟩
    | 4, ⟨ms, e, hrs, hms⟩ => exact ⟨ms, e, Box.below hrs hb, hms⟩
    | 5, ⟨g, e, hx, hz⟩ => exact ⟨g, e, hx.below hb, hz⟩
    | i + 6, _ => trivial
  case step =>
    simp only [putAll, Act.put, List.setIfInBounds_toArray, List.set_cons_zero, List.set_cons_succ, Nat.reduceAdd, Nat.zero_add]
    intro i o ho hi uu lo up wr hbr hd hj K hK
    obtain ⟨hcw, hfw⟩ := bcell hbr
    match i, ho with
    | 0, ho =>
      simp only [List.getElem?_cons_zero, Option.some.injEq] at ho
      subst ho
      first | (simp [Region.binds] at hd; simp only [hd] at hK) | skip
      refine wpOp_step rfl fun K' hK' => ?_
      go_simp
      exact hK' _ _ (hK _ _ (Below.refl _ _) rfl)
    | 1, ho =>
      simp only [List.getElem?_cons_succ, List.getElem?_cons_zero, Option.some.injEq] at ho
      subst ho
      first | (simp [Region.binds] at hd; simp only [hd] at hK) | skip
      refine wpOp_step rfl fun K' hK' => ?_
      go_simp
      exact hK' _ _ (hK _ _ (Below.refl _ _) rfl)
    | 2, ho =>
      simp only [List.getElem?_cons_succ, List.getElem?_cons_zero, Option.some.injEq] at ho
      subst ho
      first | (simp [Region.binds] at hd; simp only [hd] at hK) | skip
      refine wpOp_step rfl fun K' hK' => ?_
      go_simp
      exact hK' _ _ (hK _ _ (Below.refl _ _) rfl)
    | 3, ho =>
      simp only [List.getElem?_cons_succ, List.getElem?_cons_zero, Option.some.injEq] at ho
      subst ho
      first | (simp [Region.binds] at hd; simp only [hd] at hK) | skip
      refine wpOp_step rfl fun K' hK' => ?_
      go_simp
      refine (copied_nat _ s _ (HSW1.out.mono (((Below.refl wP.heap.size wP)).trans (hbr.mono (Nat.le_refl _)))) hsl).mono ?_
      rintro e w1 ⟨g1, rfl, hg1, hr1, hb1⟩
      have hz := hbr.size
      try simp only [World.size_alloc] at hz
      exact hK' _ _ (hK _ _ hb1 ⟨g1, rfl, hr1, hg1, Box.lt hr1, by omega⟩)
    | 4, ho =>
      simp only [List.getElem?_cons_succ, List.getElem?_cons_zero, Option.some.injEq] at ho
      subst ho
      have h1 : uu 1 = .bool a.ch := hd ⟨1, .data⟩ (by simp) rfl
      obtain ⟨ms, es, os, mds, ls, zs⟩ := hd ⟨3, .data⟩ (by simp) rfl
      dsimp only at os mds ls zs
      simp only [h1, es] at hK
      refine wpOp_step rfl fun K' hK' => ?_
      go_simp
      exact hK' _ _ (hK _ _ (Below.refl _ _) ⟨ms, rfl, os, by omega⟩)
    | 5, ho =>
      simp only [List.getElem?_cons_succ, List.getElem?_cons_zero, Option.some.injEq] at ho
      subst ho
      first | (simp [Region.binds] at hd; simp only [hd] at hK) | skip
      have hz := hbr.size
      try simp only [World.size_alloc] at hz
      refine wpOp_step rfl fun K' hK' => ?_
      go_simp
      exact hK' _ _ (hK _ _ (below_one _ _) ⟨_, rfl, Box.new _ _ _, by omega⟩)
    | i + 6, ho => simp at hi; omega
  case last =>
    simp only [putAll, Act.put, List.setIfInBounds_toArray, List.set_cons_zero, List.set_cons_succ, Nat.reduceAdd, Nat.zero_add]
    intro uu wr lo up hbr hv hj
    obtain ⟨ms, e9, r4, m4⟩ := hv 4 (by simp)
    obtain ⟨g, e10, bg, hg⟩ := hv 5 (by simp)
    obtain ⟨g0, g1, g2⟩ := bg.three
    have gf := bg.frozen
    simp only [e9, e10]
    clear hv hj e9 e10
    refine wpOp_step rfl fun K' hK' => ?_
    go_simp
    refine hK' _ _ ?_
    have hbw := ((Below.refl wP.heap.size wP)).trans (hbr.mono (Nat.le_refl _))
    have hgg := grownBy_three wr g (.bool a.ch) (.slice (some ⟨ms, 0, none⟩) s.length s.length) (.slice none 0 0)
    have i1 := ((bg.store 0 (.bool a.ch)).store 1 (.slice (some ⟨ms, 0, none⟩) s.length s.length)).store 2 (.slice none 0 0)
    simp only [List.setIfInBounds_toArray, List.set_cons_zero, List.set_cons_succ] at i1
    have hgms : g ≠ ms := Box.apart bg r4 (by decide)
    have i3 : Row _ ms _ := Box.grown r4 hgg (by intro e; injection e with e; exact hgms e)
    have iw := hbw.grown hgg hbw.size (fun j e => by cases e; omega)
    have hgl : g < (((wr.setCell ⟨g, 0, none⟩ (.bool a.ch)).setCell ⟨g, 1, none⟩ (.slice (some ⟨ms, 0, none⟩) s.length s.length)).setCell ⟨g, 2, none⟩ (.slice none 0 0)).heap.size := i1.lt
    clear hbr hgg r4 bg g0 g1 g2 gf hbw hK' 
    generalize (((wr.setCell ⟨g, 0, none⟩ (.bool a.ch)).setCell ⟨g, 1, none⟩ (.slice (some ⟨ms, 0, none⟩) s.length s.length)).setCell ⟨g, 2, none⟩ (.slice none 0 0)) = W2 at i3 i1 iw hgl ⊢
    have hgP : wP.heap.size ≤ g := hg
    have hmP := m4
    have hmW := Box.lt i3
    have hW12 := iw.size
    have HI1 := Lib.hid i1
    have HI3 := Lib.hid i3
    have HIW := Lib.hid iw
    have HGM := Lib.hid hgms
    clear i1 i3 iw hgms hg m4 t0 t1 t2
    go_wp2_with fail
    refine (cells_ok _ s _ (HSS.out.mono (hbw.trans (HIW.out.mono hbw.size))) HG.out).mono ?_
    rintro e w2 ⟨rfl, rfl⟩
    rw [← HN.out]
    go_wp2_with fail
    go_loopw [9] (fun sI wr => ∃ (k : Nat) (A4 : Option Addr) (c4 : Nat), k ≤ N ∧ sI = .int .i64 k ∧ Box wr g 24 #[.bool a.ch, .slice (some ⟨ms, 0, none⟩) s.length s.length, .slice A4 k c4] ∧ Owns wr W2.heap.size (.slice A4 k c4) k (X.take k) ∧ Row wr ms (ints s) ∧ Below wP.heap.size wP wr ∧ W2.heap.size ≤ wr.heap.size) (fun sI _ => N - (intOf sI).toNat)
    case atStart => exact ⟨0, none, 0, Nat.zero_le _, rfl, HI1.out, Owns.nil _ _, HI3.out, HIW.out, Nat.le_refl _⟩
    case round =>
      obtain ⟨k, A4, c4, hk, rfl, h1, h2, h3, hbl, hws⟩ := hrel
      have hlo := h1.lt
      have hlm := Box.lt h3
      rcases Nat.lt_or_ge k N with hlt | hge
      · have HPT := Lib.hid (show k < prod s by rw [← HN.out]; exact hlt)
        have hz := hbl.size
        have HH1 := Lib.hid h1
        have HH2 := Lib.hid h2
        have HH3 := Lib.hid h3
        have HBL := Lib.hid hbl
        have HSL := Lib.hid (HSS.out.mono (hbw.trans (hbl.mono hbw.size)))
        clear h1 h2 h3 hbl
        go_wp2_with fail
        refine (coords_ok _ s k _ HSL.out HG.out.1 HG.out.2.1 HPT.out (by omega)).mono ?_
        rintro e w5 ⟨g5, rfl, hg5, hr5, hb5⟩
        have hbl5 := HBL.out.trans (hb5.mono HBL.out.size)
        have h15 := HH1.out.below hb5
        have h25 := HH2.out.below hb5
        have h35 : Row w5 ms (ints s) := Box.below HH3.out hb5
        have hs5 := hb5.size
        have HR5 := Lib.hid hr5
        have H15 := Lib.hid h15
        have H25 := Lib.hid h25
        have H35 := Lib.hid h35
        have HB5 := Lib.hid hbl5
        obtain ⟨JS, hJS⟩ : ∃ JS, JS = adds (coords s k) fr := ⟨_, rfl⟩
        have HJS := Lib.hid hJS
        have HJL := Lib.hid (show JS.length = s.length by rw [hJS, adds_length, length_coords, HFL.out, ← HL.out]; omega)
        clear hr5 h15 h25 h35 hbl5 hb5 hJS
        go_wp2_with fail
        go_loopw [11] (fun sJ wr2 => ∃ m : Nat, m ≤ s.length ∧ sJ = .int .i64 m ∧ Row wr2 g5 (MixTo JS (ints (coords s k)) m) ∧ Box wr2 g 24 #[.bool a.ch, .slice (some ⟨ms, 0, none⟩) s.length s.length, .slice A4 k c4] ∧ Owns wr2 W2.heap.size (.slice A4 k c4) k (X.take k) ∧ Row wr2 ms (ints s) ∧ Below wP.heap.size wP wr2 ∧ W2.heap.size ≤ wr2.heap.size) (fun sJ _ => s.length - (intOf sJ).toNat)
        case atStart => exact ⟨0, Nat.zero_le _, rfl, by rw [mix_zero]; exact HR5.out, H15.out, H25.out, H35.out, HB5.out, by omega⟩
        case round =>
          obtain ⟨m, hm, rfl, q1, q2, q3, q4, q5, q6⟩ := hrel
          rcases Nat.lt_or_ge m s.length with hlm2 | hgm2
          · obtain ⟨af, f, rfl, hf, haf, hcf⟩ := Elems.later EF'.out (hbw.trans (q5.mono hbw.size)) (k := m) (by rw [HFL.out, ← HL.out]; exact hlm2)
            have hff := HFB.out m f hf
            have hfl2 : m < fr.length := by rw [HFL.out, ← HL.out]; exact hlm2
            have hlc : m < (ints (coords s k)).length := by rw [length_ints, length_coords]; exact hlm2
            have hcat : (ints (coords s k))[m]? = some (((coords s k).getD m 0 : Nat) : Int) := ints_get (by rw [length_coords]; exact hlm2)
            have hcl := coords_lt HPT.out hlm2
            have hM4 : s.getD m 0 ≤ 4096 := by rw [List.getD_eq_getElem?_getD, List.getElem?_eq_getElem hlm2]; exact HG.out.2.1 _ (List.getElem_mem _)
            obtain ⟨C, hC⟩ : ∃ C, C = (coords s k).getD m 0 := ⟨_, rfl⟩
            rw [← hC] at hcat hcl
            have hjm : JS[m]? = some ((C : Int) + f) := by
              have e1 : m < JS.length := by rw [HJL.out]; exact hlm2
              have e2 := adds_get (ix := coords s k) (fr := fr) (k := m) (by rw [length_coords]; exact hlm2) hfl2
              rw [← HJS.out, ← hC, List.getD_eq_getElem?_getD, List.getD_eq_getElem?_getD, hf, List.getElem?_eq_getElem e1] at e2
              rw [List.getElem?_eq_getElem e1]
              simpa using e2
            have hc1 := q1.at_ (show (MixTo JS (ints (coords s k)) m)[m]? = some (C : Int) by rw [mix_at (by rw [HJL.out]; exact hm)]; exact hcat)
            have hf5 := Box.frozen q1 m
            have hl5 := Box.lt q1
            have hst := q1.store m ((C : Int) + f)
            rw [mix_set hjm hlc] at hst
            have HST := Lib.hid hst
            have Q2 := Lib.hid q2
            have Q3 := Lib.hid q3
            have Q4 := Lib.hid q4
            have Q5 := Lib.hid q5
            have hw0 : IntKind.i64.wrap ((C : Int) + f) = (C : Int) + f := IntWalk.i64_in _ (by omega)
            clear hf hcat hjm hC hst q1 q2 q3 q4 q5
            go_wp2_with fail
            go_region
            go_wp2_with fail
            go_roundw
            case rel => exact ⟨m + 1, by omega, by go_num, HST.out, Q2.out.far (p := ⟨g5, m, none⟩) (by simp; omega) _, Q3.out.setCell (p := ⟨g5, m, none⟩) (fun e => by have := (HH2.out.lt e).2; simp at this; omega) _, Box.far Q4.out (p := ⟨g5, m, none⟩) (by simp; omega) _, (Q5.out.setCell (p := ⟨g5, m, none⟩) (by simp; omega) _).drew, by simp; omega⟩
            case measure => simp [intOf]; omega
          · obtain rfl : m = s.length := by omega
            rw [mix_all HJL.out (by rw [length_ints, length_coords])] at q1
            have hbw6 := hbw.trans (q5.mono hbw.size)
            obtain ⟨t0, t1, t2⟩ := (bA.below q5).three
            have lA2 := (bA.below q5).lt
            have hs6 := q5.size
            go_wp2_with fail
            obtain ⟨fx, hfx⟩ : ∃ fx : Int, fx = if a.ch then 32 else 0 := ⟨_, rfl⟩
            refine (fillR_any (HA.out.mono hbw6)).mono ?_
            rintro e w7 ⟨rfl, hb7⟩
            rw [← hfx]
            have HFX := Lib.hid hfx
            clear hfx
            have r1 : Row w7 g5 JS := Box.below q1 hb7
            have r2 := q2.below hb7
            have r3 := q3.below hb7
            have r4 : Row w7 ms (ints s) := Box.below q4 hb7
            have r5 := q5.trans (hb7.mono q5.size)
            have hs7 := hb7.size
            clear t0 t1 t2 lA2 q1 q2 q3 q4 q5 hb7
            have hbw7 := hbw.trans (r5.mono hbw.size)
            obtain ⟨t0, t1, t2⟩ := (bA.below r5).three
            have lA2 := (bA.below r5).lt
            have HAT := Lib.hid (r1.isInts (n := s.length) HJL.out.symm (by have := HG.out.1; omega))
            have HSA := Lib.hid (HS.out.mono hbw7)
            go_wp2_with fail
            refine (inside_any _ _ t JS _ HSA.out HAT.out (by rw [HJL.out, HL.out])).mono ?_
            rintro e w8 ⟨rfl, hb8⟩
            have u1 : Row w8 g5 JS := Box.below r1 hb8
            have u2 := r2.below hb8
            have u3 := r3.below hb8
            have u4_ : Row w8 ms (ints s) := Box.below r4 hb8
            have u5_ := r5.trans (hb8.mono r5.size)
            have hs8 := hb8.size
            have HAT8 := Lib.hid (u1.isInts (n := s.length) HJL.out.symm (by have := HG.out.1; omega))
            have HSA8 := Lib.hid (HSA.out.mono hb8)
            clear t0 t1 t2 lA2 r1 r2 r3 r4 r5 hb8
            obtain ⟨t0, t1, t2⟩ := (bA.below u5_).three
            have lA2 := (bA.below u5_).lt
            obtain ⟨g0, g1, g2⟩ := u2.three
            have hlo2 := u2.lt
            have hne : (Value.slice A4 k c4).ownBlock ≠ some g := u3.ne_box u2 (by decide)
            by_cases hin : WinIn t JS t.length
            · rw [decide_eq_true hin]
              obtain ⟨P, hP⟩ : ∃ P, P = place t (JS.map Int.toNat) := ⟨_, rfl⟩
              have hwi := win_in HT.out HPT.out (fr := fr) (by rw [← HJS.out, HJL.out, HL.out]) (by rw [← HJS.out]; exact hin)
              rw [← HJS.out, ← HX.out, ← hP] at hwi
              obtain ⟨ad, x, hax, hx, halx, hcx⟩ := Elems.later HD.out (hbw.trans (u5_.mono hbw.size)) hwi.2
              subst hax
              have hwp := hwi.2
              have HXK := Lib.hid (show X[k]? = some x by rw [hwi.1]; exact hx)
              have HWH := Lib.hid (show ∀ n2, Calls Tryd.prog 27 #[.slice A a.sh.length ca, .slice (some ⟨g5, 0, none⟩) s.length s.length] (w8.drewN n2) fun e w' => e = .returned (.int .i64 (P : Nat)) ∧ w8.drewN n2 = w' from fun n2 => by
                rw [hP]
                exact where_ok _ _ t _ _ (HSA8.out.mono (below_draws _ _ _)) ((HAT8.out.eq' (winIn_ints (by rw [HJL.out, HL.out]) hin)).mono (below_draws _ _ _)) (winIn_inside (by rw [HJL.out, HL.out]) hin) HT.out.good.1 HT.out.good.2.2)
              clear hwi hx hP hin
              go_wp2_with fail
              go_quiet ((exact Calls.quiet_of_same (quiet_call (HWH.out _))))
              go_wp2_with (at_builtin; refine wpList_append_ints _ rfl rfl _ _ rfl W2.heap.size k _ (X.take k) rfl ((u3.drewN _).alloc _) (some ⟨_, 0, none⟩) 1 1 [x] rfl (by simp) (elems_new _ x) rfl (by omega) (by simp; omega) ?_; intro A5 c5 w9 hown5 hgrow5 hat5; have b5 := ((u2.drewN _).alloc _).grown hgrow5 hne; have hc5 := b5.three.2.2; have hf5 := b5.frozen 2)
              have hmw : (Value.slice A4 k c4).ownBlock ≠ some ms := fun e => by have := (u3.lt e).1; omega
              go_roundw
              case rel => exact ⟨k + 1, A5, c5, by omega, by go_num, b5.store 2 _, by rw [← take_at HXK.out]; exact hown5.setCell (p := ⟨g, 2, none⟩) (hown5.ne_box b5 (by decide)) _, Box.far ((Box.alloc (Box.drewN u4_ _) _).grown hgrow5 hmw) (p := ⟨g, 2, none⟩) (by simp; exact Ne.symm HGM.out) _, (((u5_.trans (below_draws _ _ _)).alloc (by have := u5_.size; simpa using this) _).grown hgrow5 (by simp; have := u5_.size; omega) (fun _ e => by have := (u3.lt e).1; omega)).setCell (p := ⟨g, 2, none⟩) (by simp; omega) _, by have := hgrow5.size; simp at this ⊢; omega⟩
              case measure => simp [intOf]; omega
            · rw [decide_eq_false hin]
              have HXK := Lib.hid (show X[k]? = some fx by rw [HX.out, HFX.out]; exact win_out HT.out HPT.out (by rw [← HJS.out]; exact hin))
              clear hin
              go_wp2_with (at_builtin; refine wpList_append_ints _ rfl rfl _ _ rfl W2.heap.size k _ (X.take k) rfl (u3.alloc _) (some ⟨_, 0, none⟩) 1 1 [fx] rfl (by simp) (elems_new _ fx) rfl (by omega) (by simp; omega) ?_; intro A5 c5 w9 hown5 hgrow5 hat5; have b5 := (u2.alloc _).grown hgrow5 hne; have hc5 := b5.three.2.2; have hf5 := b5.frozen 2)
              have hmw : (Value.slice A4 k c4).ownBlock ≠ some ms := fun e => by have := (u3.lt e).1; omega
              go_roundw
              case rel => exact ⟨k + 1, A5, c5, by omega, by go_num, b5.store 2 _, by rw [← take_at HXK.out]; exact hown5.setCell (p := ⟨g, 2, none⟩) (hown5.ne_box b5 (by decide)) _, Box.far ((Box.alloc u4_ _).grown hgrow5 hmw) (p := ⟨g, 2, none⟩) (by simp; exact Ne.symm HGM.out) _, ((u5_.alloc u5_.size _).grown hgrow5 (by simp; have := u5_.size; omega) (fun _ e => by have := (u3.lt e).1; omega)).setCell (p := ⟨g, 2, none⟩) (by simp; omega) _, by have := hgrow5.size; simp at this ⊢; omega⟩
              case measure => simp [intOf]; omega
      · have hke : k = N := by omega
        subst hke
        rw [List.take_of_length_le (by rw [HXL.out]; exact Nat.le_refl _)] at h2
        obtain ⟨g0, g1, g2⟩ := h1.three
        have b3 := bR.below hbl
        have rf := b3.frozen
        obtain ⟨e0, e1, e2⟩ := b3.three
        have rl := b3.lt
        go_wp2_with fail
        have hgg := grownBy_three wr (w.heap.size + 1) (.bool a.ch) (.slice (some ⟨ms, 0, none⟩) s.length s.length) (.slice A4 k c4)
        have z := ((b3.store 0 (.bool a.ch)).store 1 (.slice (some ⟨ms, 0, none⟩) s.length s.length)).store 2 (.slice A4 k c4)
        simp only [List.setIfInBounds_toArray, List.set_cons_zero, List.set_cons_succ] at z
        obtain ⟨z0, z1, z2⟩ := z.three
        have zl := z.lt
        refine bodyPost_ret (v := .agg #[.bool a.ch, .slice (some ⟨ms, 0, none⟩) s.length s.length, .slice A4 k c4]) (by simp [results, Tryd.results19, go_sem, z0, z1, z2, zl]) rfl ?_
        have hgn : w.heap.size + 1 ≠ ms := by omega
        have iS : IsInts _ (.slice (some ⟨ms, 0, none⟩) s.length s.length) (ints s) := (Box.grown h3 hgg (by intro e; injection e with e; exact hgn e) : Row _ ms (ints s)).isInts (by rw [length_ints]) (by omega)
        have iD := (h2.kept hgg (.inr (h2.ne_low (by omega)))).isInts
        have hbx := hbw.trans (hbl.mono hbw.size)
        exact ⟨_, rfl, ⟨_, _, rfl, iS, by rw [← HX.out]; exact iD⟩, hbx.grown hgg hbx.size (fun j e => by cases e; omega)⟩

end Go.Proofs.YtlkeipgpckkhbaaDoor
