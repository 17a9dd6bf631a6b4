/- The walk of seek.In. Conditions: none. -/
import Derived.Test.YtfecokkgdojcdaaDoorInBad
import Derived.Test.YtfecokkgdojcdaaDoorFunnel
namespace Go.Proofs.YtfecokkgdojcdaaDoor
open Go Go.RowKit Go.Proofs.YtfecokkgdojcdaaDoor.P

theorem isin_at {a b : Arr} {k : Nat} {x : Int} (h : a.da[k]? = some x) : (isin a b).da[k]? = some (if hasB b a.ch x then 1 else 0) := by
  unfold isin
  rw [List.getElem?_map, h]
  rfl
theorem isin_len (a b : Arr) : (isin a b).da.length = a.da.length := by simp [isin]

set_option maxRecDepth 100000 in
set_option maxHeartbeats 2000000 in
theorem in_gives {va vb : Value} {a b : Arr} {w : World} (ha : IsArr w va a) (hb : IsArr w vb b) (hwa : Wf a.da) (hwb : Wf b.da) (h : twoErr a b = 0) :
    Calls Tryd.prog 17 #[va, vb] w (GivesOk (isin a b) w) := by
  obtain ⟨A, ca, D, cd, rfl, hs, hd⟩ := ha.open_
  obtain ⟨A', ca', D', cd', rfl, hs', hd'⟩ := hb.open_
  obtain ⟨D0, cd0, eD, d1, d2, d3, d0, d4⟩ := id hd
  cases eD
  have D4 := Lib.hid (show Elems w D a.da from d4)
  obtain ⟨s, t, hsO, htO⟩ := twoErr_zero h
  have hl := ok_da_le hsO
  have hlb := ok_da_le htO
  have H := Lib.hid h
  have HW := Lib.hid hwa
  have HV := Lib.hid hwb
  have HS := Lib.hid hs
  clear h hsO htO hwa hwb hs hd hs' hd' d4 d0
  have bA0 := ((Box.new w 24 #[.bool a.ch, .slice A a.sh.length ca, .slice D a.da.length cd]).alloc (.cells #[.bool b.ch, .slice A' b.sh.length ca', .slice D' b.da.length cd'] 24)).alloc (.cells #[.bool false, .slice none 0 0, .slice none 0 0] 24)
  have bB0 := (Box.new (w.alloc (.cells #[.bool a.ch, .slice A a.sh.length ca, .slice D a.da.length cd] 24)) 24 #[.bool b.ch, .slice A' b.sh.length ca', .slice D' b.da.length cd']).alloc (.cells #[.bool false, .slice none 0 0, .slice none 0 0] 24)
  have bR0 := Box.new ((w.alloc (.cells #[.bool a.ch, .slice A a.sh.length ca, .slice D a.da.length cd] 24)).alloc (.cells #[.bool b.ch, .slice A' b.sh.length ca', .slice D' b.da.length cd'] 24)) 24 #[.bool false, .slice none 0 0, .slice none 0 0]
  simp only [World.size_alloc] at bB0 bR0
  have hb0 := below_three w (.cells #[.bool a.ch, .slice A a.sh.length ca, .slice D a.da.length cd] 24) (.cells #[.bool b.ch, .slice A' b.sh.length ca', .slice D' b.da.length cd'] 24) (.cells #[.bool false, .slice none 0 0, .slice none 0 0] 24)
  obtain ⟨t0, t1, t2⟩ := bA0.three
  obtain ⟨u0, u1, u2⟩ := bB0.three
  go_enter Tryd.func17, Tryd.ntmps17
  go_wp2_with fail
  refine (scheck_any (ha.mono hb0) (hb.mono hb0)).mono ?_
  rintro e w1 ⟨rfl, hb1⟩
  rw [H.out, errV_zero]
  have bR1 := bR0.below hb1
  have bA1 := bA0.below hb1
  have bB1 := bB0.below hb1
  have hbw := hb0.trans (hb1.mono hb0.size)
  clear hb1 bR0 bA0 bB0 t0 t1 t2 u0 u1 u2
  obtain ⟨t0, t1, t2⟩ := bA1.three
  obtain ⟨u0, u1, u2⟩ := bB1.three
  go_wp2_with fail
  refine (firsts_any (hb.mono hbw) HV.out hlb).mono ?_
  rintro e w2 ⟨gm, rfl, hgm, hfm, hb2⟩
  have bR2 := bR1.below hb2
  have bA2 := bA1.below hb2
  have bB2 := bB1.below hb2
  have hbw2 := hbw.trans (hb2.mono hbw.size)
  clear hb2 bR1 bA1 bB1 t0 t1 t2 u0 u1 u2 hbw
  obtain ⟨t0, t1, t2⟩ := bA2.three
  obtain ⟨u0, u1, u2⟩ := bB2.three
  have hzA := bA2.lt
  have hzB := bB2.lt
  have hzR := bR2.lt
  have hmk := run_make_list a.da.length (by omega)
  have hs2 := HS.out.mono hbw2
  go_wp2_with fail
  refine wp_region_open (fun i v lo hi w' => match i with
    | 0 => v = .pointer (some ⟨w.heap.size, 1, none⟩)
    | 1 => v = .slice A a.sh.length ca
    | 2 => ∃ A' c', v = .slice A' a.sh.length c' ∧ Owns w' lo v a.sh.length (a.sh) ∧ (∀ b, v.ownBlock = some b → b < hi) ∧ w2.heap.size ≤ lo
    | 3 => v = .pointer (some ⟨w.heap.size, 2, none⟩)
    | 4 => v = .slice D a.da.length cd
    | 5 => v = .int .i64 a.da.length
    | 6 => ∃ m, v = .slice (some ⟨m, 0, none⟩) a.da.length a.da.length ∧ Row w' m (List.replicate a.da.length 0) ∧ lo ≤ m ∧ m < hi ∧ w2.heap.size ≤ lo
    | 7 => ∃ A' c' m, v = .agg #[.bool false, .slice A' a.sh.length c', .slice (some ⟨m, 0, none⟩) a.da.length a.da.length] ∧ Owns w' (w2.heap.size) (.slice A' a.sh.length c') a.sh.length (a.sh) ∧ Row w' m (List.replicate a.da.length 0) ∧ w2.heap.size ≤ m ∧ (Value.slice A' a.sh.length c').ownBlock ≠ some m
    | 8 => ∃ g, v = .pointer (some ⟨g, 0, none⟩) ∧ Box w' g 24 #[.bool false, .slice none 0 0, .slice none 0 0] ∧ w2.heap.size ≤ g
    | _ => True) (by kernel_rfl) (by kernel_rfl) (by kernel_rfl) ?hV ?step ?last
  case hV =>
    intro i v lo hi w1 w2 h hb
    match i, h with
    | 0, h => exact h
    | 1, h => exact h
    | 2, ⟨A', c', e, ho, hl, hz⟩ => exact ⟨A', c', e, ho.below hb, hl, hz⟩
    | 3, h => exact h
    | 4, h => exact h
    | 5, h => exact h
    | 6, ⟨m, e, ho, hm, hl, hz⟩ => exact ⟨m, e, Box.below ho hb, hm, hl, hz⟩
    | 7, ⟨A', c', m, e, ho, hr, hm, hne⟩ => exact ⟨A', c', m, e, ho.below hb, Box.below hr hb, hm, hne⟩
    | 8, ⟨g, e, hx, hz⟩ => exact ⟨g, e, hx.below hb, hz⟩
    | i + 9, _ => trivial
  case step =>
    simp only [putAll, Act.put, List.setIfInBounds_toArray, List.set_cons_zero, List.set_cons_succ, Nat.reduceAdd, Nat.zero_add]
    intro i o ho hi uu lo up wr hbr hd hj K hK
    obtain ⟨hcw, hfw⟩ := bcell hbr
    match i, ho with
    | 0, ho =>
      simp only [List.getElem?_cons_zero, Option.some.injEq] at ho
      subst ho
      first | (simp [Region.binds] at hd; simp only [hd] at hK) | skip
      refine wpOp_step rfl fun K' hK' => ?_
      go_simp
      exact hK' _ _ (hK _ _ (Below.refl _ _) rfl)
    | 1, ho =>
      simp only [List.getElem?_cons_succ, List.getElem?_cons_zero, Option.some.injEq] at ho
      subst ho
      first | (simp [Region.binds] at hd; simp only [hd] at hK) | skip
      refine wpOp_step rfl fun K' hK' => ?_
      go_simp
      exact hK' _ _ (hK _ _ (Below.refl _ _) rfl)
    | 2, ho =>
      simp only [List.getElem?_cons_succ, List.getElem?_cons_zero, Option.some.injEq] at ho
      subst ho
      first | (simp [Region.binds] at hd; simp only [hd] at hK) | skip
      refine wpOp_step rfl fun K' hK' => ?_
      go_simp
      refine (clone_any _ (a.sh) _ (hs2.mono (((Below.refl w2.heap.size w2)).trans (hbr.mono (Nat.le_refl _))))).mono ?_
      rintro e w1 ⟨A1, c1, rfl, ho, hb1⟩
      try simp only [length_ints] at ho hK' ⊢
      have hz := hbr.size
      try simp only [World.size_alloc] at hz
      exact hK' _ _ (hK _ _ hb1 ⟨A1, c1, rfl, ho, fun b e => (ho.lt e).2, by omega⟩)
    | 3, ho =>
      simp only [List.getElem?_cons_succ, List.getElem?_cons_zero, Option.some.injEq] at ho
      subst ho
      first | (simp [Region.binds] at hd; simp only [hd] at hK) | skip
      refine wpOp_step rfl fun K' hK' => ?_
      go_simp
      exact hK' _ _ (hK _ _ (Below.refl _ _) rfl)
    | 4, ho =>
      simp only [List.getElem?_cons_succ, List.getElem?_cons_zero, Option.some.injEq] at ho
      subst ho
      first | (simp [Region.binds] at hd; simp only [hd] at hK) | skip
      refine wpOp_step rfl fun K' hK' => ?_
      go_simp
      exact hK' _ _ (hK _ _ (Below.refl _ _) rfl)
    | 5, ho =>
      simp only [List.getElem?_cons_succ, List.getElem?_cons_zero, Option.some.injEq] at ho
      subst ho
      first | (simp [Region.binds] at hd; simp only [hd] at hK) | skip
      refine wpOp_step rfl fun K' hK' => ?_
      go_simp
      exact hK' _ _ (hK _ _ (Below.refl _ _) rfl)
    | 6, ho =>
      simp only [List.getElem?_cons_succ, List.getElem?_cons_zero, Option.some.injEq] at ho
      subst ho
      first | (simp [Region.binds] at hd; simp only [hd] at hK) | skip
      have hz := hbr.size
      try simp only [World.size_alloc] at hz
      refine wpOp_step rfl fun K' hK' => ?_
      go_simp
      exact hK' _ _ (hK _ _ (below_one _ _) ⟨_, rfl, Row.made _ _, Nat.le_refl _, by simp, by omega⟩)
    | 7, ho =>
      simp only [List.getElem?_cons_succ, List.getElem?_cons_zero, Option.some.injEq] at ho
      subst ho
      obtain ⟨A', c', es, os, ls, zs⟩ := hd ⟨2, .data⟩ (by simp) rfl
      obtain ⟨m, ed, od, md, ld, zd⟩ := hd ⟨6, .data⟩ (by simp) rfl
      have hdj := hj ⟨2, .data⟩ (by simp) ⟨6, .data⟩ (by simp) rfl rfl (by simp)
      dsimp only at os ls zs od md ld zd hdj
      simp only [es, ed] at hK
      rw [es] at os ls
      have hne : (Value.slice A' a.sh.length c').ownBlock ≠ some m := fun e => by have h1 := (os.lt e).1; have h2 := ls m e; omega
      refine wpOp_step rfl fun K' hK' => ?_
      go_simp
      exact hK' _ _ (hK _ _ (Below.refl _ _) ⟨A', c', m, rfl, os.base (by omega), od, by omega, hne⟩)
    | 8, ho =>
      simp only [List.getElem?_cons_succ, List.getElem?_cons_zero, Option.some.injEq] at ho
      subst ho
      first | (simp [Region.binds] at hd; simp only [hd] at hK) | skip
      have hz := hbr.size
      try simp only [World.size_alloc] at hz
      refine wpOp_step rfl fun K' hK' => ?_
      go_simp
      exact hK' _ _ (hK _ _ (below_one _ _) ⟨_, rfl, Box.new _ _ _, by omega⟩)
    | i + 9, ho => simp at hi; omega
  case last =>
    simp only [putAll, Act.put, List.setIfInBounds_toArray, List.set_cons_zero, List.set_cons_succ, Nat.reduceAdd, Nat.zero_add]
    intro uu wr lo up hbr hv hj
    obtain ⟨A', c', m, e9, o4, r8, m8, hne⟩ := hv 7 (by simp)
    obtain ⟨g, e10, bg, hg⟩ := hv 8 (by simp)
    obtain ⟨g0, g1, g2⟩ := bg.three
    have gf := bg.frozen
    simp only [e9, e10]
    clear hv hj e9 e10
    refine wpOp_step rfl fun K' hK' => ?_
    go_simp
    refine hK' _ _ ?_
    have hbw := ((Below.refl w2.heap.size w2)).trans (hbr.mono (Nat.le_refl _))
    have hgg := grownBy_three wr g (.bool false) (.slice A' a.sh.length c') (.slice (some ⟨m, 0, none⟩) a.da.length a.da.length)
    have i1 := ((bg.store 0 (.bool false)).store 1 (.slice A' a.sh.length c')).store 2 (.slice (some ⟨m, 0, none⟩) a.da.length a.da.length)
    simp only [List.setIfInBounds_toArray, List.set_cons_zero, List.set_cons_succ] at i1
    have i3 := o4.kept hgg (.inr (o4.ne_box bg (by decide)))
    have hgm : g ≠ m := Box.apart bg r8 (by decide)
    have i2 : Row _ m _ := Box.grown r8 hgg (by intro e; injection e with e; exact hgm e)
    have iw := hbw.grown hgg hbw.size (fun j e => by cases e; omega)
    have hgl : g < (((wr.setCell ⟨g, 0, none⟩ (.bool false)).setCell ⟨g, 1, none⟩ (.slice A' a.sh.length c')).setCell ⟨g, 2, none⟩ (.slice (some ⟨m, 0, none⟩) a.da.length a.da.length)).heap.size := i1.lt
    clear hbr hgg o4 r8 bg g0 g1 g2 gf hbw hK' 
    generalize (((wr.setCell ⟨g, 0, none⟩ (.bool false)).setCell ⟨g, 1, none⟩ (.slice A' a.sh.length c')).setCell ⟨g, 2, none⟩ (.slice (some ⟨m, 0, none⟩) a.da.length a.da.length)) = W2 at i3 i2 i1 iw hgl ⊢

    have hX := isin_len a b
    obtain ⟨X, eX⟩ : ∃ X, X = (isin a b).da := ⟨_, rfl⟩
    have i2' : Row W2 m (FillTo X 0) := by rw [fillTo_zero, eX, hX]; exact i2
    rw [← eX] at hX
    have HX := Lib.hid hX
    have HEX := Lib.hid eX
    have HNE := Lib.hid hne
    have hgm2 : g ≠ m := Box.apart i1 i2 (by decide)
    have HGM := Lib.hid hgm2
    clear hX eX hne i2 hgm2 t0 t1 t2 u0 u1 u2 hmk
    obtain ⟨t0, t1, t2⟩ := (bA2.below iw).three
    go_wp2_with fail
    clear t0 t1 t2
    go_loopw [33] (fun i wr => ∃ k : Nat, k ≤ a.da.length ∧ i = .int .i64 k ∧ Row wr m (FillTo X k) ∧ Box wr g 24 #[.bool false, .slice A' a.sh.length c', .slice (some ⟨m, 0, none⟩) a.da.length a.da.length] ∧
        Owns wr w2.heap.size (.slice A' a.sh.length c') a.sh.length a.sh ∧ Below w2.heap.size w2 wr) (fun i _ => a.da.length - (intOf i).toNat)
    case atStart => exact ⟨0, Nat.zero_le _, rfl, i2', i1, i3, iw⟩
    case round =>
      clear i2' i1 i3 iw
      obtain ⟨k, hk, rfl, hr, bo, ho, hbl⟩ := hrel
      rcases Nat.lt_or_ge k a.da.length with hlt | hge
      · obtain ⟨ad, x, rfl, hx, hal, hcx⟩ := Elems.later D4.out (hbw2.trans (hbl.mono hbw2.size)) hlt
        have hwx := HW.out.at_ hx
        obtain ⟨nm, Dm, hown, hti⟩ := hfm.mono hbl
        have hhas := hti.2.1 x hwx
        have hkey : keyOf Tryd.prog 3 (.int .i64 x) = some (.int .i64 x) := Maps.keyOf_int_mk Tryd.underlying3 hwx
        have hXk : X[k]? = some (if hasB b a.ch x then 1 else 0) := by rw [HEX.out]; exact isin_at hx
        obtain ⟨t0, t1, t2⟩ := (bA2.below hbl).three
        obtain ⟨u0, u1, u2⟩ := (bB2.below hbl).three
        obtain ⟨g0, g1, g2⟩ := bo.three
        have gf := Box.frozen hr k
        have gk := hr.at_ (fillTo_at (X := X) (k := k) (by rw [HX.out]; exact hlt))
        have HXK := Lib.hid hXk
        clear hx hti hwx hXk
        by_cases hm : x ∈ b.da
        · rw [decide_eq_true hm] at hhas
          have HM := Lib.hid hm
          clear hm
          by_cases hc : a.ch = b.ch
          · have e1 : (a.ch == b.ch) = true := by simp [hc]
            have HC := Lib.hid hc
            clear hc
            have hx1 : X[k]? = some 1 := by rw [HXK.out, if_pos (hasB_iff.2 ⟨HM.out, HC.out⟩)]
            have hs1 := hr.store k 1
            rw [fillTo_set hx1] at hs1
            have HS1 := Lib.hid hs1
            clear hx1 hs1
            go_wp2_with (at_lookup; refine wpList_lookup_own_ok_int _ rfl _ _ 64 rfl 3 3 .i64 int_keys Tryd.underlying64 Tryd.underlying3 (int_zero _) gm nm _ rfl hown _ _ rfl hkey ?_; intro c hat hwc; rw [hhas])
            go_roundw
            case rel => exact ⟨k + 1, by omega, by go_num, HS1.out, bo.far (p := ⟨m, k, none⟩) HGM.out _, ho.setCell (p := ⟨m, k, none⟩) HNE.out _, hbl.setCell (p := ⟨m, k, none⟩) (by simp; omega) _⟩
            case measure => simp [intOf]; omega
          · have e1 : (a.ch == b.ch) = false := by simp [hc]
            have HC := Lib.hid hc
            clear hc
            have hx1 : X[k]? = some 0 := by rw [HXK.out, if_neg (fun h => HC.out (hasB_iff.1 h).2)]
            have hs1 := hr
            rw [fillTo_skip hx1] at hs1
            have HS1 := Lib.hid hs1
            clear hx1 hs1
            go_wp2_with (at_lookup; refine wpList_lookup_own_ok_int _ rfl _ _ 64 rfl 3 3 .i64 int_keys Tryd.underlying64 Tryd.underlying3 (int_zero _) gm nm _ rfl hown _ _ rfl hkey ?_; intro c hat hwc; rw [hhas])
            go_roundw
            case rel => exact ⟨k + 1, by omega, by go_num, HS1.out, bo, ho, hbl⟩
            case measure => simp [intOf]; omega
        · rw [decide_eq_false hm] at hhas
          have HM := Lib.hid hm
          clear hm
          have hx1 : X[k]? = some 0 := by rw [HXK.out, if_neg (fun h => HM.out (hasB_iff.1 h).1)]
          have hs1 := hr
          rw [fillTo_skip hx1] at hs1
          have HS1 := Lib.hid hs1
          clear hx1 hs1
          go_wp2_with (at_lookup; refine wpList_lookup_own_ok_int _ rfl _ _ 64 rfl 3 3 .i64 int_keys Tryd.underlying64 Tryd.underlying3 (int_zero _) gm nm _ rfl hown _ _ rfl hkey ?_; intro c hat hwc; rw [hhas])
          go_roundw
          case rel => exact ⟨k + 1, by omega, by go_num, HS1.out, bo, ho, hbl⟩
          case measure => simp [intOf]; omega
      · have hke : k = a.da.length := by omega
        subst hke
        have hfx : FillTo X a.da.length = (isin a b).da := by rw [← HEX.out, ← HX.out]; exact fillTo_all _
        rw [hfx] at hr
        have iS := ho.isInts
        have iD := hr.isInts (n := a.da.length) (isin_len a b).symm (by omega)
        have bR3 := bR2.below hbl
        have hbw3 := hbw2.trans (hbl.mono hbw2.size)
        obtain ⟨g0, g1, g2⟩ := bo.three
        have hgl := bo.lt
        have zl := bR3.lt
        obtain ⟨z0, z1, z2⟩ := bR3.three
        have zf := bR3.frozen
        have hX := isin_len a b
        have hia : IsArr wr (.agg #[.bool false, .slice A' a.sh.length c', .slice (some ⟨m, 0, none⟩) a.da.length a.da.length]) (isin a b) := ⟨_, _, rfl, iS, iD⟩
        clear hfx hr iS iD hX
        have HIA := Lib.hid hia
        clear hia
        go_wp2_with fail
        refine bodyPost_ret (v := .tuple #[.agg #[.bool false, .slice A' a.sh.length c', .slice (some ⟨m, 0, none⟩) a.da.length a.da.length], .nilIface]) (by simp [results, Tryd.results17, go_sem, zl, z0, z1, z2]; first | done | rfl | exact ⟨rfl, rfl, rfl⟩) rfl ?_
        exact ⟨_, rfl, HIA.out.stored bR3 _ _ _, by have := hbw3.size; go_grown⟩

theorem in_told {va vb : Value} {a b : Arr} {w : World} (ha : IsArr w va a) (hb : IsArr w vb b) (hwa : Wf a.da) (hwb : Wf b.da) : Calls Tryd.prog 17 #[va, vb] w (Told (isin a b) (twoErr a b) w) := by
  by_cases h : twoErr a b = 0
  · exact (in_gives ha hb hwa hwb h).mono fun e w' p => .inl ⟨h, p⟩
  · exact (in_bad ha hb h).mono fun e w' p => .inr ⟨h, p⟩

end Go.Proofs.YtfecokkgdojcdaaDoor
