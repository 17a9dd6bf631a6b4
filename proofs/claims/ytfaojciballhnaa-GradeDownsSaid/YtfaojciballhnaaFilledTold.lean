/- The walk of each.filled, errors told too. Conditions: what is asked tells a number and an error at each place. -/
import Derived.Test.YtfaojciballhnaaFunnel
import Derived.Test.YtfaojciballhnaaMake
import Derived.Test.YtfaojciballhnaaList
import Derived.Test.YtfaojciballhnaaPair
import Derived.Test.YtfaojciballhnaaStore
set_option linter.unusedSimpArgs false
set_option linter.unusedVariables false
namespace Go.Proofs.Ytfaojciballhnaa
open Go Go.RowKit Go.Proofs.Ytfaojciballhnaa.P

/-- A list told number by number, or the first error. -/
def FillTells (val err : Nat → Int) (n : Nat) (s : List Int) (w : World) (e : Ending) (w' : World) : Prop :=
  ((∀ i, i < n → err i = 0) ∧ GivesOk ⟨false, s, (List.range n).map val⟩ w e w') ∨ (∃ i, i < n ∧ (∀ j, j < i → err j = 0) ∧ err i ≠ 0 ∧ Fails zeroArr (err i) w e w')

set_option maxRecDepth 100000 in
set_option maxHeartbeats 4000000 in
theorem filled_told (vs : Value) (s : List Int) (val err : Nat → Int) (n F : Nat) (caps : Array Value) (w : World) (hs : IsInts w vs s) (hn : n ≤ 4096)
    (hF : ∀ i, i < n → ∀ W, Below w.heap.size w W → Calls Try.prog F (#[.int .i64 i] ++ caps) W fun e W' => e = .returned (.tuple #[.int .i64 (val i), errV (err i)]) ∧ Below W.heap.size W W')
    (hcf : ∀ args W, (callFunc F args).run Try.prog W = .ok (.enter F args) W) :
    Calls Try.prog 34 #[vs, .int .i64 n, .func (.func F) #[] caps] w (FillTells val err n s w) := by
  obtain ⟨X, hXE⟩ : ∃ X, X = (List.range n).map val := ⟨_, rfl⟩
  have HXE := Lib.hid hXE
  have hX : X.length = n := by rw [hXE, List.length_map, List.length_range]
  clear hXE
  obtain ⟨S, cs, rfl, s1, s2, s3, ES0, HS0⟩ := hs.open_
  have HS := Lib.hid HS0
  have HF := Lib.hid hF
  have HX := Lib.hid hX
  have hmk := run_make_list n (by omega)
  have bR0 := Box.new w 24 #[.bool false, .slice none 0 0, .slice none 0 0]
  clear ES0 HS0 hF hX hs
  go_enter Try.func34, Try.ntmps34
  go_wp2_with fail
  refine wp_region_open (fun i v lo hi w' => match i with
    | 0 => v = .slice S s.length cs
    | 1 => ∃ A' c', v = .slice A' s.length c' ∧ Owns w' lo v s.length (s) ∧ (∀ b, v.ownBlock = some b → b < hi) ∧ w.heap.size + 1 ≤ lo
    | 2 => v = .int .i64 n
    | 3 => ∃ m, v = .slice (some ⟨m, 0, none⟩) n n ∧ Row w' m (List.replicate n 0) ∧ lo ≤ m ∧ m < hi ∧ w.heap.size + 1 ≤ lo
    | 4 => ∃ A' c' m, v = .agg #[.bool false, .slice A' s.length c', .slice (some ⟨m, 0, none⟩) n n] ∧ Owns w' (w.heap.size + 1) (.slice A' s.length c') s.length (s) ∧ Row w' m (List.replicate n 0) ∧ w.heap.size + 1 ≤ m ∧ (Value.slice A' s.length c').ownBlock ≠ some m
    | 5 => ∃ g, v = .pointer (some ⟨g, 0, none⟩) ∧ Box w' g 24 #[.bool false, .slice none 0 0, .slice none 0 0] ∧ w.heap.size + 1 ≤ g
    | _ => True) (by kernel_rfl) (by kernel_rfl) (by kernel_rfl) ?hV ?step ?last
  case hV =>
    intro i v lo hi w1 w2 h hb
    match i, h with
    | 0, h => exact h
    | 1, ⟨A', c', e, ho, hl, hz⟩ => exact ⟨A', c', e, ho.below hb, hl, hz⟩
    | 2, h => exact h
    | 3, ⟨m, e, ho, hm, hl, hz⟩ => exact ⟨m, e, Box.below ho hb, hm, hl, hz⟩
    | 4, ⟨A', c', m, e, ho, hr, hm, hne⟩ => exact ⟨A', c', m, e, ho.below hb, Box.below hr hb, hm, hne⟩
    | 5, ⟨g, e, hx, hz⟩ => exact ⟨g, e, hx.below hb, hz⟩
    | i + 6, _ => trivial
  case step =>
    simp only [putAll, Act.put, List.setIfInBounds_toArray, List.set_cons_zero, List.set_cons_succ, Nat.reduceAdd, Nat.zero_add]
    intro i o ho hi uu lo up wr hbr hd hj K hK
    obtain ⟨hcw, hfw⟩ := bcell hbr
    match i, ho with
    | 0, ho =>
      simp only [List.getElem?_cons_zero, Option.some.injEq] at ho
      subst ho
      first | (simp [Region.binds] at hd; simp only [hd] at hK) | skip
      refine wpOp_step rfl fun K' hK' => ?_
      go_simp
      exact hK' _ _ (hK _ _ (Below.refl _ _) rfl)
    | 1, ho =>
      simp only [List.getElem?_cons_succ, List.getElem?_cons_zero, Option.some.injEq] at ho
      subst ho
      first | (simp [Region.binds] at hd; simp only [hd] at hK) | skip
      refine wpOp_step rfl fun K' hK' => ?_
      go_simp
      refine (clone_any _ (s) _ (HS.out.mono ((below_one w _).trans (hbr.mono (by simp))))).mono ?_
      rintro e w1 ⟨A1, c1, rfl, ho, hb1⟩
      try simp only [length_ints] at ho hK' ⊢
      have hz := hbr.size
      try simp only [World.size_alloc] at hz
      exact hK' _ _ (hK _ _ hb1 ⟨A1, c1, rfl, ho, fun b e => (ho.lt e).2, by omega⟩)
    | 2, ho =>
      simp only [List.getElem?_cons_succ, List.getElem?_cons_zero, Option.some.injEq] at ho
      subst ho
      first | (simp [Region.binds] at hd; simp only [hd] at hK) | skip
      refine wpOp_step rfl fun K' hK' => ?_
      go_simp
      exact hK' _ _ (hK _ _ (Below.refl _ _) rfl)
    | 3, ho =>
      simp only [List.getElem?_cons_succ, List.getElem?_cons_zero, Option.some.injEq] at ho
      subst ho
      first | (simp [Region.binds] at hd; simp only [hd] at hK) | skip
      have hz := hbr.size
      try simp only [World.size_alloc] at hz
      refine wpOp_step rfl fun K' hK' => ?_
      go_simp
      exact hK' _ _ (hK _ _ (below_one _ _) ⟨_, rfl, Row.made _ _, Nat.le_refl _, by simp, by omega⟩)
    | 4, ho =>
      simp only [List.getElem?_cons_succ, List.getElem?_cons_zero, Option.some.injEq] at ho
      subst ho
      obtain ⟨A', c', es, os, ls, zs⟩ := hd ⟨1, .data⟩ (by simp) rfl
      obtain ⟨m, ed, od, md, ld, zd⟩ := hd ⟨3, .data⟩ (by simp) rfl
      have hdj := hj ⟨1, .data⟩ (by simp) ⟨3, .data⟩ (by simp) rfl rfl (by simp)
      dsimp only at os ls zs od md ld zd hdj
      simp only [es, ed] at hK
      rw [es] at os ls
      have hne : (Value.slice A' s.length c').ownBlock ≠ some m := fun e => by have h1 := (os.lt e).1; have h2 := ls m e; omega
      refine wpOp_step rfl fun K' hK' => ?_
      go_simp
      exact hK' _ _ (hK _ _ (Below.refl _ _) ⟨A', c', m, rfl, os.base (by omega), od, by omega, hne⟩)
    | 5, ho =>
      simp only [List.getElem?_cons_succ, List.getElem?_cons_zero, Option.some.injEq] at ho
      subst ho
      first | (simp [Region.binds] at hd; simp only [hd] at hK) | skip
      have hz := hbr.size
      try simp only [World.size_alloc] at hz
      refine wpOp_step rfl fun K' hK' => ?_
      go_simp
      exact hK' _ _ (hK _ _ (below_one _ _) ⟨_, rfl, Box.new _ _ _, by omega⟩)
    | i + 6, ho => simp at hi; omega
  case last =>
    simp only [putAll, Act.put, List.setIfInBounds_toArray, List.set_cons_zero, List.set_cons_succ, Nat.reduceAdd, Nat.zero_add]
    intro uu wr lo up hbr hv hj
    obtain ⟨A', c', m, e9, o4, r8, m8, hne⟩ := hv 4 (by simp)
    obtain ⟨g, e10, bg, hg⟩ := hv 5 (by simp)
    obtain ⟨g0, g1, g2⟩ := bg.three
    have gf := bg.frozen
    simp only [e9, e10]
    clear hv hj e9 e10
    refine wpOp_step rfl fun K' hK' => ?_
    go_simp
    refine hK' _ _ ?_
    have hbw := (below_one w _).trans (hbr.mono (by simp))
    have hgg := grownBy_three wr g (.bool false) (.slice A' s.length c') (.slice (some ⟨m, 0, none⟩) n n)
    have i1 := ((bg.store 0 (.bool false)).store 1 (.slice A' s.length c')).store 2 (.slice (some ⟨m, 0, none⟩) n n)
    simp only [List.setIfInBounds_toArray, List.set_cons_zero, List.set_cons_succ] at i1
    have i3 := o4.kept hgg (.inr (o4.ne_box bg (by decide)))
    have hgm : g ≠ m := Box.apart bg r8 (by decide)
    have i2 : Row _ m _ := Box.grown r8 hgg (by intro e; injection e with e; exact hgm e)
    have i4 := Box.grown (Box.below bR0 hbr) hgg (by simp; omega)
    have iw := hbw.grown hgg hbw.size (fun j e => by cases e; omega)
    have hgl : g < (((wr.setCell ⟨g, 0, none⟩ (.bool false)).setCell ⟨g, 1, none⟩ (.slice A' s.length c')).setCell ⟨g, 2, none⟩ (.slice (some ⟨m, 0, none⟩) n n)).heap.size := i1.lt
    clear hbr hgg o4 r8 bg g0 g1 g2 gf hbw hK' 
    generalize (((wr.setCell ⟨g, 0, none⟩ (.bool false)).setCell ⟨g, 1, none⟩ (.slice A' s.length c')).setCell ⟨g, 2, none⟩ (.slice (some ⟨m, 0, none⟩) n n)) = W2 at i3 i2 i4 i1 iw hgl ⊢
    have i2' : Row W2 m (FillTo X 0) := by rw [fillTo_zero, HX.out]; exact i2
    have HNE := Lib.hid hne
    have hgm2 : g ≠ m := Box.apart i1 i2 (by decide)
    have HGM := Lib.hid hgm2
    clear hne i2 hgm2 hmk
    obtain ⟨g0, g1, g2⟩ := i1.three
    go_wp2_with fail
    clear g0 g1 g2
    go_loopw [20] (fun i wr => ∃ k : Nat, k ≤ n ∧ i = .int .i64 k ∧ (∀ j, j < k → err j = 0) ∧ Row wr m (FillTo X k) ∧ Box wr g 24 #[.bool false, .slice A' s.length c', .slice (some ⟨m, 0, none⟩) n n] ∧
        Owns wr (w.heap.size + 1) (.slice A' s.length c') s.length s ∧ Box wr w.heap.size 24 #[.bool false, .slice none 0 0, .slice none 0 0] ∧ Below w.heap.size w wr) (fun i _ => n - (intOf i).toNat)
    case atStart => exact ⟨0, Nat.zero_le _, rfl, fun j h => absurd h (Nat.not_lt_zero _), i2', i1, i3, i4, iw⟩
    case round =>
      clear i2' i1 i3 i4 iw
      obtain ⟨k, hk, rfl, hez, hr, bo, ho, bR, hbl⟩ := hrel
      have HEZ := Lib.hid hez
      clear hez
      have gl := bo.lt
      have ml := Box.lt hr
      rcases Nat.lt_or_ge k n with hlt | hge
      · obtain ⟨x, hxv⟩ : ∃ x, x = val k := ⟨_, rfl⟩
        have hx : X[k]? = some x := by rw [HXE.out, List.getElem?_map, List.getElem?_range hlt, hxv]; rfl
        have hc0 := HF.out k hlt wr hbl
        rw [← hxv] at hc0
        have HX1 := Lib.hid hx
        clear hx hxv
        by_cases hz : err k = 0
        case neg =>
          obtain ⟨ee, hee⟩ : ∃ ee, ee = err k := ⟨_, rfl⟩
          rw [errV_ne hz, ← hee] at hc0
          have hcall := Lib.hid hc0
          have HZ := Lib.hid hz
          have HLT := Lib.hid hlt
          have HEE := Lib.hid hee
          clear hc0 hz hee
          go_wp2_with fail
          refine (hcall.out).mono ?_
          rintro e w4 ⟨rfl, hb4⟩
          have bR4 := bR.below hb4
          obtain ⟨q0, q1, q2⟩ := bR4.three
          have qf := bR4.frozen
          have hzR := bR4.lt
          have hbl4 := hbl.trans (hb4.mono hbl.size)
          clear hb4 hr bo ho bR hbl
          go_wp2_with fail
          refine bodyPost_ret (v := .tuple #[zeroArr, .iface 56 (.int .i64 ee)]) (by simp [results, Try.results34, go_sem, q0, q1, q2, hzR]; first | done | rfl) rfl ?_
          exact .inr ⟨k, HLT.out, HEZ.out, HZ.out, by rw [← HEE.out]; exact ⟨rfl, by have := hbl4.size; go_grown⟩⟩
        rw [hz] at hc0
        have hcall := Lib.hid (show Calls _ _ _ wr fun e W' => e = .returned (.tuple #[.int .i64 x, .nilIface]) ∧ Below wr.heap.size wr W' from hc0)
        have HZ := Lib.hid hz
        clear hc0 hz
        go_wp2_with fail
        refine (hcall.out).mono ?_
        rintro e w4 ⟨rfl, hb4⟩
        have hr4 : Row w4 m (FillTo X k) := Box.below hr hb4
        have bo4 := bo.below hb4
        have ho4 := ho.below hb4
        have bR4 := bR.below hb4
        have hbl4 := hbl.trans (hb4.mono hbl.size)
        clear hr bo ho bR hbl hb4
        obtain ⟨g0, g1, g2⟩ := bo4.three
        have gk := hr4.at_ (fillTo_at (X := X) (k := k) (by rw [HX.out]; exact hlt))
        have gf := Box.frozen hr4 k
        have gl := bo4.lt
        have ml := Box.lt hr4
        have hs1 := hr4.store k x
        rw [fillTo_set HX1.out] at hs1
        have HS1 := Lib.hid hs1
        clear hs1
        go_wp2_with fail
        go_roundw
        case rel => exact ⟨k + 1, by omega, by go_num, fun j hj => by
          rcases Nat.lt_or_ge j k with h | h
          · exact HEZ.out j h
          · obtain rfl : j = k := by omega
            exact HZ.out, HS1.out, bo4.far (p := ⟨m, k, none⟩) HGM.out _, ho4.setCell (p := ⟨m, k, none⟩) HNE.out _, bR4.far (p := ⟨m, k, none⟩) (by simp; omega) _, hbl4.setCell (p := ⟨m, k, none⟩) (by simp; omega) _⟩
        case measure => simp [intOf]; omega
      · have hke : k = n := by omega
        subst hke
        have hfx : FillTo X k = X := by rw [← HX.out]; exact fillTo_all _
        rw [hfx] at hr
        have iS := ho.isInts
        have iD := hr.isInts (n := k) HX.out.symm (by omega)
        obtain ⟨g0, g1, g2⟩ := bo.three
        have gf := bo.frozen
        have zl := bR.lt
        obtain ⟨z0, z1, z2⟩ := bR.three
        have zf := bR.frozen
        have hia : IsArr wr (.agg #[.bool false, .slice A' s.length c', .slice (some ⟨m, 0, none⟩) k k]) ⟨false, s, X⟩ := ⟨_, _, rfl, iS, iD⟩
        have HIA := Lib.hid hia
        clear hia hfx hr iS iD
        go_wp2_with fail
        refine bodyPost_ret (v := .tuple #[.agg #[.bool false, .slice A' s.length c', .slice (some ⟨m, 0, none⟩) k k], .nilIface]) (by simp [results, Try.results34, go_sem, zl, z0, z1, z2]; first | done | rfl | exact ⟨rfl, rfl, rfl⟩) rfl ?_
        refine .inl ⟨HEZ.out, ?_⟩
        rw [← HXE.out]
        exact ⟨_, rfl, IsArr.laid HIA.out bR _ _ _, by have := hbl.size; go_grown⟩

end Go.Proofs.Ytfaojciballhnaa
