/- The walk of the law GradeSorts. Conditions: none. -/
import Derived.Test.YtfaojciballhnaaDoorRefGraded
import Derived.Test.YtfaojciballhnaaDoorSortTold
import Derived.Test.YtfaojciballhnaaDoorJoined
import Derived.Test.YtfaojciballhnaaDoorAsErr
import Derived.Test.YtfaojciballhnaaDoorAlike
set_option linter.unusedSimpArgs false
set_option linter.unusedVariables false
namespace Go.Proofs.YtfaojciballhnaaDoor
open Go Go.RowKit Go.Proofs.YtfaojciballhnaaDoor.P
/-- Behind the reference's part: the program's answer is compared with it. -/
theorem isArr_agg {w : World} {a : Arr} {s d : Value} (h1 : IsInts w s a.sh) (h2 : IsInts w d a.da) : IsArr w (.agg #[.bool a.ch, s, d]) a := ⟨s, d, rfl, h1, h2⟩
set_option maxRecDepth 100000 in
set_option maxHeartbeats 8000000 in
theorem gradeSorts_walk (v : Value) (a : Arr) (w : World) (hg : Laid0 w) (ha : IsArr w v a) :
    Calls Tryd.prog 4 #[v] w (Says w) := by
  obtain ⟨A, ca, D, cd, rfl, hs, hd⟩ := ha.open_
  have HG := Lib.hid hg
  have HA := Lib.hid ha
  have HS := Lib.hid hs
  have HD := Lib.hid hd
  have hb0 := below_one w (.cells #[.bool a.ch, .slice A a.sh.length ca, .slice D a.da.length cd] 24)
  have b0 := Box.new w 24 #[.bool a.ch, .slice A a.sh.length ca, .slice D a.da.length cd]
  by_cases hE : gradeErr a = 0
  · obtain ⟨n, t, ht⟩ := gradeErr_zero hE
    have H1 := Lib.hid (fun (W : World) (h : Below w.heap.size w W) => graded_ok false (ha.mono h) ht)
    have H2 := Lib.hid (fun (W : World) (h : Below w.heap.size w W) => rows_any (ha.mono h) ht)
    have H3 := Lib.hid (fun (W : World) (h : Below w.heap.size w W) => sort_any (ha.mono h) ht)
    have hr : a.rows = n := by unfold Arr.rows; rw [ht.nsh_eq]; rfl
    have hl : a.long = prod t := by unfold Arr.long; rw [ht.nsh_eq]; rfl
    obtain ⟨L, hL⟩ : ∃ L, L = prod t := ⟨_, rfl⟩
    have HDL := Lib.hid (show a.da.length = n * L by rw [hL, ht.len]; rfl)
    have hn4 : n ≤ 4096 := ht.good.2.1 n (by simp)
    have HP4 := Lib.hid (show n * L ≤ 4096 by rw [hL]; exact ht.good.2.2)
    have hs6 : a.sh.length ≤ 6 := by rw [ht.sh, length_ints]; exact ht.good.1
    obtain ⟨X, hX⟩ : ∃ X, X = gradeOf false (rowOf a.da (prod t)) n := ⟨_, rfl⟩
    have HO := Lib.hid (show IsOrd (fun x y : Nat => decide (cOf false (rowOf a.da (prod t) x) (rowOf a.da (prod t) y) < 0)) n X by rw [hX]; exact ordOf_is (cOf_swo false _) n)
    have HSO := Lib.hid (show sortOf a = ⟨a.ch, a.sh, X.flatMap (rowOf a.da L)⟩ by unfold sortOf; rw [hr, hl, hX, hL])
    have HXL := Lib.hid (show X.length = n from HO.out.length)
    rw [← hX] at H1
    obtain ⟨M, hM⟩ : ∃ M : Nat, M = if n = 0 then 0 else prod t := ⟨_, rfl⟩
    have HM := Lib.hid (show 1 ≤ n → M = L from fun h => by rw [hM, hL, if_neg (by omega)])
    rw [← hM] at H2
    clear hg ha hs hd hE ht hr hl hL hX hM
    go_enter Tryd.func4, Tryd.ntmps4
    obtain ⟨t0, t1, t2⟩ := b0.three
    go_wp2_with fail
    refine (H1.out _ hb0).mono ?_
    rintro e w1 ⟨r1, rfl, hr1, hb1⟩
    obtain ⟨P, cp, rfl, cp1, cp2, cp3, EP, HP⟩ := hr1.open_
    rw [length_ints, HXL.out] at cp1 ⊢
    have HEP := Lib.hid EP
    have hbw1 := hb0.trans (hb1.mono hb0.size)
    have b1 := b0.below hb1
    clear t0 t1 t2 b0 hb0 hb1 hr1 EP HP cp3
    have l1 := b1.lt
    obtain ⟨y0, y1, y2⟩ := b1.three
    have ne1 : ¬ w.heap.size = w1.heap.size := by omega
    have ne2 : ¬ w1.heap.size = w.heap.size := by omega
    have b2 := b1.alloc (.cells #[.bool a.ch, .slice none 0 0, .slice none 0 0] 24)
    have i2 := Box.new w1 24 #[.bool a.ch, .slice none 0 0, .slice none 0 0]
    have hB2 := below_one w1 (.cells #[.bool a.ch, .slice none 0 0, .slice none 0 0] 24)
    have z0 := Box.new w1 24 #[.bool false, .slice none 0 0, .slice none 0 0]
    obtain ⟨u0, u1, u2⟩ := z0.three
    have uf := z0.frozen
    have ul := z0.lt
    obtain ⟨t0, t1, t2⟩ := (b1.alloc (.cells #[.bool false, .slice none 0 0, .slice none 0 0] 24)).three
    obtain ⟨s0, s1, s2⟩ := b2.three
    go_wp2_with fail
    have hbw2 := hbw1.trans (hB2.mono hbw1.size)
    refine (joined_any _ _ a.sh [] _ (HS.out.mono hbw2) (nil_ints _) (by simp; omega)).mono ?_
    rintro e w3 ⟨A', c', rfl, ho3, hb3⟩
    simp only [List.length_nil, Nat.add_zero, List.append_nil] at ho3 ⊢
    obtain ⟨g, hgg⟩ : ∃ g, g = w1.heap.size := ⟨_, rfl⟩
    have hgw : w.heap.size < g := by omega
    have i3 := i2.below hb3
    have hB3 := hB2.trans (hb3.mono hB2.size)
    have hbw3 := hbw2.trans (hb3.mono hbw2.size)
    have b3 := b2.below hb3
    have hgS : w1.heap.size < w3.heap.size := i3.lt
    rw [← hgg] at i3 hgS hB3 ⊢
    have HGG := Lib.hid hgg
    have hg1 : g ≤ w1.heap.size := by omega
    have HOS := Lib.hid (ho3.setCell (p := ⟨g, 1, none⟩) (ho3.ne_box i3 (by decide)) (.slice A' a.sh.length c'))
    have i4 := i3.store 1 (.slice A' a.sh.length c')
    simp only [List.setIfInBounds_toArray, List.set_cons_zero, List.set_cons_succ] at i4
    have b4 := b3.far (p := ⟨g, 1, none⟩) (by simp; omega) (.slice A' a.sh.length c')
    have hB4 := hB3.setCell (p := ⟨g, 1, none⟩) (by simp) (.slice A' a.sh.length c')
    have hbw4 := hbw3.setCell (p := ⟨g, 1, none⟩) (by simp; omega) (.slice A' a.sh.length c')
    have hsz4 : (w3.setCell ⟨g, 1, none⟩ (.slice A' a.sh.length c')).heap.size = w3.heap.size := World.size_setCell _ _ _
    have hgS4 : g < (w3.setCell ⟨g, 1, none⟩ (.slice A' a.sh.length c')).heap.size := by rw [hsz4]; exact hgS
    obtain ⟨x0, x1, x2⟩ := i3.three
    have xf := i3.frozen
    obtain ⟨v0, v1, v2⟩ := b3.three
    obtain ⟨s0', s1', s2'⟩ := b4.three
    have ne3 : ¬ w.heap.size = g := by omega
    have ne4 : ¬ g = w.heap.size := by omega
    clear t0 t1 t2 s0 s1 s2 u0 u1 u2 uf ul z0 y0 y1 y2 ne1 ne2 b1 b2 i2 hb3 hsz4 hB2 hbw2 hgg
    go_wp2_with fail
    obtain ⟨w4, hw4⟩ : ∃ w4, w4 = w3.setCell ⟨g, 1, none⟩ (.slice A' a.sh.length c') := ⟨_, rfl⟩
    rw [← hw4] at HOS i4 b4 hB4 hbw4 hgS4 ⊢
    clear hw4 x0 x1 x2 xf v0 v1 v2 s0' s1' s2' i3 b3 hB3 hbw3 hgS ho3
    refine (H2.out _ hbw4).mono ?_
    rintro e w5 ⟨rfl, hb5⟩
    have hbw5 := hbw4.trans (hb5.mono hbw4.size)
    have hB5 := hB4.trans (hb5.mono (Nat.le_trans hg1 hB4.size))
    have b5 := b4.below hb5
    have i5 := i4.below hb5
    have HOS5 := Lib.hid (HOS.out.below hb5)
    have hg5 := i5.lt
    clear b4 i4 hbw4 hB4 hb5 HOS hgS4
    go_wp2_with fail
    have HB51 := Lib.hid (show Below w1.heap.size w1 w5 by have h := hB5; rwa [HGG.out] at h)
    have HE5 := Lib.hid (HEP.out.mono HB51.out)
    have HSI5 := Lib.hid HOS5.out.isInts
    have HI5 := Lib.hid i5
    clear hB5 HOS5
    go_loopw [8] (fun s8 wr => ∃ (i m : Nat) (A5 : Option Addr) (c5 : Nat), i ≤ n ∧ s8 = .int .i64 i ∧ Hid (m = i * L) ∧ Hid (KeptBut g w5 wr) ∧ Box wr w.heap.size 24 #[.bool a.ch, .slice A a.sh.length ca, .slice D a.da.length cd] ∧ Box wr g 24 #[.bool a.ch, .slice A' a.sh.length c', .slice A5 m c5] ∧
        Owns wr w5.heap.size (.slice A5 m c5) m (catTo (rowOf a.da L) X i) ∧ Below w.heap.size w wr) (fun s8 _ => n - (intOf s8).toNat)
    case atStart => exact ⟨0, 0, none, 0, Nat.zero_le _, rfl, Lib.hid (Nat.zero_mul L).symm, Lib.hid (KeptBut.refl g w5), b5, i5, by rw [catTo_zero]; exact Owns.nil _ _, hbw5⟩
    case round =>
      clear b5 i5 hbw5
      obtain ⟨i, m, A5, c5, hi, rfl, HM2, HK, bA, bO, ho, hbw⟩ := hrel
      rcases Nat.lt_or_ge i n with hlt | hge
      · have hML : M = L := HM.out (by omega)
        subst hML
        obtain ⟨ap, x, hap, hx, hapl, hcx⟩ := (HK.out.elems HI5.out (noInts_arr _ _ _ _ _ _ _) HE5.out).at_ (k := i) (by rw [length_ints, HXL.out]; exact hlt)
        subst hap
        obtain ⟨x', hx', rfl⟩ : ∃ x', X[i]? = some x' ∧ ((x' : Nat) : Int) = x := by simpa [ints] using hx
        have hxn : x' < n := HO.out.lt (List.mem_of_getElem? hx')
        have HCAT := Lib.hid (catTo_succ (r := rowOf a.da M) hx')
        obtain ⟨p1, hp1⟩ : ∃ q, q = x' * M := ⟨_, rfl⟩
        have lx := rowOf_length HDL.out hxn
        have hrp := (row_piece HD.out HDL.out hxn).mono hbw
        rw [lx, ← hp1] at hrp
        have q1 : p1 + M ≤ a.da.length := by
          rw [HDL.out, hp1]
          have := Nat.mul_le_mul_right M (show x' + 1 ≤ n from hxn)
          rwa [Nat.add_mul, Nat.one_mul] at this
        have hd4 : a.da.length ≤ 4096 := by rw [HDL.out]; exact HP4.out
        have hac : a.da.length ≤ cd := by obtain ⟨_, _, e, h1, -⟩ := HD.out; injection e with _ _ e3; omega
        have m1 : (x' : Int) * (M : Int) = (p1 : Int) := by rw [hp1]; push_cast; rfl
        have u1 : IntKind.i64.wrap (p1 : Int) = (p1 : Int) := IntWalk.i64_in _ (by omega)
        have u3 : IntKind.i64.wrap ((p1 : Int) + (M : Int)) = (p1 : Int) + (M : Int) := IntWalk.i64_in _ (by omega)
        have u5 : IntKind.i64.wrap ((i : Int) + 1) = (i : Int) + 1 := IntWalk.i64_in _ (by omega)
        have E1 := fun w => slice_run (D := D) (len := a.da.length) (cd := cd) (lo := p1) (L := M) (by omega) rfl w
        generalize (if cd = p1 then D else D.map fun a => a.add p1) = Q6 at hrp E1
        obtain ⟨c6, hc6⟩ : ∃ c6, c6 = cd - p1 := ⟨_, rfl⟩
        rw [← hc6] at hrp E1
        have HE6 := Lib.hid (show Elems wr Q6 (rowOf a.da M x') by
          obtain ⟨_, _, e, _, _, _, _, h9⟩ := hrp
          injection e with e1 _ _
          subst e1
          exact h9)
        have HN6 := Lib.hid (show Q6 = none → c6 = 0 by
          obtain ⟨_, _, e, _, _, _, h8, _⟩ := hrp
          injection e with e1 _ e3
          subst e1 e3
          exact h8)
        have HLR := Lib.hid lx
        obtain ⟨t0, t1, t2⟩ := bA.three
        obtain ⟨g0, g1, g2⟩ := bO.three
        have tl := bA.lt
        have hlg := bO.lt
        have gf := bO.frozen
        have hmL : m + M ≤ 4096 := by
          have h1 := Nat.mul_le_mul_right M (show i + 1 ≤ n from hlt)
          rw [Nat.add_mul, Nat.one_mul, ← HM2.out] at h1
          exact Nat.le_trans h1 HP4.out
        have HM3 := Lib.hid (show m + M = (i + 1) * M by rw [Nat.add_mul, Nat.one_mul, ← HM2.out])
        have hsz5 := HK.out.1
        clear hx hx' lx hrp q1 hp1 hc6
        go_wp2_with fail
        go_region_law
          ((refine step_append_ints _ rfl rfl _ _ (by rfl) w5.heap.size m (.slice A5 m c5) (catTo (rowOf a.da M) X i) (by rfl) (ho.drewN _) Q6 M c6 (rowOf a.da M x') (by rfl) HN6.out HE6.out HLR.out (by omega) (by simp; omega) ?_; intro A7 c7 w7 hown7 hgrow7 hat7; have b7 := Box.grown (w := wr.drewN _) (bO.drewN _) hgrow7 (ho.ne_box bO (by decide)); have hc7 := b7.three.2.2; have hf7 := b7.frozen 2))
        all_goals
          go_wp2_with fail
          go_roundw
          case rel => exact ⟨i + 1, m + M, A7, c7, hlt, by go_num, HM3, Lib.hid (KeptBut.step HK.out hgrow7 (fun b e => (ho.lt e).1)), (Box.grown (w := wr.drewN _) (bA.drewN _) hgrow7 (ho.ne_low (by omega))).far (p := ⟨g, 2, none⟩) (by simp; omega) _, b7.store 2 _, by rw [HCAT.out]; exact hown7.setCell (p := ⟨g, 2, none⟩) (hown7.ne_box b7 (by decide)) _, ((hbw.trans (below_draws _ _ _)).grown hgrow7 (by have := hbw.size; simp; omega) (fun j e => by have := (ho.lt e).1; omega)).setCell (p := ⟨g, 2, none⟩) (by simp; omega) _⟩
          case measure => simp [intOf]; omega
      · obtain rfl : i = n := by omega
        have HCT := Lib.hid (show catTo (rowOf a.da L) X i = X.flatMap (rowOf a.da L) by unfold catTo; rw [List.take_of_length_le (by rw [HXL.out]; exact Nat.le_refl _)])
        have hSI : IsInts wr (.slice A' a.sh.length c') a.sh := by
          obtain ⟨A9, c9, e, x1, x2, x3, x4, x5⟩ := HSI5.out
          injection e with e1 _ e3
          subst e1 e3
          exact ⟨_, _, rfl, x1, x2, x3, x4, HK.out.elems HI5.out (noInts_arr _ _ _ _ _ _ _) x5⟩
        have hDI := ho.isInts
        rw [HCT.out] at hDI
        have hdm : m = (X.flatMap (rowOf a.da L)).length := by obtain ⟨_, _, e, -⟩ := hDI; injection e with _ e2 _
        have HWT := Lib.hid (show IsArr wr (.agg #[.bool a.ch, .slice A' a.sh.length c', .slice A5 m c5]) (sortOf a) by rw [HSO.out]; exact ⟨_, _, rfl, hSI, by rw [hdm] at hDI ⊢; exact hDI⟩)
        obtain ⟨t0, t1, t2⟩ := bA.three
        have HBO := Lib.hid bO
        have HBW := Lib.hid hbw
        clear hSI hDI ho hdm bO hbw
        go_wp2_with fail
        refine (H3.out _ HBW.out).mono ?_
        rintro e w6 ⟨r6, rfl, hr6, hb6⟩
        obtain ⟨A6, ca6, D6, cd6, rfl, -, -⟩ := hr6.open_
        have HR6 := Lib.hid hr6
        have hbw6 := HBW.out.trans (hb6.mono HBW.out.size)
        have b6 := bA.below hb6
        have o6 := HBO.out.below hb6
        have HWT6 := Lib.hid (HWT.out.mono hb6)
        have lo6 := o6.lt
        clear t0 t1 t2 bA hb6 hr6
        have b8 := Box.new w6 24 #[.bool (sortOf a).ch, .slice A6 (sortOf a).sh.length ca6, .slice D6 (sortOf a).da.length cd6]
        have hb8 := below_one w6 (.cells #[.bool (sortOf a).ch, .slice A6 (sortOf a).sh.length ca6, .slice D6 (sortOf a).da.length cd6] 24)
        have o8 := o6.alloc (.cells #[.bool (sortOf a).ch, .slice A6 (sortOf a).sh.length ca6, .slice D6 (sortOf a).da.length cd6] 24)
        obtain ⟨s0, s1, s2⟩ := b8.three
        obtain ⟨v0, v1, v2⟩ := o8.three
        obtain ⟨x0, x1, x2⟩ := o6.three
        have HIS := Lib.hid (is_yes 0 _ _ (sortOf a) _ (HG.out.mono (hbw6.trans (hb8.mono hbw6.size))) (HR6.out.mono hb8) (HWT6.out.mono hb8))
        rw [errV_zero] at HIS
        have hbw8 := hbw6.trans (hb8.mono hbw6.size)
        clear b8 hb8 o8 o6 hbw6 b6
        go_wp2_with fail
        refine HIS.out.mono ?_
        rintro e w9 ⟨rfl, hb9⟩
        have hbw9 := hbw8.trans (hb9.mono hbw8.size)
        clear hb9 hbw8 s0 s1 s2 v0 v1 v2 x0 x1 x2
        go_wp2_with fail
        go_ret
        exact ⟨rfl, hbw9⟩
  · have H1 := Lib.hid (fun (W : World) (h : Below w.heap.size w W) => graded_bad false (ha.mono h) hE)
    have H3 := Lib.hid (fun (W : World) (h : Below w.heap.size w W) => sort_bad (ha.mono h) hE)
    obtain ⟨K, hK⟩ : ∃ K, K = gradeErr a := ⟨_, rfl⟩
    rw [← hK] at H1 H3 hE
    have HE := Lib.hid hE
    have d1 : (K == 0) = false := by rw [beq_eq_false_iff_ne]; exact hE
    clear hg ha hs hd hK hE
    go_enter Tryd.func4, Tryd.ntmps4
    obtain ⟨t0, t1, t2⟩ := b0.three
    go_wp2_with fail
    refine (H1.out _ hb0).mono ?_
    rintro e w1 ⟨rfl, hb1⟩
    have hbw1 := hb0.trans (hb1.mono hb0.size)
    have b1 := b0.below hb1
    clear t0 t1 t2 b0 hb0 hb1
    have o2 := Box.new w1 24 #[.bool false, .slice none 0 0, .slice none 0 0]
    have b2 := b1.alloc (.cells #[.bool false, .slice none 0 0, .slice none 0 0] 24)
    have hb2 := below_one w1 (.cells #[.bool false, .slice none 0 0, .slice none 0 0] 24)
    have hbw2 := hbw1.trans (hb2.mono hbw1.size)
    obtain ⟨s0, s1, s2⟩ := b2.three
    obtain ⟨t0, t1, t2⟩ := b1.three
    clear b1
    go_wp2_with fail
    refine (H3.out _ hbw2).mono ?_
    rintro e w3 ⟨rfl, hb3⟩
    have hbw3 := hbw2.trans (hb3.mono hbw2.size)
    have o3 := o2.below hb3
    clear s0 s1 s2 t0 t1 t2 b2 o2 hb2 hb3 hbw2 hbw1
    have b8 := Box.new w3 24 #[.bool false, .slice none 0 0, .slice none 0 0]
    have hb8 := below_one w3 (.cells #[.bool false, .slice none 0 0, .slice none 0 0] 24)
    have o8 := o3.alloc (.cells #[.bool false, .slice none 0 0, .slice none 0 0] 24)
    obtain ⟨s0, s1, s2⟩ := b8.three
    obtain ⟨v0, v1, v2⟩ := o8.three
    obtain ⟨x0, x1, x2⟩ := o3.three
    have lo3 := o3.lt
    have hbw8 := hbw3.trans (hb8.mono hbw3.size)
    have HIS := Lib.hid (is_yes K _ _ ⟨false, [], []⟩ _ (HG.out.mono hbw8) (isArr_zero _) (isArr_zero _))
    rw [errV_ne HE.out] at HIS
    clear b8 hb8 o8 o3 hbw3
    go_wp2_with fail
    refine HIS.out.mono ?_
    rintro e w9 ⟨rfl, hb9⟩
    have hbw9 := hbw8.trans (hb9.mono hbw8.size)
    clear hb9 hbw8 s0 s1 s2 v0 v1 v2 x0 x1 x2
    go_wp2_with fail
    go_ret
    exact ⟨rfl, hbw9⟩
end Go.Proofs.YtfaojciballhnaaDoor
