/- The walk of cut.Join. Conditions: none. -/
import Derived.Test.YtojeggeimnenbaaDoorMoved
import Derived.Test.YtojeggeimnenbaaDoorAxes
import Derived.Test.YtojeggeimnenbaaDoorGround
set_option linter.unusedSimpArgs false
set_option linter.unusedVariables false
namespace Go.Proofs.YtojeggeimnenbaaDoor
open Go Go.RowKit Go.Proofs.YtojeggeimnenbaaDoor.P

theorem RunTo.next' {t : List Nat} {k j : Nat} {P x : Int} (h : RunTo t k j P) (hkj : k ≤ j) (hj : j < t.length) (hb : prod ((t.drop k).take (j + 1 - k)) ≤ 1000000) (hx : x = ((t.getD j 0 : Nat) : Int)) : RunTo t k (j + 1) (Go.RowKit.wrap64 (P * x)) := by
  subst hx
  exact RunTo.next h hkj hj hb
theorem run_take_le {s : List Nat} (h : prod s ≠ 0) (m : Nat) : prod (s.take m) ≤ prod s := by
  have e : prod s = prod (s.take m) * prod (s.drop m) := by rw [← prod_append, List.take_append_drop]
  rw [e] at h ⊢
  exact Nat.le_mul_of_pos_right _ (Nat.pos_of_ne_zero fun h0 => h (by rw [h0, Nat.mul_zero]))
theorem run_drop_ne {s : List Nat} (h : prod s ≠ 0) (m : Nat) : prod (s.drop m) ≠ 0 ∧ prod (s.drop m) ≤ prod s := by
  have e : prod s = prod (s.take m) * prod (s.drop m) := by rw [← prod_append, List.take_append_drop]
  rw [e] at h ⊢
  exact ⟨fun h0 => h (by rw [h0, Nat.mul_zero]), Nat.le_mul_of_pos_left _ (Nat.pos_of_ne_zero fun h0 => h (by rw [h0, Nat.zero_mul]))⟩
theorem run_le {t : List Nat} {k x y j : Nat} (hg : GoodSh (t.set k y)) (h0 : prod (t.set k y) ≠ 0) (hx : x ≤ y) : prod (((t.set k x).drop k).take (j - k)) ≤ 4096 := by
  have h1 : prod (((t.set k x).drop k).take (j - k)) ≤ prod (((t.set k y).drop k).take (j - k)) := by
    refine prod_mono (by simp) fun i hi => ?_
    simp only [List.length_take, List.length_drop, List.length_set] at hi
    simp only [List.getD_eq_getElem?_getD, List.getElem?_take, List.getElem?_drop, List.getElem?_set]
    split
    · split
      · split
        · simpa using hx
        · exact Nat.le_refl _
      · exact Nat.le_refl _
    · exact Nat.le_refl _
  obtain ⟨h2, h3⟩ := run_drop_ne h0 k
  have h4 := run_take_le h2 (j - k)
  have := hg.2.2
  omega

/-- Some more numbers behind the data of the array that is made. -/
theorem join_step {W wr w4 : World} {d B : Nat} {g gs n cs : Nat} {v0 : Value} {A2 A4 : Option Addr} {c2 c4 p q : Nat} {xs ys ss : List Int}
    (h1 : Box wr g 25 #[v0, .slice (some ⟨gs, 0, none⟩) n cs, .slice A2 p c2]) (h2 : Owns wr (gs + 1) (.slice A2 p c2) p xs) (h3 : Mine wr gs n cs ss) (hg : gs < g) (h5 : Below B W wr) (hB : B ≤ gs) (hW : B ≤ wr.heap.size)
    (hgrow : (wr.drewN d).grownBy w4 (Value.slice A2 p c2).ownBlock) (hown : Owns w4 (gs + 1) (.slice A4 (p + q) c4) (p + q) ys) :
    Box (w4.setCell ⟨g, 2, none⟩ (.slice A4 (p + q) c4)) g 25 #[v0, .slice (some ⟨gs, 0, none⟩) n cs, .slice A4 (p + q) c4] ∧ Owns (w4.setCell ⟨g, 2, none⟩ (.slice A4 (p + q) c4)) (gs + 1) (.slice A4 (p + q) c4) (p + q) ys ∧
      Mine (w4.setCell ⟨g, 2, none⟩ (.slice A4 (p + q) c4)) gs n cs ss ∧ Below B W (w4.setCell ⟨g, 2, none⟩ (.slice A4 (p + q) c4)) ∧
      (∀ b' t cs', b' < gs → Box wr b' t cs' → Box (w4.setCell ⟨g, 2, none⟩ (.slice A4 (p + q) c4)) b' t cs') := by
  have b4 := Box.grown (w := wr.drewN d) (h1.drewN d) hgrow (h2.ne_box h1 (by decide))
  have s := b4.store 2 (.slice A4 (p + q) c4)
  simp only [List.setIfInBounds_toArray, List.set_cons_zero, List.set_cons_succ] at s
  obtain ⟨cc, m1, m2⟩ := h3
  have m4 := (Box.grown (w := wr.drewN d) (m1.drewN d) hgrow (h2.ne_low (by omega))).far (p := ⟨g, 2, none⟩) (by simp; omega) (.slice A4 (p + q) c4)
  refine ⟨s, hown.setCell (p := ⟨g, 2, none⟩) (hown.ne_box b4 (by decide)) _, ⟨cc, m4, m2⟩, ?_, fun b' t cs' hb' hx => ?_⟩
  · exact ((h5.trans (below_draws _ _ d)).grown hgrow hW (fun j e => by have := (h2.lt e).1; omega)).setCell (p := ⟨g, 2, none⟩) (by simp; omega) _
  · exact (Box.grown (w := wr.drewN d) (hx.drewN d) hgrow (h2.ne_low (by omega))).far (p := ⟨g, 2, none⟩) (by simp; omega) _

theorem glue_take1 {a b : Arr} {t : List Nat} {k l r : Nat} (ha : Ok a t) (hb : Ok b (t.set k l)) (hk : k < t.length) (hr : r < outerOf t k) {x y P L : Nat} (hx : x = t.getD k 0 * innerOf t k) (hy : y = l * innerOf t k) (hP : P = r * (x + y)) (hL : L = r * x) :
    (glue k a b).da.take P ++ (a.da.take (L + x)).drop L = (glue k a b).da.take (P + x) := by
  rw [List.drop_take, show L + x - L = x by omega]
  refine take_piece fun i hi => ?_
  rw [hP, hL, hx, hy]
  exact glue_piece1 ha hb hk hr (by rw [← hx]; exact hi)
theorem glue_take2 {a b : Arr} {t : List Nat} {k l r : Nat} (ha : Ok a t) (hb : Ok b (t.set k l)) (hk : k < t.length) (hr : r < outerOf t k) {x y P L : Nat} (hx : x = t.getD k 0 * innerOf t k) (hy : y = l * innerOf t k) (hP : P = r * (x + y)) (hL : L = r * y) :
    (glue k a b).da.take (P + x) ++ (b.da.take (L + y)).drop L = (glue k a b).da.take (P + x + y) := by
  rw [List.drop_take, show L + y - L = y by omega]
  refine take_piece fun i hi => ?_
  rw [hP, hL, hx, hy]
  exact glue_piece2 ha hb hk hr (by rw [← hy]; exact hi)

set_option maxRecDepth 100000 in
set_option maxHeartbeats 4000000 in
theorem join_told {va vb : Value} {axis : Int} {a b : Arr} {w : World} (ha : IsArr w va a) (hb : IsArr w vb b) :
    Calls Tryd.prog 22 #[.int .i64 axis, va, vb] w (Told (glue axis.toNat a b) (joinErr axis a b) w) := by
  obtain ⟨A, ca, D, cd, rfl, hs, hd⟩ := ha.open_
  obtain ⟨A', ca', D', cd', rfl, hs', hd'⟩ := hb.open_
  obtain ⟨_, _, e1, a1, a2, a3, -, a4⟩ := id hs
  cases e1
  obtain ⟨_, _, e1, b1, b2, b3, -, b4⟩ := id hs'
  cases e1
  obtain ⟨_, _, e1, dd1, dd2, dd3, d0, d4⟩ := id hd
  cases e1
  obtain ⟨_, _, e1, f1, f2, f3, f0, f4⟩ := id hd'
  cases e1
  have EA := Lib.hid (show Elems w A a.sh from a4)
  have EB := Lib.hid (show Elems w A' b.sh from b4)
  have DA := Lib.hid (show Elems w D a.da from d4)
  have DB := Lib.hid (show Elems w D' b.da from f4)
  have DA0 := Lib.hid d0
  have DB0 := Lib.hid f0
  have i0 : ∀ w, (Instr.index 71 (.agg #[.bool a.ch, .slice A a.sh.length ca, .slice D a.da.length cd, .bool b.ch, .slice A' b.sh.length ca', .slice D' b.da.length cd']) (.int .i64 0)).run Tryd.prog w = .ok (.agg #[.bool a.ch, .slice A a.sh.length ca, .slice D a.da.length cd]) w := fun _ => by kernel_rfl
  have i1 : ∀ w, (Instr.index 71 (.agg #[.bool a.ch, .slice A a.sh.length ca, .slice D a.da.length cd, .bool b.ch, .slice A' b.sh.length ca', .slice D' b.da.length cd']) (.int .i64 1)).run Tryd.prog w = .ok (.agg #[.bool b.ch, .slice A' b.sh.length ca', .slice D' b.da.length cd']) w := fun _ => by kernel_rfl
  have bA0 := ((Box.new w 25 #[.bool a.ch, .slice A a.sh.length ca, .slice D a.da.length cd]).alloc (.cells #[.bool b.ch, .slice A' b.sh.length ca', .slice D' b.da.length cd'] 25)).alloc (.cells #[.bool false, .slice none 0 0, .slice none 0 0] 25)
  have bB0 := (Box.new (w.alloc (.cells #[.bool a.ch, .slice A a.sh.length ca, .slice D a.da.length cd] 25)) 25 #[.bool b.ch, .slice A' b.sh.length ca', .slice D' b.da.length cd']).alloc (.cells #[.bool false, .slice none 0 0, .slice none 0 0] 25)
  have bR0 := Box.new ((w.alloc (.cells #[.bool a.ch, .slice A a.sh.length ca, .slice D a.da.length cd] 25)).alloc (.cells #[.bool b.ch, .slice A' b.sh.length ca', .slice D' b.da.length cd'] 25)) 25 #[.bool false, .slice none 0 0, .slice none 0 0]
  simp only [World.size_alloc] at bB0 bR0
  have hb0 := below_three w (.cells #[.bool a.ch, .slice A a.sh.length ca, .slice D a.da.length cd] 25) (.cells #[.bool b.ch, .slice A' b.sh.length ca', .slice D' b.da.length cd'] 25) (.cells #[.bool false, .slice none 0 0, .slice none 0 0] 25)
  obtain ⟨t0, t1, t2⟩ := bA0.three
  obtain ⟨u0, u1, u2⟩ := bB0.three
  clear a4 b4 d4 f4 d0 f0 hd hd' hs'
  go_enter Tryd.func22, Tryd.ntmps22
  go_wp2_with fail
  clear t0 t1 t2 u0 u1 u2
  go_loopw [24] (fun s wr => ∃ m : Int, s = .int .i64 m ∧ (m = 0 ∨ (m = 1 ∧ arrErr a = 0) ∨ (m = 2 ∧ arrErr a = 0 ∧ arrErr b = 0)) ∧ Box wr w.heap.size 25 #[.bool a.ch, .slice A a.sh.length ca, .slice D a.da.length cd] ∧ Box wr (w.heap.size + 1) 25 #[.bool b.ch, .slice A' b.sh.length ca', .slice D' b.da.length cd'] ∧ Box wr (w.heap.size + 1 + 1) 25 #[.bool false, .slice none 0 0, .slice none 0 0] ∧ Below w.heap.size w wr) (fun s _ => (2 - intOf s).toNat)
  case atStart => exact ⟨0, rfl, .inl rfl, bA0, bB0, bR0, hb0⟩
  case round =>
    clear bA0 bB0 bR0 hb0
    obtain ⟨m, rfl, hm, bA, bB, bR, hbl⟩ := hrel
    obtain ⟨t0, t1, t2⟩ := bA.three
    obtain ⟨u0, u1, u2⟩ := bB.three
    obtain ⟨q0, q1, q2⟩ := bR.three
    have fR := bR.frozen
    have hzA := bA.lt
    have hzB := bB.lt
    have hzR := bR.lt
    rcases hm with rfl | ⟨rfl, hea⟩ | ⟨rfl, hea, heb⟩
    · go_wp2_with fail
      by_cases c1 : arrErr a = 0
      · obtain ⟨t, ht⟩ := ok_of_arrErr c1
        have HT := Lib.hid ht
        have C1 := Lib.hid c1
        clear c1 ht
        refine (check_ok (ha.mono (hbl.trans ((below_one _ _).mono hbl.size))) HT.out).mono ?_
        rintro e w1 ⟨rfl, hb1⟩
        go_wp2_with fail
        go_roundw
        case rel => exact ⟨1, rfl, .inr (.inl ⟨rfl, C1.out⟩), (bA.alloc _).below hb1, (bB.alloc _).below hb1, (bR.alloc _).below hb1, (hbl.trans ((below_one _ _).mono hbl.size)).trans (hb1.mono (by have := hbl.size; simp; omega))⟩
        case measure => simp [intOf]
      · have e : joinErr axis a b = arrErr a := by unfold joinErr; rw [if_pos c1]
        have HE := Lib.hid e
        have C1 := Lib.hid c1
        clear e c1
        refine (check_bad (ha.mono (hbl.trans ((below_one _ _).mono hbl.size))) C1.out).mono ?_
        rintro e w1 ⟨rfl, hb1⟩
        have bR1 := (bR.alloc _).below hb1
        have hbl1 := (hbl.trans ((below_one _ _).mono hbl.size)).trans (hb1.mono (by have := hbl.size; simp; omega))
        clear bA bB bR hbl t0 t1 t2 u0 u1 u2 q0 q1 q2 fR hzA hzB hzR hb1
        have hbl := hbl1
        obtain ⟨q0, q1, q2⟩ := bR1.three
        have fR := bR1.frozen
        have hzR := bR1.lt
        go_wp2_with fail
        refine bodyPost_ret (v := .tuple #[zeroArr, .iface 26 (.int .i64 (arrErr a))]) (by simp [results, Tryd.results22, go_sem, q0, q1, q2, hzR]) rfl ?_
        exact .inr ⟨by rw [HE.out]; exact C1.out, by rw [HE.out], by have := hbl.size; go_grown⟩
    · go_wp2_with fail
      by_cases c1 : arrErr b = 0
      · obtain ⟨t, ht⟩ := ok_of_arrErr c1
        have HT := Lib.hid ht
        have C1 := Lib.hid c1
        have HEA := Lib.hid hea
        clear c1 ht hea
        refine (check_ok (hb.mono (hbl.trans ((below_one _ _).mono hbl.size))) HT.out).mono ?_
        rintro e w1 ⟨rfl, hb1⟩
        go_wp2_with fail
        go_roundw
        case rel => exact ⟨2, rfl, .inr (.inr ⟨rfl, HEA.out, C1.out⟩), (bA.alloc _).below hb1, (bB.alloc _).below hb1, (bR.alloc _).below hb1, (hbl.trans ((below_one _ _).mono hbl.size)).trans (hb1.mono (by have := hbl.size; simp; omega))⟩
        case measure => simp [intOf]
      · have e : joinErr axis a b = arrErr b := by unfold joinErr; rw [if_neg (by simp [hea]), if_pos c1]
        have HE := Lib.hid e
        have C1 := Lib.hid c1
        clear e c1 hea
        refine (check_bad (hb.mono (hbl.trans ((below_one _ _).mono hbl.size))) C1.out).mono ?_
        rintro e w1 ⟨rfl, hb1⟩
        have bR1 := (bR.alloc _).below hb1
        have hbl1 := (hbl.trans ((below_one _ _).mono hbl.size)).trans (hb1.mono (by have := hbl.size; simp; omega))
        clear bA bB bR hbl t0 t1 t2 u0 u1 u2 q0 q1 q2 fR hzA hzB hzR hb1
        have hbl := hbl1
        obtain ⟨q0, q1, q2⟩ := bR1.three
        have fR := bR1.frozen
        have hzR := bR1.lt
        go_wp2_with fail
        refine bodyPost_ret (v := .tuple #[zeroArr, .iface 26 (.int .i64 (arrErr b))]) (by simp [results, Tryd.results22, go_sem, q0, q1, q2, hzR]) rfl ?_
        exact .inr ⟨by rw [HE.out]; exact C1.out, by rw [HE.out], by have := hbl.size; go_grown⟩
    · obtain ⟨t, ht⟩ := ok_of_arrErr hea
      obtain ⟨u, hu⟩ := ok_of_arrErr heb
      have la : a.sh.length = t.length := by rw [ht.sh, length_ints]
      have lb : b.sh.length = u.length := by rw [hu.sh, length_ints]
      have HT := Lib.hid ht
      have HU := Lib.hid hu
      have HLA := Lib.hid la
      have HLB := Lib.hid lb
      have HEA := Lib.hid (show ¬ arrErr a ≠ 0 by simp [hea])
      have HEB := Lib.hid (show ¬ arrErr b ≠ 0 by simp [heb])
      have ht6 := ht.good.1
      clear ht hu la lb hea heb
      by_cases c3 : a.sh.length = b.sh.length
      case neg =>
        have c3' : ((a.sh.length : Int) != (b.sh.length : Int)) = true := by simp; omega
        have HE := Lib.hid (show joinErr axis a b = 3 by unfold joinErr; rw [if_neg HEA.out, if_neg HEB.out, if_pos c3])
        clear c3
        go_wp2_with fail
        refine bodyPost_ret (v := .tuple #[zeroArr, .iface 26 (.int .i64 (3))]) (by simp [results, Tryd.results22, go_sem, q0, q1, q2, hzR]) rfl ?_
        exact .inr ⟨by rw [HE.out]; decide, by rw [HE.out], by have := hbl.size; go_grown⟩
      have c3' : ((a.sh.length : Int) != (b.sh.length : Int)) = false := by simp; omega
      have C3 := Lib.hid c3
      clear c3
      rcases Int.lt_or_le axis 0 with g0 | g0
      · have d0 : decide (axis < (0 : Int)) = true := by simpa using g0
        have HE := Lib.hid (show joinErr axis a b = 5 by unfold joinErr; rw [if_neg HEA.out, if_neg HEB.out, if_neg (by have := C3.out; omega), if_pos (.inl g0)])
        go_wp2_with fail
        refine bodyPost_ret (v := .tuple #[zeroArr, .iface 26 (.int .i64 (5))]) (by simp [results, Tryd.results22, go_sem, q0, q1, q2, hzR]) rfl ?_
        exact .inr ⟨by rw [HE.out]; decide, by rw [HE.out], by have := hbl.size; go_grown⟩
      rcases Int.lt_or_le axis a.sh.length with g1 | g1
      case inr =>
        have d0 : decide (axis < (0 : Int)) = false := by simp; omega
        have d1 : decide ((a.sh.length : Int) ≤ axis) = true := by simpa using g1
        have HE := Lib.hid (show joinErr axis a b = 5 by unfold joinErr; rw [if_neg HEA.out, if_neg HEB.out, if_neg (by have := C3.out; omega), if_pos (.inr g1)])
        go_wp2_with fail
        refine bodyPost_ret (v := .tuple #[zeroArr, .iface 26 (.int .i64 (5))]) (by simp [results, Tryd.results22, go_sem, q0, q1, q2, hzR]) rfl ?_
        exact .inr ⟨by rw [HE.out]; decide, by rw [HE.out], by have := hbl.size; go_grown⟩
      obtain ⟨k, rfl⟩ := Int.eq_ofNat_of_zero_le g0
      have hk : k < a.sh.length := by omega
      have d1 : decide (a.sh.length ≤ k) = false := by simp; omega
      have d2 : decide ((a.sh.length : Int) ≤ (k : Int)) = false := by simp; omega
      have HX := Lib.hid (show ¬ ((k : Int) < 0 ∨ (a.sh.length : Int) ≤ (k : Int)) by omega)
      go_wp2_with fail
      refine (clone_any _ a.sh _ (hs.mono hbl)).mono ?_
      rintro e w1 ⟨As, cs, rfl, os, hb1⟩
      have rs0 := os.srow
      have bA1 := bA.below hb1
      have bB1 := bB.below hb1
      have bR1 := bR.below hb1
      have hbl1 := hbl.trans (hb1.mono hbl.size)
      have hwr := hbl.size
      obtain ⟨B1, hB1⟩ : ∃ B1, B1 = wr.heap.size := ⟨_, rfl⟩
      rw [← hB1] at rs0
      have hBB : w.heap.size + 3 ≤ B1 := by omega
      clear bA bB bR hbl t0 t1 t2 u0 u1 u2 q0 q1 q2 fR hzA hzB hzR hb1 os hB1 hwr
      go_wp2_with fail
      go_loopw [59] (fun s wr => ∃ j : Nat, j ≤ a.sh.length ∧ s = .int .i64 j ∧ (∀ i, i < j → i ≠ k → a.sh.getD i 0 = b.sh.getD i 0) ∧ SRow wr B1 As a.sh.length cs a.sh ∧ Box wr w.heap.size 25 #[.bool a.ch, .slice A a.sh.length ca, .slice D a.da.length cd] ∧ Box wr (w.heap.size + 1) 25 #[.bool b.ch, .slice A' b.sh.length ca', .slice D' b.da.length cd'] ∧ Box wr (w.heap.size + 1 + 1) 25 #[.bool false, .slice none 0 0, .slice none 0 0] ∧ Below w.heap.size w wr) (fun s _ => a.sh.length - (intOf s).toNat)
      case atStart => exact ⟨0, Nat.zero_le _, rfl, (fun i h => by omega), rs0, bA1, bB1, bR1, hbl1⟩
      case round =>
        clear bA1 bB1 bR1 hbl1 rs0
        obtain ⟨j, hj, rfl, hsame, rs, bA, bB, bR, hbl⟩ := hrel
        obtain ⟨t0, t1, t2⟩ := bA.three
        obtain ⟨u0, u1, u2⟩ := bB.three
        obtain ⟨q0, q1, q2⟩ := bR.three
        have fR := bR.frozen
        have hzA := bA.lt
        have hzB := bB.lt
        have hzR := bR.lt
        have HS := Lib.hid hsame
        clear hsame
        rcases Nat.lt_or_ge j a.sh.length with hlt | hge
        · obtain ⟨ax, x, rfl, hx, hax, hcx⟩ := Elems.later EA.out hbl hlt
          have hlt2 : j < b.sh.length := by rw [← C3.out]; exact hlt
          obtain ⟨ay, y, rfl, hy, hay, hcy⟩ := Elems.later EB.out hbl hlt2
          have HXX := Lib.hid (show a.sh.getD j 0 = x by rw [List.getD_eq_getElem?_getD, hx]; rfl)
          have HYY := Lib.hid (show b.sh.getD j 0 = y by rw [List.getD_eq_getElem?_getD, hy]; rfl)
          clear hx hy
          by_cases hjk : j = k
          · have e1 : ((j : Int) != (k : Int)) = false := by simp; omega
            have HJK := Lib.hid hjk
            clear hjk
            go_wp2_with fail
            go_quiet (fail)
            all_goals go_wp2_with fail
            go_roundw
            case rel => exact ⟨j + 1, by omega, by go_num, (fun i hi hik => HS.out i (by have := HJK.out; omega) hik), rs.mono (below_draws _ _ _), bA.drewN _, bB.drewN _, bR.drewN _, hbl.trans (below_draws _ _ _)⟩
            case measure => simp [intOf]; omega
          · have e1 : ((j : Int) != (k : Int)) = true := by simp; omega
            have HJK := Lib.hid hjk
            clear hjk
            by_cases hxy : x = y
            · have e2 : ((x : Int) != y) = false := by simp [hxy]
              have HXY := Lib.hid hxy
              clear hxy
              go_wp2_with fail
              go_quiet (fail)
              all_goals go_wp2_with fail
              go_roundw
              case rel =>
                refine ⟨j + 1, by omega, by go_num, (fun i hi hik => ?_), rs.mono (below_draws _ _ _), bA.drewN _, bB.drewN _, bR.drewN _, hbl.trans (below_draws _ _ _)⟩
                by_cases e : i = j
                · rw [e, HXX.out, HYY.out, HXY.out]
                · exact HS.out i (by omega) hik
              case measure => simp [intOf]; omega
            · have e2 : ((x : Int) != y) = true := by simp [hxy]
              have HE := Lib.hid (show joinErr k a b = 4 by unfold joinErr; rw [if_neg HEA.out, if_neg HEB.out, if_neg (by have := C3.out; omega), if_neg HX.out, if_pos ⟨j, hlt, by have := HJK.out; omega, by rw [HXX.out, HYY.out]; exact hxy⟩])
              clear hxy
              go_wp2_with fail
              go_quiet (fail)
              all_goals go_wp2_with fail
              have x0 : ∀ n, (wr.drewN n).cell? ⟨w.heap.size + 1 + 1, 0, none⟩ = some (.bool false) := fun _ => q0
              have x1 : ∀ n, (wr.drewN n).cell? ⟨w.heap.size + 1 + 1, 1, none⟩ = some (.slice none 0 0) := fun _ => q1
              have x2 : ∀ n, (wr.drewN n).cell? ⟨w.heap.size + 1 + 1, 2, none⟩ = some (.slice none 0 0) := fun _ => q2
              refine bodyPost_ret (v := .tuple #[zeroArr, .iface 26 (.int .i64 (4))]) (by simp [results, Tryd.results22, go_sem, q0, q1, q2, x0, x1, x2, hzR]) rfl ?_
              exact .inr ⟨by rw [HE.out]; decide, by rw [HE.out], by have := hbl.size; go_grown; exact hbl.trans (below_draws _ _ _)⟩
        · have hdif : ¬ Differ k a.sh b.sh := by
            rintro ⟨i, h1, h2, h3⟩
            exact h3 (HS.out i (by omega) (by omega))
          have hkt : k < t.length := by rw [← HLA.out]; exact hk
          have hu' := same_set (k := k) (t := t) (u := u) (by rw [← HLB.out, ← HLA.out, C3.out]) hkt (by rw [← HT.out.sh, ← HU.out.sh]; exact hdif)
          obtain ⟨l, hl⟩ : ∃ l, l = u.getD k 0 := ⟨_, rfl⟩
          rw [← hl] at hu'
          have hlk : (ints u)[k]? = some (l : Int) := by rw [hl]; exact ints_get (by rw [← HLB.out, ← C3.out]; exact hk)
          clear hl
          have HKT := Lib.hid hkt
          have HU2 := Lib.hid (show Ok b (t.set k l) by rw [← hu']; exact HU.out)
          have HD := Lib.hid hdif
          have hl4 : l ≤ 4096 := by
            have := HU2.out.good.2.1 l (by
              have : (t.set k l)[k]? = some l := List.getElem?_set_self hkt
              exact List.mem_of_getElem? this)
            exact this
          have hX4 : t.getD k 0 ≤ 4096 := by rw [getD_lt hkt]; exact HT.out.good.2.1 _ (List.getElem_mem _)
          clear hu' hdif hkt
          by_cases c6 : a.ch = b.ch
          case neg =>
            have c6' : (a.ch == b.ch) = false := by simp [c6]
            have HE := Lib.hid (show joinErr k a b = 6 by unfold joinErr; rw [if_neg HEA.out, if_neg HEB.out, if_neg (by have := C3.out; omega), if_neg HX.out, if_neg HD.out, if_pos c6])
            clear c6
            go_wp2_with fail
            refine bodyPost_ret (v := .tuple #[zeroArr, .iface 26 (.int .i64 (6))]) (by simp [results, Tryd.results22, go_sem, q0, q1, q2, hzR]) rfl ?_
            exact .inr ⟨by rw [HE.out]; decide, by rw [HE.out], by have := hbl.size; go_grown⟩
          have c6' : (a.ch == b.ch) = true := by simp [c6]
          have C6 := Lib.hid c6
          clear c6
          have hxk : a.sh[k]? = some ((t.getD k 0 : Nat) : Int) := by rw [HT.out.sh]; exact ints_get HKT.out
          rw [← HU.out.sh] at hlk
          obtain ⟨r1, r2, r3, r4, r5, r6⟩ := rs
          obtain ⟨gs, rfl, hgs, hmi⟩ := r6 (by omega)
          have hgk := hmi.cell hxk
          obtain ⟨be, y, rfl, hy, hbe, hcb⟩ := Elems.later EB.out hbl (k := k) (by rw [← C3.out]; exact hk)
          obtain rfl : (l : Int) = y := by rw [hlk] at hy; injection hy
          obtain ⟨X, hXe⟩ : ∃ X, X = t.getD k 0 := ⟨_, rfl⟩
          rw [← hXe] at hgk hX4
          have HXE := Lib.hid hXe
          have fgs := hmi.frozen k
          have lgs := hmi.lt
          have hkb : k < b.sh.length := by rw [← C3.out]; exact hk
          have hw9 : IntKind.i64.wrap ((X : Int) + (l : Int)) = (X : Int) + (l : Int) := IntWalk.i64_in _ (by omega)
          have HMI := Lib.hid hmi
          clear hxk hlk hy hXe hmi r1 r2 r3 r4 r5 r6
          go_wp2_with fail
          generalize decide (j < a.sh.length) = bj
          clear hge hj
          obtain ⟨wq, rfl⟩ : ∃ wq : World, wq = wr := ⟨_, rfl⟩
          refine wp_region_open (fun i v lo hi w' => match i with
            | 0 => v = .slice (some ⟨gs, 0, none⟩) a.sh.length cs
            | 1 => v = .int .i64 k
            | 2 => v = .pointer (some ⟨gs, k, none⟩)
            | 3 => v = .int .i64 X
            | 4 => v = .pointer (some ⟨w.heap.size + 1, 1, none⟩)
            | 5 => v = .slice (some be) b.sh.length ca'
            | 6 => v = .int .i64 k
            | 7 => v = .pointer (some (be.add k))
            | 8 => v = .int .i64 l
            | 9 => v = .int .i64 ((X : Int) + (l : Int))
            | 10 => v = .pointer (some ⟨gs, k, none⟩)
            | _ => True) (by kernel_rfl) (by kernel_rfl) (by kernel_rfl) ?hV ?step ?last
          case hV =>
            intro i v lo hi w1 w2 h hb
            match i, h with
            | 0, h => exact h
            | 1, h => exact h
            | 2, h => exact h
            | 3, h => exact h
            | 4, h => exact h
            | 5, h => exact h
            | 6, h => exact h
            | 7, h => exact h
            | 8, h => exact h
            | 9, h => exact h
            | 10, h => exact h
            | i + 11, _ => trivial
          case step =>
            simp only [putAll, Act.put, List.setIfInBounds_toArray, List.set_cons_zero, List.set_cons_succ, Nat.reduceAdd, Nat.zero_add]
            intro i o ho hi uu lo up wr hbr hd hj K hK
            obtain ⟨hcw, hfw⟩ := bcell hbr
            match i, ho with
            | 0, ho =>
              simp only [List.getElem?_cons_zero, Option.some.injEq] at ho
              subst ho
              simp only [Act.put, List.setIfInBounds_toArray, List.set_cons_zero, List.set_cons_succ] at hK
              first | (simp [Region.binds] at hd; simp only [hd] at hK) | skip
              refine wpOp_step rfl fun K' hK' => ?_
              go_simp
              exact hK' _ _ (hK _ _ (Below.refl _ _) rfl)
            | 1, ho =>
              simp only [List.getElem?_cons_succ, List.getElem?_cons_zero, Option.some.injEq] at ho
              subst ho
              simp only [Act.put, List.setIfInBounds_toArray, List.set_cons_zero, List.set_cons_succ] at hK
              first | (simp [Region.binds] at hd; simp only [hd] at hK) | skip
              refine wpOp_step rfl fun K' hK' => ?_
              go_simp
              exact hK' _ _ (hK _ _ (Below.refl _ _) rfl)
            | 2, ho =>
              simp only [List.getElem?_cons_succ, List.getElem?_cons_zero, Option.some.injEq] at ho
              subst ho
              simp only [Act.put, List.setIfInBounds_toArray, List.set_cons_zero, List.set_cons_succ] at hK
              first | (simp [Region.binds] at hd; simp only [hd] at hK) | skip
              refine wpOp_step rfl fun K' hK' => ?_
              go_simp
              exact hK' _ _ (hK _ _ (Below.refl _ _) rfl)
            | 3, ho =>
              simp only [List.getElem?_cons_succ, List.getElem?_cons_zero, Option.some.injEq] at ho
              subst ho
              simp only [Act.put, List.setIfInBounds_toArray, List.set_cons_zero, List.set_cons_succ] at hK
              first | (simp [Region.binds] at hd; simp only [hd] at hK) | skip
              have gS1 := hcw gs k lgs
              rw [hgk] at gS1
              refine wpOp_step rfl fun K' hK' => ?_
              go_simp
              exact hK' _ _ (hK _ _ (Below.refl _ _) rfl)
            | 4, ho =>
              simp only [List.getElem?_cons_succ, List.getElem?_cons_zero, Option.some.injEq] at ho
              subst ho
              simp only [Act.put, List.setIfInBounds_toArray, List.set_cons_zero, List.set_cons_succ] at hK
              first | (simp [Region.binds] at hd; simp only [hd] at hK) | skip
              refine wpOp_step rfl fun K' hK' => ?_
              go_simp
              exact hK' _ _ (hK _ _ (Below.refl _ _) rfl)
            | 5, ho =>
              simp only [List.getElem?_cons_succ, List.getElem?_cons_zero, Option.some.injEq] at ho
              subst ho
              simp only [Act.put, List.setIfInBounds_toArray, List.set_cons_zero, List.set_cons_succ] at hK
              first | (simp [Region.binds] at hd; simp only [hd] at hK) | skip
              have bB2 := bB.below hbr
              obtain ⟨v0, v1, v2⟩ := bB2.three
              refine wpOp_step rfl fun K' hK' => ?_
              go_simp
              exact hK' _ _ (hK _ _ (Below.refl _ _) rfl)
            | 6, ho =>
              simp only [List.getElem?_cons_succ, List.getElem?_cons_zero, Option.some.injEq] at ho
              subst ho
              simp only [Act.put, List.setIfInBounds_toArray, List.set_cons_zero, List.set_cons_succ] at hK
              first | (simp [Region.binds] at hd; simp only [hd] at hK) | skip
              refine wpOp_step rfl fun K' hK' => ?_
              go_simp
              exact hK' _ _ (hK _ _ (Below.refl _ _) rfl)
            | 7, ho =>
              simp only [List.getElem?_cons_succ, List.getElem?_cons_zero, Option.some.injEq] at ho
              subst ho
              simp only [Act.put, List.setIfInBounds_toArray, List.set_cons_zero, List.set_cons_succ] at hK
              first | (simp [Region.binds] at hd; simp only [hd] at hK) | skip
              refine wpOp_step rfl fun K' hK' => ?_
              go_simp
              exact hK' _ _ (hK _ _ (Below.refl _ _) rfl)
            | 8, ho =>
              simp only [List.getElem?_cons_succ, List.getElem?_cons_zero, Option.some.injEq] at ho
              subst ho
              simp only [Act.put, List.setIfInBounds_toArray, List.set_cons_zero, List.set_cons_succ] at hK
              first | (simp [Region.binds] at hd; simp only [hd] at hK) | skip
              have hcb2 : wr.cell? (be.add k) = some (.int .i64 (l : Int)) := (hbr.cell (by rw [addr_block_add]; exact Nat.lt_of_lt_of_le hbe (by have := hbl.size; omega))).trans hcb
              refine wpOp_step rfl fun K' hK' => ?_
              go_simp
              exact hK' _ _ (hK _ _ (Below.refl _ _) rfl)
            | 9, ho =>
              simp only [List.getElem?_cons_succ, List.getElem?_cons_zero, Option.some.injEq] at ho
              subst ho
              simp only [Act.put, List.setIfInBounds_toArray, List.set_cons_zero, List.set_cons_succ] at hK
              first | (simp [Region.binds] at hd; simp only [hd] at hK) | skip
              refine wpOp_step rfl fun K' hK' => ?_
              go_simp
              exact hK' _ _ (hK _ _ (Below.refl _ _) rfl)
            | 10, ho =>
              simp only [List.getElem?_cons_succ, List.getElem?_cons_zero, Option.some.injEq] at ho
              subst ho
              simp only [Act.put, List.setIfInBounds_toArray, List.set_cons_zero, List.set_cons_succ] at hK
              first | (simp [Region.binds] at hd; simp only [hd] at hK) | skip
              refine wpOp_step rfl fun K' hK' => ?_
              go_simp
              exact hK' _ _ (hK _ _ (Below.refl _ _) rfl)
            | i + 11, ho => simp at hi; omega
          case last =>
            simp only [putAll, Act.put, List.setIfInBounds_toArray, List.set_cons_zero, List.set_cons_succ, Nat.reduceAdd, Nat.zero_add]
            intro uu wr lo up hbr hv hj
            have e9 : uu 9 = .int .i64 ((X : Int) + (l : Int)) := hv 9 (by simp)
            have e10 : uu 10 = .pointer (some ⟨gs, k, none⟩) := hv 10 (by simp)
            simp only [e9, e10]
            obtain ⟨hcw, hfw⟩ := bcell hbr
            have gS1 := hcw gs k lgs
            rw [hgk] at gS1
            have fS1 := hfw gs k lgs
            rw [fgs] at fS1
            have lgs2 : gs < wr.heap.size := Nat.lt_of_lt_of_le lgs hbr.size
            clear hv hj e9 e10
            refine wpOp_step rfl fun K' hK' => ?_
            go_simp
            refine hK' _ _ ?_
            clear hK'
            have hm2 := (Mine.mono HMI.out hbr).store k ((X : Int) + (l : Int))
            rw [show a.sh.set k ((X : Int) + (l : Int)) = ints (t.set k (X + l)) by rw [HT.out.sh]; simp [ints, List.map_set]] at hm2
            have bA1 := (bA.below hbr).far (p := ⟨gs, k, none⟩) (by simp; omega) (.int .i64 ((X : Int) + (l : Int)))
            have bB1 := (bB.below hbr).far (p := ⟨gs, k, none⟩) (by simp; omega) (.int .i64 ((X : Int) + (l : Int)))
            have bR1 := (bR.below hbr).far (p := ⟨gs, k, none⟩) (by simp; omega) (.int .i64 ((X : Int) + (l : Int)))
            have hbl1 := (hbl.trans (hbr.mono hbl.size)).setCell (p := ⟨gs, k, none⟩) (by simp; omega) (.int .i64 ((X : Int) + (l : Int)))
            clear hcw hfw gS1 fS1 lgs2 hbr bA bB bR hbl hgk fgs lgs t0 t1 t2 u0 u1 u2 q0 q1 q2 fR hzA hzB hzR hcb
            generalize wr.setCell ⟨gs, k, none⟩ (.int .i64 ((X : Int) + (l : Int))) = Wc at hm2 bA1 bB1 bR1 hbl1 ⊢
            have iS := hm2.isInts
            have lgs := hm2.lt
            have hje : joinErr k a b = cntErr (ints (t.set k (X + l))) := by
              unfold joinErr
              rw [if_neg HEA.out, if_neg HEB.out, if_neg (by have := C3.out; omega), if_neg HX.out, if_neg HD.out, if_neg (by simp [C6.out]), show ((k : Nat) : Int).toNat = k by omega, HT.out.sh, HU2.out.sh, joinSh_ints HKT.out, ← HXE.out]
            have HJE := Lib.hid hje
            have HM2 := Lib.hid hm2
            obtain ⟨q0, q1, q2⟩ := bR1.three
            obtain ⟨t0, t1, t2⟩ := bA1.three
            obtain ⟨u0, u1, u2⟩ := bB1.three
            have fR := bR1.frozen
            have hzR := bR1.lt
            have hzA := bA1.lt
            have hzB := bB1.lt
            clear hje hm2
            by_cases c7 : cntErr (ints (t.set k (X + l))) = 0
            case neg =>
              have C7 := Lib.hid c7
              clear c7
              go_wp2_with fail
              refine (count_bad _ _ _ iS C7.out).mono ?_
              rintro e w2 ⟨rfl, rfl⟩
              go_wp2_with fail
              refine bodyPost_ret (v := .tuple #[zeroArr, .iface 26 (.int .i64 (cntErr (ints (t.set k (X + l)))))]) (by simp [results, Tryd.results22, go_sem, q0, q1, q2, hzR]) rfl ?_
              exact .inr ⟨by rw [HJE.out]; exact C7.out, by rw [HJE.out], by have := hbl1.size; go_grown⟩
            obtain ⟨u', hu', hg'⟩ := cntErr_zero c7
            rw [← ints_inj hu'] at hg'
            have HG := Lib.hid hg'
            have HJ0 := Lib.hid (show joinErr k a b = 0 by rw [HJE.out]; exact c7)
            clear c7 hg' hu'
            go_wp2_with fail
            refine (count_ok _ _ _ iS HG.out).mono ?_
            rintro e w2 ⟨rfl, rfl⟩
            obtain ⟨N, hN⟩ : ∃ N, N = prod (t.set k (X + l)) := ⟨_, rfl⟩
            rw [← hN]
            have hN4 : N ≤ 4096 := by rw [hN]; exact HG.out.2.2
            have HN := Lib.hid hN
            have hmk := run_make_ints N (by omega)
            clear hN iS
            go_wp2_with fail
            refine wp_region_open (fun i v lo hi w' => match i with
              | 0 => v = .pointer (some ⟨w.heap.size, 0, none⟩)
              | 1 => v = .bool a.ch
              | 2 => v = .slice (some ⟨gs, 0, none⟩) a.sh.length cs
              | 3 => v = .int .i64 N
              | 4 => ∃ m, v = .slice (some ⟨m, 0, none⟩) 0 N ∧ Owns w' lo v 0 [] ∧ m < hi ∧ gs + 1 ≤ lo
              | 5 => ∃ m, v = .agg #[.bool a.ch, .slice (some ⟨gs, 0, none⟩) a.sh.length cs, .slice (some ⟨m, 0, none⟩) 0 N] ∧ Owns w' (gs + 1) (.slice (some ⟨m, 0, none⟩) 0 N) 0 []
              | 6 => ∃ g, v = .pointer (some ⟨g, 0, none⟩) ∧ Box w' g 25 #[.bool false, .slice none 0 0, .slice none 0 0] ∧ gs + 1 ≤ g
              | _ => True) (by kernel_rfl) (by kernel_rfl) (by kernel_rfl) ?hV ?step ?last
            case hV =>
              intro i v lo hi w1 w2 h hb
              match i, h with
              | 0, h => exact h
              | 1, h => exact h
              | 2, h => exact h
              | 3, h => exact h
              | 4, ⟨m, e, ho, hl, hz⟩ => exact ⟨m, e, ho.below hb, hl, hz⟩
              | 5, ⟨m, e, ho'⟩ => exact ⟨m, e, ho'.below hb⟩
              | 6, ⟨g, e, hx, hz⟩ => exact ⟨g, e, hx.below hb, hz⟩
              | i + 7, _ => trivial
            case step =>
              simp only [putAll, Act.put, List.setIfInBounds_toArray, List.set_cons_zero, List.set_cons_succ, Nat.reduceAdd, Nat.zero_add]
              intro i o ho hi uu lo up wr hbr hd hj K hK
              obtain ⟨hcw, hfw⟩ := bcell hbr
              match i, ho with
              | 0, ho =>
                simp only [List.getElem?_cons_zero, Option.some.injEq] at ho
                subst ho
                first | (simp [Region.binds] at hd; simp only [hd] at hK) | skip
                refine wpOp_step rfl fun K' hK' => ?_
                go_simp
                exact hK' _ _ (hK _ _ (Below.refl _ _) rfl)
              | 1, ho =>
                simp only [List.getElem?_cons_succ, List.getElem?_cons_zero, Option.some.injEq] at ho
                subst ho
                first | (simp [Region.binds] at hd; simp only [hd] at hK) | skip
                refine wpOp_step rfl fun K' hK' => ?_
                go_simp
                exact hK' _ _ (hK _ _ (Below.refl _ _) rfl)
              | 2, ho =>
                simp only [List.getElem?_cons_succ, List.getElem?_cons_zero, Option.some.injEq] at ho
                subst ho
                first | (simp [Region.binds] at hd; simp only [hd] at hK) | skip
                refine wpOp_step rfl fun K' hK' => ?_
                go_simp
                exact hK' _ _ (hK _ _ (Below.refl _ _) rfl)
              | 3, ho =>
                simp only [List.getElem?_cons_succ, List.getElem?_cons_zero, Option.some.injEq] at ho
                subst ho
                first | (simp [Region.binds] at hd; simp only [hd] at hK) | skip
                refine wpOp_step rfl fun K' hK' => ?_
                go_simp
                exact hK' _ _ (hK _ _ (Below.refl _ _) rfl)
              | 4, ho =>
                simp only [List.getElem?_cons_succ, List.getElem?_cons_zero, Option.some.injEq] at ho
                subst ho
                first | (simp [Region.binds] at hd; simp only [hd] at hK) | skip
                have hz := hbr.size
                try simp only [World.size_alloc] at hz
                refine wpOp_step rfl fun K' hK' => ?_
                go_simp
                exact hK' _ _ (hK _ _ (below_one _ _) ⟨_, rfl, ⟨World.ownsRow_made _ _ _ (Nat.le_refl _) (by unfold maxLen; omega) (by simp [size_madeCells]), by omega⟩, by simp, by omega⟩)
              | 5, ho =>
                simp only [List.getElem?_cons_succ, List.getElem?_cons_zero, Option.some.injEq] at ho
                subst ho
                have h1 : uu 1 = .bool a.ch := hd ⟨1, .data⟩ (by simp) rfl
                have h2 : uu 2 = .slice (some ⟨gs, 0, none⟩) a.sh.length cs := hd ⟨2, .data⟩ (by simp) rfl
                obtain ⟨m, ed, od, ld, zd⟩ := hd ⟨4, .data⟩ (by simp) rfl
                dsimp only at od ld zd
                simp only [h1, h2, ed] at hK
                rw [ed] at od
                refine wpOp_step rfl fun K' hK' => ?_
                go_simp
                exact hK' _ _ (hK _ _ (Below.refl _ _) ⟨m, rfl, od.base (by omega)⟩)
              | 6, ho =>
                simp only [List.getElem?_cons_succ, List.getElem?_cons_zero, Option.some.injEq] at ho
                subst ho
                first | (simp [Region.binds] at hd; simp only [hd] at hK) | skip
                have hz := hbr.size
                try simp only [World.size_alloc] at hz
                refine wpOp_step rfl fun K' hK' => ?_
                go_simp
                exact hK' _ _ (hK _ _ (below_one _ _) ⟨_, rfl, Box.new _ _ _, by omega⟩)
              | i + 7, ho => simp at hi; omega
            case last =>
              simp only [putAll, Act.put, List.setIfInBounds_toArray, List.set_cons_zero, List.set_cons_succ, Nat.reduceAdd, Nat.zero_add]
              intro uu wr lo up hbr hv hj
              obtain ⟨m, e9, o8⟩ := hv 5 (by simp)
              obtain ⟨g, e10, bg, hg⟩ := hv 6 (by simp)
              obtain ⟨g0, g1, g2⟩ := bg.three
              have gf := bg.frozen
              simp only [e9, e10]
              clear hv hj e9 e10
              refine wpOp_step rfl fun K' hK' => ?_
              go_simp
              refine hK' _ _ ?_
              have hbw := (hbl1).trans (hbr.mono (hbl1.size))
              have hgg := grownBy_three wr g (.bool a.ch) (.slice (some ⟨gs, 0, none⟩) a.sh.length cs) (.slice (some ⟨m, 0, none⟩) 0 N)
              have i1 := ((bg.store 0 (.bool a.ch)).store 1 (.slice (some ⟨gs, 0, none⟩) a.sh.length cs)).store 2 (.slice (some ⟨m, 0, none⟩) 0 N)
              simp only [List.setIfInBounds_toArray, List.set_cons_zero, List.set_cons_succ] at i1
              have i2 := o8.kept hgg (.inr (o8.ne_box bg (by decide)))
              have i4 := Box.grown (Box.below bA1 hbr) hgg (by simp; omega)
              have i5 := Box.grown (Box.below bB1 hbr) hgg (by simp; omega)
              have i6 := Box.grown (Box.below bR1 hbr) hgg (by simp; omega)
              have j0 := ((((Mine.mono HM2.out hbr).far (p := ⟨g, 0, none⟩) (by simp; omega) (.bool a.ch)).far (p := ⟨g, 1, none⟩) (by simp; omega) (.slice (some ⟨gs, 0, none⟩) a.sh.length cs)).far (p := ⟨g, 2, none⟩) (by simp; omega) (.slice (some ⟨m, 0, none⟩) 0 N))
              have iw := hbw.grown hgg hbw.size (fun j e => by cases e; omega)
              have hgl : g < (((wr.setCell ⟨g, 0, none⟩ (.bool a.ch)).setCell ⟨g, 1, none⟩ (.slice (some ⟨gs, 0, none⟩) a.sh.length cs)).setCell ⟨g, 2, none⟩ (.slice (some ⟨m, 0, none⟩) 0 N)).heap.size := i1.lt
              clear hbr hgg o8 bg g0 g1 g2 gf hbw hK' 
              generalize (((wr.setCell ⟨g, 0, none⟩ (.bool a.ch)).setCell ⟨g, 1, none⟩ (.slice (some ⟨gs, 0, none⟩) a.sh.length cs)).setCell ⟨g, 2, none⟩ (.slice (some ⟨m, 0, none⟩) 0 N)) = W2 at i2 i4 i5 i6 j0 i1 iw hgl ⊢
              have hm3 := j0
              have hgg1 : gs < g := by omega
              clear j0 hgl
              obtain ⟨b2A, b2B, b2R⟩ : Box W2 w.heap.size 25 #[.bool a.ch, .slice A a.sh.length ca, .slice D a.da.length cd] ∧ Box W2 (w.heap.size + 1) 25 #[.bool b.ch, .slice (some be) b.sh.length ca', .slice D' b.da.length cd'] ∧ Box W2 (w.heap.size + 1 + 1) 25 #[.bool false, .slice none 0 0, .slice none 0 0] := ⟨i4, i5, i6⟩
              have HM3 := Lib.hid hm3
              have HI1 := Lib.hid i1
              have HI2 := Lib.hid i2
              clear i4 i5 i6 hm3 i1 i2 t0 t1 t2 u0 u1 u2 q0 q1 q2 fR hzR hmk
              go_wp2_with fail
              go_loopw [16, 17, 18] (fun s16 s17 s18 wx => ∃ (j : Nat) (p q : Int), k ≤ j ∧ j ≤ a.sh.length ∧ s18 = .int .i64 j ∧ s16 = .int .i64 p ∧ s17 = .int .i64 q ∧ (N ≠ 0 → RunTo t k j p ∧ RunTo (t.set k l) k j q) ∧ Below W2.heap.size W2 wx) (fun _ _ s18 _ => a.sh.length - (intOf s18).toNat)
              case atStart => exact ⟨k, 1, 1, Nat.le_refl _, by omega, rfl, rfl, rfl, fun _ => ⟨RunTo.zero _ _, RunTo.zero _ _⟩, Below.refl _ _⟩
              case round =>
                obtain ⟨j, p, q, hkj, hj, rfl, rfl, rfl, hrun, hbx⟩ := hrel
                have HRUN := Lib.hid hrun
                clear hrun
                obtain ⟨t0, t1, t2⟩ := (b2A.below hbx).three
                obtain ⟨u0, u1, u2⟩ := (b2B.below hbx).three
                have hbw := iw.trans (hbx.mono iw.size)
                rcases Nat.lt_or_ge j a.sh.length with hlt | hge
                · obtain ⟨ax, x, rfl, hx, hax, hcx⟩ := Elems.later EA.out hbw hlt
                  obtain ⟨ay, y, eay, hy, hay, hcy⟩ := Elems.later EB.out hbw (k := j) (by rw [← C3.out]; exact hlt)
                  injection eay with eay
                  subst eay
                  have hlt2 : j < b.sh.length := by rw [← C3.out]; exact hlt
                  have hjt : j < t.length := by rw [← HLA.out]; exact hlt
                  have HXX := Lib.hid (show x = ((t.getD j 0 : Nat) : Int) by rw [HT.out.sh] at hx; exact (ints_getD hx).1)
                  have HYY := Lib.hid (show y = (((t.set k l).getD j 0 : Nat) : Int) by rw [HU2.out.sh] at hy; exact (ints_getD hy).1)
                  have HJT := Lib.hid hjt
                  clear hx hy hjt
                  go_wp2_with fail
                  go_quiet (fail)
                  all_goals go_wp2_with fail
                  go_roundw
                  case rel =>
                    refine ⟨j + 1, _, _, by omega, by omega, by go_num, rfl, rfl, fun hn0 => ?_, hbx.trans (below_draws _ _ _)⟩
                    have hn1 : prod (t.set k (X + l)) ≠ 0 := by rw [← HN.out]; exact hn0
                    have r1 := run_le (t := t) (k := k) (x := X) (j := j + 1) HG.out hn1 (by omega)
                    have r2 := run_le (t := t) (k := k) (x := l) (j := j + 1) HG.out hn1 (by omega)
                    rw [HXE.out, set_getD] at r1
                    exact ⟨RunTo.next' (HRUN.out hn0).1 hkj HJT.out (by omega) HXX.out, RunTo.next' (HRUN.out hn0).2 hkj (by rw [List.length_set]; exact HJT.out) (by omega) HYY.out⟩
                  case measure => simp [intOf]; omega
                · have hje : j = t.length := by rw [← HLA.out]; omega
                  have hpq : N ≠ 0 → p = ((X * innerOf t k : Nat) : Int) ∧ q = ((l * innerOf t k : Nat) : Int) := by
                    intro hn0
                    obtain ⟨r1, r2⟩ := HRUN.out hn0
                    unfold RunTo at r1 r2
                    rw [hje, run_all HKT.out, ← HXE.out] at r1
                    have e2 := run_all (t := t.set k l) (k := k) (by rw [List.length_set]; exact HKT.out)
                    rw [List.length_set, getD_set HKT.out, inner_set] at e2
                    rw [hje, e2] at r2
                    exact ⟨r1, r2⟩
                  have HPQ := Lib.hid hpq
                  clear hpq hje HRUN
                  obtain ⟨x1, hx1⟩ : ∃ x1, x1 = X * innerOf t k := ⟨_, rfl⟩
                  obtain ⟨y1, hy1⟩ : ∃ y1, y1 = l * innerOf t k := ⟨_, rfl⟩
                  obtain ⟨ou, hou⟩ : ∃ ou, ou = outerOf t k := ⟨_, rfl⟩
                  have hNo : N = ou * (x1 + y1) := by rw [HN.out, prod_set HKT.out, hou, hx1, hy1, ← Nat.add_mul, Nat.mul_assoc]
                  rw [← hx1, ← hy1] at HPQ
                  have HX1 := Lib.hid hx1
                  have HY1 := Lib.hid hy1
                  have HOU := Lib.hid hou
                  have HNO := Lib.hid hNo
                  have hok := glue_ok HT.out HU2.out HKT.out C6.out.symm (by rw [← HXE.out]; exact HG.out)
                  rw [← HXE.out] at hok
                  have hT : (glue k a b).da.length = N := by rw [hok.len, HN.out]
                  have HOK := Lib.hid hok
                  obtain ⟨T, eT⟩ : ∃ T, T = (glue k a b).da := ⟨_, rfl⟩
                  rw [← eT] at hT
                  have HTL := Lib.hid hT
                  have HTE := Lib.hid eT
                  clear hx1 hy1 hou hNo hok hT eT
                  have g1 := HI1.out.below hbx
                  have g2 := HI2.out.below hbx
                  have g3 := Mine.mono HM3.out hbx
                  obtain ⟨z0, z1, z2⟩ := g1.three
                  go_wp2_with fail
                  generalize decide (j < a.sh.length) = bj
                  clear z0 z1 z2 t0 t1 t2 u0 u1 u2 hge hj hkj
                  have hla : a.da.length = ou * x1 := by
                    have e := prod_set (t := t) (k := k) (x := t.getD k 0) HKT.out
                    rw [set_getD] at e
                    rw [HT.out.len, e, HOU.out, HX1.out, HXE.out, Nat.mul_assoc]
                  have hlb : b.da.length = ou * y1 := by rw [HU2.out.len, prod_set HKT.out, HOU.out, HY1.out, Nat.mul_assoc]
                  have HDA := Lib.hid hla
                  have HDB := Lib.hid hlb
                  clear hla hlb
                  obtain ⟨wo, rfl⟩ : ∃ wo : World, wo = wr := ⟨_, rfl⟩
                  go_loopw [19, 20] (fun s19 s20 wy => ∃ (r : Nat) (A2 : Option Addr) (c2 : Nat), r ≤ ou ∧ s19 = .int .i64 ((r * x1 : Nat) : Int) ∧ s20 = .int .i64 ((r * y1 : Nat) : Int) ∧ Box wy g 25 #[.bool a.ch, .slice (some ⟨gs, 0, none⟩) a.sh.length cs, .slice A2 (r * (x1 + y1)) c2] ∧
                      Owns wy (gs + 1) (.slice A2 (r * (x1 + y1)) c2) (r * (x1 + y1)) (T.take (r * (x1 + y1))) ∧ Mine wy gs a.sh.length cs (ints (t.set k (X + l))) ∧ Below w.heap.size w wy ∧ Box wy w.heap.size 25 #[.bool a.ch, .slice A a.sh.length ca, .slice D a.da.length cd] ∧ Box wy (w.heap.size + 1) 25 #[.bool b.ch, .slice (some be) b.sh.length ca', .slice D' b.da.length cd'] ∧ Box wy (w.heap.size + 1 + 1) 25 #[.bool false, .slice none 0 0, .slice none 0 0])
                      (fun s19 s20 _ => N - ((intOf s19).toNat + (intOf s20).toNat))
                  case atStart => exact ⟨0, _, _, Nat.zero_le _, by simp, by simp, by rw [Nat.zero_mul]; exact g1, by rw [Nat.zero_mul, List.take_zero]; exact g2, g3, hbw, b2A.below hbx, b2B.below hbx, b2R.below hbx⟩
                  case round =>
                    clear g1 g2 g3 hbw hbx b2A b2B b2R
                    obtain ⟨r, A2, c2, hr, rfl, rfl, h1, h2, h3, hbl, bA, bB, bR⟩ := hrel
                    rcases Nat.lt_or_ge (r * (x1 + y1)) N with hlt | hge
                    · have hn0 : N ≠ 0 := by omega
                      obtain ⟨rfl, rfl⟩ := HPQ.out hn0
                      have hro : r < ou := by
                        rcases Nat.lt_or_ge r ou with h | h
                        · exact h
                        · have h2 := Nat.mul_le_mul_right (x1 + y1) h
                          rw [← HNO.out] at h2
                          omega
                      have hP1 : (r + 1) * (x1 + y1) ≤ N := by rw [HNO.out]; exact Nat.mul_le_mul_right _ hro
                      have hP2 : (r + 1) * (x1 + y1) = r * (x1 + y1) + x1 + y1 := by rw [Nat.add_mul, Nat.one_mul, Nat.add_assoc]
                      have hA1 : (r + 1) * x1 ≤ a.da.length := by rw [HDA.out]; exact Nat.mul_le_mul_right _ hro
                      have hB1 : (r + 1) * y1 ≤ b.da.length := by rw [HDB.out]; exact Nat.mul_le_mul_right _ hro
                      have hA2 : (r + 1) * x1 = r * x1 + x1 := by rw [Nat.add_mul, Nat.one_mul]
                      have hB2 : (r + 1) * y1 = r * y1 + y1 := by rw [Nat.add_mul, Nat.one_mul]
                      obtain ⟨L1, hL1⟩ : ∃ L1, L1 = r * x1 := ⟨_, rfl⟩
                      obtain ⟨M1, hM1⟩ : ∃ M1, M1 = r * y1 := ⟨_, rfl⟩
                      obtain ⟨P, hP⟩ : ∃ P, P = r * (x1 + y1) := ⟨_, rfl⟩
                      have hf1 := glue_take1 HT.out HU2.out HKT.out (by rw [← HOU.out]; exact hro) (by rw [HX1.out, HXE.out]) HY1.out hP hL1
                      have hf2 := glue_take2 HT.out HU2.out HKT.out (by rw [← HOU.out]; exact hro) (by rw [HX1.out, HXE.out]) HY1.out hP hM1
                      rw [← HTE.out] at hf1 hf2
                      have HF1 := Lib.hid hf1
                      have HF2 := Lib.hid hf2
                      rw [← hL1, ← hM1]
                      rw [← hP] at h1 h2 hlt hP2
                      rw [← hL1] at hA2
                      rw [← hM1] at hB2
                      have HR1 := Lib.hid hP2
                      have HR2 := Lib.hid (show ((((r + 1) * x1 : Nat)) : Int) = (L1 : Int) + (x1 : Int) by rw [hA2]; simp)
                      have HR3 := Lib.hid (show ((((r + 1) * y1 : Nat)) : Int) = (M1 : Int) + (y1 : Int) by rw [hB2]; simp)
                      have bP : P + x1 + y1 ≤ N := by omega
                      have bL : L1 + x1 ≤ a.da.length := by omega
                      have bM : M1 + y1 ≤ b.da.length := by omega
                      have hxy : L1 + M1 = P := by rw [hL1, hM1, hP, Nat.mul_add]
                      have hD4 : a.da.length ≤ 4096 := by rw [HT.out.len]; exact HT.out.good.2.2
                      have hE4 : b.da.length ≤ 4096 := by rw [HU2.out.len]; exact HU2.out.good.2.2
                      have hpos : 0 < x1 + y1 := by
                        rcases Nat.eq_zero_or_pos (x1 + y1) with h | h
                        · rw [h, Nat.mul_zero] at hP; rw [HNO.out, h, Nat.mul_zero] at hlt; omega
                        · exact h
                      have HRO := Lib.hid hro
                      clear hf1 hf2 hP2 hA2 hB2 hP1 hA1 hB1 hL1 hM1 hP hro hn0
                      have wX4 : IntKind.i64.wrap ((L1 : Int) + (x1 : Int)) = (L1 : Int) + (x1 : Int) := IntWalk.i64_in _ (by omega)
                      have wY4 : IntKind.i64.wrap ((M1 : Int) + (y1 : Int)) = (M1 : Int) + (y1 : Int) := IntWalk.i64_in _ (by omega)
                      obtain ⟨A3, hsl3, hel3, hn3⟩ := part_named (lo := some (.int .i64 (L1 : Int))) (hi := some (.int .i64 ((L1 : Int) + (x1 : Int)))) (L := L1) (H := L1 + x1) (Elems.mono DA.out hbl) DA0.out dd1 (.inr rfl) (.inr (by simp)) (by omega) (by omega)
                      have el3 : ((a.da.take (L1 + x1)).drop L1).length = x1 := by simp; omega
                      have He3 := Lib.hid hel3
                      have Hn3 := Lib.hid hn3
                      have Hel3 := Lib.hid el3
                      rw [show L1 + x1 - L1 = x1 by omega] at hsl3
                      obtain ⟨t0, t1, t2⟩ := bA.three
                      obtain ⟨g0, g1, g2⟩ := h1.three
                      have gf := h1.frozen
                      have gl := h1.lt
                      have hsz := hbl.size
                      have dPN : decide ((P : Int) < (N : Int)) = true := by simp; omega
                      clear hel3 hn3 el3
                      go_wp2_with fail
                      go_region_law
                        ((refine step_append_ints _ rfl rfl _ _ (by rfl) (gs + 1) P _ (T.take P) (by rfl) (h2.drewN _) A3 x1 _ ((a.da.take (L1 + x1)).drop L1) (by rfl) Hn3.out He3.out Hel3.out (by omega) (by simp; omega) ?_; intro A4 c4 w4 hown4 hgrow4 hat4; have b4 := Box.grown (w := wr.drewN _) (h1.drewN _) hgrow4 (h2.ne_box h1 (by decide)); have hc4 := b4.three.2.2; have hf4 := b4.frozen 2))
                      all_goals
                        obtain ⟨m1, m2, m3, m4, m5⟩ := join_step h1 h2 h3 hgg1 hbl (by omega) (by omega) hgrow4 hown4
                        rw [HF1.out] at m2
                        have n1 := m5 _ _ _ (by omega) bA
                        have n2 := m5 _ _ _ (by omega) bB
                        have n3 := m5 _ _ _ (by omega) bR
                        clear m5 hown4 hgrow4 hat4 b4 hc4 hf4 h1 h2 h3 hbl bA bB bR t0 t1 t2 g0 g1 g2 gf gl hsz hsl3 He3 Hn3 Hel3 wX4
                        generalize w4.setCell ⟨g, 2, none⟩ (.slice A4 (P + x1) c4) = wz at m1 m2 m3 m4 n1 n2 n3 ⊢
                        obtain ⟨A5, hsl5, hel5, hn5⟩ := part_named (lo := some (.int .i64 (M1 : Int))) (hi := some (.int .i64 ((M1 : Int) + (y1 : Int)))) (L := M1) (H := M1 + y1) (Elems.mono DB.out m4) DB0.out f1 (.inr rfl) (.inr (by simp)) (by omega) (by omega)
                        have el5 : ((b.da.take (M1 + y1)).drop M1).length = y1 := by simp; omega
                        have He5 := Lib.hid hel5
                        have Hn5 := Lib.hid hn5
                        have Hel5 := Lib.hid el5
                        rw [show M1 + y1 - M1 = y1 by omega] at hsl5
                        obtain ⟨u0, u1, u2⟩ := n2.three
                        obtain ⟨g0, g1, g2⟩ := m1.three
                        have gf := m1.frozen
                        have gl := m1.lt
                        have hsz := m4.size
                        clear hel5 hn5 el5
                        go_wp2_with fail
                        go_region_law
                          ((refine step_append_ints _ rfl rfl _ _ (by rfl) (gs + 1) (P + x1) _ (T.take (P + x1)) (by rfl) (m2.drewN _) A5 y1 _ ((b.da.take (M1 + y1)).drop M1) (by rfl) Hn5.out He5.out Hel5.out (by omega) (by simp; omega) ?_; intro A6 c6 w6 hown6 hgrow6 hat6; have b6 := Box.grown (w := wz.drewN _) (m1.drewN _) hgrow6 (m2.ne_box m1 (by decide)); have hc6 := b6.three.2.2; have hf6 := b6.frozen 2))
                        all_goals
                          have wX4 : IntKind.i64.wrap ((L1 : Int) + (x1 : Int)) = (L1 : Int) + (x1 : Int) := IntWalk.i64_in _ (by omega)
                          obtain ⟨o1, o2, o3, o4, o5⟩ := join_step m1 m2 m3 hgg1 m4 (by omega) (by omega) hgrow6 hown6
                          rw [HF2.out] at o2
                          have p1 := o5 _ _ _ (by omega) n1
                          have p2 := o5 _ _ _ (by omega) n2
                          have p3 := o5 _ _ _ (by omega) n3
                          go_wp2_with fail
                          go_roundw
                          case rel => exact ⟨r + 1, A6, c6, HRO.out, by rw [HR2.out], by rw [HR3.out], by rw [HR1.out]; exact o1, by rw [HR1.out]; exact o2, o3, o4, p1, p2, p3⟩
                          case measure => simp [intOf]; omega
                    · have hPN : r * (x1 + y1) = N := by
                        have h4 := Nat.mul_le_mul_right (x1 + y1) hr
                        rw [← HNO.out] at h4
                        omega
                      rw [hPN] at h1 h2
                      rw [List.take_of_length_le (by rw [HTL.out]; exact Nat.le_refl _)] at h2
                      have iD := h2.isInts
                      have iS := h3.isInts
                      have hia : IsArr wr (.agg #[.bool a.ch, .slice (some ⟨gs, 0, none⟩) a.sh.length cs, .slice A2 N c2]) (glue k a b) := ⟨_, _, rfl, (by rw [HOK.out.sh]; exact iS), (by rw [← HTE.out]; exact iD)⟩
                      have HIA := Lib.hid hia
                      obtain ⟨g0, g1, g2⟩ := h1.three
                      obtain ⟨q0, q1, q2⟩ := bR.three
                      have gl := h1.lt
                      have gf := h1.frozen
                      have zl := bR.lt
                      have zf := bR.frozen
                      have dPN : decide ((N : Int) < (N : Int)) = false := by simp
                      clear hia iS iD hPN
                      go_wp2_with fail
                      refine bodyPost_ret (v := .tuple #[.agg #[.bool a.ch, .slice (some ⟨gs, 0, none⟩) a.sh.length cs, .slice A2 N c2], .nilIface]) (by simp [results, Tryd.results22, go_sem, zl, q0, q1, q2]; first | done | rfl | exact ⟨rfl, rfl, rfl⟩) rfl ?_
                      rw [show ((k : Nat) : Int).toNat = k by omega]
                      exact .inl ⟨HJ0.out, _, rfl, IsArr.laid HIA.out bR _ _ _, by have := hbl.size; go_grown⟩

end Go.Proofs.YtojeggeimnenbaaDoor

