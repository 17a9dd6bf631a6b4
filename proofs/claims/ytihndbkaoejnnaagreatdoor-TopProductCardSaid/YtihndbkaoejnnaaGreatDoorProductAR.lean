/- What the card TopProduct leans on: FoldReduce, SwingPlain, FoldNew. Conditions: none but those of its theorems. -/
import Derived.Test.YtihndbkaoejnnaaGreatDoorProductAO
import Derived.Test.YtihndbkaoejnnaaGreatDoorProductAQ
set_option linter.unusedSimpArgs false
set_option linter.unusedVariables false
namespace Go.Proofs.YtihndbkaoejnnaaGreatDoor.P
theorem prod_but {t : List Nat} {k : Nat} (h : ∀ n ∈ t, n ≤ 4096) (hl : t.length ≤ 6) (hk : k < t.length) : (lineF t k).1 * (lineF t k).2.2 ≤ 1152921504606846976 := by
  unfold lineF
  by_cases c : NoneElse t k
  · rw [if_pos c]; show 0 * 0 ≤ _; omega
  · rw [if_neg c]
    show outerOf t k * innerOf t k ≤ _
    unfold outerOf innerOf
    rw [← prod_append]
    refine prod_five (fun n hn => ?_) (by rw [List.length_append, List.length_take, List.length_drop]; omega)
    rcases List.mem_append.1 hn with h1 | h1
    · exact h n (List.mem_of_mem_take h1)
    · exact h n (List.mem_of_mem_drop h1)
end Go.Proofs.YtihndbkaoejnnaaGreatDoor.P
namespace Go.Proofs.YtihndbkaoejnnaaGreatDoor
open Go Go.RowKit Go.Proofs.YtihndbkaoejnnaaGreatDoor.P

theorem longs_any {W : World} {g O L I : Nat} {i : Int} (hb : Box W g 47 #[.int .i64 O, .int .i64 L, .int .i64 I]) : Calls Tryz.prog 27 (#[.int .i64 i] ++ #[.pointer (some ⟨g, 0, none⟩)]) W fun e W' => e = .returned (.int .i64 (L : Int)) ∧ W = W' := by
  obtain ⟨t0, t1, t2⟩ := hb.three
  simp only [List.append_toArray, List.cons_append, List.nil_append]
  go_enter Tryz.func27, Tryz.ntmps27
  go_wp2_with fail
  go_ret
  exact ⟨rfl, rfl⟩

/-- The lines of all that folds. -/
noncomputable def lnR (a : Arr) (t : List Nat) (k : Nat) : Nat → List Int := lnAt a.da (t.getD k 0) (lineF t k).2.2 1 (fun _ => 0) (fun _ => t.getD k 0)
noncomputable def redErr (f : Int) (t : List Nat) (k : Nat) : Int :=
  if t.getD k 0 = 0 then (if neutE f ≠ 0 then neutE f else if 4096 < (lineF t k).1 * (lineF t k).2.2 then 7 else 0) else 0
def RedTells (f : Int) (a : Arr) (t : List Nat) (k : Nat) (w : World) (e : Ending) (w' : World) : Prop :=
  (redErr f t k ≠ 0 ∧ Fails zeroArr (redErr f t k) w e w') ∨ (redErr f t k = 0 ∧ FoldTells f (lnR a t k) ((lineF t k).1 * (lineF t k).2.2) (a.sh.eraseIdx k) w e w')

theorem RedTells.err {f : Int} {a : Arr} {t : List Nat} {k : Nat} {w : World} {e : Ending} {w' : World} {r : Int} (h : redErr f t k = r) (hr : r ≠ 0) (hf : Fails zeroArr r w e w') : RedTells f a t k w e w' := .inl ⟨by rw [h]; exact hr, by rw [h]; exact hf⟩

theorem FoldTells.upon {f : Int} {ln : Nat → List Int} {N : Nat} {s : List Int} {w1 : World} {e : Ending} {w2 : World} (h : FoldTells f ln N s w1 e w2) : ∃ (r : Value) (x : Int), e = .returned (.tuple #[r, errV x]) ∧ Below w1.heap.size w1 w2 ∧
    ((x = 0 ∧ (∀ q, q < N → (ofR f (ln q)).2 = 0) ∧ IsArr w2 r ⟨false, s, (List.range N).map fun q => (ofR f (ln q)).1⟩) ∨ (x ≠ 0 ∧ r = zeroArr ∧ ∃ q, q < N ∧ (∀ q', q' < q → (ofR f (ln q')).2 = 0) ∧ (ofR f (ln q)).2 = x)) := by
  rcases h with ⟨h1, r, rfl, hr, hb⟩ | ⟨q, h1, h2, h3, rfl, hb⟩
  · exact ⟨r, 0, rfl, hb, .inl ⟨rfl, h1, hr⟩⟩
  · exact ⟨zeroArr, _, by rw [errV_ne h3], hb, .inr ⟨h3, rfl, q, h1, h2, rfl⟩⟩

theorem FoldTellsN.upon {f : Int} {ln : Nat → List Int} {N n c : Nat} {A : Option Addr} {s : List Int} {w1 : World} {e : Ending} {w2 : World} (h : FoldTellsN f ln N s (.slice A n c) w1 e w2) {B : Nat} (hB : B ≤ w1.heap.size) (hv : ∀ k, (Value.slice A n c).ownBlock = some k → B ≤ k) : ∃ (r : Value) (x : Int), e = .returned (.tuple #[r, errV x]) ∧ Below w1.heap.size w1 w2 ∧
    ((x = 0 ∧ (∀ q, q < N → (ofR f (ln q)).2 = 0) ∧ IsArr w2 r ⟨false, s, (List.range N).map fun q => (ofR f (ln q)).1⟩ ∧ NewV B r) ∨ (x ≠ 0 ∧ r = zeroArr ∧ ∃ q, q < N ∧ (∀ q', q' < q → (ofR f (ln q')).2 = 0) ∧ (ofR f (ln q)).2 = x)) := by
  rcases h with ⟨h1, D, d, rfl, hr, hb, hn⟩ | ⟨q, h1, h2, h3, rfl, hb⟩
  · exact ⟨_, 0, rfl, hb, .inl ⟨rfl, h1, hr, newV hv (fun k e => Nat.le_trans hB (hn k e))⟩⟩
  · exact ⟨zeroArr, _, by rw [errV_ne h3], hb, .inr ⟨h3, rfl, q, h1, h2, rfl⟩⟩
def RedTellsM (f : Int) (a : Arr) (t : List Nat) (k : Nat) (w : World) (e : Ending) (w' : World) : Prop :=
  (redErr f t k ≠ 0 ∧ Fails zeroArr (redErr f t k) w e w') ∨ (redErr f t k = 0 ∧ FoldTellsM f (lnR a t k) ((lineF t k).1 * (lineF t k).2.2) (a.sh.eraseIdx k) w e w')
theorem RedTellsM.old {f : Int} {a : Arr} {t : List Nat} {k : Nat} {w : World} {e : Ending} {w' : World} (h : RedTellsM f a t k w e w') : RedTells f a t k w e w' := h.elim .inl fun h => .inr ⟨h.1, h.2.old⟩
theorem RedTellsM.err {f : Int} {a : Arr} {t : List Nat} {k : Nat} {w : World} {e : Ending} {w' : World} {r : Int} (h : redErr f t k = r) (hr : r ≠ 0) (hf : Fails zeroArr r w e w') : RedTellsM f a t k w e w' := .inl ⟨by rw [h]; exact hr, by rw [h]; exact hf⟩

set_option maxRecDepth 100000 in
set_option maxHeartbeats 4000000 in
theorem reduce_new {v : Value} {a : Arr} {t : List Nat} {w : World} {f : Int} {k : Nat} (ha : IsArr w v a) (h : Ok a t) (hk : k < t.length) (hf : twoE f 0 1 = 0) (hc : a.ch = false) (hw : Wf a.da) :
    Calls Tryz.prog 11 #[.int .i64 f, .int .i64 k, v] w (RedTellsM f a t k w) := by
  obtain ⟨A, ca, D, cd, rfl, hs, hd⟩ := ha.open_
  have HA := Lib.hid ha
  have HS := Lib.hid hs
  have hprod := lineF_prod hk
  have hlong := lineF_long t k
  have hout := lineF_out h.good.2.1 h.good.1 hk
  have hin := lineF_in h.good.2.1 h.good.1 hk
  have hbut := prod_but h.good.2.1 h.good.1 hk
  have hdl : a.da.length ≤ 4096 := by rw [h.len]; exact h.good.2.2
  have hL4 : t.getD k 0 ≤ 4096 := by rw [List.getD_eq_getElem?_getD, List.getElem?_eq_getElem hk]; exact h.good.2.1 _ (List.getElem_mem _)
  have hsl : a.sh.length = t.length := by rw [h.sh, length_ints]
  have h6 := h.good.1
  have HKS := Lib.hid (show k < a.sh.length by omega)
  have HKW := Lib.hid (show IntKind.i64.wrap ((k : Int) + 1) = (k : Int) + 1 from IntWalk.i64_in _ (by omega))
  have HAL := Lib.hid (falong_ok (f := f) (k := k) (w := (w.alloc (.cells #[.bool a.ch, .slice A a.sh.length ca, .slice D a.da.length cd] 25)).alloc (.cells #[.bool false, .slice none 0 0, .slice none 0 0] 25)) (ha.mono (below_two _ _ _)) h hk hf hc)
  have HRE := Lib.hid (show redErr f t k = if t.getD k 0 = 0 then (if neutE f ≠ 0 then neutE f else if 4096 < (lineF t k).1 * (lineF t k).2.2 then 7 else 0) else 0 from rfl)
  have HTE := Lib.hid (show ∀ e w', RedTellsM f a t k w e w' ↔ (redErr f t k ≠ 0 ∧ Fails zeroArr (redErr f t k) w e w') ∨ (redErr f t k = 0 ∧ FoldTellsM f (lnR a t k) ((lineF t k).1 * (lineF t k).2.2) (a.sh.eraseIdx k) w e w') from fun _ _ => Iff.rfl)
  obtain ⟨O, hO⟩ : ∃ z, z = (lineF t k).1 := ⟨_, rfl⟩
  obtain ⟨L, hL⟩ : ∃ z, z = t.getD k 0 := ⟨_, rfl⟩
  obtain ⟨I, hI⟩ : ∃ z, z = (lineF t k).2.2 := ⟨_, rfl⟩
  rw [← hL] at hlong hL4
  have hlv : lineV (lineF t k) = .agg #[.int .i64 O, .int .i64 L, .int .i64 I] := by unfold lineV; rw [hlong, hO, hI]
  unfold GivesLine at HAL
  rw [hlv] at HAL
  rw [hlong, ← hO, ← hI] at hprod
  rw [← hO] at hout
  rw [← hI] at hin
  rw [← hO, ← hI] at hbut HTE
  rw [← hL, ← hO, ← hI] at HRE
  have HFO := Lib.hid (fun (g : Nat) (vs : Value) (W : World) (hb : Below w.heap.size w W) (hv : IsInts W vs (a.sh.eraseIdx k)) (hg : Box W g 47 #[.int .i64 O, .int .i64 L, .int .i64 I]) (hfew : L = 0 → O * I ≤ 4096) => (show Calls Tryz.prog 25 #[.agg #[.int .i64 O, .int .i64 L, .int .i64 I], .int .i64 f, .agg #[.bool a.ch, .slice A a.sh.length ca, .slice D a.da.length cd], vs, .int .i64 1, .func (.func 26) #[] #[], .func (.func 27) #[] #[.pointer (some ⟨g, 0, none⟩)]] W (FoldTellsN f (lnR a t k) (O * I) (a.sh.eraseIdx k) vs W) by
    have h9 := folded_new (f := f) (O := O) (L := L) (I := I) (n := 1) (FR := 26) (LG := 27) (cf := #[]) (cl := #[.pointer (some ⟨g, 0, none⟩)]) (fr := fun _ => 0) (lg := fun _ => L) (ln := lnR a t k) (ha.mono hb) hv hw hdl hout hin (by omega) hL4 (by
        rw [Nat.mul_one]
        rcases Nat.eq_zero_or_pos L with h0 | h0
        · have := hfew h0; omega
        · have h1 := h.good.2.2
          rw [← hprod] at h1
          have h2 : O * I ≤ O * L * I := by
            rw [Nat.mul_assoc]
            exact Nat.mul_le_mul_left _ (Nat.le_mul_of_pos_left _ h0)
          omega)
      (fun j hj => hL4)
      (fun o k' i j ho hk' hi hj => by
        have h8 := idx_lt3 (O := O) (n := L) (I := I) (o := o) (k := j) (i := i) ho hj hi
        rw [hprod, ← h.len] at h8
        simpa using h8)
      (fun o k' i ho hk' hi => by unfold lnR; rw [← hL, ← hI]; exact lnAt_at hk' hi)
      (fun k' W' _ _ => zero_any k' W') (fun k' W' hk' hb' => longs_any (hg.below hb'))
      (fun args W => rfl) (fun args W => rfl)
    rwa [Nat.mul_one] at h9))
  clear ha hs hd h hprod hlong hout hin hO hL hI hlv hf hc hw hsl h6
  go_enter Tryz.func11, Tryz.ntmps11
  have bA0 := (Box.new w 25 #[.bool a.ch, .slice A a.sh.length ca, .slice D a.da.length cd]).alloc (.cells #[.bool false, .slice none 0 0, .slice none 0 0] 25)
  have bR0 := Box.new (w.alloc (.cells #[.bool a.ch, .slice A a.sh.length ca, .slice D a.da.length cd] 25)) 25 #[.bool false, .slice none 0 0, .slice none 0 0]
  rw [World.size_alloc] at bR0
  have hb0 := below_two w (.cells #[.bool a.ch, .slice A a.sh.length ca, .slice D a.da.length cd] 25) (.cells #[.bool false, .slice none 0 0, .slice none 0 0] 25)
  obtain ⟨t0, t1, t2⟩ := bA0.three
  go_wp2_with fail
  refine HAL.out.mono ?_
  rintro e w1 ⟨rfl, hb1⟩
  have bA1 := bA0.below hb1
  have bR1 := bR0.below hb1
  have hbw1 := hb0.trans (hb1.mono hb0.size)
  clear bA0 bR0 hb0 hb1 t0 t1 t2
  obtain ⟨t0, t1, t2⟩ := bA1.three
  have lA := bA1.lt
  have bL2 := Box.new w1 47 #[.int .i64 O, .int .i64 L, .int .i64 I]
  have bA2 := bA1.alloc (.cells #[.int .i64 O, .int .i64 L, .int .i64 I] 47)
  have bR2 := bR1.alloc (.cells #[.int .i64 O, .int .i64 L, .int .i64 I] 47)
  have hbw2 := hbw1.alloc hbw1.size (.cells #[.int .i64 O, .int .i64 L, .int .i64 I] 47)
  obtain ⟨r0, r1, r2⟩ := bR1.three
  have rf := bR1.frozen
  have lR := bR1.lt
  obtain ⟨r0', r1', r2'⟩ := bR2.three
  have rf' := bR2.frozen
  clear hbw1
  by_cases hL0 : L = 0
  · have dL : ((L : Int) == 0) = true := by simp [hL0]
    have HL0 := Lib.hid hL0
    clear hL0
    by_cases hn : neutE f = 0
    case neg =>
      have HE := Lib.hid (show redErr f t k = neutE f by rw [HRE.out, if_pos HL0.out, if_pos hn])
      have hnu := fun W => neutral_any f W
      rw [errV_ne hn] at hnu
      have HNU := Lib.hid hnu
      have HN := Lib.hid hn
      clear hn hnu bA1 bR1
      go_wp2_with fail
      refine (HNU.out _).mono ?_
      rintro e w3 ⟨rfl, hw3⟩
      have bR3 : Box w3 (w.heap.size + 1) 25 #[.bool false, .slice none 0 0, .slice none 0 0] := by rw [← hw3]; exact bR2
      have hbw3 : Below w.heap.size w w3 := by rw [← hw3]; exact hbw2
      clear hw3 r0' r1' r2' rf' bR2 bA2 bL2 hbw2
      obtain ⟨r0', r1', r2'⟩ := bR3.three
      have rf' := bR3.frozen
      have rl' := bR3.lt
      go_wp2_with fail
      have hg2 := grownBy_three w3 (w.heap.size + 1) (.bool false) (.slice none 0 0) (.slice none 0 0)
      refine bodyPost_ret (v := .tuple #[zeroArr, .iface 54 (.int .i64 (neutE f))]) (by simp [results, Tryz.results11, go_sem, zeroArr, r0', r1', r2', rf', rl']) rfl ?_
      exact .err HE.out HN.out ⟨rfl, hbw3.grown hg2 hbw3.size (fun j e => by cases e; omega)⟩
    have hnu := fun W => neutral_any f W
    rw [hn, show errV 0 = .nilIface from rfl] at hnu
    have HNU := Lib.hid hnu
    have HRE2 := Lib.hid (show redErr f t k = if 4096 < O * I then 7 else 0 by rw [HRE.out, if_pos HL0.out, if_neg (fun h => h hn)])
    clear hn hnu
    by_cases hfew : 4096 < O * I
    · have HE := Lib.hid (show redErr f t k = 7 by rw [HRE2.out, if_pos hfew])
      have HMU := Lib.hid (show IntKind.i64.wrap ((O : Int) * (I : Int)) = (O : Int) * (I : Int) by rw [← Int.natCast_mul]; exact IntWalk.i64_in _ (by omega))
      have dF : decide ((4096 : Int) < (O : Int) * (I : Int)) = true := by rw [← Int.natCast_mul]; simp only [decide_eq_true_eq]; omega
      have DF := Lib.hid dF
      clear hfew dF hbut
      go_wp2_with fail
      refine (HNU.out _).mono ?_
      rintro e w3 ⟨rfl, rfl⟩
      have HS2 := Lib.hid (HS.out.mono hbw2)
      have lL := bL2.lt
      have lA2 := bA2.lt
      obtain ⟨q0, q1, q2⟩ := bA2.three
      clear t0 t1 t2 r0 r1 r2 rf lR lA bA1 bR1
      go_wp2_with fail
      refine (clone_any _ a.sh _ HS2.out).mono ?_
      rintro e w4 ⟨Ac, cc, rfl, hoc, hbc⟩
      obtain ⟨gc, rfl⟩ : ∃ gc, Ac = some ⟨gc, 0, none⟩ := by
        rcases hoc.1.2 with ⟨e, he⟩ | ⟨gc, cap, cur, e, -⟩
        · have := HKS.out; rw [hoc.length] at this; injection e; omega
        · injection e with e1 e2 e3; exact ⟨gc, e1⟩
      have hgc := hoc.lt (k := gc) rfl
      have bL4 := bL2.below hbc
      have bA4 := bA2.below hbc
      have bR4 := bR2.below hbc
      have hbw4 := hbw2.trans (hbc.mono hbw2.size)
      have hng : ∀ x : Nat, x < (w1.alloc (.cells #[.int .i64 O, .int .i64 L, .int .i64 I] 47)).heap.size → x ≠ gc := fun x h1 h2 => by omega
      have HN1 := Lib.hid (hng _ bL2.lt)
      have HN2 := Lib.hid (hng _ bA2.lt)
      have HN3 := Lib.hid (hng _ bR2.lt)
      have HGB := Lib.hid (show w.heap.size ≤ gc by have := hbw2.size; omega)
      clear hbc hng hgc bL2 bA2 bR2 hbw2 q0 q1 q2 r0' r1' r2' rf'
      have hkw := HKW.out
      go_wp2_with fail
      clear hkw
      refine (delete_ok _ gc a.sh.length cc k a.sh _ hoc HKS.out).mono ?_
      rintro e w5 ⟨rfl, hod, hgr⟩
      have bL5 := bL4.grown hgr (fun e => HN1.out (by injection e with e; exact e.symm))
      have bA5 := bA4.grown hgr (fun e => HN2.out (by injection e with e; exact e.symm))
      have bR5 := bR4.grown hgr (fun e => HN3.out (by injection e with e; exact e.symm))
      have hbw5 : Below w.heap.size w w5 := hbw4.grown hgr hbw4.size (fun j e => by cases e; exact HGB.out)
      clear hgr hoc bL4 bA4 bR4 hbw4
      obtain ⟨l0, l1, l2⟩ := bL5.three
      obtain ⟨q0, q1, q2⟩ := bA5.three
      obtain ⟨z0, z1, z2⟩ := bR5.three
      have zf := bR5.frozen
      have zl := bR5.lt
      have ll5 := bL5.lt
      have hmu := HMU.out
      have dF := DF.out
      go_wp2_with fail
      have hg2 := grownBy_three w5 (w.heap.size + 1) (.bool false) (.slice none 0 0) (.slice none 0 0)
      refine bodyPost_ret (v := .tuple #[zeroArr, .iface 54 (.int .i64 7)]) (by simp [results, Tryz.results11, go_sem, zeroArr, z0, z1, z2, zf, zl]) rfl ?_
      exact .err HE.out (by omega) ⟨rfl, hbw5.grown hg2 hbw5.size (fun j e => by cases e; omega)⟩
    · have HE := Lib.hid (show redErr f t k = 0 by rw [HRE2.out, if_neg hfew])
      have HFEW := Lib.hid (fun (_ : L = 0) => (show O * I ≤ 4096 by omega))
      have HMU := Lib.hid (show IntKind.i64.wrap ((O : Int) * (I : Int)) = (O : Int) * (I : Int) by rw [← Int.natCast_mul]; exact IntWalk.i64_in _ (by omega))
      have DF := Lib.hid (show decide ((4096 : Int) < (O : Int) * (I : Int)) = false by rw [← Int.natCast_mul]; simp only [decide_eq_false_iff_not]; omega)
      clear hfew hbut
      go_wp2_with fail
      refine (HNU.out _).mono ?_
      rintro e w3 ⟨rfl, rfl⟩
      have HS2 := Lib.hid (HS.out.mono hbw2)
      have lL := bL2.lt
      have lA2 := bA2.lt
      obtain ⟨q0, q1, q2⟩ := bA2.three
      clear t0 t1 t2 r0 r1 r2 rf lR lA bA1 bR1
      go_wp2_with fail
      refine (clone_any _ a.sh _ HS2.out).mono ?_
      rintro e w4 ⟨Ac, cc, rfl, hoc, hbc⟩
      obtain ⟨gc, rfl⟩ : ∃ gc, Ac = some ⟨gc, 0, none⟩ := by
        rcases hoc.1.2 with ⟨e, he⟩ | ⟨gc, cap, cur, e, -⟩
        · have := HKS.out; rw [hoc.length] at this; injection e; omega
        · injection e with e1 e2 e3; exact ⟨gc, e1⟩
      have hgc := hoc.lt (k := gc) rfl
      have bL4 := bL2.below hbc
      have bA4 := bA2.below hbc
      have bR4 := bR2.below hbc
      have hbw4 := hbw2.trans (hbc.mono hbw2.size)
      have hng : ∀ x : Nat, x < (w1.alloc (.cells #[.int .i64 O, .int .i64 L, .int .i64 I] 47)).heap.size → x ≠ gc := fun x h1 h2 => by omega
      have HN1 := Lib.hid (hng _ bL2.lt)
      have HN2 := Lib.hid (hng _ bA2.lt)
      have HN3 := Lib.hid (hng _ bR2.lt)
      have HGB := Lib.hid (show w.heap.size ≤ gc by have := hbw2.size; omega)
      clear hbc hng hgc bL2 bA2 bR2 hbw2 q0 q1 q2 r0' r1' r2' rf'
      have hkw := HKW.out
      go_wp2_with fail
      clear hkw
      refine (delete_ok _ gc a.sh.length cc k a.sh _ hoc HKS.out).mono ?_
      rintro e w5 ⟨rfl, hod, hgr⟩
      have bL5 := bL4.grown hgr (fun e => HN1.out (by injection e with e; exact e.symm))
      have bA5 := bA4.grown hgr (fun e => HN2.out (by injection e with e; exact e.symm))
      have bR5 := bR4.grown hgr (fun e => HN3.out (by injection e with e; exact e.symm))
      have hbw5 : Below w.heap.size w w5 := hbw4.grown hgr hbw4.size (fun j e => by cases e; exact HGB.out)
      clear hgr hoc bL4 bA4 bR4 hbw4
      obtain ⟨l0, l1, l2⟩ := bL5.three
      obtain ⟨q0, q1, q2⟩ := bA5.three
      obtain ⟨z0, z1, z2⟩ := bR5.three
      have zf := bR5.frozen
      have zl := bR5.lt
      have ll5 := bL5.lt
      have hmu := HMU.out
      have dF := DF.out
      go_wp2_with fail
      refine (HFO.out w1.heap.size _ _ hbw5 hod.isInts bL5 HFEW.out).mono ?_
      rintro e w6 h6
      obtain ⟨r, x, rfl, hb6, hx⟩ := h6.upon hbw5.size (block_from HGB.out)
      have hbw6 := hbw5.trans (hb6.mono hbw5.size)
      have bR6 := bR5.below hb6
      clear l0 l1 l2 q0 q1 q2 z0 z1 z2 zf zl ll5 bL5 bA5 bR5 hbw5 hod hb6 h6
      obtain ⟨z0, z1, z2⟩ := bR6.three
      have zf := bR6.frozen
      have zl := bR6.lt
      rcases hx with ⟨rfl, hall, hr, hnr⟩ | ⟨hx0, rfl, hq⟩
      · obtain ⟨A7, c7, D7, d7, rfl, -, -⟩ := hr.open_
        simp only [errV_zero]
        have HALL := Lib.hid hall
        clear hall
        obtain ⟨X, hX⟩ : ∃ X, X = (List.range (O * I)).map fun q => (ofR f (lnR a t k q)).1 := ⟨_, rfl⟩
        have HX := Lib.hid hX
        rw [← hX] at hr hnr ⊢
        clear hX
        have HNV := Lib.hid hnr
        clear hnr
        go_wp2_with fail
        have hgg := grownBy_three w6 (w.heap.size + 1) (.bool false) (.slice A7 (a.sh.eraseIdx k).length c7) (.slice D7 X.length d7)
        refine bodyPost_ret (v := .tuple #[.agg #[.bool false, .slice A7 (a.sh.eraseIdx k).length c7, .slice D7 X.length d7], .nilIface]) (by simp [results, Tryz.results11, go_sem, z0, z1, z2, zf, zl]) rfl ?_
        refine (HTE.out _ _).2 (.inr ⟨HE.out, .inl ⟨HALL.out, _, rfl, ?_, hbw6.grown hgg hbw6.size (fun j e => by cases e; omega), HNV.out⟩⟩)
        rw [← HX.out]
        exact hr.stored bR6 _ _ _
      · have HX0 := Lib.hid hx0
        have HQ := Lib.hid hq
        rw [errV_ne hx0]
        clear hx0 hq
        unfold zeroArr
        go_wp2_with fail
        have hgg := grownBy_three w6 (w.heap.size + 1) (.bool false) (.slice none 0 0) (.slice none 0 0)
        refine bodyPost_ret (v := .tuple #[zeroArr, .iface 54 (.int .i64 x)]) (by simp [results, Tryz.results11, go_sem, zeroArr, z0, z1, z2, zf, zl]) rfl ?_
        obtain ⟨q, hq1, hq2, hq3⟩ := HQ.out
        exact (HTE.out _ _).2 (.inr ⟨HE.out, .inr ⟨q, hq1, hq2, by rw [hq3]; exact HX0.out, by rw [hq3], hbw6.grown hgg hbw6.size (fun j e => by cases e; omega)⟩⟩)
  · have dL : ((L : Int) == 0) = false := by simpa using hL0
    have HE := Lib.hid (show redErr f t k = 0 by rw [HRE.out, if_neg hL0])
    have HFEW := Lib.hid (fun (h : L = 0) => (show O * I ≤ 4096 from absurd h hL0))
    clear hL0 hbut
    have HS2 := Lib.hid (HS.out.mono hbw2)
    have lL := bL2.lt
    have lA2 := bA2.lt
    obtain ⟨q0, q1, q2⟩ := bA2.three
    clear t0 t1 t2 r0 r1 r2 rf lR lA bA1 bR1
    go_wp2_with fail
    refine (clone_any _ a.sh _ HS2.out).mono ?_
    rintro e w4 ⟨Ac, cc, rfl, hoc, hbc⟩
    obtain ⟨gc, rfl⟩ : ∃ gc, Ac = some ⟨gc, 0, none⟩ := by
      rcases hoc.1.2 with ⟨e, he⟩ | ⟨gc, cap, cur, e, -⟩
      · have := HKS.out; rw [hoc.length] at this; injection e; omega
      · injection e with e1 e2 e3; exact ⟨gc, e1⟩
    have hgc := hoc.lt (k := gc) rfl
    have bL4 := bL2.below hbc
    have bA4 := bA2.below hbc
    have bR4 := bR2.below hbc
    have hbw4 := hbw2.trans (hbc.mono hbw2.size)
    have hng : ∀ x : Nat, x < (w1.alloc (.cells #[.int .i64 O, .int .i64 L, .int .i64 I] 47)).heap.size → x ≠ gc := fun x h1 h2 => by omega
    have HN1 := Lib.hid (hng _ bL2.lt)
    have HN2 := Lib.hid (hng _ bA2.lt)
    have HN3 := Lib.hid (hng _ bR2.lt)
    have HGB := Lib.hid (show w.heap.size ≤ gc by have := hbw2.size; omega)
    clear hbc hng hgc bL2 bA2 bR2 hbw2 q0 q1 q2 r0' r1' r2' rf'
    have hkw := HKW.out
    go_wp2_with fail
    clear hkw
    refine (delete_ok _ gc a.sh.length cc k a.sh _ hoc HKS.out).mono ?_
    rintro e w5 ⟨rfl, hod, hgr⟩
    have bL5 := bL4.grown hgr (fun e => HN1.out (by injection e with e; exact e.symm))
    have bA5 := bA4.grown hgr (fun e => HN2.out (by injection e with e; exact e.symm))
    have bR5 := bR4.grown hgr (fun e => HN3.out (by injection e with e; exact e.symm))
    have hbw5 : Below w.heap.size w w5 := hbw4.grown hgr hbw4.size (fun j e => by cases e; exact HGB.out)
    clear hgr hoc bL4 bA4 bR4 hbw4
    obtain ⟨l0, l1, l2⟩ := bL5.three
    obtain ⟨q0, q1, q2⟩ := bA5.three
    obtain ⟨z0, z1, z2⟩ := bR5.three
    have zf := bR5.frozen
    have zl := bR5.lt
    have ll5 := bL5.lt
    go_wp2_with fail
    refine (HFO.out w1.heap.size _ _ hbw5 hod.isInts bL5 HFEW.out).mono ?_
    rintro e w6 h6
    obtain ⟨r, x, rfl, hb6, hx⟩ := h6.upon hbw5.size (block_from HGB.out)
    have hbw6 := hbw5.trans (hb6.mono hbw5.size)
    have bR6 := bR5.below hb6
    clear l0 l1 l2 q0 q1 q2 z0 z1 z2 zf zl ll5 bL5 bA5 bR5 hbw5 hod hb6 h6
    obtain ⟨z0, z1, z2⟩ := bR6.three
    have zf := bR6.frozen
    have zl := bR6.lt
    rcases hx with ⟨rfl, hall, hr, hnr⟩ | ⟨hx0, rfl, hq⟩
    · obtain ⟨A7, c7, D7, d7, rfl, -, -⟩ := hr.open_
      simp only [errV_zero]
      have HALL := Lib.hid hall
      clear hall
      obtain ⟨X, hX⟩ : ∃ X, X = (List.range (O * I)).map fun q => (ofR f (lnR a t k q)).1 := ⟨_, rfl⟩
      have HX := Lib.hid hX
      rw [← hX] at hr hnr ⊢
      clear hX
      have HNV := Lib.hid hnr
      clear hnr
      go_wp2_with fail
      have hgg := grownBy_three w6 (w.heap.size + 1) (.bool false) (.slice A7 (a.sh.eraseIdx k).length c7) (.slice D7 X.length d7)
      refine bodyPost_ret (v := .tuple #[.agg #[.bool false, .slice A7 (a.sh.eraseIdx k).length c7, .slice D7 X.length d7], .nilIface]) (by simp [results, Tryz.results11, go_sem, z0, z1, z2, zf, zl]) rfl ?_
      refine (HTE.out _ _).2 (.inr ⟨HE.out, .inl ⟨HALL.out, _, rfl, ?_, hbw6.grown hgg hbw6.size (fun j e => by cases e; omega), HNV.out⟩⟩)
      rw [← HX.out]
      exact hr.stored bR6 _ _ _
    · have HX0 := Lib.hid hx0
      have HQ := Lib.hid hq
      rw [errV_ne hx0]
      clear hx0 hq
      unfold zeroArr
      go_wp2_with fail
      have hgg := grownBy_three w6 (w.heap.size + 1) (.bool false) (.slice none 0 0) (.slice none 0 0)
      refine bodyPost_ret (v := .tuple #[zeroArr, .iface 54 (.int .i64 x)]) (by simp [results, Tryz.results11, go_sem, zeroArr, z0, z1, z2, zf, zl]) rfl ?_
      obtain ⟨q, hq1, hq2, hq3⟩ := HQ.out
      exact (HTE.out _ _).2 (.inr ⟨HE.out, .inr ⟨q, hq1, hq2, by rw [hq3]; exact HX0.out, by rw [hq3], hbw6.grown hgg hbw6.size (fun j e => by cases e; omega)⟩⟩)

theorem reduce_ok {v : Value} {a : Arr} {t : List Nat} {w : World} {f : Int} {k : Nat} (ha : IsArr w v a) (h : Ok a t) (hk : k < t.length) (hf : twoE f 0 1 = 0) (hc : a.ch = false) (hw : Wf a.da) :
    Calls Tryz.prog 11 #[.int .i64 f, .int .i64 k, v] w (RedTells f a t k w) := (reduce_new ha h hk hf hc hw).mono fun _ _ p => p.old

end Go.Proofs.YtihndbkaoejnnaaGreatDoor

namespace Go.Proofs.YtihndbkaoejnnaaGreatDoor.P
open Go Go.RowKit
theorem one_lnR {a : Arr} {m : Nat} (h : Ok a [m]) : Go.Proofs.YtihndbkaoejnnaaGreatDoor.lnR a [m] 0 0 = a.da := by
  have hl : a.da.length = m := by rw [h.len]; simp [prod]
  unfold Go.Proofs.YtihndbkaoejnnaaGreatDoor.lnR lnAt Go.Proofs.YtihndbkaoejnnaaGreatDoor.fline
  rw [one_line]
  refine List.ext_getElem? fun j => ?_
  simp only [List.getD_cons_zero, Nat.div_one, Nat.mod_one, Nat.mul_one, Nat.add_zero, Nat.zero_mul, Nat.zero_add, List.getElem?_map, Nat.zero_div]
  by_cases hj : j < m
  · rw [List.getElem?_range hj, List.getElem?_eq_getElem (show j < a.da.length by omega)]
    simp [List.getD_eq_getElem?_getD, List.getElem?_eq_getElem (show j < a.da.length by omega)]
  · rw [List.getElem?_eq_none (by rw [List.length_range]; omega), List.getElem?_eq_none (by omega)]; rfl
theorem one_redErr {a : Arr} {m : Nat} {f : Int} (h : Ok a [m]) (hf : (ofR f a.da).2 = 0) : Go.Proofs.YtihndbkaoejnnaaGreatDoor.redErr f [m] 0 = 0 := by
  have hl : a.da.length = m := by rw [h.len]; simp [prod]
  unfold Go.Proofs.YtihndbkaoejnnaaGreatDoor.redErr
  rw [one_line]
  simp only [List.getD_cons_zero]
  by_cases hm : m = 0
  · subst hm
    have e : a.da = [] := List.eq_nil_of_length_eq_zero hl
    rw [e] at hf
    have h2 : neutE f = 0 := hf
    rw [if_pos rfl, if_neg (fun h => h h2), if_neg (by omega)]
  · rw [if_neg hm]
end Go.Proofs.YtihndbkaoejnnaaGreatDoor.P
namespace Go.Proofs.YtihndbkaoejnnaaGreatDoor
open Go Go.RowKit Go.Proofs.YtihndbkaoejnnaaGreatDoor.P
theorem reduce_vec {v : Value} {a : Arr} {m : Nat} {w : World} {f : Int} (ha : IsArr w v a) (h : Ok a [m]) (hf : twoE f 0 1 = 0) (ho : (ofR f a.da).2 = 0) (hc : a.ch = false) (hw : Wf a.da) :
    Calls Tryz.prog 11 #[.int .i64 f, .int .i64 0, v] w (GivesOk ⟨false, [], [(ofR f a.da).1]⟩ w) := by
  have hN : (lineF [m] 0).1 * (lineF [m] 0).2.2 = 1 := by rw [one_line]; rfl
  have hsh : a.sh.eraseIdx 0 = [] := by rw [h.sh]; rfl
  refine (reduce_ok (k := 0) ha h (by simp) hf hc hw).mono fun e w' h6 => ?_
  rcases h6 with ⟨h7, -⟩ | ⟨-, h7⟩
  · exact absurd (one_redErr h ho) h7
  · rw [hN, hsh] at h7
    rcases h7 with ⟨-, h8⟩ | ⟨q, hq, -, hz, -⟩
    · have e : (List.range 1).map (fun q => (ofR f (lnR a [m] 0 q)).1) = [(ofR f a.da).1] := by simp [List.range_succ, one_lnR h]
      rw [e] at h8; exact h8
    · have : q = 0 := by omega
      subst this
      rw [one_lnR h] at hz
      exact absurd ho hz
end Go.Proofs.YtihndbkaoejnnaaGreatDoor

namespace Go.Proofs.YtihndbkaoejnnaaGreatDoor
open Go Go.RowKit Go.Proofs.YtihndbkaoejnnaaGreatDoor.P

theorem reduce_vec_new {v : Value} {a : Arr} {m : Nat} {w : World} {f : Int} (ha : IsArr w v a) (h : Ok a [m]) (hf : twoE f 0 1 = 0) (ho : (ofR f a.da).2 = 0) (hc : a.ch = false) (hw : Wf a.da) :
    Calls Tryz.prog 11 #[.int .i64 f, .int .i64 0, v] w (GivesOkN ⟨false, [], [(ofR f a.da).1]⟩ w) := by
  have hN : (lineF [m] 0).1 * (lineF [m] 0).2.2 = 1 := by rw [one_line]; rfl
  have hsh : a.sh.eraseIdx 0 = [] := by rw [h.sh]; rfl
  refine (reduce_new (k := 0) ha h (by simp) hf hc hw).mono fun e w' h6 => ?_
  rcases h6 with ⟨h7, -⟩ | ⟨-, h7⟩
  · exact absurd (one_redErr h ho) h7
  · rw [hN, hsh] at h7
    rcases h7 with ⟨-, h8⟩ | ⟨q, hq, -, hz, -⟩
    · have e : (List.range 1).map (fun q => (ofR f (lnR a [m] 0 q)).1) = [(ofR f a.da).1] := by simp [List.range_succ, one_lnR h]
      rw [e] at h8; exact h8
    · have : q = 0 := by omega
      subst this
      rw [one_lnR h] at hz
      exact absurd ho hz

end Go.Proofs.YtihndbkaoejnnaaGreatDoor
