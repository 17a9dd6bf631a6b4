/- What the card TopSums leans on: FoldScan, ClimbPlain, ScanNew, ActNum, SumPlain. Conditions: none but those of its theorems. -/
import Derived.Test.YtihndbkaoejnnaaGreatDoorSumsAI
import Derived.Test.YtihndbkaoejnnaaGreatDoorSumsAA
import Derived.Test.YtihndbkaoejnnaaGreatDoorSumsB
set_option linter.unusedSimpArgs false
set_option linter.unusedVariables false
namespace Go.Proofs.YtihndbkaoejnnaaGreatDoor.P
theorem noneElse_prod {t : List Nat} {k : Nat} (h : NoneElse t k) : prod t = 0 := by
  obtain ⟨j, hj, -, hz⟩ := h
  apply Classical.byContradiction
  intro h0
  have e : t[j]? = some (t.getD j 0) := by rw [List.getD_eq_getElem?_getD, List.getElem?_eq_getElem hj]; rfl
  have h1 := Go.Proofs.YtihndbkaoejnnaaGreatDoor.prod_take_le h0 (j + 1)
  have h2 : prod t = prod (t.take (j + 1)) * prod (t.drop (j + 1)) := by rw [← prod_append, List.take_append_drop]
  rw [Go.Proofs.YtihndbkaoejnnaaGreatDoor.prod_take_succ e, hz, Nat.mul_zero, Nat.zero_mul] at h2
  exact h0 h2
theorem lineF_prod {t : List Nat} {k : Nat} (hk : k < t.length) : (lineF t k).1 * (lineF t k).2.1 * (lineF t k).2.2 = prod t := by
  unfold lineF
  by_cases h : NoneElse t k
  · rw [if_pos h, noneElse_prod h]; simp
  · rw [if_neg h, prod_axis hk]
theorem lineF_long (t : List Nat) (k : Nat) : (lineF t k).2.1 = t.getD k 0 := by
  unfold lineF
  by_cases h : NoneElse t k
  · rw [if_pos h]
  · rw [if_neg h]
theorem lineF_out {t : List Nat} {k : Nat} (h : ∀ n ∈ t, n ≤ 4096) (hl : t.length ≤ 6) (hk : k < t.length) : (lineF t k).1 ≤ 1152921504606846976 := by
  unfold lineF
  by_cases c : NoneElse t k
  · rw [if_pos c]; exact Nat.zero_le _
  · rw [if_neg c, ← out_all hk]; exact out_top h hl hk
theorem lineF_in {t : List Nat} {k : Nat} (h : ∀ n ∈ t, n ≤ 4096) (hl : t.length ≤ 6) (hk : k < t.length) : (lineF t k).2.2 ≤ 1152921504606846976 := by
  unfold lineF
  by_cases c : NoneElse t k
  · rw [if_pos c]; exact Nat.zero_le _
  · rw [if_neg c, ← in_all]; exact in_top h hl hk
/-- The lines, told by the place of what they fold to. -/
def lnAt (d : List Int) (L I n : Nat) (fr lg : Nat → Nat) (q : Nat) : List Int := Go.Proofs.YtihndbkaoejnnaaGreatDoor.fline d L I fr lg (q / I / n) (q / I % n) (q % I)
theorem lnAt_at {d : List Int} {L I n o k i : Nat} {fr lg : Nat → Nat} (hk : k < n) (hi : i < I) : lnAt d L I n fr lg ((o * n + k) * I + i) = Go.Proofs.YtihndbkaoejnnaaGreatDoor.fline d L I fr lg o k i := by
  unfold lnAt
  have h1 : ((o * n + k) * I + i) / I = o * n + k := by rw [Nat.add_comm, Nat.add_mul_div_right _ _ (by omega), Nat.div_eq_of_lt hi]; omega
  have h2 : ((o * n + k) * I + i) % I = i := by rw [Nat.add_comm, Nat.add_mul_mod_self_right, Nat.mod_eq_of_lt hi]
  have h3 : (o * n + k) / n = o := by rw [Nat.add_comm, Nat.add_mul_div_right _ _ (by omega), Nat.div_eq_of_lt hk]; omega
  have h4 : (o * n + k) % n = k := by rw [Nat.add_comm, Nat.add_mul_mod_self_right, Nat.mod_eq_of_lt hk]
  rw [h1, h2, h3, h4]
end Go.Proofs.YtihndbkaoejnnaaGreatDoor.P
namespace Go.Proofs.YtihndbkaoejnnaaGreatDoor
open Go Go.RowKit Go.Proofs.YtihndbkaoejnnaaGreatDoor.P

theorem zero_any (i : Int) (W : World) : Calls Tryz.prog 26 (#[.int .i64 i] ++ #[]) W fun e W' => e = .returned (.int .i64 ((0 : Nat) : Int)) ∧ W = W' := by
  simp only [List.append_toArray, List.append_nil]
  go_enter Tryz.func26, Tryz.ntmps26
  go_wp2_with fail
  go_ret
  exact ⟨rfl, rfl⟩
theorem upto_any (k : Nat) (hk : k ≤ 4096) (W : World) : Calls Tryz.prog 192 (#[.int .i64 k] ++ #[]) W fun e W' => e = .returned (.int .i64 ((k + 1 : Nat) : Int)) ∧ W = W' := by
  simp only [List.append_toArray, List.append_nil]
  go_enter Tryz.func192, Tryz.ntmps192
  go_wp2_with fail
  go_ret
  exact ⟨rfl, rfl⟩

theorem first_bad {N : Nat} {p : Nat → Int} (h : ¬ ∀ q, q < N → p q = 0) : ∃ q, q < N ∧ (∀ q', q' < q → p q' = 0) ∧ p q ≠ 0 := by
  induction N with
  | zero => exact absurd (fun q hq => by omega) h
  | succ N ih =>
    by_cases h1 : ∀ q, q < N → p q = 0
    · refine ⟨N, by omega, h1, fun h2 => h fun q hq => ?_⟩
      rcases Nat.lt_or_ge q N with h3 | h3
      · exact h1 q h3
      · rw [show q = N by omega]; exact h2
    · obtain ⟨q, h2, h3, h4⟩ := ih h1
      exact ⟨q, by omega, h3, h4⟩

/-- The lines of a scan. -/
noncomputable def lnS (a : Arr) (t : List Nat) (k : Nat) : Nat → List Int := lnAt a.da (t.getD k 0) (lineF t k).2.2 (t.getD k 0) (fun _ => 0) (fun j => j + 1)

set_option maxRecDepth 100000 in
set_option maxHeartbeats 4000000 in
theorem scan_new {v : Value} {a : Arr} {t : List Nat} {w : World} {f : Int} {k : Nat} (ha : IsArr w v a) (h : Ok a t) (hk : k < t.length) (hf : twoE f 0 1 = 0) (hc : a.ch = false) (hw : Wf a.da) :
    Calls Tryz.prog 149 #[.int .i64 f, .int .i64 k, v] w (FoldTellsM f (lnS a t k) (prod t) a.sh w) := by
  obtain ⟨A, ca, D, cd, rfl, hs, hd⟩ := ha.open_
  have HA := Lib.hid ha
  have HS := Lib.hid hs
  have hprod := lineF_prod hk
  have hlong := lineF_long t k
  have hout := lineF_out h.good.2.1 h.good.1 hk
  have hin := lineF_in h.good.2.1 h.good.1 hk
  have hdl : a.da.length ≤ 4096 := by rw [h.len]; exact h.good.2.2
  have hL4 : t.getD k 0 ≤ 4096 := by rw [List.getD_eq_getElem?_getD, List.getElem?_eq_getElem hk]; exact h.good.2.1 _ (List.getElem_mem _)
  have HAL := Lib.hid (falong_ok (f := f) (k := k) (w := (w.alloc (.cells #[.bool a.ch, .slice A a.sh.length ca, .slice D a.da.length cd] 25)).alloc (.cells #[.bool false, .slice none 0 0, .slice none 0 0] 25)) (ha.mono (below_two _ _ _)) h hk hf hc)
  obtain ⟨O, hO⟩ : ∃ z, z = (lineF t k).1 := ⟨_, rfl⟩
  obtain ⟨L, hL⟩ : ∃ z, z = t.getD k 0 := ⟨_, rfl⟩
  obtain ⟨I, hI⟩ : ∃ z, z = (lineF t k).2.2 := ⟨_, rfl⟩
  rw [← hL] at hlong hL4
  have hlv : lineV (lineF t k) = .agg #[.int .i64 O, .int .i64 L, .int .i64 I] := by unfold lineV; rw [hlong, hO, hI]
  unfold GivesLine at HAL
  rw [hlv] at HAL
  rw [hlong, ← hO, ← hI] at hprod
  rw [← hO] at hout
  rw [← hI] at hin
  have HFO := Lib.hid (fun (vs : Value) (W : World) (hb : Below w.heap.size w W) (hv : IsInts W vs a.sh) => (show Calls Tryz.prog 25 #[.agg #[.int .i64 O, .int .i64 L, .int .i64 I], .int .i64 f, .agg #[.bool a.ch, .slice A a.sh.length ca, .slice D a.da.length cd], vs, .int .i64 L, .func (.func 26) #[] #[], .func (.func 192) #[] #[]] W (FoldTellsN f (lnS a t k) (prod t) a.sh vs W) by
    have h9 := folded_new (f := f) (O := O) (L := L) (I := I) (n := L) (FR := 26) (LG := 192) (cf := #[]) (cl := #[]) (fr := fun _ => 0) (lg := fun j => j + 1) (ln := lnS a t k) (ha.mono hb) hv hw hdl hout hin hL4 hL4 (by rw [hprod]; have := h.good.2.2; omega)
      (fun j hj => by omega)
      (fun o k' i j ho hk' hi hj => by
        have h8 := idx_lt3 (O := O) (n := L) (I := I) (o := o) (k := j) (i := i) ho (by omega) hi
        rw [hprod, ← h.len] at h8
        simpa using h8)
      (fun o k' i ho hk' hi => by unfold lnS; rw [← hL, ← hI]; exact lnAt_at hk' hi)
      (fun k' W' _ _ => zero_any k' W') (fun k' W' hk' _ => upto_any k' (by omega) W')
      (fun args W => rfl) (fun args W => rfl)
    rwa [hprod] at h9))
  clear ha hs hd h hprod hlong hout hin hO hL hI hlv hf hc hw
  go_enter Tryz.func149, Tryz.ntmps149
  have bA0 := (Box.new w 25 #[.bool a.ch, .slice A a.sh.length ca, .slice D a.da.length cd]).alloc (.cells #[.bool false, .slice none 0 0, .slice none 0 0] 25)
  have bR0 := Box.new (w.alloc (.cells #[.bool a.ch, .slice A a.sh.length ca, .slice D a.da.length cd] 25)) 25 #[.bool false, .slice none 0 0, .slice none 0 0]
  rw [World.size_alloc] at bR0
  have hb0 := below_two w (.cells #[.bool a.ch, .slice A a.sh.length ca, .slice D a.da.length cd] 25) (.cells #[.bool false, .slice none 0 0, .slice none 0 0] 25)
  obtain ⟨t0, t1, t2⟩ := bA0.three
  go_wp2_with fail
  refine HAL.out.mono ?_
  rintro e w1 ⟨rfl, hb1⟩
  have bA1 := bA0.below hb1
  have bR1 := bR0.below hb1
  have hbw1 := hb0.trans (hb1.mono hb0.size)
  clear bA0 bR0 hb0 hb1 t0 t1 t2
  obtain ⟨t0, t1, t2⟩ := bA1.three
  have lA := bA1.lt
  go_wp2_with fail
  obtain ⟨g, hg⟩ : ∃ g, g = w1.heap.size := ⟨_, rfl⟩
  obtain ⟨wo, hwo⟩ : ∃ W, W = w1.alloc (.cells #[.int .i64 O, .int .i64 L, .int .i64 I] 47) := ⟨_, rfl⟩
  have bLo : Box wo g 47 #[.int .i64 O, .int .i64 L, .int .i64 I] := by rw [hwo, hg]; exact Box.new _ _ _
  have bAo : Box wo w.heap.size 25 #[.bool a.ch, .slice A a.sh.length ca, .slice D a.da.length cd] := by rw [hwo]; exact bA1.alloc _
  have bRo : Box wo (w.heap.size + 1) 25 #[.bool false, .slice none 0 0, .slice none 0 0] := by rw [hwo]; exact bR1.alloc _
  have hbwo : Below w.heap.size w wo := by rw [hwo]; exact hbw1.alloc hbw1.size _
  rw [← hwo, ← hg]
  clear hwo hg t0 t1 t2 lA bA1 bR1 hbw1
  obtain ⟨t0, t1, t2⟩ := bAo.three
  obtain ⟨l0, l1, l2⟩ := bLo.three
  have lA := bAo.lt
  have lL := bLo.lt
  have HSo := Lib.hid (HS.out.mono hbwo)
  have HLC := Lib.hid (fun wx (hx : Below wo.heap.size wo wx) => (⟨(hx.cell (p := ⟨g, 0, none⟩) lL).trans l0, (hx.cell (p := ⟨g, 1, none⟩) lL).trans l1, (hx.cell (p := ⟨g, 2, none⟩) lL).trans l2⟩ : wx.cell? ⟨g, 0, none⟩ = some (.int .i64 O) ∧ wx.cell? ⟨g, 1, none⟩ = some (.int .i64 L) ∧ wx.cell? ⟨g, 2, none⟩ = some (.int .i64 I)))
  have HAC := Lib.hid (fun wx (hx : Below wo.heap.size wo wx) => (⟨(hx.cell (p := ⟨w.heap.size, 0, none⟩) lA).trans t0, (hx.cell (p := ⟨w.heap.size, 1, none⟩) lA).trans t1, (hx.cell (p := ⟨w.heap.size, 2, none⟩) lA).trans t2⟩ : wx.cell? ⟨w.heap.size, 0, none⟩ = some (.bool a.ch) ∧ wx.cell? ⟨w.heap.size, 1, none⟩ = some (.slice A a.sh.length ca) ∧ wx.cell? ⟨w.heap.size, 2, none⟩ = some (.slice D a.da.length cd)))
  by_cases hall : ∀ q, q < prod t → (ofR f (lnS a t k q)).2 = 0
  · obtain ⟨X, hX⟩ : ∃ X : List Int, X = (List.range (prod t)).map fun q => (ofR f (lnS a t k q)).1 := ⟨_, rfl⟩
    have HX := Lib.hid hX
    have HALL := Lib.hid hall
    have HFO2 := Lib.hid (fun (vs : Value) (W : World) (hb : Below w.heap.size w W) (hv : IsInts W vs a.sh) => ((HFO.out vs W hb hv).mono (fun e w' h6 => (show ∃ D d, e = .returned (.tuple #[.agg #[.bool false, vs, .slice D (prod t) d], .nilIface]) ∧ IsArr w' (.agg #[.bool false, vs, .slice D (prod t) d]) ⟨false, a.sh, X⟩ ∧ Below W.heap.size W w' ∧ (∀ j, (Value.slice D (prod t) d).ownBlock = some j → W.heap.size ≤ j) by
      rcases h6 with ⟨-, h7⟩ | ⟨q, hq, -, hz, -⟩
      · rw [hX]; exact h7
      · exact absurd (hall q hq) hz))))
    clear hX hall
    refine wp_region_gate 11 1 (fun i v lo hi w' => match i with
        | 0 => v = .agg #[.int .i64 O, .int .i64 L, .int .i64 I]
        | 1 => v = .int .i64 f
        | 2 => v = .agg #[.bool a.ch, .slice A a.sh.length ca, .slice D a.da.length cd]
        | 3 => v = .pointer (some ⟨w.heap.size, 1, none⟩)
        | 4 => v = .slice A a.sh.length ca
        | 5 => ∃ As c, v = .slice As a.sh.length c ∧ IsInts w' v a.sh ∧ (∀ j, v.ownBlock = some j → w.heap.size ≤ j)
        | 6 => v = .pointer (some ⟨g, 1, none⟩)
        | 7 => v = .int .i64 L
        | 8 => ∃ r, v = .tuple #[r, .nilIface] ∧ IsArr w' r ⟨false, a.sh, X⟩ ∧ NewV w.heap.size r
        | 9 => IsArr w' v ⟨false, a.sh, X⟩ ∧ NewV w.heap.size v
        | 10 => v = .nilIface
        | _ => True) (by kernel_rfl) (by kernel_rfl) (by kernel_rfl) ?hV ?step ?last
    case hV =>
      intro i v lo hi w1 w2 h hb
      match i, h with
      | 0, h => exact h
      | 1, h => exact h
      | 2, h => exact h
      | 3, h => exact h
      | 4, h => exact h
      | 5, ⟨As, c, e, h, hn⟩ => exact ⟨As, c, e, h.mono hb, hn⟩
      | 6, h => exact h
      | 7, h => exact h
      | 8, ⟨r, e, h, hn⟩ => exact ⟨r, e, h.mono hb, hn⟩
      | 9, h => exact ⟨h.1.mono hb, h.2⟩
      | 10, h => exact h
      | i + 11, _ => trivial
    case step =>
      simp only [List.take_succ_cons, List.take_zero, putAll, Act.put, List.setIfInBounds_toArray, List.set_cons_zero, List.set_cons_succ, Nat.reduceAdd, Nat.zero_add]
      intro i o ho hi u lo up wr hbr hd hj K hK
      obtain ⟨hcw, hfw⟩ := bcell hbr
      match i, ho with
      | 0, ho =>
        simp only [List.getElem?_cons_zero, Option.some.injEq] at ho
        subst ho
        simp only [Act.put, List.setIfInBounds_toArray, List.set_cons_zero, List.set_cons_succ] at hK
        obtain ⟨y0, y1, y2⟩ := HLC.out wr hbr
        first | (simp [Region.binds] at hd; simp only [hd] at hK) | skip
        refine wpOp_step rfl fun K' hK' => ?_
        go_simp
        exact hK' _ _ (hK _ _ (Below.refl _ _) rfl)
      | 1, ho =>
        simp only [List.getElem?_cons_succ, List.getElem?_cons_zero, Option.some.injEq] at ho
        subst ho
        simp only [Act.put, List.setIfInBounds_toArray, List.set_cons_zero, List.set_cons_succ] at hK
        first | (simp [Region.binds] at hd; simp only [hd] at hK) | skip
        refine wpOp_step rfl fun K' hK' => ?_
        go_simp
        exact hK' _ _ (hK _ _ (Below.refl _ _) rfl)
      | 2, ho =>
        simp only [List.getElem?_cons_succ, List.getElem?_cons_zero, Option.some.injEq] at ho
        subst ho
        simp only [Act.put, List.setIfInBounds_toArray, List.set_cons_zero, List.set_cons_succ] at hK
        obtain ⟨y0, y1, y2⟩ := HAC.out wr hbr
        first | (simp [Region.binds] at hd; simp only [hd] at hK) | skip
        refine wpOp_step rfl fun K' hK' => ?_
        go_simp
        exact hK' _ _ (hK _ _ (Below.refl _ _) rfl)
      | 3, ho =>
        simp only [List.getElem?_cons_succ, List.getElem?_cons_zero, Option.some.injEq] at ho
        subst ho
        simp only [Act.put, List.setIfInBounds_toArray, List.set_cons_zero, List.set_cons_succ] at hK
        first | (simp [Region.binds] at hd; simp only [hd] at hK) | skip
        refine wpOp_step rfl fun K' hK' => ?_
        go_simp
        exact hK' _ _ (hK _ _ (Below.refl _ _) rfl)
      | 4, ho =>
        simp only [List.getElem?_cons_succ, List.getElem?_cons_zero, Option.some.injEq] at ho
        subst ho
        simp only [Act.put, List.setIfInBounds_toArray, List.set_cons_zero, List.set_cons_succ] at hK
        have h8 : u 3 = .pointer (some ⟨w.heap.size, 1, none⟩) := hd ⟨3, .data⟩ (by simp) rfl
        obtain ⟨y0, y1, y2⟩ := HAC.out wr hbr
        simp only [h8] at hK
        refine wpOp_step rfl fun K' hK' => ?_
        go_simp
        exact hK' _ _ (hK _ _ (Below.refl _ _) rfl)
      | 5, ho =>
        simp only [List.getElem?_cons_succ, List.getElem?_cons_zero, Option.some.injEq] at ho
        subst ho
        simp only [Act.put, List.setIfInBounds_toArray, List.set_cons_zero, List.set_cons_succ] at hK
        have h4 : u 4 = .slice A a.sh.length ca := hd ⟨4, .data⟩ (by simp) rfl
        simp only [h4] at hK
        refine wpOp_step rfl fun K' hK' => ?_
        go_simp
        refine (clone_any _ a.sh _ (HSo.out.mono hbr)).mono ?_
        rintro e w6 ⟨A6, c6, rfl, ho6, hb6⟩
        exact hK' _ _ (hK _ _ hb6 ⟨A6, c6, rfl, ho6.isInts, ho6.from_ (by have := hbwo.size; have := hbr.size; omega)⟩)
      | 6, ho =>
        simp only [List.getElem?_cons_succ, List.getElem?_cons_zero, Option.some.injEq] at ho
        subst ho
        simp only [Act.put, List.setIfInBounds_toArray, List.set_cons_zero, List.set_cons_succ] at hK
        first | (simp [Region.binds] at hd; simp only [hd] at hK) | skip
        refine wpOp_step rfl fun K' hK' => ?_
        go_simp
        exact hK' _ _ (hK _ _ (Below.refl _ _) rfl)
      | 7, ho =>
        simp only [List.getElem?_cons_succ, List.getElem?_cons_zero, Option.some.injEq] at ho
        subst ho
        simp only [Act.put, List.setIfInBounds_toArray, List.set_cons_zero, List.set_cons_succ] at hK
        have h8 : u 6 = .pointer (some ⟨g, 1, none⟩) := hd ⟨6, .data⟩ (by simp) rfl
        obtain ⟨y0, y1, y2⟩ := HLC.out wr hbr
        simp only [h8] at hK
        refine wpOp_step rfl fun K' hK' => ?_
        go_simp
        exact hK' _ _ (hK _ _ (Below.refl _ _) rfl)
      | 8, ho =>
        simp only [List.getElem?_cons_succ, List.getElem?_cons_zero, Option.some.injEq] at ho
        subst ho
        simp only [Act.put, List.setIfInBounds_toArray, List.set_cons_zero, List.set_cons_succ] at hK
        obtain ⟨As, c5, e5, h5, n5⟩ := hd ⟨5, .data⟩ (by simp) rfl
        have e0 : u 0 = .agg #[.int .i64 O, .int .i64 L, .int .i64 I] := hd ⟨0, .data⟩ (by simp) rfl
        have e1 : u 1 = .int .i64 f := hd ⟨1, .data⟩ (by simp) rfl
        have e2 : u 2 = .agg #[.bool a.ch, .slice A a.sh.length ca, .slice D a.da.length cd] := hd ⟨2, .data⟩ (by simp) rfl
        have e7 : u 7 = .int .i64 L := hd ⟨7, .data⟩ (by simp) rfl
        have hbr2 := hbwo.trans (hbr.mono hbwo.size)
        rw [e5] at h5 n5
        simp only [e0, e1, e2, e5, e7] at hK
        refine wpOp_step rfl fun K' hK' => ?_
        go_simp
        refine (HFO2.out _ _ hbr2 h5).mono ?_
        rintro e w6 ⟨D6, d6, rfl, hr, hb6, n6⟩
        exact hK' _ _ (hK _ _ hb6 ⟨_, rfl, hr, newV n5 (fun j e => Nat.le_trans hbr2.size (n6 j e))⟩)
      | 9, ho =>
        simp only [List.getElem?_cons_succ, List.getElem?_cons_zero, Option.some.injEq] at ho
        subst ho
        simp only [Act.put, List.setIfInBounds_toArray, List.set_cons_zero, List.set_cons_succ] at hK
        obtain ⟨r, e8, hr⟩ := hd ⟨8, .data⟩ (by simp) rfl
        simp only [e8] at hK
        refine wpOp_step rfl fun K' hK' => ?_
        go_simp
        exact hK' _ _ (hK _ _ (Below.refl _ _) hr)
      | 10, ho =>
        simp only [List.getElem?_cons_succ, List.getElem?_cons_zero, Option.some.injEq] at ho
        subst ho
        simp only [Act.put, List.setIfInBounds_toArray, List.set_cons_zero, List.set_cons_succ] at hK
        obtain ⟨r, e8, hr⟩ := hd ⟨8, .data⟩ (by simp) rfl
        simp only [e8] at hK
        refine wpOp_step rfl fun K' hK' => ?_
        go_simp
        exact hK' _ _ (hK _ _ (Below.refl _ _) rfl)
      | i + 11, ho => omega
    case last =>
      simp only [List.take_succ_cons, List.take_zero, putAll, Act.put, List.setIfInBounds_toArray, List.set_cons_zero, List.set_cons_succ, Nat.reduceAdd, Nat.zero_add]
      intro u wr lo up hbr hv hj
      have hr := hv 9 (by omega)
      have e10 : u 10 = .nilIface := hv 10 (by omega)
      have hbr2 := hbwo.trans (hbr.mono hbwo.size)
      have bR6 := bRo.below hbr
      obtain ⟨q0, q1, q2⟩ := bR6.three
      have qf := bR6.frozen
      have lR := bR6.lt
      obtain ⟨u9, hu9⟩ : ∃ x, x = u 9 := ⟨_, rfl⟩
      have hn9 : NewV w.heap.size (u 9) := hr.2
      have hr : IsArr wr (u 9) ⟨false, a.sh, X⟩ := hr.1
      obtain ⟨A7, c7, D7, d7, e9, -, -⟩ := hr.open_
      have hr9 : IsArr wr (.agg #[.bool false, .slice A7 a.sh.length c7, .slice D7 X.length d7]) ⟨false, a.sh, X⟩ := by rw [← e9]; exact hr
      rw [e9] at hn9
      have HNV := Lib.hid hn9
      clear hn9
      simp only [e9, e10]
      clear hv hj e9 e10 hu9 t0 t1 t2 l0 l1 l2 hbr
      unfold tailWp
      refine wpOp_step rfl fun K' hK' => ?_
      go_simp
      refine hK' _ _ ?_
      clear hK'
      unfold tailWp
      refine wpOp_step rfl fun K' hK' => ?_
      go_simp
      refine hK' _ _ ?_
      clear hK'
      go_wp2_with fail
      have hgg := grownBy_three wr (w.heap.size + 1) (.bool false) (.slice A7 a.sh.length c7) (.slice D7 X.length d7)
      have z := ((bR6.store 0 (.bool false)).store 1 (.slice A7 a.sh.length c7)).store 2 (.slice D7 X.length d7)
      simp only [List.setIfInBounds_toArray, List.set_cons_zero, List.set_cons_succ] at z
      obtain ⟨z0, z1, z2⟩ := z.three
      have zl := z.lt
      refine bodyPost_ret (v := .tuple #[.agg #[.bool false, .slice A7 a.sh.length c7, .slice D7 X.length d7], .nilIface]) (by simp [results, Tryz.results149, go_sem, z0, z1, z2, zl]) rfl ?_
      refine .inl ⟨HALL.out, _, rfl, ?_, hbr2.grown hgg hbr2.size (fun j e => by cases e; omega), HNV.out⟩
      rw [← HX.out]
      exact (hr9.stored bR6 _ _ _)
  · obtain ⟨q, hq, hqq, hz⟩ : ∃ q, q < prod t ∧ (∀ q', q' < q → (ofR f (lnS a t k q')).2 = 0) ∧ (ofR f (lnS a t k q)).2 ≠ 0 := first_bad hall
    obtain ⟨ee, hee⟩ : ∃ e, e = (ofR f (lnS a t k q)).2 := ⟨_, rfl⟩
    have HEE := Lib.hid hee
    have HQ := Lib.hid hq
    have HQQ := Lib.hid hqq
    have HZ := Lib.hid hz
    have HFO2 := Lib.hid (fun (vs : Value) (W : World) (hb : Below w.heap.size w W) (hv : IsInts W vs a.sh) => ((HFO.out vs W hb hv).mono (fun e w' h6 => (show Fails zeroArr ee W e w' by
      rcases h6 with ⟨h7, -⟩ | ⟨q2, hq2, hqq2, hz2, h8⟩
      · exact absurd (h7 q hq) hz
      · have e : q2 = q := by
          rcases Nat.lt_trichotomy q2 q with h | h | h
          · exact absurd (hqq q2 h) hz2
          · exact h
          · exact absurd (hqq2 q h) hz
        rw [hee, ← e]; exact h8))))
    clear hee hq hqq hz hall
    refine wp_region_gate 11 1 (fun i v lo hi w' => match i with
        | 0 => v = .agg #[.int .i64 O, .int .i64 L, .int .i64 I]
        | 1 => v = .int .i64 f
        | 2 => v = .agg #[.bool a.ch, .slice A a.sh.length ca, .slice D a.da.length cd]
        | 3 => v = .pointer (some ⟨w.heap.size, 1, none⟩)
        | 4 => v = .slice A a.sh.length ca
        | 5 => ∃ As c, v = .slice As a.sh.length c ∧ IsInts w' v a.sh
        | 6 => v = .pointer (some ⟨g, 1, none⟩)
        | 7 => v = .int .i64 L
        | 8 => v = .tuple #[zeroArr, .iface 54 (.int .i64 ee)]
        | 9 => v = zeroArr
        | 10 => v = .iface 54 (.int .i64 ee)
        | _ => True) (by kernel_rfl) (by kernel_rfl) (by kernel_rfl) ?hV ?step ?last
    case hV =>
      intro i v lo hi w1 w2 h hb
      match i, h with
      | 0, h => exact h
      | 1, h => exact h
      | 2, h => exact h
      | 3, h => exact h
      | 4, h => exact h
      | 5, ⟨As, c, e, h⟩ => exact ⟨As, c, e, h.mono hb⟩
      | 6, h => exact h
      | 7, h => exact h
      | 8, h => exact h
      | 9, h => exact h
      | 10, h => exact h
      | i + 11, _ => trivial
    case step =>
      simp only [List.take_succ_cons, List.take_zero, putAll, Act.put, List.setIfInBounds_toArray, List.set_cons_zero, List.set_cons_succ, Nat.reduceAdd, Nat.zero_add]
      intro i o ho hi u lo up wr hbr hd hj K hK
      obtain ⟨hcw, hfw⟩ := bcell hbr
      match i, ho with
      | 0, ho =>
        simp only [List.getElem?_cons_zero, Option.some.injEq] at ho
        subst ho
        simp only [Act.put, List.setIfInBounds_toArray, List.set_cons_zero, List.set_cons_succ] at hK
        obtain ⟨y0, y1, y2⟩ := HLC.out wr hbr
        first | (simp [Region.binds] at hd; simp only [hd] at hK) | skip
        refine wpOp_step rfl fun K' hK' => ?_
        go_simp
        exact hK' _ _ (hK _ _ (Below.refl _ _) rfl)
      | 1, ho =>
        simp only [List.getElem?_cons_succ, List.getElem?_cons_zero, Option.some.injEq] at ho
        subst ho
        simp only [Act.put, List.setIfInBounds_toArray, List.set_cons_zero, List.set_cons_succ] at hK
        first | (simp [Region.binds] at hd; simp only [hd] at hK) | skip
        refine wpOp_step rfl fun K' hK' => ?_
        go_simp
        exact hK' _ _ (hK _ _ (Below.refl _ _) rfl)
      | 2, ho =>
        simp only [List.getElem?_cons_succ, List.getElem?_cons_zero, Option.some.injEq] at ho
        subst ho
        simp only [Act.put, List.setIfInBounds_toArray, List.set_cons_zero, List.set_cons_succ] at hK
        obtain ⟨y0, y1, y2⟩ := HAC.out wr hbr
        first | (simp [Region.binds] at hd; simp only [hd] at hK) | skip
        refine wpOp_step rfl fun K' hK' => ?_
        go_simp
        exact hK' _ _ (hK _ _ (Below.refl _ _) rfl)
      | 3, ho =>
        simp only [List.getElem?_cons_succ, List.getElem?_cons_zero, Option.some.injEq] at ho
        subst ho
        simp only [Act.put, List.setIfInBounds_toArray, List.set_cons_zero, List.set_cons_succ] at hK
        first | (simp [Region.binds] at hd; simp only [hd] at hK) | skip
        refine wpOp_step rfl fun K' hK' => ?_
        go_simp
        exact hK' _ _ (hK _ _ (Below.refl _ _) rfl)
      | 4, ho =>
        simp only [List.getElem?_cons_succ, List.getElem?_cons_zero, Option.some.injEq] at ho
        subst ho
        simp only [Act.put, List.setIfInBounds_toArray, List.set_cons_zero, List.set_cons_succ] at hK
        have h8 : u 3 = .pointer (some ⟨w.heap.size, 1, none⟩) := hd ⟨3, .data⟩ (by simp) rfl
        obtain ⟨y0, y1, y2⟩ := HAC.out wr hbr
        simp only [h8] at hK
        refine wpOp_step rfl fun K' hK' => ?_
        go_simp
        exact hK' _ _ (hK _ _ (Below.refl _ _) rfl)
      | 5, ho =>
        simp only [List.getElem?_cons_succ, List.getElem?_cons_zero, Option.some.injEq] at ho
        subst ho
        simp only [Act.put, List.setIfInBounds_toArray, List.set_cons_zero, List.set_cons_succ] at hK
        have h4 : u 4 = .slice A a.sh.length ca := hd ⟨4, .data⟩ (by simp) rfl
        simp only [h4] at hK
        refine wpOp_step rfl fun K' hK' => ?_
        go_simp
        refine (clone_any _ a.sh _ (HSo.out.mono hbr)).mono ?_
        rintro e w6 ⟨A6, c6, rfl, ho6, hb6⟩
        exact hK' _ _ (hK _ _ hb6 ⟨A6, c6, rfl, ho6.isInts⟩)
      | 6, ho =>
        simp only [List.getElem?_cons_succ, List.getElem?_cons_zero, Option.some.injEq] at ho
        subst ho
        simp only [Act.put, List.setIfInBounds_toArray, List.set_cons_zero, List.set_cons_succ] at hK
        first | (simp [Region.binds] at hd; simp only [hd] at hK) | skip
        refine wpOp_step rfl fun K' hK' => ?_
        go_simp
        exact hK' _ _ (hK _ _ (Below.refl _ _) rfl)
      | 7, ho =>
        simp only [List.getElem?_cons_succ, List.getElem?_cons_zero, Option.some.injEq] at ho
        subst ho
        simp only [Act.put, List.setIfInBounds_toArray, List.set_cons_zero, List.set_cons_succ] at hK
        have h8 : u 6 = .pointer (some ⟨g, 1, none⟩) := hd ⟨6, .data⟩ (by simp) rfl
        obtain ⟨y0, y1, y2⟩ := HLC.out wr hbr
        simp only [h8] at hK
        refine wpOp_step rfl fun K' hK' => ?_
        go_simp
        exact hK' _ _ (hK _ _ (Below.refl _ _) rfl)
      | 8, ho =>
        simp only [List.getElem?_cons_succ, List.getElem?_cons_zero, Option.some.injEq] at ho
        subst ho
        simp only [Act.put, List.setIfInBounds_toArray, List.set_cons_zero, List.set_cons_succ] at hK
        obtain ⟨As, c5, e5, h5⟩ := hd ⟨5, .data⟩ (by simp) rfl
        have e0 : u 0 = .agg #[.int .i64 O, .int .i64 L, .int .i64 I] := hd ⟨0, .data⟩ (by simp) rfl
        have e1 : u 1 = .int .i64 f := hd ⟨1, .data⟩ (by simp) rfl
        have e2 : u 2 = .agg #[.bool a.ch, .slice A a.sh.length ca, .slice D a.da.length cd] := hd ⟨2, .data⟩ (by simp) rfl
        have e7 : u 7 = .int .i64 L := hd ⟨7, .data⟩ (by simp) rfl
        have hbr2 := hbwo.trans (hbr.mono hbwo.size)
        rw [e5] at h5
        simp only [e0, e1, e2, e5, e7] at hK
        refine wpOp_step rfl fun K' hK' => ?_
        go_simp
        refine (HFO2.out _ _ hbr2 h5).mono ?_
        rintro e w6 ⟨rfl, hb6⟩
        exact hK' _ _ (hK _ _ hb6 rfl)
      | 9, ho =>
        simp only [List.getElem?_cons_succ, List.getElem?_cons_zero, Option.some.injEq] at ho
        subst ho
        simp only [Act.put, List.setIfInBounds_toArray, List.set_cons_zero, List.set_cons_succ] at hK
        have e8 : u 8 = .tuple #[zeroArr, .iface 54 (.int .i64 ee)] := hd ⟨8, .data⟩ (by simp) rfl
        simp only [e8] at hK
        refine wpOp_step rfl fun K' hK' => ?_
        go_simp
        exact hK' _ _ (hK _ _ (Below.refl _ _) rfl)
      | 10, ho =>
        simp only [List.getElem?_cons_succ, List.getElem?_cons_zero, Option.some.injEq] at ho
        subst ho
        simp only [Act.put, List.setIfInBounds_toArray, List.set_cons_zero, List.set_cons_succ] at hK
        have e8 : u 8 = .tuple #[zeroArr, .iface 54 (.int .i64 ee)] := hd ⟨8, .data⟩ (by simp) rfl
        simp only [e8] at hK
        refine wpOp_step rfl fun K' hK' => ?_
        go_simp
        exact hK' _ _ (hK _ _ (Below.refl _ _) rfl)
      | i + 11, ho => omega
    case last =>
      simp only [List.take_succ_cons, List.take_zero, putAll, Act.put, List.setIfInBounds_toArray, List.set_cons_zero, List.set_cons_succ, Nat.reduceAdd, Nat.zero_add]
      intro u wr lo up hbr hv hj
      have e9 : u 9 = zeroArr := hv 9 (by omega)
      have e10 : u 10 = .iface 54 (.int .i64 ee) := hv 10 (by omega)
      have hbr2 := hbwo.trans (hbr.mono hbwo.size)
      have bR6 := bRo.below hbr
      obtain ⟨q0, q1, q2⟩ := bR6.three
      have qf := bR6.frozen
      have lR := bR6.lt
      simp only [e9, e10]
      clear hv hj e9 e10 t0 t1 t2 l0 l1 l2 hbr
      unfold tailWp
      refine wpOp_step rfl fun K' hK' => ?_
      go_simp
      refine hK' _ _ ?_
      clear hK'
      unfold tailWp
      refine wpOp_step rfl fun K' hK' => ?_
      go_simp
      refine hK' _ _ ?_
      clear hK'
      go_wp2_with fail
      refine bodyPost_ret (v := .tuple #[zeroArr, .iface 54 (.int .i64 ee)]) (by simp [results, Tryz.results149, go_sem, q0, q1, q2, lR]) rfl ?_
      exact .inr ⟨q, HQ.out, HQQ.out, HZ.out, by rw [← HEE.out], by have := hbr2.size; go_grown⟩

end Go.Proofs.YtihndbkaoejnnaaGreatDoor

namespace Go.Proofs.YtihndbkaoejnnaaGreatDoor.P
/-- What folds so far. -/
def scan1 (f : Int) (d : List Int) : List Int := (List.range d.length).map fun q => (ofR f (d.take (q + 1))).1
theorem scan1_len (f : Int) (d : List Int) : (scan1 f d).length = d.length := by unfold scan1; rw [List.length_map, List.length_range]
theorem scan1_get {f : Int} {d : List Int} {q : Nat} (h : q < d.length) : (scan1 f d)[q]? = some (ofR f (d.take (q + 1))).1 := by
  unfold scan1
  rw [List.getElem?_map, List.getElem?_range h]; rfl
/-- Functions that fail at no number. -/
def Tame (f : Int) : Prop := 1 ≤ f ∧ f ≤ 16 ∧ f ≠ 4 ∧ f ≠ 16
theorem Tame.two {f : Int} (h : Tame f) (a b : Int) : twoE f a b = 0 := twoE_ok h.1 h.2.1 (fun e => absurd e h.2.2.1) (fun e => absurd e h.2.2.2)
theorem Tame.of {f : Int} (h : Tame f) : ∀ {l : List Int}, l ≠ [] → (ofR f l).2 = 0
  | [], hl => absurd rfl hl
  | [x], _ => rfl
  | x :: y :: l, _ => by
    rw [ofR_cons (by simp), h.of (l := y :: l) (by simp)]
    simp [h.two]
theorem Tame.cons {f : Int} (h : Tame f) {x : Int} {l : List Int} (hl : l ≠ []) : (ofR f (x :: l)).1 = twoV f x (ofR f l).1 := by
  rw [ofR_cons hl, h.of hl]; simp
theorem take_ne {d : List Int} {q : Nat} (h : q < d.length) : d.take (q + 1) ≠ [] := fun e => by
  have := congrArg List.length e
  rw [List.length_take, List.length_nil] at this
  omega
theorem one_line {m : Nat} : lineF [m] 0 = (1, m, 1) := by
  unfold lineF
  rw [if_neg]
  · simp [outerOf, innerOf, prod]
  · rintro ⟨j, hj, hne, -⟩
    simp at hj; omega
theorem one_lnS {a : Arr} {m q : Nat} (h : Ok a [m]) (hq : q < m) : Go.Proofs.YtihndbkaoejnnaaGreatDoor.lnS a [m] 0 q = a.da.take (q + 1) := by
  have hl : a.da.length = m := by rw [h.len]; simp [prod]
  unfold Go.Proofs.YtihndbkaoejnnaaGreatDoor.lnS lnAt Go.Proofs.YtihndbkaoejnnaaGreatDoor.fline
  rw [one_line]
  refine List.ext_getElem? fun j => ?_
  simp only [List.getD_cons_zero, Nat.div_one, Nat.mod_one, Nat.mul_one, Nat.add_zero, Nat.mod_eq_of_lt hq, Nat.div_eq_of_lt hq, Nat.zero_mul, Nat.zero_add, List.getElem?_map]
  rw [List.getElem?_take]
  by_cases hj : j < q + 1
  · rw [List.getElem?_range hj, if_pos hj, List.getElem?_eq_getElem (show j < a.da.length by omega)]
    simp [List.getD_eq_getElem?_getD, List.getElem?_eq_getElem (show j < a.da.length by omega)]
  · rw [if_neg hj, List.getElem?_eq_none (by rw [List.length_range]; omega)]; rfl
end Go.Proofs.YtihndbkaoejnnaaGreatDoor.P
namespace Go.Proofs.YtihndbkaoejnnaaGreatDoor
open Go Go.RowKit Go.Proofs.YtihndbkaoejnnaaGreatDoor.P
end Go.Proofs.YtihndbkaoejnnaaGreatDoor

namespace Go.Proofs.YtihndbkaoejnnaaGreatDoor
open Go Go.RowKit Go.Proofs.YtihndbkaoejnnaaGreatDoor.P

theorem scan_vec_new {v : Value} {a : Arr} {m : Nat} {w : World} {f : Int} (ha : IsArr w v a) (h : Ok a [m]) (hf : Tame f) (hc : a.ch = false) (hw : Wf a.da) :
    Calls Tryz.prog 149 #[.int .i64 f, .int .i64 0, v] w (GivesOkN ⟨false, a.sh, scan1 f a.da⟩ w) := by
  have hl : a.da.length = m := by rw [h.len]; simp [prod]
  have hp : prod [m] = m := by simp [prod]
  refine (scan_new (k := 0) ha h (by simp) (hf.two 0 1) hc hw).mono fun e w' h6 => ?_
  rcases h6 with ⟨-, h7⟩ | ⟨q, hq, -, hz, -⟩
  · have e : scan1 f a.da = (List.range (prod [m])).map fun q => (ofR f (lnS a [m] 0 q)).1 := by
      unfold scan1
      rw [hp, hl]
      refine List.map_congr_left fun q hq => ?_
      rw [one_lnS h (List.mem_range.1 hq)]
    rw [e]; exact h7
  · rw [hp] at hq
    rw [one_lnS h hq] at hz
    exact absurd (hf.of (take_ne (by omega))) hz


end Go.Proofs.YtihndbkaoejnnaaGreatDoor

namespace Go.Proofs.YtihndbkaoejnnaaGreatDoor
open Go Go.RowKit Go.Proofs.YtihndbkaoejnnaaGreatDoor.P

theorem ok_num (x : Int) : Ok ⟨false, [], [x]⟩ [] := ⟨rfl, ⟨by simp, by simp, by simp [prod]⟩, by simp [prod], fun e => by cases e⟩
theorem tame_one : Tame 1 := by unfold Tame; omega
end Go.Proofs.YtihndbkaoejnnaaGreatDoor

namespace Go.Proofs.YtihndbkaoejnnaaGreatDoor.P
open Go Go.RowKit
def Word (x : Int) : Prop := -9223372036854775808 ≤ x ∧ x ≤ 9223372036854775807
theorem word_wf {x : Int} : (Lit.int .i64 x).wf = true ↔ Word x := by
  simp only [Lit.wf, Bool.and_eq_true, decide_eq_true_eq]
  exact Iff.rfl
theorem word_wrap (x : Int) : Word (wrap64 x) := by unfold wrap64 Word; omega
theorem word_same {x : Int} (h : Word x) : wrap64 x = x := by unfold wrap64; unfold Word at h; omega
theorem wf_words {d : List Int} (h : Wf d) : ∀ x ∈ d, Word x := fun x hx => word_wf.1 (h x hx)
theorem two_add (a b : Int) : twoV 1 a b = wrap64 (a + b) := by unfold twoV; simp
def isum : List Int → Int
  | [] => 0
  | x :: l => x + isum l
theorem isum_append (a b : List Int) : isum (a ++ b) = isum a + isum b := by
  induction a with
  | nil => simp [isum]
  | cons x a ih => simp only [List.cons_append, isum, ih]; omega
theorem of_sum : ∀ {l : List Int}, l ≠ [] → (∀ x ∈ l, Word x) → (ofR 1 l).1 = wrap64 (isum l)
  | [], h, _ => absurd rfl h
  | [x], _, h => by
    show x = wrap64 (x + 0)
    rw [Int.add_zero, word_same (h x List.mem_cons_self)]
  | x :: y :: l, _, h => by
    have ht : (ofR 1 (y :: l)).2 = 0 := Tame.of (by unfold Tame; omega) (by simp)
    rw [ofR_cons (by simp), if_neg (by rw [ht]; simp)]
    show twoV 1 x (ofR 1 (y :: l)).1 = _
    rw [of_sum (by simp) (fun z hz => h z (List.mem_cons_of_mem _ hz)), two_add, wrap_add_r]
    rfl
theorem sums_zero {f : Int} {d : List Int} {x y : Int} (hx : (scan1 f d)[0]? = some x) (hy : d[0]? = some y) : x = y := by
  have hq := (List.getElem?_eq_some_iff.1 hy).1
  rw [scan1_get hq] at hx; injection hx with hx; subst hx
  cases d with
  | nil => simp at hq
  | cons z d => simp at hy; subst hy; simp [ofR]
theorem wrap_sub (x y : Int) : wrap64 (wrap64 x - wrap64 y) = wrap64 (x - y) := by unfold wrap64; omega
theorem take_more {d : List Int} {k n : Nat} : d.take (k + n) = d.take k ++ (d.drop k).take n := by
  rw [List.take_add]
theorem scan_sum {d : List Int} (hw : Wf d) {q : Nat} {x : Int} (hx : (scan1 1 d)[q]? = some x) : x = wrap64 (isum (d.take (q + 1))) := by
  have hl := (List.getElem?_eq_some_iff.1 hx).1
  rw [scan1_len] at hl
  rw [scan1_get hl] at hx; injection hx with hx; subst hx
  exact of_sum (fun e => by
    have h2 := congrArg List.length e
    rw [List.length_take, List.length_nil] at h2
    omega) fun x hx => wf_words hw x (List.mem_of_mem_take hx)
theorem sums_step {d : List Int} (hw : Wf d) {j : Nat} {x y z : Int} (hx : (scan1 1 d)[j + 1]? = some x) (hz : (scan1 1 d)[j]? = some z) (hy : d[j + 1]? = some y) : wrap64 (x - z) = y := by
  rw [scan_sum hw hx, scan_sum hw hz, wrap_sub, take_more (k := j + 1), isum_append]
  have e : (d.drop (j + 1)).take 1 = [y] := by
    have h := (List.getElem?_eq_some_iff.1 hy)
    obtain ⟨hl, h2⟩ := h
    rw [List.drop_eq_getElem_cons hl, h2]; rfl
  rw [e, show isum [y] = y by simp [isum], show isum (d.take (j + 1)) + y - isum (d.take (j + 1)) = y by omega]
  exact word_same (wf_words hw y (List.mem_of_getElem? hy))
end Go.Proofs.YtihndbkaoejnnaaGreatDoor.P
