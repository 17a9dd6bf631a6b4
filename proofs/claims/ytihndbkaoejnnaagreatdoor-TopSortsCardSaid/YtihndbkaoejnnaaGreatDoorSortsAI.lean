/- What the card TopSorts leans on: GradeSort, SortTold, MixPlain, TopSortsPlain. Conditions: none but those of its theorems. -/
import Derived.Test.YtihndbkaoejnnaaGreatDoorSortsAG
import Derived.Test.YtihndbkaoejnnaaGreatDoorSortsZ
import Derived.Test.YtihndbkaoejnnaaGreatDoorSortsAB
import Derived.Test.YtihndbkaoejnnaaGreatDoorSortsG
set_option linter.unusedSimpArgs false
set_option linter.unusedVariables false
namespace Go.Proofs.YtihndbkaoejnnaaGreatDoor.P
open Go Go.RowKit
/-- The first rows of an order, one behind the other. -/
def catTo (r : Nat → List Int) (X : List Nat) (i : Nat) : List Int := (X.take i).flatMap r
theorem catTo_zero (r : Nat → List Int) (X : List Nat) : catTo r X 0 = [] := by simp [catTo]
theorem catTo_succ {r : Nat → List Int} {X : List Nat} {i x : Nat} (h : X[i]? = some x) : catTo r X (i + 1) = catTo r X i ++ r x := by
  unfold catTo; rw [List.take_add_one, h]; simp
/-- An array with its rows in order. -/
def sortOf (a : Arr) : Arr := ⟨a.ch, a.sh, (gradeOf false (rowOf a.da a.long) a.rows).flatMap (rowOf a.da a.long)⟩
end Go.Proofs.YtihndbkaoejnnaaGreatDoor.P
namespace Go.Proofs.YtihndbkaoejnnaaGreatDoor
open Go Go.RowKit Go.Proofs.YtihndbkaoejnnaaGreatDoor.P
/-- All blocks but one are as they were. -/
def KeptBut (g : Nat) (w0 w : World) : Prop := w0.heap.size ≤ w.heap.size ∧ ∀ b, b < w0.heap.size → b ≠ g → w.heap[b]? = w0.heap[b]?
theorem KeptBut.refl (g : Nat) (w : World) : KeptBut g w w := ⟨Nat.le_refl _, fun _ _ _ => rfl⟩
theorem KeptBut.box {g : Nat} {w0 w : World} (h : KeptBut g w0 w) {b : Nat} {t : TypeId} {cs : Array Value} (hb : Box w0 b t cs) (hne : b ≠ g) : Box w b t cs := (h.2 b hb.lt hne).trans hb
theorem KeptBut.elems {g : Nat} {w0 w : World} (h : KeptBut g w0 w) {t : TypeId} {cs : Array Value} (hg : Box w0 g t cs) (hn : NoInts cs) {A : Option Addr} {xs : List Int} (he : Elems w0 A xs) : Elems w A xs := fun k x hk => by
  obtain ⟨ad, e, h1, h2⟩ := he k x hk
  have hne : ad.block ≠ g := he.off hg hn (List.getElem?_eq_some_iff.1 hk).1 e
  refine ⟨ad, e, Nat.lt_of_lt_of_le h1 h.1, ?_⟩
  rw [← h2]
  have h3 := h.2 ad.block h1 hne
  simp only [World.cell?, addr_block_add, h3]
theorem KeptBut.step {g i q : Nat} {w0 w w' : World} {own : Option Nat} {u : Value} (h : KeptBut g w0 w) (hg : (w.drewN q).grownBy w' own) (ho : ∀ b, own = some b → w0.heap.size ≤ b) : KeptBut g w0 (w'.setCell ⟨g, i, none⟩ u) := by
  have hs : w.heap.size ≤ w'.heap.size := hg.size
  refine ⟨by rw [World.size_setCell]; exact Nat.le_trans h.1 hs, fun b hb hne => ?_⟩
  rw [Below.heap_setCell _ _ _ _ (show b ≠ (⟨g, i, none⟩ : Addr).block from hne)]
  have h1 : w'.heap[b]? = w.heap[b]? := hg.block b (Nat.lt_of_lt_of_le hb h.1) (fun e => by have := ho b e.symm; omega)
  rw [h1]
  exact h.2 b hb hne
set_option maxRecDepth 100000 in
set_option maxHeartbeats 8000000 in
theorem sort_gen {v : Value} {a : Arr} {w : World} {n L : Nat} {X : List Nat} (hXl : X.length = n) (hX : ∀ x ∈ X, x < n) (ha : IsArr w v a) (hP4 : n * L ≤ 4096) (hDL : a.da.length = n * L)
    (hcut : ∀ W, Below w.heap.size w W → Calls Tryz.prog 35 #[v] W fun e w' => ∃ g, e = .returned (.tuple #[.slice (some ⟨g, 0, none⟩) n n, .nilIface]) ∧ RowsAt w' g n (rowOf a.da L) ∧ Below W.heap.size W w')
    (hord : ∀ W g, RowsAt W g n (rowOf a.da L) → Calls Tryz.prog 36 #[.slice (some ⟨g, 0, none⟩) n n, .func (.func 37) #[] #[]] W fun e w' => ∃ r, e = .returned r ∧ IsInts w' r (ints X) ∧ Below W.heap.size W w') :
    Calls Tryz.prog 18 #[v] w (GivesOk ⟨a.ch, a.sh, X.flatMap (rowOf a.da L)⟩ w) := by
  obtain ⟨A, ca, D, cd, rfl, hs, hd⟩ := ha.open_
  have HA := Lib.hid ha
  have HS := Lib.hid hs
  have hb0 := below_two w (.cells #[.bool a.ch, .slice A a.sh.length ca, .slice D a.da.length cd] 25) (.cells #[.bool false, .slice none 0 0, .slice none 0 0] 25)
  have z1 := (Box.new w 25 #[.bool a.ch, .slice A a.sh.length ca, .slice D a.da.length cd]).alloc (.cells #[.bool false, .slice none 0 0, .slice none 0 0] 25)
  have z3 := Box.new (w.alloc (.cells #[.bool a.ch, .slice A a.sh.length ca, .slice D a.da.length cd] 25)) 25 #[.bool false, .slice none 0 0, .slice none 0 0]
  simp only [World.size_alloc] at z3
  have HC := Lib.hid (hcut _ hb0)
  have HO := Lib.hid hord
  have HXL := Lib.hid hXl
  have HXN := Lib.hid hX
  have HP4 := Lib.hid hP4
  have HDL := Lib.hid hDL
  clear ha hs hd hcut hord hXl hX hP4 hDL
  go_enter Tryz.func18, Tryz.ntmps18
  obtain ⟨t0, t1, t2⟩ := z1.three
  go_wp2_with fail
  refine HC.out.mono ?_
  rintro e w1 ⟨gr, rfl, hr1, hb1⟩
  have hbw1 := hb0.trans (hb1.mono hb0.size)
  have b1 := z1.below hb1
  have bR1 := z3.below hb1
  have HR1 := Lib.hid hr1
  clear t0 t1 t2 z1 z3 hb0 hb1 hr1
  obtain ⟨t0, t1, t2⟩ := b1.three
  have l1 := b1.lt
  have l2 := bR1.lt
  go_wp2_with fail
  refine wp_region_open (fun i v lo hi w' => match i with
    | 0 => v = .pointer (some ⟨w.heap.size, 0, none⟩)
    | 1 => v = .bool a.ch
    | 2 => v = .pointer (some ⟨w.heap.size, 1, none⟩)
    | 3 => v = .slice A a.sh.length ca
    | 4 => ∃ A' c', v = .slice A' a.sh.length c' ∧ Owns w' lo v a.sh.length (a.sh) ∧ (∀ b, v.ownBlock = some b → b < hi) ∧ w1.heap.size ≤ lo
    | 5 => ∃ A' c', v = .agg #[.bool a.ch, .slice A' a.sh.length c', .slice none 0 0] ∧ Owns w' (w1.heap.size) (.slice A' a.sh.length c') a.sh.length (a.sh)
    | 6 => ∃ g, v = .pointer (some ⟨g, 0, none⟩) ∧ Box w' g 25 #[.bool false, .slice none 0 0, .slice none 0 0] ∧ w1.heap.size ≤ g
    | _ => True) (by kernel_rfl) (by kernel_rfl) (by kernel_rfl) ?hV ?step ?last
  case hV =>
    intro i v lo hi w1 w2 h hb
    match i, h with
    | 0, h => exact h
    | 1, h => exact h
    | 2, h => exact h
    | 3, h => exact h
    | 4, ⟨A', c', e, ho, hl, hz⟩ => exact ⟨A', c', e, ho.below hb, hl, hz⟩
    | 5, ⟨A', c', e, ho⟩ => exact ⟨A', c', e, ho.below hb⟩
    | 6, ⟨g, e, hx, hz⟩ => exact ⟨g, e, hx.below hb, hz⟩
    | i + 7, _ => trivial
  case step =>
    simp only [putAll, Act.put, List.setIfInBounds_toArray, List.set_cons_zero, List.set_cons_succ, Nat.reduceAdd, Nat.zero_add]
    intro i o ho hi uu lo up wr hbr hd hj K hK
    obtain ⟨hcw, hfw⟩ := bcell hbr
    match i, ho with
    | 0, ho =>
      simp only [List.getElem?_cons_zero, Option.some.injEq] at ho
      subst ho
      first | (simp [Region.binds] at hd; simp only [hd] at hK) | skip
      refine wpOp_step rfl fun K' hK' => ?_
      go_simp
      exact hK' _ _ (hK _ _ (Below.refl _ _) rfl)
    | 1, ho =>
      simp only [List.getElem?_cons_succ, List.getElem?_cons_zero, Option.some.injEq] at ho
      subst ho
      first | (simp [Region.binds] at hd; simp only [hd] at hK) | skip
      refine wpOp_step rfl fun K' hK' => ?_
      go_simp
      exact hK' _ _ (hK _ _ (Below.refl _ _) rfl)
    | 2, ho =>
      simp only [List.getElem?_cons_succ, List.getElem?_cons_zero, Option.some.injEq] at ho
      subst ho
      first | (simp [Region.binds] at hd; simp only [hd] at hK) | skip
      refine wpOp_step rfl fun K' hK' => ?_
      go_simp
      exact hK' _ _ (hK _ _ (Below.refl _ _) rfl)
    | 3, ho =>
      simp only [List.getElem?_cons_succ, List.getElem?_cons_zero, Option.some.injEq] at ho
      subst ho
      first | (simp [Region.binds] at hd; simp only [hd] at hK) | skip
      refine wpOp_step rfl fun K' hK' => ?_
      go_simp
      exact hK' _ _ (hK _ _ (Below.refl _ _) rfl)
    | 4, ho =>
      simp only [List.getElem?_cons_succ, List.getElem?_cons_zero, Option.some.injEq] at ho
      subst ho
      first | (simp [Region.binds] at hd; simp only [hd] at hK) | skip
      refine wpOp_step rfl fun K' hK' => ?_
      go_simp
      refine (clone_any _ (a.sh) _ (HS.out.mono ((hbw1).trans (hbr.mono (hbw1.size))))).mono ?_
      rintro e w1 ⟨A1, c1, rfl, ho, hb1⟩
      try simp only [length_ints] at ho hK' ⊢
      have hz := hbr.size
      try simp only [World.size_alloc] at hz
      exact hK' _ _ (hK _ _ hb1 ⟨A1, c1, rfl, ho, fun b e => (ho.lt e).2, by omega⟩)
    | 5, ho =>
      simp only [List.getElem?_cons_succ, List.getElem?_cons_zero, Option.some.injEq] at ho
      subst ho
      have h1 : uu 1 = .bool a.ch := hd ⟨1, .data⟩ (by simp) rfl
      obtain ⟨A', c', es, os, ls, zs⟩ := hd ⟨4, .data⟩ (by simp) rfl
      dsimp only at os ls zs
      simp only [h1, es] at hK
      rw [es] at os ls
      refine wpOp_step rfl fun K' hK' => ?_
      go_simp
      exact hK' _ _ (hK _ _ (Below.refl _ _) ⟨A', c', rfl, os.base (by omega)⟩)
    | 6, ho =>
      simp only [List.getElem?_cons_succ, List.getElem?_cons_zero, Option.some.injEq] at ho
      subst ho
      first | (simp [Region.binds] at hd; simp only [hd] at hK) | skip
      have hz := hbr.size
      try simp only [World.size_alloc] at hz
      refine wpOp_step rfl fun K' hK' => ?_
      go_simp
      exact hK' _ _ (hK _ _ (below_one _ _) ⟨_, rfl, Box.new _ _ _, by omega⟩)
    | i + 7, ho => simp at hi; omega
  case last =>
    simp only [putAll, Act.put, List.setIfInBounds_toArray, List.set_cons_zero, List.set_cons_succ, Nat.reduceAdd, Nat.zero_add]
    intro uu wr lo up hbr hv hj
    obtain ⟨A', c', e9, o4⟩ := hv 5 (by simp)
    obtain ⟨g, e10, bg, hg⟩ := hv 6 (by simp)
    obtain ⟨g0, g1, g2⟩ := bg.three
    have gf := bg.frozen
    simp only [e9, e10]
    clear hv hj e9 e10
    refine wpOp_step rfl fun K' hK' => ?_
    go_simp
    refine hK' _ _ ?_
    have hbw := (hbw1).trans (hbr.mono (hbw1.size))
    have hgg := grownBy_three wr g (.bool a.ch) (.slice A' a.sh.length c') (.slice none 0 0)
    have i1 := ((bg.store 0 (.bool a.ch)).store 1 (.slice A' a.sh.length c')).store 2 (.slice none 0 0)
    simp only [List.setIfInBounds_toArray, List.set_cons_zero, List.set_cons_succ] at i1
    have i3 := o4.kept hgg (.inr (o4.ne_box bg (by decide)))
    have i4 := Box.grown (Box.below b1 hbr) hgg (by simp; omega)
    have i5 := Box.grown (Box.below bR1 hbr) hgg (by simp; omega)
    have j0 := (hbr.grown hgg hbr.size (fun j e => by cases e; omega) : Below w1.heap.size w1 _)
    have iw := hbw.grown hgg hbw.size (fun j e => by cases e; omega)
    have hgl : g < (((wr.setCell ⟨g, 0, none⟩ (.bool a.ch)).setCell ⟨g, 1, none⟩ (.slice A' a.sh.length c')).setCell ⟨g, 2, none⟩ (.slice none 0 0)).heap.size := i1.lt
    clear hbr hgg o4 bg g0 g1 g2 gf hbw hK' 
    generalize (((wr.setCell ⟨g, 0, none⟩ (.bool a.ch)).setCell ⟨g, 1, none⟩ (.slice A' a.sh.length c')).setCell ⟨g, 2, none⟩ (.slice none 0 0)) = W2 at i3 i4 i5 j0 i1 iw hgl ⊢
    have HR2 := Lib.hid (HR1.out.below j0)
    have hgw : w.heap.size + 1 < g := by omega
    go_wp2_with fail
    refine (HO.out _ _ HR2.out).mono ?_
    rintro e w5 ⟨r5, rfl, hr5, hb5⟩
    obtain ⟨P, cp, rfl, cp1, cp2, cp3, EP, HP⟩ := hr5.open_
    rw [length_ints, HXL.out] at cp1 ⊢
    have HEP := Lib.hid EP
    have HR5 := Lib.hid (HR2.out.below hb5)
    have bG := i1.below hb5
    have HBG := Lib.hid bG
    have HSO := Lib.hid (i3.below hb5).isInts
    have HBR5 := Lib.hid (i5.below hb5)
    have hbw5 := iw.trans (hb5.mono iw.size)
    have hg5 := bG.lt
    clear hr5 EP HP i1 i3 i4 i5 iw hb5 j0 hgl cp3
    go_wp2_with fail
    go_loopw [27] (fun s27 wr => ∃ (i m : Nat) (A5 : Option Addr) (c5 : Nat), i ≤ n ∧ s27 = .int .i64 i ∧ Hid (m = i * L) ∧ Hid (KeptBut g w5 wr) ∧ Box wr g 25 #[.bool a.ch, .slice A' a.sh.length c', .slice A5 m c5] ∧ Owns wr w5.heap.size (.slice A5 m c5) m (catTo (rowOf a.da L) X i) ∧ Below w.heap.size w wr) (fun s27 _ => n - (intOf s27).toNat)
    case atStart => exact ⟨0, 0, none, 0, Nat.zero_le _, rfl, Lib.hid (Nat.zero_mul L).symm, Lib.hid (KeptBut.refl g w5), bG, by rw [catTo_zero]; exact Owns.nil _ _, hbw5⟩
    case round =>
      clear bG hbw5
      obtain ⟨i, m, A5, c5, hi, rfl, HM, HK, bO, ho, hbw⟩ := hrel
      rcases Nat.lt_or_ge i n with hlt | hge
      · obtain ⟨ap, x, hap, hx, hapl, hcx⟩ := (HK.out.elems HBG.out (noInts_arr _ _ _ _ _ _ _) HEP.out).at_ (k := i) (by rw [length_ints, HXL.out]; exact hlt)
        subst hap
        obtain ⟨x', hx', rfl⟩ : ∃ x', X[i]? = some x' ∧ ((x' : Nat) : Int) = x := by simpa [ints] using hx
        have hxn : x' < n := HXN.out _ (List.mem_of_getElem? hx')
        have HCAT := Lib.hid (catTo_succ (r := rowOf a.da L) hx')
        obtain ⟨cs, hb6, hl6⟩ := HR5.out
        have hgne : gr ≠ g := Box.apart hb6 HBG.out (by decide)
        have hb7 := HK.out.box hb6 hgne
        obtain ⟨A6, c6, hc6, hi6⟩ := hl6 x' hxn
        have hcr : wr.cell? ⟨gr, x', none⟩ = some (.slice A6 (rowOf a.da L x').length c6) := by rw [hb7.cell]; exact hc6
        have hlr := rowOf_length HDL.out hxn
        rw [hlr] at hcr
        have hgr := hb7.lt
        have HE6 := Lib.hid (show Elems wr A6 (rowOf a.da L x') by
          obtain ⟨_, _, e, _, _, _, _, h9⟩ := hi6
          injection e with e1 _ _
          subst e1
          exact HK.out.elems HBG.out (noInts_arr _ _ _ _ _ _ _) h9)
        have HN6 := Lib.hid (show A6 = none → c6 = 0 by
          obtain ⟨_, _, e, _, _, _, h8, _⟩ := hi6
          injection e with e1 _ e3
          subst e1 e3
          exact h8)
        have HLR := Lib.hid hlr
        obtain ⟨g0, g1, g2⟩ := bO.three
        have hlg := bO.lt
        have gf := bO.frozen
        have hmL : m + L ≤ 4096 := by
          have h1 := Nat.mul_le_mul_right L (show i + 1 ≤ n from hlt)
          rw [Nat.add_mul, Nat.one_mul, ← HM.out] at h1
          exact Nat.le_trans h1 HP4.out
        have HM2 := Lib.hid (show m + L = (i + 1) * L by rw [Nat.add_mul, Nat.one_mul, ← HM.out])
        have hsz5 := HK.out.1
        have hxz : (x' : Int) < (n : Int) := by omega
        clear hx hx' hb6 hl6 hb7 hc6 hi6 hlr
        go_wp2_with fail
        go_region_law
          ((refine step_append_ints _ rfl rfl _ _ (by rfl) w5.heap.size m (.slice A5 m c5) (catTo (rowOf a.da L) X i) (by rfl) (ho.drewN _) A6 L c6 (rowOf a.da L x') (by rfl) HN6.out HE6.out HLR.out (by omega) (by simp; omega) ?_; intro A7 c7 w7 hown7 hgrow7 hat7; have b7 := Box.grown (w := wr.drewN _) (bO.drewN _) hgrow7 (ho.ne_box bO (by decide)); have hc7 := b7.three.2.2; have hf7 := b7.frozen 2))
        all_goals
          go_wp2_with fail
          go_roundw
          case rel => exact ⟨i + 1, m + L, A7, c7, hlt, by go_num, HM2, Lib.hid (KeptBut.step HK.out hgrow7 (fun b e => (ho.lt e).1)), b7.store 2 _, by rw [HCAT.out]; exact hown7.setCell (p := ⟨g, 2, none⟩) (hown7.ne_box b7 (by decide)) _, ((hbw.trans (below_draws _ _ _)).grown hgrow7 (by have := hbw.size; simp; omega) (fun j e => by have := (ho.lt e).1; omega)).setCell (p := ⟨g, 2, none⟩) (by simp; omega) _⟩
          case measure => simp [intOf]; omega
      · obtain rfl : i = n := by omega
        obtain ⟨g0, g1, g2⟩ := bO.three
        have bR := HK.out.box HBR5.out (by omega)
        have rf := bR.frozen
        obtain ⟨e0, e1, e2⟩ := bR.three
        have rl := bR.lt
        have hlg := bO.lt
        have HOW := Lib.hid ho.isInts
        have HSI := Lib.hid (show IsInts wr (.slice A' a.sh.length c') a.sh by
          obtain ⟨A9, c9, e, x1, x2, x3, x4, x5⟩ := HSO.out
          injection e with e1 _ e3
          subst e1 e3
          exact ⟨_, _, rfl, x1, x2, x3, x4, HK.out.elems HBG.out (noInts_arr _ _ _ _ _ _ _) x5⟩)
        have HCT := Lib.hid (show catTo (rowOf a.da L) X i = X.flatMap (rowOf a.da L) by unfold catTo; rw [List.take_of_length_le (by rw [HXL.out]; exact Nat.le_refl _)])
        clear bO ho
        go_wp2_with fail
        have hg3 := grownBy_three wr (w.heap.size + 1) (.bool a.ch) (.slice A' a.sh.length c') (.slice A5 m c5)
        have z := ((bR.store 0 (.bool a.ch)).store 1 (.slice A' a.sh.length c')).store 2 (.slice A5 m c5)
        simp only [List.setIfInBounds_toArray, List.set_cons_zero, List.set_cons_succ] at z
        obtain ⟨z0, z1, z2⟩ := z.three
        have zl := z.lt
        refine bodyPost_ret (v := .tuple #[.agg #[.bool a.ch, .slice A' a.sh.length c', .slice A5 m c5], .nilIface]) (by simp [results, Tryz.results18, go_sem, z0, z1, z2, zl]) rfl ?_
        have hdl := HOW.out
        rw [HCT.out] at hdl
        have hdm : m = (X.flatMap (rowOf a.da L)).length := by obtain ⟨_, _, e, -⟩ := hdl; injection e with _ e2 _
        subst hdm
        have hia : IsArr wr (.agg #[.bool a.ch, .slice A' a.sh.length c', .slice A5 (X.flatMap (rowOf a.da L)).length c5]) (⟨a.ch, a.sh, X.flatMap (rowOf a.da L)⟩ : Arr) := ⟨_, _, rfl, HSI.out, hdl⟩
        exact ⟨_, rfl, hia.stored bR _ _ _, hbw.grown hg3 hbw.size (fun j e => by cases e; omega)⟩
end Go.Proofs.YtihndbkaoejnnaaGreatDoor

namespace Go.Proofs.YtihndbkaoejnnaaGreatDoor
open Go Go.RowKit Go.Proofs.YtihndbkaoejnnaaGreatDoor.P
set_option maxHeartbeats 1000000 in
theorem cut_empty {v : Value} {a : Arr} {w : World} {t : List Nat} (r : Nat → List Int) (ha : IsArr w v a) (ht : Ok a (0 :: t)) :
    Calls Tryz.prog 35 #[v] w fun e w' => ∃ g, e = .returned (.tuple #[.slice (some ⟨g, 0, none⟩) 0 0, .nilIface]) ∧ RowsAt w' g 0 r ∧ Below w.heap.size w w' := by
  obtain ⟨A, ca, D, cd, rfl, hs, hd⟩ := ha.open_
  obtain ⟨as_, x, hax, hx, hasl, hcx⟩ := Elems.at_ (xs := a.sh) (k := 0) (by obtain ⟨_, _, e, _, _, _, _, h9⟩ := hs; injection e with e1 _ _; subst e1; exact h9) (by rw [ht.sh]; simp [ints])
  subst hax
  obtain rfl : x = 0 := by rw [ht.sh] at hx; simpa [ints] using hx.symm
  rw [addr_add_zero] at hcx
  have HA := Lib.hid (check_ok (ha.mono (below_one w (.cells #[.bool a.ch, .slice (some as_) a.sh.length ca, .slice D a.da.length cd] 25))) ht)
  have hsl : a.sh.length = t.length + 1 := by rw [ht.sh]; simp [ints]
  have hmk : ∀ w, (Instr.makeSlice 71 (.int .i64 0) (.int .i64 0)).run Tryz.prog w = _ := run_make_rows 0 (by omega)
  have hsl1 : 1 ≤ a.sh.length := by rw [hsl]; omega
  have hsz2 : ((a.sh.length : Int) == 0) = false := by rw [beq_eq_false_iff_ne]; omega
  clear ha hs hd ht hx hsl
  go_enter Tryz.func35, Tryz.ntmps35
  have b0 := Box.new w 25 #[.bool a.ch, .slice (some as_) a.sh.length ca, .slice D a.da.length cd]
  have hb0 := below_one w (.cells #[.bool a.ch, .slice (some as_) a.sh.length ca, .slice D a.da.length cd] 25)
  obtain ⟨t0, t1, t2⟩ := b0.three
  go_wp2_with fail
  refine HA.out.mono ?_
  rintro e w1 ⟨rfl, hb1⟩
  have hbw := hb0.trans (hb1.mono hb0.size)
  have b1 := b0.below hb1
  have hc1 : w1.cell? as_ = some (.int .i64 0) := (hbw.cell hasl).trans hcx
  clear hb1 hb0 t0 t1 t2 b0 hcx
  obtain ⟨t0, t1, t2⟩ := b1.three
  have hbw2 := hbw.alloc hbw.size (.cells (madeCells #[.slice none 0 0] 0) 23)
  have hbx := Lib.hid (Box.new w1 23 (madeCells #[.slice none 0 0] 0))
  go_wp2_with fail
  refine bodyPost_ret (v := .tuple #[.slice (some ⟨w1.heap.size, 0, none⟩) 0 0, .nilIface]) (by simp [results, Tryz.results35, go_sem]) rfl ?_
  exact ⟨_, rfl, ⟨_, hbx.out, fun i h => absurd h (Nat.not_lt_zero _)⟩, hbw2⟩
theorem sort_any {v : Value} {a : Arr} {w : World} {n : Nat} {t : List Nat} (ha : IsArr w v a) (ht : Ok a (n :: t)) :
    Calls Tryz.prog 18 #[v] w (GivesOk (sortOf a) w) := by
  have hr : a.rows = n := by unfold Arr.rows; rw [ht.nsh_eq]; rfl
  have hl : a.long = prod t := by unfold Arr.long; rw [ht.nsh_eq]; rfl
  unfold sortOf
  rw [hr, hl]
  have h : IsOrd (fun x y : Nat => decide (cOf false (rowOf a.da (prod t) x) (rowOf a.da (prod t) y) < 0)) n (gradeOf false (rowOf a.da (prod t)) n) := ordOf_is (cOf_swo false _) n
  refine sort_gen h.length (fun x hx => h.lt hx) ha ht.good.2.2 (by rw [ht.len]; rfl) (fun W hb => ?_) (fun W g hR => ?_)
  · rcases Nat.eq_zero_or_pos n with hz | hz
    · subst hz; exact cut_empty _ (ha.mono hb) ht
    · exact cut_ok (ha.mono hb) ht hz
  · rcases Nat.eq_zero_or_pos n with hz | hz
    · subst hz; exact order_none (c := cOf false) (r := rowOf a.da (prod t))
    · exact order_any enters_up cmps_up (cOf_swo false _) hR hz (ht.good.2.1 n (by simp))
end Go.Proofs.YtihndbkaoejnnaaGreatDoor

namespace Go.Proofs.YtihndbkaoejnnaaGreatDoor.P
open Go Go.RowKit
/-- An array's rows in the order p. -/
def mixOf (a : Arr) (t : List Nat) (p : List Nat) : Arr := ⟨a.ch, a.sh, p.flatMap (rowOf a.da (prod t))⟩
theorem sortOf_mix {a : Arr} {n : Nat} {t : List Nat} (h : Ok a (n :: t)) : sortOf a = mixOf a t (gradeOf false (rowOf a.da (prod t)) n) := by
  unfold sortOf mixOf Arr.rows Arr.long
  rw [h.nsh_eq]; rfl
theorem grade_range (down : Bool) (r : Nat → List Int) (n : Nat) : (gradeOf down r n).Perm (List.range n) := (ordOf_is (cOf_swo down r) n).1
/-- All indices, those of the first axis in the order p. -/
def mixIdx (p t : List Nat) : List Arr := ⟨false, [(p.length : Int)], ints p⟩ :: allIdx t
theorem mix_places {n : Nat} {t p : List Nat} : placesOf (n :: t) (mixIdx p t) = (ints p).flatMap fun q : Int => (ints (List.range (prod t))).map fun r : Int => q * ((prod t : Nat) : Int) + r := by
  unfold placesOf mixIdx
  show (t.zip (allIdx t)).foldl (fun Q p => stepAt Q p.1 p.2.da) (stepAt [0] n (ints p)) = _
  rw [steps_all]
  congr 1
  simp [stepAt]
theorem mix_cat {n : Nat} {t p : List Nat} (hl : p.length = n) : catSh (mixIdx p t) = ints (n :: t) := by
  unfold mixIdx catSh
  rw [List.flatMap_cons, hl]
  have := catSh_all t
  unfold catSh at this
  rw [this]; rfl
theorem mix_err {n : Nat} {t p : List Nat} (h : GoodSh (n :: t)) (hl : p.length = n) (hx : ∀ x ∈ p, x < n) : pickErr (n :: t) (mixIdx p t) = 0 := by
  refine pick_none (by simp [mixIdx, allIdx]) ?_ (by rw [mix_cat hl]; exact cntErr_ints h) ?_
  · unfold mixIdx
    rw [List.any_cons, Bool.or_eq_false_iff]
    exact ⟨rfl, by unfold allIdx; rw [List.any_map, List.any_eq_false]; intro n _; simp [firstNums]⟩
  · unfold idxBad mixIdx
    show (List.any ((n, (⟨false, [(p.length : Int)], ints p⟩ : Arr)) :: t.zip (allIdx t)) _) = false
    rw [List.any_cons, Bool.or_eq_false_iff]
    refine ⟨idx_row fun i hi => ?_, idxBad_all t⟩
    unfold ints at hi
    obtain ⟨k, hk, rfl⟩ := List.mem_map.1 hi
    have := hx k hk
    omega
theorem row_cells {d : List Int} {L x : Nat} (h : x * L + L ≤ d.length) : (ints (List.range L)).map (fun r : Int => d.getD ((x : Int) * (L : Int) + r).toNat 0) = rowOf d L x := by
  refine List.ext_getElem (by unfold rowOf; simp [ints]; omega) fun i h1 h2 => ?_
  have hi : i < L := by simpa [ints] using h1
  have e : ((x : Int) * (L : Int) + (i : Int)).toNat = x * L + i := by
    rw [show (x : Int) * (L : Int) + (i : Int) = ((x * L + i : Nat) : Int) by push_cast; rfl, Int.toNat_natCast]
  simp only [ints, List.getElem_map, List.getElem_range, rowOf, List.getElem_take, List.getElem_drop]
  rw [e, List.getD_eq_getElem?_getD, List.getElem?_eq_getElem (by omega)]; rfl
theorem mixed_at {a : Arr} {n : Nat} {t p : List Nat} (h : Ok a (n :: t)) (hl : p.length = n) (hx : ∀ x ∈ p, x < n) : atErr a (mixIdx p t) = 0 ∧ atOf a (mixIdx p t) = mixOf a t p := by
  have hn := h.good.2.1 n (List.mem_cons_self ..)
  have hb : ∀ b ∈ mixIdx p t, ∃ s, Ok b s := by
    intro b hb
    unfold mixIdx at hb
    rcases List.mem_cons.1 hb with rfl | hb
    · refine ⟨[n], by rw [hl]; rfl, ⟨by simp, fun m hm => ?_, by simpa [prod] using hn⟩, by simp [length_ints, prod, hl], fun h => by cases h⟩
      simp at hm; omega
    · obtain ⟨m, hm, rfl⟩ := List.mem_map.1 hb
      exact ⟨[m], firstNums_ok (h.good.2.1 m (List.mem_cons_of_mem _ hm))⟩
  refine ⟨atErr_of h hb (mix_err h.good hl hx), ?_⟩
  unfold atOf mixOf
  rw [h.nsh_eq, mix_places, mix_cat hl, ← h.sh]
  congr 1
  rw [List.map_flatMap]
  have key : ∀ q : List Nat, (∀ x ∈ q, x < n) → ((ints q).flatMap fun q : Int => ((ints (List.range (prod t))).map fun r : Int => q * ((prod t : Nat) : Int) + r).map fun p => a.da.getD p.toNat 0) = q.flatMap (rowOf a.da (prod t)) := by
    intro q
    induction q with
    | nil => intro _; rfl
    | cons x q ih =>
      intro hq
      have hxn := hq x (List.mem_cons_self ..)
      have hle : x * prod t + prod t ≤ a.da.length := by
        rw [h.len]
        have := Nat.mul_le_mul_right (prod t) (show x + 1 ≤ n from hxn)
        rw [Nat.add_mul, Nat.one_mul] at this
        exact this
      have e1 : ints (x :: q) = (x : Int) :: ints q := rfl
      rw [e1, List.flatMap_cons, List.flatMap_cons, ih (fun y hy => hq y (List.mem_cons_of_mem _ hy)), List.map_map]
      congr 1
      exact row_cells hle
  exact key p hx
end Go.Proofs.YtihndbkaoejnnaaGreatDoor.P

namespace Go.Proofs.YtihndbkaoejnnaaGreatDoor.P
open Go Go.RowKit
open Go.Sort (SWO)
theorem rowOf_one {d : List Int} {i : Nat} (h : i < d.length) : rowOf d 1 i = [d[i]] := by
  unfold rowOf
  rw [Nat.mul_one, List.drop_eq_getElem_cons h]; rfl
theorem ord_small {lt : Nat → Nat → Bool} (hS : SWO lt) {n : Nat} {l : List Nat} (h1 : l.isPerm (List.range n) = true) (h2 : l.Pairwise fun x y => stb lt id y x = false) : ordOf lt n = l :=
  (ordOf_is hS n).one ⟨List.isPerm_iff.1 h1, h2⟩
/-- An order's order. -/
theorem gradeOf_perm {X : List Nat} (h : X.Perm (List.range X.length)) : gradeOf false (rowOf (ints X) 1) X.length = invOf X := by
  rw [← ordOf_perm h]
  refine ordOf_congr (cOf_swo false _) (ltBy_swo _) fun x y hx hy => ?_
  show decide (cmpL _ _ < 0) = decide (cmpL _ _ < 0)
  have e : ∀ i, i < X.length → rowOf (ints X) 1 i = [((X.getD i 0 : Nat) : Int)] := fun i hi => by
    rw [rowOf_one (by rw [length_ints]; exact hi), List.getD_eq_getElem?_getD, List.getElem?_eq_getElem hi]
    simp [ints]
  rw [e x hx, e y hy]
/-- A list's grade. -/
def gradeA (v : Arr) (n : Nat) : List Nat := gradeOf false (rowOf v.da 1) n
theorem long_line {v : Arr} {n : Nat} (h : Ok v [n]) : v.long = 1 := by unfold Arr.long; rw [h.nsh_eq]; rfl
theorem rows_line {v : Arr} {n : Nat} (h : Ok v [n]) : v.rows = n := by unfold Arr.rows; rw [h.nsh_eq]; rfl
theorem gradeA_perm (v : Arr) (n : Nat) : (gradeA v n).Perm (List.range n) := grade_range false _ n
theorem gradeA_length (v : Arr) (n : Nat) : (gradeA v n).length = n := by rw [(gradeA_perm v n).length_eq, List.length_range]
theorem gradeA_lt (v : Arr) (n : Nat) : ∀ x ∈ gradeA v n, x < n := fun x hx => by simpa using (gradeA_perm v n).mem_iff.1 hx
theorem ok_idx {p : List Nat} {n : Nat} (hl : p.length = n) (hn : n ≤ 4096) : Ok ⟨false, [(n : Int)], ints p⟩ [n] := ⟨rfl, ⟨by simp, fun m hm => by simp at hm; omega, by simpa [prod] using hn⟩, by simp [length_ints, prod, hl], fun h => by cases h⟩
theorem sorts_at {v : Arr} {n : Nat} (h : Ok v [n]) : atErr v [⟨false, [(n : Int)], ints (gradeA v n)⟩] = 0 ∧ atOf v [⟨false, [(n : Int)], ints (gradeA v n)⟩] = sortOf v := by
  have e := mixed_at h (gradeA_length v n) (gradeA_lt v n)
  have e2 : mixIdx (gradeA v n) [] = [⟨false, [(n : Int)], ints (gradeA v n)⟩] := by
    unfold mixIdx
    rw [gradeA_length]
    rfl
  rw [e2] at e
  exact ⟨e.1, e.2.trans (sortOf_mix h).symm⟩
theorem rows_one {p : List Nat} {n : Nat} (hl : p.length = n) : ∀ {q : List Nat}, (∀ x ∈ q, x < n) → q.flatMap (rowOf (ints p) 1) = q.map fun x => ((p.getD x 0 : Nat) : Int)
  | [], _ => rfl
  | x :: q, h => by
    have hx := h x List.mem_cons_self
    rw [List.flatMap_cons, List.map_cons, rows_one hl (fun y hy => h y (List.mem_cons_of_mem _ hy)), rowOf_one (by rw [length_ints, hl]; exact hx)]
    rw [List.singleton_append]
    congr 1
    rw [List.getD_eq_getElem?_getD, List.getElem?_eq_getElem (by omega)]
    simp [ints]
theorem back_all {p : List Nat} {n : Nat} (hp : p.Perm (List.range n)) (hn : n ≤ 4096) : atErr ⟨false, [(n : Int)], ints p⟩ [⟨false, [(n : Int)], ints (invOf p)⟩] = 0 ∧ atOf ⟨false, [(n : Int)], ints p⟩ [⟨false, [(n : Int)], ints (invOf p)⟩] = firstNums n := by
  have hl : p.length = n := by rw [hp.length_eq, List.length_range]
  have hp' : p.Perm (List.range p.length) := by rw [hl]; exact hp
  have hil : (invOf p).length = n := by rw [invOf_length, hl]
  have hix : ∀ x ∈ invOf p, x < n := fun x hx => by
    have := (invOf_perm hp').mem_iff.1 hx
    simpa [hl] using this
  have e := mixed_at (ok_idx hl hn) hil hix
  have e2 : mixIdx (invOf p) [] = [⟨false, [(n : Int)], ints (invOf p)⟩] := by
    unfold mixIdx
    rw [hil]
    rfl
  rw [e2] at e
  refine ⟨e.1, e.2.trans ?_⟩
  unfold mixOf firstNums
  congr 1
  show (invOf p).flatMap (rowOf (ints p) 1) = _
  rw [rows_one hl hix]
  unfold invOf ints
  rw [List.map_map, hl]
  refine List.map_congr_left fun x hx => ?_
  have hx : x < n := by simpa using hx
  have hm : x ∈ p := hp.mem_iff.2 (by simpa using hx)
  show ((p.getD (p.idxOf x) 0 : Nat) : Int) = (x : Int)
  rw [List.getD_eq_getElem?_getD, List.getElem?_eq_getElem (List.idxOf_lt_length_of_mem hm), Option.getD_some, List.getElem_idxOf]
end Go.Proofs.YtihndbkaoejnnaaGreatDoor.P
