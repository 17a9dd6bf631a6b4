/- The walk of grade.Sort: the rows in order. Conditions: none. -/
import Derived.Test.YtfaojciballhnaaGradeFns
import Derived.Test.YtfaojciballhnaaHelp
set_option linter.unusedSimpArgs false
set_option linter.unusedVariables false
namespace Go.Proofs.Ytfaojciballhnaa.P
open Go Go.RowKit
/-- The first rows of an order, one behind the other. -/
def catTo (r : Nat → List Int) (X : List Nat) (i : Nat) : List Int := (X.take i).flatMap r
theorem catTo_zero (r : Nat → List Int) (X : List Nat) : catTo r X 0 = [] := by simp [catTo]
theorem catTo_succ {r : Nat → List Int} {X : List Nat} {i x : Nat} (h : X[i]? = some x) : catTo r X (i + 1) = catTo r X i ++ r x := by
  unfold catTo; rw [List.take_add_one, h]; simp
/-- An array with its rows in order. -/
def sortOf (a : Arr) : Arr := ⟨a.ch, a.sh, (gradeOf false (rowOf a.da a.long) a.rows).flatMap (rowOf a.da a.long)⟩
end Go.Proofs.Ytfaojciballhnaa.P
namespace Go.Proofs.Ytfaojciballhnaa
open Go Go.RowKit Go.Proofs.Ytfaojciballhnaa.P
set_option maxHeartbeats 1000000 in
theorem sort_bad {v : Value} {a : Arr} {w : World} (ha : IsArr w v a) (hE : gradeErr a ≠ 0) : Calls Try.prog 16 #[v] w (Fails zeroArr (gradeErr a) w) := by
  obtain ⟨A, ca, D, cd, rfl, hs, hd⟩ := ha.open_
  have HA := Lib.hid ha
  have HS := Lib.hid hs
  have hb0 := below_two w (.cells #[.bool a.ch, .slice A a.sh.length ca, .slice D a.da.length cd] 24) (.cells #[.bool false, .slice none 0 0, .slice none 0 0] 24)
  have z1 := (Box.new w 24 #[.bool a.ch, .slice A a.sh.length ca, .slice D a.da.length cd]).alloc (.cells #[.bool false, .slice none 0 0, .slice none 0 0] 24)
  have z3 := Box.new (w.alloc (.cells #[.bool a.ch, .slice A a.sh.length ca, .slice D a.da.length cd] 24)) 24 #[.bool false, .slice none 0 0, .slice none 0 0]
  simp only [World.size_alloc] at z3
  have HC := Lib.hid (cut_err (ha.mono hb0) hE)
  obtain ⟨K, hK⟩ : ∃ K, K = gradeErr a := ⟨_, rfl⟩
  rw [← hK] at HC ⊢
  clear ha hs hd hE hK
  go_enter Try.func16, Try.ntmps16
  obtain ⟨t0, t1, t2⟩ := z1.three
  go_wp2_with fail
  refine HC.out.mono ?_
  rintro e w1 ⟨rfl, hb1⟩
  have hbw := hb0.trans (hb1.mono hb0.size)
  have bR := z3.below hb1
  obtain ⟨q0, q1, q2⟩ := bR.three
  have qf := bR.frozen
  have hzR := bR.lt
  clear t0 t1 t2 z1 z3 hb0 hb1
  go_wp2_with fail
  refine bodyPost_ret (v := .tuple #[zeroArr, .iface 56 (.int .i64 K)]) (by simp [results, Try.results16, go_sem, zeroArr, q0, q1, q2, hzR]) rfl ?_
  exact ⟨rfl, by have := hbw.size; go_grown⟩
/-- All blocks but one are as they were. -/
def KeptBut (g : Nat) (w0 w : World) : Prop := w0.heap.size ≤ w.heap.size ∧ ∀ b, b < w0.heap.size → b ≠ g → w.heap[b]? = w0.heap[b]?
theorem KeptBut.refl (g : Nat) (w : World) : KeptBut g w w := ⟨Nat.le_refl _, fun _ _ _ => rfl⟩
theorem KeptBut.box {g : Nat} {w0 w : World} (h : KeptBut g w0 w) {b : Nat} {t : TypeId} {cs : Array Value} (hb : Box w0 b t cs) (hne : b ≠ g) : Box w b t cs := (h.2 b hb.lt hne).trans hb
theorem KeptBut.elems {g : Nat} {w0 w : World} (h : KeptBut g w0 w) {t : TypeId} {cs : Array Value} (hg : Box w0 g t cs) (hn : NoInts cs) {A : Option Addr} {xs : List Int} (he : Elems w0 A xs) : Elems w A xs := fun k x hk => by
  obtain ⟨ad, e, h1, h2⟩ := he k x hk
  have hne : ad.block ≠ g := he.off hg hn (List.getElem?_eq_some_iff.1 hk).1 e
  refine ⟨ad, e, Nat.lt_of_lt_of_le h1 h.1, ?_⟩
  rw [← h2]
  have h3 := h.2 ad.block h1 hne
  simp only [World.cell?, addr_block_add, h3]
theorem KeptBut.step {g i q : Nat} {w0 w w' : World} {own : Option Nat} {u : Value} (h : KeptBut g w0 w) (hg : (w.drewN q).grownBy w' own) (ho : ∀ b, own = some b → w0.heap.size ≤ b) : KeptBut g w0 (w'.setCell ⟨g, i, none⟩ u) := by
  have hs : w.heap.size ≤ w'.heap.size := hg.size
  refine ⟨by rw [World.size_setCell]; exact Nat.le_trans h.1 hs, fun b hb hne => ?_⟩
  rw [Below.heap_setCell _ _ _ _ (show b ≠ (⟨g, i, none⟩ : Addr).block from hne)]
  have h1 : w'.heap[b]? = w.heap[b]? := hg.block b (Nat.lt_of_lt_of_le hb h.1) (fun e => by have := ho b e.symm; omega)
  rw [h1]
  exact h.2 b hb hne
set_option maxRecDepth 100000 in
set_option maxHeartbeats 8000000 in
theorem sort_gen {v : Value} {a : Arr} {w : World} {n L : Nat} {X : List Nat} (hXl : X.length = n) (hX : ∀ x ∈ X, x < n) (ha : IsArr w v a) (hP4 : n * L ≤ 4096) (hDL : a.da.length = n * L)
    (hcut : ∀ W, Below w.heap.size w W → Calls Try.prog 22 #[v] W fun e w' => ∃ g, e = .returned (.tuple #[.slice (some ⟨g, 0, none⟩) n n, .nilIface]) ∧ RowsAt w' g n (rowOf a.da L) ∧ Below W.heap.size W w')
    (hord : ∀ W g, RowsAt W g n (rowOf a.da L) → Calls Try.prog 23 #[.slice (some ⟨g, 0, none⟩) n n, .func (.func 24) #[] #[]] W fun e w' => ∃ r, e = .returned r ∧ IsInts w' r (ints X) ∧ Below W.heap.size W w') :
    Calls Try.prog 16 #[v] w (GivesOk ⟨a.ch, a.sh, X.flatMap (rowOf a.da L)⟩ w) := by
  obtain ⟨A, ca, D, cd, rfl, hs, hd⟩ := ha.open_
  have HA := Lib.hid ha
  have HS := Lib.hid hs
  have hb0 := below_two w (.cells #[.bool a.ch, .slice A a.sh.length ca, .slice D a.da.length cd] 24) (.cells #[.bool false, .slice none 0 0, .slice none 0 0] 24)
  have z1 := (Box.new w 24 #[.bool a.ch, .slice A a.sh.length ca, .slice D a.da.length cd]).alloc (.cells #[.bool false, .slice none 0 0, .slice none 0 0] 24)
  have z3 := Box.new (w.alloc (.cells #[.bool a.ch, .slice A a.sh.length ca, .slice D a.da.length cd] 24)) 24 #[.bool false, .slice none 0 0, .slice none 0 0]
  simp only [World.size_alloc] at z3
  have HC := Lib.hid (hcut _ hb0)
  have HO := Lib.hid hord
  have HXL := Lib.hid hXl
  have HXN := Lib.hid hX
  have HP4 := Lib.hid hP4
  have HDL := Lib.hid hDL
  clear ha hs hd hcut hord hXl hX hP4 hDL
  go_enter Try.func16, Try.ntmps16
  obtain ⟨t0, t1, t2⟩ := z1.three
  go_wp2_with fail
  refine HC.out.mono ?_
  rintro e w1 ⟨gr, rfl, hr1, hb1⟩
  have hbw1 := hb0.trans (hb1.mono hb0.size)
  have b1 := z1.below hb1
  have bR1 := z3.below hb1
  have HR1 := Lib.hid hr1
  clear t0 t1 t2 z1 z3 hb0 hb1 hr1
  obtain ⟨t0, t1, t2⟩ := b1.three
  have l1 := b1.lt
  have l2 := bR1.lt
  go_wp2_with fail
  refine wp_region_open (fun i v lo hi w' => match i with
    | 0 => v = .pointer (some ⟨w.heap.size, 0, none⟩)
    | 1 => v = .bool a.ch
    | 2 => v = .pointer (some ⟨w.heap.size, 1, none⟩)
    | 3 => v = .slice A a.sh.length ca
    | 4 => ∃ A' c', v = .slice A' a.sh.length c' ∧ Owns w' lo v a.sh.length (a.sh) ∧ (∀ b, v.ownBlock = some b → b < hi) ∧ w1.heap.size ≤ lo
    | 5 => ∃ A' c', v = .agg #[.bool a.ch, .slice A' a.sh.length c', .slice none 0 0] ∧ Owns w' (w1.heap.size) (.slice A' a.sh.length c') a.sh.length (a.sh)
    | 6 => ∃ g, v = .pointer (some ⟨g, 0, none⟩) ∧ Box w' g 24 #[.bool false, .slice none 0 0, .slice none 0 0] ∧ w1.heap.size ≤ g
    | _ => True) (by kernel_rfl) (by kernel_rfl) (by kernel_rfl) ?hV ?step ?last
  case hV =>
    intro i v lo hi w1 w2 h hb
    match i, h with
    | 0, h => exact h
    | 1, h => exact h
    | 2, h => exact h
    | 3, h => exact h
    | 4, ⟨A', c', e, ho, hl, hz⟩ => exact ⟨A', c', e, ho.below hb, hl, hz⟩
    | 5, ⟨A', c', e, ho⟩ => exact ⟨A', c', e, ho.below hb⟩
    | 6, ⟨g, e, hx, hz⟩ => exact ⟨g, e, hx.below hb, hz⟩
    | i + 7, _ => trivial
  case step =>
    simp only [putAll, Act.put, List.setIfInBounds_toArray, List.set_cons_zero, List.set_cons_succ, Nat.reduceAdd, Nat.zero_add]
    intro i o ho hi uu lo up wr hbr hd hj K hK
    obtain ⟨hcw, hfw⟩ := bcell hbr
    match i, ho with
    | 0, ho =>
      simp only [List.getElem?_cons_zero, Option.some.injEq] at ho
      subst ho
      first | (simp [Region.binds] at hd; simp only [hd] at hK) | skip
      refine wpOp_step rfl fun K' hK' => ?_
      go_simp
      exact hK' _ _ (hK _ _ (Below.refl _ _) rfl)
    | 1, ho =>
      simp only [List.getElem?_cons_succ, List.getElem?_cons_zero, Option.some.injEq] at ho
      subst ho
      first | (simp [Region.binds] at hd; simp only [hd] at hK) | skip
      refine wpOp_step rfl fun K' hK' => ?_
      go_simp
      exact hK' _ _ (hK _ _ (Below.refl _ _) rfl)
    | 2, ho =>
      simp only [List.getElem?_cons_succ, List.getElem?_cons_zero, Option.some.injEq] at ho
      subst ho
      first | (simp [Region.binds] at hd; simp only [hd] at hK) | skip
      refine wpOp_step rfl fun K' hK' => ?_
      go_simp
      exact hK' _ _ (hK _ _ (Below.refl _ _) rfl)
    | 3, ho =>
      simp only [List.getElem?_cons_succ, List.getElem?_cons_zero, Option.some.injEq] at ho
      subst ho
      first | (simp [Region.binds] at hd; simp only [hd] at hK) | skip
      refine wpOp_step rfl fun K' hK' => ?_
      go_simp
      exact hK' _ _ (hK _ _ (Below.refl _ _) rfl)
    | 4, ho =>
      simp only [List.getElem?_cons_succ, List.getElem?_cons_zero, Option.some.injEq] at ho
      subst ho
      first | (simp [Region.binds] at hd; simp only [hd] at hK) | skip
      refine wpOp_step rfl fun K' hK' => ?_
      go_simp
      refine (clone_any _ (a.sh) _ (HS.out.mono ((hbw1).trans (hbr.mono (hbw1.size))))).mono ?_
      rintro e w1 ⟨A1, c1, rfl, ho, hb1⟩
      try simp only [length_ints] at ho hK' ⊢
      have hz := hbr.size
      try simp only [World.size_alloc] at hz
      exact hK' _ _ (hK _ _ hb1 ⟨A1, c1, rfl, ho, fun b e => (ho.lt e).2, by omega⟩)
    | 5, ho =>
      simp only [List.getElem?_cons_succ, List.getElem?_cons_zero, Option.some.injEq] at ho
      subst ho
      have h1 : uu 1 = .bool a.ch := hd ⟨1, .data⟩ (by simp) rfl
      obtain ⟨A', c', es, os, ls, zs⟩ := hd ⟨4, .data⟩ (by simp) rfl
      dsimp only at os ls zs
      simp only [h1, es] at hK
      rw [es] at os ls
      refine wpOp_step rfl fun K' hK' => ?_
      go_simp
      exact hK' _ _ (hK _ _ (Below.refl _ _) ⟨A', c', rfl, os.base (by omega)⟩)
    | 6, ho =>
      simp only [List.getElem?_cons_succ, List.getElem?_cons_zero, Option.some.injEq] at ho
      subst ho
      first | (simp [Region.binds] at hd; simp only [hd] at hK) | skip
      have hz := hbr.size
      try simp only [World.size_alloc] at hz
      refine wpOp_step rfl fun K' hK' => ?_
      go_simp
      exact hK' _ _ (hK _ _ (below_one _ _) ⟨_, rfl, Box.new _ _ _, by omega⟩)
    | i + 7, ho => simp at hi; omega
  case last =>
    simp only [putAll, Act.put, List.setIfInBounds_toArray, List.set_cons_zero, List.set_cons_succ, Nat.reduceAdd, Nat.zero_add]
    intro uu wr lo up hbr hv hj
    obtain ⟨A', c', e9, o4⟩ := hv 5 (by simp)
    obtain ⟨g, e10, bg, hg⟩ := hv 6 (by simp)
    obtain ⟨g0, g1, g2⟩ := bg.three
    have gf := bg.frozen
    simp only [e9, e10]
    clear hv hj e9 e10
    refine wpOp_step rfl fun K' hK' => ?_
    go_simp
    refine hK' _ _ ?_
    have hbw := (hbw1).trans (hbr.mono (hbw1.size))
    have hgg := grownBy_three wr g (.bool a.ch) (.slice A' a.sh.length c') (.slice none 0 0)
    have i1 := ((bg.store 0 (.bool a.ch)).store 1 (.slice A' a.sh.length c')).store 2 (.slice none 0 0)
    simp only [List.setIfInBounds_toArray, List.set_cons_zero, List.set_cons_succ] at i1
    have i3 := o4.kept hgg (.inr (o4.ne_box bg (by decide)))
    have i4 := Box.grown (Box.below b1 hbr) hgg (by simp; omega)
    have i5 := Box.grown (Box.below bR1 hbr) hgg (by simp; omega)
    have j0 := (hbr.grown hgg hbr.size (fun j e => by cases e; omega) : Below w1.heap.size w1 _)
    have iw := hbw.grown hgg hbw.size (fun j e => by cases e; omega)
    have hgl : g < (((wr.setCell ⟨g, 0, none⟩ (.bool a.ch)).setCell ⟨g, 1, none⟩ (.slice A' a.sh.length c')).setCell ⟨g, 2, none⟩ (.slice none 0 0)).heap.size := i1.lt
    clear hbr hgg o4 bg g0 g1 g2 gf hbw hK' 
    generalize (((wr.setCell ⟨g, 0, none⟩ (.bool a.ch)).setCell ⟨g, 1, none⟩ (.slice A' a.sh.length c')).setCell ⟨g, 2, none⟩ (.slice none 0 0)) = W2 at i3 i4 i5 j0 i1 iw hgl ⊢
    have HR2 := Lib.hid (HR1.out.below j0)
    have hgw : w.heap.size + 1 < g := by omega
    go_wp2_with fail
    refine (HO.out _ _ HR2.out).mono ?_
    rintro e w5 ⟨r5, rfl, hr5, hb5⟩
    obtain ⟨P, cp, rfl, cp1, cp2, cp3, EP, HP⟩ := hr5.open_
    rw [length_ints, HXL.out] at cp1 ⊢
    have HEP := Lib.hid EP
    have HR5 := Lib.hid (HR2.out.below hb5)
    have bG := i1.below hb5
    have HBG := Lib.hid bG
    have HSO := Lib.hid (i3.below hb5).isInts
    have HBR5 := Lib.hid (i5.below hb5)
    have hbw5 := iw.trans (hb5.mono iw.size)
    have hg5 := bG.lt
    clear hr5 EP HP i1 i3 i4 i5 iw hb5 j0 hgl cp3
    go_wp2_with fail
    go_loopw [27] (fun s27 wr => ∃ (i m : Nat) (A5 : Option Addr) (c5 : Nat), i ≤ n ∧ s27 = .int .i64 i ∧ Hid (m = i * L) ∧ Hid (KeptBut g w5 wr) ∧ Box wr g 24 #[.bool a.ch, .slice A' a.sh.length c', .slice A5 m c5] ∧ Owns wr w5.heap.size (.slice A5 m c5) m (catTo (rowOf a.da L) X i) ∧ Below w.heap.size w wr) (fun s27 _ => n - (intOf s27).toNat)
    case atStart => exact ⟨0, 0, none, 0, Nat.zero_le _, rfl, Lib.hid (Nat.zero_mul L).symm, Lib.hid (KeptBut.refl g w5), bG, by rw [catTo_zero]; exact Owns.nil _ _, hbw5⟩
    case round =>
      clear bG hbw5
      obtain ⟨i, m, A5, c5, hi, rfl, HM, HK, bO, ho, hbw⟩ := hrel
      rcases Nat.lt_or_ge i n with hlt | hge
      · obtain ⟨ap, x, hap, hx, hapl, hcx⟩ := (HK.out.elems HBG.out (noInts_arr _ _ _ _ _ _ _) HEP.out).at_ (k := i) (by rw [length_ints, HXL.out]; exact hlt)
        subst hap
        obtain ⟨x', hx', rfl⟩ : ∃ x', X[i]? = some x' ∧ ((x' : Nat) : Int) = x := by simpa [ints] using hx
        have hxn : x' < n := HXN.out _ (List.mem_of_getElem? hx')
        have HCAT := Lib.hid (catTo_succ (r := rowOf a.da L) hx')
        obtain ⟨cs, hb6, hl6⟩ := HR5.out
        have hgne : gr ≠ g := Box.apart hb6 HBG.out (by decide)
        have hb7 := HK.out.box hb6 hgne
        obtain ⟨A6, c6, hc6, hi6⟩ := hl6 x' hxn
        have hcr : wr.cell? ⟨gr, x', none⟩ = some (.slice A6 (rowOf a.da L x').length c6) := by rw [hb7.cell]; exact hc6
        have hlr := rowOf_length HDL.out hxn
        rw [hlr] at hcr
        have hgr := hb7.lt
        have HE6 := Lib.hid (show Elems wr A6 (rowOf a.da L x') by
          obtain ⟨_, _, e, _, _, _, _, h9⟩ := hi6
          injection e with e1 _ _
          subst e1
          exact HK.out.elems HBG.out (noInts_arr _ _ _ _ _ _ _) h9)
        have HN6 := Lib.hid (show A6 = none → c6 = 0 by
          obtain ⟨_, _, e, _, _, _, h8, _⟩ := hi6
          injection e with e1 _ e3
          subst e1 e3
          exact h8)
        have HLR := Lib.hid hlr
        obtain ⟨g0, g1, g2⟩ := bO.three
        have hlg := bO.lt
        have gf := bO.frozen
        have hmL : m + L ≤ 4096 := by
          have h1 := Nat.mul_le_mul_right L (show i + 1 ≤ n from hlt)
          rw [Nat.add_mul, Nat.one_mul, ← HM.out] at h1
          exact Nat.le_trans h1 HP4.out
        have HM2 := Lib.hid (show m + L = (i + 1) * L by rw [Nat.add_mul, Nat.one_mul, ← HM.out])
        have hsz5 := HK.out.1
        have hxz : (x' : Int) < (n : Int) := by omega
        clear hx hx' hb6 hl6 hb7 hc6 hi6 hlr
        go_wp2_with fail
        go_region_law
          ((refine step_append_ints _ rfl rfl _ _ (by rfl) w5.heap.size m (.slice A5 m c5) (catTo (rowOf a.da L) X i) (by rfl) (ho.drewN _) A6 L c6 (rowOf a.da L x') (by rfl) HN6.out HE6.out HLR.out (by omega) (by simp; omega) ?_; intro A7 c7 w7 hown7 hgrow7 hat7; have b7 := Box.grown (w := wr.drewN _) (bO.drewN _) hgrow7 (ho.ne_box bO (by decide)); have hc7 := b7.three.2.2; have hf7 := b7.frozen 2))
        all_goals
          go_wp2_with fail
          go_roundw
          case rel => exact ⟨i + 1, m + L, A7, c7, hlt, by go_num, HM2, Lib.hid (KeptBut.step HK.out hgrow7 (fun b e => (ho.lt e).1)), b7.store 2 _, by rw [HCAT.out]; exact hown7.setCell (p := ⟨g, 2, none⟩) (hown7.ne_box b7 (by decide)) _, ((hbw.trans (below_draws _ _ _)).grown hgrow7 (by have := hbw.size; simp; omega) (fun j e => by have := (ho.lt e).1; omega)).setCell (p := ⟨g, 2, none⟩) (by simp; omega) _⟩
          case measure => simp [intOf]; omega
      · obtain rfl : i = n := by omega
        obtain ⟨g0, g1, g2⟩ := bO.three
        have bR := HK.out.box HBR5.out (by omega)
        have rf := bR.frozen
        obtain ⟨e0, e1, e2⟩ := bR.three
        have rl := bR.lt
        have hlg := bO.lt
        have HOW := Lib.hid ho.isInts
        have HSI := Lib.hid (show IsInts wr (.slice A' a.sh.length c') a.sh by
          obtain ⟨A9, c9, e, x1, x2, x3, x4, x5⟩ := HSO.out
          injection e with e1 _ e3
          subst e1 e3
          exact ⟨_, _, rfl, x1, x2, x3, x4, HK.out.elems HBG.out (noInts_arr _ _ _ _ _ _ _) x5⟩)
        have HCT := Lib.hid (show catTo (rowOf a.da L) X i = X.flatMap (rowOf a.da L) by unfold catTo; rw [List.take_of_length_le (by rw [HXL.out]; exact Nat.le_refl _)])
        clear bO ho
        go_wp2_with fail
        have hg3 := grownBy_three wr (w.heap.size + 1) (.bool a.ch) (.slice A' a.sh.length c') (.slice A5 m c5)
        have z := ((bR.store 0 (.bool a.ch)).store 1 (.slice A' a.sh.length c')).store 2 (.slice A5 m c5)
        simp only [List.setIfInBounds_toArray, List.set_cons_zero, List.set_cons_succ] at z
        obtain ⟨z0, z1, z2⟩ := z.three
        have zl := z.lt
        refine bodyPost_ret (v := .tuple #[.agg #[.bool a.ch, .slice A' a.sh.length c', .slice A5 m c5], .nilIface]) (by simp [results, Try.results16, go_sem, z0, z1, z2, zl]) rfl ?_
        have hdl := HOW.out
        rw [HCT.out] at hdl
        have hdm : m = (X.flatMap (rowOf a.da L)).length := by obtain ⟨_, _, e, -⟩ := hdl; injection e with _ e2 _
        subst hdm
        have hia : IsArr wr (.agg #[.bool a.ch, .slice A' a.sh.length c', .slice A5 (X.flatMap (rowOf a.da L)).length c5]) (⟨a.ch, a.sh, X.flatMap (rowOf a.da L)⟩ : Arr) := ⟨_, _, rfl, HSI.out, hdl⟩
        exact ⟨_, rfl, hia.stored bR _ _ _, hbw.grown hg3 hbw.size (fun j e => by cases e; omega)⟩
end Go.Proofs.Ytfaojciballhnaa
