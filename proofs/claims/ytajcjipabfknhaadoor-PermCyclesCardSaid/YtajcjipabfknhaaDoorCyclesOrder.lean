/- The walk of perm.Cycles. Conditions: none. -/
import Derived.Test.YtajcjipabfknhaaDoorSignOrder
import Derived.Maps.AppendAt
import Derived.RangeFuncBox
set_option linter.unusedSimpArgs false
set_option linter.unusedVariables false
namespace Go.Proofs.YtajcjipabfknhaaDoor
open Go Go.RowKit Go.Shelf Go.Proofs.YtajcjipabfknhaaDoor.P

attribute [local go_sem] Oper.semAt_some

theorem ints_info : (Tryd.prog.info? 22).map (fun i => (i.zero, i.size, i.bytes)) = some (some (.slice none 0 0), 1, 24) := by kernel_rfl

/-- Those of more than one number, as values. -/
def longs (xs : List Cyc) : List Value := (xs.filter fun x => 1 < x.2.length).map Prod.fst
theorem longs_hit {xs : List Cyc} {x : Cyc} (h : 1 < x.2.length) : longs (xs ++ [x]) = longs xs ++ [x.1] := by simp [longs, h]
theorem longs_miss {xs : List Cyc} {x : Cyc} (h : ¬ 1 < x.2.length) : longs (xs ++ [x]) = longs xs := by simp [longs, h]

/-- The elements of a slice are these values. -/
def IsVals (w : World) (v : Value) (xs : List Value) : Prop :=
  ∃ (A : Option Addr) (c : Nat), v = .slice A xs.length c ∧ xs.length ≤ c ∧ c ≤ 9223372036854775807 ∧ ∀ k x, xs[k]? = some x → ∃ ad, A = some ad ∧ ad.block < w.heap.size ∧ w.cell? (ad.add k) = some x
theorem IsVals.mono {w w' : World} {v : Value} {xs : List Value} (h : IsVals w v xs) (hb : Below w.heap.size w w') : IsVals w' v xs := by
  obtain ⟨A, c, e, h1, h2, h3⟩ := h
  refine ⟨A, c, e, h1, h2, fun k x hk => ?_⟩
  obtain ⟨ad, ea, hl, hc⟩ := h3 k x hk
  have := hb.size
  exact ⟨ad, ea, by omega, (hb.cell (by rw [addr_block_add]; exact hl)).trans hc⟩
theorem isVals_of_owns {w : World} {B k : Nat} {v : Value} {xs : List Value} (h : w.ownsRow B 22 1 v k xs) : IsVals w v xs := by
  have hl := h.1
  rw [Nat.mul_one] at hl
  rcases h.2 with ⟨rfl, hk⟩ | ⟨g, cap, cur, rfl, hb, hg, hn, hm, -⟩
  · have : xs = [] := List.eq_nil_of_length_eq_zero (by omega)
    subst this
    exact ⟨none, 0, rfl, by simp, by omega, fun k x hk => by simp at hk⟩
  · refine ⟨some ⟨g, 0, none⟩, cap, by rw [hl], by omega, by unfold maxLen at hm; omega, fun j x hx => ?_⟩
    exact ⟨_, rfl, (Array.getElem?_eq_some_iff.1 hg).1, h.cells (g := g) rfl j x hx⟩

theorem ownsRow_turns {W1 W2 : World} {B k : Nat} {e : TypeId} {v : Value} {xs : List Value} {M : Nat → Obj → Prop} (h : W1.ownsRow B e 1 v k xs) (ht : Turns M W1 W2) (hm : ∀ g cur, B ≤ g → ¬ M g (.cells cur e (0, 0))) : W2.ownsRow B e 1 v k xs := by
  refine ⟨h.1, ?_⟩
  rcases h.2 with h0 | ⟨g, cap, cur, hv, hb, hg, r⟩
  · exact .inl h0
  · exact .inr ⟨g, cap, cur, hv, hb, ht.same _ _ hg (hm g cur hb), r⟩

set_option maxRecDepth 100000 in
set_option maxHeartbeats 4000000 in
theorem cycles_in (F : Fence) (n : Nat) (hF : F = Fence.wide) (hn : 3 ≤ n) (v : Value) (p : List Nat) (w : World) (h1 : IsInts w v (ints p)) (hp : Perm p) (hl : p.length ≤ 4096) :
    CallsIn F n Tryd.prog 21 #[v] w fun e w' => ∃ r xs, e = .returned (.tuple #[r, .nilIface]) ∧ IsVals w' r (longs xs) ∧ SC p xs ∧ (∀ x ∈ xs, Owns w' w.heap.size x.1 x.2.length (ints x.2)) ∧ Below w.heap.size w w' := by
  obtain ⟨A, c, rfl, c1, c2, c3, EA, H0⟩ := h1.open_
  have o1 := ordErr_ok hp hl
  simp only [length_ints] at c1 c3 H0 ⊢
  have O1 := Lib.hid o1
  have HP := Lib.hid hp
  clear h1 o1 hp
  have hro : F.round = none := by rw [hF]; rfl
  have hfn : ∀ k, F.fn k := fun k => by rw [hF]; trivial
  have hf80 := hfn 41
  have hf53 := hfn 35
  have hf52 := hfn 10
  have hf27 := hfn 21
  have hn1 : 1 ≤ n := by omega
  have hchk : CallsIn F (n - 1) Tryd.prog 10 #[.slice A p.length c] w fun e w' => e = .returned .nilIface ∧ Below w.heap.size w w' := by
    rw [hF]; exact callsIn_wide.2 (pcheck_ok _ _ _ H0 O1.out)
  clear hF H0 hfn
  refine callsIn_of_wp_marks Tryd.func21 rfl hf27 ?_ hro
  simp only [Tryd.ntmps21, List.size_toArray, List.length_cons, List.length_nil, Nat.reduceAdd, Nat.reduceSub, Array.replicate_succ, Array.replicate_zero, List.push_toArray, List.append_toArray, List.nil_append, List.cons_append]
  gi_wp2_with fail
  refine hchk.mono ?_
  rintro e w1 ⟨rfl, hb1⟩
  clear hchk
  gi_wp2_with fail
  refine (rounds_in F (n - 1) hf53 hro A p.length c _).mono ?_
  rintro e w2 ⟨rfl, rfl⟩
  gi_wp2_with fail
  have bO := (Box.new w1 40 #[.slice none 0 0]).alloc (.cells #[.slice A p.length c] 22)
  have bP := Box.new (w1.alloc (.cells #[.slice none 0 0] 40)) 22 #[.slice A p.length c]
  rw [World.size_alloc] at bP
  have hs1 := hb1.size
  have hbw : Below w.heap.size w ((w1.alloc (.cells #[.slice none 0 0] 40)).alloc (.cells #[.slice A p.length c] 22)) := (hb1.alloc hs1 _).alloc (by simp; omega) _
  obtain ⟨i0, hi, hz0, hz1, hz2⟩ := info_parts ints_info
  refine wp_range (α := Cyc) hro hn1 (gf := 41) (lb := #[.pointer (some ⟨w1.heap.size + 1, 0, none⟩)]) rfl hf80 (enters_of Tryd.func41 (by kernel_rfl) rfl) (encs := fun x : Cyc => #[x.1]) (fun _ => rfl)
    (It := ItC) (M := fun k o => k = w1.heap.size ∨ (w1.heap.size + 2 ≤ k ∧ ∃ cs, o = .cells cs 22 (0, 0))) (fun k o hk hm => by
      simp at hk
      rcases hm with h | ⟨_, cs, rfl⟩
      · omega
      · rfl) (Pr := PrC p (w1.heap.size + 2)) (S := SC p) (Sp := fun _ => True)
    ?seq (fun pre x W1 W2 h ht => h.turns ht)
    (fun pre W => (∃ v, Box W w1.heap.size 40 #[v] ∧ W.ownsRow (w1.heap.size + 2) 22 1 v (longs pre).length (longs pre)) ∧ Rounds p (pre.map Prod.snd) ∧ (∀ x ∈ pre, Owns W (w1.heap.size + 2) x.1 x.2.length (ints x.2)) ∧ w1.heap.size + 2 ≤ W.heap.size ∧ Below w.heap.size w W)
    (fun _ _ _ => False) ?hI (fun _ _ _ _ h _ => h) ?h0
    (fun x => { tmps := #[.slice A p.length c, undef, .slice none 0 0, .nilIface, .nilIface, .pointer (some ⟨w1.heap.size, 0, none⟩), x.1, .slice A p.length c, .nilIface, .nilIface, .bool false, undef, .slice A p.length c,
      .func (.func 41) #[] #[.pointer (some ⟨w1.heap.size + 1, 0, none⟩)], x.1, undef, undef, undef, undef, undef, undef, undef, undef], defers := [] }) ?assign ?body ?done ?stop
  case seq =>
    intro l J Jx W hW hlt hle hJ _ hY h0
    simp at hle
    have hWs := hW.size
    simp at hWs
    exact rounds1_in F (n - 1) hf80 hro (by omega) w A c p HP.out hl EA c1 c2 (w1.heap.size + 1) l _ J Jx W (hbw.trans (hW.mono (by simp; omega))) (bP.below hW) hlt (by omega) (by omega)
      (fun k o (hk : k = w1.heap.size ∨ (w1.heap.size + 2 ≤ k ∧ ∃ cs, o = .cells cs 22 (0, 0))) => ⟨by omega, by omega, fun h hi => by
        rcases hk with hk | ⟨_, cs, rfl⟩
        · omega
        · obtain ⟨cs2, e⟩ := hi
          injection e with _ e _
          exact absurd e (by decide)⟩) hJ (fun pre x W1 hj hp => hY pre x W1 hj (hp.lower (by omega))) h0
  case hI =>
    rintro s W1 W2 ⟨⟨v, hb, hr⟩, hR, hS, hZ, hB⟩ ht
    refine ⟨⟨v, hb.turns ht fun h => by have := h.1; simp at this; omega, ownsRow_turns hr ht fun g cur hg h => ?_⟩, hR, fun x hx => (hS x hx).turns ht fun g cur hg h => ?_, by have := ht.size; omega, hB.trans (ht.below hB.size fun k o hk _ h => by have := h.1; simp at this; omega)⟩
    all_goals
      rcases h.2 with h | h
      · obtain ⟨cs2, e⟩ := h
        injection e with _ e _
        exact absurd e (by decide)
      · cases h
  case h0 => exact ⟨⟨_, bO, World.ownsRow_nil _ _ _ _⟩, Rounds.nil p, by simp, by simp, hbw⟩
  case assign =>
    intro l x W K hK
    gi_wp2
    exact hK
  case body =>
    rintro l pre ⟨v, cy⟩ W ⟨⟨vo, hb, hr⟩, hR, hS, hZ, hB⟩ ⟨hi0, hrd, -, hnew⟩
    dsimp only at hi0 hrd hnew ⊢
    obtain ⟨A', c', rfl, -, -, -, -, -⟩ := hi0.isInts.open_
    rw [length_ints] at hi0 ⊢
    have hc := hb.one
    have hz := hb.lt
    have hR2 : Rounds p ((pre ++ [(Value.slice A' cy.length c', cy)]).map Prod.snd) := by rw [List.map_append]; exact hR.add hrd hnew
    have hS2 : ∀ x ∈ pre ++ [(Value.slice A' cy.length c', cy)], Owns W (w1.heap.size + 2) x.1 x.2.length (ints x.2) := fun x hx => by
      rcases List.mem_append.1 hx with hx | hx
      · exact hS x hx
      · simp at hx; rw [hx]; exact hi0
    have hpl : (longs pre).length ≤ 4096 := by
      have h1 : (longs pre).length ≤ pre.length := by unfold longs; rw [List.length_map]; exact List.length_filter_le _ _
      have h2 : ∀ cs : List (List Nat), (∀ c ∈ cs, 1 ≤ c.length) → cs.length ≤ cs.flatten.length := fun cs => by
        induction cs with
        | nil => simp
        | cons a t ih =>
          intro h
          have := ih fun c hc => h c (List.mem_cons_of_mem _ hc)
          have := h a List.mem_cons_self
          simp only [List.length_cons, List.flatten_cons, List.length_append]
          omega
      have h3 := h2 (pre.map Prod.snd) fun c hc => by obtain ⟨i, _, h, _⟩ := hR.1 c hc; exact h
      have h4 := hR.len HP.out
      rw [List.length_map] at h3
      omega
    have HR2 := Lib.hid hR2
    have HS2 := Lib.hid hS2
    clear hR2 hR hrd hnew hi0 hS2 hS
    have hsW := hB.size
    by_cases hlong : 1 < cy.length
    · have hl1 : longs (pre ++ [(Value.slice A' cy.length c', cy)]) = longs pre ++ [.slice A' cy.length c'] := longs_hit (x := (Value.slice A' cy.length c', cy)) hlong
      have HL1 := Lib.hid hl1
      clear hl1
      have hszz : w1.heap.size + 2 ≤ (W.alloc (.cells #[.slice A' cy.length c'] 22)).heap.size := by simp; omega
      have key : ∀ (g' cap' : Nat) (wx : World), wx.ownsRow (w1.heap.size + 2) 22 1 (.slice (some ⟨g', 0, none⟩) ((longs pre).length + 1) cap') ((longs pre).length + 1) (longs pre ++ [.slice A' cy.length c']) →
          (W.alloc (.cells #[.slice A' cy.length c'] 22)).grownBy wx vo.ownBlock →
          Boxed wx w1.heap.size 40 vo ∧ Turns (fun k o => k = w1.heap.size ∨ (w1.heap.size + 2 ≤ k ∧ ∃ cs, o = .cells cs 22 (0, 0))) W (wx.setCell ⟨w1.heap.size, 0, none⟩ (.slice (some ⟨g', 0, none⟩) ((longs pre).length + 1) cap')) ∧
          (wx.setCell ⟨w1.heap.size, 0, none⟩ (.slice (some ⟨g', 0, none⟩) ((longs pre).length + 1) cap')).ownsRow (w1.heap.size + 2) 22 1 (.slice (some ⟨g', 0, none⟩) ((longs pre).length + 1) cap') ((longs pre).length + 1) (longs pre ++ [.slice A' cy.length c']) := fun g' cap' wx ho hg => by
        have hv : Boxed W w1.heap.size 40 vo := hb
        have hv1 : Boxed wx w1.heap.size 40 vo := (hv.alloc _).kept hg (hv.not_row (by decide) hr)
        refine ⟨hv1, ?_, ho.kept (grownBy_setCell' wx _ _) (.inr (hv1.not_row (by decide) ho).symm)⟩
        refine ((Turns.alloc W _).trans (Turns.grown hg fun r o er hro => ?_)).trans (Turns.setCell (cs := #[vo]) (t := 40) hv1 (.inl rfl) _)
        rcases (hr.alloc (.cells #[.slice A' cy.length c'] 22)).2 with ⟨rfl, _⟩ | ⟨gg, cap, cur, rfl, hgB, hgg, _⟩
        · simp [Value.ownBlock] at er
        · have : gg = r := by simpa [Value.ownBlock] using er
          subst this
          rw [hgg] at hro
          cases hro
          exact .inr ⟨hgB, _, rfl⟩
      gi_wp2_with (gi_at_builtin; refine wpListIn_append_own _ rfl _ _ 40 rfl (w1.heap.size + 2) 22 i0 (.slice none 0 0) 1 24 Tryd.underlying40 hi hz0 hz1 hz2 rfl (by decide) _ _ _ rfl (hr.alloc _) ⟨W.heap.size, 0, none⟩ 1 1 [.slice A' cy.length c'] rfl rfl (cell_one_new _ _ _) (by simp [Value.oneCell']) (by unfold maxLen; omega) (by omega) hszz ?_; intro v' wx hown' hgrow _; obtain ⟨g', cap', rfl⟩ := ownsRow_succ hown'; obtain ⟨k1, k2, k3⟩ := key g' cap' wx hown' hgrow; have kc := k1.cell; have kf := k1.frozen; have kl := k1.lt)
      refine ⟨k2, ⟨_, k1.set _, ?_⟩, HR2.out, fun x hx => (HS2.out x hx).turns k2 fun g cur hg hm => by
        rcases hm with h | ⟨_, cs, e⟩
        · omega
        · injection e with _ e _
          exact absurd e (by decide), by have := k2.size; omega, hB.trans (k2.below hsW fun k o hk _ h => by omega)⟩
      rw [HL1.out, List.length_append]
      exact k3
    · have hl1 : longs (pre ++ [(Value.slice A' cy.length c', cy)]) = longs pre := longs_miss (x := (Value.slice A' cy.length c', cy)) hlong
      gi_wp2
      exact ⟨Turns.refl _ _, ⟨vo, hb, by rw [hl1]; exact hr⟩, HR2.out, HS2.out, hZ, hB⟩
  case done =>
    rintro D ys W hD hS ⟨⟨vo, hb, hr⟩, hR, hSl, hZ, hB⟩ hK
    have hc := hb.one
    have hz := hb.lt
    gi_wp2
    refine ⟨by simp, .inl ⟨_, _, rfl, run_takeDeferred hK, ?_⟩⟩
    refine ⟨.tuple #[vo, .nilIface], by simp [results, Tryd.results21, go_sem], vo, ys, rfl, isVals_of_owns (ownsRow_putObj hr _ hK rfl), hS, fun x hx => Owns.base ⟨ownsRow_putObj (hSl x hx).1 _ hK rfl, (hSl x hx).2⟩ (by omega), hB.trans (belowK_b (w := w) (Nat.le_refl _) W D _ _ (by simp at hD; omega) hK rfl rfl)⟩
  case stop =>
    rintro D c pre W _ _ h _
    exact h.elim

end Go.Proofs.YtajcjipabfknhaaDoor
