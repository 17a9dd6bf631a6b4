/- What the card TopProduct leans on: Funnel, Inv, Tail. Conditions: none but those of its theorems. -/
import Derived.Orders
import Derived.Below
import Derived.RegionTactic
set_option linter.unusedSimpArgs false
set_option linter.unusedVariables false
namespace Go.Proofs.YtihndbkaoejnnaaGreatDoor
open Go Go.RowKit

/-- All edges lead back, and each operation but the last has one that waits for it. -/
def funnelB (md : Region.Mode) (ops : Array Oper) : Bool :=
  (List.range ops.size).all fun i =>
    (match ops[i]? with | some o => o.after.all fun e => decide (e.on < i) | none => false) &&
    (decide (i + 1 = ops.size) || (List.range ops.size).any fun k => decide (i < k) && (match ops[k]? with | some o => o.after.any fun e => Region.binds md e && decide (e.on = i) | none => false))

theorem funnel_back {md : Region.Mode} {ops : Array Oper} (h : funnelB md ops = true) {i : Nat} {o : Oper} (ho : ops[i]? = some o) {e : Edge} (he : e ∈ o.after) : e.on < i := by
  have hi := (Array.getElem?_eq_some_iff.1 ho).1
  have h1 := List.all_eq_true.1 h i (List.mem_range.2 hi)
  rw [ho, Bool.and_eq_true] at h1
  have h2 := Array.all_eq_true_iff_forall_mem.1 h1.1 e he
  simpa using h2

theorem funnel_next {md : Region.Mode} {ops : Array Oper} (h : funnelB md ops = true) {i : Nat} (hi : i + 1 < ops.size) :
    ∃ k o e, i < k ∧ ops[k]? = some o ∧ e ∈ o.after ∧ Region.binds md e = true ∧ e.on = i := by
  have h1 := List.all_eq_true.1 h i (List.mem_range.2 (by omega))
  rw [Bool.and_eq_true] at h1
  have h2 := h1.2
  rw [Bool.or_eq_true] at h2
  rcases h2 with h2 | h2
  · have := of_decide_eq_true h2
    omega
  · obtain ⟨k, _, hk⟩ := List.any_eq_true.1 h2
    rw [Bool.and_eq_true] at hk
    have hik := of_decide_eq_true hk.1
    rcases ho : ops[k]? with _ | o
    · rw [ho] at hk; simp at hk
    · rw [ho] at hk
      obtain ⟨e, he, hb⟩ := Array.any_eq_true'.1 hk.2
      rw [Bool.and_eq_true] at hb
      exact ⟨k, o, e, hik, ho, he, hb.1, of_decide_eq_true hb.2⟩

theorem ready_iff {md : Region.Mode} {ops : Array Oper} {listed : Array Bool} {i : Nat} : i ∈ Region.ready md ops listed ↔
    i < ops.size ∧ listed.getD i true = false ∧ ∃ o, ops[i]? = some o ∧ ∀ e ∈ o.after, Region.binds md e = true → listed.getD e.on false = true := by
  unfold Region.ready
  rw [List.mem_filter, List.mem_range]
  constructor
  · rintro ⟨hi, h⟩
    rw [Bool.and_eq_true] at h
    rcases ho : ops[i]? with _ | o
    · rw [ho] at h; simp at h
    · rw [ho] at h
      refine ⟨hi, by simpa using h.1, o, rfl, fun e he hb => ?_⟩
      have h2 := h.2
      simp only [Option.map_some, Option.getD_some] at h2
      have h3 := Array.all_eq_true_iff_forall_mem.1 h2 e he
      simpa [hb] using h3
  · rintro ⟨hi, h, o, ho, hall⟩
    refine ⟨hi, ?_⟩
    rw [ho, Bool.and_eq_true]
    refine ⟨by simpa using h, ?_⟩
    simp only [Option.map_some, Option.getD_some]
    rw [Array.all_eq_true_iff_forall_mem]
    intro e he
    by_cases hb : Region.binds md e = true
    · simp [hall e he hb]
    · simp [hb]

/-- How many are still to come. -/
def toCome (n : Nat) (listed : Array Bool) : Nat := (List.range n).countP fun i => !listed.getD i true

theorem getD_set_eq {listed : Array Bool} {i : Nat} (hi : i < listed.size) (d : Bool) : (listed.setIfInBounds i true).getD i d = true := by
  rw [Array.getD_eq_getD_getElem?, Array.getElem?_setIfInBounds_self]
  simp [hi]
theorem getD_set_other {listed : Array Bool} {i j : Nat} (h : i ≠ j) (d : Bool) : (listed.setIfInBounds i true).getD j d = listed.getD j d := by
  rw [Array.getD_eq_getD_getElem?, Array.getElem?_setIfInBounds_ne h, Array.getD_eq_getD_getElem?]

theorem countP_one_less : ∀ (l : List Nat) (p q : Nat → Bool) (i : Nat), l.Nodup → i ∈ l → p i = true → q i = false → (∀ j ∈ l, j ≠ i → p j = q j) → l.countP p = l.countP q + 1
  | [], _, _, _, _, h, _, _, _ => by cases h
  | x :: l, p, q, i, hn, hm, hp, hq, hs => by
    rw [List.nodup_cons] at hn
    rcases List.mem_cons.1 hm with rfl | hm
    · have : l.countP p = l.countP q := List.countP_congr (fun j hj => by rw [hs j (List.mem_cons_of_mem _ hj) (fun e => hn.1 (e ▸ hj))])
      rw [List.countP_cons_of_pos hp, List.countP_cons_of_neg (by simp [hq]), this]
    · have hne : x ≠ i := fun e => hn.1 (e ▸ hm)
      have ih := countP_one_less l p q i hn.2 hm hp hq (fun j hj => hs j (List.mem_cons_of_mem _ hj))
      have hx := hs x List.mem_cons_self hne
      rw [List.countP_cons, List.countP_cons, ih, hx]
      omega

theorem toCome_set {n : Nat} {listed : Array Bool} {i : Nat} (hi : i < n) (hs : listed.size = n) (h : listed.getD i true = false) : toCome n listed = toCome n (listed.setIfInBounds i true) + 1 := by
  refine countP_one_less _ _ _ i List.nodup_range (List.mem_range.2 hi) (by simp [h]) (by rw [getD_set_eq (by omega)]; rfl) fun j _ hj => ?_
  rw [getD_set_other (Ne.symm hj)]

theorem toCome_pos {n : Nat} {listed : Array Bool} {i : Nat} (hi : i < n) (h : listed.getD i true = false) : 0 < toCome n listed :=
  List.countP_pos_iff.2 ⟨i, List.mem_range.2 hi, by simp [h]⟩

section
variable {P : Program} {ops : Array Oper} {Q : Exit → Act → World → Prop} {md : Region.Mode}

/-- The frame with the values that the operations have yielded. -/
def upd (u : Nat → Value) (i : Nat) (v : Value) : Nat → Value := fun j => if j = i then v else u j
theorem upd_same (u : Nat → Value) (i : Nat) (v : Value) : upd u i v i = v := if_pos rfl
theorem upd_other (u : Nat → Value) {i j : Nat} (v : Value) (h : j ≠ i) : upd u i v j = u j := if_neg h

theorem wpAny_funnel (W0 : World) (V : Nat → Value → Nat → Nat → World → Prop) (mk : (Nat → Value) → Act) (hf : funnelB md ops = true)
    (hV : ∀ i v lo hi w w', V i v lo hi w → Below w.heap.size w w' → V i v lo hi w')
    (hput : ∀ i o, ops[i]? = some o → ∀ u v, (mk u).put o.dst v = mk (upd u i v))
    (step : ∀ i o, ops[i]? = some o → i + 1 < ops.size → ∀ u (lo hi : Nat → Nat) w, Below W0.heap.size W0 w → (∀ e ∈ o.after, Region.binds md e = true → V e.on (u e.on) (lo e.on) (hi e.on) w) →
      (∀ e ∈ o.after, ∀ e' ∈ o.after, Region.binds md e = true → Region.binds md e' = true → e.on ≠ e'.on → hi e.on ≤ lo e'.on ∨ hi e'.on ≤ lo e.on) →
      ∀ K : Act → World → Prop, (∀ v w', Below w.heap.size w w' → V i v w.heap.size w'.heap.size w' → K ((mk u).put o.dst v) w') → wpOp P ops Q i K (mk u) w)
    (last : ∀ u w (lo hi : Nat → Nat), Below W0.heap.size W0 w → (∀ i, i + 1 < ops.size → V i (u i) (lo i) (hi i) w) → (∀ i j, i + 1 < ops.size → j + 1 < ops.size → i ≠ j → hi i ≤ lo j ∨ hi j ≤ lo i) →
      wpOp P ops Q (ops.size - 1) (Q .normal) (mk u) w)
    (hpos : 0 < ops.size) :
    ∀ (fuel : Nat) (listed : Array Bool) (u : Nat → Value) (lo hi : Nat → Nat) (w : World), listed.size = ops.size → Below W0.heap.size W0 w → toCome ops.size listed ≤ fuel → listed.getD (ops.size - 1) true = false →
      (∀ i o, ops[i]? = some o → listed.getD i true = true → ∀ e ∈ o.after, Region.binds md e = true → listed.getD e.on false = true) →
      (∀ i, i + 1 < ops.size → listed.getD i true = true → V i (u i) (lo i) (hi i) w ∧ hi i ≤ w.heap.size) →
      (∀ i j, i + 1 < ops.size → j + 1 < ops.size → listed.getD i true = true → listed.getD j true = true → i ≠ j → hi i ≤ lo j ∨ hi j ≤ lo i) → wpAny P md ops Q fuel listed (mk u) w := by
  intro fuel
  induction fuel with
  | zero =>
    intro listed u lo hi w _ _ hc hz _ _ _
    have := toCome_pos (n := ops.size) (listed := listed) (i := ops.size - 1) (by omega) hz
    omega
  | succ fuel ih =>
    intro listed u lo hi w hs hb hc hz hcl hv hdj
    have hsome : ∀ i, i < ops.size → ∃ o, ops[i]? = some o := fun i hi => ⟨ops[i], Array.getElem?_eq_getElem hi⟩
    refine ⟨fun hr => ?_, fun i hrd => ?_⟩
    · -- none is ready: then all are listed
      exfalso
      have all : ∀ m i, i < m → i < ops.size → listed.getD i true = true := by
        intro m
        induction m with
        | zero => intro i h; omega
        | succ m ihm =>
          intro i him hi
          rcases hl : listed.getD i true with _ | _
          · exfalso
            obtain ⟨o, ho⟩ := hsome i hi
            have : i ∈ Region.ready md ops listed := ready_iff.2 ⟨hi, hl, o, ho, fun e he _ => by
              have hlt := funnel_back hf ho he
              have h1 := ihm e.on (by omega) (by omega)
              rw [Array.getD_eq_getD_getElem?, Array.getElem?_eq_getElem (by omega)] at h1 ⊢
              simpa using h1⟩
            rw [hr] at this
            cases this
          · rfl
      have := all ops.size (ops.size - 1) (by omega) (by omega)
      rw [hz] at this
      cases this
    · obtain ⟨hin, hun, o, ho, hdep⟩ := ready_iff.1 hrd
      by_cases hlast : i + 1 < ops.size
      · -- one on the way
        have hlisted : ∀ e ∈ o.after, Region.binds md e = true → e.on + 1 < ops.size ∧ listed.getD e.on true = true := fun e he hbn => by
          have hlt := funnel_back hf ho he
          have h1 := hdep e he hbn
          refine ⟨by omega, ?_⟩
          rw [Array.getD_eq_getD_getElem?, Array.getElem?_eq_getElem (by omega)] at h1 ⊢
          simpa using h1
        refine step i o ho hlast u lo hi w hb (fun e he hbn => (hv e.on (hlisted e he hbn).1 (hlisted e he hbn).2).1)
          (fun e he e' he' hbn hbn' hne => hdj e.on e'.on (hlisted e he hbn).1 (hlisted e' he' hbn').1 (hlisted e he hbn).2 (hlisted e' he' hbn').2 hne) _ fun v w' hbw hvi => ?_
        · rw [hput i o ho]
          have hb' : Below W0.heap.size W0 w' := hb.trans (hbw.mono hb.size)
          refine ih _ _ (fun j => if j = i then w.heap.size else lo j) (fun j => if j = i then w'.heap.size else hi j) _ (by simpa using hs) hb' ?_ ?_ ?_ ?_ ?_
          · have := toCome_set (n := ops.size) hin hs hun
            omega
          · rw [getD_set_other (by omega)]; exact hz
          · intro j oj hoj hlj e he hbn
            by_cases hij : i = e.on
            · rw [← hij, getD_set_eq (by omega)]
            · rw [getD_set_other hij]
              by_cases hji : i = j
              · subst hji
                rw [ho] at hoj
                cases hoj
                exact hdep e he hbn
              · rw [getD_set_other hji] at hlj
                exact hcl j oj hoj hlj e he hbn
          · intro j hj hlj
            by_cases hji : j = i
            · subst hji
              rw [upd_same, if_pos rfl, if_pos rfl]
              exact ⟨hvi, Nat.le_refl _⟩
            · rw [upd_other _ _ hji, if_neg hji, if_neg hji]
              rw [getD_set_other (Ne.symm hji)] at hlj
              have := hv j hj hlj
              exact ⟨hV _ _ _ _ _ _ this.1 hbw, Nat.le_trans this.2 hbw.size⟩
          · intro j k hj hk hlj hlk hjk
            by_cases hji : j = i
            · subst hji
              rw [getD_set_other hjk] at hlk
              rw [if_pos rfl, if_pos rfl, if_neg (Ne.symm hjk), if_neg (Ne.symm hjk)]
              exact .inr (hv k hk hlk).2
            · rw [getD_set_other (Ne.symm hji)] at hlj
              by_cases hki : k = i
              · subst hki
                rw [if_neg hji, if_neg hji, if_pos rfl, if_pos rfl]
                exact .inl (hv j hj hlj).2
              · rw [getD_set_other (Ne.symm hki)] at hlk
                rw [if_neg hji, if_neg hji, if_neg hki, if_neg hki]
                exact hdj j k hj hk hlj hlk hjk
      · -- the last one: all others are listed
        have hiz : i = ops.size - 1 := by omega
        subst hiz
        have all : ∀ m j, ops.size - 1 - j ≤ m → j < ops.size - 1 → listed.getD j true = true := by
          intro m
          induction m with
          | zero => intro j h1 h2; omega
          | succ m ihm =>
            intro j h1 h2
            obtain ⟨k, ok, e, hjk, hok, he, hbn, heq⟩ := funnel_next hf (i := j) (by omega)
            have hk := (Array.getElem?_eq_some_iff.1 hok).1
            have h3 : listed.getD e.on false = true := by
              by_cases hkz : k = ops.size - 1
              · subst hkz
                rw [ho] at hok
                cases hok
                exact hdep e he hbn
              · exact hcl k ok hok (ihm k (by omega) (by omega)) e he hbn
            rw [heq, Array.getD_eq_getD_getElem?, Array.getElem?_eq_getElem (by omega)] at h3
            rw [Array.getD_eq_getD_getElem?, Array.getElem?_eq_getElem (by omega)]
            simpa using h3
        refine wpOp_mono (fun a' w' hq => ?_) (last u w lo hi hb (fun j hj => (hv j hj (all _ j (Nat.le_refl _) (by omega))).1) fun j k hj hk hjk => hdj j k hj hk (all _ j (Nat.le_refl _) (by omega)) (all _ k (Nat.le_refl _) (by omega)) hjk)
        refine wpAny_done ?_ hq fuel
        rw [List.eq_nil_iff_forall_not_mem]
        intro j hj
        obtain ⟨hjn, hju, _⟩ := ready_iff.1 hj
        by_cases hjz : j = ops.size - 1
        · subst hjz
          rw [getD_set_eq (by omega)] at hju
          cases hju
        · rw [getD_set_other (Ne.symm hjz), all _ j (Nat.le_refl _) (by omega)] at hju
          cases hju

/-- THE RULE. W: the world in which the statement begins; V: what is known of what each operation yields, and stays known. -/
theorem wp_region_funnel {id : Nat} {l : List Oper} {a : Act} {w : World} (V : Nat → Value → Nat → Nat → World → Prop) (mk : (Nat → Value) → Act) (u0 : Nat → Value) (ha : a = mk u0)
    (hm : P.follows .mixedOrders = true) (hf : funnelB .any l.toArray = true) (hpos : 0 < l.length)
    (hV : ∀ i v lo hi w w', V i v lo hi w → Below w.heap.size w w' → V i v lo hi w')
    (hput : ∀ i o, l[i]? = some o → ∀ u v, (mk u).put o.dst v = mk (upd u i v))
    (step : ∀ i o, l[i]? = some o → i + 1 < l.length → ∀ u (lo hi : Nat → Nat) wr, Below w.heap.size w wr → (∀ e ∈ o.after, Region.binds .any e = true → V e.on (u e.on) (lo e.on) (hi e.on) wr) →
      (∀ e ∈ o.after, ∀ e' ∈ o.after, Region.binds .any e = true → Region.binds .any e' = true → e.on ≠ e'.on → hi e.on ≤ lo e'.on ∨ hi e'.on ≤ lo e.on) →
      ∀ K : Act → World → Prop, (∀ v w', Below wr.heap.size wr w' → V i v wr.heap.size w'.heap.size w' → K ((mk u).put o.dst v) w') → wpOp P l.toArray Q i K (mk u) wr)
    (last : ∀ u wr (lo hi : Nat → Nat), Below w.heap.size w wr → (∀ i, i + 1 < l.length → V i (u i) (lo i) (hi i) wr) → (∀ i j, i + 1 < l.length → j + 1 < l.length → i ≠ j → hi i ≤ lo j ∨ hi j ≤ lo i) →
      wpOp P l.toArray Q (l.length - 1) (Q .normal) (mk u) wr) :
    (Code.region id l.toArray true).wp P Q a w := by
  subst ha
  have e1 : l.toArray.size = l.length := by simp
  refine wp_region_any hm (wpAny_funnel (W0 := w) V mk hf hV (fun i o ho => hput i o (by simpa using ho)) (fun i o ho hi => step i o (by simpa using ho) (by simpa using hi))
    (fun u wr lo hi hb hv hd => by have := last u wr lo hi hb (fun i hi => hv i (by simpa using hi)) (fun i j hi hj => hd i j (by simpa using hi) (by simpa using hj)); simpa using this) (by omega) _ _ u0 (fun _ => 0) (fun _ => 0) _ (by simp) ((Below.refl _ _).drew) ?_ ?_ ?_ ?_ ?_)
  · unfold toCome
    exact Nat.le_trans List.countP_le_length (by simp)
  · have hz : l.toArray.size - 1 < l.toArray.size := by omega
    rw [Array.getD_eq_getD_getElem?, Array.getElem?_eq_getElem (by simpa using hz)]
    simp
  · intro i o ho hl
    have := (Array.getElem?_eq_some_iff.1 ho).1
    simp at this
    simp [Array.getD_eq_getD_getElem?, this] at hl
  · intro i hi hl
    simp at hi
    have : i < l.length := by omega
    simp [Array.getD_eq_getD_getElem?, this] at hl
  · intro i j _ _ _ _ _
    exact .inl (Nat.le_refl _)

/-- What the operations have yielded, laid into the frame. -/
def putAll (u : Nat → Value) : Nat → List Oper → Act → Act
  | _, [], a => a
  | i, o :: l, a => putAll u (i + 1) l (a.put o.dst (u i))

/-- No two of them write one slot. -/
def apartB : List Oper → Bool
  | [] => true
  | o :: l => (match o.dst with | none => true | some d => l.all fun x => decide (x.dst ≠ some d)) && apartB l

theorem put_twice (a : Act) (d : Option Tmp) (v v' : Value) : (a.put d v).put d v' = a.put d v' := by
  cases d <;> simp [Act.put]

theorem putAll_put (u : Nat → Value) : ∀ (l : List Oper) (i : Nat) (a : Act) (d : Option Tmp) (v : Value), (∀ o ∈ l, ∀ t, o.dst = some t → d ≠ some t) → (putAll u i l a).put d v = putAll u i l (a.put d v)
  | [], _, _, _, _, _ => rfl
  | o :: l, i, a, d, v, h => by
    simp only [putAll]
    rw [putAll_put u l (i + 1) _ d v (fun x hx => h x (List.mem_cons_of_mem _ hx))]
    congr 1
    refine Act.put_comm a (u i) v fun t ht => ?_
    exact h o List.mem_cons_self t ht

theorem putAll_upd (u : Nat → Value) (v : Value) (k : Nat) : ∀ (l : List Oper) (i : Nat) (a : Act), k < i → putAll (upd u k v) i l a = putAll u i l a
  | [], _, _, _ => rfl
  | o :: l, i, a, h => by
    simp only [putAll]
    rw [upd_other _ _ (show i ≠ k by omega), putAll_upd u v k l (i + 1) _ (by omega)]

theorem putAll_at (u : Nat → Value) (v : Value) : ∀ (l : List Oper) (i j : Nat) (a : Act) (o : Oper), apartB l = true → l[j]? = some o → (putAll u i l a).put o.dst v = putAll (upd u (i + j) v) i l a
  | [], _, _, _, _, _, h => by simp at h
  | x :: l, i, 0, a, o, hap, h => by
    simp only [List.getElem?_cons_zero, Option.some.injEq] at h
    subst h
    simp only [apartB, Bool.and_eq_true] at hap
    simp only [putAll, Nat.add_zero]
    rw [upd_same, putAll_upd _ _ _ _ _ _ (by omega), putAll_put, put_twice]
    intro y hy t ht e
    have h1 := hap.1
    rw [e] at h1
    have h2 := List.all_eq_true.1 h1 y hy
    exact (of_decide_eq_true h2) ht
  | x :: l, i, j + 1, a, o, hap, h => by
    simp only [List.getElem?_cons_succ] at h
    simp only [apartB, Bool.and_eq_true] at hap
    simp only [putAll]
    rw [upd_other _ _ (show i ≠ i + (j + 1) by omega), putAll_at u v l (i + 1) j _ o hap.2 h]
    congr 1
    rw [show i + 1 + j = i + (j + 1) by omega]

theorem putAll_self : ∀ (l : List Oper) (i : Nat) (a : Act), (∀ o ∈ l, ∀ t, o.dst = some t → t < a.tmps.size) → apartB l = true → ∃ u, putAll u i l a = a
  | [], _, _, _, _ => ⟨fun _ => undef, rfl⟩
  | o :: l, i, a, h, hap => by
    simp only [apartB, Bool.and_eq_true] at hap
    obtain ⟨u, hu⟩ := putAll_self l (i + 1) a (fun x hx => h x (List.mem_cons_of_mem _ hx)) hap.2
    rcases hd : o.dst with _ | t
    · refine ⟨u, ?_⟩
      simp only [putAll, hd, Act.put]
      exact hu
    · have ht := h o List.mem_cons_self t hd
      refine ⟨upd u i (a.tmps[t]), ?_⟩
      simp only [putAll]
      rw [upd_same, putAll_upd _ _ _ _ _ _ (by omega)]
      have e : a.put o.dst a.tmps[t] = a := by
        rw [hd]
        have e2 : a.tmps.setIfInBounds t a.tmps[t] = a.tmps := by
          apply Array.ext
          · simp
          · intro j h1 h2
            rw [Array.getElem_setIfInBounds]
            split
            · next hj => subst hj; rfl
            · rfl
        show ({ a with tmps := a.tmps.setIfInBounds t a.tmps[t] } : Act) = a
        rw [e2]
      rw [e]
      exact hu

/-- Are all slots there? -/
def slotsB (n : Nat) (l : List Oper) : Bool := l.all fun o => match o.dst with | none => true | some t => decide (t < n)

/-- THE RULE, its frame made by program. -/
theorem wp_region_open {id : Nat} {l : List Oper} {a : Act} {w : World} (V : Nat → Value → Nat → Nat → World → Prop)
    (hm : P.follows .mixedOrders = true) (hf : (funnelB .any l.toArray && apartB l && decide (0 < l.length)) = true) (hs : slotsB a.tmps.size l = true)
    (hV : ∀ i v lo hi w w', V i v lo hi w → Below w.heap.size w w' → V i v lo hi w')
    (step : ∀ i o, l[i]? = some o → i + 1 < l.length → ∀ u (lo hi : Nat → Nat) wr, Below w.heap.size w wr → (∀ e ∈ o.after, Region.binds .any e = true → V e.on (u e.on) (lo e.on) (hi e.on) wr) →
      (∀ e ∈ o.after, ∀ e' ∈ o.after, Region.binds .any e = true → Region.binds .any e' = true → e.on ≠ e'.on → hi e.on ≤ lo e'.on ∨ hi e'.on ≤ lo e.on) →
      ∀ K : Act → World → Prop, (∀ v w', Below wr.heap.size wr w' → V i v wr.heap.size w'.heap.size w' → K ((putAll u 0 l a).put o.dst v) w') → wpOp P l.toArray Q i K (putAll u 0 l a) wr)
    (last : ∀ u wr (lo hi : Nat → Nat), Below w.heap.size w wr → (∀ i, i + 1 < l.length → V i (u i) (lo i) (hi i) wr) → (∀ i j, i + 1 < l.length → j + 1 < l.length → i ≠ j → hi i ≤ lo j ∨ hi j ≤ lo i) →
      wpOp P l.toArray Q (l.length - 1) (Q .normal) (putAll u 0 l a) wr) :
    (Code.region id l.toArray true).wp P Q a w := by
  rw [Bool.and_eq_true, Bool.and_eq_true] at hf
  obtain ⟨⟨h1, h2⟩, h3⟩ := hf
  have hsl : ∀ o ∈ l, ∀ t, o.dst = some t → t < a.tmps.size := fun o ho t ht => by
    have := List.all_eq_true.1 hs o ho
    rw [ht] at this
    exact of_decide_eq_true this
  obtain ⟨u0, hu0⟩ := putAll_self l 0 a hsl h2
  refine wp_region_funnel V (fun u => putAll u 0 l a) u0 hu0.symm hm h1 (of_decide_eq_true h3) hV (fun i o ho u v => ?_) step last
  have := putAll_at u v l 0 i a o h2 ho
  rw [Nat.zero_add] at this
  exact this
end

end Go.Proofs.YtihndbkaoejnnaaGreatDoor

namespace Go.Proofs.YtihndbkaoejnnaaGreatDoor
open Go Go.RowKit

section
variable {P : Program} {ops : Array Oper} {Q : Exit → Act → World → Prop} {md : Region.Mode}

/-- All edges that bind lead back. -/
def backB (md : Region.Mode) (ops : Array Oper) : Bool :=
  (List.range ops.size).all fun i => match ops[i]? with | some o => o.after.all fun e => !Region.binds md e || decide (e.on < i) | none => false

theorem back_lt (h : backB md ops = true) {i : Nat} {o : Oper} (ho : ops[i]? = some o) {e : Edge} (he : e ∈ o.after) (hb : Region.binds md e = true) : e.on < i := by
  have hi := (Array.getElem?_eq_some_iff.1 ho).1
  have h1 := List.all_eq_true.1 h i (List.mem_range.2 hi)
  rw [ho] at h1
  have h2 := Array.all_eq_true_iff_forall_mem.1 h1 e he
  simpa [hb] using h2

/-- What is done, one more. -/
def did (done : Nat → Bool) (i : Nat) : Nat → Bool := fun j => if j = i then true else done j
theorem did_same (done : Nat → Bool) (i : Nat) : did done i i = true := if_pos rfl
theorem did_other (done : Nat → Bool) {i j : Nat} (h : j ≠ i) : did done i j = done j := if_neg h

theorem wpAny_inv (I : (Nat → Bool) → (Nat → Value) → World → Prop) (mk : (Nat → Value) → Act) (hf : backB md ops = true)
    (hput : ∀ i o, ops[i]? = some o → ∀ u v, (mk u).put o.dst v = mk (upd u i v))
    (step : ∀ i o, ops[i]? = some o → ∀ done u w, done i = false → (∀ e ∈ o.after, Region.binds md e = true → done e.on = true) → I done u w →
      ∀ K : Act → World → Prop, (∀ v w', I (did done i) (upd u i v) w' → K ((mk u).put o.dst v) w') → wpOp P ops Q i K (mk u) w)
    (fin : ∀ done u w, (∀ i, i < ops.size → done i = true) → I done u w → Q .normal (mk u) w) :
    ∀ (fuel : Nat) (listed : Array Bool) (done : Nat → Bool) (u : Nat → Value) (w : World), listed.size = ops.size → toCome ops.size listed ≤ fuel → (∀ i, i < ops.size → listed.getD i true = done i) → I done u w → wpAny P md ops Q fuel listed (mk u) w := by
  have none_ready : ∀ (listed : Array Bool), listed.size = ops.size → Region.ready md ops listed = [] → ∀ m i, i < m → i < ops.size → listed.getD i true = true := by
    intro listed hs hr m
    induction m with
    | zero => intro i h; omega
    | succ m ihm =>
      intro i him hi
      rcases hl : listed.getD i true with _ | _
      · exfalso
        have ho : ops[i]? = some ops[i] := Array.getElem?_eq_getElem hi
        have : i ∈ Region.ready md ops listed := ready_iff.2 ⟨hi, hl, _, ho, fun e he hbn => by
          have hlt := back_lt hf ho he hbn
          have h1 := ihm e.on (by omega) (by omega)
          rw [Array.getD_eq_getD_getElem?, Array.getElem?_eq_getElem (by omega)] at h1 ⊢
          simpa using h1⟩
        rw [hr] at this
        cases this
      · rfl
  intro fuel
  induction fuel with
  | zero =>
    intro listed done u w hs hc hd hI
    have hz : ∀ i, i < ops.size → listed.getD i true = true := fun i hi => by
      rcases hl : listed.getD i true with _ | _
      · have := toCome_pos (n := ops.size) (listed := listed) hi hl
        omega
      · rfl
    refine ⟨?_, fin done u w (fun i hi => by rw [← hd i hi]; exact hz i hi) hI⟩
    rw [List.eq_nil_iff_forall_not_mem]
    intro j hj
    obtain ⟨hjn, hju, _⟩ := ready_iff.1 hj
    rw [hz j hjn] at hju
    cases hju
  | succ fuel ih =>
    intro listed done u w hs hc hd hI
    refine ⟨fun hr => fin done u w (fun i hi => by rw [← hd i hi]; exact none_ready listed hs hr ops.size i hi hi) hI, fun i hrd => ?_⟩
    obtain ⟨hin, hun, o, ho, hdep⟩ := ready_iff.1 hrd
    refine step i o ho done u w (by rw [← hd i hin]; exact hun) (fun e he hbn => ?_) hI _ fun v w' hI' => ?_
    · have hlt := back_lt hf ho he hbn
      have h1 := hdep e he hbn
      rw [← hd e.on (by omega)]
      rw [Array.getD_eq_getD_getElem?, Array.getElem?_eq_getElem (by omega)] at h1 ⊢
      simpa using h1
    · rw [hput i o ho]
      refine ih _ (did done i) _ _ (by simpa using hs) ?_ (fun j hj => ?_) hI'
      · have := toCome_set (n := ops.size) hin hs hun
        omega
      · by_cases hji : j = i
        · subst hji
          rw [did_same, getD_set_eq (by omega)]
        · rw [did_other _ hji, getD_set_other (Ne.symm hji)]
          exact hd j hj

/-- THE RULE, its frame made by program. -/
theorem wp_region_inv {id : Nat} {l : List Oper} {a : Act} {w : World} (I : (Nat → Bool) → (Nat → Value) → World → Prop)
    (hm : P.follows .mixedOrders = true) (hf : (backB .any l.toArray && apartB l) = true) (hs : slotsB a.tmps.size l = true)
    (start : ∀ u, I (fun _ => false) u w.drew)
    (step : ∀ i o, l[i]? = some o → ∀ done u wr, done i = false → (∀ e ∈ o.after, Region.binds .any e = true → done e.on = true) → I done u wr →
      ∀ K : Act → World → Prop, (∀ v w', I (did done i) (upd u i v) w' → K ((putAll u 0 l a).put o.dst v) w') → wpOp P l.toArray Q i K (putAll u 0 l a) wr)
    (fin : ∀ done u wr, (∀ i, i < l.length → done i = true) → I done u wr → Q .normal (putAll u 0 l a) wr) :
    (Code.region id l.toArray true).wp P Q a w := by
  rw [Bool.and_eq_true] at hf
  obtain ⟨h1, h2⟩ := hf
  have hsl : ∀ o ∈ l, ∀ t, o.dst = some t → t < a.tmps.size := fun o ho t ht => by
    have := List.all_eq_true.1 hs o ho
    rw [ht] at this
    exact of_decide_eq_true this
  obtain ⟨u0, hu0⟩ := putAll_self l 0 a hsl h2
  refine wp_region_any hm ?_
  have key := wpAny_inv (P := P) (ops := l.toArray) (Q := Q) (md := .any) I (fun u => putAll u 0 l a) h1
    (fun i o ho u v => by
      have := putAll_at u v l 0 i a o h2 (by simpa using ho)
      rw [Nat.zero_add] at this
      exact this)
    (fun i o ho => step i o (by simpa using ho)) (fun done u wr hd hI => fin done u wr (fun i hi => hd i (by simpa using hi)) hI) l.toArray.size (Array.replicate l.toArray.size false) (fun _ => false) u0 w.drew
    (by simp) (by unfold toCome; exact Nat.le_trans List.countP_le_length (by simp))
    (fun i hi => by
      rw [Array.getD_eq_getD_getElem?, Array.getElem?_eq_getElem (by simpa using hi)]
      simp)
    (start u0)
  have hk : putAll u0 0 l a = a := hu0
  rw [hk] at key
  exact key
end

end Go.Proofs.YtihndbkaoejnnaaGreatDoor

namespace Go.Proofs.YtihndbkaoejnnaaGreatDoor
open Go Go.RowKit

section
variable {P : Program} {ops : Array Oper} {Q : Exit → Act → World → Prop} {md : Region.Mode}

/-- All edges lead back; ahead of n each operation has one that waits for it, no later than n; behind n each waits for the one ahead of it. -/
def gateB (md : Region.Mode) (ops : Array Oper) (n : Nat) : Bool :=
  (List.range ops.size).all fun i =>
    (match ops[i]? with | some o => o.after.all fun e => decide (e.on < i) | none => false) &&
    (if i < n then (List.range (n + 1)).any fun k => decide (i < k) && (match ops[k]? with | some o => o.after.any fun e => Region.binds md e && decide (e.on = i) | none => false)
     else decide (i = n) || (match ops[i]? with | some o => o.after.any fun e => Region.binds md e && decide (e.on + 1 = i) | none => false))

theorem gate_back {n : Nat} (h : gateB md ops n = true) {i : Nat} {o : Oper} (ho : ops[i]? = some o) {e : Edge} (he : e ∈ o.after) : e.on < i := by
  have hi := (Array.getElem?_eq_some_iff.1 ho).1
  have h1 := List.all_eq_true.1 h i (List.mem_range.2 hi)
  rw [ho, Bool.and_eq_true] at h1
  have h2 := Array.all_eq_true_iff_forall_mem.1 h1.1 e he
  simpa using h2

theorem gate_next {n : Nat} (h : gateB md ops n = true) {i : Nat} (hi : i < n) (hn : n < ops.size) :
    ∃ k o e, i < k ∧ k ≤ n ∧ ops[k]? = some o ∧ e ∈ o.after ∧ Region.binds md e = true ∧ e.on = i := by
  have h1 := List.all_eq_true.1 h i (List.mem_range.2 (by omega))
  rw [Bool.and_eq_true] at h1
  have h2 := h1.2
  rw [if_pos hi] at h2
  obtain ⟨k, hkn, hk⟩ := List.any_eq_true.1 h2
  have hkn' := List.mem_range.1 hkn
  rw [Bool.and_eq_true] at hk
  have hik := of_decide_eq_true hk.1
  rcases ho : ops[k]? with _ | o
  · rw [ho] at hk; simp at hk
  · rw [ho] at hk
    obtain ⟨e, he, hb⟩ := Array.any_eq_true'.1 hk.2
    rw [Bool.and_eq_true] at hb
    exact ⟨k, o, e, hik, by omega, ho, he, hb.1, of_decide_eq_true hb.2⟩

theorem gate_tail {n : Nat} (h : gateB md ops n = true) {i : Nat} (hi : n < i) {o : Oper} (ho : ops[i]? = some o) : ∃ e ∈ o.after, Region.binds md e = true ∧ e.on + 1 = i := by
  have hs := (Array.getElem?_eq_some_iff.1 ho).1
  have h1 := List.all_eq_true.1 h i (List.mem_range.2 hs)
  rw [Bool.and_eq_true] at h1
  have h2 := h1.2
  rw [if_neg (by omega), Bool.or_eq_true] at h2
  rcases h2 with h2 | h2
  · have := of_decide_eq_true h2
    omega
  · rw [ho] at h2
    obtain ⟨e, he, hb⟩ := Array.any_eq_true'.1 h2
    rw [Bool.and_eq_true] at hb
    exact ⟨e, he, hb.1, of_decide_eq_true hb.2⟩

/-- The tail, in its one order. -/
def tailWp (P : Program) (ops : Array Oper) (Q : Exit → Act → World → Prop) : Nat → Nat → Act → World → Prop
  | 0, k, a, w => wpOp P ops Q k (Q .normal) a w
  | m + 1, k, a, w => wpOp P ops Q k (tailWp P ops Q m (k + 1)) a w

theorem getD_default {listed : Array Bool} {i : Nat} (h : i < listed.size) (d d' : Bool) : listed.getD i d = listed.getD i d' := by
  rw [Array.getD_eq_getD_getElem?, Array.getD_eq_getD_getElem?, Array.getElem?_eq_getElem h]
  rfl

theorem tail_ready {n : Nat} (hf : gateB md ops n = true) {k : Nat} {listed : Array Bool} (hs : listed.size = ops.size) (hk : k < ops.size) (hnk : n ≤ k)
    (h1 : ∀ j, j < k → listed.getD j true = true) (h2 : ∀ j, k ≤ j → j < ops.size → listed.getD j true = false) {i : Nat} : i ∈ Region.ready md ops listed ↔ i = k := by
  rw [ready_iff]
  constructor
  · rintro ⟨hi, hun, o, ho, hdep⟩
    by_cases hik : i < k
    · rw [h1 i hik] at hun
      cases hun
    · by_cases hik' : i = k
      · exact hik'
      · exfalso
        obtain ⟨e, he, hb, heq⟩ := gate_tail hf (by omega) ho
        have := hdep e he hb
        rw [getD_default (by omega) false true, h2 e.on (by omega) (by omega)] at this
        cases this
  · rintro rfl
    refine ⟨hk, h2 i (Nat.le_refl _) hk, ops[i], Array.getElem?_eq_getElem hk, fun e he hb => ?_⟩
    have hlt := gate_back hf (Array.getElem?_eq_getElem hk) he
    rw [getD_default (by omega) false true]
    exact h1 _ hlt

theorem tail_any {n : Nat} (hf : gateB md ops n = true) : ∀ (m k fuel : Nat) (listed : Array Bool) (a : Act) (w : World), listed.size = ops.size → k + m + 1 = ops.size → n ≤ k → m + 1 ≤ fuel →
    (∀ j, j < k → listed.getD j true = true) → (∀ j, k ≤ j → j < ops.size → listed.getD j true = false) → tailWp P ops Q m k a w → wpAny P md ops Q fuel listed a w
  | m, k, 0, listed, a, w, _, _, _, hfu, _, _, _ => by omega
  | m, k, fuel + 1, listed, a, w, hs, hm, hnk, hfu, h1, h2, h => by
    have hrd := fun i => tail_ready (i := i) hf hs (by omega) hnk h1 h2
    refine ⟨fun hr => ?_, fun i hi => ?_⟩
    · have := (hrd k).2 rfl
      rw [hr] at this
      cases this
    · rw [hrd] at hi
      subst hi
      have hset1 : ∀ j, j < i + 1 → (listed.setIfInBounds i true).getD j true = true := fun j hj => by
        by_cases hji : i = j
        · subst hji
          exact getD_set_eq (by omega) _
        · rw [getD_set_other hji]
          exact h1 j (by omega)
      have hset2 : ∀ j, i + 1 ≤ j → j < ops.size → (listed.setIfInBounds i true).getD j true = false := fun j hj hjs => by
        rw [getD_set_other (by omega)]
        exact h2 j (by omega) hjs
      match m, h with
      | 0, h =>
        refine wpOp_mono (fun a' w' hq => wpAny_done ?_ hq fuel) h
        rw [List.eq_nil_iff_forall_not_mem]
        intro j hj
        obtain ⟨hjn, hju, _⟩ := ready_iff.1 hj
        rw [hset1 j (by omega)] at hju
        cases hju
      | m + 1, h =>
        exact wpOp_mono (fun a' w' hq => tail_any hf m (i + 1) fuel _ a' w' (by simpa using hs) (by omega) (by omega) (by omega) hset1 hset2 hq) h

theorem wpAny_gate (W0 : World) (V : Nat → Value → Nat → Nat → World → Prop) (mk : (Nat → Value) → Act) (n m : Nat) (hn : n + m + 1 = ops.size) (hf : gateB md ops n = true)
    (hV : ∀ i v lo hi w w', V i v lo hi w → Below w.heap.size w w' → V i v lo hi w')
    (hput : ∀ i o, ops[i]? = some o → i < n → ∀ u v, (mk u).put o.dst v = mk (upd u i v))
    (step : ∀ i o, ops[i]? = some o → i < n → ∀ u (lo hi : Nat → Nat) w, Below W0.heap.size W0 w → (∀ e ∈ o.after, Region.binds md e = true → V e.on (u e.on) (lo e.on) (hi e.on) w) →
      (∀ e ∈ o.after, ∀ e' ∈ o.after, Region.binds md e = true → Region.binds md e' = true → e.on ≠ e'.on → hi e.on ≤ lo e'.on ∨ hi e'.on ≤ lo e.on) →
      ∀ K : Act → World → Prop, (∀ v w', Below w.heap.size w w' → V i v w.heap.size w'.heap.size w' → K ((mk u).put o.dst v) w') → wpOp P ops Q i K (mk u) w)
    (last : ∀ u w (lo hi : Nat → Nat), Below W0.heap.size W0 w → (∀ i, i < n → V i (u i) (lo i) (hi i) w) → (∀ i j, i < n → j < n → i ≠ j → hi i ≤ lo j ∨ hi j ≤ lo i) →
      tailWp P ops Q m n (mk u) w) :
    ∀ (fuel : Nat) (listed : Array Bool) (u : Nat → Value) (lo hi : Nat → Nat) (w : World), listed.size = ops.size → Below W0.heap.size W0 w → toCome ops.size listed ≤ fuel → (∀ j, n ≤ j → j < ops.size → listed.getD j true = false) →
      (∀ i o, ops[i]? = some o → listed.getD i true = true → ∀ e ∈ o.after, Region.binds md e = true → listed.getD e.on false = true) →
      (∀ i, i < n → listed.getD i true = true → V i (u i) (lo i) (hi i) w ∧ hi i ≤ w.heap.size) →
      (∀ i j, i < n → j < n → listed.getD i true = true → listed.getD j true = true → i ≠ j → hi i ≤ lo j ∨ hi j ≤ lo i) → wpAny P md ops Q fuel listed (mk u) w := by
  intro fuel
  induction fuel with
  | zero =>
    intro listed u lo hi w _ _ hc hz _ _ _
    have := toCome_pos (n := ops.size) (listed := listed) (i := n) (by omega) (hz n (Nat.le_refl _) (by omega))
    omega
  | succ fuel ih =>
    intro listed u lo hi w hs hb hc hz hcl hv hdj
    by_cases hall : ∀ j, j < n → listed.getD j true = true
    · -- all that lies ahead is done
      have hle : m + 1 ≤ fuel + 1 := by
        refine Nat.le_trans ?_ hc
        unfold toCome
        have hsub : ((List.range (m + 1)).map (fun j => n + j)).Sublist (List.range ops.size) := by
          have e : List.range ops.size = List.range n ++ (List.range (m + 1)).map (fun j => n + j) := by
            rw [← hn, show n + m + 1 = n + (m + 1) by omega]
            exact List.range_add
          rw [e]
          exact List.sublist_append_right _ _
        have h1 := hsub.countP_le (p := fun i => !listed.getD i true)
        have h2 : ((List.range (m + 1)).map (fun j => n + j)).countP (fun i => !listed.getD i true) = m + 1 := by
          have := List.countP_eq_length (p := fun i => !listed.getD i true) (l := (List.range (m + 1)).map (fun j => n + j))
          rw [this.2 ?_]
          · simp
          · intro x hx
            obtain ⟨j, hj, rfl⟩ := List.mem_map.1 hx
            have hj' := List.mem_range.1 hj
            rw [hz (n + j) (by omega) (by omega)]
            rfl
        omega
      exact tail_any hf m n (fuel + 1) listed (mk u) w hs hn (Nat.le_refl _) hle hall hz
        (last u w lo hi hb (fun j hj => (hv j hj (hall j hj)).1) fun j k hj hk hjk => hdj j k hj hk (hall j hj) (hall k hk) hjk)
    · have hsome : ∀ i, i < ops.size → ∃ o, ops[i]? = some o := fun i hi => ⟨ops[i], Array.getElem?_eq_getElem hi⟩
      have hgn : ∀ i, listed.getD i true = true → i < ops.size → i < n := fun i hl hi => by
        by_cases h : i < n
        · exact h
        · rw [hz i (by omega) hi] at hl
          cases hl
      refine ⟨fun hr => ?_, fun i hrd => ?_⟩
      · exfalso
        have all : ∀ m i, i < m → i < ops.size → listed.getD i true = true := by
          intro m
          induction m with
          | zero => intro i h; omega
          | succ m ihm =>
            intro i him hi
            rcases hl : listed.getD i true with _ | _
            · exfalso
              obtain ⟨o, ho⟩ := hsome i hi
              have : i ∈ Region.ready md ops listed := ready_iff.2 ⟨hi, hl, o, ho, fun e he _ => by
                have hlt := gate_back hf ho he
                rw [getD_default (by omega) false true]
                exact ihm e.on (by omega) (by omega)⟩
              rw [hr] at this
              cases this
            · rfl
        exact hall fun j hj => all ops.size j (by omega) (by omega)
      · obtain ⟨hin, hun, o, ho, hdep⟩ := ready_iff.1 hrd
        have hlast : i < n := by
          by_cases h : i < n
          · exact h
          · exfalso
            by_cases hie : i = n
            · subst hie
              refine hall fun j hj => ?_
              have all : ∀ q j, i - j ≤ q → j < i → listed.getD j true = true := by
                intro q
                induction q with
                | zero => intro j h1 h2; omega
                | succ q ihq =>
                  intro j h1 h2
                  obtain ⟨k, ok, e, hjk, hkn, hok, he, hbn, heq⟩ := gate_next hf h2 hin
                  have h3 : listed.getD e.on false = true := by
                    by_cases hkz : k = i
                    · subst hkz
                      rw [ho] at hok
                      cases hok
                      exact hdep e he hbn
                    · exact hcl k ok hok (ihq k (by omega) (by omega)) e he hbn
                  rw [heq] at h3
                  rw [getD_default (by omega) true false]
                  exact h3
              exact all _ j (Nat.le_refl _) hj
            · obtain ⟨e, he, hbn, heq⟩ := gate_tail hf (by omega) ho
              have := hdep e he hbn
              rw [getD_default (by omega) false true, hz e.on (by omega) (by omega)] at this
              cases this
        have hlisted : ∀ e ∈ o.after, Region.binds md e = true → e.on < n ∧ listed.getD e.on true = true := fun e he hbn => by
          have hlt := gate_back hf ho he
          have h1 := hdep e he hbn
          rw [getD_default (by omega) false true] at h1
          exact ⟨by omega, h1⟩
        refine step i o ho hlast u lo hi w hb (fun e he hbn => (hv e.on (hlisted e he hbn).1 (hlisted e he hbn).2).1)
          (fun e he e' he' hbn hbn' hne => hdj e.on e'.on (hlisted e he hbn).1 (hlisted e' he' hbn').1 (hlisted e he hbn).2 (hlisted e' he' hbn').2 hne) _ fun v w' hbw hvi => ?_
        rw [hput i o ho hlast]
        have hb' : Below W0.heap.size W0 w' := hb.trans (hbw.mono hb.size)
        refine ih _ _ (fun j => if j = i then w.heap.size else lo j) (fun j => if j = i then w'.heap.size else hi j) _ (by simpa using hs) hb' ?_ ?_ ?_ ?_ ?_
        · have := toCome_set (n := ops.size) hin hs hun
          omega
        · intro j hj hjs
          rw [getD_set_other (by omega)]
          exact hz j hj hjs
        · intro j oj hoj hlj e he hbn
          by_cases hij : i = e.on
          · rw [← hij, getD_set_eq (by omega)]
          · rw [getD_set_other hij]
            by_cases hji : i = j
            · subst hji
              rw [ho] at hoj
              cases hoj
              exact hdep e he hbn
            · rw [getD_set_other hji] at hlj
              exact hcl j oj hoj hlj e he hbn
        · intro j hj hlj
          by_cases hji : j = i
          · subst hji
            rw [upd_same, if_pos rfl, if_pos rfl]
            exact ⟨hvi, Nat.le_refl _⟩
          · rw [upd_other _ _ hji, if_neg hji, if_neg hji]
            rw [getD_set_other (Ne.symm hji)] at hlj
            have := hv j hj hlj
            exact ⟨hV _ _ _ _ _ _ this.1 hbw, Nat.le_trans this.2 hbw.size⟩
        · intro j k hj hk hlj hlk hjk
          by_cases hji : j = i
          · subst hji
            rw [getD_set_other hjk] at hlk
            rw [if_pos rfl, if_pos rfl, if_neg (Ne.symm hjk), if_neg (Ne.symm hjk)]
            exact .inr (hv k hk hlk).2
          · rw [getD_set_other (Ne.symm hji)] at hlj
            by_cases hki : k = i
            · subst hki
              rw [if_neg hji, if_neg hji, if_pos rfl, if_pos rfl]
              exact .inl (hv j hj hlj).2
            · rw [getD_set_other (Ne.symm hki)] at hlk
              rw [if_neg hji, if_neg hji, if_neg hki, if_neg hki]
              exact hdj j k hj hk hlj hlk hjk


/-- THE RULE, its frame made by program: the first n operations in whatever order, then the tail. -/
theorem wp_region_gate {id : Nat} {l : List Oper} {a : Act} {w : World} (n m : Nat) (V : Nat → Value → Nat → Nat → World → Prop)
    (hm : P.follows .mixedOrders = true) (hf : (gateB .any l.toArray n && apartB (l.take n) && decide (n + m + 1 = l.length)) = true) (hs : slotsB a.tmps.size (l.take n) = true)
    (hV : ∀ i v lo hi w w', V i v lo hi w → Below w.heap.size w w' → V i v lo hi w')
    (step : ∀ i o, l[i]? = some o → i < n → ∀ u (lo hi : Nat → Nat) wr, Below w.heap.size w wr → (∀ e ∈ o.after, Region.binds .any e = true → V e.on (u e.on) (lo e.on) (hi e.on) wr) →
      (∀ e ∈ o.after, ∀ e' ∈ o.after, Region.binds .any e = true → Region.binds .any e' = true → e.on ≠ e'.on → hi e.on ≤ lo e'.on ∨ hi e'.on ≤ lo e.on) →
      ∀ K : Act → World → Prop, (∀ v w', Below wr.heap.size wr w' → V i v wr.heap.size w'.heap.size w' → K ((putAll u 0 (l.take n) a).put o.dst v) w') → wpOp P l.toArray Q i K (putAll u 0 (l.take n) a) wr)
    (last : ∀ u wr (lo hi : Nat → Nat), Below w.heap.size w wr → (∀ i, i < n → V i (u i) (lo i) (hi i) wr) → (∀ i j, i < n → j < n → i ≠ j → hi i ≤ lo j ∨ hi j ≤ lo i) →
      tailWp P l.toArray Q m n (putAll u 0 (l.take n) a) wr) :
    (Code.region id l.toArray true).wp P Q a w := by
  rw [Bool.and_eq_true, Bool.and_eq_true] at hf
  obtain ⟨⟨h1, h2⟩, h3⟩ := hf
  have h3 := of_decide_eq_true h3
  have hsl : ∀ o ∈ l.take n, ∀ t, o.dst = some t → t < a.tmps.size := fun o ho t ht => by
    have := List.all_eq_true.1 hs o ho
    rw [ht] at this
    exact of_decide_eq_true this
  obtain ⟨u0, hu0⟩ := putAll_self (l.take n) 0 a hsl h2
  have e1 : l.toArray.size = l.length := by simp
  refine wp_region_any hm ?_
  have key := wpAny_gate (P := P) (ops := l.toArray) (Q := Q) (md := .any) w V (fun u => putAll u 0 (l.take n) a) n m (by rw [e1]; exact h3) h1 hV
    (fun i o ho hi u v => by
      have ho' : (l.take n)[i]? = some o := by rw [List.getElem?_take_of_lt hi]; simpa using ho
      have := putAll_at u v (l.take n) 0 i a o h2 ho'
      rw [Nat.zero_add] at this
      exact this)
    (fun i o ho hi => step i o (by simpa using ho) hi) last l.toArray.size (Array.replicate l.toArray.size false) u0 (fun _ => 0) (fun _ => 0) { w with drawn := w.drawn + 1 }
    (by simp) ((Below.refl _ _).drew) (by unfold toCome; exact Nat.le_trans List.countP_le_length (by simp))
    (fun j _ hj => by
      rw [Array.getD_eq_getD_getElem?, Array.getElem?_eq_getElem (by simpa using hj)]
      simp)
    (fun i o ho hl => by
      have := (Array.getElem?_eq_some_iff.1 ho).1
      simp at this
      simp [Array.getD_eq_getD_getElem?, this] at hl)
    (fun i hi hl => by
      have : i < l.length := by omega
      simp [Array.getD_eq_getD_getElem?, this] at hl)
    (fun i j _ _ _ _ _ => .inl (Nat.le_refl _))
  have hk : putAll u0 0 (l.take n) a = a := hu0
  rw [hk] at key
  exact key
end

end Go.Proofs.YtihndbkaoejnnaaGreatDoor
