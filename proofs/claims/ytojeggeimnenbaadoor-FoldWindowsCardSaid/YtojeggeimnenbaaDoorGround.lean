/- Texts of the ground, one behind the other. Conditions: none but theirs. -/
import Derived.Orders
import Derived.Below
import Derived.RegionTactic
import Derived.WalkKit
import Derived.WalkSpells
import Derived.WalkLawsBesides
import Derived.Lib.Hide
import Derived.Handy
import Derived.Test.YtojeggeimnenbaaDoorProg
import Derived.Maps.AppendAt
import Derived.Laws.AppendOwnNone
import Derived.Deep.AppendLies
import Derived.KernelRfl
import Derived.Deep.QuietTactic
import Derived.BigQuiet
import Derived.Deep.RegionHeld3
import Derived.Deep.RegionLaw
import Derived.RangeFuncNested
import Derived.RangeFuncBound
import Derived.RangeFuncCalls
import Derived.RangeFuncLeaves
import Derived.Shelf.Abstract
set_option linter.unusedSimpArgs false
set_option linter.unusedVariables false
namespace Go.Proofs.YtojeggeimnenbaaDoor
open Go Go.RowKit

/-- All edges lead back, and each operation but the last has one that waits for it. -/
def funnelB (md : Region.Mode) (ops : Array Oper) : Bool :=
  (List.range ops.size).all fun i =>
    (match ops[i]? with | some o => o.after.all fun e => decide (e.on < i) | none => false) &&
    (decide (i + 1 = ops.size) || (List.range ops.size).any fun k => decide (i < k) && (match ops[k]? with | some o => o.after.any fun e => Region.binds md e && decide (e.on = i) | none => false))

theorem funnel_back {md : Region.Mode} {ops : Array Oper} (h : funnelB md ops = true) {i : Nat} {o : Oper} (ho : ops[i]? = some o) {e : Edge} (he : e ∈ o.after) : e.on < i := by
  have hi := (Array.getElem?_eq_some_iff.1 ho).1
  have h1 := List.all_eq_true.1 h i (List.mem_range.2 hi)
  rw [ho, Bool.and_eq_true] at h1
  have h2 := Array.all_eq_true_iff_forall_mem.1 h1.1 e he
  simpa using h2

theorem funnel_next {md : Region.Mode} {ops : Array Oper} (h : funnelB md ops = true) {i : Nat} (hi : i + 1 < ops.size) :
    ∃ k o e, i < k ∧ ops[k]? = some o ∧ e ∈ o.after ∧ Region.binds md e = true ∧ e.on = i := by
  have h1 := List.all_eq_true.1 h i (List.mem_range.2 (by omega))
  rw [Bool.and_eq_true] at h1
  have h2 := h1.2
  rw [Bool.or_eq_true] at h2
  rcases h2 with h2 | h2
  · have := of_decide_eq_true h2
    omega
  · obtain ⟨k, _, hk⟩ := List.any_eq_true.1 h2
    rw [Bool.and_eq_true] at hk
    have hik := of_decide_eq_true hk.1
    rcases ho : ops[k]? with _ | o
    · rw [ho] at hk; simp at hk
    · rw [ho] at hk
      obtain ⟨e, he, hb⟩ := Array.any_eq_true'.1 hk.2
      rw [Bool.and_eq_true] at hb
      exact ⟨k, o, e, hik, ho, he, hb.1, of_decide_eq_true hb.2⟩

theorem ready_iff {md : Region.Mode} {ops : Array Oper} {listed : Array Bool} {i : Nat} : i ∈ Region.ready md ops listed ↔
    i < ops.size ∧ listed.getD i true = false ∧ ∃ o, ops[i]? = some o ∧ ∀ e ∈ o.after, Region.binds md e = true → listed.getD e.on false = true := by
  unfold Region.ready
  rw [List.mem_filter, List.mem_range]
  constructor
  · rintro ⟨hi, h⟩
    rw [Bool.and_eq_true] at h
    rcases ho : ops[i]? with _ | o
    · rw [ho] at h; simp at h
    · rw [ho] at h
      refine ⟨hi, by simpa using h.1, o, rfl, fun e he hb => ?_⟩
      have h2 := h.2
      simp only [Option.map_some, Option.getD_some] at h2
      have h3 := Array.all_eq_true_iff_forall_mem.1 h2 e he
      simpa [hb] using h3
  · rintro ⟨hi, h, o, ho, hall⟩
    refine ⟨hi, ?_⟩
    rw [ho, Bool.and_eq_true]
    refine ⟨by simpa using h, ?_⟩
    simp only [Option.map_some, Option.getD_some]
    rw [Array.all_eq_true_iff_forall_mem]
    intro e he
    by_cases hb : Region.binds md e = true
    · simp [hall e he hb]
    · simp [hb]

/-- How many are still to come. -/
def toCome (n : Nat) (listed : Array Bool) : Nat := (List.range n).countP fun i => !listed.getD i true

theorem getD_set_eq {listed : Array Bool} {i : Nat} (hi : i < listed.size) (d : Bool) : (listed.setIfInBounds i true).getD i d = true := by
  rw [Array.getD_eq_getD_getElem?, Array.getElem?_setIfInBounds_self]
  simp [hi]
theorem getD_set_other {listed : Array Bool} {i j : Nat} (h : i ≠ j) (d : Bool) : (listed.setIfInBounds i true).getD j d = listed.getD j d := by
  rw [Array.getD_eq_getD_getElem?, Array.getElem?_setIfInBounds_ne h, Array.getD_eq_getD_getElem?]

theorem countP_one_less : ∀ (l : List Nat) (p q : Nat → Bool) (i : Nat), l.Nodup → i ∈ l → p i = true → q i = false → (∀ j ∈ l, j ≠ i → p j = q j) → l.countP p = l.countP q + 1
  | [], _, _, _, _, h, _, _, _ => by cases h
  | x :: l, p, q, i, hn, hm, hp, hq, hs => by
    rw [List.nodup_cons] at hn
    rcases List.mem_cons.1 hm with rfl | hm
    · have : l.countP p = l.countP q := List.countP_congr (fun j hj => by rw [hs j (List.mem_cons_of_mem _ hj) (fun e => hn.1 (e ▸ hj))])
      rw [List.countP_cons_of_pos hp, List.countP_cons_of_neg (by simp [hq]), this]
    · have hne : x ≠ i := fun e => hn.1 (e ▸ hm)
      have ih := countP_one_less l p q i hn.2 hm hp hq (fun j hj => hs j (List.mem_cons_of_mem _ hj))
      have hx := hs x List.mem_cons_self hne
      rw [List.countP_cons, List.countP_cons, ih, hx]
      omega

theorem toCome_set {n : Nat} {listed : Array Bool} {i : Nat} (hi : i < n) (hs : listed.size = n) (h : listed.getD i true = false) : toCome n listed = toCome n (listed.setIfInBounds i true) + 1 := by
  refine countP_one_less _ _ _ i List.nodup_range (List.mem_range.2 hi) (by simp [h]) (by rw [getD_set_eq (by omega)]; rfl) fun j _ hj => ?_
  rw [getD_set_other (Ne.symm hj)]

theorem toCome_pos {n : Nat} {listed : Array Bool} {i : Nat} (hi : i < n) (h : listed.getD i true = false) : 0 < toCome n listed :=
  List.countP_pos_iff.2 ⟨i, List.mem_range.2 hi, by simp [h]⟩

section
variable {P : Program} {ops : Array Oper} {Q : Exit → Act → World → Prop} {md : Region.Mode}

/-- The frame with the values that the operations have yielded. -/
def upd (u : Nat → Value) (i : Nat) (v : Value) : Nat → Value := fun j => if j = i then v else u j
theorem upd_same (u : Nat → Value) (i : Nat) (v : Value) : upd u i v i = v := if_pos rfl
theorem upd_other (u : Nat → Value) {i j : Nat} (v : Value) (h : j ≠ i) : upd u i v j = u j := if_neg h

theorem wpAny_funnel (W0 : World) (V : Nat → Value → Nat → Nat → World → Prop) (mk : (Nat → Value) → Act) (hf : funnelB md ops = true)
    (hV : ∀ i v lo hi w w', V i v lo hi w → Below w.heap.size w w' → V i v lo hi w')
    (hput : ∀ i o, ops[i]? = some o → ∀ u v, (mk u).put o.dst v = mk (upd u i v))
    (step : ∀ i o, ops[i]? = some o → i + 1 < ops.size → ∀ u (lo hi : Nat → Nat) w, Below W0.heap.size W0 w → (∀ e ∈ o.after, Region.binds md e = true → V e.on (u e.on) (lo e.on) (hi e.on) w) →
      (∀ e ∈ o.after, ∀ e' ∈ o.after, Region.binds md e = true → Region.binds md e' = true → e.on ≠ e'.on → hi e.on ≤ lo e'.on ∨ hi e'.on ≤ lo e.on) →
      ∀ K : Act → World → Prop, (∀ v w', Below w.heap.size w w' → V i v w.heap.size w'.heap.size w' → K ((mk u).put o.dst v) w') → wpOp P ops Q i K (mk u) w)
    (last : ∀ u w (lo hi : Nat → Nat), Below W0.heap.size W0 w → (∀ i, i + 1 < ops.size → V i (u i) (lo i) (hi i) w) → (∀ i j, i + 1 < ops.size → j + 1 < ops.size → i ≠ j → hi i ≤ lo j ∨ hi j ≤ lo i) →
      wpOp P ops Q (ops.size - 1) (Q .normal) (mk u) w)
    (hpos : 0 < ops.size) :
    ∀ (fuel : Nat) (listed : Array Bool) (u : Nat → Value) (lo hi : Nat → Nat) (w : World), listed.size = ops.size → Below W0.heap.size W0 w → toCome ops.size listed ≤ fuel → listed.getD (ops.size - 1) true = false →
      (∀ i o, ops[i]? = some o → listed.getD i true = true → ∀ e ∈ o.after, Region.binds md e = true → listed.getD e.on false = true) →
      (∀ i, i + 1 < ops.size → listed.getD i true = true → V i (u i) (lo i) (hi i) w ∧ hi i ≤ w.heap.size) →
      (∀ i j, i + 1 < ops.size → j + 1 < ops.size → listed.getD i true = true → listed.getD j true = true → i ≠ j → hi i ≤ lo j ∨ hi j ≤ lo i) → wpAny P md ops Q fuel listed (mk u) w := by
  intro fuel
  induction fuel with
  | zero =>
    intro listed u lo hi w _ _ hc hz _ _ _
    have := toCome_pos (n := ops.size) (listed := listed) (i := ops.size - 1) (by omega) hz
    omega
  | succ fuel ih =>
    intro listed u lo hi w hs hb hc hz hcl hv hdj
    have hsome : ∀ i, i < ops.size → ∃ o, ops[i]? = some o := fun i hi => ⟨ops[i], Array.getElem?_eq_getElem hi⟩
    refine ⟨fun hr => ?_, fun i hrd => ?_⟩
    · -- none is ready: then all are listed
      exfalso
      have all : ∀ m i, i < m → i < ops.size → listed.getD i true = true := by
        intro m
        induction m with
        | zero => intro i h; omega
        | succ m ihm =>
          intro i him hi
          rcases hl : listed.getD i true with _ | _
          · exfalso
            obtain ⟨o, ho⟩ := hsome i hi
            have : i ∈ Region.ready md ops listed := ready_iff.2 ⟨hi, hl, o, ho, fun e he _ => by
              have hlt := funnel_back hf ho he
              have h1 := ihm e.on (by omega) (by omega)
              rw [Array.getD_eq_getD_getElem?, Array.getElem?_eq_getElem (by omega)] at h1 ⊢
              simpa using h1⟩
            rw [hr] at this
            cases this
          · rfl
      have := all ops.size (ops.size - 1) (by omega) (by omega)
      rw [hz] at this
      cases this
    · obtain ⟨hin, hun, o, ho, hdep⟩ := ready_iff.1 hrd
      by_cases hlast : i + 1 < ops.size
      · -- one on the way
        have hlisted : ∀ e ∈ o.after, Region.binds md e = true → e.on + 1 < ops.size ∧ listed.getD e.on true = true := fun e he hbn => by
          have hlt := funnel_back hf ho he
          have h1 := hdep e he hbn
          refine ⟨by omega, ?_⟩
          rw [Array.getD_eq_getD_getElem?, Array.getElem?_eq_getElem (by omega)] at h1 ⊢
          simpa using h1
        refine step i o ho hlast u lo hi w hb (fun e he hbn => (hv e.on (hlisted e he hbn).1 (hlisted e he hbn).2).1)
          (fun e he e' he' hbn hbn' hne => hdj e.on e'.on (hlisted e he hbn).1 (hlisted e' he' hbn').1 (hlisted e he hbn).2 (hlisted e' he' hbn').2 hne) _ fun v w' hbw hvi => ?_
        · rw [hput i o ho]
          have hb' : Below W0.heap.size W0 w' := hb.trans (hbw.mono hb.size)
          refine ih _ _ (fun j => if j = i then w.heap.size else lo j) (fun j => if j = i then w'.heap.size else hi j) _ (by simpa using hs) hb' ?_ ?_ ?_ ?_ ?_
          · have := toCome_set (n := ops.size) hin hs hun
            omega
          · rw [getD_set_other (by omega)]; exact hz
          · intro j oj hoj hlj e he hbn
            by_cases hij : i = e.on
            · rw [← hij, getD_set_eq (by omega)]
            · rw [getD_set_other hij]
              by_cases hji : i = j
              · subst hji
                rw [ho] at hoj
                cases hoj
                exact hdep e he hbn
              · rw [getD_set_other hji] at hlj
                exact hcl j oj hoj hlj e he hbn
          · intro j hj hlj
            by_cases hji : j = i
            · subst hji
              rw [upd_same, if_pos rfl, if_pos rfl]
              exact ⟨hvi, Nat.le_refl _⟩
            · rw [upd_other _ _ hji, if_neg hji, if_neg hji]
              rw [getD_set_other (Ne.symm hji)] at hlj
              have := hv j hj hlj
              exact ⟨hV _ _ _ _ _ _ this.1 hbw, Nat.le_trans this.2 hbw.size⟩
          · intro j k hj hk hlj hlk hjk
            by_cases hji : j = i
            · subst hji
              rw [getD_set_other hjk] at hlk
              rw [if_pos rfl, if_pos rfl, if_neg (Ne.symm hjk), if_neg (Ne.symm hjk)]
              exact .inr (hv k hk hlk).2
            · rw [getD_set_other (Ne.symm hji)] at hlj
              by_cases hki : k = i
              · subst hki
                rw [if_neg hji, if_neg hji, if_pos rfl, if_pos rfl]
                exact .inl (hv j hj hlj).2
              · rw [getD_set_other (Ne.symm hki)] at hlk
                rw [if_neg hji, if_neg hji, if_neg hki, if_neg hki]
                exact hdj j k hj hk hlj hlk hjk
      · -- the last one: all others are listed
        have hiz : i = ops.size - 1 := by omega
        subst hiz
        have all : ∀ m j, ops.size - 1 - j ≤ m → j < ops.size - 1 → listed.getD j true = true := by
          intro m
          induction m with
          | zero => intro j h1 h2; omega
          | succ m ihm =>
            intro j h1 h2
            obtain ⟨k, ok, e, hjk, hok, he, hbn, heq⟩ := funnel_next hf (i := j) (by omega)
            have hk := (Array.getElem?_eq_some_iff.1 hok).1
            have h3 : listed.getD e.on false = true := by
              by_cases hkz : k = ops.size - 1
              · subst hkz
                rw [ho] at hok
                cases hok
                exact hdep e he hbn
              · exact hcl k ok hok (ihm k (by omega) (by omega)) e he hbn
            rw [heq, Array.getD_eq_getD_getElem?, Array.getElem?_eq_getElem (by omega)] at h3
            rw [Array.getD_eq_getD_getElem?, Array.getElem?_eq_getElem (by omega)]
            simpa using h3
        refine wpOp_mono (fun a' w' hq => ?_) (last u w lo hi hb (fun j hj => (hv j hj (all _ j (Nat.le_refl _) (by omega))).1) fun j k hj hk hjk => hdj j k hj hk (all _ j (Nat.le_refl _) (by omega)) (all _ k (Nat.le_refl _) (by omega)) hjk)
        refine wpAny_done ?_ hq fuel
        rw [List.eq_nil_iff_forall_not_mem]
        intro j hj
        obtain ⟨hjn, hju, _⟩ := ready_iff.1 hj
        by_cases hjz : j = ops.size - 1
        · subst hjz
          rw [getD_set_eq (by omega)] at hju
          cases hju
        · rw [getD_set_other (Ne.symm hjz), all _ j (Nat.le_refl _) (by omega)] at hju
          cases hju

/-- THE RULE. W: the world in which the statement begins; V: what is known of what each operation yields, and stays known. -/
theorem wp_region_funnel {id : Nat} {l : List Oper} {a : Act} {w : World} (V : Nat → Value → Nat → Nat → World → Prop) (mk : (Nat → Value) → Act) (u0 : Nat → Value) (ha : a = mk u0)
    (hm : P.follows .mixedOrders = true) (hf : funnelB .any l.toArray = true) (hpos : 0 < l.length)
    (hV : ∀ i v lo hi w w', V i v lo hi w → Below w.heap.size w w' → V i v lo hi w')
    (hput : ∀ i o, l[i]? = some o → ∀ u v, (mk u).put o.dst v = mk (upd u i v))
    (step : ∀ i o, l[i]? = some o → i + 1 < l.length → ∀ u (lo hi : Nat → Nat) wr, Below w.heap.size w wr → (∀ e ∈ o.after, Region.binds .any e = true → V e.on (u e.on) (lo e.on) (hi e.on) wr) →
      (∀ e ∈ o.after, ∀ e' ∈ o.after, Region.binds .any e = true → Region.binds .any e' = true → e.on ≠ e'.on → hi e.on ≤ lo e'.on ∨ hi e'.on ≤ lo e.on) →
      ∀ K : Act → World → Prop, (∀ v w', Below wr.heap.size wr w' → V i v wr.heap.size w'.heap.size w' → K ((mk u).put o.dst v) w') → wpOp P l.toArray Q i K (mk u) wr)
    (last : ∀ u wr (lo hi : Nat → Nat), Below w.heap.size w wr → (∀ i, i + 1 < l.length → V i (u i) (lo i) (hi i) wr) → (∀ i j, i + 1 < l.length → j + 1 < l.length → i ≠ j → hi i ≤ lo j ∨ hi j ≤ lo i) →
      wpOp P l.toArray Q (l.length - 1) (Q .normal) (mk u) wr) :
    (Code.region id l.toArray true).wp P Q a w := by
  subst ha
  have e1 : l.toArray.size = l.length := by simp
  refine wp_region_any hm (wpAny_funnel (W0 := w) V mk hf hV (fun i o ho => hput i o (by simpa using ho)) (fun i o ho hi => step i o (by simpa using ho) (by simpa using hi))
    (fun u wr lo hi hb hv hd => by have := last u wr lo hi hb (fun i hi => hv i (by simpa using hi)) (fun i j hi hj => hd i j (by simpa using hi) (by simpa using hj)); simpa using this) (by omega) _ _ u0 (fun _ => 0) (fun _ => 0) _ (by simp) ((Below.refl _ _).drew) ?_ ?_ ?_ ?_ ?_)
  · unfold toCome
    exact Nat.le_trans List.countP_le_length (by simp)
  · have hz : l.toArray.size - 1 < l.toArray.size := by omega
    rw [Array.getD_eq_getD_getElem?, Array.getElem?_eq_getElem (by simpa using hz)]
    simp
  · intro i o ho hl
    have := (Array.getElem?_eq_some_iff.1 ho).1
    simp at this
    simp [Array.getD_eq_getD_getElem?, this] at hl
  · intro i hi hl
    simp at hi
    have : i < l.length := by omega
    simp [Array.getD_eq_getD_getElem?, this] at hl
  · intro i j _ _ _ _ _
    exact .inl (Nat.le_refl _)

/-- What the operations have yielded, laid into the frame. -/
def putAll (u : Nat → Value) : Nat → List Oper → Act → Act
  | _, [], a => a
  | i, o :: l, a => putAll u (i + 1) l (a.put o.dst (u i))

/-- No two of them write one slot. -/
def apartB : List Oper → Bool
  | [] => true
  | o :: l => (match o.dst with | none => true | some d => l.all fun x => decide (x.dst ≠ some d)) && apartB l

theorem put_twice (a : Act) (d : Option Tmp) (v v' : Value) : (a.put d v).put d v' = a.put d v' := by
  cases d <;> simp [Act.put]

theorem putAll_put (u : Nat → Value) : ∀ (l : List Oper) (i : Nat) (a : Act) (d : Option Tmp) (v : Value), (∀ o ∈ l, ∀ t, o.dst = some t → d ≠ some t) → (putAll u i l a).put d v = putAll u i l (a.put d v)
  | [], _, _, _, _, _ => rfl
  | o :: l, i, a, d, v, h => by
    simp only [putAll]
    rw [putAll_put u l (i + 1) _ d v (fun x hx => h x (List.mem_cons_of_mem _ hx))]
    congr 1
    refine Act.put_comm a (u i) v fun t ht => ?_
    exact h o List.mem_cons_self t ht

theorem putAll_upd (u : Nat → Value) (v : Value) (k : Nat) : ∀ (l : List Oper) (i : Nat) (a : Act), k < i → putAll (upd u k v) i l a = putAll u i l a
  | [], _, _, _ => rfl
  | o :: l, i, a, h => by
    simp only [putAll]
    rw [upd_other _ _ (show i ≠ k by omega), putAll_upd u v k l (i + 1) _ (by omega)]

theorem putAll_at (u : Nat → Value) (v : Value) : ∀ (l : List Oper) (i j : Nat) (a : Act) (o : Oper), apartB l = true → l[j]? = some o → (putAll u i l a).put o.dst v = putAll (upd u (i + j) v) i l a
  | [], _, _, _, _, _, h => by simp at h
  | x :: l, i, 0, a, o, hap, h => by
    simp only [List.getElem?_cons_zero, Option.some.injEq] at h
    subst h
    simp only [apartB, Bool.and_eq_true] at hap
    simp only [putAll, Nat.add_zero]
    rw [upd_same, putAll_upd _ _ _ _ _ _ (by omega), putAll_put, put_twice]
    intro y hy t ht e
    have h1 := hap.1
    rw [e] at h1
    have h2 := List.all_eq_true.1 h1 y hy
    exact (of_decide_eq_true h2) ht
  | x :: l, i, j + 1, a, o, hap, h => by
    simp only [List.getElem?_cons_succ] at h
    simp only [apartB, Bool.and_eq_true] at hap
    simp only [putAll]
    rw [upd_other _ _ (show i ≠ i + (j + 1) by omega), putAll_at u v l (i + 1) j _ o hap.2 h]
    congr 1
    rw [show i + 1 + j = i + (j + 1) by omega]

theorem putAll_self : ∀ (l : List Oper) (i : Nat) (a : Act), (∀ o ∈ l, ∀ t, o.dst = some t → t < a.tmps.size) → apartB l = true → ∃ u, putAll u i l a = a
  | [], _, _, _, _ => ⟨fun _ => undef, rfl⟩
  | o :: l, i, a, h, hap => by
    simp only [apartB, Bool.and_eq_true] at hap
    obtain ⟨u, hu⟩ := putAll_self l (i + 1) a (fun x hx => h x (List.mem_cons_of_mem _ hx)) hap.2
    rcases hd : o.dst with _ | t
    · refine ⟨u, ?_⟩
      simp only [putAll, hd, Act.put]
      exact hu
    · have ht := h o List.mem_cons_self t hd
      refine ⟨upd u i (a.tmps[t]), ?_⟩
      simp only [putAll]
      rw [upd_same, putAll_upd _ _ _ _ _ _ (by omega)]
      have e : a.put o.dst a.tmps[t] = a := by
        rw [hd]
        have e2 : a.tmps.setIfInBounds t a.tmps[t] = a.tmps := by
          apply Array.ext
          · simp
          · intro j h1 h2
            rw [Array.getElem_setIfInBounds]
            split
            · next hj => subst hj; rfl
            · rfl
        show ({ a with tmps := a.tmps.setIfInBounds t a.tmps[t] } : Act) = a
        rw [e2]
      rw [e]
      exact hu

/-- Are all slots there? -/
def slotsB (n : Nat) (l : List Oper) : Bool := l.all fun o => match o.dst with | none => true | some t => decide (t < n)

/-- THE RULE, its frame made by program. -/
theorem wp_region_open {id : Nat} {l : List Oper} {a : Act} {w : World} (V : Nat → Value → Nat → Nat → World → Prop)
    (hm : P.follows .mixedOrders = true) (hf : (funnelB .any l.toArray && apartB l && decide (0 < l.length)) = true) (hs : slotsB a.tmps.size l = true)
    (hV : ∀ i v lo hi w w', V i v lo hi w → Below w.heap.size w w' → V i v lo hi w')
    (step : ∀ i o, l[i]? = some o → i + 1 < l.length → ∀ u (lo hi : Nat → Nat) wr, Below w.heap.size w wr → (∀ e ∈ o.after, Region.binds .any e = true → V e.on (u e.on) (lo e.on) (hi e.on) wr) →
      (∀ e ∈ o.after, ∀ e' ∈ o.after, Region.binds .any e = true → Region.binds .any e' = true → e.on ≠ e'.on → hi e.on ≤ lo e'.on ∨ hi e'.on ≤ lo e.on) →
      ∀ K : Act → World → Prop, (∀ v w', Below wr.heap.size wr w' → V i v wr.heap.size w'.heap.size w' → K ((putAll u 0 l a).put o.dst v) w') → wpOp P l.toArray Q i K (putAll u 0 l a) wr)
    (last : ∀ u wr (lo hi : Nat → Nat), Below w.heap.size w wr → (∀ i, i + 1 < l.length → V i (u i) (lo i) (hi i) wr) → (∀ i j, i + 1 < l.length → j + 1 < l.length → i ≠ j → hi i ≤ lo j ∨ hi j ≤ lo i) →
      wpOp P l.toArray Q (l.length - 1) (Q .normal) (putAll u 0 l a) wr) :
    (Code.region id l.toArray true).wp P Q a w := by
  rw [Bool.and_eq_true, Bool.and_eq_true] at hf
  obtain ⟨⟨h1, h2⟩, h3⟩ := hf
  have hsl : ∀ o ∈ l, ∀ t, o.dst = some t → t < a.tmps.size := fun o ho t ht => by
    have := List.all_eq_true.1 hs o ho
    rw [ht] at this
    exact of_decide_eq_true this
  obtain ⟨u0, hu0⟩ := putAll_self l 0 a hsl h2
  refine wp_region_funnel V (fun u => putAll u 0 l a) u0 hu0.symm hm h1 (of_decide_eq_true h3) hV (fun i o ho u v => ?_) step last
  have := putAll_at u v l 0 i a o h2 ho
  rw [Nat.zero_add] at this
  exact this
end

end Go.Proofs.YtojeggeimnenbaaDoor

namespace Go.Proofs.YtojeggeimnenbaaDoor
open Go Go.RowKit

section
variable {P : Program} {ops : Array Oper} {Q : Exit → Act → World → Prop} {md : Region.Mode}

/-- All edges that bind lead back. -/
def backB (md : Region.Mode) (ops : Array Oper) : Bool :=
  (List.range ops.size).all fun i => match ops[i]? with | some o => o.after.all fun e => !Region.binds md e || decide (e.on < i) | none => false

theorem back_lt (h : backB md ops = true) {i : Nat} {o : Oper} (ho : ops[i]? = some o) {e : Edge} (he : e ∈ o.after) (hb : Region.binds md e = true) : e.on < i := by
  have hi := (Array.getElem?_eq_some_iff.1 ho).1
  have h1 := List.all_eq_true.1 h i (List.mem_range.2 hi)
  rw [ho] at h1
  have h2 := Array.all_eq_true_iff_forall_mem.1 h1 e he
  simpa [hb] using h2

/-- What is done, one more. -/
def did (done : Nat → Bool) (i : Nat) : Nat → Bool := fun j => if j = i then true else done j
theorem did_same (done : Nat → Bool) (i : Nat) : did done i i = true := if_pos rfl
theorem did_other (done : Nat → Bool) {i j : Nat} (h : j ≠ i) : did done i j = done j := if_neg h

theorem wpAny_inv (I : (Nat → Bool) → (Nat → Value) → World → Prop) (mk : (Nat → Value) → Act) (hf : backB md ops = true)
    (hput : ∀ i o, ops[i]? = some o → ∀ u v, (mk u).put o.dst v = mk (upd u i v))
    (step : ∀ i o, ops[i]? = some o → ∀ done u w, done i = false → (∀ e ∈ o.after, Region.binds md e = true → done e.on = true) → I done u w →
      ∀ K : Act → World → Prop, (∀ v w', I (did done i) (upd u i v) w' → K ((mk u).put o.dst v) w') → wpOp P ops Q i K (mk u) w)
    (fin : ∀ done u w, (∀ i, i < ops.size → done i = true) → I done u w → Q .normal (mk u) w) :
    ∀ (fuel : Nat) (listed : Array Bool) (done : Nat → Bool) (u : Nat → Value) (w : World), listed.size = ops.size → toCome ops.size listed ≤ fuel → (∀ i, i < ops.size → listed.getD i true = done i) → I done u w → wpAny P md ops Q fuel listed (mk u) w := by
  have none_ready : ∀ (listed : Array Bool), listed.size = ops.size → Region.ready md ops listed = [] → ∀ m i, i < m → i < ops.size → listed.getD i true = true := by
    intro listed hs hr m
    induction m with
    | zero => intro i h; omega
    | succ m ihm =>
      intro i him hi
      rcases hl : listed.getD i true with _ | _
      · exfalso
        have ho : ops[i]? = some ops[i] := Array.getElem?_eq_getElem hi
        have : i ∈ Region.ready md ops listed := ready_iff.2 ⟨hi, hl, _, ho, fun e he hbn => by
          have hlt := back_lt hf ho he hbn
          have h1 := ihm e.on (by omega) (by omega)
          rw [Array.getD_eq_getD_getElem?, Array.getElem?_eq_getElem (by omega)] at h1 ⊢
          simpa using h1⟩
        rw [hr] at this
        cases this
      · rfl
  intro fuel
  induction fuel with
  | zero =>
    intro listed done u w hs hc hd hI
    have hz : ∀ i, i < ops.size → listed.getD i true = true := fun i hi => by
      rcases hl : listed.getD i true with _ | _
      · have := toCome_pos (n := ops.size) (listed := listed) hi hl
        omega
      · rfl
    refine ⟨?_, fin done u w (fun i hi => by rw [← hd i hi]; exact hz i hi) hI⟩
    rw [List.eq_nil_iff_forall_not_mem]
    intro j hj
    obtain ⟨hjn, hju, _⟩ := ready_iff.1 hj
    rw [hz j hjn] at hju
    cases hju
  | succ fuel ih =>
    intro listed done u w hs hc hd hI
    refine ⟨fun hr => fin done u w (fun i hi => by rw [← hd i hi]; exact none_ready listed hs hr ops.size i hi hi) hI, fun i hrd => ?_⟩
    obtain ⟨hin, hun, o, ho, hdep⟩ := ready_iff.1 hrd
    refine step i o ho done u w (by rw [← hd i hin]; exact hun) (fun e he hbn => ?_) hI _ fun v w' hI' => ?_
    · have hlt := back_lt hf ho he hbn
      have h1 := hdep e he hbn
      rw [← hd e.on (by omega)]
      rw [Array.getD_eq_getD_getElem?, Array.getElem?_eq_getElem (by omega)] at h1 ⊢
      simpa using h1
    · rw [hput i o ho]
      refine ih _ (did done i) _ _ (by simpa using hs) ?_ (fun j hj => ?_) hI'
      · have := toCome_set (n := ops.size) hin hs hun
        omega
      · by_cases hji : j = i
        · subst hji
          rw [did_same, getD_set_eq (by omega)]
        · rw [did_other _ hji, getD_set_other (Ne.symm hji)]
          exact hd j hj

/-- THE RULE, its frame made by program. -/
theorem wp_region_inv {id : Nat} {l : List Oper} {a : Act} {w : World} (I : (Nat → Bool) → (Nat → Value) → World → Prop)
    (hm : P.follows .mixedOrders = true) (hf : (backB .any l.toArray && apartB l) = true) (hs : slotsB a.tmps.size l = true)
    (start : ∀ u, I (fun _ => false) u w.drew)
    (step : ∀ i o, l[i]? = some o → ∀ done u wr, done i = false → (∀ e ∈ o.after, Region.binds .any e = true → done e.on = true) → I done u wr →
      ∀ K : Act → World → Prop, (∀ v w', I (did done i) (upd u i v) w' → K ((putAll u 0 l a).put o.dst v) w') → wpOp P l.toArray Q i K (putAll u 0 l a) wr)
    (fin : ∀ done u wr, (∀ i, i < l.length → done i = true) → I done u wr → Q .normal (putAll u 0 l a) wr) :
    (Code.region id l.toArray true).wp P Q a w := by
  rw [Bool.and_eq_true] at hf
  obtain ⟨h1, h2⟩ := hf
  have hsl : ∀ o ∈ l, ∀ t, o.dst = some t → t < a.tmps.size := fun o ho t ht => by
    have := List.all_eq_true.1 hs o ho
    rw [ht] at this
    exact of_decide_eq_true this
  obtain ⟨u0, hu0⟩ := putAll_self l 0 a hsl h2
  refine wp_region_any hm ?_
  have key := wpAny_inv (P := P) (ops := l.toArray) (Q := Q) (md := .any) I (fun u => putAll u 0 l a) h1
    (fun i o ho u v => by
      have := putAll_at u v l 0 i a o h2 (by simpa using ho)
      rw [Nat.zero_add] at this
      exact this)
    (fun i o ho => step i o (by simpa using ho)) (fun done u wr hd hI => fin done u wr (fun i hi => hd i (by simpa using hi)) hI) l.toArray.size (Array.replicate l.toArray.size false) (fun _ => false) u0 w.drew
    (by simp) (by unfold toCome; exact Nat.le_trans List.countP_le_length (by simp))
    (fun i hi => by
      rw [Array.getD_eq_getD_getElem?, Array.getElem?_eq_getElem (by simpa using hi)]
      simp)
    (start u0)
  have hk : putAll u0 0 l a = a := hu0
  rw [hk] at key
  exact key
end

end Go.Proofs.YtojeggeimnenbaaDoor

namespace Go.Proofs.YtojeggeimnenbaaDoor.P

/-- How many cells a shape has. -/
def prod : List Nat → Nat
  | [] => 1
  | n :: s => n * prod s

/-- The place of a cell, the last axis fastest. -/
def place : List Nat → List Nat → Nat
  | _ :: s, i :: a => i * prod s + place s a
  | _, _ => 0

/-- Are these the indices of a cell? -/
def Inside : List Nat → List Nat → Prop
  | [], [] => True
  | n :: s, i :: a => i < n ∧ Inside s a
  | _, _ => False

/-- The indices of a place. -/
def coords : List Nat → Nat → List Nat
  | [], _ => []
  | _ :: s, p => p / prod s :: coords s (p % prod s)

theorem inside_length : ∀ {s a : List Nat}, Inside s a → a.length = s.length
  | [], [], _ => rfl
  | _ :: _, _ :: _, h => by simp [inside_length h.2]
  | [], _ :: _, h => h.elim
  | _ :: _, [], h => h.elim

theorem length_coords : ∀ (s : List Nat) (p : Nat), (coords s p).length = s.length
  | [], _ => rfl
  | _ :: s, p => by simp [coords, length_coords s]

theorem place_lt : ∀ {s a : List Nat}, Inside s a → place s a < prod s
  | [], [], _ => by simp [place, prod]
  | n :: s, i :: a, h => by
    have h1 := place_lt h.2
    have h2 : (i + 1) * prod s ≤ n * prod s := Nat.mul_le_mul_right _ h.1
    simp only [place, prod]
    rw [Nat.add_mul] at h2
    omega
  | [], _ :: _, h => h.elim
  | _ :: _, [], h => h.elim

theorem coords_inside : ∀ {s : List Nat} {p : Nat}, p < prod s → Inside s (coords s p)
  | [], _, _ => trivial
  | n :: s, p, h => by
    simp only [prod] at h
    have hp : 0 < prod s := by
      rcases Nat.eq_zero_or_pos (prod s) with h0 | h0
      · rw [h0] at h; omega
      · exact h0
    exact ⟨(Nat.div_lt_iff_lt_mul hp).2 h, coords_inside (Nat.mod_lt _ hp)⟩

theorem place_coords : ∀ {s : List Nat} {p : Nat}, p < prod s → place s (coords s p) = p
  | [], p, h => by simp [prod] at h; simp [place, h]
  | n :: s, p, h => by
    simp only [prod] at h
    have hp : 0 < prod s := by
      rcases Nat.eq_zero_or_pos (prod s) with h0 | h0
      · rw [h0] at h; omega
      · exact h0
    simp only [place, coords]
    rw [place_coords (Nat.mod_lt _ hp)]
    exact Nat.div_add_mod' p (prod s)

theorem coords_place : ∀ {s a : List Nat}, Inside s a → coords s (place s a) = a
  | [], [], _ => rfl
  | n :: s, i :: a, h => by
    have h1 := place_lt h.2
    simp only [place, coords]
    have e1 : (i * prod s + place s a) / prod s = i := by
      rw [Nat.mul_comm, Nat.mul_add_div (by omega), Nat.div_eq_of_lt h1]; rfl
    have e2 : (i * prod s + place s a) % prod s = place s a := by
      rw [Nat.mul_comm, Nat.mul_add_mod, Nat.mod_eq_of_lt h1]
    rw [e1, e2, coords_place h.2]
  | [], _ :: _, h => h.elim
  | _ :: _, [], h => h.elim

theorem place_inj {s a b : List Nat} (ha : Inside s a) (hb : Inside s b) (h : place s a = place s b) : a = b := by
  rw [← coords_place ha, ← coords_place hb, h]

theorem prod_append : ∀ (s t : List Nat), prod (s ++ t) = prod s * prod t
  | [], t => by simp [prod]
  | n :: s, t => by simp [prod, prod_append s t, Nat.mul_assoc]

theorem place_append : ∀ {s a : List Nat} (t b : List Nat), a.length = s.length → place (s ++ t) (a ++ b) = place s a * prod t + place t b
  | [], [], t, b, _ => by simp [place]
  | n :: s, i :: a, t, b, h => by
    simp only [List.cons_append, place]
    rw [place_append t b (by simpa using h), prod_append]
    rw [Nat.add_mul, Nat.mul_assoc]
    omega
  | [], _ :: _, _, _, h => by simp at h
  | _ :: _, [], _, _, h => by simp at h

theorem inside_append : ∀ {s a : List Nat} (t b : List Nat), a.length = s.length → (Inside (s ++ t) (a ++ b) ↔ Inside s a ∧ Inside t b)
  | [], [], t, b, _ => by simp [Inside]
  | n :: s, i :: a, t, b, h => by
    simp only [List.cons_append, Inside]
    rw [inside_append t b (by simpa using h), and_assoc]
  | [], _ :: _, _, _, h => by simp at h
  | _ :: _, [], _, _, h => by simp at h

theorem inside_iff : ∀ {s a : List Nat}, Inside s a ↔ a.length = s.length ∧ ∀ k, k < s.length → a.getD k 0 < s.getD k 0
  | [], [] => by simp [Inside]
  | n :: s, i :: a => by
    simp only [Inside]
    rw [inside_iff (s := s)]
    constructor
    · rintro ⟨h1, h2, h3⟩
      refine ⟨by simp [h2], fun k hk => ?_⟩
      rcases k with _ | k
      · simpa using h1
      · simpa using h3 k (by simpa using hk)
    · rintro ⟨h1, h2⟩
      refine ⟨by simpa using h2 0 (by simp), by simpa using h1, fun k hk => ?_⟩
      simpa using h2 (k + 1) (by simpa using hk)
  | [], _ :: _ => by simp [Inside]
  | _ :: _, [] => by simp [Inside]

theorem inside_set {s a : List Nat} (h : Inside s a) {k x : Nat} (hx : x < s.getD k 0) : Inside s (a.set k x) := by
  rw [inside_iff] at h ⊢
  refine ⟨by simp [h.1], fun j hj => ?_⟩
  by_cases hjk : k = j
  · subst hjk
    simp only [List.getD_eq_getElem?_getD, List.getElem?_set] at hx ⊢
    simp only [if_true, h.1, hj, Option.getD_some]
    exact hx
  · have := h.2 j hj
    simp only [List.getD_eq_getElem?_getD, List.getElem?_set] at this ⊢
    simpa [hjk] using this

theorem inside_zero {s : List Nat} (h : 0 < prod s) : Inside s (List.replicate s.length 0) := by
  rw [inside_iff]
  refine ⟨by simp, fun k hk => ?_⟩
  have hpos : ∀ (s : List Nat), 0 < prod s → ∀ k, k < s.length → 0 < s.getD k 0 := by
    intro s
    induction s with
    | nil => intro _ k hk; simp at hk
    | cons n s ih =>
      intro h k hk
      simp only [prod] at h
      rcases k with _ | k
      · simpa using Nat.pos_of_mul_pos_right h
      · simpa using ih (Nat.pos_of_mul_pos_left h) k (by simpa using hk)
  have h1 := hpos s h k hk
  simp only [List.getD_eq_getElem?_getD, List.getElem?_replicate, hk, if_true, Option.getD_some]
  simpa using h1

/-- The place, as it is reckoned from the first axis on. -/
theorem foldl_place : ∀ {s a : List Nat} (p : Nat), a.length = s.length → (s.zip a).foldl (fun p x => p * x.1 + x.2) p = p * prod s + place s a
  | [], [], p, _ => by simp [prod, place]
  | n :: s, i :: a, p, h => by
    simp only [List.zip_cons_cons, List.foldl_cons, prod, place]
    rw [foldl_place _ (by simpa using h), Nat.add_mul, Nat.mul_assoc]
    omega
  | [], _ :: _, _, h => by simp at h
  | _ :: _, [], _, h => by simp at h

/-- One further; true: it has come round. -/
def next : List Nat → List Nat → List Nat × Bool
  | n :: s, i :: a =>
    if (next s a).2 then if i + 1 < n then ((i + 1) :: (next s a).1, false) else (0 :: (next s a).1, true)
    else (i :: (next s a).1, false)
  | _, _ => ([], true)

theorem length_next : ∀ {s a : List Nat}, a.length = s.length → (next s a).1.length = s.length
  | [], [], _ => rfl
  | n :: s, i :: a, h => by
    have ih := length_next (s := s) (a := a) (by simpa using h)
    unfold next
    split
    · split <;> simp [ih]
    · simp [ih]
  | [], _ :: _, h => by simp at h
  | _ :: _, [], h => by simp at h

theorem next_spec : ∀ {s a : List Nat}, Inside s a →
    ((next s a).2 = true → place s a + 1 = prod s ∧ (next s a).1 = List.replicate s.length 0) ∧
    ((next s a).2 = false → Inside s (next s a).1 ∧ place s (next s a).1 = place s a + 1)
  | [], [], _ => by simp [next, place, prod]
  | n :: s, i :: a, h => by
    obtain ⟨i1, i2⟩ := next_spec h.2
    have hl := place_lt h.2
    unfold next
    by_cases hc : (next s a).2 = true
    · obtain ⟨e1, e2⟩ := i1 hc
      rw [if_pos hc]
      by_cases hi : i + 1 < n
      · rw [if_pos hi]
        refine ⟨fun h => by simp at h, fun _ => ⟨⟨hi, ?_⟩, ?_⟩⟩
        · rw [e2]; exact inside_zero (by omega)
        · simp only [place]
          have e3 : place s (next s a).1 = 0 := by
            rw [e2]
            have hz : ∀ s : List Nat, place s (List.replicate s.length 0) = 0 := by
              intro s
              induction s with
              | nil => rfl
              | cons n s ih => simp [place, List.replicate_succ, ih]
            exact hz s
          rw [e3, Nat.add_mul]
          omega
      · rw [if_neg hi]
        refine ⟨fun _ => ⟨?_, ?_⟩, fun h => by simp at h⟩
        · have : n = i + 1 := by have := h.1; omega
          subst this
          simp only [place, prod]
          rw [Nat.add_mul]
          omega
        · simp [e2, List.replicate_succ]
    · rw [if_neg hc]
      have hc' : (next s a).2 = false := by simpa using hc
      obtain ⟨e1, e2⟩ := i2 hc'
      refine ⟨fun h => by simp at h, fun _ => ⟨⟨h.1, e1⟩, ?_⟩⟩
      simp only [place]
      omega
  | [], _ :: _, h => h.elim
  | _ :: _, [], h => h.elim

theorem coords_zero : ∀ (s : List Nat), coords s 0 = List.replicate s.length 0
  | [] => rfl
  | n :: s => by simp [coords, coords_zero s, List.replicate_succ]

theorem next_coords {s : List Nat} {p : Nat} (h : p + 1 < prod s) : (next s (coords s p)).1 = coords s (p + 1) := by
  have hp : p < prod s := by omega
  have hi := coords_inside hp
  have e := place_coords hp
  have hn := next_spec hi
  by_cases hc : (next s (coords s p)).2 = true
  · have := (hn.1 hc).1
    omega
  · obtain ⟨h1, h2⟩ := hn.2 (by simpa using hc)
    refine place_inj h1 (coords_inside h) ?_
    rw [h2, e, place_coords h]

end Go.Proofs.YtojeggeimnenbaaDoor.P

namespace Go.Proofs.YtojeggeimnenbaaDoor.P

/-- An array as it stands in memory, right or wrong. -/
structure Arr where
  ch : Bool
  sh : List Int
  da : List Int

/-- The array without anything. -/
def Arr.nil : Arr := ⟨false, [], []⟩

/-- What is wrong with the lengths one by one: 0, 4 (below 0) or 7 (too long). -/
def scanErr : List Int → Int
  | [] => 0
  | n :: r => if n < 0 then 4 else if 4096 < n then 7 else scanErr r

/-- The product, as it is reckoned from the first on; none: too great on the way. -/
def grow : Int → List Int → Option Int
  | p, [] => some p
  | p, n :: r => if 4096 < p * n then none else grow (p * n) r

def cntErr (s : List Int) : Int :=
  if 6 < s.length then 3
  else if scanErr s ≠ 0 then scanErr s
  else if (0 : Int) ∈ s then 0
  else match grow 1 s with | none => 7 | some _ => 0

def cntVal (s : List Int) : Int :=
  if 6 < s.length then 0
  else if scanErr s ≠ 0 then 0
  else if (0 : Int) ∈ s then 0
  else match grow 1 s with | none => 0 | some p => p

def badRune (c : Int) : Bool := c < 0 || 1114111 < c || (55296 ≤ c && c ≤ 57343)

def arrErr (a : Arr) : Int :=
  if cntErr a.sh ≠ 0 then cntErr a.sh
  else if (a.da.length : Int) ≠ cntVal a.sh then 4
  else if a.ch && a.da.any badRune then 6
  else 0

/-- A shape that may be. -/
def GoodSh (s : List Nat) : Prop := s.length ≤ 6 ∧ (∀ n ∈ s, n ≤ 4096) ∧ prod s ≤ 4096

def ints (s : List Nat) : List Int := s.map fun n : Nat => (n : Int)

theorem length_ints (s : List Nat) : (ints s).length = s.length := by simp [ints]
theorem getElem?_ints (s : List Nat) (k : Nat) : (ints s)[k]? = s[k]?.map fun n : Nat => (n : Int) := by simp [ints]

theorem scanErr_ints : ∀ {s : List Nat}, (∀ n ∈ s, n ≤ 4096) → scanErr (ints s) = 0
  | [], _ => rfl
  | n :: s, h => by
    have h1 := h n (by simp)
    have h2 := scanErr_ints (s := s) fun m hm => h m (by simp [hm])
    simp only [ints, List.map_cons, scanErr] at h2 ⊢
    rw [if_neg (by omega), if_neg (by omega)]
    exact h2

theorem scanErr_zero : ∀ {s : List Int}, scanErr s = 0 → ∃ t : List Nat, s = ints t ∧ ∀ n ∈ t, n ≤ 4096
  | [], _ => ⟨[], rfl, by simp⟩
  | n :: s, h => by
    simp only [scanErr] at h
    by_cases h1 : n < 0
    · rw [if_pos h1] at h; omega
    · rw [if_neg h1] at h
      by_cases h2 : 4096 < n
      · rw [if_pos h2] at h; omega
      · rw [if_neg h2] at h
        obtain ⟨t, rfl, ht⟩ := scanErr_zero h
        refine ⟨n.toNat :: t, ?_, ?_⟩
        · simp only [ints, List.map_cons]
          rw [Int.toNat_of_nonneg (by omega)]
        · intro m hm
          rcases List.mem_cons.1 hm with rfl | hm
          · omega
          · exact ht m hm

theorem prod_pos : ∀ {s : List Nat}, 0 ∉ s → 0 < prod s
  | [], _ => by simp [prod]
  | n :: s, h => by
    simp only [List.mem_cons, not_or] at h
    simp only [prod]
    exact Nat.mul_pos (by omega) (prod_pos h.2)

theorem prod_zero : ∀ {s : List Nat}, 0 ∈ s → prod s = 0
  | n :: s, h => by
    simp only [prod]
    rcases List.mem_cons.1 h with h | h
    · rw [← h]; simp
    · rw [prod_zero h]; simp

theorem grow_ints : ∀ {s : List Nat} (p : Nat), 0 ∉ s → p * prod s ≤ 4096 → grow p (ints s) = some ((p * prod s : Nat) : Int)
  | [], p, _, _ => by simp [grow, ints, prod]
  | n :: s, p, h, hp => by
    simp only [List.mem_cons, not_or] at h
    have hpos := prod_pos h.2
    simp only [prod] at hp ⊢
    rw [← Nat.mul_assoc] at hp ⊢
    have h1 : p * n ≤ p * n * prod s := Nat.le_mul_of_pos_right _ hpos
    have h2 := grow_ints (s := s) (p * n) h.2 hp
    simp only [ints, List.map_cons, grow] at h2 ⊢
    have e : (p : Int) * (n : Int) = ((p * n : Nat) : Int) := by simp
    rw [e, if_neg (by omega), h2]

theorem grow_some : ∀ {s : List Nat} {p : Nat} {q : Int}, 0 ∉ s → p ≤ 4096 → grow p (ints s) = some q → p * prod s ≤ 4096
  | [], p, q, _, hp, h => by simpa [prod] using hp
  | n :: s, p, q, hn, hp, h => by
    simp only [List.mem_cons, not_or] at hn
    simp only [ints, List.map_cons, grow] at h
    have e : (p : Int) * (n : Int) = ((p * n : Nat) : Int) := by simp
    rw [e] at h
    by_cases h1 : (4096 : Int) < ((p * n : Nat) : Int)
    · rw [if_pos h1] at h; cases h
    · rw [if_neg h1] at h
      have := grow_some (s := s) (p := p * n) hn.2 (by omega) h
      simp only [prod]
      rw [← Nat.mul_assoc]
      exact this

theorem mem_ints_zero {s : List Nat} : (0 : Int) ∈ ints s ↔ 0 ∈ s := by
  simp only [ints, List.mem_map]
  constructor
  · rintro ⟨n, hn, h⟩
    have : n = 0 := by omega
    rw [← this]; exact hn
  · intro h
    exact ⟨0, h, rfl⟩

theorem cntErr_ints {s : List Nat} (h : GoodSh s) : cntErr (ints s) = 0 := by
  obtain ⟨h1, h2, h3⟩ := h
  unfold cntErr
  rw [if_neg (by rw [length_ints]; omega), if_neg (by rw [scanErr_ints h2]; simp)]
  by_cases h0 : 0 ∈ s
  · rw [if_pos (mem_ints_zero.2 h0)]
  · rw [if_neg (fun h => h0 (mem_ints_zero.1 h))]
    have := grow_ints (s := s) 1 h0 (by omega)
    rw [show ((1 : Nat) : Int) = 1 from rfl] at this
    rw [this]

theorem cntVal_ints {s : List Nat} (h : GoodSh s) : cntVal (ints s) = (prod s : Int) := by
  obtain ⟨h1, h2, h3⟩ := h
  unfold cntVal
  rw [if_neg (by rw [length_ints]; omega), if_neg (by rw [scanErr_ints h2]; simp)]
  by_cases h0 : 0 ∈ s
  · rw [if_pos (mem_ints_zero.2 h0), prod_zero h0]; rfl
  · rw [if_neg (fun h => h0 (mem_ints_zero.1 h))]
    have := grow_ints (s := s) 1 h0 (by omega)
    rw [show ((1 : Nat) : Int) = 1 from rfl] at this
    rw [this]; simp

theorem cntErr_zero {s : List Int} (h : cntErr s = 0) : ∃ t, s = ints t ∧ GoodSh t := by
  unfold cntErr at h
  by_cases h1 : 6 < s.length
  · rw [if_pos h1] at h; omega
  · rw [if_neg h1] at h
    by_cases h2 : scanErr s ≠ 0
    · rw [if_pos h2] at h; exact absurd h h2
    · rw [if_neg h2] at h
      obtain ⟨t, rfl, ht⟩ := scanErr_zero (by simpa using h2)
      refine ⟨t, rfl, by rw [length_ints] at h1; omega, ht, ?_⟩
      by_cases h0 : 0 ∈ t
      · rw [prod_zero h0]; omega
      · rw [if_neg (fun h => h0 (mem_ints_zero.1 h))] at h
        rcases hg : grow 1 (ints t) with _ | q
        · rw [hg] at h; simp at h
        · have := grow_some (p := 1) h0 (by omega) hg
          omega

/-- An array without a fault, its lengths being t. -/
structure Ok (a : Arr) (t : List Nat) : Prop where
  sh : a.sh = ints t
  good : GoodSh t
  len : a.da.length = prod t
  rune : a.ch = true → a.da.any badRune = false

theorem arrErr_ok {a : Arr} {t : List Nat} (h : Ok a t) : arrErr a = 0 := by
  unfold arrErr
  rw [h.sh, if_neg (by rw [cntErr_ints h.good]; simp), if_neg (by rw [cntVal_ints h.good, h.len]; simp)]
  rw [if_neg]
  intro hb
  simp only [Bool.and_eq_true] at hb
  have := h.rune hb.1
  rw [hb.2] at this
  cases this

theorem ok_of_arrErr {a : Arr} (h : arrErr a = 0) : ∃ t, Ok a t := by
  unfold arrErr at h
  by_cases h1 : cntErr a.sh ≠ 0
  · rw [if_pos h1] at h; exact absurd h h1
  · rw [if_neg h1] at h
    obtain ⟨t, ht, hg⟩ := cntErr_zero (by simpa using h1)
    by_cases h2 : (a.da.length : Int) ≠ cntVal a.sh
    · rw [if_pos h2] at h; omega
    · rw [if_neg h2] at h
      have h2' : (a.da.length : Int) = cntVal a.sh := by simpa using h2
      rw [ht, cntVal_ints hg] at h2'
      refine ⟨t, ht, hg, by omega, fun hc => ?_⟩
      by_cases h3 : a.da.any badRune = true
      · rw [if_pos (by simp [hc, h3])] at h; omega
      · simpa using h3

theorem ints_inj : ∀ {s t : List Nat}, ints s = ints t → s = t
  | [], [], _ => rfl
  | n :: s, m :: t, h => by
    simp only [ints, List.map_cons, List.cons.injEq] at h
    rw [ints_inj (s := s) (t := t) h.2]
    have : n = m := by omega
    rw [this]
  | [], _ :: _, h => by simp [ints] at h
  | _ :: _, [], h => by simp [ints] at h

/-- The lengths as numbers from 0 on. -/
def Arr.nsh (a : Arr) : List Nat := a.sh.map Int.toNat

theorem toNat_ints (s : List Nat) : (ints s).map Int.toNat = s := by
  induction s with
  | nil => rfl
  | cons n s ih => simp only [ints, List.map_cons] at ih ⊢; rw [ih]; simp

theorem Ok.nsh_eq {a : Arr} {t : List Nat} (h : Ok a t) : a.nsh = t := by
  unfold Arr.nsh; rw [h.sh, toNat_ints]

/-- The cell at some indices. -/
def Arr.cell (a : Arr) (ix : List Nat) : Int := a.da.getD (place a.nsh ix) 0

/-- An array laid out by a function of the indices. -/
def tab (c : Bool) (s : List Nat) (g : List Nat → Int) : Arr := ⟨c, ints s, (List.range (prod s)).map fun p => g (coords s p)⟩

theorem tab_nsh (c : Bool) (s : List Nat) (g : List Nat → Int) : (tab c s g).nsh = s := toNat_ints s
theorem tab_len (c : Bool) (s : List Nat) (g : List Nat → Int) : (tab c s g).da.length = prod s := by simp [tab]

theorem tab_cell {c : Bool} {s : List Nat} {g : List Nat → Int} {ix : List Nat} (h : Inside s ix) : (tab c s g).cell ix = g ix := by
  unfold Arr.cell
  rw [tab_nsh]
  simp [tab, List.getD_eq_getElem?_getD, place_lt h, coords_place h]

theorem tab_congr {c : Bool} {s : List Nat} {g g' : List Nat → Int} (h : ∀ ix, Inside s ix → g ix = g' ix) : tab c s g = tab c s g' := by
  unfold tab
  congr 1
  apply List.map_congr_left
  intro p hp
  exact h _ (coords_inside (by simpa using hp))

theorem Ok.eq_tab {a : Arr} {t : List Nat} (h : Ok a t) : a = tab a.ch t a.cell := by
  obtain ⟨c, s, d⟩ := a
  unfold tab
  have hs := h.sh
  have hl := h.len
  simp only at hs hl
  subst hs
  congr 1
  apply List.ext_getElem?
  intro p
  by_cases hp : p < prod t
  · have hn := h.nsh_eq
    simp only [List.getElem?_map, List.getElem?_range hp, Option.map_some, Arr.cell, hn, place_coords hp, List.getD_eq_getElem?_getD]
    rw [List.getElem?_eq_getElem (by omega)]
    simp
  · rw [List.getElem?_eq_none (by omega), List.getElem?_eq_none (by simp; omega)]

/-- What makes an array the one that is laid out. -/
theorem eq_tab {a : Arr} {c : Bool} {s : List Nat} {g : List Nat → Int} (hc : a.ch = c) (hs : a.sh = ints s) (hl : a.da.length = prod s)
    (hg : ∀ ix, Inside s ix → a.da[place s ix]? = some (g ix)) : a = tab c s g := by
  obtain ⟨c', s', d⟩ := a
  simp only at hc hs hl hg
  subst hc hs
  unfold tab
  congr 1
  apply List.ext_getElem?
  intro p
  by_cases hp : p < prod s
  · have h1 := hg _ (coords_inside hp)
    rw [place_coords hp] at h1
    simp [List.getElem?_range hp, h1]
  · rw [List.getElem?_eq_none (by omega), List.getElem?_eq_none (by simp; omega)]

/-- Arrays of one shape are the same if all their cells are. -/
theorem Ok.ext {a b : Arr} {t : List Nat} (ha : Ok a t) (hb : Ok b t) (hc : a.ch = b.ch) (h : ∀ ix, Inside t ix → a.cell ix = b.cell ix) : a = b := by
  rw [ha.eq_tab, hb.eq_tab, hc]
  exact tab_congr h

theorem any_bad_iff {d : List Int} : d.any badRune = false ↔ ∀ c ∈ d, badRune c = false := by simp

/-- An array laid out is without a fault, if its shape is and its cells may be. -/
theorem ok_tab {c : Bool} {s : List Nat} {g : List Nat → Int} (hs : GoodSh s) (hr : c = true → ∀ ix, Inside s ix → badRune (g ix) = false) : Ok (tab c s g) s := by
  refine ⟨rfl, hs, tab_len _ _ _, fun hc => ?_⟩
  rw [any_bad_iff]
  intro x hx
  simp only [tab, List.mem_map, List.mem_range] at hx
  obtain ⟨p, hp, rfl⟩ := hx
  exact hr hc _ (coords_inside hp)

theorem Ok.rune_cell {a : Arr} {t : List Nat} (h : Ok a t) (hc : a.ch = true) {ix : List Nat} (hi : Inside t ix) : badRune (a.cell ix) = false := by
  have h1 := any_bad_iff.1 (h.rune hc)
  unfold Arr.cell
  rw [h.nsh_eq]
  have hl := place_lt hi
  rw [← h.len] at hl
  rw [List.getD_eq_getElem?_getD, List.getElem?_eq_getElem hl]
  exact h1 _ (by simp)

end Go.Proofs.YtojeggeimnenbaaDoor.P

namespace Go.Proofs.YtojeggeimnenbaaDoor.P

/-- How many cells lie ahead of an axis, and behind it. -/
def outerOf (s : List Nat) (k : Nat) : Nat := prod (s.take k)
def innerOf (s : List Nat) (k : Nat) : Nat := prod (s.drop (k + 1))

theorem prod_axis {s : List Nat} {k : Nat} (hk : k < s.length) : prod s = outerOf s k * s.getD k 0 * innerOf s k := by
  have h : s = s.take k ++ s[k] :: s.drop (k + 1) := by simp
  conv => lhs; rw [h]
  rw [prod_append, prod, Nat.mul_assoc]
  simp [outerOf, innerOf, List.getD_eq_getElem?_getD, hk]

theorem place_axis {s ix : List Nat} {k : Nat} (hk : k < s.length) (hl : ix.length = s.length) :
    place s ix = (place (s.take k) (ix.take k) * s.getD k 0 + ix.getD k 0) * innerOf s k + place (s.drop (k + 1)) (ix.drop (k + 1)) := by
  have h : s = s.take k ++ s[k] :: s.drop (k + 1) := by simp
  have hk' : k < ix.length := by omega
  have h' : ix = ix.take k ++ ix[k] :: ix.drop (k + 1) := by simp
  conv => lhs; rw [h, h']
  rw [place_append _ _ (by simp; omega)]
  simp only [place, prod, innerOf, List.getD_eq_getElem?_getD, List.getElem?_eq_getElem hk, List.getElem?_eq_getElem hk', Option.getD_some]
  rw [Nat.add_mul, Nat.mul_assoc]
  omega

theorem place_axis_set {s ix : List Nat} {k x : Nat} (hk : k < s.length) (hl : ix.length = s.length) :
    place s (ix.set k x) = (place (s.take k) (ix.take k) * s.getD k 0 + x) * innerOf s k + place (s.drop (k + 1)) (ix.drop (k + 1)) := by
  rw [place_axis hk (by simpa using hl)]
  have hk' : k < ix.length := by omega
  have e1 : (ix.set k x).take k = ix.take k := by rw [List.take_set, List.set_eq_of_length_le (by simp; omega)]
  have e2 : (ix.set k x).drop (k + 1) = ix.drop (k + 1) := by simp [List.drop_set]
  have e3 : (ix.set k x).getD k 0 = x := by simp [List.getD_eq_getElem?_getD, hk']
  rw [e1, e2, e3]

theorem inside_axis {s ix : List Nat} {k : Nat} (hk : k < s.length) (h : Inside s ix) :
    place (s.take k) (ix.take k) < outerOf s k ∧ ix.getD k 0 < s.getD k 0 ∧ place (s.drop (k + 1)) (ix.drop (k + 1)) < innerOf s k := by
  have hl := inside_length h
  have hs : s = s.take k ++ s[k] :: s.drop (k + 1) := by simp
  have hk' : k < ix.length := by omega
  have hx : ix = ix.take k ++ ix[k] :: ix.drop (k + 1) := by simp
  rw [hs, hx, inside_append _ _ (by simp; omega)] at h
  refine ⟨place_lt h.1, ?_, place_lt h.2.2⟩
  simp only [List.getD_eq_getElem?_getD, List.getElem?_eq_getElem hk, List.getElem?_eq_getElem hk', Option.getD_some]
  exact h.2.1

/-- The cell whose place is made of o, i, r. -/
theorem exists_axis {s : List Nat} {k o i r : Nat} (hk : k < s.length) (ho : o < outerOf s k) (hi : i < s.getD k 0) (hr : r < innerOf s k) :
    ∃ ix, Inside s ix ∧ place (s.take k) (ix.take k) = o ∧ ix.getD k 0 = i ∧ place (s.drop (k + 1)) (ix.drop (k + 1)) = r := by
  have hs : s = s.take k ++ s[k] :: s.drop (k + 1) := by simp
  have lo : (coords (s.take k) o).length = k := by rw [length_coords]; simp; omega
  refine ⟨coords (s.take k) o ++ i :: coords (s.drop (k + 1)) r, ?_, ?_, ?_, ?_⟩
  · rw [hs, inside_append _ _ (by rw [length_coords]; simp)]
    refine ⟨by simpa using coords_inside ho, ?_⟩
    simp only [List.getD_eq_getElem?_getD, List.getElem?_eq_getElem hk, Option.getD_some] at hi
    exact ⟨hi, by simpa using coords_inside hr⟩
  · rw [List.take_left' lo]
    exact place_coords ho
  · rw [List.getD_eq_getElem?_getD, List.getElem?_append_right (by omega), lo]
    simp
  · rw [show coords (s.take k) o ++ i :: coords (s.drop (k + 1)) r = (coords (s.take k) o ++ [i]) ++ coords (s.drop (k + 1)) r from by simp, List.drop_left' (by simp [lo])]
    exact place_coords hr

/-- An array whose index on an axis is another one of an array's. -/
def pull (k : Nat) (f : Nat → Nat) (a : Arr) : Arr := tab a.ch a.nsh fun ix => a.cell (ix.set k (f (ix.getD k 0)))

theorem pull_da {a : Arr} {t : List Nat} (h : Ok a t) {k : Nat} (hk : k < t.length) {f : Nat → Nat} (hf : ∀ i, i < t.getD k 0 → f i < t.getD k 0)
    {o i r : Nat} (ho : o < outerOf t k) (hi : i < t.getD k 0) (hr : r < innerOf t k) :
    (pull k f a).da[(o * t.getD k 0 + i) * innerOf t k + r]? = a.da[(o * t.getD k 0 + f i) * innerOf t k + r]? := by
  obtain ⟨ix, h1, h2, h3, h4⟩ := exists_axis hk ho hi hr
  have hl := inside_length h1
  have e1 := place_axis hk hl
  rw [h2, h3, h4] at e1
  have e2 := place_axis_set (x := f i) hk hl
  rw [h2, h4] at e2
  have hin := inside_set (k := k) (x := f i) h1 (hf i hi)
  rw [← e1, ← e2]
  have hlt := place_lt h1
  have hlt2 := place_lt hin
  have hn := h.nsh_eq
  unfold pull tab
  simp only [hn]
  rw [List.getElem?_map, List.getElem?_range hlt, Option.map_some, coords_place h1, h3]
  unfold Arr.cell
  rw [hn, List.getD_eq_getElem?_getD, List.getElem?_eq_getElem (by rw [h.len]; exact hlt2)]
  simp

theorem pull_ok {a : Arr} {t : List Nat} (h : Ok a t) {k : Nat} {f : Nat → Nat} (hf : ∀ i, i < t.getD k 0 → f i < t.getD k 0) : Ok (pull k f a) t := by
  have hn := h.nsh_eq
  unfold pull
  rw [hn]
  refine ok_tab h.good fun hc ix hi => h.rune_cell hc ?_
  by_cases hk : k < t.length
  · refine inside_set hi (hf _ ?_)
    exact (inside_axis hk hi).2.1
  · rw [List.set_eq_of_length_le (by rw [inside_length hi]; omega)]
    exact hi

theorem pull_nsh (k : Nat) (f : Nat → Nat) (a : Arr) : (pull k f a).nsh = a.nsh := tab_nsh _ _ _

theorem pull_cell {a : Arr} {k : Nat} {f : Nat → Nat} {ix : List Nat} (hi : Inside a.nsh ix) : (pull k f a).cell ix = a.cell (ix.set k (f (ix.getD k 0))) := tab_cell hi

theorem set_getD {ix : List Nat} {k : Nat} : ix.set k (ix.getD k 0) = ix := by
  apply List.ext_getElem?
  intro j
  rw [List.getElem?_set]
  by_cases h : k = j
  · subst h
    by_cases hk : k < ix.length
    · simp [hk, List.getD_eq_getElem?_getD]
    · simp [hk]
  · simp [h]

theorem getD_set {ix : List Nat} {k x : Nat} (hk : k < ix.length) : (ix.set k x).getD k 0 = x := by simp [List.getD_eq_getElem?_getD, hk]
theorem getD_set_ne {ix : List Nat} {k j x : Nat} (hk : k ≠ j) : (ix.set k x).getD j 0 = ix.getD j 0 := by simp [List.getD_eq_getElem?_getD, hk]

theorem inside_pull {s ix : List Nat} {k : Nat} {f : Nat → Nat} (hi : Inside s ix) (hk : k < s.length) (hf : ∀ i, i < s.getD k 0 → f i < s.getD k 0) : Inside s (ix.set k (f (ix.getD k 0))) :=
  inside_set hi (hf _ (inside_axis hk hi).2.1)

/-- Pulled twice on one axis. -/
theorem pull_pull {a : Arr} {t : List Nat} (h : Ok a t) {k : Nat} (hk : k < t.length) {f g : Nat → Nat} (hg : ∀ i, i < t.getD k 0 → g i < t.getD k 0) :
    pull k g (pull k f a) = pull k (fun i => f (g i)) a := by
  have hn := h.nsh_eq
  unfold pull
  rw [tab_nsh, hn]
  refine tab_congr fun ix hi => ?_
  have hl := inside_length hi
  rw [tab_cell (inside_pull hi hk hg)]
  simp only [getD_set (show k < ix.length by omega), List.set_set]

/-- Pulled on two axes: whichever comes first. -/
theorem pull_comm {a : Arr} {t : List Nat} (h : Ok a t) {j k : Nat} (hj : j < t.length) (hk : k < t.length) (hjk : j ≠ k) {f g : Nat → Nat} (hf : ∀ i, i < t.getD j 0 → f i < t.getD j 0)
    (hg : ∀ i, i < t.getD k 0 → g i < t.getD k 0) : pull j f (pull k g a) = pull k g (pull j f a) := by
  have hn := h.nsh_eq
  unfold pull
  rw [tab_nsh, tab_nsh, hn]
  refine tab_congr fun ix hi => ?_
  rw [tab_cell (inside_pull hi hj hf), tab_cell (inside_pull hi hk hg)]
  rw [getD_set_ne hjk, getD_set_ne (Ne.symm hjk), List.set_comm _ _ hjk]

/-- Pulled by what is no change. -/
theorem pull_self {a : Arr} {t : List Nat} (h : Ok a t) {k : Nat} (hk : k < t.length) {f : Nat → Nat} (hf : ∀ i, i < t.getD k 0 → f i = i) : pull k f a = a := by
  have hn := h.nsh_eq
  conv => rhs; rw [h.eq_tab]
  unfold pull
  rw [hn]
  refine tab_congr fun ix hi => ?_
  rw [hf _ (inside_axis hk hi).2.1, set_getD]

theorem pull_congr {a : Arr} {t : List Nat} (h : Ok a t) {k : Nat} (hk : k < t.length) {f g : Nat → Nat} (hf : ∀ i, i < t.getD k 0 → f i = g i) : pull k f a = pull k g a := by
  have hn := h.nsh_eq
  unfold pull
  rw [hn]
  refine tab_congr fun ix hi => ?_
  rw [hf _ (inside_axis hk hi).2.1]

/-- A piece behind what is there already. -/
theorem take_piece {T d : List Int} {b p m : Nat} (h : ∀ r, r < m → T[b + r]? = d[p + r]?) :
    T.take b ++ (d.drop p).take m = T.take (b + m) := by
  rw [List.take_add]
  congr 1
  apply List.ext_getElem?
  intro r
  by_cases hr : r < m
  · rw [List.getElem?_take_of_lt hr, List.getElem?_take_of_lt hr, List.getElem?_drop, List.getElem?_drop, h r hr]
  · rw [List.getElem?_take_eq_none (by omega), List.getElem?_take_eq_none (by omega)]

/-! ### Reversed, moved round -/

def rev (k : Nat) (a : Arr) : Arr := pull k (fun i => a.nsh.getD k 0 - 1 - i) a
def rotBy (n : Int) (m : Nat) : Nat := (n % (m : Int)).toNat
def rot (n : Int) (k : Nat) (a : Arr) : Arr := pull k (fun i => (i + rotBy n (a.nsh.getD k 0)) % a.nsh.getD k 0) a

theorem rev_lt {m i : Nat} (h : i < m) : m - 1 - i < m := by omega
theorem rot_lt {n : Int} {m i : Nat} (h : i < m) : (i + rotBy n m) % m < m := Nat.mod_lt _ (by omega)

theorem rev_ok {a : Arr} {t : List Nat} (h : Ok a t) {k : Nat} : Ok (rev k a) t := by
  unfold rev; rw [h.nsh_eq]; exact pull_ok h fun i hi => rev_lt hi
theorem rot_ok {a : Arr} {t : List Nat} (h : Ok a t) {n : Int} {k : Nat} : Ok (rot n k a) t := by
  unfold rot; rw [h.nsh_eq]; exact pull_ok h fun i hi => rot_lt hi

theorem rev_rev {a : Arr} {t : List Nat} (h : Ok a t) {k : Nat} (hk : k < t.length) : rev k (rev k a) = a := by
  unfold rev
  rw [pull_nsh, h.nsh_eq, pull_pull h hk (fun i hi => rev_lt hi)]
  exact pull_self h hk fun i hi => by omega

theorem rev_comm {a : Arr} {t : List Nat} (h : Ok a t) {j k : Nat} (hj : j < t.length) (hk : k < t.length) : rev j (rev k a) = rev k (rev j a) := by
  by_cases e : j = k
  · rw [e]
  · unfold rev
    rw [pull_nsh, pull_nsh, h.nsh_eq]
    exact pull_comm h hj hk e (fun i hi => rev_lt hi) (fun i hi => rev_lt hi)

theorem rotBy_lt {n : Int} {m : Nat} (h : 0 < m) : rotBy n m < m := by
  unfold rotBy
  have := Int.emod_lt_of_pos n (show (0 : Int) < (m : Int) by omega)
  have := Int.emod_nonneg n (show (m : Int) ≠ 0 by omega)
  omega

theorem rotBy_cast {n : Int} {m : Nat} (h : 0 < m) : (rotBy n m : Int) = n % (m : Int) := by
  unfold rotBy
  exact Int.toNat_of_nonneg (Int.emod_nonneg n (by omega))

theorem rot_rot {a : Arr} {t : List Nat} (h : Ok a t) {k : Nat} (hk : k < t.length) (m n : Int) : rot n k (rot m k a) = rot (m + n) k a := by
  unfold rot
  rw [pull_nsh, h.nsh_eq, pull_pull h hk (fun i hi => rot_lt hi)]
  refine pull_congr h hk fun i hi => ?_
  generalize t.getD k 0 = L at hi
  have hL : 0 < L := by omega
  have e1 := rotBy_cast (n := m) hL
  have e2 := rotBy_cast (n := n) hL
  have e3 := rotBy_cast (n := m + n) hL
  have key : (((i + rotBy n L) % L + rotBy m L) % L : Nat) = ((i + rotBy (m + n) L) % L : Nat) := by
    have : ((((i + rotBy n L) % L + rotBy m L) % L : Nat) : Int) = (((i + rotBy (m + n) L) % L : Nat) : Int) := by
      push_cast
      rw [e1, e2, e3]
      simp only [Int.add_emod_emod, Int.emod_add_emod]
      congr 1
      omega
    omega
  exact key

theorem rot_zero {a : Arr} {t : List Nat} (h : Ok a t) {k : Nat} (hk : k < t.length) {n : Int} (hn : n % (t.getD k 0 : Int) = 0) : rot n k a = a := by
  unfold rot
  rw [h.nsh_eq]
  refine pull_self h hk fun i hi => ?_
  have : rotBy n (t.getD k 0) = 0 := by unfold rotBy; rw [hn]; rfl
  rw [this, Nat.add_zero, Nat.mod_eq_of_lt hi]

theorem rev_rot_rev {a : Arr} {t : List Nat} (h : Ok a t) {k : Nat} (hk : k < t.length) (n : Int) : rev k (rot n k (rev k a)) = rot (-n) k a := by
  unfold rev rot
  simp only [pull_nsh, h.nsh_eq]
  rw [pull_pull h hk (fun i hi => rot_lt hi), pull_pull h hk (fun i hi => rev_lt hi)]
  refine pull_congr h hk fun i hi => ?_
  generalize t.getD k 0 = L at hi
  have hL : 0 < L := by omega
  have e1 := rotBy_cast (n := n) hL
  have e2 := rotBy_cast (n := -n) hL
  have h1 := rotBy_lt (n := n) hL
  have h2 := rotBy_lt (n := -n) hL
  have hs : rotBy n L + rotBy (-n) L = 0 ∨ rotBy n L + rotBy (-n) L = L := by
    have : ((rotBy n L : Int) + rotBy (-n) L) % (L : Int) = 0 := by
      rw [e1, e2, ← Int.add_emod, Int.add_right_neg, Int.zero_emod]
    have h3 : (((rotBy n L + rotBy (-n) L) % L : Nat) : Int) = 0 := by push_cast; exact this
    have h4 : (rotBy n L + rotBy (-n) L) % L = 0 := by omega
    by_cases h5 : rotBy n L + rotBy (-n) L < L
    · rw [Nat.mod_eq_of_lt h5] at h4; exact .inl h4
    · rw [Nat.mod_eq_sub_mod (by omega), Nat.mod_eq_of_lt (by omega)] at h4
      exact .inr (by omega)
  generalize rotBy n L = x at *
  generalize rotBy (-n) L = y at *
  rcases hs with hs | hs
  · have hx : x = 0 := by omega
    have hy : y = 0 := by omega
    subst hx hy
    rw [Nat.add_zero, Nat.add_zero, Nat.mod_eq_of_lt (by omega), Nat.mod_eq_of_lt hi]
    omega
  · by_cases h5 : L - 1 - i + x < L
    · rw [Nat.mod_eq_of_lt h5]
      by_cases h6 : i + y < L
      · omega
      · rw [Nat.mod_eq_sub_mod (by omega), Nat.mod_eq_of_lt (by omega)]; omega
    · rw [Nat.mod_eq_sub_mod (by omega), Nat.mod_eq_of_lt (by omega)]
      by_cases h6 : i + y < L
      · rw [Nat.mod_eq_of_lt h6]; omega
      · omega

end Go.Proofs.YtojeggeimnenbaaDoor.P

namespace Go.Proofs.YtojeggeimnenbaaDoor
open Go Go.RowKit Go.Proofs.YtojeggeimnenbaaDoor.P

theorem addr_block_add (a : Addr) (n : Nat) : (a.add n).block = a.block := by unfold Addr.add; split <;> rfl

/-- The elements of a slice are these numbers. -/
def IsInts (w : World) (v : Value) (xs : List Int) : Prop :=
  ∃ (A : Option Addr) (c : Nat), v = .slice A xs.length c ∧ xs.length ≤ c ∧ c ≤ 9223372036854775807 ∧ xs.length ≤ 17592186044416 ∧ (A = none → c = 0) ∧
    ∀ k x, xs[k]? = some x → ∃ ad, A = some ad ∧ ad.block < w.heap.size ∧ w.cell? (ad.add k) = some (.int .i64 x)

/-- The same, in parts: its address, its length, its capacity. -/
def Elems (w : World) (A : Option Addr) (xs : List Int) : Prop :=
  ∀ k x, xs[k]? = some x → ∃ ad, A = some ad ∧ ad.block < w.heap.size ∧ w.cell? (ad.add k) = some (.int .i64 x)

theorem Elems.mono {w w' : World} {A : Option Addr} {xs : List Int} (h : Elems w A xs) (hb : Below w.heap.size w w') : Elems w' A xs := by
  intro k x hk
  obtain ⟨ad, e, hl, hc⟩ := h k x hk
  have hs := hb.size
  exact ⟨ad, e, by omega, (hb.cell (by rw [addr_block_add]; exact hl)).trans hc⟩

theorem IsInts.mono {w w' : World} {v : Value} {xs : List Int} (h : IsInts w v xs) (hb : Below w.heap.size w w') : IsInts w' v xs := by
  obtain ⟨A, c, e, h1, h2, h3, h5, h4⟩ := h
  exact ⟨A, c, e, h1, h2, h3, h5, Elems.mono h4 hb⟩

theorem Elems.at_ {w : World} {A : Option Addr} {xs : List Int} (h : Elems w A xs) {k : Nat} (hk : k < xs.length) :
    ∃ ad x, A = some ad ∧ xs[k]? = some x ∧ ad.block < w.heap.size ∧ w.cell? (ad.add k) = some (.int .i64 x) := by
  obtain ⟨ad, e, hl, hc⟩ := h k xs[k] (List.getElem?_eq_getElem hk)
  exact ⟨ad, xs[k], e, List.getElem?_eq_getElem hk, hl, hc⟩

theorem Elems.later {w wr : World} {A : Option Addr} {xs : List Int} (h : Elems w A xs) (hb : Below w.heap.size w wr) {k : Nat} (hk : k < xs.length) :
    ∃ ad x, A = some ad ∧ xs[k]? = some x ∧ ad.block < w.heap.size ∧ wr.cell? (ad.add k) = some (.int .i64 x) := by
  obtain ⟨ad, x, e, hx, hl, hc⟩ := h.at_ hk
  exact ⟨ad, x, e, hx, hl, (hb.cell (by rw [addr_block_add]; exact hl)).trans hc⟩

/-- An array, as a struct's value. -/
def IsArr (w : World) (v : Value) (a : Arr) : Prop := ∃ s d, v = .agg #[.bool a.ch, s, d] ∧ IsInts w s a.sh ∧ IsInts w d a.da

theorem IsArr.mono {w w' : World} {v : Value} {a : Arr} (h : IsArr w v a) (hb : Below w.heap.size w w') : IsArr w' v a := by
  obtain ⟨s, d, e, h1, h2⟩ := h
  exact ⟨s, d, e, h1.mono hb, h2.mono hb⟩

theorem ret_bool {a b : Bool} (h : a = b) : Ending.returned (.bool a) = .returned (.bool b) := by rw [h]
theorem ret_int {k : IntKind} {a b : Int} (h : a = b) : Ending.returned (.int k a) = .returned (.int k b) := by rw [h]
theorem below_draws (B : Nat) (w : World) (n : Nat) : Below B w (w.drewN n) := ⟨rfl, rfl, rfl, Nat.le_refl _, fun _ _ => rfl⟩

theorem bcell {W w1 : World} (hb : Below W.heap.size W w1) : (∀ b o, b < W.heap.size → w1.cell? ⟨b, o, none⟩ = W.cell? ⟨b, o, none⟩) ∧ (∀ b o, b < W.heap.size → w1.frozen? ⟨b, o, none⟩ = W.frozen? ⟨b, o, none⟩) :=
  ⟨fun b o h => hb.cell (p := ⟨b, o, none⟩) h, fun b o h => hb.frozen (p := ⟨b, o, none⟩) h⟩

theorem below_one (w : World) (o1 : Obj) : Below w.heap.size w (w.alloc o1) := (Below.refl _ _).alloc (Nat.le_refl _) o1
theorem below_two (w : World) (o1 o2 : Obj) : Below w.heap.size w ((w.alloc o1).alloc o2) := (below_one w o1).alloc (by simp) o2
theorem below_three (w : World) (o1 o2 o3 : Obj) : Below w.heap.size w (((w.alloc o1).alloc o2).alloc o3) := (below_two w o1 o2).alloc (by simp; omega) o3

/-- A call tells whether it is so, and nothing that was there has turned. -/
def TellsB (p : Prop) (w : World) (e : Ending) (w' : World) : Prop := ∃ r : Bool, e = .returned (.bool r) ∧ (r = true ↔ p) ∧ Below w.heap.size w w'
theorem tells_yes {p : Prop} {w w' : World} {v : Value} (hv : v = .bool true) (h : p) (hb : Below w.heap.size w w') : TellsB p w (.returned v) w' := ⟨true, by rw [hv], by simp [h], hb⟩
theorem tells_no {p : Prop} {w w' : World} {v : Value} (hv : v = .bool false) (h : ¬ p) (hb : Below w.heap.size w w') : TellsB p w (.returned v) w' := ⟨false, by rw [hv], by simp [h], hb⟩

/-- Two lists agree as far as k. -/
def SameTo (k : Nat) (xs ys : List Int) : Prop := xs.take k = ys.take k
theorem SameTo.zero (xs ys : List Int) : SameTo 0 xs ys := by simp [SameTo]
theorem SameTo.succ {k : Nat} {xs ys : List Int} {x : Int} (h : SameTo k xs ys) (hx : xs[k]? = some x) (hy : ys[k]? = some x) : SameTo (k + 1) xs ys := by
  unfold SameTo at *
  rw [List.take_add_one, List.take_add_one, h, hx, hy]
theorem SameTo.all {k : Nat} {xs ys : List Int} (h : SameTo k xs ys) (hx : xs.length ≤ k) (hy : ys.length ≤ k) : xs = ys := by
  unfold SameTo at h
  rwa [List.take_of_length_le hx, List.take_of_length_le hy] at h

theorem IsArr.open_ {w : World} {v : Value} {a : Arr} (h : IsArr w v a) : ∃ A ca D cd, v = .agg #[.bool a.ch, .slice A a.sh.length ca, .slice D a.da.length cd] ∧
    IsInts w (.slice A a.sh.length ca) a.sh ∧ IsInts w (.slice D a.da.length cd) a.da := by
  obtain ⟨s, d, e, h1, h2⟩ := h
  obtain ⟨A, ca, e1, _⟩ := id h1
  obtain ⟨D, cd, e2, _⟩ := id h2
  subst e1 e2
  exact ⟨A, ca, D, cd, e, h1, h2⟩

/-- A block that is known whole: these cells, of this type. -/
def Box (w : World) (b : Nat) (t : TypeId) (cs : Array Value) : Prop := w.heap[b]? = some (.cells cs t (0, 0))
theorem Box.lt {w : World} {b : Nat} {t : TypeId} {cs : Array Value} (h : Box w b t cs) : b < w.heap.size := (Array.getElem?_eq_some_iff.1 h).1
theorem Box.cell {w : World} {b : Nat} {t : TypeId} {cs : Array Value} (h : Box w b t cs) (i : Nat) : w.cell? ⟨b, i, none⟩ = cs[i]? := cell_of_row w b i cs t (0, 0) h
theorem Box.frozen {w : World} {b : Nat} {t : TypeId} {cs : Array Value} (h : Box w b t cs) (i : Nat) : w.frozen? ⟨b, i, none⟩ = false := by
  unfold Box at h
  simp [World.frozen?, h]
theorem Box.new (w : World) (t : TypeId) (cs : Array Value) : Box (w.alloc (.cells cs t)) w.heap.size t cs := heap_alloc_new w _
theorem Box.alloc {w : World} {b : Nat} {t : TypeId} {cs : Array Value} (h : Box w b t cs) (o : Obj) : Box (w.alloc o) b t cs := (Below.heap_alloc w o b h.lt).trans h
theorem Box.drewN {w : World} {b : Nat} {t : TypeId} {cs : Array Value} (h : Box w b t cs) (n : Nat) : Box (w.drewN n) b t cs := h
theorem Box.drew {w : World} {b : Nat} {t : TypeId} {cs : Array Value} (h : Box w b t cs) : Box w.drew b t cs := h
theorem Box.store {w : World} {b : Nat} {t : TypeId} {cs : Array Value} (h : Box w b t cs) (i : Nat) (u : Value) : Box (w.setCell ⟨b, i, none⟩ u) b t (cs.setIfInBounds i u) := by
  unfold Box at h ⊢
  simp [World.setCell, Array.getElem?_modify, h]
theorem Box.far {w : World} {b : Nat} {t : TypeId} {cs : Array Value} (h : Box w b t cs) {p : Addr} (hp : b ≠ p.block) (u : Value) : Box (w.setCell p u) b t cs := (Below.heap_setCell w p u b hp).trans h
theorem Box.below {w w' : World} {b : Nat} {t : TypeId} {cs : Array Value} (h : Box w b t cs) (hb : Below w.heap.size w w') : Box w' b t cs := (hb.block b h.lt).trans h
theorem Box.grown {w w' : World} {b : Nat} {t : TypeId} {cs : Array Value} {row : Option Nat} (h : Box w b t cs) (hb : w.grownBy w' row) (hg : row ≠ some b) : Box w' b t cs := (hb.block b h.lt (fun e => hg e.symm)).trans h

theorem Box.three {w : World} {b : Nat} {t : TypeId} {c0 c1 c2 : Value} (h : Box w b t #[c0, c1, c2]) :
    w.cell? ⟨b, 0, none⟩ = some c0 ∧ w.cell? ⟨b, 1, none⟩ = some c1 ∧ w.cell? ⟨b, 2, none⟩ = some c2 := ⟨h.cell 0, h.cell 1, h.cell 2⟩
theorem Box.one {w : World} {b : Nat} {t : TypeId} {c0 : Value} (h : Box w b t #[c0]) : w.cell? ⟨b, 0, none⟩ = some c0 := h.cell 0
theorem Box.two {w : World} {b : Nat} {t : TypeId} {c0 c1 : Value} (h : Box w b t #[c0, c1]) : w.cell? ⟨b, 0, none⟩ = some c0 ∧ w.cell? ⟨b, 1, none⟩ = some c1 := ⟨h.cell 0, h.cell 1⟩

theorem cell_kept1 {w w1 : World} {o : Obj} {row : Option Nat} {p : Addr} {u : Value} (h : w.cell? p = some u) (hg : ((w.alloc o).drew).grownBy w1 row) (hne : row ≠ some p.block) : w1.cell? p = some u :=
  hg.cell (w := (w.alloc o).drew) (a := p) ((World.cell?_alloc_lt w o p (World.block_lt_of_cell? w p h)).trans h) (fun e => hne e.symm)

theorem grownBy_setCell (w : World) (b i : Nat) (u : Value) : w.grownBy (w.setCell ⟨b, i, none⟩ u) (some b) :=
  ⟨rfl, rfl, rfl, by simp [World.setCell], fun k _ hne => Below.heap_setCell w ⟨b, i, none⟩ u k (fun e => hne (by rw [e]))⟩
theorem grownBy_trans {a b c : World} {r : Option Nat} (h : a.grownBy b r) (k : b.grownBy c r) : a.grownBy c r :=
  ⟨k.os.trans h.os, k.tape.trans h.tape, k.output.trans h.output, Nat.le_trans h.size k.size, fun i hi hn => (k.block i (Nat.lt_of_lt_of_le hi h.size) hn).trans (h.block i hi hn)⟩
/-- A struct of three fields stored into a block. -/
theorem grownBy_three (w : World) (b : Nat) (u0 u1 u2 : Value) : w.grownBy (((w.setCell ⟨b, 0, none⟩ u0).setCell ⟨b, 1, none⟩ u1).setCell ⟨b, 2, none⟩ u2) (some b) :=
  grownBy_trans (grownBy_trans (grownBy_setCell _ _ _ _) (grownBy_setCell _ _ _ _)) (grownBy_setCell _ _ _ _)
theorem grownBy_two (w : World) (b : Nat) (u0 u1 : Value) : w.grownBy ((w.setCell ⟨b, 0, none⟩ u0).setCell ⟨b, 1, none⟩ u1) (some b) :=
  grownBy_trans (grownBy_setCell _ _ _ _) (grownBy_setCell _ _ _ _)
/-- What lies elsewhere reads as it did, behind writes into one new block. -/
theorem IsInts.grown {w w' : World} {v : Value} {xs : List Int} {b : Nat} (h : IsInts w v xs) (hg : w.grownBy w' (some b)) (hb : ∀ A n c, v = .slice (some A) n c → A.block ≠ b) : IsInts w' v xs := by
  obtain ⟨A, c, e, h1, h2, h3, h5, h4⟩ := h
  refine ⟨A, c, e, h1, h2, h3, h5, fun k x hk => ?_⟩
  obtain ⟨ad, ha, hl, hc⟩ := h4 k x hk
  subst ha
  refine ⟨ad, rfl, Nat.lt_of_lt_of_le hl hg.size, ?_⟩
  have hne := hb ad _ _ e
  exact hg.cell hc (fun e' => hne (by rw [addr_block_add] at e'; injection e'))
theorem Box.isInts {w : World} {b : Nat} {t : TypeId} {xs : List Int} {n : Nat} (h : Box w b t (xs.map (Value.int .i64)).toArray) (hn : n = xs.length) (hl : n ≤ 17592186044416) : IsInts w (.slice (some ⟨b, 0, none⟩) n n) xs := by
  subst hn
  refine ⟨_, _, rfl, Nat.le_refl _, by omega, hl, (fun e => by cases e), fun k x hk => ⟨_, rfl, h.lt, ?_⟩⟩
  have e : (⟨b, 0, none⟩ : Addr).add k = ⟨b, k, none⟩ := by unfold Addr.add; split <;> simp_all
  rw [e, h.cell]
  simp [hk]

/-- No cell of them is a number. -/
def NoInts (cs : Array Value) : Prop := ∀ (i : Nat) (n : Int), cs[i]? ≠ some (.int .i64 n)
theorem noInts_arr (b : Bool) (A D : Option Addr) (n c m d : Nat) : NoInts #[.bool b, .slice A n c, .slice D m d] := by
  intro i k
  match i with
  | 0 => simp
  | 1 => simp
  | 2 => simp
  | j + 3 => simp
/-- A list lies in no block whose cells are no numbers. -/
theorem Elems.off {w : World} {A : Option Addr} {xs : List Int} (h : Elems w A xs) {b : Nat} {t : TypeId} {cs : Array Value} (hb : Box w b t cs) (hn : NoInts cs) {k : Nat} (hk : k < xs.length) {ad : Addr} (ha : A = some ad) : ad.block ≠ b := by
  intro e
  obtain ⟨ad', x, ha', _, _, hc⟩ := h.at_ hk
  rw [ha] at ha'
  cases ha'
  subst e
  unfold Box at hb
  unfold World.cell? at hc
  rw [addr_block_add, hb] at hc
  simp only at hc
  split at hc
  · cases hc
  · exact hn _ _ hc
theorem IsInts.off {w w' : World} {v : Value} {xs : List Int} (h : IsInts w v xs) {b : Nat} {t : TypeId} {cs : Array Value} (hg : w.grownBy w' (some b)) (hb : Box w b t cs) (hn : NoInts cs) : IsInts w' v xs := by
  obtain ⟨A, c, e, h1, h2, h3, h5, h4⟩ := h
  refine ⟨A, c, e, h1, h2, h3, h5, fun k x hk => ?_⟩
  obtain ⟨ad, ha, hl, hc⟩ := h4 k x hk
  have hne := Elems.off h4 hb hn (List.getElem?_eq_some_iff.1 hk).1 ha
  exact ⟨ad, ha, Nat.lt_of_lt_of_le hl hg.size, hg.cell hc (fun e' => hne (by rw [addr_block_add] at e'; injection e'))⟩

theorem cellA {w : World} {o : Obj} {p : Addr} {v : Value} (h : w.cell? p = some v) : (w.alloc o).cell? p = some v := (World.cell?_alloc_lt w o p (World.block_lt_of_cell? w p h)).trans h
theorem cellS {w : World} {p q : Addr} {u v : Value} (h : w.cell? p = some v) (hne : p.block ≠ q.block) : (w.setCell q u).cell? p = some v := (World.cell?_setCell_other w q p u (fun e => hne (by rw [e]))).trans h
theorem cellD {w : World} {p : Addr} {v : Value} (h : w.cell? p = some v) : w.drew.cell? p = some v := h

/-- An error of this number. -/
def errV (k : Int) : Value := if k = 0 then .nilIface else .iface 26 (.int .i64 k)
theorem errV_zero : errV 0 = .nilIface := rfl
theorem errV_ne {k : Int} (h : k ≠ 0) : errV k = .iface 26 (.int .i64 k) := if_neg h

/-- The value of an array without anything. -/
abbrev zeroArr : Value := .agg #[.bool false, .slice none 0 0, .slice none 0 0]
/-- A call tells an array. -/
def Gives (a : Arr) (w : World) (e : Ending) (w' : World) : Prop := ∃ r, e = .returned r ∧ IsArr w' r a ∧ Below w.heap.size w w'
/-- A call tells an array, and that nothing is wrong. -/
def GivesOk (a : Arr) (w : World) (e : Ending) (w' : World) : Prop := ∃ r, e = .returned (.tuple #[r, .nilIface]) ∧ IsArr w' r a ∧ Below w.heap.size w w'
/-- A call tells what is wrong. -/
def Fails (z : Value) (k : Int) (w : World) (e : Ending) (w' : World) : Prop := e = .returned (.tuple #[z, .iface 26 (.int .i64 k)]) ∧ Below w.heap.size w w'
theorem noInts_zero : NoInts #[.bool false, .slice none 0 0, .slice none 0 0] := noInts_arr _ _ _ _ _ _ _

end Go.Proofs.YtojeggeimnenbaaDoor

namespace Go.Proofs.YtojeggeimnenbaaDoor
open Go Go.RowKit Go.Proofs.YtojeggeimnenbaaDoor.P

theorem int_info : (Tryd.prog.info? 3).map (fun i => (i.zero, i.size, i.bytes)) = some (some (.int .i64 0), 1, 8) := by kernel_rfl

def nums (xs : List Int) : List Value := xs.map (Value.int .i64)
theorem length_nums (xs : List Int) : (nums xs).length = xs.length := by simp [nums]
theorem nums_one (xs : List Int) : ∀ u ∈ nums xs, u.oneCell' = true := by
  intro u hu
  simp only [nums, List.mem_map] at hu
  obtain ⟨x, _, rfl⟩ := hu
  rfl
theorem nums_at {xs : List Int} {k : Nat} {u : Value} (h : (nums xs)[k]? = some u) : ∃ x, xs[k]? = some x ∧ u = .int .i64 x := by
  simp only [nums, List.getElem?_map, Option.map_eq_some_iff] at h
  obtain ⟨x, h1, h2⟩ := h
  exact ⟨x, h1, h2.symm⟩

/-- The call's own list of n numbers, in a block from B on. -/
def Owns (w : World) (B : Nat) (v : Value) (n : Nat) (xs : List Int) : Prop := w.ownsRow B 3 1 v n (nums xs) ∧ n ≤ 17592186044416

theorem Owns.length {w : World} {B : Nat} {v : Value} {n : Nat} {xs : List Int} (h : Owns w B v n xs) : xs.length = n := by
  have := h.1.1
  rw [length_nums] at this
  omega

theorem Owns.form {w : World} {B : Nat} {v : Value} {n : Nat} {xs : List Int} (h : Owns w B v n xs) :
    ∃ A c, v = .slice A n c ∧ n ≤ c ∧ c ≤ 9223372036854775807 ∧ (A = none → c = 0) ∧ ∀ ad, A = some ad → ad.off = 0 ∧ ad.spot = none ∧ B ≤ ad.block ∧ ad.block < w.heap.size := by
  rcases h.1.2 with ⟨rfl, rfl⟩ | ⟨g, cap, cur, rfl, hb, hg, hn, hm, _⟩
  · exact ⟨none, 0, rfl, by omega, by omega, fun _ => rfl, fun ad e => by cases e⟩
  · refine ⟨some ⟨g, 0, none⟩, cap, rfl, hn, by unfold maxLen at hm; omega, (fun e => by cases e), fun ad e => ?_⟩
    cases e
    exact ⟨rfl, rfl, hb, (Array.getElem?_eq_some_iff.1 hg).1⟩

theorem Owns.isInts {w : World} {B : Nat} {v : Value} {n : Nat} {xs : List Int} (h : Owns w B v n xs) : IsInts w v xs := by
  have hl := h.length
  have h2 := h.2
  rcases h.1.2 with ⟨rfl, rfl⟩ | ⟨g, cap, cur, rfl, hb, hg, hn, hm, hs, ht⟩
  · have : xs = [] := List.eq_nil_of_length_eq_zero hl
    subst this
    exact ⟨none, 0, rfl, by simp, by omega, by simp, fun _ => rfl, fun k x hk => by simp at hk⟩
  · refine ⟨some ⟨g, 0, none⟩, cap, by rw [hl], by omega, by unfold maxLen at hm; omega, by omega, (fun e => by cases e), fun k x hk => ?_⟩
    have hc := h.1.cells (g := g) rfl k (.int .i64 x) (by simp [nums, hk])
    exact ⟨_, rfl, (Array.getElem?_eq_some_iff.1 hg).1, hc⟩

theorem Owns.nil (w : World) (B : Nat) : Owns w B (.slice none 0 0) 0 [] := ⟨World.ownsRow_nil _ _ _ _, by omega⟩
theorem Owns.alloc {w : World} {B : Nat} {v : Value} {n : Nat} {xs : List Int} (h : Owns w B v n xs) (o : Obj) : Owns (w.alloc o) B v n xs := ⟨h.1.alloc o, h.2⟩
theorem Owns.drew {w : World} {B : Nat} {v : Value} {n : Nat} {xs : List Int} (h : Owns w B v n xs) : Owns w.drew B v n xs := h
theorem Owns.drewN {w : World} {B : Nat} {v : Value} {n : Nat} {xs : List Int} (h : Owns w B v n xs) (k : Nat) : Owns (w.drewN k) B v n xs := h
theorem Owns.base {w : World} {B B' : Nat} {v : Value} {n : Nat} {xs : List Int} (h : Owns w B v n xs) (hB : B' ≤ B) : Owns w B' v n xs := by
  refine ⟨⟨h.1.1, ?_⟩, h.2⟩
  rcases h.1.2 with hn | ⟨g, cap, cur, hv, hb, r⟩
  · exact .inl hn
  · exact .inr ⟨g, cap, cur, hv, by omega, r⟩
theorem Owns.kept {w w' : World} {B : Nat} {v : Value} {n : Nat} {xs : List Int} {row : Option Nat} (h : Owns w B v n xs) (hg : w.grownBy w' row) (hne : v.ownBlock = none ∨ v.ownBlock ≠ row) : Owns w' B v n xs := ⟨h.1.kept hg hne, h.2⟩
theorem Owns.below {w w' : World} {B : Nat} {v : Value} {n : Nat} {xs : List Int} (h : Owns w B v n xs) (hb : Below w.heap.size w w') : Owns w' B v n xs :=
  h.kept (row := none) ⟨hb.os, hb.tape, hb.output, hb.size, fun k hk _ => hb.block k hk⟩ (by cases v.ownBlock <;> simp)
/-- A store into a block of another type of cells leaves it. -/
theorem Owns.setCell {w : World} {B : Nat} {v : Value} {n : Nat} {xs : List Int} (h : Owns w B v n xs) {p : Addr} (hp : v.ownBlock ≠ some p.block) (u : Value) : Owns (w.setCell p u) B v n xs := by
  refine ⟨⟨h.1.1, ?_⟩, h.2⟩
  rcases h.1.2 with hn | ⟨g, cap, cur, hv, hb, hg, r⟩
  · exact .inl hn
  · refine .inr ⟨g, cap, cur, hv, hb, ?_, r⟩
    rw [Below.heap_setCell _ _ _ _ (fun e => hp (by rw [hv, e]; rfl))]
    exact hg
theorem Owns.lt {w : World} {B : Nat} {v : Value} {n : Nat} {xs : List Int} (h : Owns w B v n xs) {k : Nat} (hk : v.ownBlock = some k) : B ≤ k ∧ k < w.heap.size := h.1.lt k hk

/-- A list of the call's own does not lie in a block of another type. -/
theorem Owns.ne_box {w : World} {B : Nat} {v : Value} {n : Nat} {xs : List Int} (h : Owns w B v n xs) {b : Nat} {t : TypeId} {cs : Array Value} (hb : Box w b t cs) (ht : t ≠ 3) : v.ownBlock ≠ some b := by
  rcases h.1.2 with ⟨rfl, _⟩ | ⟨g, cap, cur, rfl, _, hg, _⟩
  · simp [Value.ownBlock]
  · intro e
    have : g = b := by simpa [Value.ownBlock] using e
    subst this
    unfold Box at hb
    rw [hg] at hb
    injection hb with hb
    injection hb with _ hb
    exact ht hb.symm

/-- A list of the call's own does not lie below where its blocks begin. -/
theorem Owns.ne_low {w : World} {B : Nat} {v : Value} {n : Nat} {xs : List Int} (h : Owns w B v n xs) {b : Nat} (hb : b < B) : v.ownBlock ≠ some b := fun e => by
  have := (h.lt e).1
  omega

theorem elems_new (w : World) (x : Int) : Elems (w.alloc (.cells #[.int .i64 x] 3)) (some ⟨w.heap.size, 0, none⟩) [x] := by
  intro k y hk
  match k, hk with
  | 0, hk =>
    simp at hk
    subst hk
    exact ⟨_, rfl, by simp, (Box.new w 3 #[.int .i64 x]).cell 0⟩
  | k + 1, hk => simp at hk

/-- A part of a list. -/
theorem run_slice_part (A : Option Addr) (n c L H : Nat) (lo hi : Option Value) (hlo : (lo = none ∧ L = 0) ∨ lo = some (.int .i64 L)) (hhi : (hi = none ∧ H = n) ∨ hi = some (.int .i64 H)) (h1 : L ≤ H) (h2 : H ≤ c) (w : World) :
    (Instr.slice 23 (.slice A n c) lo hi none).run Tryd.prog w = .ok (.slice (if c = L then A else A.map (·.add L)) (H - L) (c - L)) w := by
  have hu := run_underlying (P := Tryd.prog) Tryd.underlying23
  obtain ⟨i0, hi0, hz0, hz1, hz2⟩ := info_parts int_info
  rcases hlo with ⟨rfl, rfl⟩ | rfl <;> rcases hhi with ⟨rfl, rfl⟩ | rfl <;>
    simp [Instr.slice, hu, Instr.sliceBounds, Instr.sliceBound, asIntOf, sizeOf, typeInfo, hi0, hz1, h1, h2]
theorem Elems.part {w : World} {A : Option Addr} {xs : List Int} (h : Elems w A xs) {c L H : Nat} (hc : xs.length ≤ c) : Elems w (if c = L then A else A.map (·.add L)) ((xs.take H).drop L) := by
  intro k x hk
  rw [List.getElem?_drop, List.getElem?_take] at hk
  split at hk
  · obtain ⟨ad, e, hl, hcl⟩ := h _ x hk
    have hlt := (List.getElem?_eq_some_iff.1 hk).1
    subst e
    rw [if_neg (by omega)]
    refine ⟨ad.add L, rfl, by rw [addr_block_add]; exact hl, ?_⟩
    have e2 : (ad.add L).add k = ad.add (L + k) := by
      unfold Addr.add
      by_cases h1 : L = 0 <;> by_cases h2 : k = 0 <;> simp [h1, h2, Nat.add_assoc]
    rw [e2]
    exact hcl
  · cases hk
/-- The same, its address under a name. -/
theorem part_named {w : World} {A : Option Addr} {xs : List Int} (h : Elems w A xs) {c L H : Nat} {lo hi : Option Value} (hA : A = none → c = 0) (hc : xs.length ≤ c) (hlo : (lo = none ∧ L = 0) ∨ lo = some (.int .i64 L))
    (hhi : (hi = none ∧ H = xs.length) ∨ hi = some (.int .i64 H)) (h1 : L ≤ H) (h2 : H ≤ c) :
    ∃ A', (∀ W, (Instr.slice 23 (.slice A xs.length c) lo hi none).run Tryd.prog W = .ok (.slice A' (H - L) (c - L)) W) ∧ Elems w A' ((xs.take H).drop L) ∧ (A' = none → c - L = 0) := by
  refine ⟨_, fun W => run_slice_part A xs.length c L H lo hi hlo hhi h1 h2 W, h.part hc, fun e => ?_⟩
  by_cases hcl : c = L
  · omega
  · rw [if_neg hcl] at e
    have := hA (by simpa using e)
    omega

section
variable {P : Program} (w : World)

/-- append onto the call's own list, whatever comes behind it. -/
theorem run_append_ints (ty : TypeId) (hB0 : P = Tryd.prog) (B n : Nat) (v : Value) (xs : List Int) (hown : Owns w B v n xs) (A : Option Addr) (m c : Nat) (ys : List Int) (hA : A = none → c = 0) (hy : Elems w A ys)
    (hm : ys.length = m) (h : n + m ≤ 17592186044416) (hB : B ≤ w.heap.size) :
    ∃ A' c' w', (Builtin.append_ #[23, 23] ty #[v, .slice A m c]).run P w = .ok (.slice A' (n + m) c') w' ∧ Owns w' B (.slice A' (n + m) c') (n + m) (xs ++ ys) ∧ w.grownBy w' v.ownBlock ∧
      ((Value.slice A' (n + m) c').ownBlock = v.ownBlock ∨ (Value.slice A' (n + m) c').ownBlock = some w.heap.size) := by
  subst hB0
  obtain ⟨i0, hi, hz0, hz1, hz2⟩ := info_parts int_info
  rcases A with _ | ad
  · have hm0 : m = 0 := by
      rcases Nat.eq_zero_or_pos m with h0 | h0
      · exact h0
      · obtain ⟨ad, _, e, _⟩ := hy.at_ (k := 0) (by omega)
        cases e
    have hys : ys = [] := List.eq_nil_of_length_eq_zero (by omega)
    have hc := hA rfl
    subst hm0 hys hc
    obtain ⟨A, c, rfl, _⟩ := hown.form
    have hr := run_append_owned_none (P := Tryd.prog) (w := w) B 23 ty 3 i0 1 Tryd.underlying23 hi _ n (nums xs) hown.1
    exact ⟨A, c, w, hr, by simpa using hown, World.grownBy.refl _ _, .inl rfl⟩
  · obtain ⟨v', w', hr, h2, h3, _, h5⟩ := run_append_own_at (P := Tryd.prog) w B 23 ty 3 i0 _ 1 8 Tryd.underlying23 hi hz0 hz1 hz2 rfl (by omega) v n (nums xs) hown.1 ad m c (nums ys)
      (by rw [length_nums]; omega) (fun j u hu => by
        obtain ⟨x, hx, rfl⟩ := nums_at hu
        obtain ⟨ad', e, _, hc⟩ := hy j x hx
        cases e
        exact hc) (nums_one ys) (by unfold maxLen; omega) (by omega) hB
    have ho : Owns w' B v' (n + m) (xs ++ ys) := ⟨by simpa [nums] using h2, by omega⟩
    obtain ⟨A', c', rfl, _⟩ := ho.form
    exact ⟨A', c', w', hr, ho, h3, h5⟩

theorem wp_append_ints {o : Oper} {a : Act} {K : Act → World → Prop} {Q : Exit → Act → World → Prop} (hP : P = Tryd.prog) (s x : Operand)
    (ho : o.op = .call { callee := .builtin .append, args := #[s, x], argTypes := #[23, 23] })
    (B n : Nat) (v : Value) (xs : List Int) (hs : a.eval s = v) (hown : Owns w B v n xs) (A : Option Addr) (m c : Nat) (ys : List Int) (hx : a.eval x = .slice A m c) (hA : A = none → c = 0) (hy : Elems w A ys)
    (hm : ys.length = m) (h : n + m ≤ 17592186044416) (hB : B ≤ w.heap.size)
    (hK : ∀ A' c' w', Owns w' B (.slice A' (n + m) c') (n + m) (xs ++ ys) → w.grownBy w' v.ownBlock →
      ((Value.slice A' (n + m) c').ownBlock = v.ownBlock ∨ (Value.slice A' (n + m) c').ownBlock = some w.heap.size) → K (a.put o.dst (.slice A' (n + m) c')) w') : o.wp P a w K Q := by
  obtain ⟨A', c', w', hr, h2, h3, h4⟩ := run_append_ints w o.type hP B n v xs hown A m c ys hA hy hm h hB
  unfold Oper.wp execOp
  simp only [ho, resolve, invoke, builtin, Sem.run_bind, Sem.run_pure, Result.andThen_ok, List.map_toArray, List.map_cons, List.map_nil, hs, hx, hr]
  exact hK A' c' w' h2 h3 h4

theorem wpList_append_ints {ops : Array Oper} {rest : List Oper} {o : Oper} {a : Act} {Q : Exit → Act → World → Prop} (hgd : o.guard = none) (hP : P = Tryd.prog) (s x : Operand)
    (ho : o.op = .call { callee := .builtin .append, args := #[s, x], argTypes := #[23, 23] })
    (B n : Nat) (v : Value) (xs : List Int) (hs : a.eval s = v) (hown : Owns w B v n xs) (A : Option Addr) (m c : Nat) (ys : List Int) (hx : a.eval x = .slice A m c) (hA : A = none → c = 0) (hy : Elems w A ys)
    (hm : ys.length = m) (h : n + m ≤ 17592186044416) (hB : B ≤ w.heap.size)
    (hK : ∀ A' c' w', Owns w' B (.slice A' (n + m) c') (n + m) (xs ++ ys) → w.grownBy w' v.ownBlock →
      ((Value.slice A' (n + m) c').ownBlock = v.ownBlock ∨ (Value.slice A' (n + m) c').ownBlock = some w.heap.size) → wpList P ops Q rest (a.put o.dst (.slice A' (n + m) c')) w') : wpList P ops Q (o :: rest) a w :=
  wpList_plain hgd fun _ hK' => wp_append_ints w hP s x ho B n v xs hs hown A m c ys hx hA hy hm h hB fun A' c' w' h2 h3 h4 => hK' _ _ (hK A' c' w' h2 h3 h4)

theorem step_append_ints {ops : Array Oper} {o : Oper} {a : Act} {K : Act → World → Prop} {Q : Exit → Act → World → Prop} {E : Prop} (hgd : o.guard = none) (hP : P = Tryd.prog) (s x : Operand)
    (ho : o.op = .call { callee := .builtin .append, args := #[s, x], argTypes := #[23, 23] })
    (B n : Nat) (v : Value) (xs : List Int) (hs : a.eval s = v) (hown : Owns w B v n xs) (A : Option Addr) (m c : Nat) (ys : List Int) (hx : a.eval x = .slice A m c) (hA : A = none → c = 0) (hy : Elems w A ys)
    (hm : ys.length = m) (h : n + m ≤ 17592186044416) (hB : B ≤ w.heap.size)
    (hK : ∀ A' c' w', Owns w' B (.slice A' (n + m) c') (n + m) (xs ++ ys) → w.grownBy w' v.ownBlock →
      ((Value.slice A' (n + m) c').ownBlock = v.ownBlock ∨ (Value.slice A' (n + m) c').ownBlock = some w.heap.size) → K (a.put o.dst (.slice A' (n + m) c')) w') :
    if Region.wanted o (yielded ops a.tmps) = true then Oper.wp P o a w K Q else E := by
  have hw : Region.wanted o (yielded ops a.tmps) = true := by simp [Region.wanted, hgd]
  rw [if_pos hw]
  exact wp_append_ints w hP s x ho B n v xs hs hown A m c ys hx hA hy hm h hB hK
end

end Go.Proofs.YtojeggeimnenbaaDoor

namespace Go.Proofs.YtojeggeimnenbaaDoor
open Go Go.RowKit Go.Proofs.YtojeggeimnenbaaDoor.P

theorem run_make_list (n : Nat) (hn : n ≤ 35184372088832) (w : World) :
    (Instr.makeSlice 23 (.int .i64 n) (.int .i64 n)).run Tryd.prog w = .ok (.slice (some ⟨w.heap.size, 0, none⟩) n n) (w.alloc (.cells (madeCells #[.int .i64 0] n) 3)) := by
  obtain ⟨i0, hi, hz0, hz1, hz2⟩ := info_parts int_info
  have hr := run_make (P := Tryd.prog) w 23 3 i0 (.int .i64 0) Tryd.underlying23 hi hz0 .i64 .i64 n n (by omega) (by omega) (by rw [hz2]; omega) (by omega)
  rw [hz1] at hr
  simp only [Int.toNat_natCast, Nat.mul_one] at hr
  exact hr

theorem Box.apart {w : World} {b b' : Nat} {t t' : TypeId} {cs cs' : Array Value} (h : Box w b t cs) (h' : Box w b' t' cs') (ht : t ≠ t') : b ≠ b' := fun e => by
  subst e
  unfold Box at h h'
  rw [h] at h'
  injection h' with h'
  injection h' with _ h'
  exact ht h'
/-- The block of such a list. -/
def Row (w : World) (g : Nat) (xs : List Int) : Prop := Box w g 3 (xs.map (Value.int .i64)).toArray

theorem Row.made (w : World) (n : Nat) : Row (w.alloc (.cells (madeCells #[.int .i64 0] n) 3)) w.heap.size (List.replicate n 0) := by
  have e : madeCells #[.int .i64 0] n = ((List.replicate n (0 : Int)).map (Value.int .i64)).toArray := by
    apply Array.ext
    · simp [madeCells]
    · intro i h1 h2
      simp [madeCells, Nat.mod_one]
  unfold Row
  rw [← e]
  exact Box.new w _ _
theorem Row.at_ {w : World} {g : Nat} {xs : List Int} (h : Row w g xs) {k : Nat} {x : Int} (hk : xs[k]? = some x) : w.cell? ⟨g, k, none⟩ = some (.int .i64 x) := by
  rw [Box.cell h]
  simp [hk]
theorem Row.store {w : World} {g : Nat} {xs : List Int} (h : Row w g xs) (k : Nat) (x : Int) : Row (w.setCell ⟨g, k, none⟩ (.int .i64 x)) g (xs.set k x) := by
  have := Box.store h k (.int .i64 x)
  unfold Row
  rw [List.map_set]
  simpa using this
theorem Row.isInts {w : World} {g n : Nat} {xs : List Int} (h : Row w g xs) (hn : n = xs.length) (hl : n ≤ 17592186044416) : IsInts w (.slice (some ⟨g, 0, none⟩) n n) xs := Box.isInts h hn hl

theorem IsInts.open_ {w : World} {v : Value} {xs : List Int} (h : IsInts w v xs) : ∃ A c, v = .slice A xs.length c ∧ xs.length ≤ c ∧ c ≤ 9223372036854775807 ∧ xs.length ≤ 17592186044416 ∧ Elems w A xs ∧ IsInts w (.slice A xs.length c) xs := by
  obtain ⟨A, c, rfl, h1, h2, h3, h4, h5⟩ := h
  exact ⟨A, c, rfl, h1, h2, h3, h5, ⟨A, c, rfl, h1, h2, h3, h4, h5⟩⟩

end Go.Proofs.YtojeggeimnenbaaDoor

namespace Go.Proofs.YtojeggeimnenbaaDoor
open Go Go.RowKit Go.Proofs.YtojeggeimnenbaaDoor.P

set_option maxHeartbeats 400000 in
theorem ints_any (va vb : Value) (xs ys : List Int) (w : World) (ha : IsInts w va xs) (hb : IsInts w vb ys) :
    Calls Tryd.prog 16 #[va, vb] w (TellsB (xs = ys) w) := by
  obtain ⟨A, ca, rfl, a1, a2, a3, _, a4⟩ := ha
  obtain ⟨B, cb, rfl, b1, b2, b3, _, b4⟩ := hb
  have hA := Lib.hid a4
  have hB := Lib.hid b4
  clear a4 b4
  by_cases hl : xs.length = ys.length
  · go_enter Tryd.func16, Tryd.ntmps16
    have hlb : ((xs.length : Int) != (ys.length : Int)) = false := by simp [hl]
    have hll := Lib.hid hl
    clear hl
    go_wp2
    go_loopw [5] (fun i wr => ∃ k : Nat, k ≤ xs.length ∧ i = .int .i64 k ∧ SameTo k xs ys ∧ Below w.heap.size w wr) (fun i _ => xs.length - (intOf i).toNat)
    case atStart => exact ⟨0, Nat.zero_le _, rfl, SameTo.zero _ _, Below.refl _ _⟩
    case round =>
      obtain ⟨k, hk, rfl, hs, hbl⟩ := hrel
      rcases Nat.lt_or_ge k xs.length with hlt | hge
      · have hlt2 : k < ys.length := by have := hll.out; omega
        obtain ⟨ad, x, rfl, hx, _, hcx⟩ := (Elems.mono hA.out hbl).at_ hlt
        obtain ⟨bd, y, rfl, hy, _, hcy⟩ := (Elems.mono hB.out hbl).at_ hlt2
        have hx' := Lib.hid hx
        have hy' := Lib.hid hy
        clear hx hy
        by_cases hxy : x = y
        · subst hxy
          go_wp2
          go_quiet (fail)
          all_goals go_wp2
          go_roundw
          case rel => exact ⟨k + 1, by omega, by go_num, hs.succ hx'.out hy'.out, hbl.trans (below_draws _ _ _)⟩
          case measure => simp [intOf]; omega
        · have hne : ((x : Int) != y) = true := by simp [hxy]
          have hfin := Lib.hid (show xs ≠ ys from fun e => by have h1 := hx'.out; rw [e, hy'.out] at h1; exact hxy (by injection h1 with h1; exact h1.symm))
          clear hxy
          go_wp2
          go_quiet (fail)
          all_goals go_wp2
          go_ret
          exact tells_no rfl hfin.out (hbl.trans (below_draws _ _ _))
      · go_wp2
        go_ret
        exact tells_yes rfl (hs.all (by omega) (by have := hll.out; omega)) hbl
  · go_enter Tryd.func16, Tryd.ntmps16
    go_wp2
    go_ret
    have : ¬ xs = ys := fun e => hl (by rw [e])
    exact tells_no rfl this (Below.refl _ _)

theorem arr_eq_iff {a b : Arr} : a = b ↔ a.ch = b.ch ∧ a.sh = b.sh ∧ a.da = b.da := by
  obtain ⟨c, s, d⟩ := a
  obtain ⟨c', s', d'⟩ := b
  simp

set_option maxHeartbeats 400000 in
theorem array_any (va vb : Value) (a b : Arr) (w : World) (ha : IsArr w va a) (hb : IsArr w vb b) :
    Calls Tryd.prog 38 #[va, vb] w (TellsB (a = b) w) := by
  obtain ⟨s, d, rfl, hs, hd⟩ := ha
  obtain ⟨s', d', rfl, hs', hd'⟩ := hb
  by_cases hc : a.ch = b.ch
  · have hcb : (a.ch == b.ch) = true := by simp [hc]
    have H := Lib.hid hc
    clear hc
    go_enter Tryd.func38, Tryd.ntmps38
    go_wp2_with fail
    refine (ints_any _ _ _ _ _ (hs.mono (below_two _ _ _)) (hs'.mono (below_two _ _ _))).mono ?_
    rintro e w1 ⟨r, rfl, hr, hb1⟩
    have Hr := Lib.hid hr
    clear hr
    have hb2 := (below_two _ _ _).trans (hb1.mono (below_two w _ _).size)
    obtain ⟨hc1, hf1⟩ := bcell hb1
    go_wp2_with fail
    refine (ints_any _ _ _ _ _ (hd.mono hb2) (hd'.mono hb2)).mono ?_
    rintro e w2 ⟨r', rfl, hr', hb3⟩
    have Hr' := Lib.hid hr'
    clear hr'
    have hb4 := hb2.trans (hb3.mono hb2.size)
    cases r
    · go_wp2
      go_ret
      exact tells_no rfl (fun h => by have := Hr.out.2 (by rw [h]); cases this) hb4
    · cases r'
      · go_wp2
        go_ret
        exact tells_no rfl (fun h => by have := Hr'.out.2 (by rw [h]); cases this) hb4
      · go_wp2
        go_ret
        exact tells_yes rfl (arr_eq_iff.2 ⟨H.out, by simpa using Hr.out, by simpa using Hr'.out⟩) hb4
  · have hcb : (a.ch == b.ch) = false := by simp [hc]
    have H := Lib.hid hc
    clear hc
    go_enter Tryd.func38, Tryd.ntmps38
    go_wp2_with fail
    go_ret
    exact tells_no rfl (fun h => H.out (by rw [h])) (below_two _ _ _)

end Go.Proofs.YtojeggeimnenbaaDoor

namespace Go.Proofs.YtojeggeimnenbaaDoor
open Go Go.RowKit Go.Proofs.YtojeggeimnenbaaDoor.P

/-- A call tells a new list. -/
def Lists (xs : List Int) (w : World) (e : Ending) (w' : World) : Prop :=
  ∃ A c, e = .returned (.slice A xs.length c) ∧ Owns w' w.heap.size (.slice A xs.length c) xs.length xs ∧ Below w.heap.size w w'

theorem below_grown {w w1 w' : World} {v : Value} {n : Nat} {xs : List Int} (h : Below w.heap.size w w1) (ho : Owns w1 w.heap.size v n xs) (hg : w1.grownBy w' v.ownBlock) : Below w.heap.size w w' :=
  h.grown hg h.size fun _ hk => (ho.lt hk).1

set_option maxHeartbeats 400000 in
theorem clone_any (v : Value) (xs : List Int) (w : World) (ha : IsInts w v xs) : Calls Tryd.prog 34 #[v] w (Lists xs w) := by
  obtain ⟨A, c, rfl, a1, a2, a3, a0, a4⟩ := ha
  rcases A with _ | ad
  · have hc := a0 rfl
    subst hc
    have hx : xs = [] := List.eq_nil_of_length_eq_zero (by omega)
    subst hx
    clear a4 a0 a1 a2 a3
    have he := fun w => Lib.run_eql_slice_nil (P := Tryd.prog) w 23 3 none 0 0 0 0 Tryd.underlying23
    simp only [List.length_nil]
    go_enter Tryd.func34, Tryd.ntmps34
    go_wp2_with fail
    go_ret
    exact ⟨none, 0, rfl, Owns.nil _ _, Below.refl _ _⟩
  · have he := fun w => Lib.run_eql_slice_nil (P := Tryd.prog) w 23 3 (some ad) xs.length c 0 0 Tryd.underlying23
    have h4 := Lib.hid a4
    have h0 := Lib.hid a0
    have hown : Owns (w.alloc (.cells #[] 3)) w.heap.size (.slice (some ⟨w.heap.size, 0, none⟩) 0 0) 0 [] := ⟨World.ownsRow_made _ _ _ (Nat.le_refl _) (by unfold maxLen; omega) rfl, by omega⟩
    clear a4 a0
    go_enter Tryd.func34, Tryd.ntmps34
    go_wp2_with (at_builtin; refine wpList_append_ints _ rfl rfl _ _ rfl w.heap.size 0 _ [] rfl hown (some ad) xs.length c xs rfl h0.out (Elems.mono h4.out (below_one _ _)) rfl (by omega) (by simp) ?_; intro A' c' w' hown' hgrow hat)
    simp only [Nat.zero_add, List.nil_append] at hown'
    go_ret
    exact ⟨A', c', by simp, hown', below_grown (below_one _ _) hown hgrow⟩

theorem take_at {xs : List Int} {k : Nat} {x : Int} (h : xs[k]? = some x) : xs.take k ++ [x] = xs.take (k + 1) := by rw [List.take_add_one, h]; rfl

set_option maxHeartbeats 1000000 in
theorem vector_any (ch : Bool) (v : Value) (xs : List Int) (w : World) (ha : IsInts w v xs) :
    Calls Tryd.prog 44 #[.bool ch, v] w fun e w' => ∃ r, e = .returned r ∧ IsArr w' r ⟨ch, [(xs.length : Int)], xs⟩ ∧ Below w.heap.size w w' := by
  obtain ⟨X, c, rfl, a1, a2, a3, a0, a4⟩ := ha
  have h4 := Lib.hid a4
  clear a4 a0
  go_enter Tryd.func44, Tryd.ntmps44
  go_wp2
  go_loopw [6] (fun i wr => ∃ (k : Nat) (A : Option Addr) (c' : Nat), k ≤ xs.length ∧ i = .int .i64 k ∧ Box wr w.heap.size 25 #[.bool false, .slice none 0 0, .slice none 0 0] ∧
      Box wr (w.heap.size + 1) 3 #[.int .i64 xs.length] ∧ Box wr (w.heap.size + 1 + 1) 25 #[.bool ch, .slice (some ⟨w.heap.size + 1, 0, none⟩) 1 1, .slice A k c'] ∧
      Owns wr (w.heap.size + 3) (.slice A k c') k (xs.take k) ∧ Below w.heap.size w wr)
    (fun i _ => xs.length - (intOf i).toNat)
  case atStart => exact ⟨0, none, 0, Nat.zero_le _, rfl, ((Box.new _ _ _).alloc _).alloc _, (by simpa using (Box.new (w.alloc _) 3 #[.int .i64 xs.length]).alloc _), (by simpa using Box.new ((w.alloc _).alloc _) 25 _), Owns.nil _ _, below_three _ _ _ _⟩
  case round =>
    obtain ⟨k, A, c', hk, rfl, b1, b2, b3, hown, hbl⟩ := hrel
    rcases Nat.lt_or_ge k xs.length with hlt | hge
    · obtain ⟨ad, x, rfl, hx, hal, hcx⟩ := Elems.later h4.out hbl hlt
      have hx' := Lib.hid hx
      clear hx
      obtain ⟨-, -, hc3⟩ := b3.three
      have hf3 := b3.frozen 2
      have hne := hown.ne_box b3 (by decide)
      have hne2 := hown.ne_low (b := ad.block) (by omega)
      have hs3 := b3.lt
      go_wp2_with fail
      go_region_law
        ((refine step_append_ints _ rfl rfl _ _ (by rfl) (w.heap.size + 3) k _ (xs.take k) (by rfl) ((hown.alloc _).drew) (some ⟨wr.heap.size, 0, none⟩) 1 1 [x] (by rfl) (by simp) (elems_new wr x) rfl (by omega) (by simp; omega) ?_; intro A2 c2 w1 hown1 hgrow hat; have b3' := ((b3.alloc _).drew).grown hgrow hne; have hc1 := b3'.three.2.2; have hf1 := b3'.frozen 2; have hk1 := cell_kept1 hcx hgrow (by rw [addr_block_add]; exact hne2)))
      all_goals
        go_wp2
        go_roundw
        case rel => exact ⟨k + 1, A2, c2, by omega, by go_num, (((b1.alloc _).drew).grown hgrow (hown.ne_box b1 (by decide))).far (p := ⟨w.heap.size + 1 + 1, 2, none⟩) (by simp; omega) _, (((b2.alloc _).drew).grown hgrow (hown.ne_low (by omega))).far (p := ⟨w.heap.size + 1 + 1, 2, none⟩) (by simp) _, b3'.store 2 _, by rw [← take_at hx'.out]; exact hown1.setCell (p := ⟨w.heap.size + 1 + 1, 2, none⟩) (hown1.ne_box b3' (by decide)) _, ((((hbl.alloc hbl.size _).drew).grown hgrow (by simp; have := hbl.size; omega) (fun _ hk' => by have := (hown.lt hk').1; omega))).setCell (p := ⟨w.heap.size + 1 + 1, 2, none⟩) (by simp; omega) _⟩
        case measure => simp [intOf]; omega
    · obtain ⟨p0, p1, p2⟩ := b3.three
      obtain ⟨q0, q1, q2⟩ := b1.three
      have f1 := b1.frozen
      have hkk : k = xs.length := by omega
      have HK := Lib.hid hkk
      clear hkk
      go_wp2
      refine bodyPost_ret (v := .agg #[.bool ch, .slice (some ⟨w.heap.size + 1, 0, none⟩) 1 1, .slice A k c']) (by simp [results, Tryd.results44, go_sem, q0, q1, q2]) rfl ?_
      have hg := grownBy_three wr w.heap.size (.bool ch) (.slice (some ⟨w.heap.size + 1, 0, none⟩) 1 1) (.slice A k c')
      have hd := ((hown.kept hg (.inr (hown.ne_low (by omega)))).base (B' := w.heap.size) (by omega)).isInts
      rw [List.take_of_length_le (by omega)] at hd
      exact ⟨_, rfl, ⟨_, _, rfl, (b2.grown hg (by simp)).isInts (xs := [(xs.length : Int)]) rfl (by omega), hd⟩, hbl.grown hg hbl.size (fun j e => by cases e; omega)⟩

set_option maxHeartbeats 400000 in
theorem vec_any (v : Value) (xs : List Int) (w : World) (ha : IsInts w v xs) :
    Calls Tryd.prog 20 #[v] w fun e w' => ∃ r, e = .returned r ∧ IsArr w' r ⟨false, [(xs.length : Int)], xs⟩ ∧ Below w.heap.size w w' := by
  go_enter Tryd.func20, Tryd.ntmps20
  go_wp2_with fail
  refine (vector_any _ _ xs _ (ha.mono (below_one _ _))).mono ?_
  rintro e w1 ⟨r, rfl, hr, hb⟩
  obtain ⟨A, ca, D, cd, rfl, hs, hd⟩ := hr.open_
  have b0 := (Box.new w 25 #[.bool false, .slice none 0 0, .slice none 0 0]).below hb
  obtain ⟨q0, q1, q2⟩ := b0.three
  have f0 := b0.frozen
  go_wp2
  have hg := grownBy_three w1 w.heap.size (.bool false) (.slice A [(xs.length : Int)].length ca) (.slice D xs.length cd)
  refine bodyPost_ret (v := .agg #[.bool false, .slice A [(xs.length : Int)].length ca, .slice D xs.length cd]) (by simp [results, Tryd.results20, go_sem, q0, q1, q2]) rfl ?_
  exact ⟨_, rfl, ⟨_, _, rfl, hs.off hg b0 (noInts_arr _ _ _ _ _ _ _), hd.off hg b0 (noInts_arr _ _ _ _ _ _ _)⟩, ((below_one _ _).trans (hb.mono (by simp))).grown hg (by have := hb.size; simp at this; omega) (fun j e => by cases e; omega)⟩

end Go.Proofs.YtojeggeimnenbaaDoor

namespace Go.Proofs.YtojeggeimnenbaaDoor
open Go Go.RowKit Go.Proofs.YtojeggeimnenbaaDoor.P

/-- These cells bear these numbers. -/
def Bears (cs : Array Value) (xs : List Int) : Prop := ∀ (k : Nat) (x : Int), xs[k]? = some x → cs[k]? = some (.int .i64 x)
theorem Bears.set {cs : Array Value} {xs : List Int} (h : Bears cs xs) (i : Nat) (x : Int) : Bears (cs.setIfInBounds i (.int .i64 x)) (xs.set i x) := fun k y hk => by
  rw [List.getElem?_set] at hk
  rw [Array.getElem?_setIfInBounds]
  by_cases e : i = k
  · subst e
    rw [if_pos rfl] at hk ⊢
    by_cases hl : i < xs.length
    · rw [if_pos hl] at hk
      injection hk with hk
      have := h i _ (List.getElem?_eq_getElem hl)
      rw [if_pos (Array.getElem?_eq_some_iff.1 this).1, hk]
    · rw [if_neg hl] at hk; cases hk
  · rw [if_neg e] at hk ⊢
    exact h k y hk

theorem addr_zero_add (g k : Nat) : (⟨g, 0, none⟩ : Addr).add k = ⟨g, k, none⟩ := by
  unfold Addr.add
  by_cases h : k = 0 <;> simp [h]
/-- A list of n numbers in a block of its own. -/
def Mine (w : World) (g n c : Nat) (xs : List Int) : Prop := ∃ cs, Box w g 3 cs ∧ Bears cs xs ∧ xs.length = n ∧ n ≤ c ∧ c ≤ 9223372036854775807 ∧ n ≤ 17592186044416
theorem Owns.mine {w : World} {B : Nat} {A : Option Addr} {n c : Nat} {xs : List Int} (h : Owns w B (.slice A n c) n xs) (hn : 0 < n) : ∃ g, A = some ⟨g, 0, none⟩ ∧ B ≤ g ∧ Mine w g n c xs := by
  have hl := h.length
  have h2 := h.2
  rcases h.1.2 with ⟨e, h0⟩ | ⟨g, cap, cur, e, hb, hg, hn', hm, -⟩
  · omega
  · injection e with e1 e2 e3
    subst e1 e3
    refine ⟨g, rfl, hb, cur, hg, fun k x hk => ?_, hl, hn', by unfold maxLen at hm; omega, h2⟩
    have hc := h.1.cells (g := g) rfl k (.int .i64 x) (by simp [nums, hk])
    rw [addr_zero_add, Box.cell (show Box w g 3 cur from hg)] at hc
    exact hc
theorem Mine.isInts {w : World} {g n c : Nat} {xs : List Int} (h : Mine w g n c xs) : IsInts w (.slice (some ⟨g, 0, none⟩) n c) xs := by
  obtain ⟨cs, hb, hc, rfl, h1, h2, h3⟩ := h
  refine ⟨some ⟨g, 0, none⟩, c, rfl, h1, h2, h3, (fun e => by cases e), fun k x hk => ⟨⟨g, 0, none⟩, rfl, Box.lt hb, ?_⟩⟩
  rw [addr_zero_add, Box.cell hb]
  exact hc k x hk
theorem Mine.store {w : World} {g n c : Nat} {xs : List Int} (h : Mine w g n c xs) (i : Nat) (x : Int) : Mine (w.setCell ⟨g, i, none⟩ (.int .i64 x)) g n c (xs.set i x) := by
  obtain ⟨cs, hb, hc, hl, h1, h2, h3⟩ := h
  exact ⟨_, Box.store hb i _, hc.set i x, by simp [hl], h1, h2, h3⟩
theorem Mine.cell {w : World} {g n c : Nat} {xs : List Int} (h : Mine w g n c xs) {k : Nat} {x : Int} (hk : xs[k]? = some x) : w.cell? ⟨g, k, none⟩ = some (.int .i64 x) := by
  obtain ⟨cs, hb, hc, -⟩ := h
  rw [Box.cell hb]
  exact hc k x hk
theorem Mine.frozen {w : World} {g n c : Nat} {xs : List Int} (h : Mine w g n c xs) (k : Nat) : w.frozen? ⟨g, k, none⟩ = false := by
  obtain ⟨cs, hb, -⟩ := h
  exact Box.frozen hb k
theorem Mine.lt {w : World} {g n c : Nat} {xs : List Int} (h : Mine w g n c xs) : g < w.heap.size := by
  obtain ⟨cs, hb, -⟩ := h
  exact Box.lt hb
theorem Mine.mono {w w' : World} {g n c : Nat} {xs : List Int} (h : Mine w g n c xs) (hb : Below w.heap.size w w') : Mine w' g n c xs := by
  obtain ⟨cs, h0, h1⟩ := h
  exact ⟨cs, Box.below h0 hb, h1⟩
theorem Mine.drewN {w : World} {g n c : Nat} {xs : List Int} (h : Mine w g n c xs) (k : Nat) : Mine (w.drewN k) g n c xs := h

end Go.Proofs.YtojeggeimnenbaaDoor

namespace Go.Proofs.YtojeggeimnenbaaDoor
open Go Go.RowKit Go.Proofs.YtojeggeimnenbaaDoor.P

/-- Two lists that do not lie in one block. -/
def ApartV (v v' : Value) : Prop := ∀ m, v.ownBlock = some m → v'.ownBlock ≠ some m
theorem ApartV.symm {v v' : Value} (h : ApartV v v') : ApartV v' v := fun m h1 h2 => h m h2 h1

/-- x, y: the two operations that make lists; al: whose value an operation hands on. V: what is known of what an operation yields. -/
def PairInv (V : Nat → Value → World → Prop) (W : World) (x y : Nat) (al : Nat → Nat) (done : Nat → Bool) (u : Nat → Value) (wr : World) : Prop :=
  Below W.heap.size W wr ∧ (∀ j, done j = true → V j (u j) wr) ∧ (done x = true → done y = true → ApartV (u x) (u y)) ∧ (∀ j, done j = true → done (al j) = true ∧ u j = u (al j))

theorem PairInv.start (V : Nat → Value → World → Prop) (W : World) (x y : Nat) (al : Nat → Nat) : ∀ u, PairInv V W x y al (fun _ => false) u W.drew :=
  fun u => ⟨(Below.refl _ _).drew, (fun j h => by simp at h), (fun h => by simp at h), (fun j h => by simp at h)⟩

theorem alias_step {al : Nat → Nat} {done : Nat → Bool} {u : Nat → Value} {i : Nat} {v : Value} (h : ∀ j, done j = true → done (al j) = true ∧ u j = u (al j)) (hn : done i = false) (hal : al i = i ∨ (done (al i) = true ∧ v = u (al i))) :
    ∀ j, did done i j = true → did done i (al j) = true ∧ upd u i v j = upd u i v (al j) := by
  intro j hj
  by_cases hji : j = i
  · subst hji
    rcases hal with e | ⟨e1, e2⟩
    · rw [e]; exact ⟨did_same _ _, rfl⟩
    · have hne : al j ≠ j := fun e => by rw [e, hn] at e1; cases e1
      rw [did_other _ hne, upd_same, upd_other _ _ hne]
      exact ⟨e1, e2⟩
  · rw [did_other _ hji] at hj
    obtain ⟨h1, h2⟩ := h j hj
    have hne : al j ≠ i := fun e => by rw [e, hn] at h1; cases h1
    rw [did_other _ hne, upd_other _ _ hji, upd_other _ _ hne]
    exact ⟨h1, h2⟩

theorem PairInv.keep {V : Nat → Value → World → Prop} {W wr w' : World} {x y i : Nat} {al : Nat → Nat} {done : Nat → Bool} {u : Nat → Value} {v : Value} (h : PairInv V W x y al done u wr) (hn : done i = false) (hx : i ≠ x) (hy : i ≠ y)
    (hV : ∀ j v w w', V j v w → Below w.heap.size w w' → V j v w') (hb : Below wr.heap.size wr w') (hv : V i v w') (hal : al i = i ∨ (done (al i) = true ∧ v = u (al i))) : PairInv V W x y al (did done i) (upd u i v) w' := by
  obtain ⟨h1, h2, h3, h4⟩ := h
  refine ⟨h1.trans (hb.mono h1.size), fun j hj => ?_, fun hx' hy' => ?_, alias_step h4 hn hal⟩
  · by_cases hji : j = i
    · subst hji
      rw [upd_same]
      exact hv
    · rw [did_other _ hji] at hj
      rw [upd_other _ _ hji]
      exact hV _ _ _ _ (h2 j hj) hb
  · rw [did_other _ (Ne.symm hx)] at hx'
    rw [did_other _ (Ne.symm hy)] at hy'
    rw [upd_other _ _ (Ne.symm hx), upd_other _ _ (Ne.symm hy)]
    exact h3 hx' hy'

/-- One of the two is made: its block is new. -/
theorem PairInv.made {V : Nat → Value → World → Prop} {W wr w' : World} {x y i : Nat} {al : Nat → Nat} {done : Nat → Bool} {u : Nat → Value} {v : Value} (h : PairInv V W x y al done u wr) (hn : done i = false) (hxy : x ≠ y) (hi : i = x ∨ i = y) (hai : al i = i)
    (hV : ∀ j v w w', V j v w → Below w.heap.size w w' → V j v w') (hlt : ∀ j v m, (j = x ∨ j = y) → V j v wr → v.ownBlock = some m → m < wr.heap.size)
    (hb : Below wr.heap.size wr w') (hnew : ∀ m, v.ownBlock = some m → wr.heap.size ≤ m) (hv : V i v w') : PairInv V W x y al (did done i) (upd u i v) w' := by
  obtain ⟨h1, h2, h3, h4⟩ := h
  refine ⟨h1.trans (hb.mono h1.size), fun j hj => ?_, fun hx' hy' => ?_, alias_step h4 hn (.inl hai)⟩
  · by_cases hji : j = i
    · subst hji
      rw [upd_same]
      exact hv
    · rw [did_other _ hji] at hj
      rw [upd_other _ _ hji]
      exact hV _ _ _ _ (h2 j hj) hb
  · rcases hi with rfl | rfl
    · rw [upd_same, upd_other _ _ (Ne.symm hxy)]
      rw [did_other _ (Ne.symm hxy)] at hy'
      intro m e1 e2
      have := hlt y _ m (.inr rfl) (h2 y hy') e2
      have := hnew m e1
      omega
    · rw [upd_same, upd_other _ _ hxy]
      rw [did_other _ hxy] at hx'
      intro m e1 e2
      have := hlt x _ m (.inl rfl) (h2 x hx') e1
      have := hnew m e2
      omega

/-- A list filled as far as k. -/
def FillTo (X : List Int) (k : Nat) : List Int := X.take k ++ List.replicate (X.length - k) 0
theorem fillTo_zero (X : List Int) : FillTo X 0 = List.replicate X.length 0 := by simp [FillTo]
theorem fillTo_all (X : List Int) : FillTo X X.length = X := by simp [FillTo]
theorem fillTo_length (X : List Int) {k : Nat} (h : k ≤ X.length) : (FillTo X k).length = X.length := by simp [FillTo]; omega
theorem fillTo_set {X : List Int} {k : Nat} {x : Int} (h : X[k]? = some x) : (FillTo X k).set k x = FillTo X (k + 1) := by
  have hk := (List.getElem?_eq_some_iff.1 h).1
  unfold FillTo
  rw [List.set_append_right _ _ (by rw [List.length_take]; omega), List.take_add_one, h, show X.length - k = (X.length - (k + 1)) + 1 by omega, List.replicate_succ]
  rw [List.length_take, show k - min k X.length = 0 by omega]
  simp
theorem fillTo_skip {X : List Int} {k : Nat} (h : X[k]? = some 0) : FillTo X k = FillTo X (k + 1) := by
  have hk := (List.getElem?_eq_some_iff.1 h).1
  unfold FillTo
  rw [List.take_add_one, h, show X.length - k = (X.length - (k + 1)) + 1 by omega, List.replicate_succ]
  simp
theorem fillTo_at {X : List Int} {k : Nat} (h : k < X.length) : (FillTo X k)[k]? = some 0 := by
  unfold FillTo
  rw [List.getElem?_append_right (by rw [List.length_take]; omega), List.length_take, show k - min k X.length = 0 by omega]
  rw [List.getElem?_replicate, if_pos (by omega)]

/-- The first k of X, the others of Y. -/
def MixTo (X Y : List Int) (k : Nat) : List Int := X.take k ++ Y.drop k
theorem mix_zero (X Y : List Int) : MixTo X Y 0 = Y := by simp [MixTo]
theorem mix_all {X Y : List Int} {n : Nat} (hx : X.length = n) (hy : Y.length = n) : MixTo X Y n = X := by
  unfold MixTo
  rw [List.take_of_length_le (by omega), List.drop_of_length_le (by omega), List.append_nil]
theorem mix_at {X Y : List Int} {k : Nat} (hk : k ≤ X.length) : (MixTo X Y k)[k]? = Y[k]? := by
  unfold MixTo
  rw [List.getElem?_append_right (by rw [List.length_take]; omega), List.length_take, Nat.min_eq_left hk, Nat.sub_self, List.getElem?_drop, Nat.add_zero]
theorem mix_set {X Y : List Int} {k : Nat} {x : Int} (h : X[k]? = some x) (hy : k < Y.length) : (MixTo X Y k).set k x = MixTo X Y (k + 1) := by
  have hk := (List.getElem?_eq_some_iff.1 h).1
  unfold MixTo
  rw [List.set_append_right _ _ (by rw [List.length_take]; omega), List.take_add_one, h, List.length_take, show k - min k X.length = 0 by omega]
  rw [List.drop_eq_getElem_cons hy]
  simp only [List.set_cons_zero, Option.toList_some, List.append_assoc, List.singleton_append]
theorem mix_length {X Y : List Int} {k n : Nat} (hx : X.length = n) (hy : Y.length = n) (hk : k ≤ n) : (MixTo X Y k).length = n := by
  unfold MixTo
  rw [List.length_append, List.length_take, List.length_drop]
  omega

/-- A list of n numbers that the call may write; where there is one it lies in a block of its own. -/
def SRow (w : World) (B : Nat) (A : Option Addr) (n c : Nat) (S : List Int) : Prop :=
  S.length = n ∧ (A = none → c = 0) ∧ n ≤ c ∧ c ≤ 9223372036854775807 ∧ n ≤ 17592186044416 ∧ (0 < n → ∃ g, A = some ⟨g, 0, none⟩ ∧ B ≤ g ∧ Mine w g n c S)
theorem Owns.srow {w : World} {B : Nat} {A : Option Addr} {n c : Nat} {xs : List Int} (h : Owns w B (.slice A n c) n xs) : SRow w B A n c xs := by
  obtain ⟨A', c', e, h1, h2, h3, -⟩ := h.form
  injection e with e1 e2 e3
  subst e1 e3
  exact ⟨h.length, h3, h1, h2, h.2, fun hn => h.mine hn⟩
theorem SRow.isInts {w : World} {B : Nat} {A : Option Addr} {n c : Nat} {S : List Int} (h : SRow w B A n c S) : IsInts w (.slice A n c) S := by
  obtain ⟨h1, h2, h3, h4, h5, h6⟩ := h
  rcases Nat.eq_zero_or_pos n with h0 | h0
  · subst h0
    have : S = [] := List.eq_nil_of_length_eq_zero h1
    subst this
    exact ⟨A, c, rfl, by simp, h4, by simp, h2, fun k x hk => by simp at hk⟩
  · obtain ⟨g, rfl, _, hm⟩ := h6 h0
    exact hm.isInts
theorem SRow.mono {w w' : World} {B : Nat} {A : Option Addr} {n c : Nat} {S : List Int} (h : SRow w B A n c S) (hb : Below w.heap.size w w') : SRow w' B A n c S := by
  obtain ⟨h1, h2, h3, h4, h5, h6⟩ := h
  exact ⟨h1, h2, h3, h4, h5, fun h0 => by obtain ⟨g, e, hB, hm⟩ := h6 h0; exact ⟨g, e, hB, hm.mono hb⟩⟩
theorem Mine.far {w : World} {g n c : Nat} {xs : List Int} (h : Mine w g n c xs) {p : Addr} (hp : g ≠ p.block) (u : Value) : Mine (w.setCell p u) g n c xs := by
  obtain ⟨cs, hb, h1⟩ := h
  exact ⟨cs, Box.far hb hp u, h1⟩
theorem SRow.far {w : World} {B : Nat} {A : Option Addr} {n c : Nat} {S : List Int} (h : SRow w B A n c S) {p : Addr} (hp : ∀ g, A = some ⟨g, 0, none⟩ → g ≠ p.block) (u : Value) : SRow (w.setCell p u) B A n c S := by
  obtain ⟨h1, h2, h3, h4, h5, h6⟩ := h
  exact ⟨h1, h2, h3, h4, h5, fun h0 => by obtain ⟨g, e, hB, hm⟩ := h6 h0; exact ⟨g, e, hB, hm.far (hp g e) u⟩⟩
theorem Mine.srow {w : World} {B g n c : Nat} {xs : List Int} (h : Mine w g n c xs) (hB : B ≤ g) : SRow w B (some ⟨g, 0, none⟩) n c xs := by
  obtain ⟨cs, hb, hc, hl, h1, h2, h3⟩ := id h
  exact ⟨hl, (fun e => by cases e), h1, h2, h3, fun _ => ⟨g, rfl, hB, h⟩⟩

/-- A call tells an array, or an error. -/
def Told (a : Arr) (k : Int) (w : World) (e : Ending) (w' : World) : Prop := (k = 0 ∧ GivesOk a w e w') ∨ (k ≠ 0 ∧ Fails zeroArr k w e w')
theorem Told.ok {a : Arr} {k : Int} {w w' : World} {e : Ending} (h : Told a k w e w') (hk : k = 0) : GivesOk a w e w' := by
  rcases h with h | h
  · exact h.2
  · exact absurd hk h.1
theorem Told.bad {a : Arr} {k : Int} {w w' : World} {e : Ending} (h : Told a k w e w') (hk : k ≠ 0) : Fails zeroArr k w e w' := by
  rcases h with h | h
  · exact absurd h.1 hk
  · exact h.2

end Go.Proofs.YtojeggeimnenbaaDoor

namespace Go.Proofs.YtojeggeimnenbaaDoor
open Go Go.RowKit Go.Proofs.YtojeggeimnenbaaDoor.P

theorem IsArr.shapeOf {w : World} {b : Bool} {s d : Value} {a : Arr} (h : IsArr w (.agg #[.bool b, s, d]) a) : IsInts w s a.sh := by
  obtain ⟨s', d', e, h1, h2⟩ := h
  injection e with e
  injection e with e
  injection e with _ e
  injection e with e e2
  subst e
  exact h1
theorem IsArr.dataOf {w : World} {b : Bool} {s d : Value} {a : Arr} (h : IsArr w (.agg #[.bool b, s, d]) a) : IsInts w d a.da := by
  obtain ⟨s', d', e, h1, h2⟩ := h
  injection e with e
  injection e with e
  injection e with _ e
  injection e with _ e
  injection e with e _
  subst e
  exact h2

/-- An array whose lists lie in blocks from B on. -/
def NewV (B : Nat) (v : Value) : Prop := ∃ b A n c D m d, v = .agg #[.bool b, .slice A n c, .slice D m d] ∧ (∀ k, (Value.slice A n c).ownBlock = some k → B ≤ k) ∧ (∀ k, (Value.slice D m d).ownBlock = some k → B ≤ k)
theorem NewV.low {B B' : Nat} {v : Value} (h : NewV B v) (hB : B' ≤ B) : NewV B' v := by
  obtain ⟨b, A, n, c, D, m, d, e, h1, h2⟩ := h
  exact ⟨b, A, n, c, D, m, d, e, fun k hk => Nat.le_trans hB (h1 k hk), fun k hk => Nat.le_trans hB (h2 k hk)⟩
theorem IsInts.away {w : World} {v : Value} {xs : List Int} (h : IsInts w v xs) {g k : Nat} (hg : v.ownBlock ≠ some g) (u : Value) : IsInts (w.setCell ⟨g, k, none⟩ u) v xs :=
  h.grown (grownBy_setCell w g k u) fun A n c e e2 => hg (by rw [e, ← e2]; rfl)
theorem IsArr.away {w : World} {v : Value} {a : Arr} (h : IsArr w v a) {B : Nat} (hn : NewV B v) {g k : Nat} (hg : g < B) (u : Value) : IsArr (w.setCell ⟨g, k, none⟩ u) v a := by
  obtain ⟨s, d, e, h1, h2⟩ := h
  obtain ⟨b, A, n, c, D, m, d', e', n1, n2⟩ := hn
  rw [e] at e'
  injection e' with e'
  injection e' with e'
  injection e' with _ e'
  injection e' with e1 e'
  injection e' with e2 _
  subst e1 e2
  exact ⟨_, _, e, h1.away (fun x => by have := n1 _ x; omega) u, h2.away (fun x => by have := n2 _ x; omega) u⟩

def GivesN (a : Arr) (w : World) (e : Ending) (w' : World) : Prop := ∃ r, e = .returned r ∧ IsArr w' r a ∧ Below w.heap.size w w' ∧ NewV w.heap.size r
def GivesOkN (a : Arr) (w : World) (e : Ending) (w' : World) : Prop := ∃ r, e = .returned (.tuple #[r, .nilIface]) ∧ IsArr w' r a ∧ Below w.heap.size w w' ∧ NewV w.heap.size r
theorem GivesN.old {a : Arr} {w w' : World} {e : Ending} (h : GivesN a w e w') : Gives a w e w' := by
  obtain ⟨r, h1, h2, h3, _⟩ := h
  exact ⟨r, h1, h2, h3⟩
theorem GivesOkN.old {a : Arr} {w w' : World} {e : Ending} (h : GivesOkN a w e w') : GivesOk a w e w' := by
  obtain ⟨r, h1, h2, h3, _⟩ := h
  exact ⟨r, h1, h2, h3⟩

/-- A call tells an array in new blocks, or an error. -/
def ToldN (a : Arr) (k : Int) (w : World) (e : Ending) (w' : World) : Prop := (k = 0 ∧ GivesOkN a w e w') ∨ (k ≠ 0 ∧ Fails zeroArr k w e w')
theorem ToldN.ok {a : Arr} {k : Int} {w w' : World} {e : Ending} (h : ToldN a k w e w') (hk : k = 0) : GivesOkN a w e w' := by
  rcases h with h | h
  · exact h.2
  · exact absurd hk h.1

end Go.Proofs.YtojeggeimnenbaaDoor

namespace Go.Proofs.YtojeggeimnenbaaDoor.P

theorem ints_getD {s : List Nat} {k : Nat} {x : Int} (h : (ints s)[k]? = some x) : x = (s.getD k 0 : Nat) ∧ k < s.length := by
  rw [getElem?_ints, Option.map_eq_some_iff] at h
  obtain ⟨n, hn, rfl⟩ := h
  have := (List.getElem?_eq_some_iff.1 hn).1
  exact ⟨by rw [List.getD_eq_getElem?_getD, hn]; rfl, this⟩
theorem ints_get {s : List Nat} {k : Nat} (h : k < s.length) : (ints s)[k]? = some ((s.getD k 0 : Nat) : Int) := by
  rw [getElem?_ints, List.getD_eq_getElem?_getD, List.getElem?_eq_getElem h]
  rfl
end Go.Proofs.YtojeggeimnenbaaDoor.P

namespace Go.Proofs.YtojeggeimnenbaaDoor
open Go Go.RowKit Go.Proofs.YtojeggeimnenbaaDoor.P

/-- The cells that an array's struct lies in. -/
def Filled (val ptr : Value) (w : World) : Prop :=
  ∀ g b A n c D m d, ptr = .pointer (some ⟨g, 0, none⟩) → val = .agg #[.bool b, .slice A n c, .slice D m d] → Box w g 25 #[.bool b, .slice A n c, .slice D m d]
theorem Filled.below {val ptr : Value} {w w' : World} {B : Nat} (h : Filled val ptr w) (hb : Below w.heap.size w w') : Filled val ptr w' := fun g b A n c D m d e1 e2 => (h g b A n c D m d e1 e2).below hb

/-- s: the store; x: the value; p: the new variable. V: what is known of what an operation yields. -/
def StoreInv (V : Nat → Value → World → Prop) (W : World) (s x p : Nat) (done : Nat → Bool) (u : Nat → Value) (wr : World) : Prop :=
  Below W.heap.size W wr ∧ (∀ j, done j = true → V j (u j) wr) ∧ (done s = true → done x = true ∧ done p = true ∧ Filled (u x) (u p) wr)

theorem StoreInv.keep {V : Nat → Value → World → Prop} {W wr w' : World} {s x p i : Nat} {done : Nat → Bool} {u : Nat → Value} {v : Value} (h : StoreInv V W s x p done u wr) (hn : done i = false) (hi : i ≠ s)
    (hV : ∀ j v w w', V j v w → Below w.heap.size w w' → V j v w') (hb : Below wr.heap.size wr w') (hv : V i v w') : StoreInv V W s x p (did done i) (upd u i v) w' := by
  obtain ⟨h1, h2, h3⟩ := h
  refine ⟨h1.trans (hb.mono h1.size), fun j hj => ?_, fun hs => ?_⟩
  · by_cases hji : j = i
    · subst hji
      rw [upd_same]
      exact hv
    · rw [did_other _ hji] at hj
      rw [upd_other _ _ hji]
      exact hV _ _ _ _ (h2 j hj) hb
  · rw [did_other _ (Ne.symm hi)] at hs
    obtain ⟨hx, hp, hf⟩ := h3 hs
    have hxi : x ≠ i := fun e => by rw [e, hn] at hx; cases hx
    have hpi : p ≠ i := fun e => by rw [e, hn] at hp; cases hp
    rw [did_other _ hxi, did_other _ hpi, upd_other _ _ hxi, upd_other _ _ hpi]
    exact ⟨hx, hp, fun g b A n c D m d e1 e2 => (hf g b A n c D m d e1 e2).below hb⟩

theorem StoreInv.store {V : Nat → Value → World → Prop} {W wr w' : World} {s x p : Nat} {done : Nat → Bool} {u : Nat → Value} {v : Value} (h : StoreInv V W s x p done u wr) (hn : done s = false)
    (hx : done x = true) (hp : done p = true) (hV : ∀ j v, V j v wr → V j v w') (hb : Below W.heap.size W w') (hv : V s v w') (hF : Filled (u x) (u p) w') : StoreInv V W s x p (did done s) (upd u s v) w' := by
  obtain ⟨h1, h2, h3⟩ := h
  have hxs : x ≠ s := fun e => by rw [e, hn] at hx; cases hx
  have hps : p ≠ s := fun e => by rw [e, hn] at hp; cases hp
  refine ⟨hb, fun j hj => ?_, fun _ => ?_⟩
  · by_cases hji : j = s
    · subst hji
      rw [upd_same]
      exact hv
    · rw [did_other _ hji] at hj
      rw [upd_other _ _ hji]
      exact hV _ _ (h2 j hj)
  · rw [did_other _ hxs, did_other _ hps, upd_other _ _ hxs, upd_other _ _ hps]
    exact ⟨hx, hp, hF⟩

/-- A new variable of that type, whatever lies in it. -/
def NewVar (W : World) (v : Value) (w : World) : Prop :=
  ∃ g b A n c D m d, v = .pointer (some ⟨g, 0, none⟩) ∧ W.heap.size ≤ g ∧ Box w g 25 #[.bool b, .slice A n c, .slice D m d]
theorem NewVar.below {W w w' : World} {v : Value} (h : NewVar W v w) (hb : Below w.heap.size w w') : NewVar W v w' := by
  obtain ⟨g, b, A, n, c, D, m, d, e, hg, hx⟩ := h
  exact ⟨g, b, A, n, c, D, m, d, e, hg, hx.below hb⟩

theorem IsArr.laid {w : World} {v : Value} {a : Arr} {g : Nat} {t : TypeId} {b : Bool} {A D : Option Addr} {n c m d : Nat} (h : IsArr w v a) (hb : Box w g t #[.bool b, .slice A n c, .slice D m d]) (u0 u1 u2 : Value) :
    IsArr (((w.setCell ⟨g, 0, none⟩ u0).setCell ⟨g, 1, none⟩ u1).setCell ⟨g, 2, none⟩ u2) v a := by
  obtain ⟨s, x, e, h1, h2⟩ := h
  exact ⟨s, x, e, h1.off (grownBy_three _ _ _ _ _) hb (noInts_arr _ _ _ _ _ _ _), h2.off (grownBy_three _ _ _ _ _) hb (noInts_arr _ _ _ _ _ _ _)⟩

theorem NewVar.laid {W w : World} {v : Value} {g : Nat} {b b' : Bool} {A D A' D' : Option Addr} {n c m d n' c' m' d' : Nat} (h : NewVar W v w) (hb : Box w g 25 #[.bool b, .slice A n c, .slice D m d]) :
    NewVar W v (((w.setCell ⟨g, 0, none⟩ (.bool b')).setCell ⟨g, 1, none⟩ (.slice A' n' c')).setCell ⟨g, 2, none⟩ (.slice D' m' d')) := by
  obtain ⟨g2, b2, A2, n2, c2, D2, m2, d2, e, hg, hx⟩ := h
  by_cases hgg : g2 = g
  · subst hgg
    refine ⟨g2, b', A', n', c', D', m', d', e, hg, ?_⟩
    simpa using ((hx.store 0 (.bool b')).store 1 (.slice A' n' c')).store 2 (.slice D' m' d')
  · exact ⟨g2, b2, A2, n2, c2, D2, m2, d2, e, hg, hx.grown (grownBy_three _ _ _ _ _) (fun e => hgg (by injection e with e; exact e.symm))⟩

end Go.Proofs.YtojeggeimnenbaaDoor

namespace Go.Proofs.YtojeggeimnenbaaDoor
open Go Go.RowKit

section
variable {P : Program} {ops : Array Oper} {Q : Exit → Act → World → Prop} {md : Region.Mode}

/-- All edges lead back; ahead of n each operation has one that waits for it, no later than n; behind n each waits for the one ahead of it. -/
def gateB (md : Region.Mode) (ops : Array Oper) (n : Nat) : Bool :=
  (List.range ops.size).all fun i =>
    (match ops[i]? with | some o => o.after.all fun e => decide (e.on < i) | none => false) &&
    (if i < n then (List.range (n + 1)).any fun k => decide (i < k) && (match ops[k]? with | some o => o.after.any fun e => Region.binds md e && decide (e.on = i) | none => false)
     else decide (i = n) || (match ops[i]? with | some o => o.after.any fun e => Region.binds md e && decide (e.on + 1 = i) | none => false))

theorem gate_back {n : Nat} (h : gateB md ops n = true) {i : Nat} {o : Oper} (ho : ops[i]? = some o) {e : Edge} (he : e ∈ o.after) : e.on < i := by
  have hi := (Array.getElem?_eq_some_iff.1 ho).1
  have h1 := List.all_eq_true.1 h i (List.mem_range.2 hi)
  rw [ho, Bool.and_eq_true] at h1
  have h2 := Array.all_eq_true_iff_forall_mem.1 h1.1 e he
  simpa using h2

theorem gate_next {n : Nat} (h : gateB md ops n = true) {i : Nat} (hi : i < n) (hn : n < ops.size) :
    ∃ k o e, i < k ∧ k ≤ n ∧ ops[k]? = some o ∧ e ∈ o.after ∧ Region.binds md e = true ∧ e.on = i := by
  have h1 := List.all_eq_true.1 h i (List.mem_range.2 (by omega))
  rw [Bool.and_eq_true] at h1
  have h2 := h1.2
  rw [if_pos hi] at h2
  obtain ⟨k, hkn, hk⟩ := List.any_eq_true.1 h2
  have hkn' := List.mem_range.1 hkn
  rw [Bool.and_eq_true] at hk
  have hik := of_decide_eq_true hk.1
  rcases ho : ops[k]? with _ | o
  · rw [ho] at hk; simp at hk
  · rw [ho] at hk
    obtain ⟨e, he, hb⟩ := Array.any_eq_true'.1 hk.2
    rw [Bool.and_eq_true] at hb
    exact ⟨k, o, e, hik, by omega, ho, he, hb.1, of_decide_eq_true hb.2⟩

theorem gate_tail {n : Nat} (h : gateB md ops n = true) {i : Nat} (hi : n < i) {o : Oper} (ho : ops[i]? = some o) : ∃ e ∈ o.after, Region.binds md e = true ∧ e.on + 1 = i := by
  have hs := (Array.getElem?_eq_some_iff.1 ho).1
  have h1 := List.all_eq_true.1 h i (List.mem_range.2 hs)
  rw [Bool.and_eq_true] at h1
  have h2 := h1.2
  rw [if_neg (by omega), Bool.or_eq_true] at h2
  rcases h2 with h2 | h2
  · have := of_decide_eq_true h2
    omega
  · rw [ho] at h2
    obtain ⟨e, he, hb⟩ := Array.any_eq_true'.1 h2
    rw [Bool.and_eq_true] at hb
    exact ⟨e, he, hb.1, of_decide_eq_true hb.2⟩

/-- The tail, in its one order. -/
def tailWp (P : Program) (ops : Array Oper) (Q : Exit → Act → World → Prop) : Nat → Nat → Act → World → Prop
  | 0, k, a, w => wpOp P ops Q k (Q .normal) a w
  | m + 1, k, a, w => wpOp P ops Q k (tailWp P ops Q m (k + 1)) a w

theorem getD_default {listed : Array Bool} {i : Nat} (h : i < listed.size) (d d' : Bool) : listed.getD i d = listed.getD i d' := by
  rw [Array.getD_eq_getD_getElem?, Array.getD_eq_getD_getElem?, Array.getElem?_eq_getElem h]
  rfl

theorem tail_ready {n : Nat} (hf : gateB md ops n = true) {k : Nat} {listed : Array Bool} (hs : listed.size = ops.size) (hk : k < ops.size) (hnk : n ≤ k)
    (h1 : ∀ j, j < k → listed.getD j true = true) (h2 : ∀ j, k ≤ j → j < ops.size → listed.getD j true = false) {i : Nat} : i ∈ Region.ready md ops listed ↔ i = k := by
  rw [ready_iff]
  constructor
  · rintro ⟨hi, hun, o, ho, hdep⟩
    by_cases hik : i < k
    · rw [h1 i hik] at hun
      cases hun
    · by_cases hik' : i = k
      · exact hik'
      · exfalso
        obtain ⟨e, he, hb, heq⟩ := gate_tail hf (by omega) ho
        have := hdep e he hb
        rw [getD_default (by omega) false true, h2 e.on (by omega) (by omega)] at this
        cases this
  · rintro rfl
    refine ⟨hk, h2 i (Nat.le_refl _) hk, ops[i], Array.getElem?_eq_getElem hk, fun e he hb => ?_⟩
    have hlt := gate_back hf (Array.getElem?_eq_getElem hk) he
    rw [getD_default (by omega) false true]
    exact h1 _ hlt

theorem tail_any {n : Nat} (hf : gateB md ops n = true) : ∀ (m k fuel : Nat) (listed : Array Bool) (a : Act) (w : World), listed.size = ops.size → k + m + 1 = ops.size → n ≤ k → m + 1 ≤ fuel →
    (∀ j, j < k → listed.getD j true = true) → (∀ j, k ≤ j → j < ops.size → listed.getD j true = false) → tailWp P ops Q m k a w → wpAny P md ops Q fuel listed a w
  | m, k, 0, listed, a, w, _, _, _, hfu, _, _, _ => by omega
  | m, k, fuel + 1, listed, a, w, hs, hm, hnk, hfu, h1, h2, h => by
    have hrd := fun i => tail_ready (i := i) hf hs (by omega) hnk h1 h2
    refine ⟨fun hr => ?_, fun i hi => ?_⟩
    · have := (hrd k).2 rfl
      rw [hr] at this
      cases this
    · rw [hrd] at hi
      subst hi
      have hset1 : ∀ j, j < i + 1 → (listed.setIfInBounds i true).getD j true = true := fun j hj => by
        by_cases hji : i = j
        · subst hji
          exact getD_set_eq (by omega) _
        · rw [getD_set_other hji]
          exact h1 j (by omega)
      have hset2 : ∀ j, i + 1 ≤ j → j < ops.size → (listed.setIfInBounds i true).getD j true = false := fun j hj hjs => by
        rw [getD_set_other (by omega)]
        exact h2 j (by omega) hjs
      match m, h with
      | 0, h =>
        refine wpOp_mono (fun a' w' hq => wpAny_done ?_ hq fuel) h
        rw [List.eq_nil_iff_forall_not_mem]
        intro j hj
        obtain ⟨hjn, hju, _⟩ := ready_iff.1 hj
        rw [hset1 j (by omega)] at hju
        cases hju
      | m + 1, h =>
        exact wpOp_mono (fun a' w' hq => tail_any hf m (i + 1) fuel _ a' w' (by simpa using hs) (by omega) (by omega) (by omega) hset1 hset2 hq) h

theorem wpAny_gate (W0 : World) (V : Nat → Value → Nat → Nat → World → Prop) (mk : (Nat → Value) → Act) (n m : Nat) (hn : n + m + 1 = ops.size) (hf : gateB md ops n = true)
    (hV : ∀ i v lo hi w w', V i v lo hi w → Below w.heap.size w w' → V i v lo hi w')
    (hput : ∀ i o, ops[i]? = some o → i < n → ∀ u v, (mk u).put o.dst v = mk (upd u i v))
    (step : ∀ i o, ops[i]? = some o → i < n → ∀ u (lo hi : Nat → Nat) w, Below W0.heap.size W0 w → (∀ e ∈ o.after, Region.binds md e = true → V e.on (u e.on) (lo e.on) (hi e.on) w) →
      (∀ e ∈ o.after, ∀ e' ∈ o.after, Region.binds md e = true → Region.binds md e' = true → e.on ≠ e'.on → hi e.on ≤ lo e'.on ∨ hi e'.on ≤ lo e.on) →
      ∀ K : Act → World → Prop, (∀ v w', Below w.heap.size w w' → V i v w.heap.size w'.heap.size w' → K ((mk u).put o.dst v) w') → wpOp P ops Q i K (mk u) w)
    (last : ∀ u w (lo hi : Nat → Nat), Below W0.heap.size W0 w → (∀ i, i < n → V i (u i) (lo i) (hi i) w) → (∀ i j, i < n → j < n → i ≠ j → hi i ≤ lo j ∨ hi j ≤ lo i) →
      tailWp P ops Q m n (mk u) w) :
    ∀ (fuel : Nat) (listed : Array Bool) (u : Nat → Value) (lo hi : Nat → Nat) (w : World), listed.size = ops.size → Below W0.heap.size W0 w → toCome ops.size listed ≤ fuel → (∀ j, n ≤ j → j < ops.size → listed.getD j true = false) →
      (∀ i o, ops[i]? = some o → listed.getD i true = true → ∀ e ∈ o.after, Region.binds md e = true → listed.getD e.on false = true) →
      (∀ i, i < n → listed.getD i true = true → V i (u i) (lo i) (hi i) w ∧ hi i ≤ w.heap.size) →
      (∀ i j, i < n → j < n → listed.getD i true = true → listed.getD j true = true → i ≠ j → hi i ≤ lo j ∨ hi j ≤ lo i) → wpAny P md ops Q fuel listed (mk u) w := by
  intro fuel
  induction fuel with
  | zero =>
    intro listed u lo hi w _ _ hc hz _ _ _
    have := toCome_pos (n := ops.size) (listed := listed) (i := n) (by omega) (hz n (Nat.le_refl _) (by omega))
    omega
  | succ fuel ih =>
    intro listed u lo hi w hs hb hc hz hcl hv hdj
    by_cases hall : ∀ j, j < n → listed.getD j true = true
    · -- all that lies ahead is done
      have hle : m + 1 ≤ fuel + 1 := by
        refine Nat.le_trans ?_ hc
        unfold toCome
        have hsub : ((List.range (m + 1)).map (fun j => n + j)).Sublist (List.range ops.size) := by
          have e : List.range ops.size = List.range n ++ (List.range (m + 1)).map (fun j => n + j) := by
            rw [← hn, show n + m + 1 = n + (m + 1) by omega]
            exact List.range_add
          rw [e]
          exact List.sublist_append_right _ _
        have h1 := hsub.countP_le (p := fun i => !listed.getD i true)
        have h2 : ((List.range (m + 1)).map (fun j => n + j)).countP (fun i => !listed.getD i true) = m + 1 := by
          have := List.countP_eq_length (p := fun i => !listed.getD i true) (l := (List.range (m + 1)).map (fun j => n + j))
          rw [this.2 ?_]
          · simp
          · intro x hx
            obtain ⟨j, hj, rfl⟩ := List.mem_map.1 hx
            have hj' := List.mem_range.1 hj
            rw [hz (n + j) (by omega) (by omega)]
            rfl
        omega
      exact tail_any hf m n (fuel + 1) listed (mk u) w hs hn (Nat.le_refl _) hle hall hz
        (last u w lo hi hb (fun j hj => (hv j hj (hall j hj)).1) fun j k hj hk hjk => hdj j k hj hk (hall j hj) (hall k hk) hjk)
    · have hsome : ∀ i, i < ops.size → ∃ o, ops[i]? = some o := fun i hi => ⟨ops[i], Array.getElem?_eq_getElem hi⟩
      have hgn : ∀ i, listed.getD i true = true → i < ops.size → i < n := fun i hl hi => by
        by_cases h : i < n
        · exact h
        · rw [hz i (by omega) hi] at hl
          cases hl
      refine ⟨fun hr => ?_, fun i hrd => ?_⟩
      · exfalso
        have all : ∀ m i, i < m → i < ops.size → listed.getD i true = true := by
          intro m
          induction m with
          | zero => intro i h; omega
          | succ m ihm =>
            intro i him hi
            rcases hl : listed.getD i true with _ | _
            · exfalso
              obtain ⟨o, ho⟩ := hsome i hi
              have : i ∈ Region.ready md ops listed := ready_iff.2 ⟨hi, hl, o, ho, fun e he _ => by
                have hlt := gate_back hf ho he
                rw [getD_default (by omega) false true]
                exact ihm e.on (by omega) (by omega)⟩
              rw [hr] at this
              cases this
            · rfl
        exact hall fun j hj => all ops.size j (by omega) (by omega)
      · obtain ⟨hin, hun, o, ho, hdep⟩ := ready_iff.1 hrd
        have hlast : i < n := by
          by_cases h : i < n
          · exact h
          · exfalso
            by_cases hie : i = n
            · subst hie
              refine hall fun j hj => ?_
              have all : ∀ q j, i - j ≤ q → j < i → listed.getD j true = true := by
                intro q
                induction q with
                | zero => intro j h1 h2; omega
                | succ q ihq =>
                  intro j h1 h2
                  obtain ⟨k, ok, e, hjk, hkn, hok, he, hbn, heq⟩ := gate_next hf h2 hin
                  have h3 : listed.getD e.on false = true := by
                    by_cases hkz : k = i
                    · subst hkz
                      rw [ho] at hok
                      cases hok
                      exact hdep e he hbn
                    · exact hcl k ok hok (ihq k (by omega) (by omega)) e he hbn
                  rw [heq] at h3
                  rw [getD_default (by omega) true false]
                  exact h3
              exact all _ j (Nat.le_refl _) hj
            · obtain ⟨e, he, hbn, heq⟩ := gate_tail hf (by omega) ho
              have := hdep e he hbn
              rw [getD_default (by omega) false true, hz e.on (by omega) (by omega)] at this
              cases this
        have hlisted : ∀ e ∈ o.after, Region.binds md e = true → e.on < n ∧ listed.getD e.on true = true := fun e he hbn => by
          have hlt := gate_back hf ho he
          have h1 := hdep e he hbn
          rw [getD_default (by omega) false true] at h1
          exact ⟨by omega, h1⟩
        refine step i o ho hlast u lo hi w hb (fun e he hbn => (hv e.on (hlisted e he hbn).1 (hlisted e he hbn).2).1)
          (fun e he e' he' hbn hbn' hne => hdj e.on e'.on (hlisted e he hbn).1 (hlisted e' he' hbn').1 (hlisted e he hbn).2 (hlisted e' he' hbn').2 hne) _ fun v w' hbw hvi => ?_
        rw [hput i o ho hlast]
        have hb' : Below W0.heap.size W0 w' := hb.trans (hbw.mono hb.size)
        refine ih _ _ (fun j => if j = i then w.heap.size else lo j) (fun j => if j = i then w'.heap.size else hi j) _ (by simpa using hs) hb' ?_ ?_ ?_ ?_ ?_
        · have := toCome_set (n := ops.size) hin hs hun
          omega
        · intro j hj hjs
          rw [getD_set_other (by omega)]
          exact hz j hj hjs
        · intro j oj hoj hlj e he hbn
          by_cases hij : i = e.on
          · rw [← hij, getD_set_eq (by omega)]
          · rw [getD_set_other hij]
            by_cases hji : i = j
            · subst hji
              rw [ho] at hoj
              cases hoj
              exact hdep e he hbn
            · rw [getD_set_other hji] at hlj
              exact hcl j oj hoj hlj e he hbn
        · intro j hj hlj
          by_cases hji : j = i
          · subst hji
            rw [upd_same, if_pos rfl, if_pos rfl]
            exact ⟨hvi, Nat.le_refl _⟩
          · rw [upd_other _ _ hji, if_neg hji, if_neg hji]
            rw [getD_set_other (Ne.symm hji)] at hlj
            have := hv j hj hlj
            exact ⟨hV _ _ _ _ _ _ this.1 hbw, Nat.le_trans this.2 hbw.size⟩
        · intro j k hj hk hlj hlk hjk
          by_cases hji : j = i
          · subst hji
            rw [getD_set_other hjk] at hlk
            rw [if_pos rfl, if_pos rfl, if_neg (Ne.symm hjk), if_neg (Ne.symm hjk)]
            exact .inr (hv k hk hlk).2
          · rw [getD_set_other (Ne.symm hji)] at hlj
            by_cases hki : k = i
            · subst hki
              rw [if_neg hji, if_neg hji, if_pos rfl, if_pos rfl]
              exact .inl (hv j hj hlj).2
            · rw [getD_set_other (Ne.symm hki)] at hlk
              rw [if_neg hji, if_neg hji, if_neg hki, if_neg hki]
              exact hdj j k hj hk hlj hlk hjk


/-- THE RULE, its frame made by program: the first n operations in whatever order, then the tail. -/
theorem wp_region_gate {id : Nat} {l : List Oper} {a : Act} {w : World} (n m : Nat) (V : Nat → Value → Nat → Nat → World → Prop)
    (hm : P.follows .mixedOrders = true) (hf : (gateB .any l.toArray n && apartB (l.take n) && decide (n + m + 1 = l.length)) = true) (hs : slotsB a.tmps.size (l.take n) = true)
    (hV : ∀ i v lo hi w w', V i v lo hi w → Below w.heap.size w w' → V i v lo hi w')
    (step : ∀ i o, l[i]? = some o → i < n → ∀ u (lo hi : Nat → Nat) wr, Below w.heap.size w wr → (∀ e ∈ o.after, Region.binds .any e = true → V e.on (u e.on) (lo e.on) (hi e.on) wr) →
      (∀ e ∈ o.after, ∀ e' ∈ o.after, Region.binds .any e = true → Region.binds .any e' = true → e.on ≠ e'.on → hi e.on ≤ lo e'.on ∨ hi e'.on ≤ lo e.on) →
      ∀ K : Act → World → Prop, (∀ v w', Below wr.heap.size wr w' → V i v wr.heap.size w'.heap.size w' → K ((putAll u 0 (l.take n) a).put o.dst v) w') → wpOp P l.toArray Q i K (putAll u 0 (l.take n) a) wr)
    (last : ∀ u wr (lo hi : Nat → Nat), Below w.heap.size w wr → (∀ i, i < n → V i (u i) (lo i) (hi i) wr) → (∀ i j, i < n → j < n → i ≠ j → hi i ≤ lo j ∨ hi j ≤ lo i) →
      tailWp P l.toArray Q m n (putAll u 0 (l.take n) a) wr) :
    (Code.region id l.toArray true).wp P Q a w := by
  rw [Bool.and_eq_true, Bool.and_eq_true] at hf
  obtain ⟨⟨h1, h2⟩, h3⟩ := hf
  have h3 := of_decide_eq_true h3
  have hsl : ∀ o ∈ l.take n, ∀ t, o.dst = some t → t < a.tmps.size := fun o ho t ht => by
    have := List.all_eq_true.1 hs o ho
    rw [ht] at this
    exact of_decide_eq_true this
  obtain ⟨u0, hu0⟩ := putAll_self (l.take n) 0 a hsl h2
  have e1 : l.toArray.size = l.length := by simp
  refine wp_region_any hm ?_
  have key := wpAny_gate (P := P) (ops := l.toArray) (Q := Q) (md := .any) w V (fun u => putAll u 0 (l.take n) a) n m (by rw [e1]; exact h3) h1 hV
    (fun i o ho hi u v => by
      have ho' : (l.take n)[i]? = some o := by rw [List.getElem?_take_of_lt hi]; simpa using ho
      have := putAll_at u v (l.take n) 0 i a o h2 ho'
      rw [Nat.zero_add] at this
      exact this)
    (fun i o ho hi => step i o (by simpa using ho) hi) last l.toArray.size (Array.replicate l.toArray.size false) u0 (fun _ => 0) (fun _ => 0) { w with drawn := w.drawn + 1 }
    (by simp) ((Below.refl _ _).drew) (by unfold toCome; exact Nat.le_trans List.countP_le_length (by simp))
    (fun j _ hj => by
      rw [Array.getD_eq_getD_getElem?, Array.getElem?_eq_getElem (by simpa using hj)]
      simp)
    (fun i o ho hl => by
      have := (Array.getElem?_eq_some_iff.1 ho).1
      simp at this
      simp [Array.getD_eq_getD_getElem?, this] at hl)
    (fun i hi hl => by
      have : i < l.length := by omega
      simp [Array.getD_eq_getD_getElem?, this] at hl)
    (fun i j _ _ _ _ _ => .inl (Nat.le_refl _))
  have hk : putAll u0 0 (l.take n) a = a := hu0
  rw [hk] at key
  exact key
end

end Go.Proofs.YtojeggeimnenbaaDoor

namespace Go.Proofs.YtojeggeimnenbaaDoor.P
open Go Go.RowKit

theorem wrap_eq (n : Int) : ∃ q : Int, wrap64 n = n + q * 18446744073709551616 := by
  unfold wrap64
  exact ⟨-((n + 9223372036854775808) / 18446744073709551616), by omega⟩
theorem wrap_congr {a b : Int} (h : ∃ q : Int, a = b + q * 18446744073709551616) : wrap64 a = wrap64 b := by
  obtain ⟨q, rfl⟩ := h
  unfold wrap64
  omega
theorem wrap_add_l (a b : Int) : wrap64 (wrap64 a + b) = wrap64 (a + b) := by
  obtain ⟨q, e⟩ := wrap_eq a
  exact wrap_congr ⟨q, by rw [e]; omega⟩
theorem wrap_add_r (a b : Int) : wrap64 (a + wrap64 b) = wrap64 (a + b) := by
  rw [Int.add_comm, wrap_add_l, Int.add_comm]
theorem wrap_mul_l (a b : Int) : wrap64 (wrap64 a * b) = wrap64 (a * b) := by
  obtain ⟨q, e⟩ := wrap_eq a
  exact wrap_congr ⟨q * b, by rw [e, Int.add_mul, Int.mul_right_comm]⟩
theorem wrap_mul_r (a b : Int) : wrap64 (a * wrap64 b) = wrap64 (a * b) := by
  rw [Int.mul_comm, wrap_mul_l, Int.mul_comm]

def hv (bs ds : List Int) : Int := (bs.zip ds).foldl (fun n p => n * p.1 + p.2) 0
def prd (bs : List Int) : Int := bs.foldl (fun n b => n * b) 1

theorem foldl_from (l : List (Int × Int)) : ∀ n m : Int, l.foldl (fun n p => n * p.1 + p.2) (n + m) = n * (l.map Prod.fst).foldl (fun n b => n * b) 1 + l.foldl (fun n p => n * p.1 + p.2) m := by
  have hm : ∀ (l : List Int) (a b : Int), l.foldl (fun n b => n * b) (a * b) = a * l.foldl (fun n b => n * b) b := by
    intro l
    induction l with
    | nil => intro a b; rfl
    | cons x xs ih => intro a b; rw [List.foldl_cons, List.foldl_cons, Int.mul_assoc, ih]
  induction l with
  | nil => intro n m; simp
  | cons p l ih =>
    intro n m
    rw [List.foldl_cons, List.foldl_cons, List.map_cons, List.foldl_cons, show (n + m) * p.1 + p.2 = n * p.1 + (m * p.1 + p.2) by rw [Int.add_mul, Int.add_assoc], ih, Int.one_mul]
    have := hm (l.map Prod.fst) p.1 1
    rw [Int.mul_one] at this
    rw [this, Int.mul_assoc]

theorem map_fst_zip' : ∀ {a b : List Int}, a.length = b.length → (a.zip b).map Prod.fst = a
  | [], _, _ => by simp
  | x :: xs, [], h => by simp at h
  | x :: xs, y :: ys, h => by simp [map_fst_zip' (a := xs) (b := ys) (by simpa using h)]

theorem hv_append {b c d e : List Int} (h1 : d.length = b.length) (h2 : e.length = c.length) : hv (b ++ c) (d ++ e) = hv b d * prd c + hv c e := by
  unfold hv prd
  rw [List.zip_append h1.symm, List.foldl_append]
  have := foldl_from (c.zip e) (List.foldl (fun n p => n * p.1 + p.2) 0 (b.zip d)) 0
  rw [Int.add_zero] at this
  rw [this, map_fst_zip' h2.symm]

def sums (e f : List Int) : List Int := (e.zip f).map fun p => p.1 + p.2

theorem hv_add : ∀ (c e f : List Int) (m n : Int), e.length = c.length → f.length = c.length →
    (c.zip (sums e f)).foldl (fun n p => n * p.1 + p.2) (m + n) = (c.zip e).foldl (fun n p => n * p.1 + p.2) m + (c.zip f).foldl (fun n p => n * p.1 + p.2) n
  | [], e, f, m, n, _, _ => by simp
  | x :: c, [], f, m, n, h, _ => by simp at h
  | x :: c, y :: e, [], m, n, _, h => by simp at h
  | x :: c, y :: e, z :: f, m, n, h1, h2 => by
    have ih := hv_add c e f (m * x + y) (n * x + z) (by simpa using h1) (by simpa using h2)
    simp only [sums, List.zip_cons_cons, List.map_cons, List.foldl_cons] at ih ⊢
    rw [← ih, Int.add_mul]
    congr 1
    omega

theorem hv_sums {c e f : List Int} (h1 : e.length = c.length) (h2 : f.length = c.length) : hv c (sums e f) = hv c e + hv c f := by
  have := hv_add c e f 0 0 h1 h2
  simpa [hv] using this

/-- The value does not see what is lost in 64 bits. -/
theorem hv_wrap : ∀ (c e g : List Int) (m n : Int), g.length = c.length → e.length = c.length → (∀ (k : Nat) (x y : Int), e[k]? = some x → g[k]? = some y → y = wrap64 x) → (∃ q : Int, m = n + q * 18446744073709551616) →
    ∃ q : Int, (c.zip g).foldl (fun n p => n * p.1 + p.2) m = (c.zip e).foldl (fun n p => n * p.1 + p.2) n + q * 18446744073709551616
  | [], e, g, m, n, _, _, _, h => by simpa using h
  | x :: c, e, [], m, n, h, _, _, _ => by simp at h
  | x :: c, [], z :: g, m, n, _, h, _, _ => by simp at h
  | x :: c, y :: e, z :: g, m, n, h1, h2, h3, ⟨q, hq⟩ => by
    simp only [List.zip_cons_cons, List.foldl_cons]
    refine hv_wrap c e g _ _ (by simpa using h1) (by simpa using h2) (fun k a b ha hb => h3 (k + 1) a b (by simpa using ha) (by simpa using hb)) ?_
    have hz := h3 0 y z rfl rfl
    obtain ⟨r, hr⟩ := wrap_eq y
    exact ⟨q * x + r, by rw [hz, hr, hq, Int.add_mul, Int.add_mul, Int.mul_right_comm]; omega⟩

theorem hv_take {bs ds : List Int} {k : Nat} {b d : Int} (hb : bs[k]? = some b) (hd : ds[k]? = some d) : hv (bs.take (k + 1)) (ds.take (k + 1)) = hv (bs.take k) (ds.take k) * b + d := by
  have hl : (bs.take k).length = (ds.take k).length := by
    have h1 : k < bs.length := (List.getElem?_eq_some_iff.1 hb).1
    have h2 : k < ds.length := (List.getElem?_eq_some_iff.1 hd).1
    simp; omega
  unfold hv
  rw [List.take_add_one, List.take_add_one, hb, hd, Option.toList, Option.toList, List.zip_append hl, List.foldl_append]
  rfl
theorem prd_take {bs : List Int} {k : Nat} {b : Int} (hb : bs[k]? = some b) : prd (bs.take (k + 1)) = prd (bs.take k) * b := by
  unfold prd
  rw [List.take_add_one, hb, Option.toList, List.foldl_append]
  rfl

/-- HORNER, in 64 bits. -/
theorem horner {b c d e : List Int} (h1 : d.length = b.length) (h2 : e.length = c.length) :
    wrap64 (hv (b ++ c) (d ++ e)) = wrap64 (wrap64 (wrap64 (hv b d) * wrap64 (prd c)) + wrap64 (hv c e)) := by
  rw [wrap_add_r, wrap_mul_r, wrap_mul_l, wrap_add_l, hv_append h1 h2]

theorem horner_sum {c e f g : List Int} (h1 : e.length = c.length) (h2 : f.length = c.length) (h3 : g.length = c.length) (hg : ∀ (k : Nat) (x y : Int), (sums e f)[k]? = some x → g[k]? = some y → y = wrap64 x) :
    wrap64 (hv c g) = wrap64 (wrap64 (hv c e) + wrap64 (hv c f)) := by
  rw [wrap_add_l, wrap_add_r, ← hv_sums h1 h2]
  exact wrap_congr (hv_wrap c (sums e f) g 0 0 h3 (by simp [sums, h1, h2]) hg ⟨0, by simp⟩)

theorem sums_at {e f : List Int} {k : Nat} {x y : Int} (hx : e[k]? = some x) (hy : f[k]? = some y) : (sums e f)[k]? = some (x + y) := by
  have h : (e.zip f)[k]? = some (x, y) := List.getElem?_zip_eq_some.2 ⟨hx, hy⟩
  simp only [sums, List.getElem?_map, h, Option.map_some]

def SumsTo (k : Nat) (e f g : List Int) : Prop := ∀ (j : Nat) (x y : Int), j < k → (sums e f)[j]? = some x → g[j]? = some y → y = wrap64 x
theorem SumsTo.zero (e f g : List Int) : SumsTo 0 e f g := fun j x y h => by omega
theorem SumsTo.succ {k : Nat} {e f g : List Int} {x y : Int} (h : SumsTo k e f g) (hx : e[k]? = some x) (hy : f[k]? = some y) (hk : k < g.length) : SumsTo (k + 1) e f (g.set k (wrap64 (x + y))) := by
  intro j u v hj hu hv
  by_cases e1 : j = k
  · subst e1
    rw [sums_at hx hy] at hu
    rw [List.getElem?_set_self hk] at hv
    injection hu with hu
    injection hv with hv
    rw [← hu, hv]
  · rw [List.getElem?_set_ne (by omega)] at hv
    exact h j u v (by omega) hu hv

end Go.Proofs.YtojeggeimnenbaaDoor.P

namespace Go.Proofs.YtojeggeimnenbaaDoor.P

/-- The numbers from 0 on, each once. -/
def Perm (p : List Nat) : Prop := p.Nodup ∧ ∀ x ∈ p, x < p.length

/-- One by another one; turned round; not at all. -/
def aft (p q : List Nat) : List Nat := q.map fun j => p.getD j 0
def inv (p : List Nat) : List Nat := (List.range p.length).map fun k => p.idxOf k
def idn (n : Nat) : List Nat := List.range n

theorem aft_length (p q : List Nat) : (aft p q).length = q.length := by simp [aft]
theorem inv_length (p : List Nat) : (inv p).length = p.length := by simp [inv]
theorem idn_length (n : Nat) : (idn n).length = n := by simp [idn]
theorem idn_perm (n : Nat) : Perm (idn n) := ⟨List.nodup_range, fun x hx => by simpa [idn] using hx⟩

theorem getD_lt {p : List Nat} {k : Nat} (h : k < p.length) : p.getD k 0 = p[k] := by simp [List.getD_eq_getElem?_getD, h]
theorem Perm.lt {p : List Nat} (h : Perm p) {k : Nat} (hk : k < p.length) : p.getD k 0 < p.length := by
  rw [getD_lt hk]
  exact h.2 _ (List.getElem_mem hk)
theorem Perm.inj {p : List Nat} (h : Perm p) {i j : Nat} (hi : i < p.length) (hj : j < p.length) (e : p.getD i 0 = p.getD j 0) : i = j := by
  rw [getD_lt hi, getD_lt hj] at e
  exact (List.getElem_inj h.1).1 e

theorem perm_all {p : List Nat} (h : Perm p) {k : Nat} (hk : k < p.length) : k ∈ p := by
  apply Classical.byContradiction
  intro hn
  have hs : (k :: p) ⊆ List.range p.length := fun x hx => by
    rcases List.mem_cons.1 hx with e | e
    · rw [e]; simpa using hk
    · simpa using h.2 x e
  have := List.Nodup.length_le_of_subset (List.nodup_cons.2 ⟨hn, h.1⟩) hs
  simp at this
  omega
theorem perm_range {p : List Nat} (h : Perm p) : p.Perm (List.range p.length) :=
  (List.perm_ext_iff_of_nodup h.1 List.nodup_range).2 fun a => ⟨fun ha => by simpa using h.2 a ha, fun ha => perm_all h (by simpa using ha)⟩

theorem getD_aft {p q : List Nat} {k : Nat} (hk : k < q.length) : (aft p q).getD k 0 = p.getD (q.getD k 0) 0 := by
  simp [aft, List.getD_eq_getElem?_getD, hk]
theorem getD_inv {p : List Nat} {k : Nat} (hk : k < p.length) : (inv p).getD k 0 = p.idxOf k := by
  simp [inv, List.getD_eq_getElem?_getD, hk]
theorem getD_idn {n k : Nat} (hk : k < n) : (idn n).getD k 0 = k := by
  simp [idn, List.getD_eq_getElem?_getD, hk]

theorem idx_lt {p : List Nat} (h : Perm p) {k : Nat} (hk : k < p.length) : p.idxOf k < p.length := List.idxOf_lt_length_of_mem (perm_all h hk)
theorem idx_get {p : List Nat} (h : Perm p) {k : Nat} (hk : k < p.length) : p.getD (p.idxOf k) 0 = k := by
  rw [getD_lt (idx_lt h hk)]
  exact List.getElem_idxOf (idx_lt h hk)
theorem idx_of {p : List Nat} (h : Perm p) {k : Nat} (hk : k < p.length) : p.idxOf (p.getD k 0) = k :=
  h.inj (idx_lt h (h.lt hk)) hk (idx_get h (h.lt hk))

theorem ext_getD {p q : List Nat} (hl : p.length = q.length) (h : ∀ k, k < p.length → p.getD k 0 = q.getD k 0) : p = q := by
  apply List.ext_getElem hl
  intro k h1 h2
  have := h k h1
  rwa [getD_lt h1, getD_lt h2] at this

theorem perm_of {p : List Nat} (h1 : ∀ k, k < p.length → p.getD k 0 < p.length) (h2 : ∀ i j, i < p.length → j < p.length → p.getD i 0 = p.getD j 0 → i = j) : Perm p := by
  constructor
  · rw [List.nodup_iff_pairwise_ne, List.pairwise_iff_getElem]
    intro i j hi hj hij e
    have := h2 i j hi hj (by rw [getD_lt hi, getD_lt hj, e])
    omega
  · intro x hx
    obtain ⟨k, hk, rfl⟩ := List.getElem_of_mem hx
    have := h1 k hk
    rwa [getD_lt hk] at this

theorem aft_perm {p q : List Nat} (hp : Perm p) (hq : Perm q) (hl : p.length = q.length) : Perm (aft p q) := by
  apply perm_of
  · intro k hk
    rw [aft_length] at hk ⊢
    rw [getD_aft hk, ← hl]
    exact hp.lt (by rw [hl]; exact hq.lt hk)
  · intro i j hi hj e
    rw [aft_length] at hi hj
    rw [getD_aft hi, getD_aft hj] at e
    exact hq.inj hi hj (hp.inj (by rw [hl]; exact hq.lt hi) (by rw [hl]; exact hq.lt hj) e)
theorem inv_perm {p : List Nat} (hp : Perm p) : Perm (inv p) := by
  apply perm_of
  · intro k hk
    rw [inv_length] at hk ⊢
    rw [getD_inv hk]
    exact idx_lt hp hk
  · intro i j hi hj e
    rw [inv_length] at hi hj
    rw [getD_inv hi, getD_inv hj] at e
    rw [← idx_get hp hi, ← idx_get hp hj, e]

theorem aft_assoc {p q r : List Nat} (hr : ∀ k, k < r.length → r.getD k 0 < q.length) : aft (aft p q) r = aft p (aft q r) := by
  apply ext_getD (by simp [aft_length])
  intro k hk
  rw [aft_length] at hk
  rw [getD_aft hk, getD_aft (hr k hk), getD_aft (by rw [aft_length]; exact hk), getD_aft hk]
theorem aft_inv_left {p q : List Nat} (hp : Perm p) (hq : ∀ k, k < q.length → q.getD k 0 < p.length) : aft (inv p) (aft p q) = q := by
  apply ext_getD (by simp [aft_length])
  intro k hk
  rw [aft_length, aft_length] at hk
  rw [getD_aft (by rw [aft_length]; exact hk), getD_aft hk, getD_inv (hp.lt (hq k hk)), idx_of hp (hq k hk)]
theorem aft_inv_right {p : List Nat} (hp : Perm p) : aft p (inv p) = idn p.length := by
  apply ext_getD (by simp [aft_length, inv_length, idn_length])
  intro k hk
  rw [aft_length, inv_length] at hk
  rw [getD_aft (by rw [inv_length]; exact hk), getD_inv hk, idx_get hp hk, getD_idn hk]
theorem aft_idn_right (p : List Nat) : aft p (idn p.length) = p := by
  apply ext_getD (by simp [aft_length, idn_length])
  intro k hk
  rw [aft_length, idn_length] at hk
  rw [getD_aft (by rw [idn_length]; exact hk), getD_idn hk]
theorem aft_idn_left {p : List Nat} {n : Nat} (hp : ∀ k, k < p.length → p.getD k 0 < n) : aft (idn n) p = p := by
  apply ext_getD (by simp [aft_length])
  intro k hk
  rw [aft_length] at hk
  rw [getD_aft hk, getD_idn (hp k hk)]
theorem inv_aft {p q : List Nat} (hp : Perm p) (hq : Perm q) (hl : p.length = q.length) : inv (aft p q) = aft (inv q) (inv p) := by
  have hx := aft_perm hp hq hl
  apply ext_getD (by simp [aft_length, inv_length, hl])
  intro k hk
  rw [inv_length, aft_length] at hk
  have hkp : k < p.length := by omega
  have hi : p.idxOf k < q.length := by rw [← hl]; exact idx_lt hp hkp
  rw [getD_inv (by rw [aft_length]; exact hk), getD_aft (by rw [inv_length]; exact hkp), getD_inv hkp, getD_inv hi]
  apply hx.inj (idx_lt hx (by rw [aft_length]; exact hk)) (by rw [aft_length]; exact idx_lt hq hi)
  rw [idx_get hx (by rw [aft_length]; exact hk), getD_aft (idx_lt hq hi), idx_get hq hi, idx_get hp hkp]

/-- A list of numbers that is an order. -/
def IsOrder (p : List Int) : Prop := p.Nodup ∧ ∀ x ∈ p, 0 ≤ x ∧ x < (p.length : Int)
instance (p : List Int) : Decidable (IsOrder p) := inferInstanceAs (Decidable (_ ∧ _))

theorem order_ints {t : List Nat} : IsOrder (ints t) ↔ Perm t := by
  unfold IsOrder Perm
  rw [length_ints]
  constructor
  · intro ⟨h1, h2⟩
    refine ⟨?_, fun x hx => ?_⟩
    · unfold ints at h1
      rw [List.nodup_iff_pairwise_ne, List.pairwise_map] at h1
      exact h1.imp fun h e => h (by rw [e])
    · have := h2 (x : Int) (List.mem_map.2 ⟨x, hx, rfl⟩)
      omega
  · intro ⟨h1, h2⟩
    refine ⟨?_, fun x hx => ?_⟩
    · unfold ints
      rw [List.nodup_iff_pairwise_ne, List.pairwise_map]
      exact List.Pairwise.imp (fun h e => h (by omega)) (List.nodup_iff_pairwise_ne.1 h1)
    · obtain ⟨y, hy, rfl⟩ := List.mem_map.1 hx
      have := h2 y hy
      omega
theorem order_open {p : List Int} (h : IsOrder p) : ∃ t, p = ints t ∧ Perm t := by
  have e : p = ints (p.map Int.toNat) := by
    unfold ints
    rw [List.map_map]
    symm
    calc _ = p.map id := List.map_congr_left fun x hx => by have := h.2 x hx; simp; omega
      _ = p := List.map_id p
  refine ⟨_, e, ?_⟩
  rw [e] at h
  exact order_ints.1 h

/-- What is wrong with an order; with two of them. -/
def ordErr (p : List Int) : Int := if 4096 < p.length then 7 else if IsOrder p then 0 else 6
def aftErr (p q : List Int) : Int := if ordErr p ≠ 0 then ordErr p else if ordErr q ≠ 0 then ordErr q else if p.length ≠ q.length then 4 else 0

theorem ordErr_zero {p : List Int} (h : ordErr p = 0) : ∃ t, p = ints t ∧ Perm t ∧ t.length ≤ 4096 := by
  unfold ordErr at h
  by_cases h1 : 4096 < p.length
  · rw [if_pos h1] at h; omega
  · rw [if_neg h1] at h
    by_cases h2 : IsOrder p
    · obtain ⟨t, rfl, ht⟩ := order_open h2
      rw [length_ints] at h1
      exact ⟨t, rfl, ht, by omega⟩
    · rw [if_neg h2] at h; omega
theorem ordErr_ok {t : List Nat} (h : Perm t) (hl : t.length ≤ 4096) : ordErr (ints t) = 0 := by
  unfold ordErr
  rw [length_ints, if_neg (by omega), if_pos (order_ints.2 h)]
theorem aftErr_zero {p q : List Int} (h : aftErr p q = 0) : ∃ s t, p = ints s ∧ q = ints t ∧ Perm s ∧ Perm t ∧ s.length = t.length ∧ s.length ≤ 4096 := by
  unfold aftErr at h
  by_cases h1 : ordErr p ≠ 0
  · rw [if_pos h1] at h; exact absurd h h1
  · rw [if_neg h1] at h
    by_cases h2 : ordErr q ≠ 0
    · rw [if_pos h2] at h; exact absurd h h2
    · rw [if_neg h2] at h
      by_cases h3 : p.length ≠ q.length
      · rw [if_pos h3] at h; omega
      · obtain ⟨s, rfl, hs, hl⟩ := ordErr_zero (by simpa using h1)
        obtain ⟨t, rfl, ht, hl'⟩ := ordErr_zero (by simpa using h2)
        rw [length_ints, length_ints] at h3
        exact ⟨s, t, rfl, rfl, hs, ht, by simpa using h3, hl⟩

/-- Which numbers have been seen, bit by bit. -/
def Seen (S : List Nat) (l : List Nat) : Prop := S.length = 65 ∧ (∀ k, k < 65 → S.getD k 0 < 18446744073709551616) ∧ ∀ i, i < 4160 → (S.getD (i / 64) 0).testBit (i % 64) = decide (i ∈ l)
theorem Seen.nil : Seen (List.replicate 65 0) [] := by
  refine ⟨by simp, fun k hk => ?_, fun i hi => ?_⟩
  · rw [List.getD_eq_getElem?_getD, List.getElem?_replicate, if_pos hk]; simp
  · rw [List.getD_eq_getElem?_getD, List.getElem?_replicate, if_pos (by omega)]; simp
theorem Seen.add {S : List Nat} {l : List Nat} (h : Seen S l) {i : Nat} (hi : i < 4160) : Seen (S.set (i / 64) (S.getD (i / 64) 0 ||| 2 ^ (i % 64))) (l ++ [i]) := by
  obtain ⟨h1, h2, h3⟩ := h
  have hp : 2 ^ (i % 64) < 2 ^ 64 := Nat.pow_lt_pow_right (by omega) (by omega)
  have hlt : S.getD (i / 64) 0 ||| 2 ^ (i % 64) < 2 ^ 64 := Nat.or_lt_two_pow (h2 _ (by omega)) hp
  refine ⟨by simp [h1], fun k hk => ?_, fun j hj => ?_⟩
  · rw [List.getD_eq_getElem?_getD, List.getElem?_set]
    by_cases e : i / 64 = k
    · rw [if_pos e, if_pos (by omega)]
      simpa using hlt
    · rw [if_neg e, ← List.getD_eq_getElem?_getD]
      exact h2 k hk
  · rw [List.getD_eq_getElem?_getD, List.getElem?_set]
    by_cases e : i / 64 = j / 64
    · rw [if_pos e, if_pos (by omega), Option.getD_some, Nat.testBit_or, Nat.testBit_two_pow]
      rw [e, h3 j hj]
      by_cases e2 : i = j
      · subst e2; simp
      · have : i % 64 ≠ j % 64 := by omega
        simp [this, Ne.symm e2]
    · rw [if_neg e, ← List.getD_eq_getElem?_getD, h3 j hj]
      have : j ≠ i := by omega
      simp [this]

end Go.Proofs.YtojeggeimnenbaaDoor.P

namespace Go.Proofs.YtojeggeimnenbaaDoor.P

def adds (ix : List Nat) (fr : List Int) : List Int := List.zipWith (fun (i : Nat) (f : Int) => (i : Int) + f) ix fr
theorem adds_get {ix : List Nat} {fr : List Int} {k : Nat} (h1 : k < ix.length) (h2 : k < fr.length) : (adds ix fr).getD k 0 = (ix.getD k 0 : Int) + fr.getD k 0 := by
  simp [adds, List.getD_eq_getElem?_getD, List.getElem?_zipWith, h1, h2]
theorem adds_length (ix : List Nat) (fr : List Int) : (adds ix fr).length = min ix.length fr.length := by simp [adds]

/-- The first k of these indices are those of a cell. -/
def WinIn (t : List Nat) (js : List Int) (k : Nat) : Prop := ∀ m, m < k → 0 ≤ js.getD m 0 ∧ js.getD m 0 < (t.getD m 0 : Int)
instance (t : List Nat) (js : List Int) (k : Nat) : Decidable (WinIn t js k) := inferInstanceAs (Decidable (∀ m, m < k → _))
theorem WinIn.zero (t : List Nat) (js : List Int) : WinIn t js 0 := fun m h => by omega
theorem winIn_succ (t : List Nat) (js : List Int) (k : Nat) : WinIn t js (k + 1) ↔ WinIn t js k ∧ 0 ≤ js.getD k 0 ∧ js.getD k 0 < (t.getD k 0 : Int) := by
  constructor
  · intro h
    exact ⟨fun m hm => h m (by omega), h k (by omega)⟩
  · rintro ⟨h1, h2⟩ m hm
    rcases Nat.lt_or_ge m k with h | h
    · exact h1 m h
    · have : m = k := by omega
      rw [this]; exact h2

def fillOf (c : Bool) : Int := if c then 32 else 0
theorem fill_fine (c : Bool) : badRune (fillOf c) = false := by cases c <;> rfl

/-- A part of an array, from these indices on, of this shape; elsewhere fills. -/
def win (fr : List Int) (s : List Nat) (a : Arr) : Arr := tab a.ch s fun ix => if WinIn a.nsh (adds ix fr) a.nsh.length then a.cell ((adds ix fr).map Int.toNat) else fillOf a.ch

theorem winIn_inside {t : List Nat} {js : List Int} (hl : js.length = t.length) (h : WinIn t js t.length) : Inside t (js.map Int.toNat) := by
  rw [inside_iff]
  refine ⟨by simp [hl], fun k hk => ?_⟩
  have h1 := h k hk
  have hk' : k < js.length := by omega
  have e1 : (js.map Int.toNat).getD k 0 = js[k].toNat := by simp [List.getD_eq_getElem?_getD, hk']
  have e2 : js.getD k 0 = js[k] := by simp [List.getD_eq_getElem?_getD, hk']
  rw [e2] at h1
  rw [e1]
  omega

theorem win_ok {a : Arr} {t s : List Nat} {fr : List Int} (h : Ok a t) (hs : GoodSh s) (hl : s.length = t.length) (hf : fr.length = t.length) : Ok (win fr s a) s := by
  unfold win
  rw [h.nsh_eq]
  refine ok_tab hs fun hc ix hi => ?_
  split
  · rename_i hw
    exact h.rune_cell hc (winIn_inside (by rw [adds_length, inside_length hi]; omega) hw)
  · exact fill_fine _

/-- Some of an axis. -/
def part (k lo len : Nat) (a : Arr) : Arr := tab a.ch (a.nsh.set k len) fun ix => a.cell (ix.set k (ix.getD k 0 + lo))

theorem getD_set_if {l : List Nat} {k j x : Nat} (hj : j < l.length) : (l.set k x).getD j 0 = if k = j then x else l.getD j 0 := by
  simp only [List.getD_eq_getElem?_getD, List.getElem?_set]
  split
  · rename_i e; subst e; simp [hj]
  · rfl
theorem inside_part {t ix : List Nat} {k lo len : Nat} (hk : k < t.length) (hb : lo + len ≤ t.getD k 0) (h : Inside (t.set k len) ix) : Inside t (ix.set k (ix.getD k 0 + lo)) := by
  obtain ⟨h1, h2⟩ := inside_iff.1 h
  rw [List.length_set] at h1 h2
  rw [inside_iff]
  refine ⟨by simp [h1], fun j hj => ?_⟩
  have h3 := h2 j hj
  rw [getD_set_if hj] at h3
  rw [getD_set_if (by omega)]
  split
  · rename_i e; subst e; rw [if_pos rfl] at h3; omega
  · rename_i e; rw [if_neg e] at h3; exact h3

theorem mem_getD {l : List Nat} {x : Nat} (h : x ∈ l) : ∃ k, k < l.length ∧ l.getD k 0 = x := by
  obtain ⟨k, hk, rfl⟩ := List.getElem_of_mem h
  exact ⟨k, hk, getD_lt hk⟩
theorem good_set {t : List Nat} {k len : Nat} (h : GoodSh t) (hl : len ≤ 4096) (hp : prod (t.set k len) ≤ 4096) : GoodSh (t.set k len) := by
  refine ⟨by rw [List.length_set]; exact h.1, fun n hn => ?_, hp⟩
  obtain ⟨j, hj, rfl⟩ := mem_getD hn
  rw [List.length_set] at hj
  rw [getD_set_if hj]
  split
  · exact hl
  · exact h.2.1 _ (by rw [getD_lt hj]; exact List.getElem_mem hj)
theorem take_set_self {t : List Nat} {k x : Nat} : (t.set k x).take k = t.take k := by
  rw [List.take_set, List.set_eq_of_length_le (by simp; omega)]
theorem drop_set_self {t : List Nat} {k x : Nat} : (t.set k x).drop (k + 1) = t.drop (k + 1) := by
  simp [List.drop_set]
theorem outer_set {t : List Nat} {k x : Nat} : outerOf (t.set k x) k = outerOf t k := by
  unfold outerOf
  rw [List.take_set, List.set_eq_of_length_le (by simp; omega)]
theorem inner_set {t : List Nat} {k x : Nat} : innerOf (t.set k x) k = innerOf t k := by
  unfold innerOf
  simp [List.drop_set]
theorem prod_set {t : List Nat} {k x : Nat} (hk : k < t.length) : prod (t.set k x) = outerOf t k * x * innerOf t k := by
  rw [prod_axis (k := k) (by simpa using hk), outer_set, inner_set, getD_set hk]
theorem good_less {t : List Nat} {k len : Nat} (h : GoodSh t) (hk : k < t.length) (hl : len ≤ t.getD k 0) : GoodSh (t.set k len) := by
  have h1 : t.getD k 0 ≤ 4096 := h.2.1 _ (by rw [getD_lt hk]; exact List.getElem_mem hk)
  refine good_set h (by omega) ?_
  rw [prod_set hk]
  have h2 := h.2.2
  rw [prod_axis hk] at h2
  have h3 : outerOf t k * len * innerOf t k ≤ outerOf t k * t.getD k 0 * innerOf t k := Nat.mul_le_mul_right _ (Nat.mul_le_mul_left _ hl)
  omega

theorem part_ok {a : Arr} {t : List Nat} {k lo len : Nat} (h : Ok a t) (hk : k < t.length) (hb : lo + len ≤ t.getD k 0) : Ok (part k lo len a) (t.set k len) := by
  unfold part
  rw [h.nsh_eq]
  exact ok_tab (good_less h.good hk (by omega)) fun hc ix hi => h.rune_cell hc (inside_part hk hb hi)

theorem getD_replicate_set {n k j : Nat} {x : Int} (hj : j < n) : ((List.replicate n (0 : Int)).set k x).getD j 0 = if k = j then x else 0 := by
  simp only [List.getD_eq_getElem?_getD, List.getElem?_set, List.getElem?_replicate]
  split
  · rename_i e; subst e; simp [hj]
  · simp [hj]

theorem win_part {a : Arr} {t : List Nat} {k lo len : Nat} (h : Ok a t) (hk : k < t.length) (hb : lo + len ≤ t.getD k 0) :
    win ((List.replicate t.length 0).set k lo) (t.set k len) a = part k lo len a := by
  unfold win part
  rw [h.nsh_eq]
  refine tab_congr fun ix hi => ?_
  have hin := inside_part hk hb hi
  obtain ⟨h1, h2⟩ := inside_iff.1 hin
  rw [List.length_set] at h1
  have hg : ∀ j, j < t.length → (adds ix ((List.replicate t.length 0).set k (lo : Int))).getD j 0 = ((ix.set k (ix.getD k 0 + lo)).getD j 0 : Nat) := by
    intro j hj
    rw [adds_get (by omega) (by simpa using hj), getD_replicate_set hj, getD_set_if (by omega)]
    split
    · rename_i e; subst e; omega
    · omega
  have hw : WinIn t (adds ix ((List.replicate t.length 0).set k (lo : Int))) t.length := by
    intro j hj
    rw [hg j hj]
    have := h2 j hj
    omega
  rw [if_pos hw]
  congr 1
  apply ext_getD (by simp [adds_length]; omega)
  intro j hj
  simp only [List.length_map, adds_length, List.length_set, List.length_replicate] at hj
  have hj' : j < t.length := by omega
  have e := hg j hj'
  rw [← Int.toNat_natCast (n := (ix.set k (ix.getD k 0 + lo)).getD j 0), ← e]
  have hlen : j < (adds ix ((List.replicate t.length 0).set k (lo : Int))).length := by rw [adds_length]; simp; omega
  simp [List.getD_eq_getElem?_getD, hlen]

/-- One and the other behind it. -/
def glue (k : Nat) (a b : Arr) : Arr := tab a.ch (a.nsh.set k (a.nsh.getD k 0 + b.nsh.getD k 0)) fun ix =>
  if ix.getD k 0 < a.nsh.getD k 0 then a.cell ix else b.cell (ix.set k (ix.getD k 0 - a.nsh.getD k 0))

theorem glue_def (k : Nat) (a b : Arr) : glue k a b = tab a.ch (a.nsh.set k (a.nsh.getD k 0 + b.nsh.getD k 0)) fun ix =>
  if ix.getD k 0 < a.nsh.getD k 0 then a.cell ix else b.cell (ix.set k (ix.getD k 0 - a.nsh.getD k 0)) := rfl
theorem part_def (k lo len : Nat) (a : Arr) : part k lo len a = tab a.ch (a.nsh.set k len) fun ix => a.cell (ix.set k (ix.getD k 0 + lo)) := rfl
theorem nsh_set {b : Arr} {t : List Nat} {k l : Nat} (hb : Ok b (t.set k l)) (hk : k < t.length) : b.nsh.getD k 0 = l := by rw [hb.nsh_eq, getD_set hk]

theorem inside_glue1 {t ix : List Nat} {k m : Nat} (hk : k < t.length) (h : Inside (t.set k m) ix) (hi : ix.getD k 0 < t.getD k 0) : Inside t ix := by
  obtain ⟨h1, h2⟩ := inside_iff.1 h
  rw [List.length_set] at h1 h2
  rw [inside_iff]
  refine ⟨h1, fun j hj => ?_⟩
  have h3 := h2 j hj
  rw [getD_set_if hj] at h3
  by_cases e : k = j
  · subst e; exact hi
  · rw [if_neg e] at h3; exact h3
theorem inside_move {t ix : List Nat} {k m l x : Nat} (h : Inside (t.set k m) ix) (hx : x < l) : Inside (t.set k l) (ix.set k x) := by
  obtain ⟨h1, h2⟩ := inside_iff.1 h
  rw [List.length_set] at h1 h2
  rw [inside_iff]
  refine ⟨by simp [h1], fun j hj => ?_⟩
  rw [List.length_set] at hj
  have h3 := h2 j hj
  rw [getD_set_if hj] at h3 ⊢
  rw [getD_set_if (by omega)]
  by_cases e : k = j
  · rw [if_pos e, if_pos e]; exact hx
  · rw [if_neg e] at h3; rw [if_neg e, if_neg e]; exact h3
theorem inside_at {t ix : List Nat} {k m : Nat} (hk : k < t.length) (h : Inside (t.set k m) ix) : ix.getD k 0 < m := by
  have := (inside_iff.1 h).2 k (by simpa using hk)
  rwa [getD_set hk] at this

theorem glue_ok {a b : Arr} {t : List Nat} {k l : Nat} (ha : Ok a t) (hb : Ok b (t.set k l)) (hk : k < t.length) (hc : b.ch = a.ch) (hg : GoodSh (t.set k (t.getD k 0 + l))) : Ok (glue k a b) (t.set k (t.getD k 0 + l)) := by
  unfold glue
  rw [nsh_set hb hk, ha.nsh_eq]
  refine ok_tab hg fun h ix hi => ?_
  split
  · rename_i h1
    exact ha.rune_cell h (inside_glue1 hk hi h1)
  · have := inside_at hk hi
    exact hb.rune_cell (hc.trans h) (inside_move hi (by omega))

theorem cell_get {a : Arr} {t ix : List Nat} (h : Ok a t) (hi : Inside t ix) : a.da[place t ix]? = some (a.cell ix) := by
  have hl := place_lt hi
  unfold Arr.cell
  rw [h.nsh_eq, List.getD_eq_getElem?_getD, List.getElem?_eq_getElem (by rw [h.len]; exact hl)]
  rfl
theorem tab_get {c : Bool} {s ix : List Nat} {g : List Nat → Int} (hi : Inside s ix) : (tab c s g).da[place s ix]? = some (g ix) := by
  simp [tab, place_lt hi, coords_place hi]

theorem glue_cell {a b : Arr} {t ix : List Nat} {k l : Nat} (ha : Ok a t) (hb : Ok b (t.set k l)) (hk : k < t.length) (hi : Inside (t.set k (t.getD k 0 + l)) ix) :
    (glue k a b).cell ix = if ix.getD k 0 < t.getD k 0 then a.cell ix else b.cell (ix.set k (ix.getD k 0 - t.getD k 0)) := by
  rw [glue_def, ha.nsh_eq, nsh_set hb hk, tab_cell hi]
theorem part_cell {a : Arr} {t ix : List Nat} {k lo len : Nat} (h : Ok a t) (hi : Inside (t.set k len) ix) : (part k lo len a).cell ix = a.cell (ix.set k (ix.getD k 0 + lo)) := by
  rw [part_def, h.nsh_eq, tab_cell hi]
theorem glue_da1 {a b : Arr} {t : List Nat} {k l : Nat} (ha : Ok a t) (hb : Ok b (t.set k l)) (hk : k < t.length) {o j r : Nat} (ho : o < outerOf t k) (hj : j < t.getD k 0) (hr : r < innerOf t k) :
    (glue k a b).da[(o * (t.getD k 0 + l) + j) * innerOf t k + r]? = a.da[(o * t.getD k 0 + j) * innerOf t k + r]? := by
  obtain ⟨ix, h1, h2, h3, h4⟩ := exists_axis hk ho hj hr
  have hl := inside_length h1
  have e1 := place_axis hk hl
  rw [h2, h3, h4] at e1
  have hin : Inside (t.set k (t.getD k 0 + l)) ix := by
    have := inside_move (m := t.getD k 0) (l := t.getD k 0 + l) (x := j) (k := k) (t := t) (ix := ix) (by rw [set_getD]; exact h1) (by omega)
    rwa [← h3, set_getD] at this
  have e2 := place_axis (s := t.set k (t.getD k 0 + l)) (ix := ix) (k := k) (by simpa using hk) (by simpa using hl)
  rw [inner_set, getD_set hk, take_set_self, h2, h3, drop_set_self, h4] at e2
  rw [← e1, ← e2, cell_get ha h1]
  unfold glue
  rw [nsh_set hb hk, ha.nsh_eq, tab_get hin, if_pos (by omega)]
theorem glue_da2 {a b : Arr} {t : List Nat} {k l : Nat} (ha : Ok a t) (hb : Ok b (t.set k l)) (hk : k < t.length) {o j r : Nat} (ho : o < outerOf t k) (hj : j < l) (hr : r < innerOf t k) :
    (glue k a b).da[(o * (t.getD k 0 + l) + (t.getD k 0 + j)) * innerOf t k + r]? = b.da[(o * l + j) * innerOf t k + r]? := by
  have hk1 : k < (t.set k l).length := by simpa using hk
  obtain ⟨ix, h1, h2, h3, h4⟩ := exists_axis (s := t.set k l) hk1 (by rw [outer_set]; exact ho) (by rw [getD_set hk]; exact hj) (by rw [inner_set]; exact hr)
  have hl := inside_length h1
  rw [List.length_set] at hl
  have e1 := place_axis (ix := ix) hk1 (by rw [List.length_set]; exact hl)
  rw [h2, h3, h4, inner_set, getD_set hk] at e1
  have hin : Inside (t.set k (t.getD k 0 + l)) (ix.set k (t.getD k 0 + j)) := inside_move h1 (by omega)
  have e2 := place_axis_set (s := t.set k (t.getD k 0 + l)) (ix := ix) (k := k) (x := t.getD k 0 + j) (by simpa using hk) (by simpa using hl)
  have h2' : place (t.take k) (ix.take k) = o := by rwa [take_set_self] at h2
  have h4' : place (t.drop (k + 1)) (ix.drop (k + 1)) = r := by rwa [drop_set_self] at h4
  rw [inner_set, getD_set hk, take_set_self, h2', drop_set_self, h4'] at e2
  rw [← e1, ← e2, cell_get hb h1]
  unfold glue
  have hkx : k < ix.length := by omega
  rw [nsh_set hb hk, ha.nsh_eq, tab_get hin, getD_set hkx, if_neg (by omega), List.set_set, show t.getD k 0 + j - t.getD k 0 = j by omega, ← h3, set_getD]

/-- Piece by piece. -/
theorem glue_piece1 {a b : Arr} {t : List Nat} {k l : Nat} (ha : Ok a t) (hb : Ok b (t.set k l)) (hk : k < t.length) {o r : Nat} (ho : o < outerOf t k) (hr : r < t.getD k 0 * innerOf t k) :
    (glue k a b).da[o * (t.getD k 0 * innerOf t k + l * innerOf t k) + r]? = a.da[o * (t.getD k 0 * innerOf t k) + r]? := by
  obtain ⟨n, hn⟩ : ∃ n, n = innerOf t k := ⟨_, rfl⟩
  have hp : 0 < n := by
    rcases Nat.eq_zero_or_pos n with h | h
    · rw [← hn, h] at hr; omega
    · exact h
  have h := glue_da1 ha hb hk (o := o) (j := r / n) (r := r % n) ho ((Nat.div_lt_iff_lt_mul hp).2 (by rw [hn]; exact hr)) (by rw [← hn]; exact Nat.mod_lt _ hp)
  rw [← hn] at h ⊢
  have e := Nat.div_add_mod' r n
  rw [Nat.add_mul, Nat.add_mul, Nat.add_assoc, Nat.add_assoc, e, Nat.mul_assoc, Nat.mul_assoc, Nat.add_mul] at h
  exact h
theorem glue_piece2 {a b : Arr} {t : List Nat} {k l : Nat} (ha : Ok a t) (hb : Ok b (t.set k l)) (hk : k < t.length) {o r : Nat} (ho : o < outerOf t k) (hr : r < l * innerOf t k) :
    (glue k a b).da[o * (t.getD k 0 * innerOf t k + l * innerOf t k) + t.getD k 0 * innerOf t k + r]? = b.da[o * (l * innerOf t k) + r]? := by
  obtain ⟨n, hn⟩ : ∃ n, n = innerOf t k := ⟨_, rfl⟩
  have hp : 0 < n := by
    rcases Nat.eq_zero_or_pos n with h | h
    · rw [← hn, h] at hr; omega
    · exact h
  have h := glue_da2 ha hb hk (o := o) (j := r / n) (r := r % n) ho ((Nat.div_lt_iff_lt_mul hp).2 (by rw [hn]; exact hr)) (by rw [← hn]; exact Nat.mod_lt _ hp)
  rw [← hn] at h ⊢
  have e := Nat.div_add_mod' r n
  have e1 : (o * (t.getD k 0 + l) + (t.getD k 0 + r / n)) * n + r % n = o * (t.getD k 0 * n + l * n) + t.getD k 0 * n + r := by
    rw [Nat.add_mul, Nat.add_mul, Nat.mul_assoc, Nat.add_mul]; omega
  have e2 : (o * l + r / n) * n + r % n = o * (l * n) + r := by
    rw [Nat.add_mul, Nat.mul_assoc]; omega
  rw [e1, e2] at h
  exact h

/-- Head and tail are all. -/
theorem glue_parts {a : Arr} {t : List Nat} {k x : Nat} (h : Ok a t) (hk : k < t.length) (hx : x ≤ t.getD k 0) : glue k (part k 0 x a) (part k x (t.getD k 0 - x) a) = a := by
  have h1 := part_ok h hk (lo := 0) (len := x) (by omega)
  have h2 := part_ok h hk (lo := x) (len := t.getD k 0 - x) (by omega)
  conv => rhs; rw [h.eq_tab]
  rw [glue_def, h1.nsh_eq, h2.nsh_eq, getD_set hk, getD_set hk, List.set_set, show x + (t.getD k 0 - x) = t.getD k 0 by omega, set_getD]
  refine tab_congr fun ix hi => ?_
  have hl := inside_length hi
  have hkx : k < ix.length := by omega
  have hik := (inside_iff.1 hi).2 k hk
  have hi' : Inside (t.set k (t.getD k 0)) ix := by rw [set_getD]; exact hi
  split
  · rename_i hc
    have hin : Inside (t.set k x) ix := by
      have := inside_move hi' hc
      rwa [set_getD] at this
    rw [part_cell h hin, Nat.add_zero, set_getD]
  · rename_i hc
    have hin : Inside (t.set k (t.getD k 0 - x)) (ix.set k (ix.getD k 0 - x)) := inside_move hi' (by omega)
    rw [part_cell h hin, getD_set hkx, List.set_set, show ix.getD k 0 - x + x = ix.getD k 0 by omega, set_getD]

/-- Whichever two come first. -/
theorem glue_assoc {a b c : Arr} {t : List Nat} {k l m : Nat} (ha : Ok a t) (hb : Ok b (t.set k l)) (hc : Ok c (t.set k m)) (hk : k < t.length)
    (hcb : b.ch = a.ch) (hg : GoodSh (t.set k (t.getD k 0 + l))) (hg2 : GoodSh (t.set k (l + m))) (hcc : c.ch = b.ch) : glue k (glue k a b) c = glue k a (glue k b c) := by
  have h1 := glue_ok ha hb hk hcb hg
  have h2 : Ok (glue k b c) (t.set k (l + m)) := by
    have := glue_ok (t := t.set k l) (k := k) (l := m) hb (by rw [List.set_set]; exact hc) (by simpa using hk) hcc (by rw [List.set_set, getD_set hk]; exact hg2)
    rwa [List.set_set, getD_set hk] at this
  have e1 : (glue k a b).ch = a.ch := rfl
  rw [glue_def k (glue k a b) c, h1.nsh_eq, nsh_set hc hk, getD_set hk, List.set_set, e1]
  rw [glue_def k a (glue k b c), h2.nsh_eq, ha.nsh_eq, getD_set hk, Nat.add_assoc]
  refine tab_congr fun ix hi => ?_
  have hl := inside_length hi
  rw [List.length_set] at hl
  have hkx : k < ix.length := by omega
  have hik := inside_at hk hi
  by_cases g1 : ix.getD k 0 < t.getD k 0
  · have hin : Inside (t.set k (t.getD k 0 + l)) ix := by
      have := inside_move hi (l := t.getD k 0 + l) (x := ix.getD k 0) (by omega)
      rwa [set_getD] at this
    rw [if_pos (by omega), if_pos g1, glue_cell ha hb hk hin, if_pos g1]
  · rw [if_neg g1]
    by_cases g2 : ix.getD k 0 < t.getD k 0 + l
    · have hin : Inside (t.set k (t.getD k 0 + l)) ix := by
        have := inside_move hi (l := t.getD k 0 + l) (x := ix.getD k 0) (by omega)
        rwa [set_getD] at this
      have hin2 : Inside (t.set k (l + m)) (ix.set k (ix.getD k 0 - t.getD k 0)) := inside_move hi (by omega)
      have e3 := glue_cell (t := t.set k l) (k := k) (l := m) hb (by rw [List.set_set]; exact hc) (by simpa using hk) (ix := ix.set k (ix.getD k 0 - t.getD k 0)) (by rw [List.set_set, getD_set hk]; exact hin2)
      rw [if_pos g2, glue_cell ha hb hk hin, if_neg g1, e3, getD_set hkx, getD_set hk, if_pos (by omega)]
    · have hin2 : Inside (t.set k (l + m)) (ix.set k (ix.getD k 0 - t.getD k 0)) := inside_move hi (by omega)
      have e3 := glue_cell (t := t.set k l) (k := k) (l := m) hb (by rw [List.set_set]; exact hc) (by simpa using hk) (ix := ix.set k (ix.getD k 0 - t.getD k 0)) (by rw [List.set_set, getD_set hk]; exact hin2)
      rw [if_neg g2, e3, getD_set hkx, getD_set hk, if_neg (by omega), List.set_set, Nat.sub_sub]

/-- With nothing joined. -/
theorem glue_none_right {a : Arr} {t : List Nat} {k : Nat} (h : Ok a t) (hk : k < t.length) : glue k a (part k 0 0 a) = a := by
  have h2 := part_ok h hk (lo := 0) (len := 0) (by omega)
  conv => rhs; rw [h.eq_tab]
  rw [glue_def, h.nsh_eq, h2.nsh_eq, getD_set hk, Nat.add_zero, set_getD]
  refine tab_congr fun ix hi => ?_
  rw [if_pos ((inside_iff.1 hi).2 k hk)]
theorem glue_none_left {a : Arr} {t : List Nat} {k : Nat} (h : Ok a t) (hk : k < t.length) : glue k (part k 0 0 a) a = a := by
  have h2 := part_ok h hk (lo := 0) (len := 0) (by omega)
  conv => rhs; rw [h.eq_tab]
  rw [glue_def, h.nsh_eq, h2.nsh_eq, getD_set hk, Nat.zero_add, List.set_set, set_getD]
  refine tab_congr fun ix hi => ?_
  rw [if_neg (by omega), Nat.sub_zero, set_getD]

end Go.Proofs.YtojeggeimnenbaaDoor.P

namespace Go.Proofs.YtojeggeimnenbaaDoor.P

/-- How many ones are among the first i of a mask. -/
def cnt (m : List Int) (i : Nat) : Nat := (m.take i).countP (· == 1)
theorem cnt_zero (m : List Int) : cnt m 0 = 0 := by simp [cnt]
theorem cnt_one {m : List Int} {i : Nat} (h : m[i]? = some 1) : cnt m (i + 1) = cnt m i + 1 := by
  unfold cnt
  rw [List.take_add_one, h]
  simp
theorem cnt_other {m : List Int} {i : Nat} {x : Int} (h : m[i]? = some x) (hx : x ≠ 1) : cnt m (i + 1) = cnt m i := by
  unfold cnt
  rw [List.take_add_one, h]
  simp [hx]
theorem cnt_mono {m : List Int} {i j : Nat} (h : i ≤ j) : cnt m i ≤ cnt m j := by
  unfold cnt
  rw [show m.take i = (m.take j).take i by rw [List.take_take, Nat.min_eq_left h]]
  exact (List.take_sublist _ _).countP_le
theorem cnt_le (m : List Int) (i : Nat) : cnt m i ≤ i := by
  unfold cnt
  have := List.countP_le_length (p := (· == (1 : Int))) (l := m.take i)
  simp at this
  omega

/-- Where the j-th one is. -/
def posOf : List Int → Nat → Nat
  | [], _ => 0
  | x :: m, j => if x = 1 then (match j with | 0 => 0 | j + 1 => posOf m j + 1) else posOf m j + 1

theorem cnt_cons (x : Int) (m : List Int) (i : Nat) : cnt (x :: m) (i + 1) = (if x = 1 then 1 else 0) + cnt m i := by
  unfold cnt
  rw [List.take_succ_cons, List.countP_cons]
  by_cases h : x = 1 <;> simp [h] ; omega
theorem posOf_spec : ∀ {m : List Int} {j : Nat}, j < cnt m m.length → posOf m j < m.length ∧ m[posOf m j]? = some 1 ∧ cnt m (posOf m j) = j
  | [], j, h => by simp [cnt] at h
  | x :: m, j, h => by
    rw [List.length_cons, cnt_cons] at h
    unfold posOf
    by_cases hx : x = 1
    · subst hx
      simp only [if_true] at h ⊢
      match j, h with
      | 0, _ => simp [cnt]
      | j + 1, h =>
        obtain ⟨h1, h2, h3⟩ := posOf_spec (m := m) (j := j) (by omega)
        refine ⟨by simpa using h1, by simpa using h2, ?_⟩
        rw [cnt_cons, h3]; simp; omega
    · rw [if_neg hx] at h ⊢
      obtain ⟨h1, h2, h3⟩ := posOf_spec (m := m) (j := j) (by omega)
      refine ⟨by simpa using h1, by simpa using h2, ?_⟩
      rw [cnt_cons, h3]; simp [hx]
theorem posOf_cnt : ∀ {m : List Int} {i : Nat}, m[i]? = some 1 → posOf m (cnt m i) = i
  | [], i, h => by simp at h
  | x :: m, 0, h => by
    simp only [List.getElem?_cons_zero, Option.some.injEq] at h
    subst h
    simp [posOf, cnt]
  | x :: m, i + 1, h => by
    simp only [List.getElem?_cons_succ] at h
    have ih := posOf_cnt h
    rw [cnt_cons]
    unfold posOf
    by_cases hx : x = 1
    · subst hx
      simp only [if_true]
      rw [Nat.add_comm 1]
      simp only [ih]
    · simp only [if_neg hx, Nat.zero_add, ih]
theorem cnt_lt {m : List Int} {i : Nat} (h : m[i]? = some 1) : cnt m i < cnt m m.length := by
  have hl := (List.getElem?_eq_some_iff.1 h).1
  have h1 := cnt_one h
  have h2 := cnt_mono (m := m) (show i + 1 ≤ m.length by omega)
  omega

/-- Only zeros and ones. -/
def Mask (m : List Int) : Prop := ∀ x ∈ m, x = 0 ∨ x = 1
instance (m : List Int) : Decidable (Mask m) := inferInstanceAs (Decidable (∀ x ∈ m, x = 0 ∨ x = 1))
def others (m : List Int) : List Int := m.map fun x => 1 - x
theorem others_mask {m : List Int} (h : Mask m) : Mask (others m) := by
  intro x hx
  simp only [others, List.mem_map] at hx
  obtain ⟨y, hy, rfl⟩ := hx
  rcases h y hy with rfl | rfl <;> simp
theorem others_length (m : List Int) : (others m).length = m.length := by simp [others]
theorem others_at {m : List Int} {i : Nat} : (others m)[i]? = m[i]?.map fun x => 1 - x := by simp [others]
theorem mask_at {m : List Int} (h : Mask m) {i : Nat} {x : Int} (hi : m[i]? = some x) : x = 0 ∨ x = 1 := h x (List.mem_of_getElem? hi)
theorem others_one {m : List Int} (h : Mask m) {i : Nat} : (others m)[i]? = some 1 ↔ m[i]? = some 0 := by
  rw [others_at]
  rcases hx : m[i]? with _ | x
  · simp
  · simp only [Option.map_some, Option.some.injEq]
    omega
theorem cnt_others {m : List Int} (h : Mask m) : ∀ {i : Nat}, i ≤ m.length → cnt m i + cnt (others m) i = i
  | 0, _ => by simp [cnt_zero]
  | i + 1, hi => by
    have ih := cnt_others h (i := i) (by omega)
    have hx : m[i]? = some m[i] := List.getElem?_eq_getElem (by omega)
    rcases mask_at h hx with e | e
    · have h1 := cnt_other hx (by omega)
      have h2 := cnt_one ((others_one h).2 (by rw [hx, e]))
      omega
    · have h1 := cnt_one (by rw [hx, e])
      have h2 := cnt_other (m := others m) (i := i) (x := 0) (by rw [others_at, hx, e]; rfl) (by omega)
      omega

/-- What a mask keeps. -/
def keep (m : List Int) (k : Nat) (a : Arr) : Arr := tab a.ch (a.nsh.set k (cnt m m.length)) fun ix => a.cell (ix.set k (posOf m (ix.getD k 0)))
/-- What is spread by a mask. -/
def spread (m : List Int) (k : Nat) (a : Arr) : Arr := tab a.ch (a.nsh.set k m.length) fun ix => if m[ix.getD k 0]? = some 1 then a.cell (ix.set k (cnt m (ix.getD k 0))) else fillOf a.ch

theorem inside_to {t ix : List Nat} {k l x : Nat} (h : Inside (t.set k l) ix) (hx : x < t.getD k 0) : Inside t (ix.set k x) := by
  have := inside_move (l := t.getD k 0) h hx
  rwa [set_getD] at this

theorem keep_ok {a : Arr} {t : List Nat} {k : Nat} {m : List Int} (h : Ok a t) (hk : k < t.length) (hm : m.length = t.getD k 0) : Ok (keep m k a) (t.set k (cnt m m.length)) := by
  unfold keep
  rw [h.nsh_eq]
  refine ok_tab (good_less h.good hk (by have := cnt_le m m.length; omega)) fun hc ix hi => h.rune_cell hc (inside_to hi ?_)
  have := posOf_spec (inside_at hk hi)
  omega
theorem keep_cell {a : Arr} {t ix : List Nat} {k : Nat} {m : List Int} (h : Ok a t) (hi : Inside (t.set k (cnt m m.length)) ix) : (keep m k a).cell ix = a.cell (ix.set k (posOf m (ix.getD k 0))) := by
  unfold keep
  rw [h.nsh_eq, tab_cell hi]
theorem spread_ok {a : Arr} {t : List Nat} {k : Nat} {m : List Int} (h : Ok a t) (hk : k < t.length) (hm : cnt m m.length = t.getD k 0) (hg : GoodSh (t.set k m.length)) : Ok (spread m k a) (t.set k m.length) := by
  unfold spread
  rw [h.nsh_eq]
  refine ok_tab hg fun hc ix hi => ?_
  split
  · rename_i h1
    refine h.rune_cell hc (inside_to hi ?_)
    rw [← hm]
    exact cnt_lt h1
  · exact fill_fine _
theorem spread_cell {a : Arr} {t ix : List Nat} {k : Nat} {m : List Int} (h : Ok a t) (hi : Inside (t.set k m.length) ix) :
    (spread m k a).cell ix = if m[ix.getD k 0]? = some 1 then a.cell (ix.set k (cnt m (ix.getD k 0))) else fillOf a.ch := by
  unfold spread
  rw [h.nsh_eq, tab_cell hi]

/-- The cells of what a mask keeps, one piece behind the other. -/
theorem keep_da {a : Arr} {t : List Nat} {k : Nat} {m : List Int} (h : Ok a t) (hk : k < t.length) (hm : m.length = t.getD k 0) {o i r : Nat} (ho : o < outerOf t k) (hi : m[i]? = some 1) (hr : r < innerOf t k) :
    (keep m k a).da[(o * cnt m m.length + cnt m i) * innerOf t k + r]? = a.da[(o * t.getD k 0 + i) * innerOf t k + r]? := by
  have hil := (List.getElem?_eq_some_iff.1 hi).1
  obtain ⟨ix, h1, h2, h3, h4⟩ := exists_axis hk ho (show i < t.getD k 0 by omega) hr
  have hl := inside_length h1
  have e1 := place_axis hk hl
  rw [h2, h3, h4] at e1
  have hin : Inside (t.set k (cnt m m.length)) (ix.set k (cnt m i)) := by
    have h5 : Inside (t.set k (t.getD k 0)) ix := by rw [set_getD]; exact h1
    exact inside_move h5 (cnt_lt hi)
  have e2 := place_axis_set (s := t.set k (cnt m m.length)) (ix := ix) (k := k) (x := cnt m i) (by simpa using hk) (by simpa using hl)
  rw [inner_set, getD_set hk, take_set_self, h2, drop_set_self, h4] at e2
  rw [← e1, ← e2, cell_get h h1, cell_get (keep_ok h hk hm) hin, keep_cell h hin]
  have hkx : k < ix.length := by omega
  rw [getD_set hkx, List.set_set, posOf_cnt hi, ← h3, set_getD]
theorem spread_da1 {a : Arr} {t : List Nat} {k : Nat} {m : List Int} (h : Ok a t) (hk : k < t.length) (hm : cnt m m.length = t.getD k 0) (hg : GoodSh (t.set k m.length)) {o i r : Nat} (ho : o < outerOf t k) (hi : m[i]? = some 1)
    (hr : r < innerOf t k) : (spread m k a).da[(o * m.length + i) * innerOf t k + r]? = a.da[(o * t.getD k 0 + cnt m i) * innerOf t k + r]? := by
  have hil := (List.getElem?_eq_some_iff.1 hi).1
  have hk1 : k < (t.set k m.length).length := by simpa using hk
  obtain ⟨ix, h1, h2, h3, h4⟩ := exists_axis (s := t.set k m.length) hk1 (by rw [outer_set]; exact ho) (by rw [getD_set hk]; exact hil) (by rw [inner_set]; exact hr)
  have hl := inside_length h1
  rw [List.length_set] at hl
  have e1 := place_axis (ix := ix) hk1 (by rw [List.length_set]; exact hl)
  rw [h2, h3, h4, inner_set, getD_set hk] at e1
  have h2' : place (t.take k) (ix.take k) = o := by rwa [take_set_self] at h2
  have h4' : place (t.drop (k + 1)) (ix.drop (k + 1)) = r := by rwa [drop_set_self] at h4
  have hin : Inside t (ix.set k (cnt m i)) := inside_to h1 (by rw [← hm]; exact cnt_lt hi)
  have e2 := place_axis_set (s := t) (ix := ix) (k := k) (x := cnt m i) hk hl
  rw [h2', h4'] at e2
  rw [← e1, ← e2, cell_get h hin, cell_get (spread_ok h hk hm hg) h1, spread_cell h h1, h3, if_pos hi]
theorem spread_da0 {a : Arr} {t : List Nat} {k : Nat} {m : List Int} (h : Ok a t) (hk : k < t.length) (hm : cnt m m.length = t.getD k 0) (hg : GoodSh (t.set k m.length)) {o i r : Nat} (ho : o < outerOf t k) (hil : i < m.length)
    (hi : m[i]? ≠ some 1) (hr : r < innerOf t k) : (spread m k a).da[(o * m.length + i) * innerOf t k + r]? = some (fillOf a.ch) := by
  have hk1 : k < (t.set k m.length).length := by simpa using hk
  obtain ⟨ix, h1, h2, h3, h4⟩ := exists_axis (s := t.set k m.length) hk1 (by rw [outer_set]; exact ho) (by rw [getD_set hk]; exact hil) (by rw [inner_set]; exact hr)
  have hl := inside_length h1
  rw [List.length_set] at hl
  have e1 := place_axis (ix := ix) hk1 (by rw [List.length_set]; exact hl)
  rw [h2, h3, h4, inner_set, getD_set hk] at e1
  rw [← e1, cell_get (spread_ok h hk hm hg) h1, spread_cell h h1, h3, if_neg hi]

/-- What is spread is kept. -/
theorem keep_spread {a : Arr} {t : List Nat} {k : Nat} {m : List Int} (h : Ok a t) (hk : k < t.length) (hm : cnt m m.length = t.getD k 0) (hg : GoodSh (t.set k m.length)) : keep m k (spread m k a) = a := by
  have hs := spread_ok h hk hm hg
  conv => rhs; rw [h.eq_tab]
  rw [show keep m k (spread m k a) = tab (spread m k a).ch ((spread m k a).nsh.set k (cnt m m.length)) fun ix => (spread m k a).cell (ix.set k (posOf m (ix.getD k 0))) from rfl, hs.nsh_eq, List.set_set, hm, set_getD]
  refine tab_congr fun ix hi => ?_
  have hl := inside_length hi
  have hkx : k < ix.length := by omega
  have hj := (inside_iff.1 hi).2 k hk
  obtain ⟨p1, p2, p3⟩ := posOf_spec (m := m) (j := ix.getD k 0) (by omega)
  have hi' : Inside (t.set k (t.getD k 0)) ix := by rw [set_getD]; exact hi
  rw [spread_cell h (inside_move hi' p1), getD_set hkx, if_pos p2, p3, List.set_set, set_getD]
/-- Elsewhere stand fills. -/
theorem keep_others_spread {a : Arr} {t : List Nat} {k : Nat} {m : List Int} (h : Ok a t) (hk : k < t.length) (hm : cnt m m.length = t.getD k 0) (hg : GoodSh (t.set k m.length)) (hM : Mask m) :
    ∀ x ∈ (keep (others m) k (spread m k a)).da, x = fillOf a.ch := by
  have hs := spread_ok h hk hm hg
  have hl : (others m).length = (t.set k m.length).getD k 0 := by rw [others_length, getD_set hk]
  have hko := keep_ok hs (k := k) (by simpa using hk) hl
  intro x hx
  rw [show (keep (others m) k (spread m k a)).da = (List.range _).map _ from rfl, List.mem_map] at hx
  obtain ⟨p, hp, rfl⟩ := hx
  rw [List.mem_range, hs.nsh_eq] at hp
  have hin := coords_inside hp
  rw [hs.nsh_eq]
  generalize coords ((t.set k m.length).set k (cnt (others m) (others m).length)) p = ix at hin
  rw [List.set_set] at hin
  have hkx : k < ix.length := by rw [inside_length hin]; simpa using hk
  obtain ⟨p1, p2, p3⟩ := posOf_spec (inside_at hk hin)
  rw [others_length] at p1
  show (spread m k a).cell (ix.set k (posOf (others m) (ix.getD k 0))) = _
  rw [spread_cell h (inside_move hin p1), getD_set hkx, if_neg (by rw [(others_one hM).1 p2]; simp)]
theorem keep_lengths {a : Arr} {t : List Nat} {k : Nat} {m : List Int} (h : Ok a t) (hk : k < t.length) (hm : m.length = t.getD k 0) (hM : Mask m) :
    (keep m k a).da.length + (keep (others m) k a).da.length = a.da.length := by
  have h1 := (keep_ok h hk hm).len
  have h2 := (keep_ok h hk (m := others m) (by rw [others_length]; exact hm)).len
  rw [h1, h2, h.len, prod_set hk, prod_set hk, prod_axis hk, others_length, ← hm, ← Nat.add_mul, ← Nat.mul_add, cnt_others hM (Nat.le_refl _)]

/-- What was kept and the others, each spread again. -/
theorem mesh_cell {a : Arr} {t ix : List Nat} {k : Nat} {m : List Int} (h : Ok a t) (hk : k < t.length) (hm : m.length = t.getD k 0) (hi : Inside t ix) :
    (spread m k (keep m k a)).cell ix = if m[ix.getD k 0]? = some 1 then a.cell ix else fillOf a.ch := by
  have hko := keep_ok h hk hm
  have hl := inside_length hi
  have hkx : k < ix.length := by omega
  have hin : Inside ((t.set k (cnt m m.length)).set k m.length) ix := by rw [List.set_set, hm, set_getD]; exact hi
  rw [spread_cell hko hin]
  by_cases c : m[ix.getD k 0]? = some 1
  · rw [if_pos c, if_pos c, keep_cell h, getD_set hkx, List.set_set, posOf_cnt c, set_getD]
    have hi' : Inside (t.set k (t.getD k 0)) ix := by rw [set_getD]; exact hi
    exact inside_move hi' (cnt_lt c)
  · rw [if_neg c, if_neg c]
    rfl

end Go.Proofs.YtojeggeimnenbaaDoor.P

namespace Go.Proofs.YtojeggeimnenbaaDoor.P

/-- The cells of a list, from the i-th on, of which it is so. -/
def selFrom (q : Nat → Int → Bool) : Nat → List Int → List Int
  | _, [] => []
  | i, c :: d => if q i c then c :: selFrom q (i + 1) d else selFrom q (i + 1) d
def sel (q : Nat → Int → Bool) (d : List Int) : List Int := selFrom q 0 d

theorem selFrom_append (q : Nat → Int → Bool) : ∀ (i : Nat) (d e : List Int), selFrom q i (d ++ e) = selFrom q i d ++ selFrom q (i + d.length) e
  | i, [], e => by simp [selFrom]
  | i, c :: d, e => by
    have ih := selFrom_append q (i + 1) d e
    simp only [List.cons_append, selFrom, List.length_cons]
    rw [ih, show i + 1 + d.length = i + (d.length + 1) by omega]
    split <;> simp
theorem sel_zero (q : Nat → Int → Bool) (d : List Int) : sel q (d.take 0) = [] := by simp [sel, selFrom]
theorem sel_yes {q : Nat → Int → Bool} {d : List Int} {k : Nat} {c : Int} (h : d[k]? = some c) (hq : q k c = true) : sel q (d.take (k + 1)) = sel q (d.take k) ++ [c] := by
  have hk := (List.getElem?_eq_some_iff.1 h).1
  unfold sel
  rw [List.take_add_one, h, selFrom_append, List.length_take, Nat.zero_add, Nat.min_eq_left (by omega)]
  simp [selFrom, hq]
theorem sel_no {q : Nat → Int → Bool} {d : List Int} {k : Nat} {c : Int} (h : d[k]? = some c) (hq : q k c = false) : sel q (d.take (k + 1)) = sel q (d.take k) := by
  have hk := (List.getElem?_eq_some_iff.1 h).1
  unfold sel
  rw [List.take_add_one, h, selFrom_append, List.length_take, Nat.zero_add, Nat.min_eq_left (by omega)]
  simp [selFrom, hq]
theorem mem_selFrom {q : Nat → Int → Bool} {x : Int} : ∀ {i : Nat} {d : List Int}, x ∈ selFrom q i d ↔ ∃ k, d[k]? = some x ∧ q (i + k) x = true
  | i, [] => by simp [selFrom]
  | i, c :: d => by
    have ih := mem_selFrom (q := q) (x := x) (i := i + 1) (d := d)
    have e : (∃ k, (c :: d)[k]? = some x ∧ q (i + k) x = true) ↔ (c = x ∧ q i x = true) ∨ ∃ k, d[k]? = some x ∧ q (i + 1 + k) x = true := by
      constructor
      · rintro ⟨k, h1, h2⟩
        match k, h1, h2 with
        | 0, h1, h2 => exact .inl ⟨by simpa using h1, by simpa using h2⟩
        | k + 1, h1, h2 => exact .inr ⟨k, by simpa using h1, by rw [show i + 1 + k = i + (k + 1) by omega]; exact h2⟩
      · rintro (⟨rfl, h2⟩ | ⟨k, h1, h2⟩)
        · exact ⟨0, by simp, by simpa using h2⟩
        · exact ⟨k + 1, by simpa using h1, by rw [show i + (k + 1) = i + 1 + k by omega]; exact h2⟩
    rw [e, ← ih]
    simp only [selFrom]
    split
    · rename_i hq
      rw [List.mem_cons]
      constructor
      · rintro (rfl | h)
        · exact .inl ⟨rfl, hq⟩
        · exact .inr h
      · rintro (⟨rfl, _⟩ | h)
        · exact .inl rfl
        · exact .inr h
    · rename_i hq
      constructor
      · exact .inr
      · rintro (⟨rfl, h⟩ | h)
        · exact absurd h hq
        · exact h
theorem selFrom_all {q : Nat → Int → Bool} : ∀ {i : Nat} {d : List Int}, (∀ k c, d[k]? = some c → q (i + k) c = true) → selFrom q i d = d
  | i, [], _ => rfl
  | i, c :: d, h => by
    have h0 := h 0 c (by simp)
    rw [Nat.add_zero] at h0
    rw [selFrom, if_pos h0, selFrom_all (fun k x hk => by rw [show i + 1 + k = i + (k + 1) by omega]; exact h (k + 1) x (by simpa using hk))]
theorem selFrom_filter {p : Int → Bool} : ∀ {i : Nat} {d : List Int}, selFrom (fun _ c => p c) i d = d.filter p
  | i, [] => rfl
  | i, c :: d => by
    rw [selFrom, selFrom_filter, List.filter_cons]
theorem sel_filter (p : Int → Bool) (d : List Int) : sel (fun _ c => p c) d = d.filter p := selFrom_filter
theorem selFrom_length {q : Nat → Int → Bool} : ∀ {i : Nat} {d : List Int}, (selFrom q i d).length ≤ d.length
  | i, [] => by simp [selFrom]
  | i, c :: d => by
    have := selFrom_length (q := q) (i := i + 1) (d := d)
    simp only [selFrom, List.length_cons]
    split <;> simp <;> omega
theorem sel_length (q : Nat → Int → Bool) (d : List Int) : (sel q d).length ≤ d.length := selFrom_length
theorem mem_sel {q : Nat → Int → Bool} {x : Int} {d : List Int} (h : x ∈ sel q d) : x ∈ d := by
  obtain ⟨k, h1, _⟩ := mem_selFrom.1 h
  exact List.mem_of_getElem? h1

/-- Each cell once. -/
def firstB (d : List Int) (i : Nat) (c : Int) : Bool := decide (d.idxOf c = i)
def nubD (d : List Int) : List Int := sel (firstB d) d
theorem nub_rises (f : Int → Nat) : ∀ (i : Nat) (d : List Int), (∀ x ∈ selFrom (fun i c => decide (f c = i)) i d, i ≤ f x) ∧ ((selFrom (fun i c => decide (f c = i)) i d).map f).Pairwise (· < ·)
  | i, [] => by simp [selFrom]
  | i, c :: d => by
    obtain ⟨h1, h2⟩ := nub_rises f (i + 1) d
    simp only [selFrom]
    split
    · rename_i hq
      have hq' : f c = i := by simpa using hq
      refine ⟨fun x hx => ?_, ?_⟩
      · rcases List.mem_cons.1 hx with rfl | hx
        · omega
        · have := h1 x hx; omega
      · rw [List.map_cons, List.pairwise_cons]
        refine ⟨fun y hy => ?_, h2⟩
        obtain ⟨x, hx, rfl⟩ := List.mem_map.1 hy
        have := h1 x hx
        omega
    · exact ⟨fun x hx => by have := h1 x hx; omega, h2⟩
theorem nubD_rises (d : List Int) : ((nubD d).map d.idxOf).Pairwise (· < ·) := (nub_rises d.idxOf 0 d).2
theorem nubD_nodup (d : List Int) : (nubD d).Nodup := by
  have h := nubD_rises d
  rw [List.pairwise_map] at h
  exact h.imp fun h e => by rw [e] at h; omega
theorem idx_getElem {d : List Int} {c : Int} (h : c ∈ d) : d[d.idxOf c]? = some c := by
  have hl := List.idxOf_lt_length_of_mem h
  rw [List.getElem?_eq_getElem hl, List.getElem_idxOf]
theorem mem_nubD {d : List Int} {c : Int} : c ∈ nubD d ↔ c ∈ d := by
  constructor
  · exact mem_sel
  · intro h
    unfold nubD sel
    exact mem_selFrom.2 ⟨d.idxOf c, idx_getElem h, by simp [firstB]⟩
theorem idx_nodup {d : List Int} (h : d.Nodup) {k : Nat} {c : Int} (hk : d[k]? = some c) : d.idxOf c = k := by
  obtain ⟨hl, rfl⟩ := List.getElem?_eq_some_iff.1 hk
  exact h.idxOf_getElem k hl
theorem nubD_self {d : List Int} (h : d.Nodup) : nubD d = d := selFrom_all fun k c hk => by
  rw [Nat.zero_add]
  unfold firstB
  rw [decide_eq_true_iff]
  exact idx_nodup h hk

def vecOf (c : Bool) (d : List Int) : Arr := ⟨c, [(d.length : Int)], d⟩
theorem vec_ok {c : Bool} {d : List Int} (hl : d.length ≤ 4096) (hr : c = true → d.any badRune = false) : Ok (vecOf c d) [d.length] :=
  ⟨rfl, ⟨by simp, by simpa using hl, by simpa [prod] using hl⟩, by simp [prod, vecOf], hr⟩
theorem vec_sub_ok {a : Arr} {t : List Nat} {d : List Int} (h : Ok a t) (hl : d.length ≤ 4096) (hm : ∀ x ∈ d, x ∈ a.da) : Ok (vecOf a.ch d) [d.length] :=
  vec_ok hl fun hc => any_bad_iff.2 fun x hx => any_bad_iff.1 (h.rune hc) x (hm x hx)
theorem line_of {a : Arr} {t : List Nat} (h : Ok a t) (hl : a.sh.length = 1) : a = vecOf a.ch a.da ∧ t = [a.da.length] ∧ a.da.length ≤ 4096 := by
  obtain ⟨c, s, d⟩ := a
  have hs := h.sh
  have hd := h.len
  simp only at hs hd hl ⊢
  subst hs
  rw [length_ints] at hl
  match t, hl with
  | [n], _ =>
    simp [prod] at hd
    subst hd
    exact ⟨rfl, rfl, h.good.2.1 _ (by simp)⟩
theorem ok_da_le {a : Arr} {t : List Nat} (h : Ok a t) : a.da.length ≤ 4096 := by rw [h.len]; exact h.good.2.2

/-- Does an array have a cell? -/
def hasB (b : Arr) (c : Bool) (x : Int) : Bool := decide (x ∈ b.da) && decide (c = b.ch)
theorem hasB_iff {b : Arr} {c : Bool} {x : Int} : hasB b c x = true ↔ x ∈ b.da ∧ c = b.ch := by simp [hasB]
/-- Where a cell is first. -/
def findN (a : Arr) (c : Bool) (x : Int) : Nat := if hasB a c x then a.da.idxOf x else a.da.length
theorem findN_le (a : Arr) (c : Bool) (x : Int) : findN a c x ≤ a.da.length := by
  unfold findN
  split
  · exact List.idxOf_le_length
  · exact Nat.le_refl _
theorem findN_lt {a : Arr} {c : Bool} {x : Int} : findN a c x < a.da.length ↔ hasB a c x = true := by
  unfold findN
  split
  · rename_i h
    exact ⟨fun _ => h, fun _ => List.idxOf_lt_length_of_mem (hasB_iff.1 h).1⟩
  · rename_i h
    simp [h]
theorem findN_get {a : Arr} {c : Bool} {x : Int} (h : findN a c x < a.da.length) : c = a.ch ∧ a.da[findN a c x]? = some x := by
  have hb := findN_lt.1 h
  obtain ⟨h1, h2⟩ := hasB_iff.1 hb
  refine ⟨h2, ?_⟩
  unfold findN
  rw [if_pos hb]
  exact idx_getElem h1
theorem idxOf_first {d : List Int} {x : Int} : ∀ {j : Nat}, j < d.idxOf x → d[j]? ≠ some x := by
  induction d with
  | nil => simp
  | cons y d ih =>
    intro j hj
    rw [List.idxOf_cons] at hj
    by_cases e : y = x
    · subst e; simp at hj
    · have : (y == x) = false := by simpa using e
      rw [this] at hj
      simp at hj
      match j, hj with
      | 0, _ => simpa using e
      | j + 1, hj => simpa using ih (by omega)
theorem findN_first {a : Arr} {c : Bool} {x : Int} {j : Nat} (h : j < findN a c x) (hc : c = a.ch) : a.da[j]? ≠ some x := by
  unfold findN at h
  split at h
  · exact idxOf_first h
  · rename_i hb
    intro e
    exact hb (hasB_iff.2 ⟨List.mem_of_getElem? e, hc⟩)

def index (a b : Arr) : Arr := ⟨false, b.sh, b.da.map fun x => ((findN a b.ch x : Nat) : Int)⟩
def isin (a b : Arr) : Arr := ⟨false, a.sh, a.da.map fun x => if hasB b a.ch x then 1 else 0⟩
def nub (a : Arr) : Arr := vecOf a.ch (nubD a.da)
def without (a b : Arr) : Arr := vecOf a.ch (a.da.filter fun x => !hasB b a.ch x)
def meet (a b : Arr) : Arr := vecOf a.ch (a.da.filter fun x => hasB b a.ch x)
def union (a b : Arr) : Arr := vecOf a.ch (a.da ++ (without b a).da)

def twoErr (a b : Arr) : Int := if arrErr a ≠ 0 then arrErr a else arrErr b
def indexErr (a b : Arr) : Int := if twoErr a b ≠ 0 then twoErr a b else if a.sh.length ≠ 1 then 3 else 0
def nubErr (a : Arr) : Int := if arrErr a ≠ 0 then arrErr a else if a.sh.length ≠ 1 then 3 else 0
def pairErr (a b : Arr) : Int := if twoErr a b ≠ 0 then twoErr a b else if a.sh.length ≠ 1 ∨ b.sh.length ≠ 1 then 3 else 0
def unionErr (a b : Arr) : Int := if pairErr a b ≠ 0 then pairErr a b else if a.ch ≠ b.ch then 6 else if 4096 < (union a b).da.length then 7 else 0

theorem twoErr_zero {a b : Arr} (h : twoErr a b = 0) : ∃ s t, Ok a s ∧ Ok b t := by
  unfold twoErr at h
  by_cases h1 : arrErr a ≠ 0
  · rw [if_pos h1] at h; exact absurd h h1
  · rw [if_neg h1] at h
    obtain ⟨s, hs⟩ := ok_of_arrErr (by simpa using h1)
    obtain ⟨t, ht⟩ := ok_of_arrErr h
    exact ⟨s, t, hs, ht⟩
theorem twoErr_ok {a b : Arr} {s t : List Nat} (ha : Ok a s) (hb : Ok b t) : twoErr a b = 0 := by
  unfold twoErr
  rw [arrErr_ok ha, arrErr_ok hb]; rfl
theorem indexErr_zero {a b : Arr} (h : indexErr a b = 0) : ∃ s t, Ok a s ∧ Ok b t ∧ a.sh.length = 1 := by
  unfold indexErr at h
  by_cases h1 : twoErr a b ≠ 0
  · rw [if_pos h1] at h; exact absurd h h1
  · rw [if_neg h1] at h
    obtain ⟨s, t, hs, ht⟩ := twoErr_zero (by simpa using h1)
    by_cases h2 : a.sh.length ≠ 1
    · rw [if_pos h2] at h; omega
    · exact ⟨s, t, hs, ht, by simpa using h2⟩
theorem nubErr_zero {a : Arr} (h : nubErr a = 0) : ∃ s, Ok a s ∧ a.sh.length = 1 := by
  unfold nubErr at h
  by_cases h1 : arrErr a ≠ 0
  · rw [if_pos h1] at h; exact absurd h h1
  · rw [if_neg h1] at h
    obtain ⟨s, hs⟩ := ok_of_arrErr (by simpa using h1)
    by_cases h2 : a.sh.length ≠ 1
    · rw [if_pos h2] at h; omega
    · exact ⟨s, hs, by simpa using h2⟩
theorem pairErr_zero {a b : Arr} (h : pairErr a b = 0) : ∃ s t, Ok a s ∧ Ok b t ∧ a.sh.length = 1 ∧ b.sh.length = 1 := by
  unfold pairErr at h
  by_cases h1 : twoErr a b ≠ 0
  · rw [if_pos h1] at h; exact absurd h h1
  · rw [if_neg h1] at h
    obtain ⟨s, t, hs, ht⟩ := twoErr_zero (by simpa using h1)
    by_cases h2 : a.sh.length ≠ 1 ∨ b.sh.length ≠ 1
    · rw [if_pos h2] at h; omega
    · exact ⟨s, t, hs, ht, by omega, by omega⟩
theorem unionErr_zero {a b : Arr} (h : unionErr a b = 0) : pairErr a b = 0 ∧ a.ch = b.ch ∧ (union a b).da.length ≤ 4096 := by
  unfold unionErr at h
  by_cases h1 : pairErr a b ≠ 0
  · rw [if_pos h1] at h; exact absurd h h1
  · rw [if_neg h1] at h
    by_cases h2 : a.ch ≠ b.ch
    · rw [if_pos h2] at h; omega
    · rw [if_neg h2] at h
      by_cases h3 : 4096 < (union a b).da.length
      · rw [if_pos h3] at h; omega
      · exact ⟨by simpa using h1, by simpa using h2, by omega⟩
theorem nubErr_ok {a : Arr} {s : List Nat} (h : Ok a s) (hl : a.sh.length = 1) : nubErr a = 0 := by
  unfold nubErr; rw [arrErr_ok h, hl]; rfl
theorem indexErr_ok {a b : Arr} {s t : List Nat} (h : Ok a s) (hb : Ok b t) (hl : a.sh.length = 1) : indexErr a b = 0 := by
  unfold indexErr; rw [twoErr_ok h hb, hl]; rfl
theorem pairErr_ok {a b : Arr} {s t : List Nat} (h : Ok a s) (hb : Ok b t) (hl : a.sh.length = 1) (hl2 : b.sh.length = 1) : pairErr a b = 0 := by
  unfold pairErr; rw [twoErr_ok h hb, hl, hl2]; rfl

theorem nub_ok {a : Arr} {t : List Nat} (h : Ok a t) : Ok (nub a) [(nubD a.da).length] :=
  vec_sub_ok h (by have := sel_length (firstB a.da) a.da; have := ok_da_le h; unfold nubD; omega) fun x hx => mem_nubD.1 hx
theorem without_ok {a : Arr} {t : List Nat} (h : Ok a t) (b : Arr) : Ok (without a b) [(without a b).da.length] :=
  vec_sub_ok h (by have := List.length_filter_le (fun x => !hasB b a.ch x) a.da; have := ok_da_le h; omega) fun x hx => (List.mem_filter.1 hx).1
theorem meet_ok {a : Arr} {t : List Nat} (h : Ok a t) (b : Arr) : Ok (meet a b) [(meet a b).da.length] :=
  vec_sub_ok h (by have := List.length_filter_le (fun x => hasB b a.ch x) a.da; have := ok_da_le h; omega) fun x hx => (List.mem_filter.1 hx).1
theorem union_ok {a b : Arr} {s t : List Nat} (ha : Ok a s) (hb : Ok b t) (hc : a.ch = b.ch) (hl : (union a b).da.length ≤ 4096) : Ok (union a b) [(union a b).da.length] := by
  refine vec_ok hl fun h => any_bad_iff.2 fun x hx => ?_
  rcases List.mem_append.1 hx with hx | hx
  · exact any_bad_iff.1 (ha.rune h) x hx
  · exact any_bad_iff.1 (hb.rune (hc ▸ h)) x (List.mem_filter.1 hx).1

/-- Each once. -/
theorem nub_nub (a : Arr) : nub (nub a) = nub a := by
  unfold nub vecOf
  simp only
  rw [nubD_self (nubD_nodup _)]
theorem has_nub {a : Arr} {x : Int} (h : x ∈ a.da) : hasB (nub a) a.ch x = true := hasB_iff.2 ⟨mem_nubD.2 h, rfl⟩
theorem isin_nub (a : Arr) : ∀ x ∈ (isin a (nub a)).da, x = 1 := by
  intro x hx
  simp only [isin, List.mem_map] at hx
  obtain ⟨y, hy, rfl⟩ := hx
  rw [if_pos (has_nub hy)]
theorem index_nub {a : Arr} {i : Nat} {x : Int} (h : (index a (nub a)).da[i]? = some x) : ∃ y, (nubD a.da)[i]? = some y ∧ x = ((a.da.idxOf y : Nat) : Int) ∧ a.da.idxOf y < a.da.length := by
  simp only [index, List.getElem?_map, Option.map_eq_some_iff] at h
  obtain ⟨y, hy, rfl⟩ := h
  have hm := mem_nubD.1 (List.mem_of_getElem? hy)
  refine ⟨y, hy, ?_, List.idxOf_lt_length_of_mem hm⟩
  have : hasB a (nub a).ch y = true := hasB_iff.2 ⟨hm, rfl⟩
  unfold findN
  rw [if_pos this]
theorem index_nub_rises {a : Arr} {i : Nat} {x y : Int} (h1 : (index a (nub a)).da[i]? = some x) (h2 : (index a (nub a)).da[i + 1]? = some y) : x < y := by
  obtain ⟨u, hu, rfl, _⟩ := index_nub h1
  obtain ⟨v, hv, rfl, _⟩ := index_nub h2
  have hp := nubD_rises a.da
  rw [List.pairwise_iff_getElem] at hp
  obtain ⟨l1, e1⟩ := List.getElem?_eq_some_iff.1 hu
  obtain ⟨l2, e2⟩ := List.getElem?_eq_some_iff.1 hv
  have := hp i (i + 1) (by simpa using l1) (by simpa using l2) (by omega)
  simp only [List.getElem_map, e1, e2] at this
  omega

/-- Sets. -/
theorem has_union {b c : Arr} (hc : b.ch = c.ch) (ch : Bool) (x : Int) : hasB (union b c) ch x = (hasB b ch x || hasB c ch x) := by
  rw [Bool.eq_iff_iff, Bool.or_eq_true, hasB_iff, hasB_iff, hasB_iff]
  simp only [union, without, vecOf, List.mem_append, List.mem_filter, Bool.not_eq_true', ← Bool.not_eq_true]
  rw [hasB_iff]
  constructor
  · rintro ⟨h | h, e⟩
    · exact .inl ⟨h, e⟩
    · exact .inr ⟨h.1, e.trans hc⟩
  · rintro (⟨h, e⟩ | ⟨h, e⟩)
    · exact ⟨.inl h, e⟩
    · refine ⟨?_, e.trans hc.symm⟩
      by_cases hb : x ∈ b.da
      · exact .inl hb
      · exact .inr ⟨h, fun h2 => hb h2.1⟩
theorem without_union {a b c : Arr} (hc : b.ch = c.ch) : without (without a b) c = without a (union b c) := by
  unfold without
  simp only [vecOf, List.filter_filter]
  have e : (fun x => !hasB c a.ch x && !hasB b a.ch x) = fun x => !hasB (union b c) a.ch x := by
    funext x
    rw [has_union hc, Bool.not_or, Bool.and_comm]
  have e2 : List.filter (fun x => !hasB c a.ch x && !hasB b a.ch x) a.da = List.filter (fun x => !hasB (union b c) a.ch x) a.da := by rw [e]
  rw [e2]
theorem has_meet {b c : Arr} (ch : Bool) (x : Int) : hasB (meet b c) ch x = (hasB c ch x && hasB b ch x) := by
  rw [Bool.eq_iff_iff, Bool.and_eq_true, hasB_iff, hasB_iff, hasB_iff]
  simp only [meet, vecOf, List.mem_filter]
  rw [hasB_iff]
  constructor
  · rintro ⟨⟨h1, h2, h3⟩, e⟩
    exact ⟨⟨h2, e.trans h3⟩, h1, e⟩
  · rintro ⟨⟨h1, e1⟩, h2, e2⟩
    exact ⟨⟨h2, h1, e2.symm.trans e1⟩, e2⟩
theorem meet_meet (a b c : Arr) : meet (meet a b) c = meet a (meet b c) := by
  rw [show meet (meet a b) c = vecOf a.ch ((a.da.filter fun x => hasB b a.ch x).filter fun x => hasB c a.ch x) from rfl]
  rw [show meet a (meet b c) = vecOf a.ch (a.da.filter fun x => hasB (meet b c) a.ch x) from rfl]
  rw [List.filter_filter]
  congr 1
  apply List.filter_congr
  intro x _
  rw [has_meet]
theorem lengths_sum (a b : Arr) : (without a b).da.length + (meet a b).da.length = a.da.length := by
  simp only [without, meet, vecOf]
  generalize a.da = d
  induction d with
  | nil => rfl
  | cons x d ih =>
    rw [List.filter_cons, List.filter_cons]
    by_cases h : hasB b a.ch x = true
    · simp [h]; omega
    · simp [h]; omega

/-- Kept by what is there. -/
theorem keep_filter {a : Arr} {p : Int → Bool} (h : Ok a [a.da.length]) : keep (a.da.map fun x => if p x then 1 else 0) 0 a = vecOf a.ch (a.da.filter p) := by
  have hm : (a.da.map fun x => if p x then (1 : Int) else 0).length = [a.da.length].getD 0 0 := by simp
  have hko := keep_ok h (k := 0) (by simp) hm
  obtain ⟨m, hme⟩ : ∃ m, m = a.da.map fun x => if p x then (1 : Int) else 0 := ⟨_, rfl⟩
  rw [← hme] at hm hko ⊢
  have hcn : ∀ (d : List Int), cnt (d.map fun x => if p x then (1 : Int) else 0) d.length = (d.filter p).length := by
    intro d
    induction d with
    | nil => rfl
    | cons x d ih =>
      rw [List.map_cons, List.length_cons, cnt_cons, ih, List.filter_cons]
      by_cases hp : p x = true
      · simp [hp]; omega
      · simp [hp]
  have hft : ∀ (d : List Int) (i : Nat) (x : Int), d[i]? = some x → p x = true → (d.filter p)[cnt (d.map fun x => if p x then (1 : Int) else 0) i]? = some x := by
    intro d
    induction d with
    | nil => intro i x h; simp at h
    | cons y d ih =>
      intro i x hx hp
      match i, hx with
      | 0, hx =>
        simp only [List.getElem?_cons_zero, Option.some.injEq] at hx
        subst hx
        rw [cnt_zero, List.filter_cons_of_pos hp]
        simp
      | i + 1, hx =>
        simp only [List.getElem?_cons_succ] at hx
        rw [List.map_cons, cnt_cons]
        by_cases hy : p y = true
        · rw [if_pos (by simp [hy]), List.filter_cons_of_pos hy, Nat.add_comm 1, List.getElem?_cons_succ]
          exact ih i x hx hp
        · rw [if_neg (by simp [hy]), List.filter_cons_of_neg hy, Nat.zero_add]
          exact ih i x hx hp
  have hlen : m.length = a.da.length := by rw [hme]; simp
  have hcm : cnt m m.length = (a.da.filter p).length := by rw [hlen, hme]; exact hcn a.da
  have hke : keep m 0 a = ⟨a.ch, ints [(a.da.filter p).length], (keep m 0 a).da⟩ := by
    have hs := hko.sh
    rw [show ([a.da.length] : List Nat).set 0 (cnt m m.length) = [(a.da.filter p).length] by rw [hcm]; rfl] at hs
    rw [← hs]
    rfl
  rw [hke]
  have hd : (keep m 0 a).da = a.da.filter p := by
    apply List.ext_getElem?
    intro j
    by_cases hj : j < cnt m m.length
    · obtain ⟨p1, p2, p3⟩ := posOf_spec hj
      have h1 := keep_da h (k := 0) (by simp) hm (o := 0) (i := posOf m j) (r := 0) (by simp [outerOf, prod]) p2 (by simp [innerOf, prod])
      simp only [innerOf, List.drop_succ_cons, List.drop_zero, prod, Nat.zero_mul, Nat.zero_add, Nat.mul_one, Nat.add_zero, p3] at h1
      rw [h1]
      rw [hlen] at p1
      have hx : a.da[posOf m j]? = some a.da[posOf m j] := List.getElem?_eq_getElem p1
      have hpx : p a.da[posOf m j] = true := by
        have key : ∀ i : Nat, m[i]? = (a.da.map fun x => if p x then (1 : Int) else 0)[i]? := fun i => by rw [hme]
        rw [key, List.getElem?_map, hx] at p2
        by_cases hc : p a.da[posOf m j] = true
        · exact hc
        · simp [hc] at p2
      have := hft a.da (posOf m j) _ hx hpx
      rw [← hme, p3] at this
      rw [hx, this]
    · have hl1 := hko.len
      rw [List.getElem?_eq_none (by rw [hl1, prod_set (by simp)]; simp [outerOf, innerOf, prod]; omega), List.getElem?_eq_none (by omega)]
  rw [hd]
  rfl

end Go.Proofs.YtojeggeimnenbaaDoor.P

namespace Go.Proofs.YtojeggeimnenbaaDoor.P

theorem rev_cell {a : Arr} {t ix : List Nat} {k : Nat} (h : Ok a t) (hi : Inside t ix) : (rev k a).cell ix = a.cell (ix.set k (t.getD k 0 - 1 - ix.getD k 0)) := by
  unfold rev pull
  rw [h.nsh_eq, tab_cell hi]
theorem rev_glue {a b : Arr} {t : List Nat} {k l : Nat} (ha : Ok a t) (hb : Ok b (t.set k l)) (hk : k < t.length) (hcb : b.ch = a.ch) (hg : GoodSh (t.set k (t.getD k 0 + l))) :
    rev k (glue k a b) = glue k (rev k b) (rev k a) := by
  have h1 := glue_ok ha hb hk hcb hg
  have hra := rev_ok ha (k := k)
  have hrb := rev_ok hb (k := k)
  rw [show rev k (glue k a b) = tab (glue k a b).ch (glue k a b).nsh fun ix => (glue k a b).cell (ix.set k ((glue k a b).nsh.getD k 0 - 1 - ix.getD k 0)) from rfl, h1.nsh_eq, getD_set hk]
  rw [glue_def k (rev k b) (rev k a), hra.nsh_eq, hrb.nsh_eq, getD_set hk, List.set_set, Nat.add_comm l]
  have ec : (glue k a b).ch = (rev k b).ch := hcb.symm
  rw [ec]
  refine tab_congr fun ix hi => ?_
  have hl := inside_length hi
  rw [List.length_set] at hl
  have hkx : k < ix.length := by omega
  have hik := inside_at hk hi
  have hin : Inside (t.set k (t.getD k 0 + l)) (ix.set k (t.getD k 0 + l - 1 - ix.getD k 0)) := inside_move hi (by omega)
  rw [glue_cell ha hb hk hin, getD_set hkx, List.set_set]
  by_cases g : ix.getD k 0 < l
  · rw [if_neg (by omega), if_pos g]
    have hin2 : Inside (t.set k l) ix := by
      have := inside_move hi g
      rwa [set_getD] at this
    rw [rev_cell hb hin2, getD_set hk]
    rw [show t.getD k 0 + l - 1 - ix.getD k 0 - t.getD k 0 = l - 1 - ix.getD k 0 by omega]
  · rw [if_pos (by omega), if_neg g]
    have hin2 : Inside t (ix.set k (ix.getD k 0 - l)) := by
      have := inside_move hi (l := t.getD k 0) (x := ix.getD k 0 - l) (by omega)
      rwa [set_getD] at this
    rw [rev_cell ha hin2, getD_set hkx, List.set_set]
    rw [show t.getD k 0 + l - 1 - ix.getD k 0 = t.getD k 0 - 1 - (ix.getD k 0 - l) by omega]

theorem rev_part {a : Arr} {t : List Nat} {k x : Nat} (h : Ok a t) (hk : k < t.length) (hx : x ≤ t.getD k 0) : rev k (part k 0 x a) = part k (t.getD k 0 - x) x (rev k a) := by
  have h1 := part_ok h hk (lo := 0) (len := x) (by omega)
  have hr := rev_ok h (k := k)
  rw [show rev k (part k 0 x a) = tab (part k 0 x a).ch (part k 0 x a).nsh fun ix => (part k 0 x a).cell (ix.set k ((part k 0 x a).nsh.getD k 0 - 1 - ix.getD k 0)) from rfl, h1.nsh_eq, getD_set hk]
  rw [part_def k (t.getD k 0 - x) x (rev k a), hr.nsh_eq]
  refine tab_congr fun ix hi => ?_
  have hl := inside_length hi
  rw [List.length_set] at hl
  have hkx : k < ix.length := by omega
  have hik := inside_at hk hi
  have hin : Inside (t.set k x) (ix.set k (x - 1 - ix.getD k 0)) := inside_move hi (by omega)
  have hin2 : Inside t (ix.set k (ix.getD k 0 + (t.getD k 0 - x))) := by
    have := inside_move hi (l := t.getD k 0) (x := ix.getD k 0 + (t.getD k 0 - x)) (by omega)
    rwa [set_getD] at this
  rw [part_cell h hin, getD_set hkx, List.set_set, rev_cell h hin2, getD_set hkx, List.set_set]
  rw [show x - 1 - ix.getD k 0 + 0 = t.getD k 0 - 1 - (ix.getD k 0 + (t.getD k 0 - x)) by omega]

theorem part_part {a : Arr} {t : List Nat} {k lo len lo2 len2 : Nat} (h : Ok a t) (hk : k < t.length) (hb : lo + len ≤ t.getD k 0) (hb2 : lo2 + len2 ≤ len) :
    part k lo2 len2 (part k lo len a) = part k (lo + lo2) len2 a := by
  have h1 := part_ok h hk hb
  rw [part_def k lo2 len2 (part k lo len a), h1.nsh_eq, List.set_set, part_def k (lo + lo2), h.nsh_eq]
  refine tab_congr fun ix hi => ?_
  have hl := inside_length hi
  rw [List.length_set] at hl
  have hkx : k < ix.length := by omega
  have hik := inside_at hk hi
  have hin : Inside (t.set k len) (ix.set k (ix.getD k 0 + lo2)) := inside_move hi (by omega)
  rw [part_cell h hin, getD_set hkx, List.set_set, show ix.getD k 0 + lo2 + lo = ix.getD k 0 + (lo + lo2) by omega]
theorem part_empty {a : Arr} {t : List Nat} {k lo lo2 : Nat} (h : Ok a t) (hk : k < t.length) : part k lo 0 a = part k lo2 0 a := by
  unfold part
  rw [h.nsh_eq]
  refine tab_congr fun ix hi => ?_
  have := inside_at hk hi
  omega
theorem part_all {a : Arr} {t : List Nat} {k : Nat} (h : Ok a t) : part k 0 (t.getD k 0) a = a := by
  conv => rhs; rw [h.eq_tab]
  unfold part
  rw [h.nsh_eq, set_getD]
  refine tab_congr fun ix hi => ?_
  rw [Nat.add_zero, set_getD]

def takeSh (n : List Int) : List Nat := n.map Int.natAbs
def takeFr (n : List Int) (t : List Nat) : List Int := List.zipWith (fun (m : Int) (l : Nat) => if m < 0 then (l : Int) + m else 0) n t
def takeFar (n : List Int) : Prop := ∃ m ∈ n, 4096 < m ∨ m < -4096
instance (n : List Int) : Decidable (takeFar n) := inferInstanceAs (Decidable (∃ m ∈ n, _))
def takeErr (n : List Int) (a : Arr) : Int :=
  if arrErr a ≠ 0 then arrErr a else if n.length ≠ a.sh.length then 4 else if takeFar n then 7 else cntErr (ints (takeSh n))
def take (n : List Int) (a : Arr) : Arr := win (takeFr n a.nsh) (takeSh n) a

theorem takeErr_zero {n : List Int} {a : Arr} (h : takeErr n a = 0) : ∃ t, Ok a t ∧ n.length = t.length ∧ GoodSh (takeSh n) ∧ ¬ takeFar n := by
  unfold takeErr at h
  by_cases h1 : arrErr a ≠ 0
  · rw [if_pos h1] at h; exact absurd h h1
  · rw [if_neg h1] at h
    obtain ⟨t, ht⟩ := ok_of_arrErr (by simpa using h1)
    have hl : a.sh.length = t.length := by rw [ht.sh, length_ints]
    by_cases h2 : n.length ≠ a.sh.length
    · rw [if_pos h2] at h; omega
    · rw [if_neg h2] at h
      by_cases h3 : takeFar n
      · rw [if_pos h3] at h; omega
      · rw [if_neg h3] at h
        obtain ⟨u, hu, hg⟩ := cntErr_zero h
        rw [ints_inj hu]
        exact ⟨t, ht, by omega, hg, h3⟩
theorem takeErr_ok {n : List Int} {a : Arr} {t : List Nat} (h : Ok a t) (hl : n.length = t.length) (hg : GoodSh (takeSh n)) : takeErr n a = 0 ∧ ¬ takeFar n := by
  have hf : ¬ takeFar n := by
    rintro ⟨m, hm, hc⟩
    have := hg.2.1 m.natAbs (List.mem_map.2 ⟨m, hm, rfl⟩)
    omega
  refine ⟨?_, hf⟩
  unfold takeErr
  rw [arrErr_ok h, h.sh, length_ints, if_neg (by simp), if_neg (by omega), if_neg hf, cntErr_ints hg]
theorem takeSh_length (n : List Int) : (takeSh n).length = n.length := by simp [takeSh]
theorem takeFr_length (n : List Int) (t : List Nat) : (takeFr n t).length = min n.length t.length := by simp [takeFr]
theorem take_ok {n : List Int} {a : Arr} {t : List Nat} (h : Ok a t) (hl : n.length = t.length) (hg : GoodSh (takeSh n)) : Ok (take n a) (takeSh n) := by
  unfold take
  rw [h.nsh_eq]
  exact win_ok h hg (by rw [takeSh_length]; exact hl) (by rw [takeFr_length]; omega)

theorem takeSh_set (t : List Nat) (k : Nat) (x : Int) : takeSh ((ints t).set k x) = t.set k x.natAbs := by
  unfold takeSh
  rw [List.map_set]
  congr 1
  unfold ints
  rw [List.map_map]
  conv => rhs; rw [← List.map_id t]
  apply List.map_congr_left
  intro n _
  simp
theorem takeFr_set {t : List Nat} {k : Nat} (hk : k < t.length) (x : Int) : takeFr ((ints t).set k x) t = (List.replicate t.length 0).set k (if x < 0 then (t.getD k 0 : Int) + x else 0) := by
  apply List.ext_getElem?
  intro j
  by_cases hj : j < t.length
  · have h1 : j < (ints t).length := by rw [length_ints]; exact hj
    have e : (ints t)[j] = (t[j] : Int) := by simp [ints]
    by_cases hjk : k = j
    · subst hjk
      simp [takeFr, List.getElem?_zipWith, hj, h1, List.getD_eq_getElem?_getD]
    · simp [takeFr, List.getElem?_zipWith, hj, h1, hjk, e]
      omega
  · rw [List.getElem?_eq_none (by rw [takeFr_length, List.length_set, length_ints]; omega), List.getElem?_eq_none (by simp; omega)]

theorem take_first {a : Arr} {t : List Nat} {k x : Nat} (h : Ok a t) (hk : k < t.length) (hx : x ≤ t.getD k 0) : take ((ints t).set k (x : Int)) a = part k 0 x a := by
  unfold take
  rw [h.nsh_eq, takeSh_set, takeFr_set hk, if_neg (by omega), Int.natAbs_natCast]
  exact win_part h hk (lo := 0) (len := x) (by omega)
theorem take_last {a : Arr} {t : List Nat} {k x : Nat} (h : Ok a t) (hk : k < t.length) (hx : x ≤ t.getD k 0) : take ((ints t).set k (-(x : Int))) a = part k (t.getD k 0 - x) x a := by
  unfold take
  rw [h.nsh_eq, takeSh_set, takeFr_set hk, Int.natAbs_neg, Int.natAbs_natCast]
  by_cases hz : x = 0
  · subst hz
    rw [if_neg (by omega), part_empty h hk (lo2 := 0)]
    exact win_part h hk (lo := 0) (len := 0) (by omega)
  · rw [if_pos (by omega)]
    have e : (t.getD k 0 : Int) + -(x : Int) = ((t.getD k 0 - x : Nat) : Int) := by omega
    rw [e]
    exact win_part h hk (by omega)
theorem take_fine {a : Arr} {t : List Nat} {k : Nat} {x : Int} (h : Ok a t) (hk : k < t.length) (hx : x.natAbs ≤ t.getD k 0) : takeErr ((ints t).set k x) a = 0 :=
  (takeErr_ok h (by rw [List.length_set, length_ints]) (by rw [takeSh_set]; exact good_less h.good hk hx)).1

def clamp (m : Int) (l : Nat) : Int := min (max m (-(l : Int))) l
def dropSh (n : List Int) (t : List Nat) : List Nat := List.zipWith (fun (m : Int) (l : Nat) => if 0 ≤ clamp m l then l - (clamp m l).toNat else ((l : Int) + clamp m l).toNat) n t
def dropFr (n : List Int) (t : List Nat) : List Int := List.zipWith (fun (m : Int) (l : Nat) => if 0 ≤ clamp m l then clamp m l else 0) n t
def dropErr (n : List Int) (a : Arr) : Int := if arrErr a ≠ 0 then arrErr a else if n.length ≠ a.sh.length then 4 else 0
def drop (n : List Int) (a : Arr) : Arr := win (dropFr n a.nsh) (dropSh n a.nsh) a

theorem dropErr_zero {n : List Int} {a : Arr} (h : dropErr n a = 0) : ∃ t, Ok a t ∧ n.length = t.length := by
  unfold dropErr at h
  by_cases h1 : arrErr a ≠ 0
  · rw [if_pos h1] at h; exact absurd h h1
  · rw [if_neg h1] at h
    obtain ⟨t, ht⟩ := ok_of_arrErr (by simpa using h1)
    have hl : a.sh.length = t.length := by rw [ht.sh, length_ints]
    by_cases h2 : n.length ≠ a.sh.length
    · rw [if_pos h2] at h; omega
    · exact ⟨t, ht, by omega⟩
theorem dropErr_ok {n : List Int} {a : Arr} {t : List Nat} (h : Ok a t) (hl : n.length = t.length) : dropErr n a = 0 := by
  unfold dropErr
  rw [arrErr_ok h, h.sh, length_ints, if_neg (by simp), if_neg (by omega)]
theorem dropSh_length (n : List Int) (t : List Nat) : (dropSh n t).length = min n.length t.length := by simp [dropSh]
theorem dropFr_length (n : List Int) (t : List Nat) : (dropFr n t).length = min n.length t.length := by simp [dropFr]
theorem prod_mono : ∀ {s t : List Nat}, s.length = t.length → (∀ k, k < t.length → s.getD k 0 ≤ t.getD k 0) → prod s ≤ prod t
  | [], [], _, _ => Nat.le_refl _
  | n :: s, m :: t, hl, h => by
    have h0 := h 0 (by simp)
    have ih := prod_mono (s := s) (t := t) (by simpa using hl) (fun k hk => by simpa using h (k + 1) (by simpa using hk))
    simp only [List.getD_cons_zero] at h0
    exact Nat.mul_le_mul h0 ih
  | [], _ :: _, h, _ => by simp at h
  | _ :: _, [], h, _ => by simp at h
theorem dropSh_le {n : List Int} {t : List Nat} (hl : n.length = t.length) {k : Nat} (hk : k < t.length) : (dropSh n t).getD k 0 ≤ t.getD k 0 := by
  have hk' : k < n.length := by omega
  simp only [dropSh, List.getD_eq_getElem?_getD, List.getElem?_zipWith, List.getElem?_eq_getElem hk, List.getElem?_eq_getElem hk', Option.getD_some]
  split <;> omega
theorem dropSh_good {n : List Int} {t : List Nat} (hl : n.length = t.length) (h : GoodSh t) : GoodSh (dropSh n t) := by
  refine ⟨by rw [dropSh_length]; have := h.1; omega, fun x hx => ?_, Nat.le_trans (prod_mono (by rw [dropSh_length]; omega) fun k hk => dropSh_le hl hk) h.2.2⟩
  obtain ⟨k, hk, rfl⟩ := mem_getD hx
  rw [dropSh_length] at hk
  have hk' : k < t.length := by omega
  exact Nat.le_trans (dropSh_le hl hk') (h.2.1 _ (by rw [getD_lt hk']; exact List.getElem_mem hk'))
theorem drop_ok {n : List Int} {a : Arr} {t : List Nat} (h : Ok a t) (hl : n.length = t.length) : Ok (drop n a) (dropSh n t) := by
  unfold drop
  rw [h.nsh_eq]
  exact win_ok h (dropSh_good hl h.good) (by rw [dropSh_length]; omega) (by rw [dropFr_length]; omega)

theorem clamp_zero (l : Nat) : clamp 0 l = 0 := by unfold clamp; omega
theorem dropSh_set {t : List Nat} {k : Nat} (hk : k < t.length) {x : Int} (hx : x.natAbs ≤ t.getD k 0) : dropSh ((List.replicate t.length 0).set k x) t = t.set k (t.getD k 0 - x.natAbs) := by
  apply ext_getD (by rw [dropSh_length]; simp)
  intro j hj
  rw [dropSh_length, List.length_set, List.length_replicate] at hj
  have hj' : j < t.length := by omega
  rw [getD_set_if hj']
  by_cases e : k = j
  · subst e
    rw [if_pos rfl]
    have hx' := hx
    simp only [List.getD_eq_getElem?_getD, List.getElem?_eq_getElem hj', Option.getD_some] at hx' ⊢
    simp [dropSh, List.getElem?_zipWith, hj', clamp]
    split <;> omega
  · rw [if_neg e]
    simp [dropSh, List.getD_eq_getElem?_getD, List.getElem?_zipWith, hj', e, clamp_zero]
theorem dropFr_set {t : List Nat} {k : Nat} (hk : k < t.length) {x : Int} (hx : x.natAbs ≤ t.getD k 0) : dropFr ((List.replicate t.length 0).set k x) t = (List.replicate t.length 0).set k (if 0 ≤ x then x else 0) := by
  apply List.ext_getElem?
  intro j
  by_cases hj : j < t.length
  · by_cases e : k = j
    · subst e
      have hx' := hx
      simp only [List.getD_eq_getElem?_getD, List.getElem?_eq_getElem hj, Option.getD_some] at hx'
      simp [dropFr, List.getElem?_zipWith, hj, clamp]
      omega
    · simp [dropFr, List.getElem?_zipWith, hj, e, clamp_zero]
  · rw [List.getElem?_eq_none (by rw [dropFr_length, List.length_set, List.length_replicate]; omega), List.getElem?_eq_none (by simp; omega)]
theorem drop_first {a : Arr} {t : List Nat} {k x : Nat} (h : Ok a t) (hk : k < t.length) (hx : x ≤ t.getD k 0) : drop ((List.replicate t.length 0).set k (x : Int)) a = part k x (t.getD k 0 - x) a := by
  unfold drop
  rw [h.nsh_eq, dropSh_set hk (by omega), dropFr_set hk (by omega), if_pos (by omega), Int.natAbs_natCast]
  exact win_part h hk (by omega)
theorem drop_last {a : Arr} {t : List Nat} {k x : Nat} (h : Ok a t) (hk : k < t.length) (hx : x ≤ t.getD k 0) : drop ((List.replicate t.length 0).set k (-(x : Int))) a = part k 0 (t.getD k 0 - x) a := by
  unfold drop
  rw [h.nsh_eq, dropSh_set hk (by omega), dropFr_set hk (by omega), Int.natAbs_neg, Int.natAbs_natCast]
  by_cases hz : x = 0
  · subst hz
    rw [if_pos (by omega)]
    exact win_part h hk (lo := 0) (by omega)
  · rw [if_neg (by omega)]
    exact win_part h hk (lo := 0) (by omega)

/-- The first ones of a line. -/
def first (m : Nat) (a : Arr) : Arr := tab a.ch [m] fun ix => if ix.getD 0 0 < a.nsh.getD 0 0 then a.cell ix else fillOf a.ch
theorem take_line {a : Arr} {l m : Nat} (h : Ok a [l]) : take [(m : Int)] a = first m a := by
  unfold take win first
  rw [h.nsh_eq]
  have e1 : takeSh [(m : Int)] = [m] := by simp [takeSh]
  have e2 : takeFr [(m : Int)] [l] = [0] := by simp [takeFr]; omega
  rw [e1, e2]
  refine tab_congr fun ix hi => ?_
  match ix, hi with
  | [i], _ =>
    have e3 : adds [i] [0] = [(i : Int)] := by simp [adds]
    rw [e3]
    simp only [List.length_singleton, List.getD_cons_zero, List.map_cons, List.map_nil, Int.toNat_natCast]
    by_cases c : i < l
    · have hw : WinIn [l] [(i : Int)] 1 := by
        intro m hm
        have e : m = 0 := by omega
        rw [e]
        exact ⟨by simp, by simpa using c⟩
      rw [if_pos c, if_pos hw]
    · have hw : ¬ WinIn [l] [(i : Int)] 1 := by
        intro hw
        have h2 := (hw 0 (by omega)).2
        simp at h2
        omega
      rw [if_neg c, if_neg hw]
theorem first_nsh (m : Nat) (a : Arr) : (first m a).nsh = [m] := tab_nsh _ _ _
theorem good_line {m : Nat} (h : m ≤ 4096) : GoodSh [m] := ⟨by simp, by simpa using h, by simp [prod]; exact h⟩
theorem first_ok {a : Arr} {l m : Nat} (h : Ok a [l]) (hm : m ≤ 4096) : Ok (first m a) [m] := by
  unfold first
  rw [h.nsh_eq]
  refine ok_tab (good_line hm) fun hc ix hi => ?_
  split
  · rename_i hlt
    match ix, hi with
    | [i], _ => exact h.rune_cell hc (by simpa [Inside] using hlt)
  · exact fill_fine _
theorem first_first {a : Arr} {m n : Nat} (h : n ≤ m) : first n (first m a) = first n a := by
  rw [show first n (first m a) = tab (first m a).ch [n] fun ix => if ix.getD 0 0 < (first m a).nsh.getD 0 0 then (first m a).cell ix else fillOf (first m a).ch from rfl, first_nsh]
  rw [show first n a = tab a.ch [n] fun ix => if ix.getD 0 0 < a.nsh.getD 0 0 then a.cell ix else fillOf a.ch from rfl]
  refine tab_congr fun ix hi => ?_
  match ix, hi with
  | [i], hi =>
    have hi' : i < n := hi.1
    simp only [List.getD_cons_zero]
    rw [if_pos (by omega), show (first m a).cell [i] = (tab a.ch [m] fun ix => if ix.getD 0 0 < a.nsh.getD 0 0 then a.cell ix else fillOf a.ch).cell [i] from rfl, tab_cell (by simp [Inside]; omega)]
    rfl

theorem drop_line {a : Arr} {l m : Nat} (h : Ok a [l]) : drop [(m : Int)] a = part 0 (min m l) (l - min m l) a := by
  have e : drop [(m : Int)] a = drop [((min m l : Nat) : Int)] a := by
    unfold drop
    rw [h.nsh_eq]
    have : clamp (m : Int) l = clamp ((min m l : Nat) : Int) l := by unfold clamp; omega
    simp only [dropFr, dropSh, List.zipWith_cons_cons, List.zipWith_nil_left, this]
  rw [e]
  exact drop_first (t := [l]) (k := 0) (x := min m l) h (by simp) (by simp; omega)

end Go.Proofs.YtojeggeimnenbaaDoor.P

namespace Go.Proofs.YtojeggeimnenbaaDoor.P

/-- The place as a sum over the axes. -/
def placeTerms (s a : List Nat) : List Nat := (List.range s.length).map fun k => a.getD k 0 * innerOf s k
theorem place_sum : ∀ {s a : List Nat}, a.length = s.length → place s a = (placeTerms s a).sum
  | [], [], _ => rfl
  | n :: s, i :: a, h => by
    have ih := place_sum (s := s) (a := a) (by simpa using h)
    unfold placeTerms at ih ⊢
    rw [List.length_cons, List.range_succ_eq_map, List.map_cons, List.sum_cons, List.map_map]
    simp only [place, ih]
    congr 1
  | [], _ :: _, h => by simp at h
  | _ :: _, [], h => by simp at h

theorem sum_perm {l m : List Nat} (h : l.Perm m) : l.sum = m.sum := by
  induction h with
  | nil => rfl
  | cons x _ ih => simp only [List.sum_cons, ih]
  | swap x y l => simp only [List.sum_cons]; omega
  | trans _ _ h1 h2 => rw [h1, h2]
theorem prod_perm {l m : List Nat} (h : l.Perm m) : prod l = prod m := by
  induction h with
  | nil => rfl
  | cons x _ ih => simp only [prod, ih]
  | swap x y l => simp only [prod]; rw [← Nat.mul_assoc, ← Nat.mul_assoc, Nat.mul_comm y x]
  | trans _ _ h1 h2 => rw [h1, h2]

theorem map_getD_range (t : List Nat) : (List.range t.length).map (fun k => t.getD k 0) = t := by
  apply ext_getD (by simp)
  intro k hk
  simp only [List.length_map, List.length_range] at hk
  simp [List.getD_eq_getElem?_getD, hk]

theorem aft_of_perm {t q : List Nat} (hq : Perm q) (hl : q.length = t.length) : (aft t q).Perm t := by
  have h := (perm_range hq).map (fun k => t.getD k 0)
  rw [hl, map_getD_range] at h
  exact h

/-- The lengths of it with its axes in another order. -/
def flipSh (q t : List Nat) : List Nat := aft t (inv q)
theorem flipSh_length (q t : List Nat) : (flipSh q t).length = q.length := by rw [flipSh, aft_length, inv_length]
theorem flipSh_perm {q t : List Nat} (hq : Perm q) (hl : q.length = t.length) : (flipSh q t).Perm t := aft_of_perm (inv_perm hq) (by rw [inv_length]; exact hl)
theorem flipSh_at {q t : List Nat} (hq : Perm q) {k : Nat} (hk : k < q.length) : (flipSh q t).getD (q.getD k 0) 0 = t.getD k 0 := by
  rw [flipSh, getD_aft (by rw [inv_length]; exact hq.lt hk), getD_inv (hq.lt hk), idx_of hq hk]
theorem flipSh_good {q t : List Nat} (hq : Perm q) (hl : q.length = t.length) (h : GoodSh t) : GoodSh (flipSh q t) := by
  refine ⟨by rw [flipSh_length, hl]; exact h.1, fun n hn => h.2.1 n ((flipSh_perm hq hl).mem_iff.1 hn), ?_⟩
  rw [prod_perm (flipSh_perm hq hl)]
  exact h.2.2

def flip (q : List Nat) (a : Arr) : Arr := tab a.ch (flipSh q a.nsh) fun ix => a.cell (aft ix q)

theorem aft_inside {q t ix : List Nat} (hq : Perm q) (hl : q.length = t.length) (h : Inside (flipSh q t) ix) : Inside t (aft ix q) := by
  obtain ⟨h1, h2⟩ := inside_iff.1 h
  rw [inside_iff]
  refine ⟨by rw [aft_length, hl], fun k hk => ?_⟩
  have hk' : k < q.length := by omega
  have h3 := h2 (q.getD k 0) (by rw [flipSh_length]; exact hq.lt hk')
  rw [flipSh_at hq hk'] at h3
  rw [getD_aft hk']
  exact h3
theorem inside_flip {q t ix : List Nat} (hq : Perm q) (hl : q.length = t.length) (h : Inside t ix) : Inside (flipSh q t) (aft ix (inv q)) := by
  obtain ⟨h1, h2⟩ := inside_iff.1 h
  rw [inside_iff]
  refine ⟨by rw [aft_length, inv_length, flipSh_length], fun k hk => ?_⟩
  rw [flipSh_length] at hk
  rw [flipSh, getD_aft (by rw [inv_length]; exact hk), getD_aft (by rw [inv_length]; exact hk)]
  exact h2 _ (by rw [getD_inv hk, ← hl]; exact idx_lt hq hk)

theorem flip_ok {a : Arr} {t q : List Nat} (h : Ok a t) (hq : Perm q) (hl : q.length = t.length) : Ok (flip q a) (flipSh q t) := by
  unfold flip
  rw [h.nsh_eq]
  exact ok_tab (flipSh_good hq hl h.good) fun hc ix hi => h.rune_cell hc (aft_inside hq hl hi)

theorem aft_back {ix q : List Nat} (hq : Perm q) (hl : ix.length = q.length) : aft (aft ix (inv q)) q = ix := by
  rw [aft_assoc (fun k hk => by rw [inv_length]; exact hq.lt hk)]
  have : aft (inv q) q = idn q.length := by
    apply ext_getD (by rw [aft_length, idn_length])
    intro k hk
    rw [aft_length] at hk
    rw [getD_aft hk, getD_inv (hq.lt hk), idx_of hq hk, getD_idn hk]
  rw [this, ← hl, aft_idn_right]
theorem aft_forth {ix q : List Nat} (hq : Perm q) (hl : ix.length = q.length) : aft (aft ix q) (inv q) = ix := by
  rw [aft_assoc (fun k hk => by rw [inv_length] at hk; rw [getD_inv hk]; exact idx_lt hq hk), aft_inv_right hq, ← hl, aft_idn_right]
theorem inv_inv {q : List Nat} (hq : Perm q) : inv (inv q) = q := by
  have hi := inv_perm hq
  apply ext_getD (by rw [inv_length, inv_length])
  intro k hk
  rw [inv_length, inv_length] at hk
  rw [getD_inv (by rw [inv_length]; exact hk)]
  apply hi.inj (idx_lt hi (by rw [inv_length]; exact hk)) (by rw [inv_length]; exact hq.lt hk)
  rw [idx_get hi (by rw [inv_length]; exact hk), getD_inv (hq.lt hk), idx_of hq hk]

/-- By one order, then by another one. -/
theorem flip_flip {a : Arr} {t p q : List Nat} (h : Ok a t) (hp : Perm p) (hq : Perm q) (hlp : p.length = t.length) (hlq : q.length = t.length) : flip q (flip p a) = flip (aft q p) a := by
  have hl : q.length = p.length := by omega
  have hr := aft_perm hq hp hl
  have e : flipSh q (flipSh p t) = flipSh (aft q p) t := by
    unfold flipSh
    rw [inv_aft hq hp hl, aft_assoc (fun k hk => by rw [inv_length] at hk ⊢; rw [getD_inv hk, hl.symm]; exact idx_lt hq hk)]
  rw [show flip q (flip p a) = tab (flip p a).ch (flipSh q (flip p a).nsh) fun ix => (flip p a).cell (aft ix q) from rfl, (flip_ok h hp hlp).nsh_eq]
  conv => rhs; unfold flip
  rw [h.nsh_eq, e]
  refine tab_congr fun ix hi => ?_
  rw [← e] at hi
  have hi2 := aft_inside hq (by rw [flipSh_length]; exact hl) hi
  rw [show (flip p a).cell (aft ix q) = (tab a.ch (flipSh p a.nsh) fun ix => a.cell (aft ix p)).cell (aft ix q) from rfl, h.nsh_eq, tab_cell hi2]
  rw [aft_assoc (fun k hk => by rw [hl]; exact hp.lt hk)]
/-- By an order and by it turned round. -/
theorem flip_back {a : Arr} {t p : List Nat} (h : Ok a t) (hp : Perm p) (hlp : p.length = t.length) : flip (inv p) (flip p a) = a := by
  have hi := inv_perm hp
  rw [flip_flip h hp hi hlp (by rw [inv_length]; exact hlp)]
  have e : aft (inv p) p = idn p.length := by
    have := aft_inv_right hi
    rwa [inv_inv hp, inv_length] at this
  rw [e, hlp]
  conv => rhs; rw [h.eq_tab]
  have e2 : inv (idn t.length) = idn t.length := by
    apply ext_getD (by rw [inv_length])
    intro k hk
    rw [inv_length, idn_length] at hk
    have hd := idn_perm t.length
    rw [getD_inv (by rw [idn_length]; exact hk), getD_idn hk]
    apply hd.inj (idx_lt hd (by rw [idn_length]; exact hk)) (by rw [idn_length]; exact hk)
    rw [idx_get hd (by rw [idn_length]; exact hk), getD_idn hk]
  unfold flip flipSh
  rw [h.nsh_eq, e2, aft_idn_right]
  refine tab_congr fun ix hi => ?_
  rw [← inside_length hi, aft_idn_right]

/-- Where the p-th cell goes. -/
def flipTo (q t : List Nat) (p : Nat) : Nat := place (flipSh q t) (aft (coords t p) (inv q))
theorem flipTo_lt {q t : List Nat} (hq : Perm q) (hl : q.length = t.length) {p : Nat} (hp : p < prod t) : flipTo q t p < prod t := by
  have := place_lt (inside_flip hq hl (coords_inside hp))
  rwa [prod_perm (flipSh_perm hq hl)] at this
theorem flipTo_inj {q t : List Nat} (hq : Perm q) (hl : q.length = t.length) {i j : Nat} (hi : i < prod t) (hj : j < prod t) (e : flipTo q t i = flipTo q t j) : i = j := by
  have h := place_inj (inside_flip hq hl (coords_inside hi)) (inside_flip hq hl (coords_inside hj)) e
  have h2 : aft (aft (coords t i) (inv q)) q = aft (aft (coords t j) (inv q)) q := by rw [h]
  rw [aft_back hq (by rw [length_coords]; exact hl.symm), aft_back hq (by rw [length_coords]; exact hl.symm)] at h2
  rw [← place_coords hi, ← place_coords hj, h2]

/-- The first i cells lie where they go. -/
def Filled (q t : List Nat) (d : List Int) (i : Nat) (D : List Int) : Prop := D.length = prod t ∧ ∀ j, j < i → D[flipTo q t j]? = d[j]?
theorem Filled.zero (q t : List Nat) (d : List Int) : Filled q t d 0 (List.replicate (prod t) 0) := ⟨by simp, fun j hj => by omega⟩
theorem Filled.step {q t : List Nat} {d D : List Int} {i : Nat} {x : Int} (hq : Perm q) (hl : q.length = t.length) (h : Filled q t d i D) (hi : i < prod t) (hx : d[i]? = some x) : Filled q t d (i + 1) (D.set (flipTo q t i) x) := by
  refine ⟨by rw [List.length_set]; exact h.1, fun j hj => ?_⟩
  rw [List.getElem?_set]
  by_cases e : flipTo q t i = flipTo q t j
  · have := flipTo_inj hq hl hi (by omega) e
    subst this
    rw [if_pos rfl, if_pos (by rw [h.1]; exact flipTo_lt hq hl hi), hx]
  · rw [if_neg e]
    exact h.2 j (by
      have : j ≠ i := fun e2 => e (by rw [e2])
      omega)
theorem Filled.all {a : Arr} {q t : List Nat} {D : List Int} (ha : Ok a t) (hq : Perm q) (hl : q.length = t.length) (h : Filled q t a.da (prod t) D) : (⟨a.ch, ints (flipSh q t), D⟩ : Arr) = flip q a := by
  unfold flip
  rw [ha.nsh_eq]
  refine eq_tab rfl rfl (by rw [prod_perm (flipSh_perm hq hl)]; exact h.1) fun ix hi => ?_
  have hin := aft_inside hq hl hi
  have hlt := place_lt hin
  have := h.2 (place t (aft ix q)) hlt
  unfold flipTo at this
  rw [coords_place hin, aft_forth hq (by rw [inside_length hi, flipSh_length])] at this
  simp only
  rw [this]
  unfold Arr.cell
  rw [ha.nsh_eq, List.getD_eq_getElem?_getD, List.getElem?_eq_getElem (by rw [ha.len]; exact hlt)]
  rfl

/-- The sum so far. -/
def flipSum (q t ix : List Nat) (k : Nat) : Nat := ((List.range k).map fun j => ix.getD j 0 * innerOf (flipSh q t) (q.getD j 0)).sum
theorem flipSum_succ (q t ix : List Nat) (k : Nat) : flipSum q t ix (k + 1) = flipSum q t ix k + ix.getD k 0 * innerOf (flipSh q t) (q.getD k 0) := by
  unfold flipSum
  rw [List.range_succ, List.map_append, List.sum_append]
  simp
theorem flipSum_all {q t ix : List Nat} (hq : Perm q) (hl : q.length = t.length) (h : Inside t ix) : flipSum q t ix t.length = place (flipSh q t) (aft ix (inv q)) := by
  rw [place_sum (by rw [aft_length, inv_length, flipSh_length])]
  unfold flipSum placeTerms
  rw [flipSh_length]
  have hp := (perm_range hq).symm.map (fun k => (aft ix (inv q)).getD k 0 * innerOf (flipSh q t) k)
  rw [sum_perm hp]
  have e : q = (List.range q.length).map fun k => q.getD k 0 := (map_getD_range q).symm
  conv => rhs; rw [e]
  rw [List.map_map, ← hl]
  congr 1
  apply List.map_congr_left
  intro k hk
  have hk' : k < q.length := by simpa using hk
  simp only [Function.comp]
  rw [← e, getD_aft (by rw [inv_length]; exact hq.lt hk'), getD_inv (hq.lt hk'), idx_of hq hk']
theorem flipSum_lt {q t ix : List Nat} (hq : Perm q) (hl : q.length = t.length) (h : Inside t ix) {k : Nat} (hk : k ≤ t.length) : flipSum q t ix k < prod t := by
  have h1 : flipSum q t ix k ≤ flipSum q t ix t.length := by
    have hs : ∀ d, flipSum q t ix k ≤ flipSum q t ix (k + d) := by
      intro d
      induction d with
      | zero => exact Nat.le_refl _
      | succ d ih => rw [← Nat.add_assoc, flipSum_succ]; omega
    have := hs (t.length - k)
    rwa [show k + (t.length - k) = t.length by omega] at this
  rw [flipSum_all hq hl h] at h1
  have := place_lt (inside_flip hq hl h)
  rw [prod_perm (flipSh_perm hq hl)] at this
  omega

end Go.Proofs.YtojeggeimnenbaaDoor.P

namespace Go.Proofs.YtojeggeimnenbaaDoor
open Go Go.RowKit

theorem below_four (w : World) (o1 o2 o3 o4 : Obj) : Below w.heap.size w ((((w.alloc o1).alloc o2).alloc o3).alloc o4) := (below_three w o1 o2 o3).alloc (by simp; omega) o4
theorem below_five (w : World) (o1 o2 o3 o4 o5 : Obj) : Below w.heap.size w (((((w.alloc o1).alloc o2).alloc o3).alloc o4).alloc o5) := (below_four w o1 o2 o3 o4).alloc (by simp; omega) o5
theorem below_six (w : World) (o1 o2 o3 o4 o5 o6 : Obj) : Below w.heap.size w ((((((w.alloc o1).alloc o2).alloc o3).alloc o4).alloc o5).alloc o6) := (below_five w o1 o2 o3 o4 o5).alloc (by simp; omega) o6

end Go.Proofs.YtojeggeimnenbaaDoor

namespace Go.Proofs.YtojeggeimnenbaaDoor.P

/-- Do lengths differ elsewhere than on that axis? -/
def Differ (k : Int) (s u : List Int) : Prop := ∃ j, j < s.length ∧ (j : Int) ≠ k ∧ s.getD j 0 ≠ u.getD j 0
def joinSh (k : Nat) (s u : List Int) : List Int := s.set k (s.getD k 0 + u.getD k 0)
theorem differ_iff {k : Int} {s u : List Int} : ((List.range s.length).any fun j => decide ((j : Int) ≠ k) && decide (s.getD j 0 ≠ u.getD j 0)) = true ↔ Differ k s u := by
  unfold Differ
  rw [List.any_eq_true]
  constructor
  · rintro ⟨j, h1, h2⟩
    rw [Bool.and_eq_true] at h2
    exact ⟨j, List.mem_range.1 h1, of_decide_eq_true h2.1, of_decide_eq_true h2.2⟩
  · rintro ⟨j, h1, h2, h3⟩
    exact ⟨j, List.mem_range.2 h1, by rw [Bool.and_eq_true]; exact ⟨decide_eq_true h2, decide_eq_true h3⟩⟩
instance (k : Int) (s u : List Int) : Decidable (Differ k s u) := decidable_of_iff _ differ_iff
def joinErr (axis : Int) (a b : Arr) : Int :=
  if arrErr a ≠ 0 then arrErr a else if arrErr b ≠ 0 then arrErr b
  else if a.sh.length ≠ b.sh.length then 3
  else if axis < 0 ∨ (a.sh.length : Int) ≤ axis then 5
  else if Differ axis a.sh b.sh then 4
  else if a.ch ≠ b.ch then 6
  else cntErr (joinSh axis.toNat a.sh b.sh)

theorem same_set {t u : List Nat} {k : Nat} (hl : u.length = t.length) (hk : k < t.length) (h : ¬ Differ k (ints t) (ints u)) : u = t.set k (u.getD k 0) := by
  apply ext_getD (by rw [List.length_set, hl])
  intro j hj
  have hj' : j < t.length := by omega
  rw [getD_set_if hj']
  by_cases e : k = j
  · subst e; rw [if_pos rfl]
  · rw [if_neg e]
    by_cases c : t.getD j 0 = u.getD j 0
    · exact c.symm
    · exfalso
      refine h ⟨j, by rw [length_ints]; exact hj', by omega, fun e2 => c ?_⟩
      simp only [List.getD_eq_getElem?_getD, getElem?_ints, List.getElem?_eq_getElem hj', List.getElem?_eq_getElem hj, Option.map_some, Option.getD_some] at e2 ⊢
      omega
theorem joinSh_ints {t : List Nat} {k l : Nat} (hk : k < t.length) : joinSh k (ints t) (ints (t.set k l)) = ints (t.set k (t.getD k 0 + l)) := by
  have h1 : (ints t).getD k 0 = ((t.getD k 0 : Nat) : Int) := by
    simp only [List.getD_eq_getElem?_getD, getElem?_ints, List.getElem?_eq_getElem hk, Option.map_some, Option.getD_some]
  have h2 : (ints (t.set k l)).getD k 0 = (l : Int) := by
    simp only [List.getD_eq_getElem?_getD, getElem?_ints, List.getElem?_set_self hk, Option.map_some, Option.getD_some]
  unfold joinSh
  rw [h1, h2]
  simp [ints, List.map_set]
theorem joinErr_zero {axis : Int} {a b : Arr} (h : joinErr axis a b = 0) : ∃ t k l, Ok a t ∧ axis = (k : Nat) ∧ k < t.length ∧ Ok b (t.set k l) ∧ b.ch = a.ch ∧ GoodSh (t.set k (t.getD k 0 + l)) := by
  unfold joinErr at h
  by_cases h1 : arrErr a ≠ 0
  · rw [if_pos h1] at h; exact absurd h h1
  rw [if_neg h1] at h
  by_cases h2 : arrErr b ≠ 0
  · rw [if_pos h2] at h; exact absurd h h2
  rw [if_neg h2] at h
  obtain ⟨t, ht⟩ := ok_of_arrErr (by simpa using h1)
  obtain ⟨u, hu⟩ := ok_of_arrErr (by simpa using h2)
  have la : a.sh.length = t.length := by rw [ht.sh, length_ints]
  have lb : b.sh.length = u.length := by rw [hu.sh, length_ints]
  by_cases h3 : a.sh.length ≠ b.sh.length
  · rw [if_pos h3] at h; omega
  rw [if_neg h3] at h
  by_cases h4 : axis < 0 ∨ (a.sh.length : Int) ≤ axis
  · rw [if_pos h4] at h; omega
  rw [if_neg h4] at h
  by_cases h5 : Differ axis a.sh b.sh
  · rw [if_pos h5] at h; omega
  rw [if_neg h5] at h
  by_cases h6 : a.ch ≠ b.ch
  · rw [if_pos h6] at h; omega
  rw [if_neg h6] at h
  obtain ⟨k, rfl⟩ := Int.eq_ofNat_of_zero_le (show 0 ≤ axis by omega)
  have hk : k < t.length := by omega
  rw [ht.sh, hu.sh] at h5
  have e := same_set (k := k) (by omega) hk h5
  refine ⟨t, k, u.getD k 0, ht, rfl, hk, by rw [← e]; exact hu, (by simpa using h6 : a.ch = b.ch).symm, ?_⟩
  rw [ht.sh, hu.sh, e] at h
  have hkn : ((k : Nat) : Int).toNat = k := by omega
  rw [hkn, joinSh_ints hk] at h
  obtain ⟨v, hv, hg⟩ := cntErr_zero h
  have e2 := ints_inj hv
  rw [e2]
  exact hg
theorem joinErr_ok {a b : Arr} {t : List Nat} {k l : Nat} (ha : Ok a t) (hk : k < t.length) (hb : Ok b (t.set k l)) (hc : b.ch = a.ch) (hg : GoodSh (t.set k (t.getD k 0 + l))) : joinErr k a b = 0 := by
  have la : a.sh.length = t.length := by rw [ha.sh, length_ints]
  have lb : b.sh.length = t.length := by rw [hb.sh, length_ints, List.length_set]
  unfold joinErr
  rw [if_neg (by rw [arrErr_ok ha]; simp), if_neg (by rw [arrErr_ok hb]; simp), if_neg (by omega), if_neg (by omega), if_neg, if_neg (by rw [hc]; simp), ha.sh, hb.sh]
  · have hkn : ((k : Nat) : Int).toNat = k := by omega
    rw [hkn, joinSh_ints hk]
    exact cntErr_ints hg
  · rintro ⟨j, h1, h2, h3⟩
    rw [ha.sh, length_ints] at h1
    rw [ha.sh, hb.sh] at h3
    apply h3
    have hne : k ≠ j := by omega
    simp only [List.getD_eq_getElem?_getD, getElem?_ints, List.getElem?_set_ne hne]

/-- The products of the lengths from an axis on. -/
def RunTo (t : List Nat) (k j : Nat) (P : Int) : Prop := P = ((prod ((t.drop k).take (j - k)) : Nat) : Int)
theorem RunTo.zero (t : List Nat) (k : Nat) : RunTo t k k 1 := by simp [RunTo, prod]
theorem RunTo.next {t : List Nat} {k j : Nat} {P : Int} (h : RunTo t k j P) (hkj : k ≤ j) (hj : j < t.length) (hb : prod ((t.drop k).take (j + 1 - k)) ≤ 1000000) : RunTo t k (j + 1) (Go.RowKit.wrap64 (P * ((t.getD j 0 : Nat) : Int))) := by
  unfold RunTo at *
  have e : prod ((t.drop k).take (j + 1 - k)) = prod ((t.drop k).take (j - k)) * t.getD j 0 := by
    rw [show j + 1 - k = (j - k) + 1 by omega, List.take_add_one, List.getElem?_drop, show k + (j - k) = j by omega, List.getElem?_eq_getElem hj, prod_append]
    simp [prod, List.getD_eq_getElem?_getD, hj]
  rw [e] at hb ⊢
  rw [h, ← Int.natCast_mul]
  generalize prod ((t.drop k).take (j - k)) * t.getD j 0 = q at *
  unfold Go.RowKit.wrap64
  omega
theorem run_all {t : List Nat} {k : Nat} (hk : k < t.length) : prod ((t.drop k).take (t.length - k)) = t.getD k 0 * innerOf t k := by
  rw [List.take_of_length_le (by rw [List.length_drop]; exact Nat.le_refl _), List.drop_eq_getElem_cons hk, prod, getD_lt hk]
  rfl

end Go.Proofs.YtojeggeimnenbaaDoor.P

namespace Go.Proofs.YtojeggeimnenbaaDoor
open Go Go.RowKit

/-- What may have turned: the blocks of which M says so; the others lie as they lay. -/
structure Turns (M : Nat → Obj → Prop) (W W' : World) : Prop where
  os : W'.os = W.os
  tape : W'.tape = W.tape
  output : W'.output = W.output
  size : W.heap.size ≤ W'.heap.size
  same : ∀ k o, W.heap[k]? = some o → ¬ M k o → W'.heap[k]? = some o

theorem Turns.refl (M : Nat → Obj → Prop) (W : World) : Turns M W W := ⟨rfl, rfl, rfl, Nat.le_refl _, fun _ _ h _ => h⟩
theorem Turns.trans {M : Nat → Obj → Prop} {A B C : World} (h : Turns M A B) (k : Turns M B C) : Turns M A C :=
  ⟨k.os.trans h.os, k.tape.trans h.tape, k.output.trans h.output, Nat.le_trans h.size k.size, fun i o hi hn => k.same i o (h.same i o hi hn) hn⟩
theorem Turns.wider {M M' : Nat → Obj → Prop} {A B : World} (h : Turns M A B) (hm : ∀ k o, A.heap[k]? = some o → M k o → M' k o) : Turns M' A B :=
  ⟨h.os, h.tape, h.output, h.size, fun i o hi hn => h.same i o hi fun hM => hn (hm i o hi hM)⟩
theorem Turns.of_below {M : Nat → Obj → Prop} {A B : World} {n : Nat} (h : Below n A B) (hm : ∀ k o, n ≤ k → A.heap[k]? = some o → M k o) : Turns M A B :=
  ⟨h.os, h.tape, h.output, h.size, fun i o hi hn => by
    have : i < n := by
      rcases Nat.lt_or_ge i n with h1 | h1
      · exact h1
      · exact absurd (hm i o h1 hi) hn
    rw [h.block i this]; exact hi⟩
theorem Turns.below {M : Nat → Obj → Prop} {A B : World} {n : Nat} (h : Turns M A B) (hn : n ≤ A.heap.size) (hm : ∀ k o, k < n → A.heap[k]? = some o → ¬ M k o) : Below n A B :=
  ⟨h.os, h.tape, h.output, h.size, fun k hk => by
    have hl : k < A.heap.size := by omega
    have e : A.heap[k]? = some A.heap[k] := Array.getElem?_eq_getElem hl
    rw [h.same k _ e (hm k _ hk e), e]⟩
theorem Turns.putObj {M : Nat → Obj → Prop} {W : World} {l : Nat} {o : Obj} (o' : Obj) (hl : W.heap[l]? = some o) (hm : M l o) : Turns M W (W.putObj l o') :=
  ⟨rfl, rfl, rfl, by simp, fun k u hk hn => by
    by_cases e : k = l
    · subst e
      rw [hl] at hk
      cases hk
      exact absurd hm hn
    · rw [World.putObj_heap_other e]; exact hk⟩

/-- How the body of a round may be left. -/
def rangeExit {α : Type} (M : Nat → Obj → Prop) (I : List α → World → Prop) (Ix : Code → List α → World → Prop) (xs : List α) (W : World) : Exit → Act → World → Prop
  | .normal, _, W' => Turns M W W' ∧ I xs W'
  | .ret, _, W' => Turns M W W' ∧ Ix .ret xs W'
  | .exit id, _, W' => Turns M W W' ∧ Ix (.exit id) xs W'
  | .goto t, _, W' => Turns M W W' ∧ Ix (.goto t) xs W'
  | .panic _, _, _ => False
  | .outgrown, _, _ => False

variable {F : Fence} {n : Nat} {P : Program}

theorem wp_range {α : Type} {g : Operand} {ps : Array Tmp} {assign body : Code} {Q : Exit → Act → World → Prop} {a : Act} {w : World}
    (hro : F.round = none) (h1 : 1 ≤ n) {gf : Nat} {lb : Array Value} (hg : a.eval g = .func (.func gf) #[] lb) (hFg : F.fn gf) (eg : ∀ args w, (callFunc gf args).run P w = .ok (.enter gf args) w)
    {encs : α → Array Value} (hps : ∀ x, (encs x).size = ps.size) {It : Obj → Prop} {M : Nat → Obj → Prop} (hM : ∀ k o, w.heap.size ≤ k → M k o → o.isCells = true) {Pr : List α → α → World → Prop} {S Sp : List α → Prop}
    (hseq : ∀ (l : Nat) (J Jx : List α → World → Prop) (W : World), Below w.heap.size w W → l < W.heap.size → w.heap.size ≤ l →
      (∀ s W1 W2, J s W1 → Turns (fun k o => W.heap.size ≤ k ∧ It o) W1 W2 → J s W2) → (∀ s W1 W2, Jx s W1 → Turns (fun k o => W.heap.size ≤ k ∧ It o) W1 W2 → Jx s W2) →
      (∀ pre x W1, J pre W1 → Pr pre x W1 → YieldAt F (n - 1 - 1) P l (encs x) W1 fun e W' =>
        (e = .returned (.bool true) ∧ J (pre ++ [x]) W' ∧ Turns (fun k o => M k o ∨ k = l) W1 W') ∨ (e = .returned (.bool false) ∧ Jx (pre ++ [x]) W')) →
      J [] W → CallsIn F (n - 1) P gf (#[.func (.yield l) #[] #[]] ++ lb) W fun e W' => (∃ v, e = .returned v) ∧ ((∃ xs, S xs ∧ J xs W') ∨ (∃ pre, Sp pre ∧ Jx pre W')))
    (hPr : ∀ pre x W1 W2, Pr pre x W1 → Turns (fun k o => w.heap.size ≤ k ∧ o.isCells = false) W1 W2 → Pr pre x W2)
    (I : List α → World → Prop) (Ix : Code → List α → World → Prop)
    (hI : ∀ s W1 W2, I s W1 → Turns (fun k o => w.heap.size ≤ k ∧ (It o ∨ o.isCells = false)) W1 W2 → I s W2)
    (hIx : ∀ c s W1 W2, Ix c s W1 → Turns (fun k o => w.heap.size ≤ k ∧ (It o ∨ o.isCells = false)) W1 W2 → Ix c s W2)
    (h0 : I [] w) (a₁ : α → Act)
    (hassign : ∀ (l : Nat) (x : α) (W : World) (K : Act → World → Prop), K (a₁ x) W →
      assign.wpIn (F.inRound l) (n - 1 - 1) P (Exit.then K (fun _ _ _ => False)) { tmps := (ps.zip (encs x)).foldl (fun t (p, v) => t.setIfInBounds p v) a.tmps, defers := [] } W)
    (hbody : ∀ (l : Nat) (pre : List α) (x : α) (W : World), I pre W → Pr pre x W → body.wpIn (F.inRound l) (n - 1 - 1) P (rangeExit M I Ix (pre ++ [x]) W) (a₁ x) W)
    (hdone : ∀ (D : Nat) (xs : List α) (W : World), w.heap.size ≤ D → S xs → I xs W → W.heap[D]? = some (.deferred (some [])) → Q .normal { a with defers := { target := .collected D, args := #[] } :: a.defers } W)
    (hstop : ∀ (D : Nat) (c : Code) (pre : List α) (W : World), w.heap.size ≤ D → Sp pre → Ix c pre W → W.heap[D]? = some (.deferred (some [])) → c.wpIn F n P Q { a with defers := { target := .collected D, args := #[] } :: a.defers } W) :
    (Code.rangeFunc g ps assign body).wpIn F n P Q a w := by
  refine wpIn_rangeFunc fun fn hfn => ?_
  rw [hro]
  -- the loop's record, the world behind the loop's beginning
  obtain ⟨B, hB⟩ : ∃ B, B = w.heap.size := ⟨_, rfl⟩
  obtain ⟨rec, hrec⟩ : ∃ rec : LoopState → Option Code → Loop, rec = fun st pe => { state := st, pending := pe, fn, tmps := a.tmps, params := ps, assign, body, defers := B } := ⟨_, rfl⟩
  obtain ⟨W1, hW1⟩ : ∃ W1, W1 = (w.alloc (.deferred (some []))).alloc (.loop (rec .ready none)) := ⟨_, rfl⟩
  have size1 : W1.heap.size = B + 2 := by rw [hW1, hB]; simp
  have below1 : Below w.heap.size w W1 := by rw [hW1]; exact below_two w _ _
  have hL1 : W1.heap[B + 1]? = some (.loop (rec .ready none)) := by
    have := World.alloc_heap_new (w.alloc (.deferred (some []))) (.loop (rec .ready none))
    rw [World.size_alloc] at this
    rw [hW1, hB]; exact this
  have hD1 : W1.heap[B]? = some (.deferred (some [])) := by
    rw [hW1, hB]; exact (Below.heap_alloc _ _ _ (by simp)).trans (World.alloc_heap_new w _)
  have turn1 : Turns (fun k o => w.heap.size ≤ k ∧ (It o ∨ o.isCells = false)) w W1 :=
    Turns.of_below below1 fun k o hk ho => absurd (Array.getElem?_eq_some_iff.1 ho).1 (by omega)
  have put : ∀ {s : List α} {W : World} {r : Loop} (o' : Obj), I s W → W.heap[B + 1]? = some (.loop r) → I s (W.putObj (B + 1) o') := fun o' hi hl =>
    hI _ _ _ hi (Turns.putObj o' hl ⟨by omega, .inr rfl⟩)
  have putx : ∀ {c : Code} {s : List α} {W : World} {r : Loop} (o' : Obj), Ix c s W → W.heap[B + 1]? = some (.loop r) → Ix c s (W.putObj (B + 1) o') := fun o' hi hl =>
    hIx _ _ _ _ hi (Turns.putObj o' hl ⟨by omega, .inr rfl⟩)
  refine ⟨B + 1, [{ target := .collected B, args := #[] }], W1, { target := .fn (.func gf) lb, args := #[.func (.yield (B + 1)) #[] #[]] }, W1, gf,
    #[.func (.yield (B + 1)) #[] #[]] ++ lb, W1, ?_, ?_, ?_, ?_, fun _ => h1, ?_⟩
  · rw [hW1, hrec, hB]; exact run_enterLoop_outer _ _ _ _ _
  · simp only [resolve, hg]
    simp [go_sem]
  · intro f' hf'
    simp [Target.leads] at hf'
    subst hf'
    exact hFg
  · simp [invoke, go_sem, eg]
  refine (hseq (B + 1)
    (fun pre W => I pre W ∧ W.heap[B + 1]? = some (.loop (rec .ready none)) ∧ W.heap[B]? = some (.deferred (some [])))
    (fun pre W => ∃ c, Ix c pre W ∧ W.heap[B + 1]? = some (.loop (rec .done (some c))) ∧ W.heap[B]? = some (.deferred (some [])))
    W1 below1 (by omega) (by omega)
    (fun s A C hs ht => ⟨hI s A C hs.1 (ht.wider fun k o _ hk => ⟨by omega, .inl hk.2⟩), ht.same _ _ hs.2.1 (by omega), ht.same _ _ hs.2.2 (by omega)⟩)
    (fun s A C hs ht => by
      obtain ⟨c, hc, hl, hd⟩ := hs
      exact ⟨c, hIx c s A C hc (ht.wider fun k o _ hk => ⟨by omega, .inl hk.2⟩), ht.same _ _ hl (by omega), ht.same _ _ hd (by omega)⟩)
    ?_ ⟨hI _ _ _ h0 turn1, hL1, hD1⟩).mono ?_
  · -- one round
    rintro pre x W ⟨hi, hl, hd⟩ hpr
    have hlt : B + 1 < W.heap.size := (Array.getElem?_eq_some_iff.1 hl).1
    have hy := run_yield (P := P) (args := encs x) hl (by rw [hrec]; exact hps x)
    rw [hrec] at hy
    refine ⟨fn, _, assign, body, hy, roundIn_of_wpIn hfn (hassign _ x W _ ⟨_, run_beginRound hl (by rw [hrec]), ?_⟩)⟩
    obtain ⟨W2, hW2⟩ : ∃ W2, W2 = W.putObj (B + 1) (.loop { rec .ready none with state := .busy }) := ⟨_, rfl⟩
    have hl2 : W2.heap[B + 1]? = some (.loop { rec .ready none with state := .busy }) := by rw [hW2]; exact World.putObj_heap_same hlt
    have hd2 : W2.heap[B]? = some (.deferred (some [])) := by rw [hW2, World.putObj_heap_other (by omega)]; exact hd
    have ht2 : Turns (fun k o => M k o ∨ k = B + 1) W W2 := by rw [hW2]; exact Turns.putObj _ hl (.inr rfl)
    have hp2 : Pr pre x W2 := by rw [hW2]; exact hPr _ _ _ _ hpr (Turns.putObj _ hl ⟨by omega, rfl⟩)
    have hi2 : I pre W2 := by rw [hW2]; exact put _ hi hl
    rw [← hW2]
    refine wpIn_mono (hbody _ pre x W2 hi2 hp2) ?_
    have fin : ∀ (jump : Option Code) (W3 : World), Turns M W2 W3 →
        ∃ W4, W4 = W3.putObj (B + 1) (.loop (rec (if jump.isNone then .ready else .done) jump)) ∧ (Instr.endRound (B + 1) jump).run P W3 = .ok (.bool jump.isNone) W4 ∧
          W3.heap[B + 1]? = some (.loop { rec .ready none with state := .busy }) ∧ W4.heap[B + 1]? = some (.loop (rec (if jump.isNone then .ready else .done) jump)) ∧ W4.heap[B]? = some (.deferred (some [])) ∧
          Turns (fun k o => M k o ∨ k = B + 1) W W4 := fun jump W3 ht => by
      have hl3 : W3.heap[B + 1]? = some (.loop { rec .ready none with state := .busy }) := ht.same _ _ hl2 fun hm => by have := hM _ _ (by omega) hm; cases this
      have hd3 : W3.heap[B]? = some (.deferred (some [])) := ht.same _ _ hd2 fun hm => by have := hM _ _ (by omega) hm; cases this
      have he := run_endRound (P := P) jump hl3
      refine ⟨_, rfl, ?_, hl3, World.putObj_heap_same (Array.getElem?_eq_some_iff.1 hl3).1, ?_, ?_⟩
      · rw [hrec] at he ⊢
        exact he
      · rw [World.putObj_heap_other (by omega)]; exact hd3
      · exact (ht2.trans (ht.wider fun k o _ hm => .inl hm)).trans (Turns.putObj _ hl3 (.inr rfl))
    rintro e a3 W3 hp
    cases e with
    | normal =>
      obtain ⟨W4, e4, hr, hl3, hl4, hd4, ht4⟩ := fin none W3 hp.1
      exact ⟨_, W4, hr, .inl ⟨rfl, ⟨by rw [e4]; exact put _ hp.2 hl3, hl4, hd4⟩, ht4⟩⟩
    | ret =>
      obtain ⟨W4, e4, hr, hl3, hl4, hd4, -⟩ := fin (some .ret) W3 hp.1
      exact ⟨_, W4, hr, .inr ⟨rfl, .ret, by rw [e4]; exact putx _ hp.2 hl3, hl4, hd4⟩⟩
    | exit id =>
      obtain ⟨W4, e4, hr, hl3, hl4, hd4, -⟩ := fin (some (.exit id)) W3 hp.1
      exact ⟨_, W4, hr, .inr ⟨rfl, .exit id, by rw [e4]; exact putx _ hp.2 hl3, hl4, hd4⟩⟩
    | goto t =>
      obtain ⟨W4, e4, hr, hl3, hl4, hd4, -⟩ := fin (some (.goto t)) W3 hp.1
      exact ⟨_, W4, hr, .inr ⟨rfl, .goto t, by rw [e4]; exact putx _ hp.2 hl3, hl4, hd4⟩⟩
    | panic ch => exact hp.elim
    | outgrown => exact hp.elim
  · -- behind the iterator
    rintro e W2 ⟨⟨v, rfl⟩, (⟨xs, hS, hi, hl, hd⟩ | ⟨pre, hSp, c, hi, hl, hd⟩)⟩
    · have he := run_endLoop (P := P) hl (by rw [hrec]; exact fun h => by cases h)
      have hp := put (.loop { rec .ready none with state := .exhausted }) hi hl
      rw [hrec] at he hp
      exact ⟨none, _, he, hdone B xs _ (by omega) hS hp ((World.putObj_heap_other (by omega)).trans hd)⟩
    · have he := run_endLoop (P := P) hl (by rw [hrec]; exact fun h => by cases h)
      have hp := putx (.loop { rec .done (some c) with state := .exhausted }) hi hl
      rw [hrec] at he hp
      exact ⟨some c, _, he, hstop B c pre _ (by omega) hSp hp ((World.putObj_heap_other (by omega)).trans hd)⟩

end Go.Proofs.YtojeggeimnenbaaDoor
