/- The laws of pick.At and pick.Put, in plain Lean. Conditions: none. -/
import Derived.Test.YtnjjapfdgddemaaPutPlain
import Derived.Test.YtnjjapfdgddemaaReshape
import Derived.Test.YtnjjapfdgddemaaIota
namespace Go.Proofs.Ytnjjapfdgddemaa.P

theorem putErr_parts {a v : Arr} {bs : List Arr} (h : putErr a bs v = 0) : ∃ t u, Ok a t ∧ (∀ b ∈ bs, ∃ s, Ok b s) ∧ Ok v u ∧ pickErr t bs = 0 ∧ a.ch = v.ch ∧ (v.sh = [] ∨ v.sh = catSh bs) := by
  unfold putErr at h
  by_cases c1 : allErr (a :: (bs ++ [v])) ≠ 0
  · rw [if_pos c1] at h; exact absurd h c1
  rw [if_neg c1] at h
  have c0 : allErr (a :: (bs ++ [v])) = 0 := by simpa using c1
  obtain ⟨t, ht⟩ := ok_of_arrErr (allErr_zero c0 a (List.mem_cons_self ..))
  obtain ⟨u, hu⟩ := ok_of_arrErr (allErr_zero c0 v (List.mem_cons_of_mem _ (List.mem_append_right _ (List.mem_cons_self ..))))
  rw [ht.nsh_eq] at h
  by_cases c2 : pickErr t bs ≠ 0
  · rw [if_pos c2] at h; exact absurd h c2
  rw [if_neg c2] at h
  by_cases c3 : a.ch ≠ v.ch
  · rw [if_pos c3] at h; omega
  rw [if_neg c3] at h
  by_cases c4 : v.sh ≠ [] ∧ v.sh.length ≠ (catSh bs).length
  · rw [if_pos c4] at h; omega
  rw [if_neg c4] at h
  by_cases c5 : v.sh ≠ [] ∧ v.sh ≠ catSh bs
  · rw [if_pos c5] at h; omega
  refine ⟨t, u, ht, fun b hb => ok_of_arrErr (allErr_zero c0 b (List.mem_cons_of_mem _ (List.mem_append_left _ hb))), hu, by simpa using c2, by simpa using c3, ?_⟩
  by_cases c6 : v.sh = []
  · exact .inl c6
  · exact .inr (Classical.not_not.1 fun h => c5 ⟨c6, h⟩)
theorem putErr_zero {a v : Arr} {bs : List Arr} {t u : List Nat} (ha : Ok a t) (hb : ∀ b ∈ bs, ∃ s, Ok b s) (hv : Ok v u) (hp : pickErr t bs = 0) (hc : a.ch = v.ch) (hs : v.sh = [] ∨ v.sh = catSh bs) : putErr a bs v = 0 := by
  unfold putErr
  rw [if_neg (by
    rw [allErr_ok (fun b h => (List.mem_cons.1 h).elim (fun e => e ▸ ⟨t, ha⟩) fun h => (List.mem_append.1 h).elim (hb b) fun h => by rw [List.mem_singleton.1 h]; exact ⟨u, hv⟩)]; simp), ha.nsh_eq, if_neg (by rw [hp]; simp), if_neg (by simpa using hc),
    if_neg (fun h => by rcases hs with e | e; exact h.1 e; exact h.2 (by rw [e])), if_neg (fun h => by rcases hs with e | e; exact h.1 e; exact h.2 e)]
theorem placesOf_length {t : List Nat} {bs : List Arr} (hp : pickErr t bs = 0) : (placesOf t bs).length = prodLen bs := by
  obtain ⟨p1, p2, p3, p4⟩ := pick_parts hp
  rw [← placesTo_all (Nat.le_refl _), placesTo_len p1 (Nat.le_refl _), List.take_length]
theorem placesOf_in {t : List Nat} {bs : List Arr} (hp : pickErr t bs = 0) {q : Int} (hq : q ∈ placesOf t bs) : 0 ≤ q ∧ q < (prod t : Int) := by
  obtain ⟨p1, p2, p3, p4⟩ := pick_parts hp
  have h := places_in p1 p4 (k := bs.length) (Nat.le_refl _)
  rw [placesTo_all (Nat.le_refl _), p1, List.take_length] at h
  exact h q hq
/-- How many cells are put: one, or as many as places. -/
theorem put_len {v : Arr} {bs : List Arr} {u : List Nat} (hb : ∀ b ∈ bs, ∃ s, Ok b s) (hv : Ok v u) (hs : v.sh = [] ∨ v.sh = catSh bs) : if v.sh = [] then v.da.length = 1 else v.da.length = prodLen bs := by
  by_cases c : v.sh = []
  · rw [if_pos c, hv.len]
    have := hv.sh
    rw [c] at this
    rw [show u = [] from ints_inj this.symm]
    rfl
  · rw [if_neg c]
    obtain ⟨u', e1, e2⟩ := catSh_ints hb
    have e := hs.resolve_left c
    rw [hv.sh, e1] at e
    rw [hv.len, ints_inj e, e2]
/-- The number that is put at the k-th place is one of what is put. -/
theorem putV_at {v : Arr} {bs : List Arr} {u : List Nat} (hb : ∀ b ∈ bs, ∃ s, Ok b s) (hv : Ok v u) (hs : v.sh = [] ∨ v.sh = catSh bs) {k : Nat} (hk : k < prodLen bs) : v.da[if v.sh = [] then 0 else k]? = some (putV v k) := by
  have hl := put_len hb hv hs
  unfold putV
  by_cases c : v.sh = []
  · rw [if_pos c] at hl ⊢
    rw [List.getD_eq_getElem?_getD, List.getElem?_eq_getElem (by omega)]; rfl
  · rw [if_neg c] at hl ⊢
    rw [List.getD_eq_getElem?_getD, List.getElem?_eq_getElem (by omega)]; rfl
theorem putOf_eq {a v : Arr} {t : List Nat} {bs : List Arr} (ha : Ok a t) : putOf a bs v = ⟨a.ch, a.sh, putTo v (placesOf t bs) (placesOf t bs).length a.da⟩ := by
  unfold putOf; rw [ha.nsh_eq]
theorem putOf_ok {a v : Arr} {t u : List Nat} {bs : List Arr} (ha : Ok a t) (hb : ∀ b ∈ bs, ∃ s, Ok b s) (hv : Ok v u) (hp : pickErr t bs = 0) (hc : a.ch = v.ch) (hs : v.sh = [] ∨ v.sh = catSh bs) : Ok (putOf a bs v) t := by
  rw [putOf_eq ha]
  refine ⟨ha.sh, ha.good, by rw [putTo_length, ha.len], fun h => any_bad_iff.2 ?_⟩
  have hr := any_bad_iff.1 (ha.rune h)
  have hr2 := any_bad_iff.1 (hv.rune (by rw [← hc]; exact h))
  have key : ∀ k, k ≤ (placesOf t bs).length → ∀ c ∈ putTo v (placesOf t bs) k a.da, badRune c = false := by
    intro k
    induction k with
    | zero => exact fun _ => hr
    | succ k ih =>
      intro hk c hc'
      rw [putTo] at hc'
      rcases List.mem_or_eq_of_mem_set hc' with h1 | h1
      · exact ih (by omega) c h1
      · subst h1
        refine hr2 _ (List.mem_of_getElem? (putV_at hb hv hs (k := k) (by rw [← placesOf_length hp]; omega)))
  exact key _ (Nat.le_refl _)

/-- A LENS: what is told, put back, changes nothing. -/
theorem lens_back {a : Arr} {bs : List Arr} (h : atErr a bs = 0) : putErr a bs (atOf a bs) = 0 ∧ putOf a bs (atOf a bs) = a := by
  obtain ⟨t, ha, hb, hp⟩ := atErr_parts h
  obtain ⟨u, e1, hx⟩ := atOf_ok ha hb hp
  have hs : (atOf a bs).sh = [] ∨ (atOf a bs).sh = catSh bs := .inr rfl
  refine ⟨putErr_zero ha hb hx hp rfl hs, ?_⟩
  rw [putOf_eq ha]
  have : putTo (atOf a bs) (placesOf t bs) (placesOf t bs).length a.da = a.da := by
    refine putTo_same fun j hj => ?_
    have h1 := putV_at hb hx hs (k := j) (by rw [← placesOf_length hp]; exact hj)
    have hl := put_len hb hx hs
    have hi : (if (atOf a bs).sh = [] then 0 else j) = j := by
      by_cases c : (atOf a bs).sh = []
      · rw [if_pos c] at hl ⊢
        have : (atOf a bs).da.length = (placesOf t bs).length := by unfold atOf; rw [List.length_map, ha.nsh_eq]
        omega
      · rw [if_neg c]
    rw [hi] at h1
    unfold atOf at h1
    simp only [List.getElem?_map, ha.nsh_eq] at h1
    rw [List.getElem?_eq_getElem hj] at h1
    simp only [Option.map_some, Option.some.injEq] at h1
    rw [show putV (atOf a bs) j = putV ⟨a.ch, catSh bs, (placesOf a.nsh bs).map fun p => a.da.getD p.toNat 0⟩ j from rfl, ha.nsh_eq, ← h1]
    simp [List.getD_eq_getElem?_getD, List.getElem?_eq_getElem hj]
  rw [this]
theorem put_twice {a v x : Arr} {bs : List Arr} (h : putErr a bs v = 0) : putErr (putOf a bs v) bs x = putErr a bs x ∧ putOf (putOf a bs v) bs x = putOf a bs x := by
  obtain ⟨t, u, ha, hb, hv, hp, hc, hs⟩ := putErr_parts h
  have hpo := putOf_ok ha hb hv hp hc hs
  refine ⟨?_, ?_⟩
  · unfold putErr
    have e : allErr (putOf a bs v :: (bs ++ [x])) = allErr (a :: (bs ++ [x])) := by
      unfold allErr
      rw [if_neg (by rw [arrErr_ok hpo]; simp), if_neg (by rw [arrErr_ok ha]; simp)]
    rw [e, hpo.nsh_eq, ha.nsh_eq]
    rfl
  · rw [putOf_eq hpo, putOf_eq ha, putOf_eq ha]
    simp only [putTo_twice]
/-- The places themselves, told by an array of all numbers. -/
def flatOf (a : Arr) : Arr := rshOf a.sh (prod a.nsh) (firstNums a.da.length)
theorem flat_eq {a : Arr} {t : List Nat} (ha : Ok a t) : flatOf a = ⟨false, ints t, ints (List.range (prod t))⟩ := by
  unfold flatOf rshOf firstNums
  rw [ha.nsh_eq, ha.sh, ha.len, cyc_same (by simp [ints])]
theorem flat_ok {a : Arr} {t : List Nat} (ha : Ok a t) : Ok (flatOf a) t := by
  rw [flat_eq ha]
  exact ⟨rfl, ha.good, by simp [ints], fun h => by cases h⟩
theorem flat_at {a : Arr} {t : List Nat} {bs : List Arr} (ha : Ok a t) (hb : ∀ b ∈ bs, ∃ s, Ok b s) (hp : pickErr t bs = 0) : atErr (flatOf a) bs = 0 ∧ atOf (flatOf a) bs = ⟨false, catSh bs, placesOf t bs⟩ := by
  refine ⟨atErr_of (flat_ok ha) hb hp, ?_⟩
  unfold atOf
  rw [(flat_ok ha).nsh_eq]
  have : (placesOf t bs).map (fun p => (flatOf a).da.getD p.toNat 0) = placesOf t bs := by
    refine (List.map_congr_left fun p hp' => ?_).trans (List.map_id _)
    obtain ⟨q0, q1⟩ := placesOf_in hp hp'
    rw [flat_eq ha]
    simp only [List.getD_eq_getElem?_getD, ints, List.getElem?_map]
    rw [List.getElem?_range (by omega)]
    simp
    omega
  rw [this, flat_eq ha]
/-- THE OTHERS STAY. -/
theorem put_others {a v : Arr} {t : List Nat} {bs : List Arr} {i : Nat} (ha : Ok a t) (h : (i : Int) ∉ placesOf t bs) (hp : pickErr t bs = 0) : (putOf a bs v).da[i]? = a.da[i]? := by
  rw [putOf_eq ha]
  refine putTo_other fun j hj e => h ?_
  have hm : (placesOf t bs).getD j 0 ∈ placesOf t bs := getD_bound hj
  obtain ⟨q0, q1⟩ := placesOf_in hp hm
  rw [show (i : Int) = (placesOf t bs).getD j 0 by omega]
  exact hm
theorem put_named {a v : Arr} {t u : List Nat} {bs : List Arr} {i : Nat} {x : Int} (ha : Ok a t) (hb : ∀ b ∈ bs, ∃ s, Ok b s) (hv : Ok v u) (hp : pickErr t bs = 0) (hs : v.sh = [] ∨ v.sh = catSh bs) (h : (i : Int) ∈ placesOf t bs) (hx : (putOf a bs v).da[i]? = some x) : x ∈ v.da := by
  rw [putOf_eq ha] at hx
  obtain ⟨j, hj⟩ := List.getElem?_of_mem h
  have hjl := (List.getElem?_eq_some_iff.1 hj).1
  obtain ⟨q0, q1⟩ := placesOf_in hp h
  obtain ⟨j', h1, h2⟩ := putTo_named (v := v) (ps := placesOf t bs) (d := a.da) (i := i) (by rw [ha.len]; omega) hjl (by rw [List.getD_eq_getElem?_getD, hj]; simp)
  rw [h2] at hx
  injection hx with hx
  subst hx
  exact List.mem_of_getElem? (putV_at hb hv hs (by rw [← placesOf_length hp]; exact h1))
/-- Where no place is told twice, what was put is told. -/
theorem put_told {a v : Arr} {t u : List Nat} {bs : List Arr} (ha : Ok a t) (hb : ∀ b ∈ bs, ∃ s, Ok b s) (hv : Ok v u) (hp : pickErr t bs = 0) (hc : a.ch = v.ch) (hs : v.sh = [] ∨ v.sh = catSh bs)
    (hd : ∀ i j, j < i → i < (placesOf t bs).length → (placesOf t bs).getD i 0 ≠ (placesOf t bs).getD j 0) :
    atErr (putOf a bs v) bs = 0 ∧ atOf (putOf a bs v) bs = rshOf (catSh bs) (prodLen bs) v := by
  have hpo := putOf_ok ha hb hv hp hc hs
  refine ⟨atErr_of hpo hb hp, ?_⟩
  have hlen := placesOf_length hp
  unfold atOf rshOf
  rw [hpo.nsh_eq, show (putOf a bs v).ch = v.ch from hc]
  congr 1
  apply List.ext_getElem?
  intro k
  rcases Nat.lt_or_ge k (prodLen bs) with hk | hk
  · have hkl : k < (placesOf t bs).length := by rw [hlen]; exact hk
    rw [List.getElem?_map, List.getElem?_eq_getElem hkl]
    have hpv := putV_at hb hv hs hk
    have hl := put_len hb hv hs
    have hmod : k % v.da.length = if v.sh = [] then 0 else k := by
      by_cases c : v.sh = []
      · rw [if_pos c] at hl ⊢
        rw [hl, Nat.mod_one]
      · rw [if_neg c] at hl ⊢
        rw [hl, Nat.mod_eq_of_lt hk]
    rw [cyc_at hk (by rw [hmod]; exact hpv)]
    simp only [Option.map_some, Option.some.injEq]
    rw [putOf_eq ha]
    have hg : (placesOf t bs).getD k 0 = (placesOf t bs)[k] := by rw [List.getD_eq_getElem?_getD, List.getElem?_eq_getElem hkl]; rfl
    obtain ⟨q0, q1⟩ := placesOf_in hp (List.getElem_mem hkl)
    have key : ∀ m, k < m → m ≤ (placesOf t bs).length → (putTo v (placesOf t bs) m a.da)[(placesOf t bs)[k].toNat]? = some (putV v k) := by
      intro m
      induction m with
      | zero => intro h; omega
      | succ m ih =>
        intro h1 h2
        rw [putTo]
        by_cases e : m = k
        · subst e
          rw [hg, List.getElem?_set_self (by rw [putTo_length, ha.len]; omega)]
        · have hne := hd m k (by omega) (by omega)
          have hm : (placesOf t bs).getD m 0 ∈ placesOf t bs := getD_bound (by omega)
          obtain ⟨r0, r1⟩ := placesOf_in hp hm
          rw [List.getElem?_set_ne (fun e2 => hne (by rw [hg]; omega))]
          exact ih (by omega) (by omega)
    rw [List.getD_eq_getElem?_getD, key _ hkl (Nat.le_refl _)]
    rfl
  · rw [List.getElem?_eq_none (by rw [List.length_map, hlen]; exact hk), List.getElem?_eq_none (by rw [cyc_len]; exact hk)]
end Go.Proofs.Ytnjjapfdgddemaa.P
