/- Plain facts: an array with its axes in another order. Conditions: none. -/
import Derived.Test.YtfaojciballhnaaAxis
import Derived.Test.YtfaojciballhnaaOrder
set_option linter.unusedSimpArgs false
set_option linter.unusedVariables false
namespace Go.Proofs.Ytfaojciballhnaa.P

/-- The place as a sum over the axes. -/
def placeTerms (s a : List Nat) : List Nat := (List.range s.length).map fun k => a.getD k 0 * innerOf s k
theorem place_sum : ∀ {s a : List Nat}, a.length = s.length → place s a = (placeTerms s a).sum
  | [], [], _ => rfl
  | n :: s, i :: a, h => by
    have ih := place_sum (s := s) (a := a) (by simpa using h)
    unfold placeTerms at ih ⊢
    rw [List.length_cons, List.range_succ_eq_map, List.map_cons, List.sum_cons, List.map_map]
    simp only [place, ih]
    congr 1
  | [], _ :: _, h => by simp at h
  | _ :: _, [], h => by simp at h

theorem sum_perm {l m : List Nat} (h : l.Perm m) : l.sum = m.sum := by
  induction h with
  | nil => rfl
  | cons x _ ih => simp only [List.sum_cons, ih]
  | swap x y l => simp only [List.sum_cons]; omega
  | trans _ _ h1 h2 => rw [h1, h2]
theorem prod_perm {l m : List Nat} (h : l.Perm m) : prod l = prod m := by
  induction h with
  | nil => rfl
  | cons x _ ih => simp only [prod, ih]
  | swap x y l => simp only [prod]; rw [← Nat.mul_assoc, ← Nat.mul_assoc, Nat.mul_comm y x]
  | trans _ _ h1 h2 => rw [h1, h2]

theorem map_getD_range (t : List Nat) : (List.range t.length).map (fun k => t.getD k 0) = t := by
  apply ext_getD (by simp)
  intro k hk
  simp only [List.length_map, List.length_range] at hk
  simp [List.getD_eq_getElem?_getD, hk]

theorem aft_of_perm {t q : List Nat} (hq : Perm q) (hl : q.length = t.length) : (aft t q).Perm t := by
  have h := (perm_range hq).map (fun k => t.getD k 0)
  rw [hl, map_getD_range] at h
  exact h

/-- The lengths of it with its axes in another order. -/
def flipSh (q t : List Nat) : List Nat := aft t (inv q)
theorem flipSh_length (q t : List Nat) : (flipSh q t).length = q.length := by rw [flipSh, aft_length, inv_length]
theorem flipSh_perm {q t : List Nat} (hq : Perm q) (hl : q.length = t.length) : (flipSh q t).Perm t := aft_of_perm (inv_perm hq) (by rw [inv_length]; exact hl)
theorem flipSh_at {q t : List Nat} (hq : Perm q) {k : Nat} (hk : k < q.length) : (flipSh q t).getD (q.getD k 0) 0 = t.getD k 0 := by
  rw [flipSh, getD_aft (by rw [inv_length]; exact hq.lt hk), getD_inv (hq.lt hk), idx_of hq hk]
theorem flipSh_good {q t : List Nat} (hq : Perm q) (hl : q.length = t.length) (h : GoodSh t) : GoodSh (flipSh q t) := by
  refine ⟨by rw [flipSh_length, hl]; exact h.1, fun n hn => h.2.1 n ((flipSh_perm hq hl).mem_iff.1 hn), ?_⟩
  rw [prod_perm (flipSh_perm hq hl)]
  exact h.2.2

def flip (q : List Nat) (a : Arr) : Arr := tab a.ch (flipSh q a.nsh) fun ix => a.cell (aft ix q)

theorem aft_inside {q t ix : List Nat} (hq : Perm q) (hl : q.length = t.length) (h : Inside (flipSh q t) ix) : Inside t (aft ix q) := by
  obtain ⟨h1, h2⟩ := inside_iff.1 h
  rw [inside_iff]
  refine ⟨by rw [aft_length, hl], fun k hk => ?_⟩
  have hk' : k < q.length := by omega
  have h3 := h2 (q.getD k 0) (by rw [flipSh_length]; exact hq.lt hk')
  rw [flipSh_at hq hk'] at h3
  rw [getD_aft hk']
  exact h3
theorem inside_flip {q t ix : List Nat} (hq : Perm q) (hl : q.length = t.length) (h : Inside t ix) : Inside (flipSh q t) (aft ix (inv q)) := by
  obtain ⟨h1, h2⟩ := inside_iff.1 h
  rw [inside_iff]
  refine ⟨by rw [aft_length, inv_length, flipSh_length], fun k hk => ?_⟩
  rw [flipSh_length] at hk
  rw [flipSh, getD_aft (by rw [inv_length]; exact hk), getD_aft (by rw [inv_length]; exact hk)]
  exact h2 _ (by rw [getD_inv hk, ← hl]; exact idx_lt hq hk)

theorem flip_ok {a : Arr} {t q : List Nat} (h : Ok a t) (hq : Perm q) (hl : q.length = t.length) : Ok (flip q a) (flipSh q t) := by
  unfold flip
  rw [h.nsh_eq]
  exact ok_tab (flipSh_good hq hl h.good) fun hc ix hi => h.rune_cell hc (aft_inside hq hl hi)

theorem aft_back {ix q : List Nat} (hq : Perm q) (hl : ix.length = q.length) : aft (aft ix (inv q)) q = ix := by
  rw [aft_assoc (fun k hk => by rw [inv_length]; exact hq.lt hk)]
  have : aft (inv q) q = idn q.length := by
    apply ext_getD (by rw [aft_length, idn_length])
    intro k hk
    rw [aft_length] at hk
    rw [getD_aft hk, getD_inv (hq.lt hk), idx_of hq hk, getD_idn hk]
  rw [this, ← hl, aft_idn_right]
theorem aft_forth {ix q : List Nat} (hq : Perm q) (hl : ix.length = q.length) : aft (aft ix q) (inv q) = ix := by
  rw [aft_assoc (fun k hk => by rw [inv_length] at hk; rw [getD_inv hk]; exact idx_lt hq hk), aft_inv_right hq, ← hl, aft_idn_right]
theorem inv_inv {q : List Nat} (hq : Perm q) : inv (inv q) = q := by
  have hi := inv_perm hq
  apply ext_getD (by rw [inv_length, inv_length])
  intro k hk
  rw [inv_length, inv_length] at hk
  rw [getD_inv (by rw [inv_length]; exact hk)]
  apply hi.inj (idx_lt hi (by rw [inv_length]; exact hk)) (by rw [inv_length]; exact hq.lt hk)
  rw [idx_get hi (by rw [inv_length]; exact hk), getD_inv (hq.lt hk), idx_of hq hk]

/-- By one order, then by another one. -/
theorem flip_flip {a : Arr} {t p q : List Nat} (h : Ok a t) (hp : Perm p) (hq : Perm q) (hlp : p.length = t.length) (hlq : q.length = t.length) : flip q (flip p a) = flip (aft q p) a := by
  have hl : q.length = p.length := by omega
  have hr := aft_perm hq hp hl
  have e : flipSh q (flipSh p t) = flipSh (aft q p) t := by
    unfold flipSh
    rw [inv_aft hq hp hl, aft_assoc (fun k hk => by rw [inv_length] at hk ⊢; rw [getD_inv hk, hl.symm]; exact idx_lt hq hk)]
  rw [show flip q (flip p a) = tab (flip p a).ch (flipSh q (flip p a).nsh) fun ix => (flip p a).cell (aft ix q) from rfl, (flip_ok h hp hlp).nsh_eq]
  conv => rhs; unfold flip
  rw [h.nsh_eq, e]
  refine tab_congr fun ix hi => ?_
  rw [← e] at hi
  have hi2 := aft_inside hq (by rw [flipSh_length]; exact hl) hi
  rw [show (flip p a).cell (aft ix q) = (tab a.ch (flipSh p a.nsh) fun ix => a.cell (aft ix p)).cell (aft ix q) from rfl, h.nsh_eq, tab_cell hi2]
  rw [aft_assoc (fun k hk => by rw [hl]; exact hp.lt hk)]
/-- By an order and by it turned round. -/
theorem flip_back {a : Arr} {t p : List Nat} (h : Ok a t) (hp : Perm p) (hlp : p.length = t.length) : flip (inv p) (flip p a) = a := by
  have hi := inv_perm hp
  rw [flip_flip h hp hi hlp (by rw [inv_length]; exact hlp)]
  have e : aft (inv p) p = idn p.length := by
    have := aft_inv_right hi
    rwa [inv_inv hp, inv_length] at this
  rw [e, hlp]
  conv => rhs; rw [h.eq_tab]
  have e2 : inv (idn t.length) = idn t.length := by
    apply ext_getD (by rw [inv_length])
    intro k hk
    rw [inv_length, idn_length] at hk
    have hd := idn_perm t.length
    rw [getD_inv (by rw [idn_length]; exact hk), getD_idn hk]
    apply hd.inj (idx_lt hd (by rw [idn_length]; exact hk)) (by rw [idn_length]; exact hk)
    rw [idx_get hd (by rw [idn_length]; exact hk), getD_idn hk]
  unfold flip flipSh
  rw [h.nsh_eq, e2, aft_idn_right]
  refine tab_congr fun ix hi => ?_
  rw [← inside_length hi, aft_idn_right]

/-- Where the p-th cell goes. -/
def flipTo (q t : List Nat) (p : Nat) : Nat := place (flipSh q t) (aft (coords t p) (inv q))
theorem flipTo_lt {q t : List Nat} (hq : Perm q) (hl : q.length = t.length) {p : Nat} (hp : p < prod t) : flipTo q t p < prod t := by
  have := place_lt (inside_flip hq hl (coords_inside hp))
  rwa [prod_perm (flipSh_perm hq hl)] at this
theorem flipTo_inj {q t : List Nat} (hq : Perm q) (hl : q.length = t.length) {i j : Nat} (hi : i < prod t) (hj : j < prod t) (e : flipTo q t i = flipTo q t j) : i = j := by
  have h := place_inj (inside_flip hq hl (coords_inside hi)) (inside_flip hq hl (coords_inside hj)) e
  have h2 : aft (aft (coords t i) (inv q)) q = aft (aft (coords t j) (inv q)) q := by rw [h]
  rw [aft_back hq (by rw [length_coords]; exact hl.symm), aft_back hq (by rw [length_coords]; exact hl.symm)] at h2
  rw [← place_coords hi, ← place_coords hj, h2]

/-- The first i cells lie where they go. -/
def Filled (q t : List Nat) (d : List Int) (i : Nat) (D : List Int) : Prop := D.length = prod t ∧ ∀ j, j < i → D[flipTo q t j]? = d[j]?
theorem Filled.zero (q t : List Nat) (d : List Int) : Filled q t d 0 (List.replicate (prod t) 0) := ⟨by simp, fun j hj => by omega⟩
theorem Filled.step {q t : List Nat} {d D : List Int} {i : Nat} {x : Int} (hq : Perm q) (hl : q.length = t.length) (h : Filled q t d i D) (hi : i < prod t) (hx : d[i]? = some x) : Filled q t d (i + 1) (D.set (flipTo q t i) x) := by
  refine ⟨by rw [List.length_set]; exact h.1, fun j hj => ?_⟩
  rw [List.getElem?_set]
  by_cases e : flipTo q t i = flipTo q t j
  · have := flipTo_inj hq hl hi (by omega) e
    subst this
    rw [if_pos rfl, if_pos (by rw [h.1]; exact flipTo_lt hq hl hi), hx]
  · rw [if_neg e]
    exact h.2 j (by
      have : j ≠ i := fun e2 => e (by rw [e2])
      omega)
theorem Filled.all {a : Arr} {q t : List Nat} {D : List Int} (ha : Ok a t) (hq : Perm q) (hl : q.length = t.length) (h : Filled q t a.da (prod t) D) : (⟨a.ch, ints (flipSh q t), D⟩ : Arr) = flip q a := by
  unfold flip
  rw [ha.nsh_eq]
  refine eq_tab rfl rfl (by rw [prod_perm (flipSh_perm hq hl)]; exact h.1) fun ix hi => ?_
  have hin := aft_inside hq hl hi
  have hlt := place_lt hin
  have := h.2 (place t (aft ix q)) hlt
  unfold flipTo at this
  rw [coords_place hin, aft_forth hq (by rw [inside_length hi, flipSh_length])] at this
  simp only
  rw [this]
  unfold Arr.cell
  rw [ha.nsh_eq, List.getD_eq_getElem?_getD, List.getElem?_eq_getElem (by rw [ha.len]; exact hlt)]
  rfl

/-- The sum so far. -/
def flipSum (q t ix : List Nat) (k : Nat) : Nat := ((List.range k).map fun j => ix.getD j 0 * innerOf (flipSh q t) (q.getD j 0)).sum
theorem flipSum_succ (q t ix : List Nat) (k : Nat) : flipSum q t ix (k + 1) = flipSum q t ix k + ix.getD k 0 * innerOf (flipSh q t) (q.getD k 0) := by
  unfold flipSum
  rw [List.range_succ, List.map_append, List.sum_append]
  simp
theorem flipSum_all {q t ix : List Nat} (hq : Perm q) (hl : q.length = t.length) (h : Inside t ix) : flipSum q t ix t.length = place (flipSh q t) (aft ix (inv q)) := by
  rw [place_sum (by rw [aft_length, inv_length, flipSh_length])]
  unfold flipSum placeTerms
  rw [flipSh_length]
  have hp := (perm_range hq).symm.map (fun k => (aft ix (inv q)).getD k 0 * innerOf (flipSh q t) k)
  rw [sum_perm hp]
  have e : q = (List.range q.length).map fun k => q.getD k 0 := (map_getD_range q).symm
  conv => rhs; rw [e]
  rw [List.map_map, ← hl]
  congr 1
  apply List.map_congr_left
  intro k hk
  have hk' : k < q.length := by simpa using hk
  simp only [Function.comp]
  rw [← e, getD_aft (by rw [inv_length]; exact hq.lt hk'), getD_inv (hq.lt hk'), idx_of hq hk']
theorem flipSum_lt {q t ix : List Nat} (hq : Perm q) (hl : q.length = t.length) (h : Inside t ix) {k : Nat} (hk : k ≤ t.length) : flipSum q t ix k < prod t := by
  have h1 : flipSum q t ix k ≤ flipSum q t ix t.length := by
    have hs : ∀ d, flipSum q t ix k ≤ flipSum q t ix (k + d) := by
      intro d
      induction d with
      | zero => exact Nat.le_refl _
      | succ d ih => rw [← Nat.add_assoc, flipSum_succ]; omega
    have := hs (t.length - k)
    rwa [show k + (t.length - k) = t.length by omega] at this
  rw [flipSum_all hq hl h] at h1
  have := place_lt (inside_flip hq hl h)
  rw [prod_perm (flipSh_perm hq hl)] at this
  omega

end Go.Proofs.Ytfaojciballhnaa.P
