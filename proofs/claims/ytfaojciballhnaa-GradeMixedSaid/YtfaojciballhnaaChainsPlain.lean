/- Some of some, in plain Lean. Conditions: none. -/
import Derived.Test.YtfaojciballhnaaPickAt
set_option linter.unusedSimpArgs false
set_option linter.unusedVariables false
namespace Go.Proofs.Ytfaojciballhnaa.P

theorem atErr_parts {a : Arr} {bs : List Arr} (h : atErr a bs = 0) : ∃ t, Ok a t ∧ (∀ b ∈ bs, ∃ s, Ok b s) ∧ pickErr t bs = 0 := by
  unfold atErr at h
  by_cases c : allErr (a :: bs) ≠ 0
  · rw [if_pos c] at h; exact absurd h c
  · rw [if_neg c] at h
    have c0 : allErr (a :: bs) = 0 := by simpa using c
    obtain ⟨t, ht⟩ := ok_of_arrErr (allErr_zero c0 a (List.mem_cons_self ..))
    rw [ht.nsh_eq] at h
    exact ⟨t, ht, fun b hb => ok_of_arrErr (allErr_zero c0 b (List.mem_cons_of_mem _ hb)), h⟩
theorem allErr_ok : ∀ {l : List Arr}, (∀ b ∈ l, ∃ s, Ok b s) → allErr l = 0
  | [], _ => rfl
  | c :: l, h => by
    obtain ⟨s, hs⟩ := h c (List.mem_cons_self ..)
    unfold allErr
    rw [if_neg (by rw [arrErr_ok hs]; simp)]
    exact allErr_ok fun b hb => h b (List.mem_cons_of_mem _ hb)
theorem atErr_of {a : Arr} {t : List Nat} {bs : List Arr} (ha : Ok a t) (hb : ∀ b ∈ bs, ∃ s, Ok b s) (hp : pickErr t bs = 0) : atErr a bs = 0 := by
  unfold atErr
  rw [if_neg (by rw [allErr_ok (fun b h => (List.mem_cons.1 h).elim (fun e => e ▸ ⟨t, ha⟩) (hb b))]; simp), ha.nsh_eq, hp]
theorem getD_bound {d : List Int} {n : Nat} (h : n < d.length) : d.getD n 0 ∈ d := by
  rw [List.getD_eq_getElem?_getD, List.getElem?_eq_getElem h]
  exact List.getElem_mem h
/-- What is told is an array. -/
theorem atOf_ok {a : Arr} {t : List Nat} {bs : List Arr} (ha : Ok a t) (hb : ∀ b ∈ bs, ∃ s, Ok b s) (hp : pickErr t bs = 0) : ∃ u, catSh bs = ints u ∧ Ok (atOf a bs) u := by
  obtain ⟨p1, p2, p3, p4⟩ := pick_parts hp
  obtain ⟨u, e1, e2⟩ := catSh_ints hb
  obtain ⟨u', e3, hg⟩ := cntErr_zero p3
  have : u = u' := ints_inj (e1.symm.trans e3)
  subst this
  refine ⟨u, e1, ⟨e1, hg, ?_, ?_⟩⟩
  · unfold atOf
    rw [List.length_map, ha.nsh_eq, ← placesTo_all (Nat.le_refl _), placesTo_len p1 (Nat.le_refl _), List.take_length, e2]
  · intro hc
    have hr := any_bad_iff.1 (ha.rune hc)
    refine any_bad_iff.2 fun c hc' => ?_
    unfold atOf at hc'
    obtain ⟨p, hp', rfl⟩ := List.mem_map.1 hc'
    rw [ha.nsh_eq, ← placesTo_all (Nat.le_refl _)] at hp'
    obtain ⟨q0, q1⟩ := places_in p1 p4 (Nat.le_refl _) p hp'
    rw [p1, List.take_length] at q1
    exact hr _ (getD_bound (by rw [ha.len]; omega))
theorem placesOf_one (n : Nat) (b : Arr) : placesOf [n] [b] = b.da := by
  unfold placesOf
  simp [stepAt]
theorem catSh_one (b : Arr) : catSh [b] = b.sh := by simp [catSh]
theorem chains {a by_ : Arr} {more : List Arr} (h1 : atErr a [by_] = 0) (h2 : atErr (atOf a [by_]) more = 0) : atErr by_ more = 0 ∧ atErr a [atOf by_ more] = 0 ∧ atOf (atOf a [by_]) more = atOf a [atOf by_ more] := by
  obtain ⟨t, ha, hb, hp⟩ := atErr_parts h1
  obtain ⟨s, hby⟩ := hb by_ (List.mem_cons_self ..)
  obtain ⟨s', hx, hm, hp2⟩ := atErr_parts h2
  obtain ⟨p1, p2, p3, p4⟩ := pick_parts hp
  obtain ⟨u1, e1, hx1⟩ := atOf_ok ha hb hp
  rw [catSh_one, hby.sh] at e1
  have es : s = u1 := ints_inj e1
  subst es
  have es' : s' = s := ints_inj (hx.sh.symm.trans hx1.sh)
  subst es'
  have hch : by_.ch = false := by simpa using p2
  obtain ⟨u2, e2, hu⟩ := atOf_ok hby hm hp2
  obtain ⟨r1, r2, r3, r4⟩ := pick_parts hp2
  have hpl : ∀ q ∈ placesOf s' more, 0 ≤ q ∧ q.toNat < by_.da.length := by
    intro q hq
    rw [← placesTo_all (Nat.le_refl _)] at hq
    obtain ⟨q0, q1⟩ := places_in r1 r4 (Nat.le_refl _) q hq
    rw [r1, List.take_length] at q1
    rw [hby.len]
    exact ⟨q0, by omega⟩
  obtain ⟨n, hn⟩ : ∃ n, t = [n] := by
    match t, p1 with
    | [n], _ => exact ⟨n, rfl⟩
  subst hn
  have hdu : (atOf by_ more).da = (placesOf s' more).map fun p => by_.da.getD p.toNat 0 := by unfold atOf; rw [hby.nsh_eq]
  have hpu : pickErr [n] [atOf by_ more] = 0 := by
    refine pick_none rfl ?_ ?_ ?_
    · simp [atOf, hch]
    · rw [catSh_one]; exact r3
    · have hi := idxs_of p4 1 0 by_ n (by omega) rfl rfl
      unfold idxBad
      rw [List.any_eq_false]
      intro x hx
      simp only [List.zip_cons_cons, List.zip_nil_right, List.mem_cons, List.not_mem_nil, or_false] at hx
      subst hx
      simp only [List.any_eq_true, decide_eq_true_eq, not_exists, not_and, not_or]
      intro i hi'
      rw [hdu] at hi'
      obtain ⟨p, hp', rfl⟩ := List.mem_map.1 hi'
      have := hi _ (getD_bound (hpl p hp').2)
      omega
  refine ⟨atErr_of hby hm hp2, atErr_of ha (fun b hb' => ⟨u2, by rw [List.mem_singleton.1 hb']; exact hu⟩) hpu, ?_⟩
  have l : atOf (atOf a [by_]) more = ⟨a.ch, catSh more, (placesOf s' more).map fun p => (atOf a [by_]).da.getD p.toNat 0⟩ := by
    rw [show atOf (atOf a [by_]) more = ⟨(atOf a [by_]).ch, catSh more, (placesOf (atOf a [by_]).nsh more).map fun p => (atOf a [by_]).da.getD p.toNat 0⟩ from rfl, hx.nsh_eq]
    rfl
  have r : atOf a [atOf by_ more] = ⟨a.ch, catSh more, (atOf by_ more).da.map fun p => a.da.getD p.toNat 0⟩ := by
    rw [show atOf a [atOf by_ more] = ⟨a.ch, catSh [atOf by_ more], (placesOf a.nsh [atOf by_ more]).map fun p => a.da.getD p.toNat 0⟩ from rfl, ha.nsh_eq, placesOf_one, catSh_one]
    rfl
  rw [l, r, hdu, List.map_map]
  congr 1
  refine List.map_congr_left fun p hp' => ?_
  have hd : (atOf a [by_]).da = by_.da.map fun p => a.da.getD p.toNat 0 := by
    rw [show (atOf a [by_]).da = (placesOf a.nsh [by_]).map fun p => a.da.getD p.toNat 0 from rfl, ha.nsh_eq, placesOf_one]
  obtain ⟨q0, q1⟩ := hpl p hp'
  rw [hd]
  simp only [Function.comp]
  rw [List.getD_eq_getElem?_getD, List.getElem?_map, List.getD_eq_getElem?_getD, List.getElem?_eq_getElem q1]
  simp only [Option.map_some, Option.getD_some, List.getD_eq_getElem?_getD, List.getElem?_eq_getElem q1]
end Go.Proofs.Ytfaojciballhnaa.P
