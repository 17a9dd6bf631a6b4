/- Other cells at indices, in plain Lean. Conditions: none. -/
import Derived.Test.YtikjniibfomadaaDoorChainsPlain
set_option linter.unusedSimpArgs false
set_option linter.unusedVariables false
namespace Go.Proofs.YtikjniibfomadaaDoor.P

/-- What pick.Put says against what it got. -/
def putErr (a : Arr) (bs : List Arr) (v : Arr) : Int :=
  if allErr (a :: (bs ++ [v])) ≠ 0 then allErr (a :: (bs ++ [v]))
  else if pickErr a.nsh bs ≠ 0 then pickErr a.nsh bs
  else if a.ch ≠ v.ch then 6
  else if v.sh ≠ [] ∧ v.sh.length ≠ (catSh bs).length then 3
  else if v.sh ≠ [] ∧ v.sh ≠ catSh bs then 4 else 0
/-- The number that is put at the k-th place. -/
def putV (v : Arr) (k : Nat) : Int := v.da.getD (if v.sh = [] then 0 else k) 0
/-- The first k places have been put. -/
def putTo (v : Arr) (ps : List Int) : Nat → List Int → List Int
  | 0, d => d
  | k + 1, d => (putTo v ps k d).set (ps.getD k 0).toNat (putV v k)
def putOf (a : Arr) (bs : List Arr) (v : Arr) : Arr := ⟨a.ch, a.sh, putTo v (placesOf a.nsh bs) (placesOf a.nsh bs).length a.da⟩

theorem putTo_length (v : Arr) (ps : List Int) (d : List Int) : ∀ k, (putTo v ps k d).length = d.length
  | 0 => rfl
  | k + 1 => by rw [putTo, List.length_set, putTo_length v ps d k]
/-- A place that no index names stays. -/
theorem putTo_other {v : Arr} {ps d : List Int} {i : Nat} : ∀ {k : Nat}, (∀ j, j < k → (ps.getD j 0).toNat ≠ i) → (putTo v ps k d)[i]? = d[i]?
  | 0, _ => rfl
  | k + 1, h => by
    rw [putTo, List.getElem?_set_ne (h k (Nat.lt_succ_self k)), putTo_other fun j hj => h j (Nat.lt_succ_of_lt hj)]
/-- A place that is named holds one of what was put. -/
theorem putTo_named {v : Arr} {ps d : List Int} {i : Nat} (hi : i < d.length) : ∀ {k j : Nat}, j < k → (ps.getD j 0).toNat = i → ∃ j', j' < k ∧ (putTo v ps k d)[i]? = some (putV v j')
  | k + 1, j, hj, e => by
    by_cases hk : (ps.getD k 0).toNat = i
    · refine ⟨k, Nat.lt_succ_self k, ?_⟩
      rw [putTo, hk, List.getElem?_set_self (by rw [putTo_length]; exact hi)]
    · have hjk : j < k := by
        rcases Nat.lt_or_ge j k with h | h
        · exact h
        · have : j = k := by omega
          subst this
          exact absurd e hk
      obtain ⟨j', h1, h2⟩ := putTo_named (v := v) hi hjk e
      exact ⟨j', Nat.lt_succ_of_lt h1, by rw [putTo, List.getElem?_set_ne hk]; exact h2⟩
/-- What is put where it lay changes nothing. -/
theorem putTo_same {v : Arr} {ps d : List Int} : ∀ {k : Nat}, (∀ j, j < k → putV v j = d.getD (ps.getD j 0).toNat 0) → putTo v ps k d = d
  | 0, _ => rfl
  | k + 1, h => by
    rw [putTo, putTo_same fun j hj => h j (Nat.lt_succ_of_lt hj), h k (Nat.lt_succ_self k)]
    apply List.ext_getElem?
    intro i
    by_cases e : (ps.getD k 0).toNat = i
    · subst e
      rcases Nat.lt_or_ge (ps.getD k 0).toNat d.length with hl | hl
      · rw [List.getElem?_set_self hl, List.getD_eq_getElem?_getD, List.getElem?_eq_getElem hl]; rfl
      · rw [List.getElem?_eq_none (by rw [List.length_set]; exact hl), List.getElem?_eq_none hl]
    · rw [List.getElem?_set_ne e]
/-- What is put counts, not what lay there. -/
theorem putTo_over {v : Arr} {ps d d' : List Int} {i : Nat} (hl : d.length = d'.length) : ∀ {k : Nat}, ((∃ j, j < k ∧ (ps.getD j 0).toNat = i) ∨ d[i]? = d'[i]?) → (putTo v ps k d)[i]? = (putTo v ps k d')[i]?
  | 0, h => by
    rcases h with ⟨j, hj, _⟩ | h
    · omega
    · exact h
  | k + 1, h => by
    by_cases e : (ps.getD k 0).toNat = i
    · rw [putTo, putTo, e]
      rcases Nat.lt_or_ge i d.length with hi | hi
      · rw [List.getElem?_set_self (by rw [putTo_length]; exact hi), List.getElem?_set_self (by rw [putTo_length, ← hl]; exact hi)]
      · rw [List.getElem?_eq_none (by rw [List.length_set, putTo_length]; exact hi), List.getElem?_eq_none (by rw [List.length_set, putTo_length, ← hl]; exact hi)]
    · rw [putTo, putTo, List.getElem?_set_ne e, List.getElem?_set_ne e]
      refine putTo_over hl ?_
      rcases h with ⟨j, hj, hj2⟩ | h
      · refine .inl ⟨j, ?_, hj2⟩
        rcases Nat.lt_or_ge j k with h1 | h1
        · exact h1
        · have : j = k := by omega
          subst this
          exact absurd hj2 e
      · exact .inr h
/-- What is put twice is what was put last. -/
theorem putTo_twice (v x : Arr) (ps d : List Int) (k : Nat) : putTo x ps k (putTo v ps k d) = putTo x ps k d := by
  apply List.ext_getElem?
  intro i
  refine putTo_over (putTo_length v ps d k) ?_
  by_cases h : ∃ j, j < k ∧ (ps.getD j 0).toNat = i
  · exact .inl h
  · exact .inr (putTo_other fun j hj e => h ⟨j, hj, e⟩)
end Go.Proofs.YtikjniibfomadaaDoor.P
