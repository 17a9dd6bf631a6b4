/- The walk of shape.Axes. Conditions: none. -/
import Derived.Test.YtfaojciballhnaaCount
import Derived.Test.YtfaojciballhnaaList
import Derived.Test.YtfaojciballhnaaFlip
import Derived.Test.YtfaojciballhnaaIntsAt
import Derived.Deep.QuietTactic
import Derived.BigQuiet
set_option linter.unusedSimpArgs false
set_option linter.unusedVariables false
namespace Go.Proofs.Ytfaojciballhnaa.P

def axesErr (s p : List Int) : Int := if cntErr s ≠ 0 then cntErr s else if p.length ≠ s.length then 4 else if IsOrder p then 0 else 5
theorem axesErr_zero {s p : List Int} (h : axesErr s p = 0) : ∃ t u, s = ints t ∧ GoodSh t ∧ p = ints u ∧ Perm u ∧ u.length = t.length := by
  unfold axesErr at h
  by_cases h1 : cntErr s ≠ 0
  · rw [if_pos h1] at h; exact absurd h h1
  · rw [if_neg h1] at h
    obtain ⟨t, rfl, ht⟩ := cntErr_zero (by simpa using h1)
    by_cases h2 : p.length ≠ (ints t).length
    · rw [if_pos h2] at h; omega
    · rw [if_neg h2] at h
      by_cases h3 : IsOrder p
      · obtain ⟨u, rfl, hu⟩ := order_open h3
        rw [length_ints, length_ints] at h2
        exact ⟨t, u, rfl, ht, rfl, hu, by omega⟩
      · rw [if_neg h3] at h; omega
theorem axesErr_ok {t u : List Nat} (ht : GoodSh t) (hu : Perm u) (hl : u.length = t.length) : axesErr (ints t) (ints u) = 0 := by
  unfold axesErr
  rw [cntErr_ints ht, if_neg (by simp), if_neg (by rw [length_ints, length_ints]; omega), if_pos (order_ints.2 hu)]

/-- The lengths laid so far. -/
def AxesTo (k : Nat) (u t : List Nat) (S : List Int) : Prop := S.length = t.length ∧ ∀ j, j < k → S[u.getD j 0]? = some ((t.getD j 0 : Nat) : Int)
theorem AxesTo.zero {n : Nat} {t : List Nat} (h : n = t.length) : AxesTo 0 [] t (List.replicate n 0) := ⟨by simpa using h, fun j h => by omega⟩
theorem AxesTo.succ {k m : Nat} {u t : List Nat} {S : List Int} {x : Int} (h : AxesTo k u t S) (hu : u.length = k) (hm : m < t.length) (hn : m ∉ u) (hx : x = ((t.getD k 0 : Nat) : Int)) : AxesTo (k + 1) (u ++ [m]) t (S.set m x) := by
  refine ⟨by rw [List.length_set]; exact h.1, fun j hj => ?_⟩
  by_cases e : j = k
  · subst e
    have : (u ++ [m]).getD j 0 = m := by rw [List.getD_eq_getElem?_getD, List.getElem?_append_right (by omega), hu]; simp
    rw [this, List.getElem?_set_self (by rw [h.1]; exact hm), hx]
  · have hju : j < u.length := by omega
    have e2 : (u ++ [m]).getD j 0 = u.getD j 0 := by rw [List.getD_eq_getElem?_getD, List.getElem?_append_left hju, List.getD_eq_getElem?_getD]
    rw [e2, List.getElem?_set_ne (fun e3 => hn (by rw [e3, getD_lt hju]; exact List.getElem_mem hju))]
    exact h.2 j (by omega)
theorem AxesTo.all {u t : List Nat} {S : List Int} (h : AxesTo t.length u t S) (hu : Perm u) (hl : u.length = t.length) : S = ints (flipSh u t) := by
  apply List.ext_getElem?
  intro m
  rcases Nat.lt_or_ge m t.length with h1 | h1
  · have hm : m < u.length := by omega
    have h2 := h.2 (u.idxOf m) (by rw [← hl]; exact idx_lt hu hm)
    rw [idx_get hu hm] at h2
    have h3 := flipSh_at (t := t) hu (idx_lt hu hm)
    rw [idx_get hu hm] at h3
    have hf : m < (flipSh u t).length := by rw [flipSh_length]; exact hm
    rw [h2, getElem?_ints, List.getElem?_eq_getElem hf, ← getD_lt hf, h3]
    rfl
  · rw [List.getElem?_eq_none (by rw [h.1]; exact h1), List.getElem?_eq_none (by rw [length_ints, flipSh_length]; omega)]

/-- Which axes have been seen. -/
def SeenB (L : List Bool) (u : List Nat) : Prop := L.length = 6 ∧ ∀ i, i < 6 → L[i]? = some (decide (i ∈ u))
theorem SeenB.nil : SeenB (List.replicate 6 false) [] := ⟨by simp, fun i hi => by rw [List.getElem?_replicate, if_pos hi]; simp⟩
theorem SeenB.add {L : List Bool} {u : List Nat} (h : SeenB L u) {m : Nat} (hm : m < 6) : SeenB (L.set m true) (u ++ [m]) := by
  refine ⟨by rw [List.length_set]; exact h.1, fun i hi => ?_⟩
  by_cases e : m = i
  · subst e
    rw [List.getElem?_set_self (by rw [h.1]; exact hm)]
    simp
  · rw [List.getElem?_set_ne e, h.2 i hi]
    congr 1
    rw [decide_eq_decide, List.mem_append, List.mem_singleton]
    constructor
    · exact .inl
    · rintro (h | h)
      · exact h
      · exact absurd h.symm e
theorem take_snoc_ints {p : List Int} {u : List Nat} {k m : Nat} (h : p.take k = ints u) (hx : p[k]? = some (m : Int)) : p.take (k + 1) = ints (u ++ [m]) := by
  rw [List.take_add_one, h, hx]
  simp [ints]

end Go.Proofs.Ytfaojciballhnaa.P
namespace Go.Proofs.Ytfaojciballhnaa
open Go Go.RowKit Go.Proofs.Ytfaojciballhnaa.P

/-- A call tells a list of its own and no error. -/
def GivesOwn (xs : List Int) (w : World) (e : Ending) (w' : World) : Prop := ∃ g, e = .returned (.tuple #[.slice (some ⟨g, 0, none⟩) xs.length xs.length, .nilIface]) ∧ w.heap.size ≤ g ∧ Row w' g xs ∧ Below w.heap.size w w'
def FailsList (k : Int) (w : World) (e : Ending) (w' : World) : Prop := e = .returned (.tuple #[.slice none 0 0, .iface 56 (.int .i64 k)]) ∧ Below w.heap.size w w'

theorem twice_not {p : List Int} {t : List Nat} {k m : Nat} (ht : p.take k = ints t) (hx : p[k]? = some (m : Int)) (hm : m ∈ t) : ¬ IsOrder p := fun h => by
  have h1 : (p.take (k + 1)).Nodup := (List.take_sublist _ _).nodup h.1
  rw [List.take_add_one, ht, hx] at h1
  have := (List.nodup_append.1 h1).2.2 (m : Int) (List.mem_map.2 ⟨m, hm, rfl⟩) (m : Int) (by simp)
  exact this rfl

end Go.Proofs.Ytfaojciballhnaa
