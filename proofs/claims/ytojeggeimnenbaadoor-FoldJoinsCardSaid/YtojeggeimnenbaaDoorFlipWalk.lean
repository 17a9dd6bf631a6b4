/- The walk of turn.Flip. Conditions: none. -/
import Derived.Test.YtojeggeimnenbaaDoorAxes
import Derived.Test.YtojeggeimnenbaaDoorOdo
import Derived.Test.YtojeggeimnenbaaDoorMoved
import Derived.Test.YtojeggeimnenbaaDoorAlike
set_option linter.unusedSimpArgs false
set_option linter.unusedVariables false
namespace Go.Proofs.YtojeggeimnenbaaDoor.P

def FarTo (s : List Nat) (k : Nat) (F : Int) : Prop := prod s ≠ 0 → F = (prod (s.drop k) : Nat)
def StepTo (s : List Nat) (k : Nat) (L : List Int) : Prop := L.length = 6 ∧ (prod s ≠ 0 → ∀ j, k ≤ j → j < s.length → L[j]? = some ((innerOf s j : Nat) : Int))
theorem FarTo.start (s : List Nat) : FarTo s s.length 1 := fun _ => by simp [prod]
theorem StepTo.start (s : List Nat) : StepTo s s.length (List.replicate 6 0) := ⟨by simp, fun _ j h1 h2 => by omega⟩
theorem prod_drop_at {s : List Nat} {k : Nat} (hk : k < s.length) : prod (s.drop k) = s.getD k 0 * prod (s.drop (k + 1)) := by
  rw [List.drop_eq_getElem_cons hk, prod, List.getD_eq_getElem?_getD, List.getElem?_eq_getElem hk]; rfl
theorem prod_drop_le' {t : List Nat} (h : prod t ≠ 0) (j : Nat) : prod (t.drop j) ≤ prod t := by
  have e : prod t = prod (t.take j) * prod (t.drop j) := by rw [← prod_append, List.take_append_drop]
  rw [e] at h ⊢
  have : 0 < prod (t.take j) := by
    rcases Nat.eq_zero_or_pos (prod (t.take j)) with h0 | h0
    · rw [h0] at h; simp at h
    · exact h0
  exact Nat.le_mul_of_pos_left _ this
theorem far_wrap {z y : Nat} {x F : Int} (e : F = (y : Nat)) (hx : x = ((z : Nat) : Int)) (h : z * y ≤ 4096) : Go.RowKit.wrap64 (F * x) = ((z * y : Nat) : Int) := by
  subst e hx
  rw [← Int.natCast_mul, Nat.mul_comm y z]
  generalize z * y = q at *
  unfold Go.RowKit.wrap64
  omega
theorem FarTo.next {s : List Nat} {k : Nat} {F x : Int} (hg : GoodSh s) (h : FarTo s (k + 1) F) (hk : k < s.length) (hx : x = max ((s.getD k 0 : Nat) : Int) 1) : FarTo s k (Go.RowKit.wrap64 (F * x)) := fun hp => by
  have h1 := h hp
  have h2 := prod_drop_le' hp k
  rw [prod_drop_at hk] at h2 ⊢
  have h3 : s.getD k 0 ≠ 0 := fun e => by
    have := prod_drop_at hk
    rw [e, Nat.zero_mul] at this
    have e2 : prod s = prod (s.take k) * prod (s.drop k) := by rw [← prod_append, List.take_append_drop]
    rw [this] at e2
    omega
  have h4 := hg.2.2
  clear hg
  refine far_wrap h1 (z := s.getD k 0) (by rw [hx]; omega) (by omega)
theorem StepTo.next {s : List Nat} {k : Nat} {F : Int} {L : List Int} (h : StepTo s (k + 1) L) (hF : FarTo s (k + 1) F) (hk : k < 6) : StepTo s k (L.set k F) := by
  refine ⟨by rw [List.length_set]; exact h.1, fun hp j h1 h2 => ?_⟩
  by_cases e : k = j
  · subst e
    rw [List.getElem?_set_self (by rw [h.1]; exact hk), hF hp]
    rfl
  · rw [List.getElem?_set_ne e]
    exact h.2 hp j (by omega) h2

/-- The first cells of an array of six are these. -/
def SixAt (L : List Int) (b : List Nat) : Prop := L.length = 6 ∧ ∀ j, j < b.length → L[j]? = some ((b.getD j 0 : Nat) : Int)
theorem SixAt.zero {n : Nat} (h : n ≤ 6) : SixAt (List.replicate 6 0) (List.replicate n 0) := by
  refine ⟨by simp, fun j hj => ?_⟩
  rw [List.length_replicate] at hj
  rw [List.getElem?_replicate, if_pos (by omega), List.getD_eq_getElem?_getD, List.getElem?_replicate, if_pos hj]
  rfl
theorem SixAt.set {L : List Int} {b : List Nat} (h : SixAt L b) (hb : b.length ≤ 6) (k x : Nat) : SixAt (L.set k (x : Int)) (b.set k x) := by
  refine ⟨by rw [List.length_set]; exact h.1, fun j hj => ?_⟩
  rw [List.length_set] at hj
  by_cases e : k = j
  · subst e
    rw [List.getElem?_set_self (by rw [h.1]; omega), List.getD_eq_getElem?_getD, List.getElem?_set_self hj]
    rfl
  · rw [List.getElem?_set_ne e, List.getD_eq_getElem?_getD, List.getElem?_set_ne e, ← List.getD_eq_getElem?_getD]
    exact h.2 j hj

end Go.Proofs.YtojeggeimnenbaaDoor.P
namespace Go.Proofs.YtojeggeimnenbaaDoor
open Go Go.RowKit Go.Proofs.YtojeggeimnenbaaDoor.P

/-- What is wrong with an order of an array's axes. -/
def flipErr (p : List Int) (a : Arr) : Int := if arrErr a ≠ 0 then arrErr a else axesErr a.sh p
theorem flipErr_zero {p : List Int} {a : Arr} (h : flipErr p a = 0) : ∃ t u, Ok a t ∧ p = ints u ∧ Perm u ∧ u.length = t.length := by
  unfold flipErr at h
  by_cases h1 : arrErr a ≠ 0
  · rw [if_pos h1] at h; exact absurd h h1
  · rw [if_neg h1] at h
    obtain ⟨t, ht⟩ := ok_of_arrErr (by simpa using h1)
    obtain ⟨s, u, hs, _, hp, hu, hl⟩ := axesErr_zero h
    rw [ht.sh] at hs
    have := ints_inj hs
    subst this
    exact ⟨t, u, ht, hp, hu, hl⟩

end Go.Proofs.YtojeggeimnenbaaDoor
