/- Stores into a list of the call's own. Conditions: none. -/
import Derived.Test.YtajcjipabfknhaaDoorOwn
import Derived.Test.YtajcjipabfknhaaDoorList
set_option linter.unusedSimpArgs false
set_option linter.unusedVariables false
namespace Go.Proofs.YtajcjipabfknhaaDoor
open Go Go.RowKit Go.Proofs.YtajcjipabfknhaaDoor.P

/-- These cells bear these numbers. -/
def Bears (cs : Array Value) (xs : List Int) : Prop := ∀ (k : Nat) (x : Int), xs[k]? = some x → cs[k]? = some (.int .i64 x)
theorem Bears.set {cs : Array Value} {xs : List Int} (h : Bears cs xs) (i : Nat) (x : Int) : Bears (cs.setIfInBounds i (.int .i64 x)) (xs.set i x) := fun k y hk => by
  rw [List.getElem?_set] at hk
  rw [Array.getElem?_setIfInBounds]
  by_cases e : i = k
  · subst e
    rw [if_pos rfl] at hk ⊢
    by_cases hl : i < xs.length
    · rw [if_pos hl] at hk
      injection hk with hk
      have := h i _ (List.getElem?_eq_getElem hl)
      rw [if_pos (Array.getElem?_eq_some_iff.1 this).1, hk]
    · rw [if_neg hl] at hk; cases hk
  · rw [if_neg e] at hk ⊢
    exact h k y hk

theorem addr_zero_add (g k : Nat) : (⟨g, 0, none⟩ : Addr).add k = ⟨g, k, none⟩ := by
  unfold Addr.add
  by_cases h : k = 0 <;> simp [h]
/-- A list of n numbers in a block of its own. -/
def Mine (w : World) (g n c : Nat) (xs : List Int) : Prop := ∃ cs, Box w g 3 cs ∧ Bears cs xs ∧ xs.length = n ∧ n ≤ c ∧ c ≤ 9223372036854775807 ∧ n ≤ 17592186044416
theorem Owns.mine {w : World} {B : Nat} {A : Option Addr} {n c : Nat} {xs : List Int} (h : Owns w B (.slice A n c) n xs) (hn : 0 < n) : ∃ g, A = some ⟨g, 0, none⟩ ∧ B ≤ g ∧ Mine w g n c xs := by
  have hl := h.length
  have h2 := h.2
  rcases h.1.2 with ⟨e, h0⟩ | ⟨g, cap, cur, e, hb, hg, hn', hm, -⟩
  · omega
  · injection e with e1 e2 e3
    subst e1 e3
    refine ⟨g, rfl, hb, cur, hg, fun k x hk => ?_, hl, hn', by unfold maxLen at hm; omega, h2⟩
    have hc := h.1.cells (g := g) rfl k (.int .i64 x) (by simp [nums, hk])
    rw [addr_zero_add, Box.cell (show Box w g 3 cur from hg)] at hc
    exact hc
theorem Mine.isInts {w : World} {g n c : Nat} {xs : List Int} (h : Mine w g n c xs) : IsInts w (.slice (some ⟨g, 0, none⟩) n c) xs := by
  obtain ⟨cs, hb, hc, rfl, h1, h2, h3⟩ := h
  refine ⟨some ⟨g, 0, none⟩, c, rfl, h1, h2, h3, (fun e => by cases e), fun k x hk => ⟨⟨g, 0, none⟩, rfl, Box.lt hb, ?_⟩⟩
  rw [addr_zero_add, Box.cell hb]
  exact hc k x hk
theorem Mine.store {w : World} {g n c : Nat} {xs : List Int} (h : Mine w g n c xs) (i : Nat) (x : Int) : Mine (w.setCell ⟨g, i, none⟩ (.int .i64 x)) g n c (xs.set i x) := by
  obtain ⟨cs, hb, hc, hl, h1, h2, h3⟩ := h
  exact ⟨_, Box.store hb i _, hc.set i x, by simp [hl], h1, h2, h3⟩
theorem Mine.cell {w : World} {g n c : Nat} {xs : List Int} (h : Mine w g n c xs) {k : Nat} {x : Int} (hk : xs[k]? = some x) : w.cell? ⟨g, k, none⟩ = some (.int .i64 x) := by
  obtain ⟨cs, hb, hc, -⟩ := h
  rw [Box.cell hb]
  exact hc k x hk
theorem Mine.frozen {w : World} {g n c : Nat} {xs : List Int} (h : Mine w g n c xs) (k : Nat) : w.frozen? ⟨g, k, none⟩ = false := by
  obtain ⟨cs, hb, -⟩ := h
  exact Box.frozen hb k
theorem Mine.lt {w : World} {g n c : Nat} {xs : List Int} (h : Mine w g n c xs) : g < w.heap.size := by
  obtain ⟨cs, hb, -⟩ := h
  exact Box.lt hb
theorem Mine.mono {w w' : World} {g n c : Nat} {xs : List Int} (h : Mine w g n c xs) (hb : Below w.heap.size w w') : Mine w' g n c xs := by
  obtain ⟨cs, h0, h1⟩ := h
  exact ⟨cs, Box.below h0 hb, h1⟩
theorem Mine.drewN {w : World} {g n c : Nat} {xs : List Int} (h : Mine w g n c xs) (k : Nat) : Mine (w.drewN k) g n c xs := h

end Go.Proofs.YtajcjipabfknhaaDoor
