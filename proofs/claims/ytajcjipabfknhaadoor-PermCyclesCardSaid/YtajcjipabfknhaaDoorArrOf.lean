/- The lists of an array that came back; a list of the call's own written to while other arrays stand. Conditions: none. -/
import Derived.Test.YtajcjipabfknhaaDoorMem
import Derived.Test.YtajcjipabfknhaaDoorOwn
set_option linter.unusedSimpArgs false
set_option linter.unusedVariables false
namespace Go.Proofs.YtajcjipabfknhaaDoor
open Go Go.RowKit Go.Proofs.YtajcjipabfknhaaDoor.P

theorem IsArr.shapeOf {w : World} {b : Bool} {s d : Value} {a : Arr} (h : IsArr w (.agg #[.bool b, s, d]) a) : IsInts w s a.sh := by
  obtain ⟨s', d', e, h1, h2⟩ := h
  injection e with e
  injection e with e
  injection e with _ e
  injection e with e e2
  subst e
  exact h1
theorem IsArr.dataOf {w : World} {b : Bool} {s d : Value} {a : Arr} (h : IsArr w (.agg #[.bool b, s, d]) a) : IsInts w d a.da := by
  obtain ⟨s', d', e, h1, h2⟩ := h
  injection e with e
  injection e with e
  injection e with _ e
  injection e with _ e
  injection e with e _
  subst e
  exact h2

/-- An array whose lists lie in blocks from B on. -/
def NewV (B : Nat) (v : Value) : Prop := ∃ b A n c D m d, v = .agg #[.bool b, .slice A n c, .slice D m d] ∧ (∀ k, (Value.slice A n c).ownBlock = some k → B ≤ k) ∧ (∀ k, (Value.slice D m d).ownBlock = some k → B ≤ k)
theorem NewV.low {B B' : Nat} {v : Value} (h : NewV B v) (hB : B' ≤ B) : NewV B' v := by
  obtain ⟨b, A, n, c, D, m, d, e, h1, h2⟩ := h
  exact ⟨b, A, n, c, D, m, d, e, fun k hk => Nat.le_trans hB (h1 k hk), fun k hk => Nat.le_trans hB (h2 k hk)⟩
theorem IsInts.away {w : World} {v : Value} {xs : List Int} (h : IsInts w v xs) {g k : Nat} (hg : v.ownBlock ≠ some g) (u : Value) : IsInts (w.setCell ⟨g, k, none⟩ u) v xs :=
  h.grown (grownBy_setCell w g k u) fun A n c e e2 => hg (by rw [e, ← e2]; rfl)
theorem IsArr.away {w : World} {v : Value} {a : Arr} (h : IsArr w v a) {B : Nat} (hn : NewV B v) {g k : Nat} (hg : g < B) (u : Value) : IsArr (w.setCell ⟨g, k, none⟩ u) v a := by
  obtain ⟨s, d, e, h1, h2⟩ := h
  obtain ⟨b, A, n, c, D, m, d', e', n1, n2⟩ := hn
  rw [e] at e'
  injection e' with e'
  injection e' with e'
  injection e' with _ e'
  injection e' with e1 e'
  injection e' with e2 _
  subst e1 e2
  exact ⟨_, _, e, h1.away (fun x => by have := n1 _ x; omega) u, h2.away (fun x => by have := n2 _ x; omega) u⟩

def GivesN (a : Arr) (w : World) (e : Ending) (w' : World) : Prop := ∃ r, e = .returned r ∧ IsArr w' r a ∧ Below w.heap.size w w' ∧ NewV w.heap.size r
def GivesOkN (a : Arr) (w : World) (e : Ending) (w' : World) : Prop := ∃ r, e = .returned (.tuple #[r, .nilIface]) ∧ IsArr w' r a ∧ Below w.heap.size w w' ∧ NewV w.heap.size r
theorem GivesN.old {a : Arr} {w w' : World} {e : Ending} (h : GivesN a w e w') : Gives a w e w' := by
  obtain ⟨r, h1, h2, h3, _⟩ := h
  exact ⟨r, h1, h2, h3⟩
theorem GivesOkN.old {a : Arr} {w w' : World} {e : Ending} (h : GivesOkN a w e w') : GivesOk a w e w' := by
  obtain ⟨r, h1, h2, h3, _⟩ := h
  exact ⟨r, h1, h2, h3⟩

/-- A call tells an array in new blocks, or an error. -/
def ToldN (a : Arr) (k : Int) (w : World) (e : Ending) (w' : World) : Prop := (k = 0 ∧ GivesOkN a w e w') ∨ (k ≠ 0 ∧ Fails zeroArr k w e w')
theorem ToldN.ok {a : Arr} {k : Int} {w w' : World} {e : Ending} (h : ToldN a k w e w') (hk : k = 0) : GivesOkN a w e w' := by
  rcases h with h | h
  · exact h.2
  · exact absurd hk h.1

end Go.Proofs.YtajcjipabfknhaaDoor
