/- What the card TopProduct leans on: Store. Conditions: none but those of its theorems. -/
import Derived.Test.YtihndbkaoejnnaaGreatDoorProductR
import Derived.Test.YtihndbkaoejnnaaGreatDoorProductB
import Derived.Test.YtihndbkaoejnnaaGreatDoorProductC
set_option linter.unusedSimpArgs false
set_option linter.unusedVariables false
namespace Go.Proofs.YtihndbkaoejnnaaGreatDoor
open Go Go.RowKit Go.Proofs.YtihndbkaoejnnaaGreatDoor.P

/-- The cells that an array's struct lies in. -/
def Filled (val ptr : Value) (w : World) : Prop :=
  ∀ g b A n c D m d, ptr = .pointer (some ⟨g, 0, none⟩) → val = .agg #[.bool b, .slice A n c, .slice D m d] → Box w g 25 #[.bool b, .slice A n c, .slice D m d]
theorem Filled.below {val ptr : Value} {w w' : World} {B : Nat} (h : Filled val ptr w) (hb : Below w.heap.size w w') : Filled val ptr w' := fun g b A n c D m d e1 e2 => (h g b A n c D m d e1 e2).below hb

/-- s: the store; x: the value; p: the new variable. V: what is known of what an operation yields. -/
def StoreInv (V : Nat → Value → World → Prop) (W : World) (s x p : Nat) (done : Nat → Bool) (u : Nat → Value) (wr : World) : Prop :=
  Below W.heap.size W wr ∧ (∀ j, done j = true → V j (u j) wr) ∧ (done s = true → done x = true ∧ done p = true ∧ Filled (u x) (u p) wr)

theorem StoreInv.store {V : Nat → Value → World → Prop} {W wr w' : World} {s x p : Nat} {done : Nat → Bool} {u : Nat → Value} {v : Value} (h : StoreInv V W s x p done u wr) (hn : done s = false)
    (hx : done x = true) (hp : done p = true) (hV : ∀ j v, V j v wr → V j v w') (hb : Below W.heap.size W w') (hv : V s v w') (hF : Filled (u x) (u p) w') : StoreInv V W s x p (did done s) (upd u s v) w' := by
  obtain ⟨h1, h2, h3⟩ := h
  have hxs : x ≠ s := fun e => by rw [e, hn] at hx; cases hx
  have hps : p ≠ s := fun e => by rw [e, hn] at hp; cases hp
  refine ⟨hb, fun j hj => ?_, fun _ => ?_⟩
  · by_cases hji : j = s
    · subst hji
      rw [upd_same]
      exact hv
    · rw [did_other _ hji] at hj
      rw [upd_other _ _ hji]
      exact hV _ _ (h2 j hj)
  · rw [did_other _ hxs, did_other _ hps, upd_other _ _ hxs, upd_other _ _ hps]
    exact ⟨hx, hp, hF⟩

/-- A new variable of that type, whatever lies in it. -/
def NewVar (W : World) (v : Value) (w : World) : Prop :=
  ∃ g b A n c D m d, v = .pointer (some ⟨g, 0, none⟩) ∧ W.heap.size ≤ g ∧ Box w g 25 #[.bool b, .slice A n c, .slice D m d]
theorem NewVar.below {W w w' : World} {v : Value} (h : NewVar W v w) (hb : Below w.heap.size w w') : NewVar W v w' := by
  obtain ⟨g, b, A, n, c, D, m, d, e, hg, hx⟩ := h
  exact ⟨g, b, A, n, c, D, m, d, e, hg, hx.below hb⟩

theorem IsArr.laid {w : World} {v : Value} {a : Arr} {g : Nat} {t : TypeId} {b : Bool} {A D : Option Addr} {n c m d : Nat} (h : IsArr w v a) (hb : Box w g t #[.bool b, .slice A n c, .slice D m d]) (u0 u1 u2 : Value) :
    IsArr (((w.setCell ⟨g, 0, none⟩ u0).setCell ⟨g, 1, none⟩ u1).setCell ⟨g, 2, none⟩ u2) v a := by
  obtain ⟨s, x, e, h1, h2⟩ := h
  exact ⟨s, x, e, h1.off (grownBy_three _ _ _ _ _) hb (noInts_arr _ _ _ _ _ _ _), h2.off (grownBy_three _ _ _ _ _) hb (noInts_arr _ _ _ _ _ _ _)⟩

theorem NewVar.laid {W w : World} {v : Value} {g : Nat} {b b' : Bool} {A D A' D' : Option Addr} {n c m d n' c' m' d' : Nat} (h : NewVar W v w) (hb : Box w g 25 #[.bool b, .slice A n c, .slice D m d]) :
    NewVar W v (((w.setCell ⟨g, 0, none⟩ (.bool b')).setCell ⟨g, 1, none⟩ (.slice A' n' c')).setCell ⟨g, 2, none⟩ (.slice D' m' d')) := by
  obtain ⟨g2, b2, A2, n2, c2, D2, m2, d2, e, hg, hx⟩ := h
  by_cases hgg : g2 = g
  · subst hgg
    refine ⟨g2, b', A', n', c', D', m', d', e, hg, ?_⟩
    simpa using ((hx.store 0 (.bool b')).store 1 (.slice A' n' c')).store 2 (.slice D' m' d')
  · exact ⟨g2, b2, A2, n2, c2, D2, m2, d2, e, hg, hx.grown (grownBy_three _ _ _ _ _) (fun e => hgg (by injection e with e; exact e.symm))⟩

end Go.Proofs.YtihndbkaoejnnaaGreatDoor
