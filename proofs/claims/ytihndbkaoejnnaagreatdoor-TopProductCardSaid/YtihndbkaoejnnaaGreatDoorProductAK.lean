/- What the card TopProduct leans on: RangeKit. Conditions: none but those of its theorems. -/
import Derived.OwnWalkIn
import Derived.TacticsInMore
import Derived.LoopNIn
import Derived.LoopIn
import Derived.WalkKit
import Derived.Maps.AppendAt
import Derived.RangeFuncBox
import Derived.Test.YtihndbkaoejnnaaGreatDoorProductAJ
import Derived.Test.YtihndbkaoejnnaaGreatDoorProductC
set_option linter.unusedSimpArgs false
set_option linter.unusedVariables false
namespace Go.Proofs.YtihndbkaoejnnaaGreatDoor
open Go Go.RowKit Go.Shelf Go.Proofs.YtihndbkaoejnnaaGreatDoor.P

theorem Box.turns {W W' : World} {g : Nat} {t : TypeId} {cs : Array Value} {M : Nat → Obj → Prop} (h : Box W g t cs) (ht : Turns M W W') (hm : ¬ M g (.cells cs t (0, 0))) : Box W' g t cs := ht.same _ _ h hm
theorem Turns.alloc {M : Nat → Obj → Prop} (W : World) (o : Obj) : Turns M W (W.alloc o) :=
  Turns.of_below (n := W.heap.size) (below_one W o) fun k u hk hu => absurd (Array.getElem?_eq_some_iff.1 hu).1 (by omega)
theorem Turns.drewN {M : Nat → Obj → Prop} (W : World) (k : Nat) : Turns M W (W.drewN k) := ⟨rfl, rfl, rfl, Nat.le_refl _, fun _ _ h _ => h⟩
theorem Turns.setCell {M : Nat → Obj → Prop} {W : World} {g i : Nat} {t : TypeId} {cs : Array Value} (h : Box W g t cs) (hm : M g (.cells cs t (0, 0))) (u : Value) : Turns M W (W.setCell ⟨g, i, none⟩ u) := by
  refine ⟨rfl, rfl, rfl, (KeepsWalks.setCell W _ u).size, fun k o hk hn => ?_⟩
  by_cases e : k = g
  · subst e
    have : o = .cells cs t (0, 0) := by
      have h' : W.heap[k]? = some (.cells cs t (0, 0)) := h
      rw [hk] at h'
      injection h'
    exact absurd (this ▸ hm) hn
  · rw [Below.heap_setCell _ _ _ k e]; exact hk
theorem Turns.grown {M : Nat → Obj → Prop} {W W' : World} {row : Option Nat} (hg : W.grownBy W' row) (hm : ∀ r o, row = some r → W.heap[r]? = some o → M r o) : Turns M W W' :=
  ⟨hg.os, hg.tape, hg.output, hg.size, fun k o hk hn => by
    rw [hg.block k (Array.getElem?_eq_some_iff.1 hk).1 fun e => hn (hm k o e.symm hk)]; exact hk⟩

end Go.Proofs.YtihndbkaoejnnaaGreatDoor
