/- The walk of the reference's Taken. Conditions: none. -/
import Derived.Test.YtlkeipgpckkhbaaDoorRefPart
import Derived.Test.YtlkeipgpckkhbaaDoorTake
namespace Go.Proofs.YtlkeipgpckkhbaaDoor
open Go Go.RowKit Go.Proofs.YtlkeipgpckkhbaaDoor.P
theorem apart_ne {v v' : Value} (h : ApartV v v') : v.ownBlock = none ∨ v.ownBlock ≠ v'.ownBlock := by
  cases e : v.ownBlock with
  | none => exact .inl rfl
  | some m => exact .inr fun h2 => h m e h2.symm
theorem apart_next {w : World} {B b k : Nat} {v1 v2 v3 : Value} {xs : List Int} (hap : ApartV v1 v2) (h2 : Owns w B v2 k xs) (hb : w.heap.size ≤ b) (hat : v3.ownBlock = v1.ownBlock ∨ v3.ownBlock = some b) : ApartV v3 v2 := by
  intro m e1 e2
  rcases hat with h | h
  · rw [h] at e1; exact hap m e1 e2
  · rw [h] at e1
    injection e1 with e1
    have := (h2.lt e2).2
    omega
theorem apart_next' {w : World} {B b k : Nat} {v1 v2 v3 : Value} {xs : List Int} (hap : ApartV v1 v2) (h1 : Owns w B v1 k xs) (hb : w.heap.size ≤ b) (hat : v3.ownBlock = v2.ownBlock ∨ v3.ownBlock = some b) : ApartV v1 v3 :=
  (apart_next hap.symm h1 hb hat).symm

end Go.Proofs.YtlkeipgpckkhbaaDoor
