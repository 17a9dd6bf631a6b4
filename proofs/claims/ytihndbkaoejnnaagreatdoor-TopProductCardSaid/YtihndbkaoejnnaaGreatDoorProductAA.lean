/- What the card TopProduct leans on: Help. Conditions: none but those of its theorems. -/
import Derived.StillTailTactics
import Derived.Deep.RegionWith
import Derived.Test.YtihndbkaoejnnaaGreatDoorProductZ
import Derived.Test.YtihndbkaoejnnaaGreatDoorProductE
set_option linter.unusedSimpArgs false
set_option linter.unusedVariables false
namespace Go.Proofs.YtihndbkaoejnnaaGreatDoor
open Go Go.RowKit Go.Proofs.YtihndbkaoejnnaaGreatDoor.P

theorem IsInts.elems {w : World} {A : Option Addr} {n c : Nat} {xs : List Int} (h : IsInts w (.slice A n c) xs) : Elems w A xs := by
  obtain ⟨A', c', e, h1, h2, h3, h4, h5⟩ := h
  injection e with e1 e2 e3
  subst e1
  exact h5

theorem IsArr.stored {w : World} {v : Value} {a : Arr} {b : Nat} {t : TypeId} (h : IsArr w v a) (hb : Box w b t #[.bool false, .slice none 0 0, .slice none 0 0]) (u0 u1 u2 : Value) :
    IsArr (((w.setCell ⟨b, 0, none⟩ u0).setCell ⟨b, 1, none⟩ u1).setCell ⟨b, 2, none⟩ u2) v a := by
  obtain ⟨s, d, e, h1, h2⟩ := h
  exact ⟨s, d, e, h1.off (grownBy_three _ _ _ _ _) hb noInts_zero, h2.off (grownBy_three _ _ _ _ _) hb noInts_zero⟩

end Go.Proofs.YtihndbkaoejnnaaGreatDoor
