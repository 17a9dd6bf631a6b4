/- turn.Reverse and turn.Rotate: what they tell, right or wrong. Conditions: none. -/
import Derived.Test.YtfecokkgdojcdaaDoorRev
import Derived.Test.YtfecokkgdojcdaaDoorPair
namespace Go.Proofs.YtfecokkgdojcdaaDoor
open Go Go.RowKit Go.Proofs.YtfecokkgdojcdaaDoor.P

theorem reverse_told {v : Value} {a : Arr} {w : World} {axis : Int} (ha : IsArr w v a) : Calls Tryd.prog 22 #[.int .i64 axis, v] w (Told (rev axis.toNat a) (axErr axis a) w) := by
  by_cases h : axErr axis a = 0
  · obtain ⟨t, k, ht, e, hk⟩ := axErr_zero h
    rw [h]
    subst e
    exact (reverse_ok ha ht hk).mono fun _ _ p => .inl ⟨rfl, p⟩
  · exact (reverse_bad ha h).mono fun _ _ p => .inr ⟨h, p⟩
theorem rotate_told {v : Value} {a : Arr} {w : World} {n axis : Int} (ha : IsArr w v a) : Calls Tryd.prog 26 #[.int .i64 n, .int .i64 axis, v] w (Told (rot n axis.toNat a) (axErr axis a) w) := by
  by_cases h : axErr axis a = 0
  · obtain ⟨t, k, ht, e, hk⟩ := axErr_zero h
    rw [h]
    subst e
    exact (rotate_ok ha ht hk).mono fun _ _ p => .inl ⟨rfl, p⟩
  · exact (rotate_bad ha h).mono fun _ _ p => .inr ⟨h, p⟩

end Go.Proofs.YtfecokkgdojcdaaDoor
