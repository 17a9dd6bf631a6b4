/- The walks of the functions that lay new lists: slices.Clone, Vector, vec, Joined. Conditions: none. -/
import Derived.Test.YtfaojciballhnaaDoorOwn
import Derived.Test.YtfaojciballhnaaDoorBase
import Derived.Deep.RegionHeld3
import Derived.Deep.RegionLaw
set_option linter.unusedSimpArgs false
set_option linter.unusedVariables false
namespace Go.Proofs.YtfaojciballhnaaDoor
open Go Go.RowKit Go.Proofs.YtfaojciballhnaaDoor.P

/-- A call tells a new list. -/
def Lists (xs : List Int) (w : World) (e : Ending) (w' : World) : Prop :=
  ∃ A c, e = .returned (.slice A xs.length c) ∧ Owns w' w.heap.size (.slice A xs.length c) xs.length xs ∧ Below w.heap.size w w'

theorem below_grown {w w1 w' : World} {v : Value} {n : Nat} {xs : List Int} (h : Below w.heap.size w w1) (ho : Owns w1 w.heap.size v n xs) (hg : w1.grownBy w' v.ownBlock) : Below w.heap.size w w' :=
  h.grown hg h.size fun _ hk => (ho.lt hk).1

set_option maxHeartbeats 400000 in
theorem clone_any (v : Value) (xs : List Int) (w : World) (ha : IsInts w v xs) : Calls Tryd.prog 21 #[v] w (Lists xs w) := by
  obtain ⟨A, c, rfl, a1, a2, a3, a0, a4⟩ := ha
  rcases A with _ | ad
  · have hc := a0 rfl
    subst hc
    have hx : xs = [] := List.eq_nil_of_length_eq_zero (by omega)
    subst hx
    clear a4 a0 a1 a2 a3
    have he := fun w => Lib.run_eql_slice_nil (P := Tryd.prog) w 22 3 none 0 0 0 0 Tryd.underlying22
    simp only [List.length_nil]
    go_enter Tryd.func21, Tryd.ntmps21
    go_wp2_with fail
    go_ret
    exact ⟨none, 0, rfl, Owns.nil _ _, Below.refl _ _⟩
  · have he := fun w => Lib.run_eql_slice_nil (P := Tryd.prog) w 22 3 (some ad) xs.length c 0 0 Tryd.underlying22
    have h4 := Lib.hid a4
    have h0 := Lib.hid a0
    have hown : Owns (w.alloc (.cells #[] 3)) w.heap.size (.slice (some ⟨w.heap.size, 0, none⟩) 0 0) 0 [] := ⟨World.ownsRow_made _ _ _ (Nat.le_refl _) (by unfold maxLen; omega) rfl, by omega⟩
    clear a4 a0
    go_enter Tryd.func21, Tryd.ntmps21
    go_wp2_with (at_builtin; refine wpList_append_ints _ rfl rfl _ _ rfl w.heap.size 0 _ [] rfl hown (some ad) xs.length c xs rfl h0.out (Elems.mono h4.out (below_one _ _)) rfl (by omega) (by simp) ?_; intro A' c' w' hown' hgrow hat)
    simp only [Nat.zero_add, List.nil_append] at hown'
    go_ret
    exact ⟨A', c', by simp, hown', below_grown (below_one _ _) hown hgrow⟩

theorem take_at {xs : List Int} {k : Nat} {x : Int} (h : xs[k]? = some x) : xs.take k ++ [x] = xs.take (k + 1) := by rw [List.take_add_one, h]; rfl

end Go.Proofs.YtfaojciballhnaaDoor
