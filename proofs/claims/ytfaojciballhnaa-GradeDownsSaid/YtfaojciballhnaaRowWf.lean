/- An array that came in, with cells that a word has. Conditions: none. -/
import Derived.Test.YtfaojciballhnaaRow
import Derived.Test.YtfaojciballhnaaFirsts
set_option linter.unusedSimpArgs false
set_option linter.unusedVariables false
namespace Go.Proofs.Ytfaojciballhnaa
open Go Go.RowKit Go.ChangeShapes Go.WideShapes Go.ChangeAt Go.Proofs.Ytfaojciballhnaa.P
variable {H : Type} {enc : TypeId × Value → H}

set_option maxRecDepth 100000 in
theorem arr_in_wf {W : World} {ts : List TypeId} {ds : List (DataW H)} {j : Nat} {v : Value} {d : DataW H} {p : List MemPlace} (hv : Value.okWide Try.prog W .any 0 24 v)
    (h : DataW.Trod enc Try.prog W 0 (fun _ => true) true 24 v d p) (hsz : (DataW.weightsEach Try.prog ts ds).all (· ≤ reachBytes) = true) (ht : ts[j]? = some 24) (hd : ds[j]? = some d) :
    ∃ a, IsArr W v a ∧ Wf a.da := by
  obtain ⟨v0, v1, v2, y0, y1, y2, n, rfl, rfl, rfl, h0, h1, h2⟩ := Joins.open_agg3 Try.underlying24 (by kernel_rfl) cells_arr hv h
  obtain ⟨b, hb, _⟩ := DataW.trod_bool Try.underlying4 h0
  injection hb with hb _
  subst hb
  have hw : ∀ w ∈ y1.1.weights Try.prog 22 ++ y2.1.weights Try.prog 22, w ≤ reachBytes := by
    intro w hw
    have := List.all_eq_true.1 hsz w (DataW.weights_mem_each ht hd w (by
      simp only [DataW.weights, Try.underlying24, DataW.weightsEach, List.map_cons, List.map_nil, List.append_nil]
      exact List.mem_append_right _ hw))
    simpa using this
  have hw1 : ∀ (y : DataW H × List MemPlace), (∀ w ∈ y.1.weights Try.prog 22, w ≤ reachBytes) → ∀ elems spare, y.1 = .slice elems spare → (elems.length + spare.length) * 8 ≤ reachBytes := by
    intro y hy elems spare e
    rw [e] at hy
    refine hy _ ?_
    simp [DataW.weights, Try.underlying22, bytes_int]
  obtain ⟨xs, hx, _⟩ := ints_in h1 (hw1 y1 fun w hh => hw w (List.mem_append_left _ hh))
  obtain ⟨zs, hz, hzw⟩ := ints_in h2 (hw1 y2 fun w hh => hw w (List.mem_append_right _ hh))
  exact ⟨⟨b, xs, zs⟩, ⟨_, _, rfl, hx, hz⟩, hzw⟩

end Go.Proofs.Ytfaojciballhnaa
