/- What the card TopTurned leans on: RowWf. Conditions: none but those of its theorems. -/
import Derived.Test.YtihndbkaoejnnaaGreatDoorTurnedF
import Derived.Test.YtihndbkaoejnnaaGreatDoorTurnedH
set_option linter.unusedSimpArgs false
set_option linter.unusedVariables false
namespace Go.Proofs.YtihndbkaoejnnaaGreatDoor
open Go Go.RowKit Go.ChangeShapes Go.WideShapes Go.ChangeAt Go.Proofs.YtihndbkaoejnnaaGreatDoor.P
variable {H : Type} {enc : TypeId × Value → H}

set_option maxRecDepth 100000 in
theorem arr_in_wf {W : World} {ts : List TypeId} {ds : List (DataW H)} {j : Nat} {v : Value} {d : DataW H} {p : List MemPlace} (hv : Value.okWide Tryz.prog W .any 0 25 v)
    (h : DataW.Trod enc Tryz.prog W 0 (fun _ => true) true 25 v d p) (hsz : (DataW.weightsEach Tryz.prog ts ds).all (· ≤ reachBytes) = true) (ht : ts[j]? = some 25) (hd : ds[j]? = some d) :
    ∃ a, IsArr W v a ∧ Wf a.da := by
  obtain ⟨v0, v1, v2, y0, y1, y2, n, rfl, rfl, rfl, h0, h1, h2⟩ := Joins.open_agg3 Tryz.underlying25 (by kernel_rfl) cells_arr hv h
  obtain ⟨b, hb, _⟩ := DataW.trod_bool Tryz.underlying4 h0
  injection hb with hb _
  subst hb
  have hw : ∀ w ∈ y1.1.weights Tryz.prog 23 ++ y2.1.weights Tryz.prog 23, w ≤ reachBytes := by
    intro w hw
    have := List.all_eq_true.1 hsz w (DataW.weights_mem_each ht hd w (by
      simp only [DataW.weights, Tryz.underlying25, DataW.weightsEach, List.map_cons, List.map_nil, List.append_nil]
      exact List.mem_append_right _ hw))
    simpa using this
  have hw1 : ∀ (y : DataW H × List MemPlace), (∀ w ∈ y.1.weights Tryz.prog 23, w ≤ reachBytes) → ∀ elems spare, y.1 = .slice elems spare → (elems.length + spare.length) * 8 ≤ reachBytes := by
    intro y hy elems spare e
    rw [e] at hy
    refine hy _ ?_
    simp [DataW.weights, Tryz.underlying23, bytes_int]
  obtain ⟨xs, hx, _⟩ := ints_in h1 (hw1 y1 fun w hh => hw w (List.mem_append_left _ hh))
  obtain ⟨zs, hz, hzw⟩ := ints_in h2 (hw1 y2 fun w hh => hw w (List.mem_append_right _ hh))
  exact ⟨⟨b, xs, zs⟩, ⟨_, _, rfl, hx, hz⟩, hzw⟩

end Go.Proofs.YtihndbkaoejnnaaGreatDoor
