/- A list that came in, with numbers that a word has. Conditions: none. -/
import Derived.Test.YtajcjipabfknhaaDoorRow
set_option linter.unusedSimpArgs false
set_option linter.unusedVariables false
namespace Go.Proofs.YtajcjipabfknhaaDoor
open Go Go.RowKit Go.ChangeShapes Go.WideShapes Go.ChangeAt Go.Proofs.YtajcjipabfknhaaDoor.P
variable {H : Type} {enc : TypeId × Value → H}

set_option maxRecDepth 100000 in
theorem list_in_wf {W : World} {ts : List TypeId} {ds : List (DataW H)} {j : Nat} {v : Value} {d : DataW H} {p : List MemPlace} (hv : Value.okWide Tryd.prog W .any 0 22 v)
    (h : DataW.Trod enc Tryd.prog W 0 (fun _ => true) true 22 v d p) (hsz : (DataW.weightsEach Tryd.prog ts ds).all (· ≤ reachBytes) = true) (ht : ts[j]? = some 22) (hd : ds[j]? = some d) :
    ∃ xs, IsInts W v xs ∧ ∀ x ∈ xs, (Lit.int .i64 x).wf = true := by
  obtain ⟨a, len, cap, rfl⟩ := okWide_slice Tryd.underlying22 hv
  obtain ⟨fuel, hf⟩ := h
  exact ints_in hf fun elems spare e => by
    have := List.all_eq_true.1 hsz ((elems.length + spare.length) * 8) (DataW.weights_mem_each ht hd _ (by
      rw [show d = .slice elems spare from e]
      simp [DataW.weights, Tryd.underlying22, bytes_int]))
    simpa using this

end Go.Proofs.YtajcjipabfknhaaDoor
