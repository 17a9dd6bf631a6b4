/- A block that was made later: what stood before does not see it; a list of zeros, one of them written. Conditions: none but these. -/
import Derived.Test.YtamlangancaccaaStoreList
import Derived.Test.YtamlangancaccaaStore
import Derived.Test.YtamlangancaccaaMake
import Derived.Test.YtamlangancaccaaMore
import Derived.Test.YtamlangancaccaaList
import Derived.Test.YtamlangancaccaaHelp
set_option linter.unusedSimpArgs false
set_option linter.unusedVariables false
namespace Go.Proofs.Ytamlangancaccaa
open Go Go.RowKit Go.Proofs.Ytamlangancaccaa.P

/-- An array that stood before a block was made does not see what is written there. -/
theorem IsInts.away_old {w0 w : World} {v : Value} {xs : List Int} (h0 : IsInts w0 v xs) (h : IsInts w v xs) {g k : Nat} (hg : w0.heap.size ≤ g) (u : Value) : IsInts (w.setCell ⟨g, k, none⟩ u) v xs := by
  obtain ⟨A, c, rfl, h1, h2, h3, h4, h5⟩ := h
  obtain ⟨A', c', e', -, -, -, -, f5⟩ := h0
  injection e' with eA _ _
  subst eA
  refine ⟨A, c, rfl, h1, h2, h3, h4, fun j x hj => ?_⟩
  obtain ⟨ad, e, hl, hc⟩ := h5 j x hj
  obtain ⟨ad', e2, hl', -⟩ := f5 j x hj
  rw [e] at e2
  injection e2 with e2
  subst e2
  exact ⟨ad, e, by simpa using hl, cellS hc (by rw [addr_block_add]; show ad.block ≠ g; omega)⟩
theorem IsArr.away_old {w0 w : World} {v : Value} {a : Arr} (h0 : IsArr w0 v a) (h : IsArr w v a) {g k : Nat} (hg : w0.heap.size ≤ g) (u : Value) : IsArr (w.setCell ⟨g, k, none⟩ u) v a := by
  obtain ⟨s, d, rfl, h1, h2⟩ := h
  obtain ⟨s', d', e, f1, f2⟩ := h0
  injection e with e
  injection e with e
  injection e with _ e
  injection e with e1 e
  injection e with e2 _
  subst e1 e2
  exact ⟨_, _, rfl, f1.away_old h1 hg u, f2.away_old h2 hg u⟩

/-- A list of zeros that was made, one of them written. -/
theorem box_by {w : World} {g n k : Nat} {m : Int} (h : Box w g 3 ((madeCells #[.int .i64 0] n).setIfInBounds k (.int .i64 m))) (hn : n ≤ 1000000) : Mine w g n n ((List.replicate n 0).set k m) := by
  have e : madeCells #[Value.int .i64 0] n = ((List.replicate n (0 : Int)).map (Value.int .i64)).toArray := by
    have h1 : Box (w.alloc (.cells (madeCells #[.int .i64 0] n) 3)) w.heap.size 3 ((List.replicate n (0 : Int)).map (Value.int .i64)).toArray := Row.made w n
    have h2 := Box.new w 3 (madeCells #[.int .i64 0] n)
    unfold Box at h1 h2
    rw [h2] at h1
    injection h1 with h1
    injection h1
  have hb : Bears (madeCells #[Value.int .i64 0] n) (List.replicate n (0 : Int)) := by
    intro j x hj
    rw [e, List.getElem?_toArray, List.getElem?_map, hj]
    rfl
  exact ⟨_, h, hb.set k m, by simp, Nat.le_refl _, by omega, by omega⟩

end Go.Proofs.Ytamlangancaccaa
