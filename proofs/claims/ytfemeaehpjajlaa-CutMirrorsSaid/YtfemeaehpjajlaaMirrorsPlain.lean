/- What the law of the mirrors uses. Conditions: none. -/
import Derived.Test.YtfemeaehpjajlaaWholePlain
import Derived.Test.YtfemeaehpjajlaaCutLaw
import Derived.Test.YtfemeaehpjajlaaHelp
namespace Go.Proofs.Ytfemeaehpjajlaa
open Go Go.RowKit Go.Proofs.Ytfemeaehpjajlaa.P

/-- An array that stood before a block was made does not see what is written there. -/
theorem IsInts.away_old {w0 w : World} {v : Value} {xs : List Int} (h0 : IsInts w0 v xs) (h : IsInts w v xs) {g k : Nat} (hg : w0.heap.size ≤ g) (u : Value) : IsInts (w.setCell ⟨g, k, none⟩ u) v xs := by
  obtain ⟨A, c, rfl, h1, h2, h3, h4, h5⟩ := h
  obtain ⟨A', c', e', -, -, -, -, f5⟩ := h0
  injection e' with eA _ _
  subst eA
  refine ⟨A, c, rfl, h1, h2, h3, h4, fun j x hj => ?_⟩
  obtain ⟨ad, e, hl, hc⟩ := h5 j x hj
  obtain ⟨ad', e2, hl', -⟩ := f5 j x hj
  rw [e] at e2
  injection e2 with e2
  subst e2
  exact ⟨ad, e, by simpa using hl, cellS hc (by rw [addr_block_add]; show ad.block ≠ g; omega)⟩
theorem IsArr.away_old {w0 w : World} {v : Value} {a : Arr} (h0 : IsArr w0 v a) (h : IsArr w v a) {g k : Nat} (hg : w0.heap.size ≤ g) (u : Value) : IsArr (w.setCell ⟨g, k, none⟩ u) v a := by
  obtain ⟨s, d, rfl, h1, h2⟩ := h
  obtain ⟨s', d', e, f1, f2⟩ := h0
  injection e with e
  injection e with e
  injection e with _ e
  injection e with e1 e
  injection e with e2 _
  subst e1 e2
  exact ⟨_, _, rfl, f1.away_old h1 hg u, f2.away_old h2 hg u⟩

theorem mirrors_plain {a b : Arr} {t : List Nat} {k l : Nat} (ha : Ok a t) (hk : k < t.length) (hb : Ok b (t.set k l)) (hcb : b.ch = a.ch) (hg : GoodSh (t.set k (t.getD k 0 + l))) :
    joinErr k (rev k b) (rev k a) = 0 ∧ rev k (glue k a b) = glue k (rev k b) (rev k a) ∧
      ∀ m : Nat, m ≤ t.getD k 0 → takeErr ((ints t).set k (m : Int)) a = 0 ∧ Ok (take ((ints t).set k (m : Int)) a) (t.set k m) ∧ takeErr ((ints t).set k (-(m : Int))) (rev k a) = 0 ∧
        rev k (take ((ints t).set k (m : Int)) a) = take ((ints t).set k (-(m : Int))) (rev k a) := by
  have hra := rev_ok ha (k := k)
  have hrb := rev_ok hb (k := k)
  refine ⟨?_, rev_glue ha hb hk hcb hg, fun m hm => ?_⟩
  · exact joinErr_ok (t := t.set k l) (l := t.getD k 0) hrb (by rw [List.length_set]; exact hk) (by rw [List.set_set, set_getD]; exact hra) hcb.symm (by rw [List.set_set, getD_set hk, Nat.add_comm]; exact hg)
  · have e1 := take_first ha hk hm
    have e2 := take_last (x := m) hra hk hm
    refine ⟨take_fine ha hk (by omega), by rw [e1]; exact part_ok ha hk (by omega), take_fine hra hk (by omega), ?_⟩
    rw [e1, e2]
    exact rev_part ha hk hm

end Go.Proofs.Ytfemeaehpjajlaa
