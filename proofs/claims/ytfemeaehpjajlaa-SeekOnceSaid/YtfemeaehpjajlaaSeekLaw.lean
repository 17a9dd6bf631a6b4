/- What the laws of package seek ask beside its walks: words, lengths. Conditions: none. -/
import Derived.Test.YtfemeaehpjajlaaInWalk
import Derived.Test.YtfemeaehpjajlaaIndexWalk
import Derived.Test.YtfemeaehpjajlaaUnionWalk
namespace Go.Proofs.Ytfemeaehpjajlaa
open Go Go.RowKit Go.Proofs.Ytfemeaehpjajlaa.P

theorem wf_without {a : Arr} (h : Wf a.da) (b : Arr) : Wf (without a b).da := fun x hx => h x (List.mem_filter.1 hx).1
theorem wf_meet {a : Arr} (h : Wf a.da) (b : Arr) : Wf (meet a b).da := fun x hx => h x (List.mem_filter.1 hx).1
theorem wf_union {a b : Arr} (ha : Wf a.da) (hb : Wf b.da) : Wf (union a b).da := fun x hx => (List.mem_append.1 hx).elim (ha x) fun h => hb x (List.mem_filter.1 h).1
theorem wf_nub {a : Arr} (h : Wf a.da) : Wf (nub a).da := fun x hx => h x (mem_nubD.1 hx)
theorem wf_two {x y : Int} (h1 : (Lit.int .i64 x).wf = true) (h2 : (Lit.int .i64 y).wf = true) : Wf [x, y] := by
  intro z hz
  simp only [List.mem_cons, List.not_mem_nil, or_false] at hz
  rcases hz with rfl | rfl
  · exact h1
  · exact h2
theorem wf_three {x y u : Int} (h1 : (Lit.int .i64 x).wf = true) (h2 : (Lit.int .i64 y).wf = true) (h3 : (Lit.int .i64 u).wf = true) : Wf [x, y, u] := by
  intro z hz
  simp only [List.mem_cons, List.not_mem_nil, or_false] at hz
  rcases hz with rfl | rfl | rfl
  · exact h1
  · exact h2
  · exact h3
theorem one_axis_without (a b : Arr) : (without a b).sh.length = 1 := rfl
theorem one_axis_meet (a b : Arr) : (meet a b).sh.length = 1 := rfl
theorem one_axis_union (a b : Arr) : (union a b).sh.length = 1 := rfl
theorem one_axis_nub (a : Arr) : (nub a).sh.length = 1 := rfl

/-- The lists of an array that came back. -/
theorem IsArr.sh_ {w : World} {b : Bool} {s d : Value} {a : Arr} (h : IsArr w (.agg #[.bool b, s, d]) a) : IsInts w s a.sh := by
  obtain ⟨s', d', e, h1, h2⟩ := h
  injection e with e
  injection e with e
  injection e with _ e
  injection e with e e2
  subst e
  exact h1
theorem IsArr.da_ {w : World} {b : Bool} {s d : Value} {a : Arr} (h : IsArr w (.agg #[.bool b, s, d]) a) : IsInts w d a.da := by
  obtain ⟨s', d', e, h1, h2⟩ := h
  injection e with e
  injection e with e
  injection e with _ e
  injection e with _ e
  injection e with e _
  subst e
  exact h2

/-- What the law of the sets uses. -/
theorem sets_plain {a b c : Arr} (hU : unionErr b c = 0) (hP : pairErr a b = 0) : pairErr (without a b) c = 0 ∧ pairErr a (union b c) = 0 ∧ pairErr (meet a b) c = 0 ∧ pairErr b c = 0 ∧ pairErr a (meet b c) = 0 ∧
    without (without a b) c = without a (union b c) ∧ meet (meet a b) c = meet a (meet b c) ∧ (without a b).da.length + (meet a b).da.length = a.da.length ∧ a.da.length ≤ 4096 := by
  obtain ⟨h1, h2, h3⟩ := unionErr_zero hU
  obtain ⟨s, t, hs, ht, ls, lt⟩ := pairErr_zero hP
  obtain ⟨t', u, ht', hu, -, lu⟩ := pairErr_zero h1
  exact ⟨pairErr_ok (without_ok hs b) hu rfl lu, pairErr_ok hs (union_ok ht' hu h2 h3) ls rfl, pairErr_ok (meet_ok hs b) hu rfl lu, h1, pairErr_ok hs (meet_ok ht' c) ls rfl, without_union h2, meet_meet a b c, lengths_sum a b, ok_da_le hs⟩

end Go.Proofs.Ytfemeaehpjajlaa
