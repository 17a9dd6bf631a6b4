/- What the law of the masks uses. Conditions: none. -/
import Derived.Test.YtfemeaehpjajlaaKeepWalk
import Derived.Test.YtfemeaehpjajlaaEachOne
import Derived.Test.YtfemeaehpjajlaaInWalk
import Derived.Test.YtfemeaehpjajlaaSeekTold
import Derived.Test.YtfemeaehpjajlaaArrOf
namespace Go.Proofs.Ytfemeaehpjajlaa
open Go Go.RowKit Go.Proofs.Ytfemeaehpjajlaa.P

theorem keep_told0 {vm v : Value} {m : List Int} {a : Arr} {w : World} (hm : IsInts w vm m) (ha : IsArr w v a) : Calls Try.prog 45 #[vm, .int .i64 0, v] w (Told (keep m 0 a) (keepErr m 0 a) w) :=
  keep_told (axis := 0) hm ha
theorem wf_pair {x y : Int} (h1 : (Lit.int .i64 x).wf = true) (h2 : (Lit.int .i64 y).wf = true) : Wf [x, y] := by
  intro z hz
  simp only [List.mem_cons, List.not_mem_nil, or_false] at hz
  rcases hz with rfl | rfl
  · exact h1
  · exact h2
theorem isin_good {a b : Arr} {t : List Nat} (h : Ok a t) : Ok (isin a b) t := ⟨h.sh, h.good, by simp [isin, h.len], fun e => by cases e⟩
theorem isin_mask (a b : Arr) : Mask (isin a b).da := by
  intro x hx
  simp only [isin, List.mem_map] at hx
  obtain ⟨y, _, rfl⟩ := hx
  split
  · exact .inr rfl
  · exact .inl rfl
theorem isin_others (a b : Arr) : others (isin a b).da = a.da.map fun x => if !hasB b a.ch x then 1 else 0 := by
  unfold others isin
  rw [List.map_map]
  apply List.map_congr_left
  intro x _
  show 1 - (if hasB b a.ch x = true then (1 : Int) else 0) = _
  cases hasB b a.ch x <;> rfl
theorem keepErr_line {m : List Int} {a : Arr} {n : Nat} (h : Ok a [n]) (hm : m.length = n) (hM : Mask m) : keepErr m 0 a = 0 := by
  unfold keepErr
  have hs : a.sh = [(n : Int)] := by rw [h.sh]; rfl
  rw [if_neg (by rw [arrErr_ok h]; simp), hs, if_neg (by simp), if_neg (by rw [hm]; simp), if_neg (by simpa using hM)]

theorem masks_plain {a b : Arr} (h : pairErr a b = 0) : twoErr a b = 0 ∧ keepErr (isin a b).da 0 a = 0 ∧ keepErr (others (isin a b).da) 0 a = 0 ∧ meet a b = keep (isin a b).da 0 a ∧ without a b = keep (others (isin a b).da) 0 a ∧ Ok (isin a b) [a.da.length] := by
  obtain ⟨s, t, hs, ht, l1, -⟩ := pairErr_zero h
  obtain ⟨-, e, -⟩ := line_of hs l1
  subst e
  refine ⟨twoErr_ok hs ht, keepErr_line hs (by simp [isin]) (isin_mask a b), keepErr_line hs (by rw [others_length]; simp [isin]) (others_mask (isin_mask a b)), ?_, ?_, isin_good hs⟩
  · exact (keep_filter (p := fun x => hasB b a.ch x) hs).symm
  · rw [isin_others]
    exact (keep_filter (p := fun x => !hasB b a.ch x) hs).symm

end Go.Proofs.Ytfemeaehpjajlaa
