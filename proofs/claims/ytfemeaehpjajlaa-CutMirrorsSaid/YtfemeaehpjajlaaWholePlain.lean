/- What the laws of head and tail and of the mirrors use. Conditions: none. -/
import Derived.Test.YtfemeaehpjajlaaJoinLaw
import Derived.Test.YtfemeaehpjajlaaArrOf
import Derived.Test.YtfemeaehpjajlaaTake
import Derived.Test.YtfemeaehpjajlaaDrop
namespace Go.Proofs.Ytfemeaehpjajlaa
open Go Go.RowKit Go.Proofs.Ytfemeaehpjajlaa.P

theorem whole_plain {a : Arr} {t : List Nat} {k m : Nat} (h : Ok a t) (hk : k < t.length) (hm : m ≤ t.getD k 0) :
    takeErr ((ints t).set k (m : Int)) a = 0 ∧ dropErr ((List.replicate t.length 0).set k (m : Int)) a = 0 ∧
      joinErr k (take ((ints t).set k (m : Int)) a) (drop ((List.replicate t.length 0).set k (m : Int)) a) = 0 ∧ glue k (take ((ints t).set k (m : Int)) a) (drop ((List.replicate t.length 0).set k (m : Int)) a) = a ∧
      takeErr ((ints t).set k ((m : Int) - (t.getD k 0 : Nat))) a = 0 ∧ take ((ints t).set k ((m : Int) - (t.getD k 0 : Nat))) a = drop ((List.replicate t.length 0).set k (m : Int)) a ∧
      dropErr ((List.replicate t.length 0).set k ((m : Int) - (t.getD k 0 : Nat))) a = 0 ∧ drop ((List.replicate t.length 0).set k ((m : Int) - (t.getD k 0 : Nat))) a = take ((ints t).set k (m : Int)) a := by
  have hn : ((m : Int) - (t.getD k 0 : Nat)) = -((t.getD k 0 - m : Nat) : Int) := by omega
  have e1 := take_first h hk hm
  have e2 := drop_first h hk hm
  have e3 := take_last (x := t.getD k 0 - m) h hk (by omega)
  have e4 := drop_last (x := t.getD k 0 - m) h hk (by omega)
  rw [show t.getD k 0 - (t.getD k 0 - m) = m by omega] at e3 e4
  rw [hn, e1, e2, e3, e4]
  have p1 := part_ok (lo := 0) (len := m) h hk (by omega)
  have p2 := part_ok (lo := m) (len := t.getD k 0 - m) h hk (by omega)
  refine ⟨take_fine h hk (by omega), dropErr_ok h (by simp), ?_, glue_parts h hk hm, take_fine h hk (by omega), rfl, dropErr_ok h (by simp), rfl⟩
  exact joinErr_ok (t := t.set k m) (l := t.getD k 0 - m) p1 (by rw [List.length_set]; exact hk) (by rw [List.set_set]; exact p2) rfl (by rw [List.set_set, getD_set hk, show m + (t.getD k 0 - m) = t.getD k 0 by omega, set_getD]; exact h.good)

/-- A list of zeros that was made, one of them written. -/
theorem box_by {w : World} {g n k : Nat} {m : Int} (h : Box w g 3 ((madeCells #[.int .i64 0] n).setIfInBounds k (.int .i64 m))) (hn : n ≤ 1000000) : Mine w g n n ((List.replicate n 0).set k m) := by
  have e : madeCells #[Value.int .i64 0] n = ((List.replicate n (0 : Int)).map (Value.int .i64)).toArray := by
    have h1 : Box (w.alloc (.cells (madeCells #[.int .i64 0] n) 3)) w.heap.size 3 ((List.replicate n (0 : Int)).map (Value.int .i64)).toArray := Row.made w n
    have h2 := Box.new w 3 (madeCells #[.int .i64 0] n)
    unfold Box at h1 h2
    rw [h2] at h1
    injection h1 with h1
    injection h1
  have hb : Bears (madeCells #[Value.int .i64 0] n) (List.replicate n (0 : Int)) := by
    intro j x hj
    rw [e, List.getElem?_toArray, List.getElem?_map, hj]
    rfl
  exact ⟨_, h, hb.set k m, by simp, Nat.le_refl _, by omega, by omega⟩

end Go.Proofs.Ytfemeaehpjajlaa
