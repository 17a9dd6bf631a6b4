/- What the laws over cut.Join ask beside its walk. Conditions: none. -/
import Derived.Test.YtojeggeimnenbaaDoorJoin
import Derived.Test.YtojeggeimnenbaaDoorJoined
import Derived.Test.YtojeggeimnenbaaDoorRev
import Derived.Test.YtojeggeimnenbaaDoorGround
set_option linter.unusedSimpArgs false
set_option linter.unusedVariables false
namespace Go.Proofs.YtojeggeimnenbaaDoor
open Go Go.RowKit Go.Proofs.YtojeggeimnenbaaDoor.P

theorem join_toldN {va vb : Value} {k : Nat} {a b : Arr} {w : World} (ha : IsArr w va a) (hb : IsArr w vb b) :
    Calls Tryd.prog 22 #[.int .i64 (k : Int), va, vb] w (Told (glue k a b) (joinErr k a b) w) := by
  have h := join_told (axis := (k : Int)) ha hb
  rwa [show ((k : Nat) : Int).toNat = k by omega] at h
theorem join_nil_bad (axis : Int) (c : Arr) : joinErr axis Arr.nil c ≠ 0 := by
  have h : arrErr Arr.nil ≠ 0 := by decide
  unfold joinErr
  rw [if_pos h]
  exact h

/-- What the law of the monoid uses. -/
theorem monoid_plain {a b c : Arr} {t : List Nat} {k l : Nat} (ha : Ok a t) (hk : k < t.length) (hb : Ok b (t.set k l)) (hcb : b.ch = a.ch) (hg : GoodSh (t.set k (t.getD k 0 + l))) (h2 : joinErr k (glue k a b) c = 0) :
    joinErr k b c = 0 ∧ joinErr k a (glue k b c) = 0 ∧ glue k (glue k a b) c = glue k a (glue k b c) ∧ takeErr ((ints t).set k 0) a = 0 ∧ take ((ints t).set k 0) a = P.part k 0 0 a ∧
      joinErr k a (P.part k 0 0 a) = 0 ∧ joinErr k (P.part k 0 0 a) a = 0 ∧ glue k a (P.part k 0 0 a) = a ∧ glue k (P.part k 0 0 a) a = a := by
  have hab := glue_ok ha hb hk hcb hg
  obtain ⟨t', k', m, ho, hkk, hk', hc, hcc, hg'⟩ := joinErr_zero h2
  obtain rfl : k = k' := by omega
  have e : t' = t.set k (t.getD k 0 + l) := by
    have h1 := ho.sh
    rw [hab.sh] at h1
    exact (ints_inj h1).symm
  subst e
  rw [List.set_set] at hc hg'
  rw [getD_set hk] at hg'
  have hcc' : c.ch = b.ch := hcc.trans hcb.symm
  have hg2 : GoodSh (t.set k (l + m)) := by
    have := good_less (t := t.set k (t.getD k 0 + l + m)) (k := k) (len := l + m) hg' (by rw [List.length_set]; exact hk) (by rw [getD_set hk]; omega)
    rwa [List.set_set] at this
  have hbc := glue_ok (t := t.set k l) (k := k) (l := m) hb (by rw [List.set_set]; exact hc) (by rw [List.length_set]; exact hk) hcc' (by rw [List.set_set, getD_set hk]; exact hg2)
  rw [List.set_set, getD_set hk] at hbc
  have hp := part_ok (lo := 0) (len := 0) ha hk (by omega)
  refine ⟨?_, ?_, glue_assoc ha hb hc hk hcb hg hg2 hcc', ?_, ?_, ?_, ?_, glue_none_right ha hk, glue_none_left ha hk⟩
  · exact joinErr_ok (t := t.set k l) (l := m) hb (by rw [List.length_set]; exact hk) (by rw [List.set_set]; exact hc) hcc' (by rw [List.set_set, getD_set hk]; exact hg2)
  · exact joinErr_ok ha hk hbc hcb (by rw [← Nat.add_assoc]; exact hg')
  · exact take_fine ha hk (by simp)
  · exact take_first (x := 0) ha hk (by omega)
  · exact joinErr_ok ha hk hp rfl (by rw [Nat.add_zero, set_getD]; exact ha.good)
  · exact joinErr_ok (t := t.set k 0) (l := t.getD k 0) hp (by rw [List.length_set]; exact hk) (by rw [List.set_set, set_getD]; exact ha) rfl (by rw [List.set_set, getD_set hk, Nat.zero_add, set_getD]; exact ha.good)

end Go.Proofs.YtojeggeimnenbaaDoor
