/- What the card TopProduct leans on: Firsts. Conditions: none but those of its theorems. -/
import Derived.Maps.OwnOps
import Derived.Maps.OwnSet
import Derived.Test.YtihndbkaoejnnaaGreatDoorProductE
import Derived.Test.YtihndbkaoejnnaaGreatDoorProductG
import Derived.Test.YtihndbkaoejnnaaGreatDoorProductA
set_option linter.unusedSimpArgs false
set_option linter.unusedVariables false
namespace Go.Proofs.YtihndbkaoejnnaaGreatDoor.P

theorem idx_new {d : List Int} {k : Nat} {x : Int} (hx : d[k]? = some x) (h : x ∉ d.take k) : d.idxOf x = k := by
  obtain ⟨hk, e⟩ := List.getElem?_eq_some_iff.1 hx
  conv => lhs; rw [← List.take_append_drop k d]
  rw [List.idxOf_append, if_neg h, List.drop_eq_getElem_cons hk, e, List.idxOf_cons_self, List.length_take]
  omega
theorem mem_take_succ {d : List Int} {k : Nat} {x y : Int} (hx : d[k]? = some x) : y ∈ d.take (k + 1) ↔ y ∈ d.take k ∨ y = x := by
  rw [List.take_add_one, hx]
  simp

end Go.Proofs.YtihndbkaoejnnaaGreatDoor.P
namespace Go.Proofs.YtihndbkaoejnnaaGreatDoor
open Go Go.RowKit Go.Proofs.YtihndbkaoejnnaaGreatDoor.P

/-- These are numbers that a word has. -/
def Wf (d : List Int) : Prop := ∀ x ∈ d, (Lit.int .i64 x).wf = true
theorem Wf.at_ {d : List Int} (h : Wf d) {k : Nat} {x : Int} (hx : d[k]? = some x) : (Lit.int .i64 x).wf = true := h x (List.mem_of_getElem? hx)

/-- A map tells where the numbers of a list are first. -/
def Tells (D : DataW Unit) (d e : List Int) : Prop :=
  Maps.IsMap D ∧ (∀ x, (Lit.int .i64 x).wf = true → Maps.has D (.int .i64 x) = decide (x ∈ e)) ∧ ∀ x, (Lit.int .i64 x).wf = true → x ∈ e → ∀ z, D.atKey (.int .i64 x) z = .lit (.int .i64 ((d.idxOf x : Nat) : Int))
theorem Tells.none (d : List Int) : Tells (.map []) d (d.take 0) := ⟨Maps.isMap_empty, fun x _ => by simp [Maps.has_eq], fun x _ h => by simp at h⟩
theorem key_lit (x : Int) (h : (Lit.int .i64 x).wf = true) : WideAt.IsKeyLit (.int .i64 x) := by
  first | exact h | trivial | simp [WideAt.IsKeyLit, h] | (unfold WideAt.IsKeyLit; exact h)
theorem Tells.new {D : DataW Unit} {d : List Int} {k : Nat} {x : Int} (h : Tells D d (d.take k)) (hx : d[k]? = some x) (hw : (Lit.int .i64 x).wf = true) (hk : x ∉ d.take k) : Tells (D.put (.int .i64 x) (.lit (.int .i64 (k : Int)))) d (d.take (k + 1)) := by
  obtain ⟨h1, h2, h3⟩ := h
  refine ⟨h1.put _ _, fun y hy => ?_, fun y hy hm z => ?_⟩
  · by_cases e : y = x
    · subst e
      rw [Maps.has_put_same h1 (key_lit y hw)]
      symm
      rw [decide_eq_true_iff, mem_take_succ hx]
      exact .inr rfl
    · rw [Maps.has_put_other (by intro e2; injection e2 with _ e2; exact e e2), h2 y hy, decide_eq_decide, mem_take_succ hx]
      exact ⟨.inl, fun h => h.elim id fun e2 => absurd e2 e⟩
  · by_cases e : y = x
    · subst e
      rw [Maps.atKey_put_same h1 (key_lit y hw), idx_new hx hk]
    · rw [Maps.atKey_put_other (by intro e2; injection e2 with _ e2; exact e e2)]
      rw [mem_take_succ hx] at hm
      exact h3 y hy (hm.elim id fun e2 => absurd e2 e) z

/-- A block of such a map. -/
def FirstsAt (w : World) (g : Nat) (d : List Int) : Prop := ∃ n D, w.ownsMap Tryz.prog 3 (plainElem Tryz.prog 3) g n D ∧ Tells D d d
theorem ownsMap_below {w w' : World} {g n : Nat} {D : DataW Unit} (h : w.ownsMap Tryz.prog 3 (plainElem Tryz.prog 3) g n D) (hb : Below w.heap.size w w') : w'.ownsMap Tryz.prog 3 (plainElem Tryz.prog 3) g n D :=
  h.kept (row := none) ⟨hb.os, hb.tape, hb.output, hb.size, fun k hk _ => hb.block k hk⟩ (by simp)
theorem FirstsAt.mono {w w' : World} {g : Nat} {d : List Int} (h : FirstsAt w g d) (hb : Below w.heap.size w w') : FirstsAt w' g d := by
  obtain ⟨n, D, h1, h2⟩ := h
  exact ⟨n, D, ownsMap_below h1 hb, h2⟩

end Go.Proofs.YtihndbkaoejnnaaGreatDoor
