/- What all of a list of one axis folds to; and differences from the right. Conditions: none. -/
import Derived.Test.YtojeggeimnenbaaDoorFoldReduce
import Derived.Test.YtojeggeimnenbaaDoorClimbPlain
set_option linter.unusedSimpArgs false
set_option linter.unusedVariables false
namespace Go.Proofs.YtojeggeimnenbaaDoor.P
open Go Go.RowKit
theorem one_lnR {a : Arr} {m : Nat} (h : Ok a [m]) : Go.Proofs.YtojeggeimnenbaaDoor.lnR a [m] 0 0 = a.da := by
  have hl : a.da.length = m := by rw [h.len]; simp [prod]
  unfold Go.Proofs.YtojeggeimnenbaaDoor.lnR lnAt Go.Proofs.YtojeggeimnenbaaDoor.fline
  rw [one_line]
  refine List.ext_getElem? fun j => ?_
  simp only [List.getD_cons_zero, Nat.div_one, Nat.mod_one, Nat.mul_one, Nat.add_zero, Nat.zero_mul, Nat.zero_add, List.getElem?_map, Nat.zero_div]
  by_cases hj : j < m
  · rw [List.getElem?_range hj, List.getElem?_eq_getElem (show j < a.da.length by omega)]
    simp [List.getD_eq_getElem?_getD, List.getElem?_eq_getElem (show j < a.da.length by omega)]
  · rw [List.getElem?_eq_none (by rw [List.length_range]; omega), List.getElem?_eq_none (by omega)]; rfl
theorem one_redErr {a : Arr} {m : Nat} {f : Int} (h : Ok a [m]) (hf : (ofR f a.da).2 = 0) : Go.Proofs.YtojeggeimnenbaaDoor.redErr f [m] 0 = 0 := by
  have hl : a.da.length = m := by rw [h.len]; simp [prod]
  unfold Go.Proofs.YtojeggeimnenbaaDoor.redErr
  rw [one_line]
  simp only [List.getD_cons_zero]
  by_cases hm : m = 0
  · subst hm
    have e : a.da = [] := List.eq_nil_of_length_eq_zero hl
    rw [e] at hf
    have h2 : neutE f = 0 := hf
    rw [if_pos rfl, if_neg (fun h => h h2), if_neg (by omega)]
  · rw [if_neg hm]
/-- Sums whose signs change. -/
def swing : List Int → Int
  | [] => 0
  | x :: l => x - swing l
theorem swing_snoc (x : Int) : ∀ l : List Int, swing (l ++ [x]) = swing l + (if l.length % 2 = 0 then x else -x)
  | [] => by simp [swing]
  | y :: l => by
    have h := swing_snoc x l
    show y - swing (l ++ [x]) = y - swing l + _
    rw [h, List.length_cons]
    by_cases h2 : l.length % 2 = 0
    · rw [if_pos h2, if_neg (by omega)]; omega
    · rw [if_neg h2, if_pos (by omega)]; omega
theorem tame_sub : Tame 2 := ⟨by omega, by omega, by omega, by omega⟩
theorem two_sub (a b : Int) : twoV 2 a b = wrap64 (a - b) := by unfold twoV; simp
theorem swing_of : ∀ {l : List Int}, Wf l → (ofR 2 l).1 = wrap64 (swing l)
  | [], _ => by unfold ofR swing neutV wrap64; simp
  | [x], h => by
    have h2 : swing [x] = x := by simp [swing]
    rw [h2]
    have h3 := h x (by simp)
    have hb : -9223372036854775808 ≤ x ∧ x ≤ 9223372036854775807 := by
      simp [Lit.wf, IntKind.min, IntKind.max, IntKind.bits, IntKind.signed] at h3
      omega
    show x = wrap64 x
    unfold wrap64
    omega
  | x :: y :: l, h => by
    rw [tame_sub.cons (by simp), two_sub, swing_of (l := y :: l) (fun z hz => h z (List.mem_cons_of_mem _ hz))]
    show wrap64 (x - wrap64 (swing (y :: l))) = wrap64 (x - swing (y :: l))
    unfold wrap64; omega
theorem swing_up {d : List Int} {k : Nat} {x : Int} (h : d[k]? = some x) (h2 : k % 2 = 0) : wrap64 (wrap64 (swing (d.take k)) + x) = wrap64 (swing (d.take (k + 1))) := by
  have hk := (List.getElem?_eq_some_iff.1 h).1
  have hm : (d.take k).length = k := by rw [List.length_take]; omega
  rw [show d.take (k + 1) = d.take k ++ [x] by rw [List.take_add_one, h]; rfl, swing_snoc, if_pos (by rw [hm]; omega)]
  unfold wrap64; omega
theorem swing_down {d : List Int} {k : Nat} {x : Int} (h : d[k]? = some x) (h2 : k % 2 = 1) : wrap64 (wrap64 (swing (d.take k)) - x) = wrap64 (swing (d.take (k + 1))) := by
  have hk := (List.getElem?_eq_some_iff.1 h).1
  have hm : (d.take k).length = k := by rw [List.length_take]; omega
  rw [show d.take (k + 1) = d.take k ++ [x] by rw [List.take_add_one, h]; rfl, swing_snoc, if_neg (by rw [hm]; omega)]
  unfold wrap64; omega
end Go.Proofs.YtojeggeimnenbaaDoor.P
namespace Go.Proofs.YtojeggeimnenbaaDoor
open Go Go.RowKit Go.Proofs.YtojeggeimnenbaaDoor.P
theorem reduce_vec {v : Value} {a : Arr} {m : Nat} {w : World} {f : Int} (ha : IsArr w v a) (h : Ok a [m]) (hf : twoE f 0 1 = 0) (ho : (ofR f a.da).2 = 0) (hc : a.ch = false) (hw : Wf a.da) :
    Calls Tryd.prog 10 #[.int .i64 f, .int .i64 0, v] w (GivesOk ⟨false, [], [(ofR f a.da).1]⟩ w) := by
  have hN : (lineF [m] 0).1 * (lineF [m] 0).2.2 = 1 := by rw [one_line]; rfl
  have hsh : a.sh.eraseIdx 0 = [] := by rw [h.sh]; rfl
  refine (reduce_ok (k := 0) ha h (by simp) hf hc hw).mono fun e w' h6 => ?_
  rcases h6 with ⟨h7, -⟩ | ⟨-, h7⟩
  · exact absurd (one_redErr h ho) h7
  · rw [hN, hsh] at h7
    rcases h7 with ⟨-, h8⟩ | ⟨q, hq, -, hz, -⟩
    · have e : (List.range 1).map (fun q => (ofR f (lnR a [m] 0 q)).1) = [(ofR f a.da).1] := by simp [List.range_succ, one_lnR h]
      rw [e] at h8; exact h8
    · have : q = 0 := by omega
      subst this
      rw [one_lnR h] at hz
      exact absurd ho hz
end Go.Proofs.YtojeggeimnenbaaDoor
