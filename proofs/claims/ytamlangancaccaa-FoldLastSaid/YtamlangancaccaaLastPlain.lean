/- What folds at the last index so far is what all fold to; at the first one stand the first cells. Conditions: none but these. -/
import Derived.Test.YtamlangancaccaaMonoPlain
import Derived.Test.YtamlangancaccaaCutLaw
set_option linter.unusedSimpArgs false
set_option linter.unusedVariables false
namespace Go.Proofs.Ytamlangancaccaa.P
open Go Go.RowKit
noncomputable def scanOf (f : Int) (a : Arr) (t : List Nat) (k : Nat) : Arr := ⟨false, a.sh, (List.range (prod t)).map fun q => (ofR f (Go.Proofs.Ytamlangancaccaa.lnS a t k q)).1⟩
theorem scanOf_ok {f : Int} {a : Arr} {t : List Nat} {k : Nat} (h : Ok a t) : Ok (scanOf f a t k) t :=
  ⟨h.sh, h.good, by show ((List.range (prod t)).map _).length = _; rw [List.length_map, List.length_range], fun e => by cases e⟩
theorem not_none {t : List Nat} {k o r : Nat} (ho : o < outerOf t k) (hr : r < innerOf t k) (hL : 0 < t.getD k 0) (hk : k < t.length) : ¬ NoneElse t k := fun hn => by
  have h1 := noneElse_prod hn
  rw [prod_axis hk] at h1
  have : 0 < outerOf t k * t.getD k 0 * innerOf t k := Nat.mul_pos (Nat.mul_pos (by omega) hL) (by omega)
  omega
theorem lnS_at {a : Arr} {t : List Nat} {k o j r : Nat} (hk : k < t.length) (ho : o < outerOf t k) (hj : j < t.getD k 0) (hr : r < innerOf t k) :
    Go.Proofs.Ytamlangancaccaa.lnS a t k ((o * t.getD k 0 + j) * innerOf t k + r) = (List.range (j + 1)).map fun i => a.da.getD ((o * t.getD k 0 + i) * innerOf t k + r) 0 := by
  unfold Go.Proofs.Ytamlangancaccaa.lnS lineF
  rw [if_neg (not_none ho hr (by omega) hk)]
  show lnAt a.da (t.getD k 0) (innerOf t k) (t.getD k 0) _ _ _ = _
  rw [lnAt_at hj hr]
  unfold Go.Proofs.Ytamlangancaccaa.fline
  simp only [Nat.add_zero]
theorem lnR_at {a : Arr} {t : List Nat} {k o r : Nat} (hk : k < t.length) (ho : o < outerOf t k) (hL : 0 < t.getD k 0) (hr : r < innerOf t k) :
    Go.Proofs.Ytamlangancaccaa.lnR a t k (o * innerOf t k + r) = (List.range (t.getD k 0)).map fun i => a.da.getD ((o * t.getD k 0 + i) * innerOf t k + r) 0 := by
  have e : lineF t k = (outerOf t k, t.getD k 0, innerOf t k) := by unfold lineF; rw [if_neg (not_none ho hr hL hk)]
  have hq : o * innerOf t k + r < outerOf t k * innerOf t k := by
    have := Nat.mul_le_mul_right (innerOf t k) (show o + 1 ≤ outerOf t k by omega)
    rw [Nat.add_mul, Nat.one_mul] at this
    omega
  rw [lnR_eq (by rw [e]; exact hq)]
  have h1 : (o * innerOf t k + r) / innerOf t k = o := by rw [Nat.add_comm, Nat.add_mul_div_right _ _ (by omega), Nat.div_eq_of_lt hr]; omega
  have h2 : (o * innerOf t k + r) % innerOf t k = r := by rw [Nat.add_comm, Nat.add_mul_mod_self_right, Nat.mod_eq_of_lt hr]
  rw [h1, h2]
theorem at_lt {t : List Nat} {k o j r : Nat} (hk : k < t.length) (ho : o < outerOf t k) (hj : j < t.getD k 0) (hr : r < innerOf t k) : (o * t.getD k 0 + j) * innerOf t k + r < prod t := by
  rw [prod_axis hk]
  have h1 := Nat.mul_le_mul_right (t.getD k 0) (show o + 1 ≤ outerOf t k by omega)
  rw [Nat.add_mul, Nat.one_mul] at h1
  have h2 := Nat.mul_le_mul_right (innerOf t k) (show o * t.getD k 0 + j + 1 ≤ outerOf t k * t.getD k 0 by omega)
  rw [Nat.add_mul _ 1, Nat.one_mul] at h2
  omega
theorem scanOf_at {f : Int} {a : Arr} {t : List Nat} {k o j r : Nat} (hk : k < t.length) (ho : o < outerOf t k) (hj : j < t.getD k 0) (hr : r < innerOf t k) :
    (scanOf f a t k).da[(o * t.getD k 0 + j) * innerOf t k + r]? = some (ofR f ((List.range (j + 1)).map fun i => a.da.getD ((o * t.getD k 0 + i) * innerOf t k + r) 0)).1 := by
  unfold scanOf
  rw [List.getElem?_map, List.getElem?_range (at_lt hk ho hj hr), Option.map_some, lnS_at hk ho hj hr]
theorem part_at {b : Arr} {t : List Nat} {k lo o r : Nat} (h : Ok b t) (hk : k < t.length) (hlo : lo < t.getD k 0) (ho : o < outerOf t k) (hr : r < innerOf t k) :
    (part k lo 1 b).da[o * innerOf t k + r]? = b.da[(o * t.getD k 0 + lo) * innerOf t k + r]? := by
  have hk1 : k < (t.set k 1).length := by simpa using hk
  obtain ⟨ix, hi, e1, e2, e3⟩ := exists_axis (s := t.set k 1) (k := k) (o := o) (i := 0) (r := r) hk1 (by rw [outer_set]; exact ho) (by rw [getD_set hk]; omega) (by rw [inner_set]; exact hr)
  have hin := inside_part (lo := lo) (len := 1) hk (by omega) hi
  have hp : place (t.set k 1) ix = o * innerOf t k + r := by
    rw [place_axis hk1 (inside_length hi), e1, e2, e3, inner_set, getD_set hk]; simp
  have hq : place t (ix.set k (ix.getD k 0 + lo)) = (o * t.getD k 0 + lo) * innerOf t k + r := by
    rw [take_set_self] at e1
    rw [drop_set_self] at e3
    rw [place_axis_set hk (by have := inside_length hi; simpa using this), e1, e3, e2]; simp
  rw [← hp, ← hq, cell_get h hin, part_def, h.nsh_eq, tab_get hi]
theorem part_len {b : Arr} {t : List Nat} {k lo : Nat} (h : Ok b t) (hk : k < t.length) (hlo : lo < t.getD k 0) : (part k lo 1 b).da.length = outerOf t k * innerOf t k := by
  rw [(part_ok h hk (show lo + 1 ≤ t.getD k 0 by omega)).len, prod_set hk, Nat.mul_one]
theorem two_at {O I q : Nat} (h : q < O * I) : ∃ o r, q = o * I + r ∧ o < O ∧ r < I := by
  have hI : 0 < I := by
    rcases Nat.eq_zero_or_pos I with e | e
    · rw [e] at h; omega
    · exact e
  exact ⟨q / I, q % I, by rw [Nat.mul_comm]; exact (Nat.div_add_mod q I).symm, (Nat.div_lt_iff_lt_mul hI).2 h, Nat.mod_lt _ hI⟩
theorem lineF_two {t : List Nat} {k : Nat} (hk : k < t.length) (hL : 0 < t.getD k 0) : (lineF t k).1 * (lineF t k).2.2 = outerOf t k * innerOf t k := by
  unfold lineF
  by_cases c : NoneElse t k
  · rw [if_pos c]
    have h1 := noneElse_prod c
    rw [prod_axis hk] at h1
    show 0 * 0 = _
    rcases Nat.mul_eq_zero.1 h1 with h2 | h2
    · rcases Nat.mul_eq_zero.1 h2 with h3 | h3
      · rw [h3]; simp
      · omega
    · rw [h2]; simp
  · rw [if_neg c]
theorem first_cells {f : Int} {a : Arr} {t : List Nat} {k : Nat} (h : Ok a t) (hk : k < t.length) (hL : 0 < t.getD k 0) (hc : a.ch = false) : part k 0 1 (scanOf f a t k) = part k 0 1 a := by
  have h1 := part_ok (scanOf_ok (f := f) (k := k) h) hk (show 0 + 1 ≤ t.getD k 0 by omega)
  have h2 := part_ok h hk (show 0 + 1 ≤ t.getD k 0 by omega)
  have e1 : (part k 0 1 (scanOf f a t k)).ch = (part k 0 1 a).ch := hc.symm
  have e2 : (part k 0 1 (scanOf f a t k)).sh = (part k 0 1 a).sh := by rw [h1.sh, h2.sh]
  have e3 : (part k 0 1 (scanOf f a t k)).da = (part k 0 1 a).da := by
    refine List.ext_getElem? fun q => ?_
    by_cases hq : q < outerOf t k * innerOf t k
    · obtain ⟨o, r, rfl, ho, hr⟩ := two_at hq
      rw [part_at (scanOf_ok h) hk hL ho hr, part_at h hk hL ho hr, scanOf_at hk ho hL hr]
      have hb := at_lt hk ho hL hr
      rw [← h.len] at hb
      rw [List.getElem?_eq_getElem hb]
      refine congrArg some ?_
      show a.da.getD ((o * t.getD k 0 + 0) * innerOf t k + r) 0 = _
      rw [List.getD_eq_getElem?_getD, List.getElem?_eq_getElem hb]; rfl
    · rw [List.getElem?_eq_none (by rw [part_len (scanOf_ok h) hk hL]; omega), List.getElem?_eq_none (by rw [part_len h hk hL]; omega)]
  cases ha : part k 0 1 (scanOf f a t k)
  cases hb : part k 0 1 a
  rw [ha, hb] at e1 e2 e3
  cases e1; cases e2; cases e3
  rfl
theorem last_cells {f : Int} {a : Arr} {t : List Nat} {k : Nat} (h : Ok a t) (hk : k < t.length) (hL : 0 < t.getD k 0) : (part k (t.getD k 0 - 1) 1 (scanOf f a t k)).da = (redOf f a t k).da := by
  unfold redOf
  refine List.ext_getElem? fun q => ?_
  by_cases hq : q < outerOf t k * innerOf t k
  · have hq' : q < (lineF t k).1 * (lineF t k).2.2 := by rw [lineF_two hk hL]; exact hq
    obtain ⟨o, r, rfl, ho, hr⟩ := two_at hq
    rw [part_at (scanOf_ok h) hk (by omega) ho hr, scanOf_at hk ho (by omega) hr]
    rw [List.getElem?_map, List.getElem?_range hq', Option.map_some, lnR_at hk ho hL hr, show t.getD k 0 - 1 + 1 = t.getD k 0 by omega]
  · rw [List.getElem?_eq_none (by rw [part_len (scanOf_ok h) hk (by omega)]; omega), List.getElem?_eq_none (by rw [List.length_map, List.length_range, lineF_two hk hL]; omega)]
theorem last_fine {f : Int} {a : Arr} {t : List Nat} {k : Nat} (hk : k < t.length) (hL : 0 < t.getD k 0) (hall : ∀ q, q < prod t → (ofR f (Go.Proofs.Ytamlangancaccaa.lnS a t k q)).2 = 0) :
    ∀ q, q < (lineF t k).1 * (lineF t k).2.2 → (ofR f (Go.Proofs.Ytamlangancaccaa.lnR a t k q)).2 = 0 := fun q hq => by
  rw [lineF_two hk hL] at hq
  obtain ⟨o, r, rfl, ho, hr⟩ := two_at hq
  have h1 := hall _ (at_lt hk ho (show t.getD k 0 - 1 < t.getD k 0 by omega) hr)
  rw [lnS_at hk ho (by omega) hr, show t.getD k 0 - 1 + 1 = t.getD k 0 by omega] at h1
  rw [lnR_at hk ho hL hr]
  exact h1
theorem drop_fine {b : Arr} {t : List Nat} {k : Nat} {x : Int} (h : Ok b t) : dropErr ((List.replicate t.length 0).set k x) b = 0 := by
  unfold dropErr
  rw [if_neg (by rw [arrErr_ok h]; simp), if_neg (by rw [h.sh]; simp [length_ints])]
theorem last_plain {f : Int} {a : Arr} {t : List Nat} {k : Nat} (h : Ok a t) (hk : k < t.length) (hL : 0 < t.getD k 0) (hc : a.ch = false) (hall : ∀ q, q < prod t → (ofR f (Go.Proofs.Ytamlangancaccaa.lnS a t k q)).2 = 0) :
    Go.Proofs.Ytamlangancaccaa.redErr f t k = 0 ∧ (∀ q, q < (lineF t k).1 * (lineF t k).2.2 → (ofR f (Go.Proofs.Ytamlangancaccaa.lnR a t k q)).2 = 0) ∧
    dropErr ((List.replicate t.length 0).set k ((t.getD k 0 : Int) - 1)) (scanOf f a t k) = 0 ∧
    (drop ((List.replicate t.length 0).set k ((t.getD k 0 : Int) - 1)) (scanOf f a t k)).da = (redOf f a t k).da ∧
    dropErr ((List.replicate t.length 0).set k (1 - (t.getD k 0 : Int))) (scanOf f a t k) = 0 ∧
    dropErr ((List.replicate t.length 0).set k (1 - (t.getD k 0 : Int))) a = 0 ∧
    drop ((List.replicate t.length 0).set k (1 - (t.getD k 0 : Int))) (scanOf f a t k) = drop ((List.replicate t.length 0).set k (1 - (t.getD k 0 : Int))) a := by
  have e1 : (t.getD k 0 : Int) - 1 = ((t.getD k 0 - 1 : Nat) : Int) := by omega
  have e2 : 1 - (t.getD k 0 : Int) = -((t.getD k 0 - 1 : Nat) : Int) := by omega
  refine ⟨by unfold Go.Proofs.Ytamlangancaccaa.redErr; rw [if_neg (by omega)], last_fine hk hL hall, drop_fine (scanOf_ok h), ?_, drop_fine (scanOf_ok h), drop_fine h, ?_⟩
  · rw [e1, drop_first (scanOf_ok h) hk (by omega), show t.getD k 0 - (t.getD k 0 - 1) = 1 by omega]
    exact last_cells h hk hL
  · rw [e2, drop_last (scanOf_ok h) hk (by omega), drop_last h hk (by omega), show t.getD k 0 - (t.getD k 0 - 1) = 1 by omega]
    exact first_cells h hk hL hc
end Go.Proofs.Ytamlangancaccaa.P
namespace Go.Proofs.Ytamlangancaccaa
open Go Go.RowKit Go.Proofs.Ytamlangancaccaa.P
theorem reduce_all {v : Value} {a : Arr} {t : List Nat} {w : World} {f : Int} {k : Nat} (ha : IsArr w v a) (h : Ok a t) (hk : k < t.length) (hf : twoE f 0 1 = 0) (hc : a.ch = false) (hw : Wf a.da) (he : redErr f t k = 0)
    (hall : ∀ q, q < (lineF t k).1 * (lineF t k).2.2 → (ofR f (lnR a t k q)).2 = 0) :
    Calls Try.prog 5 #[.int .i64 f, .int .i64 k, v] w (GivesOk (redOf f a t k) w) := by
  refine (reduce_ok ha h hk hf hc hw).mono fun e w' h6 => ?_
  rcases h6 with ⟨h7, -⟩ | ⟨-, ⟨-, h8⟩ | ⟨q, hq, -, hz, -⟩⟩
  · exact absurd he h7
  · exact h8
  · exact absurd (hall q hq) hz
end Go.Proofs.Ytamlangancaccaa
