/- Rows in any order are the same when they are sorted, and picked so: the plain law of GradeMixed. Conditions: none but these. -/
import Derived.Test.YtfaojciballhnaaSortTold
import Derived.Test.YtfaojciballhnaaAllPlain
set_option linter.unusedSimpArgs false
set_option linter.unusedVariables false
namespace Go.Proofs.Ytfaojciballhnaa.P
open Go Go.RowKit
/-- Rows of one length, one behind the other. -/
theorem rowOf_flat {r : Nat → List Int} {L : Nat} : ∀ {p : List Nat} {i x : Nat}, (∀ y ∈ p, (r y).length = L) → p[i]? = some x → rowOf (p.flatMap r) L i = r x
  | y :: p, 0, x, hl, hx => by
    simp only [List.getElem?_cons_zero, Option.some.injEq] at hx
    subst hx
    unfold rowOf
    rw [Nat.zero_mul, List.drop_zero, List.flatMap_cons, List.take_append_of_le_length (by rw [hl y (List.mem_cons_self ..)]; exact Nat.le_refl _), List.take_of_length_le (by rw [hl y (List.mem_cons_self ..)]; exact Nat.le_refl _)]
  | y :: p, i + 1, x, hl, hx => by
    rw [List.getElem?_cons_succ] at hx
    have ih := rowOf_flat (L := L) (fun z hz => hl z (List.mem_cons_of_mem _ hz)) hx
    unfold rowOf at ih ⊢
    rw [List.flatMap_cons, List.drop_append, hl y (List.mem_cons_self ..), List.drop_of_length_le (by rw [hl y (List.mem_cons_self ..), Nat.add_mul, Nat.one_mul]; exact Nat.le_add_left _ _), List.nil_append, show (i + 1) * L - L = i * L by rw [Nat.add_mul, Nat.one_mul, Nat.add_sub_cancel]]
    exact ih
/-- An array's rows in the order p. -/
def mixOf (a : Arr) (t : List Nat) (p : List Nat) : Arr := ⟨a.ch, a.sh, p.flatMap (rowOf a.da (prod t))⟩
theorem flat_length {r : Nat → List Int} {L : Nat} : ∀ {p : List Nat}, (∀ y ∈ p, (r y).length = L) → (p.flatMap r).length = p.length * L
  | [], _ => by simp
  | y :: p, hl => by
    rw [List.flatMap_cons, List.length_append, hl y (List.mem_cons_self ..), flat_length (fun z hz => hl z (List.mem_cons_of_mem _ hz)), List.length_cons, Nat.add_mul, Nat.one_mul, Nat.add_comm]
theorem rows_length {a : Arr} {n : Nat} {t p : List Nat} (h : Ok a (n :: t)) (hx : ∀ x ∈ p, x < n) : ∀ y ∈ p, (rowOf a.da (prod t) y).length = prod t := fun y hy => rowOf_length (by rw [h.len]; rfl) (hx y hy)
theorem mixOf_ok {a : Arr} {n : Nat} {t p : List Nat} (h : Ok a (n :: t)) (hl : p.length = n) (hx : ∀ x ∈ p, x < n) : Ok (mixOf a t p) (n :: t) := by
  refine ⟨h.sh, h.good, ?_, fun hc => ?_⟩
  · show (p.flatMap _).length = _
    rw [flat_length (rows_length h hx), hl]; rfl
  · have hr := h.rune hc
    rw [List.any_eq_false] at hr ⊢
    intro z hz
    obtain ⟨y, -, hy⟩ := List.mem_flatMap.1 hz
    unfold rowOf at hy
    exact hr z (List.mem_of_mem_drop (List.mem_of_mem_take hy))
theorem flat_map (r : Nat → List Int) (l : List Nat) : l.flatMap r = (l.map r).flatten := rfl
/-- SORTED IT DOES NOT MATTER how they stood. -/
theorem mix_sort {a : Arr} {n : Nat} {t p : List Nat} (h : Ok a (n :: t)) (hp : p.Perm (List.range n)) : sortOf (mixOf a t p) = sortOf a := by
  have hl : p.length = n := by rw [hp.length_eq, List.length_range]
  have hx : ∀ x ∈ p, x < n := fun x hx => by simpa using hp.mem_iff.1 hx
  have ho := mixOf_ok h hl hx
  unfold sortOf Arr.rows Arr.long
  rw [ho.nsh_eq, h.nsh_eq]
  show (⟨a.ch, a.sh, (gradeOf false (rowOf (mixOf a t p).da (prod t)) n).flatMap (rowOf (mixOf a t p).da (prod t))⟩ : Arr) = ⟨a.ch, a.sh, (gradeOf false (rowOf a.da (prod t)) n).flatMap (rowOf a.da (prod t))⟩
  have e : (List.range n).map (rowOf (mixOf a t p).da (prod t)) = p.map (rowOf a.da (prod t)) := by
    refine List.ext_getElem (by simp [hl]) fun i h1 h2 => ?_
    rw [List.length_map] at h2
    simp only [List.getElem_map, List.getElem_range]
    exact rowOf_flat (rows_length h hx) (List.getElem?_eq_getElem h2)
  have h9 := ordOf_mixed (r := rowOf a.da (prod t)) (r' := rowOf (mixOf a t p).da (prod t)) (n := n) (by rw [e]; exact hp.map _)
  congr 1
  rw [flat_map, flat_map]
  exact congrArg List.flatten h9
theorem sortOf_mix {a : Arr} {n : Nat} {t : List Nat} (h : Ok a (n :: t)) : sortOf a = mixOf a t (gradeOf false (rowOf a.da (prod t)) n) := by
  unfold sortOf mixOf Arr.rows Arr.long
  rw [h.nsh_eq]; rfl
theorem grade_range (down : Bool) (r : Nat → List Int) (n : Nat) : (gradeOf down r n).Perm (List.range n) := (ordOf_is (cOf_swo down r) n).1
/-- All indices, those of the first axis in the order p. -/
def mixIdx (p t : List Nat) : List Arr := ⟨false, [(p.length : Int)], ints p⟩ :: allIdx t
theorem mix_places {n : Nat} {t p : List Nat} : placesOf (n :: t) (mixIdx p t) = (ints p).flatMap fun q : Int => (ints (List.range (prod t))).map fun r : Int => q * ((prod t : Nat) : Int) + r := by
  unfold placesOf mixIdx
  show (t.zip (allIdx t)).foldl (fun Q p => stepAt Q p.1 p.2.da) (stepAt [0] n (ints p)) = _
  rw [steps_all]
  congr 1
  simp [stepAt]
theorem mix_cat {n : Nat} {t p : List Nat} (hl : p.length = n) : catSh (mixIdx p t) = ints (n :: t) := by
  unfold mixIdx catSh
  rw [List.flatMap_cons, hl]
  have := catSh_all t
  unfold catSh at this
  rw [this]; rfl
theorem mix_err {n : Nat} {t p : List Nat} (h : GoodSh (n :: t)) (hl : p.length = n) (hx : ∀ x ∈ p, x < n) : pickErr (n :: t) (mixIdx p t) = 0 := by
  refine pick_none (by simp [mixIdx, allIdx]) ?_ (by rw [mix_cat hl]; exact cntErr_ints h) ?_
  · unfold mixIdx
    rw [List.any_cons, Bool.or_eq_false_iff]
    exact ⟨rfl, by unfold allIdx; rw [List.any_map, List.any_eq_false]; intro n _; simp [firstNums]⟩
  · unfold idxBad mixIdx
    show (List.any ((n, (⟨false, [(p.length : Int)], ints p⟩ : Arr)) :: t.zip (allIdx t)) _) = false
    rw [List.any_cons, Bool.or_eq_false_iff]
    refine ⟨idx_row fun i hi => ?_, idxBad_all t⟩
    unfold ints at hi
    obtain ⟨k, hk, rfl⟩ := List.mem_map.1 hi
    have := hx k hk
    omega
theorem row_cells {d : List Int} {L x : Nat} (h : x * L + L ≤ d.length) : (ints (List.range L)).map (fun r : Int => d.getD ((x : Int) * (L : Int) + r).toNat 0) = rowOf d L x := by
  refine List.ext_getElem (by unfold rowOf; simp [ints]; omega) fun i h1 h2 => ?_
  have hi : i < L := by simpa [ints] using h1
  have e : ((x : Int) * (L : Int) + (i : Int)).toNat = x * L + i := by
    rw [show (x : Int) * (L : Int) + (i : Int) = ((x * L + i : Nat) : Int) by push_cast; rfl, Int.toNat_natCast]
  simp only [ints, List.getElem_map, List.getElem_range, rowOf, List.getElem_take, List.getElem_drop]
  rw [e, List.getD_eq_getElem?_getD, List.getElem?_eq_getElem (by omega)]; rfl
theorem mixed_at {a : Arr} {n : Nat} {t p : List Nat} (h : Ok a (n :: t)) (hl : p.length = n) (hx : ∀ x ∈ p, x < n) : atErr a (mixIdx p t) = 0 ∧ atOf a (mixIdx p t) = mixOf a t p := by
  have hn := h.good.2.1 n (List.mem_cons_self ..)
  have hb : ∀ b ∈ mixIdx p t, ∃ s, Ok b s := by
    intro b hb
    unfold mixIdx at hb
    rcases List.mem_cons.1 hb with rfl | hb
    · refine ⟨[n], by rw [hl]; rfl, ⟨by simp, fun m hm => ?_, by simpa [prod] using hn⟩, by simp [length_ints, prod, hl], fun h => by cases h⟩
      simp at hm; omega
    · obtain ⟨m, hm, rfl⟩ := List.mem_map.1 hb
      exact ⟨[m], firstNums_ok (h.good.2.1 m (List.mem_cons_of_mem _ hm))⟩
  refine ⟨atErr_of h hb (mix_err h.good hl hx), ?_⟩
  unfold atOf mixOf
  rw [h.nsh_eq, mix_places, mix_cat hl, ← h.sh]
  congr 1
  rw [List.map_flatMap]
  have key : ∀ q : List Nat, (∀ x ∈ q, x < n) → ((ints q).flatMap fun q : Int => ((ints (List.range (prod t))).map fun r : Int => q * ((prod t : Nat) : Int) + r).map fun p => a.da.getD p.toNat 0) = q.flatMap (rowOf a.da (prod t)) := by
    intro q
    induction q with
    | nil => intro _; rfl
    | cons x q ih =>
      intro hq
      have hxn := hq x (List.mem_cons_self ..)
      have hle : x * prod t + prod t ≤ a.da.length := by
        rw [h.len]
        have := Nat.mul_le_mul_right (prod t) (show x + 1 ≤ n from hxn)
        rw [Nat.add_mul, Nat.one_mul] at this
        exact this
      have e1 : ints (x :: q) = (x : Int) :: ints q := rfl
      rw [e1, List.flatMap_cons, List.flatMap_cons, ih (fun y hy => hq y (List.mem_cons_of_mem _ hy)), List.map_map]
      congr 1
      exact row_cells hle
  exact key p hx
end Go.Proofs.Ytfaojciballhnaa.P
