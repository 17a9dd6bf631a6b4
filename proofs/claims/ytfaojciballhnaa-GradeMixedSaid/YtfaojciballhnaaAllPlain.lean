/- At all indices of each axis it is the array, in plain Lean. Conditions: none. -/
import Derived.Test.YtfaojciballhnaaChainsPlain
import Derived.Test.YtfaojciballhnaaIota
set_option linter.unusedSimpArgs false
set_option linter.unusedVariables false
namespace Go.Proofs.Ytfaojciballhnaa.P

/-- All indices of each axis. -/
def allIdx (t : List Nat) : List Arr := t.map firstNums
theorem ints_range_add (m n : Nat) : ints (List.range (m + n)) = ints (List.range m) ++ (ints (List.range n)).map fun i => (m : Int) + i := by
  unfold ints
  rw [List.range_add, List.map_append, List.map_map, List.map_map]
  congr 1
theorem stepAt_append (Q R : List Int) (n : Nat) (d : List Int) : stepAt (Q ++ R) n d = stepAt Q n d ++ stepAt R n d := by
  unfold stepAt; rw [List.flatMap_append]
theorem ints_range_succ (m : Nat) : ints (List.range (m + 1)) = ints (List.range m) ++ [(m : Int)] := by
  unfold ints; rw [List.range_succ, List.map_append]; rfl
theorem stepAt_range (n : Nat) : ∀ m, stepAt (ints (List.range m)) n (ints (List.range n)) = ints (List.range (m * n))
  | 0 => by simp [stepAt, ints]
  | m + 1 => by
    rw [ints_range_succ, stepAt_append, stepAt_range n m, Nat.add_mul, Nat.one_mul, ints_range_add]
    congr 1
    simp [stepAt]
/-- All steps from any places on. -/
theorem steps_all : ∀ (t : List Nat) (Q : List Int), (t.zip (allIdx t)).foldl (fun Q p => stepAt Q p.1 p.2.da) Q = Q.flatMap fun q : Int => (ints (List.range (prod t))).map fun r : Int => q * ((prod t : Nat) : Int) + r
  | [], Q => by simp [allIdx, prod, ints]
  | n :: t, Q => by
    show ((t.zip (allIdx t)).foldl (fun Q p => stepAt Q p.1 p.2.da) (stepAt Q n (ints (List.range n)))) = _
    rw [steps_all t]
    unfold stepAt
    rw [List.flatMap_assoc]
    congr 1
    funext q
    rw [prod, ← stepAt_range]
    unfold stepAt
    rw [List.map_flatMap, List.flatMap_map]
    congr 1
    funext i
    rw [List.map_map]
    congr 1
    funext r
    simp only [Function.comp]
    rw [Int.natCast_mul, Int.add_mul, ← Int.mul_assoc]
    omega
theorem all_places (t : List Nat) : placesOf t (allIdx t) = ints (List.range (prod t)) := by
  unfold placesOf
  rw [steps_all]
  simp
theorem catSh_all (t : List Nat) : catSh (allIdx t) = ints t := by
  unfold catSh allIdx ints
  rw [List.flatMap_map]
  simp only [firstNums]
  induction t with
  | nil => rfl
  | cons n t ih => rw [List.flatMap_cons, ih]; rfl
theorem allIdx_ok {t : List Nat} (h : GoodSh t) : ∀ b ∈ allIdx t, ∃ s, Ok b s := by
  intro b hb
  obtain ⟨n, hn, rfl⟩ := List.mem_map.1 hb
  exact ⟨[n], firstNums_ok (h.2.1 n hn)⟩
theorem idx_row {n : Nat} {d : List Int} (h : ∀ i ∈ d, 0 ≤ i ∧ i < (n : Int)) : (d.any fun i => decide (i < 0 ∨ (n : Int) ≤ i)) = false := by
  rw [List.any_eq_false]
  intro i hi
  have := h i hi
  simp only [decide_eq_true_eq]
  omega
theorem idxBad_all : ∀ t : List Nat, idxBad t (allIdx t) = false
  | [] => rfl
  | n :: t => by
    unfold idxBad
    show (List.any ((n, firstNums n) :: t.zip (allIdx t)) _) = false
    rw [List.any_cons, Bool.or_eq_false_iff]
    refine ⟨idx_row fun i hi => ?_, idxBad_all t⟩
    unfold firstNums ints at hi
    simp only [List.mem_map, List.mem_range] at hi
    obtain ⟨k, hk, rfl⟩ := hi
    omega
theorem pickErr_all {t : List Nat} (h : GoodSh t) : pickErr t (allIdx t) = 0 :=
  pick_none (by simp [allIdx]) (by unfold allIdx; rw [List.any_map, List.any_eq_false]; intro n _; simp [firstNums]) (by rw [catSh_all]; exact cntErr_ints h) (idxBad_all t)
theorem map_range (d : List Int) : (ints (List.range d.length)).map (fun p => d.getD p.toNat 0) = d := by
  apply List.ext_getElem?
  intro k
  unfold ints
  rw [List.map_map, List.getElem?_map]
  rcases Nat.lt_or_ge k d.length with h | h
  · rw [List.getElem?_range h, List.getElem?_eq_getElem h]
    simp [List.getD_eq_getElem?_getD, h]
  · rw [List.getElem?_eq_none (by simpa using h), List.getElem?_eq_none h]; rfl
theorem all_at {a : Arr} {t : List Nat} (h : Ok a t) : atErr a (allIdx t) = 0 ∧ atOf a (allIdx t) = a := by
  refine ⟨atErr_of h (allIdx_ok h.good) (pickErr_all h.good), ?_⟩
  unfold atOf
  rw [h.nsh_eq, all_places, catSh_all, ← h.sh, ← h.len, map_range]

/-- All indices, those of the first axis the other way round. -/
def backIdx : List Nat → List Arr
  | [] => []
  | n :: t => rev 0 (firstNums n) :: allIdx t
theorem rev_first {n : Nat} (h : n ≤ 4096) : (rev 0 (firstNums n)).da = ints ((List.range n).map fun i => n - 1 - i) := by
  have ho := firstNums_ok h
  have hr := rev_ok ho (k := 0)
  apply List.ext_getElem?
  intro i
  rcases Nat.lt_or_ge i n with hi | hi
  · unfold rev
    rw [ho.nsh_eq]
    have := pull_da ho (k := 0) (by simp) (f := fun i => [n].getD 0 0 - 1 - i) (fun i hi => rev_lt hi) (o := 0) (i := i) (r := 0) (by simp [outerOf, prod]) (by simpa using hi) (by simp [innerOf, prod])
    simp only [innerOf, List.drop_succ_cons, List.drop_nil, prod, Nat.mul_one, Nat.zero_mul, Nat.zero_add, Nat.add_zero, List.getD_cons_zero] at this
    rw [List.getD_cons_zero, this]
    simp [firstNums, ints, hi, show n - 1 - i < n by omega]
  · rw [List.getElem?_eq_none (by rw [hr.len]; simp [prod]; omega), List.getElem?_eq_none (by simp [ints]; omega)]
theorem flatMap_at {α β : Type} {f : α → List β} {P : Nat} (hf : ∀ a, (f a).length = P) : ∀ {Q : List α} {i r : Nat} {a : α}, Q[i]? = some a → r < P → (Q.flatMap f)[i * P + r]? = (f a)[r]?
  | b :: Q, 0, r, a, h, hr => by
    simp only [List.getElem?_cons_zero, Option.some.injEq] at h
    subst h
    rw [List.flatMap_cons, Nat.zero_mul, Nat.zero_add, List.getElem?_append_left (by rw [hf]; exact hr)]
  | b :: Q, i + 1, r, a, h, hr => by
    rw [List.getElem?_cons_succ] at h
    rw [List.flatMap_cons, List.getElem?_append_right (by rw [hf, Nat.add_mul]; omega), hf, show (i + 1) * P + r - P = i * P + r by rw [Nat.add_mul]; omega]
    exact flatMap_at hf h hr
theorem back_places {n : Nat} {t : List Nat} (h : n ≤ 4096) : placesOf (n :: t) (backIdx (n :: t)) = (ints ((List.range n).map fun i => n - 1 - i)).flatMap fun q : Int => (ints (List.range (prod t))).map fun r : Int => q * ((prod t : Nat) : Int) + r := by
  unfold placesOf backIdx
  show (t.zip (allIdx t)).foldl (fun Q p => stepAt Q p.1 p.2.da) (stepAt [0] n (rev 0 (firstNums n)).da) = _
  rw [steps_all, rev_first h]
  congr 1
  simp [stepAt]
theorem back_cat {n : Nat} {t : List Nat} (h : n ≤ 4096) : catSh (backIdx (n :: t)) = ints (n :: t) := by
  unfold backIdx catSh
  rw [List.flatMap_cons, (rev_ok (firstNums_ok h) (k := 0)).sh]
  have := catSh_all t
  unfold catSh at this
  rw [this]; rfl
theorem back_err {n : Nat} {t : List Nat} (h : GoodSh (n :: t)) : pickErr (n :: t) (backIdx (n :: t)) = 0 := by
  have hn := h.2.1 n (List.mem_cons_self ..)
  refine pick_none (by simp [backIdx, allIdx]) ?_ (by rw [back_cat hn]; exact cntErr_ints h) ?_
  · unfold backIdx
    rw [List.any_cons, Bool.or_eq_false_iff]
    exact ⟨rfl, by unfold allIdx; rw [List.any_map, List.any_eq_false]; intro n _; simp [firstNums]⟩
  · unfold idxBad backIdx
    show (List.any ((n, rev 0 (firstNums n)) :: t.zip (allIdx t)) _) = false
    rw [List.any_cons, Bool.or_eq_false_iff]
    refine ⟨idx_row fun i hi => ?_, idxBad_all t⟩
    rw [rev_first hn] at hi
    unfold ints at hi
    simp only [List.map_map, List.mem_map, List.mem_range, Function.comp] at hi
    obtain ⟨k, hk, rfl⟩ := hi
    omega
theorem back_at {a : Arr} {n : Nat} {t : List Nat} (h : Ok a (n :: t)) : atErr a (backIdx (n :: t)) = 0 ∧ atOf a (backIdx (n :: t)) = rev 0 a := by
  have hn := h.good.2.1 n (List.mem_cons_self ..)
  have hb : ∀ b ∈ backIdx (n :: t), ∃ s, Ok b s := by
    intro b hb
    unfold backIdx at hb
    rcases List.mem_cons.1 hb with rfl | hb
    · exact ⟨[n], rev_ok (firstNums_ok hn)⟩
    · obtain ⟨m, hm, rfl⟩ := List.mem_map.1 hb
      exact ⟨[m], firstNums_ok (h.good.2.1 m (List.mem_cons_of_mem _ hm))⟩
  refine ⟨atErr_of h hb (back_err h.good), ?_⟩
  have hro := rev_ok h (k := 0)
  have hre : rev 0 a = ⟨a.ch, a.sh, (rev 0 a).da⟩ := by
    rw [show a.sh = (rev 0 a).sh by rw [h.sh, hro.sh]]; rfl
  rw [hre]
  unfold atOf
  rw [h.nsh_eq, back_places hn, back_cat hn, ← h.sh]
  congr 1
  apply List.ext_getElem?
  intro x
  have hl : ((ints ((List.range n).map fun i => n - 1 - i)).flatMap fun q : Int => (ints (List.range (prod t))).map fun r : Int => q * ((prod t : Nat) : Int) + r).length = n * prod t := by
    have e := back_places (t := t) hn
    rw [← e]
    have hp := back_err h.good
    obtain ⟨p1, p2, p3, p4⟩ := pick_parts hp
    rw [← placesTo_all (Nat.le_refl _), placesTo_len p1 (Nat.le_refl _), List.take_length]
    obtain ⟨u, e1, e2⟩ := catSh_ints hb
    rw [back_cat hn] at e1
    rw [← e2, ← ints_inj e1]; rfl
  rcases Nat.lt_or_ge x (n * prod t) with hx | hx
  · have hP : 0 < prod t := Nat.pos_of_ne_zero fun e => by rw [e] at hx; omega
    obtain ⟨i, r, rfl, hi, hr⟩ : ∃ i r, x = i * prod t + r ∧ i < n ∧ r < prod t :=
      ⟨x / prod t, x % prod t, by rw [Nat.mul_comm]; exact (Nat.div_add_mod x (prod t)).symm, Nat.div_lt_of_lt_mul (by rw [Nat.mul_comm]; exact hx), Nat.mod_lt _ hP⟩
    have hQ : (ints ((List.range n).map fun i => n - 1 - i))[i]? = some ((n - 1 - i : Nat) : Int) := by simp [ints, hi]
    rw [List.getElem?_map, flatMap_at (f := fun q : Int => (ints (List.range (prod t))).map fun r : Int => q * ((prod t : Nat) : Int) + r) (P := prod t) (by intro a; simp [ints]) hQ hr]
    have hm : ((ints (List.range (prod t))).map fun r : Int => ((n - 1 - i : Nat) : Int) * ((prod t : Nat) : Int) + r)[r]? = some ((((n - 1 - i) * prod t + r : Nat)) : Int) := by simp [ints, hr]
    rw [hm]
    have hpl := pull_da h (k := 0) (by simp) (f := fun i => (n :: t).getD 0 0 - 1 - i) (fun i hi => rev_lt hi) (o := 0) (i := i) (r := r) (by simp [outerOf, prod]) (by simpa using hi) (by simpa [innerOf] using hr)
    simp only [innerOf, List.drop_succ_cons, List.drop_zero, Nat.zero_mul, Nat.zero_add, List.getD_cons_zero] at hpl
    unfold rev
    rw [h.nsh_eq, List.getD_cons_zero, hpl]
    have hlt : (n - 1 - i) * prod t + r < a.da.length := by
      rw [h.len, prod]
      calc (n - 1 - i) * prod t + r < (n - 1 - i) * prod t + prod t := by omega
        _ = (n - 1 - i + 1) * prod t := by rw [Nat.add_mul, Nat.one_mul]
        _ ≤ n * prod t := Nat.mul_le_mul_right _ (by omega)
    simp only [Option.map_some, Int.toNat_natCast, List.getD_eq_getElem?_getD, List.getElem?_eq_getElem hlt, Option.getD_some]
  · rw [List.getElem?_eq_none (by rw [List.length_map, hl]; exact hx), List.getElem?_eq_none (by rw [hro.len]; exact hx)]
end Go.Proofs.Ytfaojciballhnaa.P
