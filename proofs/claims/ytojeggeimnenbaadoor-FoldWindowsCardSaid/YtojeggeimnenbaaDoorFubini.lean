/- Along one axis and then along another one: the plain law. Conditions: a function of which it is the same whichever two come first. -/
import Derived.Test.YtojeggeimnenbaaDoorMonoPlain
set_option linter.unusedSimpArgs false
set_option linter.unusedVariables false
namespace Go.Proofs.YtojeggeimnenbaaDoor.P
open Go Go.RowKit
def Word (x : Int) : Prop := -9223372036854775808 ≤ x ∧ x ≤ 9223372036854775807
theorem word_wf {x : Int} : (Lit.int .i64 x).wf = true ↔ Word x := by
  simp only [Lit.wf, Bool.and_eq_true, decide_eq_true_eq]
  exact Iff.rfl
theorem word_wrap (x : Int) : Word (wrap64 x) := by unfold wrap64 Word; omega
theorem word_same {x : Int} (h : Word x) : wrap64 x = x := by unfold wrap64; unfold Word at h; omega
theorem word_two {f x y : Int} (hm : Mono f) (hx : Word x) (hy : Word y) : Word (twoV f x y) := by
  rcases hm with h | h | h | h | h | h <;> subst h
  · rw [two_add]; exact word_wrap _
  · rw [two_mul]; exact word_wrap _
  · rw [two_max]; unfold Word at *; omega
  · rw [two_min]; unfold Word at *; omega
  · rw [two_and, bits_and, IntKind.wrap_i64]; unfold Word; omega
  · rw [two_or, bits_or, IntKind.wrap_i64]; unfold Word; omega
theorem word_neut {f : Int} (hm : Mono f) : Word (neutV f) := by
  rcases hm with h | h | h | h | h | h <;> subst h <;> unfold Word <;> decide
theorem ofInt_word {x : Int} (h : Word x) : IntKind.i64.wrap ((BitVec.ofInt 64 x).toNat : Int) = x := by
  rw [BitVec.toNat_ofInt, IntKind.wrap_i64]
  unfold Word at h
  omega
theorem two_neut {f x : Int} (hm : Mono f) (hx : Word x) : twoV f x (neutV f) = x := by
  rcases hm with h | h | h | h | h | h <;> subst h
  · rw [two_add, show neutV 1 = 0 by decide, Int.add_zero, word_same hx]
  · rw [two_mul, show neutV 3 = 1 by decide, Int.mul_one, word_same hx]
  · rw [two_max, show neutV 6 = -9223372036854775808 by decide]; unfold Word at hx; omega
  · rw [two_min, show neutV 7 = 9223372036854775807 by decide]; unfold Word at hx; omega
  · rw [two_and, bits_and, show neutV 14 = -1 by decide, show BitVec.ofInt 64 (-1) = BitVec.allOnes 64 by decide, BitVec.and_allOnes, ofInt_word hx]
  · rw [two_or, bits_or, show neutV 15 = 0 by decide, show BitVec.ofInt 64 0 = 0#64 by decide, BitVec.or_zero, ofInt_word hx]
/-- What a line folds to. -/
def S (f : Int) (l : List Int) : Int := (ofR f l).1
theorem S_nil (f : Int) : S f [] = neutV f := rfl
theorem S_cons {f x : Int} (hm : Mono f) (hx : Word x) (l : List Int) : S f (x :: l) = twoV f x (S f l) := by
  by_cases hl : l = []
  · subst hl
    rw [S_nil, two_neut hm hx]; rfl
  · exact hm.tame.cons hl
theorem S_word {f : Int} (hm : Mono f) : ∀ {l : List Int}, (∀ x ∈ l, Word x) → Word (S f l)
  | [], _ => word_neut hm
  | x :: l, h => by
    rw [S_cons hm (h x List.mem_cons_self)]
    exact word_two hm (h x List.mem_cons_self) (S_word hm fun y hy => h y (List.mem_cons_of_mem _ hy))
theorem S_two {f : Int} (hm : Mono f) {β : Type} (u v : β → Int) : ∀ (l : List β), (∀ b ∈ l, Word (u b) ∧ Word (v b)) → S f (l.map fun b => twoV f (u b) (v b)) = twoV f (S f (l.map u)) (S f (l.map v))
  | [], _ => (two_neut hm (word_neut hm)).symm
  | b :: l, h => by
    obtain ⟨h1, h2⟩ := h b List.mem_cons_self
    rw [List.map_cons, List.map_cons, List.map_cons, S_cons hm (word_two hm h1 h2), S_cons hm h1, S_cons hm h2, S_two hm u v l fun c hc => h c (List.mem_cons_of_mem _ hc)]
    rw [hm.assoc (twoV f (u b) (v b)), ← hm.assoc (u b) (v b), hm.comm (v b) (S f (l.map u)), hm.assoc (u b) (S f (l.map u)) (v b), ← hm.assoc (twoV f (u b) (S f (l.map u)))]
theorem S_swap {f : Int} (hm : Mono f) {α β : Type} (G : α → β → Int) (hG : ∀ a b, Word (G a b)) (lb : List β) : ∀ (la : List α), S f (la.map fun a => S f (lb.map (G a))) = S f (lb.map fun b => S f (la.map fun a => G a b))
  | [] => by
    have : ∀ l : List β, S f (l.map fun _ => neutV f) = neutV f := fun l => by
      induction l with
      | nil => rfl
      | cons b l ih => rw [List.map_cons, S_cons hm (word_neut hm), ih, two_neut hm (word_neut hm)]
    exact (this lb).symm
  | a :: la => by
    rw [List.map_cons, S_cons hm (S_word hm fun x hx => by obtain ⟨b, -, rfl⟩ := List.mem_map.1 hx; exact hG a b), S_swap hm G hG lb la, ← S_two hm (G a) (fun b => S f (la.map fun a => G a b)) lb (fun b _ => ⟨hG a b, S_word hm fun x hx => by
      obtain ⟨c, -, rfl⟩ := List.mem_map.1 hx; exact hG c b⟩)]
    refine congrArg _ (List.map_congr_left fun b _ => ?_)
    rw [List.map_cons, S_cons hm (hG a b)]
/-! axes -/
theorem mid_axis (A B : List Nat) (n : Nat) : outerOf (A ++ n :: B) A.length = prod A ∧ (A ++ n :: B).getD A.length 0 = n ∧ innerOf (A ++ n :: B) A.length = prod B ∧ (A ++ n :: B).eraseIdx A.length = A ++ B := by
  unfold outerOf innerOf
  refine ⟨by rw [List.take_left' rfl], by simp [List.getD_eq_getElem?_getD], ?_, ?_⟩
  · rw [show A ++ n :: B = (A ++ [n]) ++ B by simp, List.drop_left' (by simp)]
  · rw [List.eraseIdx_append_of_length_le (Nat.le_refl _), Nat.sub_self]; rfl
theorem split_axis {t : List Nat} {k : Nat} (hk : k < t.length) : ∃ A n B, t = A ++ n :: B ∧ A.length = k := ⟨t.take k, t[k], t.drop (k + 1), by simp, by simp; omega⟩
theorem but_prod {t : List Nat} {k : Nat} (hk : k < t.length) : (lineF t k).1 * (lineF t k).2.2 = prod (t.eraseIdx k) := by
  unfold lineF
  by_cases c : NoneElse t k
  · rw [if_pos c]
    obtain ⟨j, hj, hne, hz⟩ := c
    have hm : (0 : Nat) ∈ t.eraseIdx k := List.mem_eraseIdx_iff_getElem?.2 ⟨j, hne, by rw [List.getElem?_eq_getElem hj]; rw [List.getD_eq_getElem?_getD, List.getElem?_eq_getElem hj] at hz; simpa using hz⟩
    rw [prod_zero hm]
    show (0 : Nat) * 0 = 0
    rfl
  · rw [if_neg c]
    obtain ⟨A, n, B, rfl, rfl⟩ := split_axis hk
    obtain ⟨e1, -, e3, e4⟩ := mid_axis A B n
    rw [e4, prod_append]
    show outerOf _ _ * innerOf _ _ = _
    rw [e1, e3]
theorem prod_but_ax {t : List Nat} {k : Nat} (hk : k < t.length) : prod t = t.getD k 0 * prod (t.eraseIdx k) := by
  obtain ⟨A, n, B, rfl, rfl⟩ := split_axis hk
  obtain ⟨-, e2, -, e4⟩ := mid_axis A B n
  rw [e2, e4, prod_append, prod_append]
  show prod A * (n * prod B) = _
  rw [Nat.mul_left_comm]
theorem ints_eraseIdx : ∀ (t : List Nat) (k : Nat), (ints t).eraseIdx k = ints (t.eraseIdx k)
  | [], _ => rfl
  | _ :: _, 0 => rfl
  | x :: t, k + 1 => congrArg (fun l => (x : Int) :: l) (ints_eraseIdx t k)
theorem redErr_mono {f : Int} {t : List Nat} {k : Nat} (hm : Mono f) (hk : k < t.length) : Go.Proofs.YtojeggeimnenbaaDoor.redErr f t k = if t.getD k 0 = 0 ∧ 4096 < prod (t.eraseIdx k) then 7 else 0 := by
  unfold Go.Proofs.YtojeggeimnenbaaDoor.redErr
  rw [but_prod hk]
  by_cases h0 : t.getD k 0 = 0
  · rw [if_pos h0, if_neg (by rw [hm.neut]; simp)]
    by_cases h1 : 4096 < prod (t.eraseIdx k)
    · rw [if_pos h1, if_pos ⟨h0, h1⟩]
    · rw [if_neg h1, if_neg fun h => h1 h.2]
  · rw [if_neg h0, if_neg fun h => h0 h.1]
theorem red_small {f : Int} {t : List Nat} {k : Nat} (hm : Mono f) (hk : k < t.length) (hg : GoodSh t) (h : Go.Proofs.YtojeggeimnenbaaDoor.redErr f t k = 0) : prod (t.eraseIdx k) ≤ 4096 := by
  rw [redErr_mono hm hk] at h
  by_cases h0 : t.getD k 0 = 0
  · by_cases h1 : 4096 < prod (t.eraseIdx k)
    · rw [if_pos ⟨h0, h1⟩] at h; cases h
    · omega
  · have h1 := hg.2.2
    rw [prod_but_ax hk] at h1
    have h2 : 1 * prod (t.eraseIdx k) ≤ t.getD k 0 * prod (t.eraseIdx k) := Nat.mul_le_mul_right _ (by omega)
    omega
theorem good_but {t : List Nat} {k : Nat} (hg : GoodSh t) (hp : prod (t.eraseIdx k) ≤ 4096) : GoodSh (t.eraseIdx k) :=
  ⟨Nat.le_trans (List.length_eraseIdx_le _ _) hg.1, fun n hn => hg.2.1 n (List.mem_of_mem_eraseIdx hn), hp⟩
theorem redOf_ok {f : Int} {a : Arr} {t : List Nat} {k : Nat} (h : Ok a t) (hk : k < t.length) (hp : prod (t.eraseIdx k) ≤ 4096) : Ok (redOf f a t k) (t.eraseIdx k) :=
  ⟨by show a.sh.eraseIdx k = _; rw [h.sh, ints_eraseIdx], good_but h.good hp, by show ((List.range _).map _).length = _; rw [List.length_map, List.length_range, but_prod hk], fun e => by cases e⟩
theorem redOf_getD {f : Int} {a : Arr} {t : List Nat} {k q : Nat} (hk : k < t.length) (hq : q < prod (t.eraseIdx k)) :
    (redOf f a t k).da.getD q 0 = S f ((List.range (t.getD k 0)).map fun j => a.da.getD ((q / innerOf t k * t.getD k 0 + j) * innerOf t k + q % innerOf t k) 0) := by
  have hq' : q < (lineF t k).1 * (lineF t k).2.2 := by rw [but_prod hk]; exact hq
  rw [← lnR_eq hq']
  show ((List.range ((lineF t k).1 * (lineF t k).2.2)).map fun q => (ofR f (Go.Proofs.YtojeggeimnenbaaDoor.lnR a t k q)).1).getD q 0 = _
  rw [List.getD_eq_getElem?_getD, List.getElem?_map, List.getElem?_range hq']
  rfl
theorem word_getD {d : List Int} (h : Wf d) (p : Nat) : Word (d.getD p 0) := by
  rw [List.getD_eq_getElem?_getD]
  cases e : d[p]? with
  | none => show Word 0; unfold Word; omega
  | some y => exact word_wf.1 (h _ (List.mem_of_getElem? e))
theorem redOf_wf {f : Int} {a : Arr} {t : List Nat} {k : Nat} (hm : Mono f) (hk : k < t.length) (hw : Wf a.da) : Wf (redOf f a t k).da := by
  intro x hx
  obtain ⟨q, hq, rfl⟩ := List.mem_map.1 hx
  refine word_wf.2 (S_word hm fun y hy => ?_)
  rw [lnR_eq (List.mem_range.1 hq)] at hy
  obtain ⟨j, -, rfl⟩ := List.mem_map.1 hy
  exact word_getD hw _
theorem ext_getDI {a b : List Int} (hl : a.length = b.length) (h : ∀ k, k < a.length → a.getD k 0 = b.getD k 0) : a = b := by
  refine List.ext_getElem? fun k => ?_
  rcases Nat.lt_or_ge k a.length with hk | hk
  · have h1 := h k hk
    rw [List.getD_eq_getElem?_getD, List.getD_eq_getElem?_getD, List.getElem?_eq_getElem hk, List.getElem?_eq_getElem (by omega)] at h1
    rw [List.getElem?_eq_getElem hk, List.getElem?_eq_getElem (by omega)]
    exact congrArg some h1
  · rw [List.getElem?_eq_none hk, List.getElem?_eq_none (by omega)]
theorem div_mix {o x r I : Nat} (hr : r < I) (_ : x = o * I + r) : x / I = o ∧ x % I = r := by
  subst x
  exact ⟨by rw [Nat.add_comm, Nat.add_mul_div_right _ _ (by omega), Nat.div_eq_of_lt hr]; omega, by rw [Nat.add_comm, Nat.add_mul_mod_self_right, Nat.mod_eq_of_lt hr]⟩
theorem mix_lt {o r O I : Nat} (ho : o < O) (hr : r < I) : o * I + r < O * I := by
  have := Nat.mul_le_mul_right I (show o + 1 ≤ O by omega)
  rw [Nat.add_mul, Nat.one_mul] at this
  omega
theorem fubini {f : Int} {a : Arr} {t : List Nat} {i j : Nat} (hm : Mono f) (h : Ok a t) (hw : Wf a.da) (hij : i < j) (hj : j < t.length) :
    redOf f (redOf f a t j) (t.eraseIdx j) i = redOf f (redOf f a t i) (t.eraseIdx i) (j - 1) := by
  obtain ⟨A, n, D, rfl, rfl⟩ := split_axis (t := t) (k := i) (by omega)
  obtain ⟨B, m, C, rfl, hB⟩ := split_axis (t := D) (k := j - A.length - 1) (by simp at hj; omega)
  have ejl : j = (A ++ n :: B).length := by simp; omega
  have et : A ++ n :: (B ++ m :: C) = (A ++ n :: B) ++ m :: C := by simp
  obtain ⟨oi, gi, ii, ei⟩ := mid_axis A (B ++ m :: C) n
  obtain ⟨oj, gj, ij, ej⟩ := mid_axis (A ++ n :: B) C m
  rw [← et, ← ejl] at oj gj ij ej
  rw [show (A ++ n :: B) ++ C = A ++ n :: (B ++ C) by simp] at ej
  have eil : j - 1 = (A ++ B).length := by simp; omega
  obtain ⟨oi2, gi2, ii2, ei2⟩ := mid_axis A (B ++ C) n
  obtain ⟨oj2, gj2, ij2, ej2⟩ := mid_axis (A ++ B) C m
  rw [← eil, show (A ++ B) ++ m :: C = A ++ (B ++ m :: C) by simp] at oj2 gj2 ij2 ej2
  rw [show (A ++ B) ++ C = A ++ (B ++ C) by simp] at ej2
  rw [ei, ej]
  have hjt : j < (A ++ n :: (B ++ m :: C)).length := hj
  have hit : A.length < (A ++ n :: (B ++ m :: C)).length := by simp
  have hi2 : A.length < (A ++ n :: (B ++ C)).length := by simp
  have hj2 : j - 1 < (A ++ (B ++ m :: C)).length := by rw [eil]; simp
  have hsh : (redOf f (redOf f a (A ++ n :: (B ++ m :: C)) j) (A ++ n :: (B ++ C)) A.length).sh = (redOf f (redOf f a (A ++ n :: (B ++ m :: C)) A.length) (A ++ (B ++ m :: C)) (j - 1)).sh := by
    show (a.sh.eraseIdx j).eraseIdx A.length = (a.sh.eraseIdx A.length).eraseIdx (j - 1)
    rw [h.sh, ints_eraseIdx, ints_eraseIdx, ints_eraseIdx, ints_eraseIdx, ej, ei, ei2, ej2]
  have hda : (redOf f (redOf f a (A ++ n :: (B ++ m :: C)) j) (A ++ n :: (B ++ C)) A.length).da = (redOf f (redOf f a (A ++ n :: (B ++ m :: C)) A.length) (A ++ (B ++ m :: C)) (j - 1)).da := by
    have l1 : (redOf f (redOf f a (A ++ n :: (B ++ m :: C)) j) (A ++ n :: (B ++ C)) A.length).da.length = prod (A ++ (B ++ C)) := by
      show ((List.range _).map _).length = _; rw [List.length_map, List.length_range, but_prod hi2, ei2]
    have l2 : (redOf f (redOf f a (A ++ n :: (B ++ m :: C)) A.length) (A ++ (B ++ m :: C)) (j - 1)).da.length = prod (A ++ (B ++ C)) := by
      show ((List.range _).map _).length = _; rw [List.length_map, List.length_range, but_prod hj2, ej2]
    refine ext_getDI (l1.trans l2.symm) fun q hq => ?_
    rw [l1] at hq
    rw [redOf_getD hi2 (by rw [ei2]; exact hq), redOf_getD hj2 (by rw [ej2]; exact hq), gi2, ii2, gj2, ij2]
    rw [prod_append, prod_append] at hq
    have hI : 0 < prod B * prod C := by
      rcases Nat.eq_zero_or_pos (prod B * prod C) with e | e
      · rw [e] at hq; omega
      · exact e
    have hC : 0 < prod C := by
      rcases Nat.eq_zero_or_pos (prod C) with e | e
      · rw [e] at hI; omega
      · exact e
    obtain ⟨o, s, rfl, ho, hs⟩ : ∃ o s, q = o * (prod B * prod C) + s ∧ o < prod A ∧ s < prod B * prod C :=
      ⟨q / (prod B * prod C), q % (prod B * prod C), by rw [Nat.mul_comm]; exact (Nat.div_add_mod _ _).symm, (Nat.div_lt_iff_lt_mul hI).2 hq, Nat.mod_lt _ hI⟩
    obtain ⟨c, r, rfl, hc, hr⟩ : ∃ c r, s = c * prod C + r ∧ c < prod B ∧ r < prod C :=
      ⟨s / prod C, s % prod C, by rw [Nat.mul_comm]; exact (Nat.div_add_mod _ _).symm, (Nat.div_lt_iff_lt_mul hC).2 hs, Nat.mod_lt _ hC⟩
    obtain ⟨d1, d2⟩ := div_mix hs rfl (o := o)
    have e0 : o * (prod B * prod C) + (c * prod C + r) = (o * prod B + c) * prod C + r := by rw [Nat.add_mul, Nat.mul_assoc]; omega
    obtain ⟨d3, d4⟩ := div_mix hr e0
    rw [prod_append, d1, d2, d3, d4]
    have hL : ∀ x, x < n → (redOf f a (A ++ n :: (B ++ m :: C)) j).da.getD ((o * n + x) * (prod B * prod C) + (c * prod C + r)) 0 =
        S f ((List.range m).map fun y => a.da.getD ((((o * n + x) * prod B + c) * m + y) * prod C + r) 0) := fun x hx => by
      have e1 : (o * n + x) * (prod B * prod C) + (c * prod C + r) = ((o * n + x) * prod B + c) * prod C + r := by rw [Nat.add_mul ((o * n + x) * prod B), Nat.mul_assoc]; omega
      rw [redOf_getD hjt, gj, ij, (div_mix hr e1).1, (div_mix hr e1).2]
      rw [ej, prod_append]
      show _ < prod A * (n * prod (B ++ C))
      rw [prod_append, show prod A * (n * (prod B * prod C)) = prod A * n * (prod B * prod C) from (Nat.mul_assoc _ _ _).symm]
      exact mix_lt (mix_lt ho hx) hs
    have hR : ∀ y, y < m → (redOf f a (A ++ n :: (B ++ m :: C)) A.length).da.getD (((o * prod B + c) * m + y) * prod C + r) 0 =
        S f ((List.range n).map fun x => a.da.getD ((((o * n + x) * prod B + c) * m + y) * prod C + r) 0) := fun y hy => by
      have hs2 : (c * m + y) * prod C + r < prod B * m * prod C := mix_lt (mix_lt hc hy) hr
      have e3 : prod (B ++ m :: C) = prod B * m * prod C := by rw [prod_append]; show prod B * (m * prod C) = _; rw [Nat.mul_assoc]
      have e1 : ((o * prod B + c) * m + y) * prod C + r = o * (prod B * m * prod C) + ((c * m + y) * prod C + r) := by
        simp only [Nat.add_mul, Nat.mul_assoc]; omega
      rw [redOf_getD hit, gi, ii, e3, (div_mix hs2 e1).1, (div_mix hs2 e1).2]
      · refine congrArg _ (List.map_congr_left fun x _ => ?_)
        have e2 : (o * n + x) * (prod B * m * prod C) + ((c * m + y) * prod C + r) = (((o * n + x) * prod B + c) * m + y) * prod C + r := by
          simp only [Nat.add_mul, Nat.mul_assoc]; omega
        rw [e2]
      · rw [ei, prod_append, e3, e1]
        exact mix_lt ho hs2
    rw [List.map_congr_left (fun x hx => hL x (List.mem_range.1 hx)), List.map_congr_left (fun y hy => hR y (List.mem_range.1 hy))]
    exact S_swap hm (fun x y => a.da.getD ((((o * n + x) * prod B + c) * m + y) * prod C + r) 0) (fun _ _ => word_getD hw _) _ _
  cases ha : redOf f (redOf f a (A ++ n :: (B ++ m :: C)) j) (A ++ n :: (B ++ C)) A.length
  cases hb : redOf f (redOf f a (A ++ n :: (B ++ m :: C)) A.length) (A ++ (B ++ m :: C)) (j - 1)
  have hca : (redOf f (redOf f a (A ++ n :: (B ++ m :: C)) j) (A ++ n :: (B ++ C)) A.length).ch = false := rfl
  have hcb : (redOf f (redOf f a (A ++ n :: (B ++ m :: C)) A.length) (A ++ (B ++ m :: C)) (j - 1)).ch = false := rfl
  rw [ha] at hsh hda hca
  rw [hb] at hsh hda hcb
  simp only at hsh hda hca hcb
  rw [hsh, hda, hca, hcb]
/-- Both ways fail, or none. -/
theorem fubini_err {f : Int} {t : List Nat} {i j : Nat} (hm : Mono f) (hij : i < j) (hj : j < t.length) (h1 : Go.Proofs.YtojeggeimnenbaaDoor.redErr f t j = 0) (h2 : Go.Proofs.YtojeggeimnenbaaDoor.redErr f t i = 0) :
    Go.Proofs.YtojeggeimnenbaaDoor.redErr f (t.eraseIdx j) i = Go.Proofs.YtojeggeimnenbaaDoor.redErr f (t.eraseIdx i) (j - 1) := by
  obtain ⟨A, n, D, rfl, rfl⟩ := split_axis (t := t) (k := i) (by omega)
  obtain ⟨B, m, C, rfl, hB⟩ := split_axis (t := D) (k := j - A.length - 1) (by simp at hj; omega)
  have ejl : j = (A ++ n :: B).length := by simp; omega
  have et : A ++ n :: (B ++ m :: C) = (A ++ n :: B) ++ m :: C := by simp
  obtain ⟨-, gi, -, ei⟩ := mid_axis A (B ++ m :: C) n
  obtain ⟨-, gj, -, ej⟩ := mid_axis (A ++ n :: B) C m
  rw [← et, ← ejl] at gj ej
  rw [show (A ++ n :: B) ++ C = A ++ n :: (B ++ C) by simp] at ej
  have eil : j - 1 = (A ++ B).length := by simp; omega
  obtain ⟨-, gi2, -, ei2⟩ := mid_axis A (B ++ C) n
  obtain ⟨-, gj2, -, ej2⟩ := mid_axis (A ++ B) C m
  rw [← eil, show (A ++ B) ++ m :: C = A ++ (B ++ m :: C) by simp] at gj2 ej2
  rw [show (A ++ B) ++ C = A ++ (B ++ C) by simp] at ej2
  rw [redErr_mono hm hj, gj, ej] at h1
  rw [redErr_mono hm (by simp), gi, ei] at h2
  rw [ei, ej, redErr_mono hm (by simp), redErr_mono hm (by rw [eil]; simp), gi2, ei2, gj2, ej2]
  have p1 : prod (A ++ n :: (B ++ C)) = n * prod (A ++ (B ++ C)) := by rw [prod_append, prod_append]; show prod A * (n * prod (B ++ C)) = _; rw [Nat.mul_left_comm]
  have p2 : prod (A ++ (B ++ m :: C)) = m * prod (A ++ (B ++ C)) := by
    rw [prod_append, prod_append, prod_append, prod_append]; show prod A * (prod B * (m * prod C)) = _; rw [Nat.mul_left_comm (prod B), Nat.mul_left_comm (prod A)]
  rw [p1] at h1
  rw [p2] at h2
  generalize prod (A ++ (B ++ C)) = N at *
  by_cases hN : 4096 < N
  · have hn : m = 0 → n = 0 := fun hm0 => by
      apply Classical.byContradiction
      intro hn0
      have : 1 * N ≤ n * N := Nat.mul_le_mul_right _ (by omega)
      rw [if_pos ⟨hm0, by omega⟩] at h1
      cases h1
    have hm : n = 0 → m = 0 := fun hn0 => by
      apply Classical.byContradiction
      intro hm0
      have : 1 * N ≤ m * N := Nat.mul_le_mul_right _ (by omega)
      rw [if_pos ⟨hn0, by omega⟩] at h2
      cases h2
    by_cases hn0 : n = 0
    · rw [if_pos ⟨hn0, hN⟩, if_pos ⟨hm hn0, hN⟩]
    · rw [if_neg fun h => hn0 h.1, if_neg fun h => hn0 (hn h.1)]
  · rw [if_neg fun h => hN h.2, if_neg fun h => hN h.2]
end Go.Proofs.YtojeggeimnenbaaDoor.P
