/- Functions of which it is the same whichever two come first, either way round; what a line folds to does not see its order. Conditions: none. -/
import Derived.Test.YtojeggeimnenbaaDoorFoldReduce
import Derived.Test.YtojeggeimnenbaaDoorClimbPlain
import Derived.Test.YtojeggeimnenbaaDoorFoldBad
import Derived.Test.YtojeggeimnenbaaDoorRev
set_option linter.unusedSimpArgs false
set_option linter.unusedVariables false
namespace Go.Proofs.YtojeggeimnenbaaDoor.P
open Go Go.RowKit
def Mono (f : Int) : Prop := f = 1 ∨ f = 3 ∨ f = 6 ∨ f = 7 ∨ f = 14 ∨ f = 15
instance (f : Int) : Decidable (Mono f) := by unfold Mono; infer_instance
theorem Mono.tame {f : Int} (h : Mono f) : Tame f := by
  rcases h with h | h | h | h | h | h <;> subst h <;> exact ⟨by omega, by omega, by omega, by omega⟩
theorem Mono.neut {f : Int} (h : Mono f) : neutE f = 0 := by
  rcases h with h | h | h | h | h | h <;> subst h <;> decide
theorem ofInt_wrap (n : Int) : BitVec.ofInt 64 (IntKind.i64.wrap n) = BitVec.ofInt 64 n := by
  apply BitVec.eq_of_toNat_eq
  rw [BitVec.toNat_ofInt, BitVec.toNat_ofInt, IntKind.wrap_i64]
  have : ((n + 9223372036854775808) % 18446744073709551616 - 9223372036854775808) % 18446744073709551616 = n % 18446744073709551616 := by omega
  exact congrArg Int.toNat this
theorem ofInt_toNat (b : BitVec 64) : BitVec.ofInt 64 ((b.toNat : Nat) : Int) = b := by
  apply BitVec.eq_of_toNat_eq
  rw [BitVec.toNat_ofInt]
  have := b.isLt
  omega
theorem ofInt_and (x y : Int) : BitVec.ofInt 64 (bits BinOp.and IntKind.i64 x y) = BitVec.ofInt 64 x &&& BitVec.ofInt 64 y := by
  show BitVec.ofInt 64 (IntKind.i64.wrap ((BitVec.ofInt 64 x &&& BitVec.ofInt 64 y).toNat : Int)) = _
  rw [ofInt_wrap]
  exact ofInt_toNat _
theorem ofInt_or (x y : Int) : BitVec.ofInt 64 (bits BinOp.or IntKind.i64 x y) = BitVec.ofInt 64 x ||| BitVec.ofInt 64 y := by
  show BitVec.ofInt 64 (IntKind.i64.wrap ((BitVec.ofInt 64 x ||| BitVec.ofInt 64 y).toNat : Int)) = _
  rw [ofInt_wrap]
  exact ofInt_toNat _
theorem bits_and (x y : Int) : bits BinOp.and IntKind.i64 x y = IntKind.i64.wrap ((BitVec.ofInt 64 x &&& BitVec.ofInt 64 y).toNat : Int) := rfl
theorem bits_or (x y : Int) : bits BinOp.or IntKind.i64 x y = IntKind.i64.wrap ((BitVec.ofInt 64 x ||| BitVec.ofInt 64 y).toNat : Int) := rfl
theorem two_add (a b : Int) : twoV 1 a b = wrap64 (a + b) := by unfold twoV; simp
theorem two_mul (a b : Int) : twoV 3 a b = wrap64 (a * b) := by unfold twoV; simp
theorem two_min (a b : Int) : twoV 7 a b = min a b := by unfold twoV; simp
theorem two_and (a b : Int) : twoV 14 a b = bits BinOp.and IntKind.i64 a b := by unfold twoV; simp
theorem two_or (a b : Int) : twoV 15 a b = bits BinOp.or IntKind.i64 a b := by unfold twoV; simp
theorem Mono.comm {f : Int} (h : Mono f) (x y : Int) : twoV f x y = twoV f y x := by
  rcases h with h | h | h | h | h | h <;> subst h
  · rw [two_add, two_add, Int.add_comm]
  · rw [two_mul, two_mul, Int.mul_comm]
  · rw [two_max, two_max, Int.max_comm]
  · rw [two_min, two_min, Int.min_comm]
  · rw [two_and, two_and, bits_and, bits_and, BitVec.and_comm]
  · rw [two_or, two_or, bits_or, bits_or, BitVec.or_comm]
theorem Mono.assoc {f : Int} (h : Mono f) (x y z : Int) : twoV f x (twoV f y z) = twoV f (twoV f x y) z := by
  rcases h with h | h | h | h | h | h <;> subst h
  · rw [two_add, two_add, two_add, two_add, wrap_add_r, wrap_add_l, Int.add_assoc]
  · rw [two_mul, two_mul, two_mul, two_mul, wrap_mul_r, wrap_mul_l, Int.mul_assoc]
  · rw [two_max, two_max, two_max, two_max, Int.max_assoc]
  · rw [two_min, two_min, two_min, two_min, Int.min_assoc]
  · rw [two_and, two_and, two_and, two_and, bits_and, ofInt_and, bits_and _ z, ofInt_and, BitVec.and_assoc]
  · rw [two_or, two_or, two_or, two_or, bits_or, ofInt_or, bits_or _ z, ofInt_or, BitVec.or_assoc]
theorem Mono.left {f : Int} (h : Mono f) (x y z : Int) : twoV f x (twoV f y z) = twoV f y (twoV f x z) := by
  rw [h.assoc, h.comm x y, ← h.assoc]
theorem Mono.of_zero {f : Int} (h : Mono f) (l : List Int) : (ofR f l).2 = 0 := by
  by_cases hl : l = []
  · subst hl; exact h.neut
  · exact h.tame.of hl
theorem Mono.perm {f : Int} (h : Mono f) {l l' : List Int} (hp : l.Perm l') : (ofR f l).1 = (ofR f l').1 := by
  induction hp with
  | nil => rfl
  | @cons x l1 l2 hp ih =>
    by_cases hl : l1 = []
    · subst hl
      rw [List.nil_perm.1 hp]
    · have hl2 : l2 ≠ [] := fun e => by rw [e] at hp; exact hl (List.perm_nil.1 hp)
      rw [h.tame.cons hl, h.tame.cons hl2, ih]
  | swap x y l =>
    by_cases hl : l = []
    · subst hl
      have e1 : ∀ u v : Int, (ofR f [u, v]).1 = twoV f u (ofR f [v]).1 := fun u v => by rw [h.tame.cons (l := [v]) (by simp)]
      have e2 : ∀ v : Int, (ofR f [v]).1 = v := fun v => rfl
      rw [e1, e1, e2, e2]
      exact h.comm _ _
    · have e1 : ∀ u v : Int, (ofR f (u :: v :: l)).1 = twoV f u (twoV f v (ofR f l).1) := fun u v => by rw [h.tame.cons (l := v :: l) (by simp), h.tame.cons hl]
      rw [e1, e1, h.left]
  | trans _ _ h1 h2 => exact h1.trans h2
theorem range_rev (n : Nat) : ((List.range n).map fun j => n - 1 - j).Perm (List.range n) := by
  have e : (List.range n).map (fun j => n - 1 - j) = (List.range n).reverse := by
    refine List.ext_getElem? fun j => ?_
    rw [List.getElem?_map]
    by_cases hj : j < n
    · rw [List.getElem?_range hj, List.getElem?_reverse (by simpa using hj), List.length_range, List.getElem?_range (by omega)]; rfl
    · rw [List.getElem?_eq_none (by simp; omega), List.getElem?_eq_none (by simp; omega)]; rfl
  rw [e]; exact List.reverse_perm _
theorem range_rot (n r : Nat) (hr : r < n) : ((List.range n).map fun j => (j + r) % n).Perm (List.range n) := by
  have e : (List.range n).map (fun j => (j + r) % n) = (List.range n).drop r ++ (List.range n).take r := by
    refine List.ext_getElem? fun j => ?_
    rw [List.getElem?_map]
    by_cases hj : j < n
    · rw [List.getElem?_range hj]
      by_cases hj2 : j < n - r
      · rw [List.getElem?_append_left (by simp; omega), List.getElem?_drop, List.getElem?_range (by omega), Option.map_some, Nat.mod_eq_of_lt (by omega), Nat.add_comm]
      · rw [List.getElem?_append_right (by simp; omega), List.length_drop, List.length_range, List.getElem?_take, if_pos (by omega), List.getElem?_range (by omega), Option.map_some,
          show j + r = (j - (n - r)) + n by omega, Nat.add_mod_right, Nat.mod_eq_of_lt (by omega)]
    · rw [List.getElem?_eq_none (by simp; omega), List.getElem?_eq_none (by simp; omega)]; rfl
  rw [e]
  exact List.perm_append_comm.trans (by rw [List.take_append_drop])
/-- All of each line folded. -/
noncomputable def redOf (f : Int) (a : Arr) (t : List Nat) (k : Nat) : Arr := ⟨false, a.sh.eraseIdx k, (List.range ((lineF t k).1 * (lineF t k).2.2)).map fun q => (ofR f (Go.Proofs.YtojeggeimnenbaaDoor.lnR a t k q)).1⟩
theorem lineF_lt {t : List Nat} {k q : Nat} (hq : q < (lineF t k).1 * (lineF t k).2.2) : lineF t k = (outerOf t k, t.getD k 0, innerOf t k) ∧ q / innerOf t k < outerOf t k ∧ q % innerOf t k < innerOf t k := by
  unfold lineF at hq ⊢
  by_cases c : NoneElse t k
  · rw [if_pos c] at hq; have hq : q < 0 * 0 := hq; omega
  · rw [if_neg c] at hq ⊢
    have hq : q < outerOf t k * innerOf t k := hq
    have hi : 0 < innerOf t k := by
      rcases Nat.eq_zero_or_pos (innerOf t k) with h | h
      · rw [h] at hq; omega
      · exact h
    exact ⟨rfl, (Nat.div_lt_iff_lt_mul hi).2 hq, Nat.mod_lt _ hi⟩
theorem lnR_eq {a : Arr} {t : List Nat} {k q : Nat} (hq : q < (lineF t k).1 * (lineF t k).2.2) :
    Go.Proofs.YtojeggeimnenbaaDoor.lnR a t k q = (List.range (t.getD k 0)).map fun j => a.da.getD ((q / innerOf t k * t.getD k 0 + j) * innerOf t k + q % innerOf t k) 0 := by
  unfold Go.Proofs.YtojeggeimnenbaaDoor.lnR lnAt Go.Proofs.YtojeggeimnenbaaDoor.fline
  rw [(lineF_lt hq).1]
  simp only [Nat.div_one, Nat.add_zero]
theorem lnR_pull {a : Arr} {t : List Nat} {k q : Nat} {g : Nat → Nat} (h : Ok a t) (hk : k < t.length) (hq : q < (lineF t k).1 * (lineF t k).2.2) (hg : ∀ i, i < t.getD k 0 → g i < t.getD k 0)
    (hp : ((List.range (t.getD k 0)).map g).Perm (List.range (t.getD k 0))) : (Go.Proofs.YtojeggeimnenbaaDoor.lnR (pull k g a) t k q).Perm (Go.Proofs.YtojeggeimnenbaaDoor.lnR a t k q) := by
  obtain ⟨-, h1, h2⟩ := lineF_lt hq
  rw [lnR_eq hq, lnR_eq hq]
  have e : (List.range (t.getD k 0)).map (fun j => (pull k g a).da.getD ((q / innerOf t k * t.getD k 0 + j) * innerOf t k + q % innerOf t k) 0) =
      ((List.range (t.getD k 0)).map g).map fun j => a.da.getD ((q / innerOf t k * t.getD k 0 + j) * innerOf t k + q % innerOf t k) 0 := by
    rw [List.map_map]
    refine List.map_congr_left fun j hj => ?_
    rw [List.getD_eq_getElem?_getD, pull_da h hk hg h1 (List.mem_range.1 hj) h2]
    simp [List.getD_eq_getElem?_getD]
  rw [e]
  exact hp.map _
theorem redOf_pull {f : Int} {a : Arr} {t : List Nat} {k : Nat} {g : Nat → Nat} (hm : Mono f) (h : Ok a t) (hk : k < t.length) (hg : ∀ i, i < t.getD k 0 → g i < t.getD k 0)
    (hp : ((List.range (t.getD k 0)).map g).Perm (List.range (t.getD k 0))) : redOf f (pull k g a) t k = redOf f a t k := by
  unfold redOf
  have e1 : (pull k g a).sh = a.sh := by rw [h.sh]; show ints a.nsh = _; rw [h.nsh_eq]
  rw [e1]
  congr 1
  exact List.map_congr_left fun q hq => hm.perm (lnR_pull h hk (List.mem_range.1 hq) hg hp)
theorem redOf_rev {f : Int} {a : Arr} {t : List Nat} {k : Nat} (hm : Mono f) (h : Ok a t) (hk : k < t.length) : redOf f (rev k a) t k = redOf f a t k := by
  unfold rev
  rw [h.nsh_eq]
  exact redOf_pull hm h hk (fun i hi => rev_lt hi) (range_rev _)
theorem redOf_rot {f : Int} {a : Arr} {t : List Nat} {k : Nat} {n : Int} (hm : Mono f) (h : Ok a t) (hk : k < t.length) : redOf f (rot n k a) t k = redOf f a t k := by
  unfold rot
  rw [h.nsh_eq]
  rcases Nat.eq_zero_or_pos (t.getD k 0) with h0 | h0
  · exact redOf_pull hm h hk (fun i hi => rot_lt hi) (by rw [h0]; exact List.Perm.refl _)
  · exact redOf_pull hm h hk (fun i hi => rot_lt hi) (range_rot _ _ (rotBy_lt h0))
theorem pull_wf {a : Arr} {t : List Nat} {k : Nat} {g : Nat → Nat} (hw : Wf a.da) : Wf (pull k g a).da := by
  intro x hx
  unfold pull tab at hx
  obtain ⟨p, -, rfl⟩ := List.mem_map.1 hx
  show (Lit.int .i64 (a.da.getD (place a.nsh ((coords a.nsh p).set k (g ((coords a.nsh p).getD k 0)))) 0)).wf = true
  rw [List.getD_eq_getElem?_getD]
  cases e : a.da[place a.nsh ((coords a.nsh p).set k (g ((coords a.nsh p).getD k 0)))]? with
  | none => decide
  | some y => exact hw _ (List.mem_of_getElem? e)
end Go.Proofs.YtojeggeimnenbaaDoor.P
namespace Go.Proofs.YtojeggeimnenbaaDoor
open Go Go.RowKit Go.Proofs.YtojeggeimnenbaaDoor.P
theorem reduce_mono {v : Value} {a : Arr} {t : List Nat} {w : World} {f : Int} {k : Nat} (ha : IsArr w v a) (h : Ok a t) (hk : k < t.length) (hm : Mono f) (hc : a.ch = false) (hw : Wf a.da) (he : redErr f t k = 0) :
    Calls Tryd.prog 10 #[.int .i64 f, .int .i64 k, v] w (GivesOk (redOf f a t k) w) := by
  refine (reduce_ok ha h hk (hm.tame.two 0 1) hc hw).mono fun e w' h6 => ?_
  rcases h6 with ⟨h7, -⟩ | ⟨-, h7⟩
  · exact absurd he h7
  · rcases h7 with ⟨-, h8⟩ | ⟨q, -, -, hz, -⟩
    · exact h8
    · exact absurd (hm.of_zero _) hz
theorem foldErr_zero {f axis : Int} {a : Arr} (h : foldErr f axis a = 0) : ∃ t k, Ok a t ∧ axis = ((k : Nat) : Int) ∧ k < t.length ∧ a.ch = false ∧ twoE f 0 1 = 0 := by
  unfold foldErr at h
  by_cases h0 : twoE f 0 1 ≠ 0
  · rw [if_pos h0] at h; exact absurd h h0
  rw [if_neg h0] at h
  by_cases h1 : arrErr a ≠ 0
  · rw [if_pos h1] at h; exact absurd h h1
  rw [if_neg h1] at h
  obtain ⟨t, ht⟩ := ok_of_arrErr (by simpa using h1)
  by_cases h2 : axis < 0 ∨ (a.sh.length : Int) ≤ axis
  · rw [if_pos h2] at h; omega
  rw [if_neg h2] at h
  have hl : a.sh.length = t.length := by rw [ht.sh, length_ints]
  refine ⟨t, axis.toNat, ht, by omega, by omega, ?_, by simpa using h0⟩
  cases hc : a.ch with
  | false => rfl
  | true => rw [hc] at h; simp at h
/-- A call of fold's: an array whose fold stands, or an error. -/
def FoldAns (r : Arr) (ok : Prop) (w : World) (e : Ending) (w' : World) : Prop := (ok ∧ GivesOk r w e w') ∨ (∃ x : Int, x ≠ 0 ∧ Fails zeroArr x w e w')
theorem reduce_ans {v : Value} {a : Arr} {w : World} {f axis : Int} (ha : IsArr w v a) (hw : Wf a.da) :
    (∃ t k, Ok a t ∧ axis = ((k : Nat) : Int) ∧ k < t.length ∧ a.ch = false ∧ twoE f 0 1 = 0 ∧
      Calls Tryd.prog 10 #[.int .i64 f, .int .i64 axis, v] w (FoldAns (redOf f a t k) (redErr f t k = 0 ∧ ∀ q, q < (lineF t k).1 * (lineF t k).2.2 → (ofR f (lnR a t k q)).2 = 0) w)) ∨
    (foldErr f axis a ≠ 0 ∧ Calls Tryd.prog 10 #[.int .i64 f, .int .i64 axis, v] w (Fails zeroArr (foldErr f axis a) w)) := by
  by_cases hE : foldErr f axis a = 0
  · obtain ⟨t, k, h, rfl, hk, hc, hf⟩ := foldErr_zero hE
    refine .inl ⟨t, k, h, rfl, hk, hc, hf, (reduce_ok ha h hk hf hc hw).mono fun e w' h6 => ?_⟩
    rcases h6 with ⟨h7, h8⟩ | ⟨h7, h8⟩
    · exact .inr ⟨_, h7, h8⟩
    · rcases h8 with ⟨h9, h10⟩ | ⟨q, -, -, hz, h10⟩
      · exact .inl ⟨⟨h7, h9⟩, h10⟩
      · exact .inr ⟨_, hz, h10⟩
  · exact .inr ⟨hE, reduce_bad ha hE⟩
end Go.Proofs.YtojeggeimnenbaaDoor
