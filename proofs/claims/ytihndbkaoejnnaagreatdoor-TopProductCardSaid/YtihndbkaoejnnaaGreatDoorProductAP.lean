/- What the card TopProduct leans on: ActZip, ProdPlain, RecProd, ValRec. Conditions: none but those of its theorems. -/
import Derived.Test.YtihndbkaoejnnaaGreatDoorProductAI
import Derived.Test.YtihndbkaoejnnaaGreatDoorProductAB
import Derived.Test.YtihndbkaoejnnaaGreatDoorProductAO
import Derived.Test.YtihndbkaoejnnaaGreatDoorProductG
import Derived.Test.YtihndbkaoejnnaaGreatDoorProductY
set_option linter.unusedSimpArgs false
set_option linter.unusedVariables false
namespace Go.Proofs.YtihndbkaoejnnaaGreatDoor
open Go Go.RowKit Go.Proofs.YtihndbkaoejnnaaGreatDoor.P

theorem cell_no_err {f : Int} (hf : f = 1 ∨ f = 2 ∨ f = 3 ∨ f = 8) (ca cb : Bool) (x y : Int) : cellE ca cb f x y = 0 := by
  unfold cellE
  split
  · rfl
  · exact twoE_ok (by omega) (by omega) (by omega) (by omega)
theorem eachErr_same {f : Int} {a b : Arr} {t : List Nat} (hf : f = 1 ∨ f = 2 ∨ f = 3 ∨ f = 8) (ha : Ok a t) (hb : Ok b t) (hc : f = 8 ∨ (a.ch = false ∧ b.ch = false)) : eachErr f a b = 0 := by
  have hs : a.sh = b.sh := by rw [ha.sh, hb.sh]
  unfold eachErr
  rw [if_neg (by rw [twoE_ok (by omega) (by omega) (by omega) (by omega)]; simp), if_neg (by rw [arrErr_ok ha]; simp), if_neg (by rw [arrErr_ok hb]; simp)]
  rw [hs]
  simp only [ne_eq, not_true_eq_false, if_false]
  rcases hc with rfl | ⟨h1, h2⟩
  · simp
  · simp [h1, h2]
theorem act_zip {f : Int} {a b : Arr} {t : List Nat} (hf : f = 1 ∨ f = 2 ∨ f = 3 ∨ f = 8) (ha : Ok a t) (hb : Ok b t) (hc : f = 8 ∨ (a.ch = false ∧ b.ch = false)) (hwb : Wf b.da) : ActTwo 0 f 0 a b (zipA f a b) :=
  two_both (arrErr_ok ha) (arrErr_ok hb) (by omega) (fun W => known_cells hf 0 W) (both_cells hf (fun W v1 v2 h1 h2 => each_zip_new h1 h2 hwb ha hb ⟨eachErr_same hf ha hb hc, fun i _ => cell_no_err hf _ _ _ _⟩))

end Go.Proofs.YtihndbkaoejnnaaGreatDoor

namespace Go.Proofs.YtihndbkaoejnnaaGreatDoor.P
open Go Go.RowKit
/-- The product of the first numbers, each step in a word. -/
def recN : Nat → Int
  | 0 => 1
  | m + 1 => wrap64 (((m + 1 : Nat) : Int) * recN m)
def factI : Nat → Int
  | 0 => 1
  | m + 1 => ((m + 1 : Nat) : Int) * factI m
def iprod : List Int → Int
  | [] => 1
  | x :: l => x * iprod l
/-- The numbers from 1 on. -/
def upTo (n : Nat) : List Int := (List.range n).map fun i : Nat => (i : Int) + 1
theorem mul_word (a b : Int) : twoV 3 a b = wrap64 (a * b) := by unfold twoV; simp
theorem add_word (a b : Int) : twoV 1 a b = wrap64 (a + b) := by unfold twoV; simp
theorem rec_fact : ∀ m : Nat, recN m = wrap64 (factI m)
  | 0 => by
    show (1 : Int) = wrap64 1
    unfold wrap64; omega
  | m + 1 => by
    show wrap64 (_ * recN m) = wrap64 (_ * factI m)
    rw [rec_fact m, wrap_mul_r]
theorem iprod_append (a b : List Int) : iprod (a ++ b) = iprod a * iprod b := by
  induction a with
  | nil => simp [iprod]
  | cons x a ih => simp only [List.cons_append, iprod, ih, Int.mul_assoc]
theorem upTo_succ (n : Nat) : upTo (n + 1) = upTo n ++ [(n : Int) + 1] := by simp [upTo, List.range_succ]
theorem upTo_len (n : Nat) : (upTo n).length = n := by simp [upTo]
theorem iprod_upTo : ∀ n : Nat, iprod (upTo n) = factI n
  | 0 => rfl
  | n + 1 => by
    rw [upTo_succ, iprod_append, iprod_upTo n]
    simp only [iprod, factI, Int.mul_one, Int.natCast_add, Int.natCast_one]
    exact Int.mul_comm _ _
theorem of_prod : ∀ {l : List Int}, (∀ x ∈ l, wrap64 x = x) → (ofR 3 l).1 = wrap64 (iprod l)
  | [], _ => by
    show neutV 3 = wrap64 1
    rw [show neutV 3 = 1 by decide]
    unfold wrap64; omega
  | [x], h => by
    show x = wrap64 (x * 1)
    rw [Int.mul_one, h x List.mem_cons_self]
  | x :: y :: l, h => by
    have ht : (ofR 3 (y :: l)).2 = 0 := Tame.of (by unfold Tame; omega) (by simp)
    rw [ofR_cons (by simp), if_neg (by rw [ht]; simp)]
    show twoV 3 x (ofR 3 (y :: l)).1 = _
    rw [of_prod (fun z hz => h z (List.mem_cons_of_mem _ hz)), mul_word, wrap_mul_r]
    rfl
theorem upTo_mem {n : Nat} {x : Int} (h : x ∈ upTo n) : 1 ≤ x ∧ x ≤ n := by
  simp only [upTo, List.mem_map, List.mem_range] at h
  obtain ⟨i, hi, rfl⟩ := h
  omega
theorem prod_fold {n : Nat} (hn : n ≤ 4096) : (ofR 3 (upTo n)).1 = recN n := by
  rw [of_prod (fun x hx => by have := upTo_mem hx; unfold wrap64; omega), iprod_upTo, rec_fact]
theorem prod_fine (n : Nat) : (ofR 3 (upTo n)).2 = 0 := by
  by_cases h : upTo n = []
  · rw [h]; decide
  · exact Tame.of (by unfold Tame; omega) h
theorem wf_word {x : Int} (h1 : -9223372036854775808 ≤ x) (h2 : x ≤ 9223372036854775807) : (Lit.int .i64 x).wf = true := by
  simp [Lit.wf, IntKind.min, IntKind.max, IntKind.bits, IntKind.signed]; omega
theorem upTo_wf {n : Nat} (hn : n ≤ 4096) : Wf (upTo n) := fun x hx => by
  have := upTo_mem hx
  exact wf_word (by omega) (by omega)
theorem rec_word (m : Nat) : -9223372036854775808 ≤ recN m ∧ recN m ≤ 9223372036854775807 := by
  rw [rec_fact]; unfold wrap64; omega
theorem upTo_ok {n : Nat} (h : n ≤ 4096) : Ok ⟨false, [(n : Int)], upTo n⟩ [n] := by
  refine ⟨rfl, ⟨by simp, fun m hm => ?_, by simpa [prod] using h⟩, by simp [upTo, prod], fun h => by cases h⟩
  simp at hm
  omega
end Go.Proofs.YtihndbkaoejnnaaGreatDoor.P
namespace Go.Proofs.YtihndbkaoejnnaaGreatDoor
open Go Go.RowKit Go.Proofs.YtihndbkaoejnnaaGreatDoor.P

theorem zip_num (f x y : Int) : zipA f ⟨false, [], [x]⟩ ⟨false, [], [y]⟩ = ⟨false, [], [twoV f x y]⟩ := rfl
theorem wf_one {x : Int} (h : (Lit.int .i64 x).wf = true) : Wf [x] := fun y hy => by simp at hy; rw [hy]; exact h
/-- What prim answers of two numbers. -/
theorem act_nums {f x y : Int} (hf : f = 1 ∨ f = 2 ∨ f = 3 ∨ f = 8) (hy : (Lit.int .i64 y).wf = true) : ActTwo 0 f 0 ⟨false, [], [x]⟩ ⟨false, [], [y]⟩ ⟨false, [], [twoV f x y]⟩ :=
  zip_num f x y ▸ act_zip hf (ok_num x) (ok_num y) (.inr ⟨rfl, rfl⟩) (wf_one hy)
/-- What prim answers of a number and a list of numbers. -/
theorem act_first {f x : Int} {b : Arr} {n : Nat} (hf : f = 1 ∨ f = 2 ∨ f = 3 ∨ f = 8) (hb : Ok b [n]) (hc : b.ch = false) (hw : Wf b.da) : ActTwo 0 f 0 ⟨false, [], [x]⟩ b ⟨false, b.sh, (List.range b.da.length).map fun i => twoV f x (b.da.getD i 0)⟩ := by
  have he : eachErr f ⟨false, [], [x]⟩ b = 0 := by
    unfold eachErr
    rw [if_neg (by rw [twoE_ok (by omega) (by omega) (by omega) (by omega)]; simp), if_neg (by rw [arrErr_ok (ok_num x)]; simp), if_neg (by rw [arrErr_ok hb]; simp)]
    rw [if_pos (.inl rfl), if_neg (by rw [hc]; simp)]
  refine two_both (arrErr_ok (ok_num x)) (arrErr_ok hb) (by omega) (fun W => known_cells hf 0 W) (both_cells hf (fun W v1 v2 h1 h2 => (each_new h1 h2 hw).mono fun e w' h => ?_))
  rcases h with ⟨h1, -⟩ | ⟨-, h2⟩
  · exact absurd he h1
  · rcases h2 with ⟨-, h3⟩ | ⟨i, hi, -, hne, -⟩
    · have e1 : (fun i => cellV (⟨false, [], [x]⟩ : Arr).ch b.ch f (oneAt ⟨false, [], [x]⟩ b i) (twoAt ⟨false, [], [x]⟩ b i)) = fun i => twoV f x (b.da.getD i 0) := by
        funext i
        rw [hc]
        rfl
      rw [e1] at h3
      exact h3
    · exact absurd (cell_no_err hf _ _ _ _) hne
theorem act_count {n : Nat} (hn : n ≤ 4096) : ActTwo 0 1 0 ⟨false, [], [1]⟩ (firstNums n) ⟨false, [(n : Int)], upTo n⟩ := by
  have hl : (firstNums n).da.length = n := by simp [firstNums, ints]
  have e : ((List.range (firstNums n).da.length).map fun i => twoV 1 1 ((firstNums n).da.getD i 0)) = upTo n := by
    rw [hl]
    refine List.map_congr_left fun i hi => ?_
    have hi := List.mem_range.1 hi
    have hg : (firstNums n).da.getD i 0 = (i : Int) := by
      rw [List.getD_eq_getElem?_getD]
      simp [firstNums, ints, hi]
    rw [hg]
    rw [add_word]
    unfold wrap64; omega
  have hw : Wf (firstNums n).da := fun x hx => by
    simp only [firstNums, ints, List.mem_map, List.mem_range] at hx
    obtain ⟨i, hi, rfl⟩ := hx
    exact wf_word (by omega) (by omega)
  have h := act_first (x := 1) (.inl rfl) (firstNums_ok hn) rfl hw
  rw [e] at h
  exact h

end Go.Proofs.YtihndbkaoejnnaaGreatDoor

namespace Go.Proofs.YtihndbkaoejnnaaGreatDoor
open Go Go.RowKit Go.Proofs.YtihndbkaoejnnaaGreatDoor.P

/-- The function's nodes stand there. -/
structure RecNds (ns : List Nd) : Prop where
  t1 : ns[1]? = some ⟨7, 0, 8, 0, 0, [], ⟨#[]⟩⟩
  t2 : ns[2]? = some ⟨5, 0, 0, 0, 0, [], ⟨#[]⟩⟩
  t3 : ns[3]? = some ⟨1, 0, 0, 0, 0, [0], ⟨#[]⟩⟩
  t4 : ns[4]? = some ⟨1, 0, 0, 0, 0, [1], ⟨#[]⟩⟩
  t5 : ns[5]? = some ⟨7, 0, 3, 0, 0, [], ⟨#[]⟩⟩
  t6 : ns[6]? = some ⟨5, 0, 0, 0, 0, [], ⟨#[]⟩⟩
  t7 : ns[7]? = some ⟨6, 7, 0, 0, 0, [], ⟨#[]⟩⟩
  t8 : ns[8]? = some ⟨7, 0, 2, 0, 0, [], ⟨#[]⟩⟩
  t9 : ns[9]? = some ⟨5, 0, 0, 0, 0, [], ⟨#[]⟩⟩
  t10 : ns[10]? = some ⟨1, 0, 0, 0, 0, [1], ⟨#[]⟩⟩
theorem skip_leaf {ns : List Nd} {a : Nat} {x : Nd} (h : ns[a]? = some x) (h2 : x.more = 0) (h3 : x.n = 0) : Skips ns a 1 (a + 1) :=
  .node h (e := 0) (by rw [h2]; rfl) (by omega) (by omega) (by decide) (.done (a + 1))
theorem RecNds.skip1 {ns : List Nd} (h : RecNds ns) : Skips ns 1 1 4 :=
  .node h.t1 (e := 2) (by decide) (by decide) (by decide) (by decide) (.node h.t2 (e := 0) (by decide) (by decide) (by decide) (by decide) (.node h.t3 (e := 0) (by decide) (by decide) (by decide) (by decide) (.done 4)))
theorem RecNds.skip4 {ns : List Nd} (h : RecNds ns) : Skips ns 4 1 5 := skip_leaf h.t4 (by decide) rfl
theorem RecNds.skip5 {ns : List Nd} (h : RecNds ns) : Skips ns 5 1 11 :=
  .node h.t5 (e := 2) (by decide) (by decide) (by decide) (by decide) (.node h.t6 (e := 0) (by decide) (by decide) (by decide) (by decide) (.node h.t7 (e := 1) (by decide) (by decide) (by decide) (by decide) (.node h.t8 (e := 2) (by decide) (by decide) (by decide) (by decide) (.node h.t9 (e := 0) (by decide) (by decide) (by decide) (by decide) (.node h.t10 (e := 0) (by decide) (by decide) (by decide) (by decide) (.done 11))))))

theorem rec_cond {ns : List Nd} (h : RecNds ns) (bs : List Bd) (m d : Nat) : ValAt (some ⟨⟨false, [], [(m : Int)]⟩, ns, 1, 1, d⟩) bs ns 1 3 ⟨false, [], [twoV 8 m 0]⟩ := by
  have e1 : ValAt (some ⟨⟨false, [], [(m : Int)]⟩, ns, 1, 1, d⟩) bs ns 2 1 ⟨false, [], [(m : Int)]⟩ := v_omega h.t2
  have e2 : ValAt (some ⟨⟨false, [], [(m : Int)]⟩, ns, 1, 1, d⟩) bs ns 3 1 ⟨false, [], [0]⟩ := v_nums h.t3 (by decide)
  exact v_two h.t1 (acted_two (m := 3) h.t1 (by decide) (by decide) (skip_leaf h.t2 (by decide) rfl) (by decide) e2 e1 (act_nums (by omega) (by decide)))
theorem twoV_eq (x y : Int) : twoV 8 x y = bitV (x = y) := by unfold twoV; simp
theorem twoV_sub (x y : Int) : twoV 2 x y = wrap64 (x - y) := by unfold twoV; simp
theorem rec_run {ns : List Nd} (h : RecNds ns) (bs : List Bd) : ∀ m d : Nat, m + d ≤ 50 → RunAt ⟨⟨false, [], [(m : Int)]⟩, ns, 1, 1, d⟩ bs (11 * m + 6) ⟨false, [], [recN m]⟩
  | 0, d, hd => by
    have hV : ValAt (some ⟨⟨false, [], [((0 : Nat) : Int)]⟩, ns, 1, 1, d⟩) bs ns 4 1 ⟨false, [], [1]⟩ := v_nums h.t4 (by decide)
    exact run_any (env := ⟨⟨false, [], [((0 : Nat) : Int)]⟩, ns, 1, 1, d⟩) rfl (by show d ≤ 50; omega) (rec_cond h bs 0 d) h.skip1 (.inl ⟨by decide, rfl⟩) hV
  | m + 1, d, hd => by
    have hsub : twoV 2 ((m + 1 : Nat) : Int) 1 = (m : Int) := by rw [twoV_sub]; unfold wrap64; omega
    have hm0 : twoV 8 ((m + 1 : Nat) : Int) 0 = 0 := by rw [twoV_eq]; unfold bitV; rw [if_neg (by omega)]
    have ih := rec_run h bs m (d + 1) (by omega)
    have e9 : ValAt (some ⟨⟨false, [], [((m + 1 : Nat) : Int)]⟩, ns, 1, 1, d⟩) bs ns 9 1 ⟨false, [], [((m + 1 : Nat) : Int)]⟩ := v_omega h.t9
    have e10 : ValAt (some ⟨⟨false, [], [((m + 1 : Nat) : Int)]⟩, ns, 1, 1, d⟩) bs ns 10 1 ⟨false, [], [1]⟩ := v_nums h.t10 (by decide)
    have e8 := v_two h.t8 (acted_two (m := 10) h.t8 (by decide) (by decide) (skip_leaf h.t9 (by decide) rfl) (by decide) e10 e9 (act_nums (by omega) (by decide)))
    rw [hsub] at e8
    have e7 := v_one h.t7 (acted_self h.t7 e8 ih)
    have e6 : ValAt (some ⟨⟨false, [], [((m + 1 : Nat) : Int)]⟩, ns, 1, 1, d⟩) bs ns 6 1 ⟨false, [], [((m + 1 : Nat) : Int)]⟩ := v_omega h.t6
    have hw := rec_word m
    have e5 := v_two h.t5 (acted_two (m := 7) h.t5 (by decide) (by decide) (skip_leaf h.t6 (by decide) rfl) (by decide) e7 e6 (act_nums (f := 3) (by omega) (wf_word hw.1 hw.2)))
    rw [mul_word] at e5
    have hr := run_any (env := ⟨⟨false, [], [((m + 1 : Nat) : Int)]⟩, ns, 1, 1, d⟩) rfl (by show d ≤ 50; omega) (rec_cond h bs (m + 1) d) h.skip1 (.inr ⟨hm0, h.skip4⟩) e5
    rw [show 11 * (m + 1) + 6 = 1 + 1 + 1 + 1 + (1 + (1 + 1 + 1 + 1 + (11 * m + 6)) + 1) + 1 by omega]
    exact hr

end Go.Proofs.YtihndbkaoejnnaaGreatDoor

namespace Go.Proofs.YtihndbkaoejnnaaGreatDoor
open Go Go.RowKit Go.Proofs.YtihndbkaoejnnaaGreatDoor.P

/-- Where the function's expressions stand. -/
def recAt : Nat → Nat
  | 0 => 1
  | 1 => 4
  | 2 => 5
  | _ => 11
theorem RecNds.skips {ns : List Nd} (h : RecNds ns) : ∀ i, i < 3 → Skips ns (recAt i) 1 (recAt (i + 1))
  | 0, _ => h.skip1
  | 1, _ => h.skip4
  | 2, _ => h.skip5
  | i + 3, hi => absurd hi (by omega)
theorem recAt_le : ∀ i, recAt i ≤ 11
  | 0 => by decide
  | 1 => by decide
  | 2 => by decide
  | _ + 3 => Nat.le_refl 11
theorem rec_line {ns : List Nd} (h : RecNds ns) (h0 : ns[0]? = some ⟨6, 6, 0, 0, 1, [], ⟨#[]⟩⟩) {bs : List Bd} {n : Nat} (hn : n ≤ 49) (hV : ValAt none bs ns 11 1 ⟨false, [], [(n : Int)]⟩) : ValAt none bs ns 0 (1 + 1 + (11 * n + 6)) ⟨false, [], [recN n]⟩ :=
  v_one h0 (acted_dfn recAt rfl h.skips (fun i _ => Nat.le_trans (recAt_le i) (by decide)) h0 hV (rec_run h bs n 1 (by omega)))
theorem recNds_prodn : RecNds nodes_prodn := ⟨rfl, rfl, rfl, rfl, rfl, rfl, rfl, rfl, rfl, rfl⟩
theorem recNds_prod5 : RecNds nodes_prod5 := ⟨rfl, rfl, rfl, rfl, rfl, rfl, rfl, rfl, rfl, rfl⟩
theorem val_prodn {bs : List Bd} {n : Nat} (hn : n ≤ 49) (hv0 : ∃ i, bs[i]? = some (⟨#[110]⟩, ⟨false, [], [(n : Int)]⟩) ∧ ∀ x ∈ bs.take i, x.1 ≠ ⟨#[110]⟩) : ValAt none bs nodes_prodn 0 (1 + 1 + (11 * n + 6)) ⟨false, [], [recN n]⟩ :=
  rec_line recNds_prodn rfl hn (v_var (ns := nodes_prodn) (at_ := 11) rfl hv0)
theorem rec_five : recN 5 = 120 := by
  rw [rec_fact, show factI 5 = 120 by simp [factI]]
  unfold wrap64; omega
theorem val_prod5 {bs : List Bd} : ValAt none bs nodes_prod5 0 (1 + 1 + (11 * 5 + 6)) ⟨false, [], [120]⟩ :=
  rec_five ▸ rec_line (n := 5) recNds_prod5 rfl (by decide) (v_nums (ns := nodes_prod5) (at_ := 11) (xs := [5]) rfl (by decide))

end Go.Proofs.YtihndbkaoejnnaaGreatDoor
