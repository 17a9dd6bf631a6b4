/- Sums so far, sums of some: the plain law. Conditions: none but these. -/
import Derived.Test.YtojeggeimnenbaaDoorClimbPlain
import Derived.Test.YtojeggeimnenbaaDoorSwingPlain
import Derived.Test.YtojeggeimnenbaaDoorFoldWin
import Derived.Test.YtojeggeimnenbaaDoorFubini
set_option linter.unusedSimpArgs false
set_option linter.unusedVariables false
namespace Go.Proofs.YtojeggeimnenbaaDoor.P
open Go Go.RowKit
def isum : List Int → Int
  | [] => 0
  | x :: l => x + isum l
theorem isum_append (a b : List Int) : isum (a ++ b) = isum a + isum b := by
  induction a with
  | nil => simp [isum]
  | cons x a ih => simp only [List.cons_append, isum, ih]; omega
theorem S_sum : ∀ {l : List Int}, (∀ x ∈ l, Word x) → S 1 l = wrap64 (isum l)
  | [], _ => by rw [S_nil, isum, show neutV 1 = 0 by decide]; unfold wrap64; omega
  | x :: l, h => by
    rw [S_cons (.inl rfl) (h x List.mem_cons_self), S_sum fun y hy => h y (List.mem_cons_of_mem _ hy), two_add, isum, wrap_add_r]
theorem wf_words {d : List Int} (h : Wf d) : ∀ x ∈ d, Word x := fun x hx => word_wf.1 (h x hx)
/-- What each window folds to. -/
def win1 (f : Int) (d : List Int) (n : Nat) : List Int := (List.range (d.length - n + 1)).map fun q => (ofR f ((d.drop q).take n)).1
theorem win1_len (f : Int) (d : List Int) (n : Nat) : (win1 f d n).length = d.length - n + 1 := by unfold win1; rw [List.length_map, List.length_range]
theorem win1_get {f : Int} {d : List Int} {n q : Nat} (h : q < d.length - n + 1) : (win1 f d n)[q]? = some (ofR f ((d.drop q).take n)).1 := by
  unfold win1
  rw [List.getElem?_map, List.getElem?_range h]; rfl
theorem one_lnW {a : Arr} {m n q : Nat} (h : Ok a [m]) (h1 : 1 ≤ n) (h2 : n ≤ m) (hq : q < m - n + 1) : Go.Proofs.YtojeggeimnenbaaDoor.lnW a [m] 0 n q = (a.da.drop q).take n := by
  have hl : a.da.length = m := by rw [h.len]; simp [prod]
  unfold Go.Proofs.YtojeggeimnenbaaDoor.lnW lnAt Go.Proofs.YtojeggeimnenbaaDoor.fline
  rw [one_line]
  refine List.ext_getElem? fun j => ?_
  simp only [List.getD_cons_zero, Nat.div_one, Nat.mod_one, Nat.mul_one, Nat.add_zero, Nat.mod_eq_of_lt hq, Nat.div_eq_of_lt hq, Nat.zero_mul, Nat.zero_add, List.getElem?_map]
  rw [List.getElem?_take]
  by_cases hj : j < n
  · rw [if_pos hj, List.getElem?_range hj, List.getElem?_drop, Option.map_some, List.getD_eq_getElem?_getD, List.getElem?_eq_getElem (show q + j < a.da.length by omega)]; rfl
  · rw [if_neg hj, List.getElem?_eq_none (by rw [List.length_range]; omega)]; rfl
theorem sums_zero {f : Int} {d : List Int} {x y : Int} (hx : (scan1 f d)[0]? = some x) (hy : d[0]? = some y) : x = y := by
  have hq := (List.getElem?_eq_some_iff.1 hy).1
  rw [scan1_get hq] at hx; injection hx with hx; subst hx
  cases d with
  | nil => simp at hq
  | cons z d => simp at hy; subst hy; simp [ofR]
theorem wrap_sub (x y : Int) : wrap64 (wrap64 x - wrap64 y) = wrap64 (x - y) := by unfold wrap64; omega
theorem take_more {d : List Int} {k n : Nat} : d.take (k + n) = d.take k ++ (d.drop k).take n := by
  rw [List.take_add]
theorem scan_sum {d : List Int} (hw : Wf d) {q : Nat} {x : Int} (hx : (scan1 1 d)[q]? = some x) : x = wrap64 (isum (d.take (q + 1))) := by
  have hl := (List.getElem?_eq_some_iff.1 hx).1
  rw [scan1_len] at hl
  rw [scan1_get hl] at hx; injection hx with hx; subst hx
  exact S_sum fun x hx => wf_words hw x (List.mem_of_mem_take hx)
theorem sums_step {d : List Int} (hw : Wf d) {j : Nat} {x y z : Int} (hx : (scan1 1 d)[j + 1]? = some x) (hz : (scan1 1 d)[j]? = some z) (hy : d[j + 1]? = some y) : wrap64 (x - z) = y := by
  rw [scan_sum hw hx, scan_sum hw hz, wrap_sub, take_more (k := j + 1), isum_append]
  have e : (d.drop (j + 1)).take 1 = [y] := by
    have h := (List.getElem?_eq_some_iff.1 hy)
    obtain ⟨hl, h2⟩ := h
    rw [List.drop_eq_getElem_cons hl, h2]; rfl
  rw [e, show isum [y] = y by simp [isum], show isum (d.take (j + 1)) + y - isum (d.take (j + 1)) = y by omega]
  exact word_same (wf_words hw y (List.mem_of_getElem? hy))
theorem win_sum {d : List Int} (hw : Wf d) {n q : Nat} {y : Int} (hy : (win1 1 d n)[q]? = some y) : y = wrap64 (isum ((d.drop q).take n)) := by
  have hl := (List.getElem?_eq_some_iff.1 hy).1
  rw [win1_len] at hl
  rw [win1_get hl] at hy; injection hy with hy; subst hy
  exact S_sum fun x hx => wf_words hw x (List.mem_of_mem_drop (List.mem_of_mem_take hx))
theorem wins_zero {d : List Int} (hw : Wf d) {n j : Nat} {x y : Int} (hn : n = j + 1) (hx : (scan1 1 d)[j]? = some x) (hy : (win1 1 d n)[0]? = some y) : x = y := by
  subst hn
  rw [scan_sum hw hx, win_sum hw hy]; rfl
theorem wins_step {d : List Int} (hw : Wf d) {n j i : Nat} {x y z : Int} (hi : i + 1 = j + 1 + n) (hx : (scan1 1 d)[i]? = some x) (hz : (scan1 1 d)[j]? = some z) (hy : (win1 1 d n)[j + 1]? = some y) : wrap64 (x - z) = y := by
  rw [scan_sum hw hx, scan_sum hw hz, wrap_sub, win_sum hw hy, hi, take_more (k := j + 1), isum_append]
  congr 1
  omega
end Go.Proofs.YtojeggeimnenbaaDoor.P
namespace Go.Proofs.YtojeggeimnenbaaDoor
open Go Go.RowKit Go.Proofs.YtojeggeimnenbaaDoor.P
theorem windows_vec {v : Value} {a : Arr} {m : Nat} {w : World} {f n : Int} (ha : IsArr w v a) (h : Ok a [m]) (hf : Tame f) (hc : a.ch = false) (hw : Wf a.da) (h1 : 1 ≤ n) (h2 : n ≤ (m : Int)) :
    Calls Tryd.prog 15 #[.int .i64 f, .int .i64 n, .int .i64 0, v] w (GivesOk ⟨false, [((m - n.toNat + 1 : Nat) : Int)], win1 f a.da n.toNat⟩ w) := by
  have hl : a.da.length = m := by rw [h.len]; simp [prod]
  refine (windows_ok (k := 0) n ha h (by simp) (hf.two 0 1) hc hw).mono fun e w' h6 => ?_
  have e1 : (lineF [m] 0).1 * (([m] : List Nat).getD 0 0 - n.toNat + 1) * (lineF [m] 0).2.2 = m - n.toNat + 1 := by rw [one_line]; simp
  have e2 : a.sh.set 0 (((([m] : List Nat).getD 0 0 - n.toNat + 1 : Nat)) : Int) = [((m - n.toNat + 1 : Nat) : Int)] := by rw [h.sh]; simp [ints]
  rcases h6 with ⟨h7, -⟩ | ⟨-, -, h7⟩
  · rcases h7 with h7 | h7
    · omega
    · have : n ≤ ((([m] : List Nat).getD 0 0 : Nat) : Int) := by simpa using h2
      omega
  · rw [e1, e2] at h7
    rcases h7 with ⟨-, h8⟩ | ⟨q, hq, -, hz, -⟩
    · have e : win1 f a.da n.toNat = (List.range (m - n.toNat + 1)).map fun q => (ofR f (lnW a [m] 0 n.toNat q)).1 := by
        unfold win1
        rw [hl]
        refine List.map_congr_left fun q hq => ?_
        rw [one_lnW h (by omega) (by omega) (List.mem_range.1 hq)]
      rw [e]; exact h8
    · rw [one_lnW h (by omega) (by omega) hq] at hz
      refine absurd (hf.of fun e => ?_) hz
      have := congrArg List.length e
      rw [List.length_take, List.length_drop, List.length_nil] at this
      omega
theorem windows_short {v : Value} {a : Arr} {m : Nat} {w : World} {f n : Int} (ha : IsArr w v a) (h : Ok a [m]) (hf : Tame f) (hc : a.ch = false) (hw : Wf a.da) (h1 : n < 1 ∨ (m : Int) < n) :
    Calls Tryd.prog 15 #[.int .i64 f, .int .i64 n, .int .i64 0, v] w (Fails zeroArr 4 w) := by
  refine (windows_ok (k := 0) n ha h (by simp) (hf.two 0 1) hc hw).mono fun e w' h6 => ?_
  rcases h6 with ⟨-, h7⟩ | ⟨h7, h8, -⟩
  · exact h7
  · have : n ≤ (m : Int) := by simpa using h8
    omega
end Go.Proofs.YtojeggeimnenbaaDoor
