/- Plain facts: digits' value, as a number without bounds, and what is left of it in 64 bits. Conditions: none. -/
import Derived.Test.YtfaojciballhnaaMem
set_option linter.unusedSimpArgs false
set_option linter.unusedVariables false
namespace Go.Proofs.Ytfaojciballhnaa.P
open Go Go.RowKit

theorem wrap_eq (n : Int) : ∃ q : Int, wrap64 n = n + q * 18446744073709551616 := by
  unfold wrap64
  exact ⟨-((n + 9223372036854775808) / 18446744073709551616), by omega⟩
theorem wrap_congr {a b : Int} (h : ∃ q : Int, a = b + q * 18446744073709551616) : wrap64 a = wrap64 b := by
  obtain ⟨q, rfl⟩ := h
  unfold wrap64
  omega
theorem wrap_add_l (a b : Int) : wrap64 (wrap64 a + b) = wrap64 (a + b) := by
  obtain ⟨q, e⟩ := wrap_eq a
  exact wrap_congr ⟨q, by rw [e]; omega⟩
theorem wrap_add_r (a b : Int) : wrap64 (a + wrap64 b) = wrap64 (a + b) := by
  rw [Int.add_comm, wrap_add_l, Int.add_comm]
theorem wrap_mul_l (a b : Int) : wrap64 (wrap64 a * b) = wrap64 (a * b) := by
  obtain ⟨q, e⟩ := wrap_eq a
  exact wrap_congr ⟨q * b, by rw [e, Int.add_mul, Int.mul_right_comm]⟩
theorem wrap_mul_r (a b : Int) : wrap64 (a * wrap64 b) = wrap64 (a * b) := by
  rw [Int.mul_comm, wrap_mul_l, Int.mul_comm]

def hv (bs ds : List Int) : Int := (bs.zip ds).foldl (fun n p => n * p.1 + p.2) 0
def prd (bs : List Int) : Int := bs.foldl (fun n b => n * b) 1

theorem foldl_from (l : List (Int × Int)) : ∀ n m : Int, l.foldl (fun n p => n * p.1 + p.2) (n + m) = n * (l.map Prod.fst).foldl (fun n b => n * b) 1 + l.foldl (fun n p => n * p.1 + p.2) m := by
  have hm : ∀ (l : List Int) (a b : Int), l.foldl (fun n b => n * b) (a * b) = a * l.foldl (fun n b => n * b) b := by
    intro l
    induction l with
    | nil => intro a b; rfl
    | cons x xs ih => intro a b; rw [List.foldl_cons, List.foldl_cons, Int.mul_assoc, ih]
  induction l with
  | nil => intro n m; simp
  | cons p l ih =>
    intro n m
    rw [List.foldl_cons, List.foldl_cons, List.map_cons, List.foldl_cons, show (n + m) * p.1 + p.2 = n * p.1 + (m * p.1 + p.2) by rw [Int.add_mul, Int.add_assoc], ih, Int.one_mul]
    have := hm (l.map Prod.fst) p.1 1
    rw [Int.mul_one] at this
    rw [this, Int.mul_assoc]

theorem map_fst_zip' : ∀ {a b : List Int}, a.length = b.length → (a.zip b).map Prod.fst = a
  | [], _, _ => by simp
  | x :: xs, [], h => by simp at h
  | x :: xs, y :: ys, h => by simp [map_fst_zip' (a := xs) (b := ys) (by simpa using h)]

theorem hv_append {b c d e : List Int} (h1 : d.length = b.length) (h2 : e.length = c.length) : hv (b ++ c) (d ++ e) = hv b d * prd c + hv c e := by
  unfold hv prd
  rw [List.zip_append h1.symm, List.foldl_append]
  have := foldl_from (c.zip e) (List.foldl (fun n p => n * p.1 + p.2) 0 (b.zip d)) 0
  rw [Int.add_zero] at this
  rw [this, map_fst_zip' h2.symm]

def sums (e f : List Int) : List Int := (e.zip f).map fun p => p.1 + p.2

theorem hv_add : ∀ (c e f : List Int) (m n : Int), e.length = c.length → f.length = c.length →
    (c.zip (sums e f)).foldl (fun n p => n * p.1 + p.2) (m + n) = (c.zip e).foldl (fun n p => n * p.1 + p.2) m + (c.zip f).foldl (fun n p => n * p.1 + p.2) n
  | [], e, f, m, n, _, _ => by simp
  | x :: c, [], f, m, n, h, _ => by simp at h
  | x :: c, y :: e, [], m, n, _, h => by simp at h
  | x :: c, y :: e, z :: f, m, n, h1, h2 => by
    have ih := hv_add c e f (m * x + y) (n * x + z) (by simpa using h1) (by simpa using h2)
    simp only [sums, List.zip_cons_cons, List.map_cons, List.foldl_cons] at ih ⊢
    rw [← ih, Int.add_mul]
    congr 1
    omega

theorem hv_sums {c e f : List Int} (h1 : e.length = c.length) (h2 : f.length = c.length) : hv c (sums e f) = hv c e + hv c f := by
  have := hv_add c e f 0 0 h1 h2
  simpa [hv] using this

/-- The value does not see what is lost in 64 bits. -/
theorem hv_wrap : ∀ (c e g : List Int) (m n : Int), g.length = c.length → e.length = c.length → (∀ (k : Nat) (x y : Int), e[k]? = some x → g[k]? = some y → y = wrap64 x) → (∃ q : Int, m = n + q * 18446744073709551616) →
    ∃ q : Int, (c.zip g).foldl (fun n p => n * p.1 + p.2) m = (c.zip e).foldl (fun n p => n * p.1 + p.2) n + q * 18446744073709551616
  | [], e, g, m, n, _, _, _, h => by simpa using h
  | x :: c, e, [], m, n, h, _, _, _ => by simp at h
  | x :: c, [], z :: g, m, n, _, h, _, _ => by simp at h
  | x :: c, y :: e, z :: g, m, n, h1, h2, h3, ⟨q, hq⟩ => by
    simp only [List.zip_cons_cons, List.foldl_cons]
    refine hv_wrap c e g _ _ (by simpa using h1) (by simpa using h2) (fun k a b ha hb => h3 (k + 1) a b (by simpa using ha) (by simpa using hb)) ?_
    have hz := h3 0 y z rfl rfl
    obtain ⟨r, hr⟩ := wrap_eq y
    exact ⟨q * x + r, by rw [hz, hr, hq, Int.add_mul, Int.add_mul, Int.mul_right_comm]; omega⟩

theorem hv_take {bs ds : List Int} {k : Nat} {b d : Int} (hb : bs[k]? = some b) (hd : ds[k]? = some d) : hv (bs.take (k + 1)) (ds.take (k + 1)) = hv (bs.take k) (ds.take k) * b + d := by
  have hl : (bs.take k).length = (ds.take k).length := by
    have h1 : k < bs.length := (List.getElem?_eq_some_iff.1 hb).1
    have h2 : k < ds.length := (List.getElem?_eq_some_iff.1 hd).1
    simp; omega
  unfold hv
  rw [List.take_add_one, List.take_add_one, hb, hd, Option.toList, Option.toList, List.zip_append hl, List.foldl_append]
  rfl
theorem prd_take {bs : List Int} {k : Nat} {b : Int} (hb : bs[k]? = some b) : prd (bs.take (k + 1)) = prd (bs.take k) * b := by
  unfold prd
  rw [List.take_add_one, hb, Option.toList, List.foldl_append]
  rfl

/-- HORNER, in 64 bits. -/
theorem horner {b c d e : List Int} (h1 : d.length = b.length) (h2 : e.length = c.length) :
    wrap64 (hv (b ++ c) (d ++ e)) = wrap64 (wrap64 (wrap64 (hv b d) * wrap64 (prd c)) + wrap64 (hv c e)) := by
  rw [wrap_add_r, wrap_mul_r, wrap_mul_l, wrap_add_l, hv_append h1 h2]

theorem horner_sum {c e f g : List Int} (h1 : e.length = c.length) (h2 : f.length = c.length) (h3 : g.length = c.length) (hg : ∀ (k : Nat) (x y : Int), (sums e f)[k]? = some x → g[k]? = some y → y = wrap64 x) :
    wrap64 (hv c g) = wrap64 (wrap64 (hv c e) + wrap64 (hv c f)) := by
  rw [wrap_add_l, wrap_add_r, ← hv_sums h1 h2]
  exact wrap_congr (hv_wrap c (sums e f) g 0 0 h3 (by simp [sums, h1, h2]) hg ⟨0, by simp⟩)

theorem sums_at {e f : List Int} {k : Nat} {x y : Int} (hx : e[k]? = some x) (hy : f[k]? = some y) : (sums e f)[k]? = some (x + y) := by
  have h : (e.zip f)[k]? = some (x, y) := List.getElem?_zip_eq_some.2 ⟨hx, hy⟩
  simp only [sums, List.getElem?_map, h, Option.map_some]

def SumsTo (k : Nat) (e f g : List Int) : Prop := ∀ (j : Nat) (x y : Int), j < k → (sums e f)[j]? = some x → g[j]? = some y → y = wrap64 x
theorem SumsTo.zero (e f g : List Int) : SumsTo 0 e f g := fun j x y h => by omega
theorem SumsTo.succ {k : Nat} {e f g : List Int} {x y : Int} (h : SumsTo k e f g) (hx : e[k]? = some x) (hy : f[k]? = some y) (hk : k < g.length) : SumsTo (k + 1) e f (g.set k (wrap64 (x + y))) := by
  intro j u v hj hu hv
  by_cases e1 : j = k
  · subst e1
    rw [sums_at hx hy] at hu
    rw [List.getElem?_set_self hk] at hv
    injection hu with hu
    injection hv with hv
    rw [← hu, hv]
  · rw [List.getElem?_set_ne (by omega)] at hv
    exact h j u v (by omega) hu hv

end Go.Proofs.Ytfaojciballhnaa.P
