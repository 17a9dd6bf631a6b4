/- Plain facts: the first ones of the first ones of a line. Conditions: none. -/
import Derived.Test.YtfemeaehpjajlaaCutLaw
namespace Go.Proofs.Ytfemeaehpjajlaa.P

theorem take_one {a : Arr} {l : Nat} {m : Int} (h : Ok a [l]) (h0 : 0 ≤ m) (h1 : m ≤ 4096) : takeErr [m] a = 0 ∧ Ok (take [m] a) [m.toNat] := by
  obtain ⟨k, rfl⟩ := Int.eq_ofNat_of_zero_le h0
  have e : takeSh [((k : Nat) : Int)] = [k] := by simp [takeSh]
  have hg : GoodSh (takeSh [((k : Nat) : Int)]) := by rw [e]; exact good_line (by omega)
  refine ⟨(takeErr_ok h rfl hg).1, ?_⟩
  have := take_ok h rfl hg
  rw [e] at this
  exact this
theorem drop_one {a : Arr} {l : Nat} {m : Int} (h : Ok a [l]) : dropErr [m] a = 0 ∧ ∃ k, Ok (drop [m] a) [k] := by
  refine ⟨dropErr_ok h rfl, ?_⟩
  have := drop_ok (n := [m]) h rfl
  simp only [dropSh, List.zipWith_cons_cons, List.zipWith_nil_left] at this
  exact ⟨_, this⟩
theorem again_less {a : Arr} {l : Nat} {m n : Int} (h : Ok a [l]) (m0 : 0 ≤ m) (m1 : m ≤ 4096) (n0 : 0 ≤ n) (n1 : n ≤ 4096) (hmn : n < m) : take [n] (take [n] (take [m] a)) = take [n] a := by
  obtain ⟨j, rfl⟩ := Int.eq_ofNat_of_zero_le m0
  obtain ⟨k, rfl⟩ := Int.eq_ofNat_of_zero_le n0
  have h1 := first_ok h (m := j) (by omega)
  have h2 := first_ok h1 (m := k) (by omega)
  rw [take_line h, take_line h, take_line h1, take_line h2, first_first (Nat.le_refl k), first_first (by omega)]
theorem again_more {a : Arr} {l : Nat} {m n : Int} (h : Ok a [l]) (m0 : 0 ≤ m) (m1 : m ≤ 4096) (n0 : 0 ≤ n) (n1 : n ≤ 4096) (hmn : m ≤ n) : take [m] (take [n] (take [m] a)) = take [m] a := by
  obtain ⟨j, rfl⟩ := Int.eq_ofNat_of_zero_le m0
  obtain ⟨k, rfl⟩ := Int.eq_ofNat_of_zero_le n0
  have h1 := first_ok h (m := j) (by omega)
  have h2 := first_ok h1 (m := k) (by omega)
  rw [take_line h, take_line h1, take_line h2, first_first (by omega), first_first (Nat.le_refl j)]
theorem again_drop {a : Arr} {l : Nat} {m n : Int} (h : Ok a [l]) (m0 : 0 ≤ m) (n0 : 0 ≤ n) : drop [n] (drop [m] a) = drop [m + n] a := by
  obtain ⟨j, rfl⟩ := Int.eq_ofNat_of_zero_le m0
  obtain ⟨k, rfl⟩ := Int.eq_ofNat_of_zero_le n0
  have h1 := part_ok h (k := 0) (lo := min j l) (len := l - min j l) (by simp) (by simp; omega)
  have e1 : ([l] : List Nat).set 0 (l - min j l) = [l - min j l] := rfl
  rw [e1] at h1
  have e2 : ((j : Nat) : Int) + ((k : Nat) : Int) = ((j + k : Nat) : Int) := by simp
  rw [e2, drop_line h, drop_line h, drop_line h1, part_part h (by simp) (by simp; omega) (by omega)]
  congr 1 <;> omega

end Go.Proofs.Ytfemeaehpjajlaa.P
