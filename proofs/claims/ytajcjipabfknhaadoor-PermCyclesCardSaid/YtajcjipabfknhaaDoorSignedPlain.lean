/- Plain facts: the sign of an order, told pair by pair. Conditions: none. -/
import Derived.Test.YtajcjipabfknhaaDoorSign
set_option linter.unusedSimpArgs false
set_option linter.unusedVariables false
namespace Go.Proofs.YtajcjipabfknhaaDoor.P

/-- How many ahead of place i are greater, of the first j ones. -/
def rowTo (p : List Nat) (i j : Nat) : Nat := sm j fun b => if p.getD i 0 < p.getD b 0 then 1 else 0
/-- All pairs of the first i rows. -/
def wrongTo (p : List Nat) (i : Nat) : Nat := sm i fun a => rowTo p a a
def pmo (n : Nat) : Int := if n % 2 = 0 then 1 else -1
theorem rowTo_zero (p : List Nat) (i : Nat) : rowTo p i 0 = 0 := rfl
theorem rowTo_succ (p : List Nat) (i j : Nat) : rowTo p i (j + 1) = rowTo p i j + (if p.getD i 0 < p.getD j 0 then 1 else 0) := sm_succ _ _
theorem wrongTo_zero (p : List Nat) : wrongTo p 0 = 0 := rfl
theorem wrongTo_succ (p : List Nat) (i : Nat) : wrongTo p (i + 1) = wrongTo p i + rowTo p i i := sm_succ _ _
theorem sm_cut {n i : Nat} (h : i ≤ n) (f : Nat → Nat) : sm n (fun j => if j < i then f j else 0) = sm i f := by
  induction n with
  | zero => obtain rfl : i = 0 := by omega
            rfl
  | succ n ih =>
    rw [sm_succ]
    rcases Nat.lt_or_ge n i with hlt | hge
    · obtain rfl : i = n + 1 := by omega
      rw [if_pos hlt, sm_succ, sm_congr (g := f) fun j hj => if_pos (by omega)]
    · rw [ih hge, if_neg (by omega)]; rfl
theorem wrongs_to {p : List Nat} (hp : Perm p) : wrongTo p p.length = wrongs p := by
  unfold wrongTo wrongs
  refine sm_congr fun i hi => ?_
  rw [sm_cut (Nat.le_of_lt hi)]
  unfold rowTo
  refine sm_congr fun j hj => ?_
  unfold dd
  rw [if_neg (show ¬ i < j by omega), if_pos hj]
  have hne : p.getD i 0 ≠ p.getD j 0 := fun e => by have := hp.inj hi (by omega) e; omega
  by_cases h : p.getD j 0 < p.getD i 0
  · rw [if_pos h, if_neg (show ¬ p.getD i 0 < p.getD j 0 by omega)]
  · rw [if_neg h, if_pos (show p.getD i 0 < p.getD j 0 by omega)]
theorem sgn_to {p : List Nat} (hp : Perm p) : pmo (wrongTo p p.length) = sgn p := by rw [wrongs_to hp]; rfl

end Go.Proofs.YtajcjipabfknhaaDoor.P
