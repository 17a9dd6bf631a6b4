/- The walks of shape.Count and arr.Check. Conditions: none. -/
import Derived.Test.YtajcjipabfknhaaDoorBase
set_option linter.unusedSimpArgs false
set_option linter.unusedVariables false
namespace Go.Proofs.YtajcjipabfknhaaDoor
open Go Go.RowKit Go.Proofs.YtajcjipabfknhaaDoor.P

def ScanTo (k : Nat) (xs : List Int) : Prop := scanErr xs = scanErr (xs.drop k)
theorem ScanTo.zero (xs : List Int) : ScanTo 0 xs := by simp [ScanTo]
theorem drop_at {xs : List Int} {k : Nat} {x : Int} (h : xs[k]? = some x) : xs.drop k = x :: xs.drop (k + 1) := by
  obtain ⟨hk, rfl⟩ := List.getElem?_eq_some_iff.1 h
  exact List.drop_eq_getElem_cons hk
theorem ScanTo.succ {k : Nat} {xs : List Int} {x : Int} (h : ScanTo k xs) (hx : xs[k]? = some x) (h0 : 0 ≤ x) (h1 : x ≤ 4096) : ScanTo (k + 1) xs := by
  unfold ScanTo at *
  rw [h, drop_at hx, scanErr, if_neg (by omega), if_neg (by omega)]
theorem ScanTo.low {k : Nat} {xs : List Int} {x : Int} (h : ScanTo k xs) (hx : xs[k]? = some x) (h0 : x < 0) : scanErr xs = 4 := by
  unfold ScanTo at *
  rw [h, drop_at hx, scanErr, if_pos h0]
theorem ScanTo.high {k : Nat} {xs : List Int} {x : Int} (h : ScanTo k xs) (hx : xs[k]? = some x) (h0 : 4096 < x) : scanErr xs = 7 := by
  unfold ScanTo at *
  rw [h, drop_at hx, scanErr, if_neg (by omega), if_pos h0]
theorem ScanTo.all {k : Nat} {xs : List Int} (h : ScanTo k xs) (hx : xs.length ≤ k) : scanErr xs = 0 := by
  unfold ScanTo at *
  rw [h, List.drop_of_length_le hx, scanErr]

def NoZeroTo (k : Nat) (xs : List Int) : Prop := (0 : Int) ∈ xs ↔ (0 : Int) ∈ xs.drop k
theorem NoZeroTo.zero (xs : List Int) : NoZeroTo 0 xs := by simp [NoZeroTo]
theorem NoZeroTo.succ {k : Nat} {xs : List Int} {x : Int} (h : NoZeroTo k xs) (hx : xs[k]? = some x) (h0 : x ≠ 0) : NoZeroTo (k + 1) xs := by
  unfold NoZeroTo at *
  rw [h, drop_at hx, List.mem_cons]
  constructor
  · rintro (h | h)
    · exact absurd h.symm h0
    · exact h
  · exact Or.inr
theorem NoZeroTo.hit {k : Nat} {xs : List Int} {x : Int} (h : NoZeroTo k xs) (hx : xs[k]? = some x) (h0 : x = 0) : (0 : Int) ∈ xs := by
  unfold NoZeroTo at *
  rw [h, drop_at hx, h0]
  simp
theorem NoZeroTo.all {k : Nat} {xs : List Int} (h : NoZeroTo k xs) (hx : xs.length ≤ k) : (0 : Int) ∉ xs := by
  unfold NoZeroTo at *
  rw [h, List.drop_of_length_le hx]
  simp

def GrowTo (k : Nat) (p : Int) (xs : List Int) : Prop := grow 1 xs = grow p (xs.drop k)
theorem GrowTo.zero (xs : List Int) : GrowTo 0 1 xs := by simp [GrowTo]
theorem GrowTo.succ {k : Nat} {xs : List Int} {x p : Int} (h : GrowTo k p xs) (hx : xs[k]? = some x) (h0 : p * x ≤ 4096) : GrowTo (k + 1) (p * x) xs := by
  unfold GrowTo at *
  rw [h, drop_at hx, grow, if_neg (by omega)]
theorem GrowTo.high {k : Nat} {xs : List Int} {x p : Int} (h : GrowTo k p xs) (hx : xs[k]? = some x) (h0 : 4096 < p * x) : grow 1 xs = none := by
  unfold GrowTo at *
  rw [h, drop_at hx, grow, if_pos h0]
theorem GrowTo.all {k : Nat} {xs : List Int} {p : Int} (h : GrowTo k p xs) (hx : xs.length ≤ k) : grow 1 xs = some p := by
  unfold GrowTo at *
  rw [h, List.drop_of_length_le hx, grow]

theorem scanErr_bound {xs : List Int} (h : scanErr xs = 0) {k : Nat} {x : Int} (hx : xs[k]? = some x) : 0 ≤ x ∧ x ≤ 4096 := by
  obtain ⟨t, rfl, ht⟩ := scanErr_zero h
  rw [getElem?_ints, Option.map_eq_some_iff] at hx
  obtain ⟨n, hn, rfl⟩ := hx
  have := ht n (List.mem_of_getElem? hn)
  omega

def CountPost (xs : List Int) (w : World) (e : Ending) (w' : World) : Prop := e = .returned (.tuple #[.int .i64 (cntVal xs), errV (cntErr xs)]) ∧ w = w'

theorem count_rank {xs : List Int} {w : World} (h : 6 < xs.length) : CountPost xs w (.returned (.tuple #[.int .i64 0, .iface 23 (.int .i64 3)])) w := by
  unfold CountPost cntVal cntErr
  rw [if_pos h, if_pos h]
  exact ⟨rfl, rfl⟩
theorem count_scan {xs : List Int} {w : World} {k : Int} (h : ¬ 6 < xs.length) (hk : scanErr xs = k) (h0 : k ≠ 0) : CountPost xs w (.returned (.tuple #[.int .i64 0, .iface 23 (.int .i64 k)])) w := by
  unfold CountPost cntVal cntErr
  rw [if_neg h, if_neg h, hk, if_pos h0, if_pos h0, errV_ne h0]
  exact ⟨rfl, rfl⟩
theorem count_zero {xs : List Int} {w : World} (h : ¬ 6 < xs.length) (hk : scanErr xs = 0) (h0 : (0 : Int) ∈ xs) : CountPost xs w (.returned (.tuple #[.int .i64 0, .nilIface])) w := by
  unfold CountPost cntVal cntErr
  simp [*, errV]
theorem count_full {xs : List Int} {w : World} (h : ¬ 6 < xs.length) (hk : scanErr xs = 0) (h0 : (0 : Int) ∉ xs) (hg : grow 1 xs = none) : CountPost xs w (.returned (.tuple #[.int .i64 0, .iface 23 (.int .i64 7)])) w := by
  unfold CountPost cntVal cntErr
  simp [*, errV]
theorem count_all {xs : List Int} {w : World} {p : Int} (h : ¬ 6 < xs.length) (hk : scanErr xs = 0) (h0 : (0 : Int) ∉ xs) (hg : grow 1 xs = some p) : CountPost xs w (.returned (.tuple #[.int .i64 p, .nilIface])) w := by
  unfold CountPost cntVal cntErr
  simp [*, errV]

theorem mul_bd {p x : Int} (h0 : 0 ≤ p) (h1 : p ≤ 4096) (h2 : 0 ≤ x) (h3 : x ≤ 4096) : 0 ≤ p * x ∧ p * x ≤ 16777216 := by
  have h4 : p * x ≤ 4096 * x := Int.mul_le_mul_of_nonneg_right h1 h2
  exact ⟨Int.mul_nonneg h0 h2, by omega⟩

/-- No cell so far is none that a character may be. -/
def RuneTo (k : Nat) (xs : List Int) : Prop := xs.any badRune = (xs.drop k).any badRune
theorem RuneTo.zero (xs : List Int) : RuneTo 0 xs := by simp [RuneTo]
theorem RuneTo.succ {k : Nat} {xs : List Int} {x : Int} (h : RuneTo k xs) (hx : xs[k]? = some x) (h0 : badRune x = false) : RuneTo (k + 1) xs := by
  unfold RuneTo at *
  rw [h, drop_at hx, List.any_cons, h0, Bool.false_or]
theorem RuneTo.hit {k : Nat} {xs : List Int} {x : Int} (h : RuneTo k xs) (hx : xs[k]? = some x) (h0 : badRune x = true) : xs.any badRune = true := by
  unfold RuneTo at *
  rw [h, drop_at hx, List.any_cons, h0, Bool.true_or]
theorem RuneTo.all {k : Nat} {xs : List Int} (h : RuneTo k xs) (hx : xs.length ≤ k) : xs.any badRune = false := by
  unfold RuneTo at *
  rw [h, List.drop_of_length_le hx]; rfl

def CheckPost (a : Arr) (w : World) (e : Ending) (w' : World) : Prop := e = .returned (errV (arrErr a)) ∧ Below w.heap.size w w'
theorem check_sh {a : Arr} {w w' : World} (h : cntErr a.sh ≠ 0) (hb : Below w.heap.size w w') : CheckPost a w (.returned (.iface 23 (.int .i64 (cntErr a.sh)))) w' := by
  refine ⟨?_, hb⟩
  unfold arrErr
  rw [if_pos h, errV_ne h]
theorem check_len {a : Arr} {w w' : World} (h : cntErr a.sh = 0) (hl : (a.da.length : Int) ≠ cntVal a.sh) (hb : Below w.heap.size w w') : CheckPost a w (.returned (.iface 23 (.int .i64 4))) w' := by
  refine ⟨?_, hb⟩
  unfold arrErr
  rw [if_neg (by simp [h]), if_pos hl]; rfl
theorem check_rune {a : Arr} {w w' : World} (h : cntErr a.sh = 0) (hl : (a.da.length : Int) = cntVal a.sh) (hc : a.ch = true) (hr : a.da.any badRune = true) (hb : Below w.heap.size w w') : CheckPost a w (.returned (.iface 23 (.int .i64 6))) w' := by
  refine ⟨?_, hb⟩
  unfold arrErr
  rw [if_neg (by simp [h]), if_neg (by simp [hl]), if_pos (by rw [hc, hr]; rfl)]; rfl
theorem check_fine {a : Arr} {w w' : World} (h : cntErr a.sh = 0) (hl : (a.da.length : Int) = cntVal a.sh) (hr : a.ch = false ∨ a.da.any badRune = false) (hb : Below w.heap.size w w') : CheckPost a w (.returned .nilIface) w' := by
  refine ⟨?_, hb⟩
  unfold arrErr
  rw [if_neg (by simp [h]), if_neg (by simp [hl]), if_neg (by rcases hr with h | h <;> simp [h])]; rfl

theorem rune_low {x : Int} (h : x < 0) : badRune x = true := by simp [badRune, h]
theorem rune_high {x : Int} (h : 1114111 < x) : badRune x = true := by simp [badRune, h]
theorem rune_mid {x : Int} (h : 55296 ≤ x) (h' : x ≤ 57343) : badRune x = true := by simp [badRune, h, h']
theorem rune_fine {x : Int} (h0 : 0 ≤ x) (h1 : x ≤ 1114111) (h : x < 55296 ∨ 57343 < x) : badRune x = false := by
  simp only [badRune, Bool.or_eq_false_iff, decide_eq_false_iff_not, Bool.and_eq_false_iff]
  omega

end Go.Proofs.YtajcjipabfknhaaDoor
