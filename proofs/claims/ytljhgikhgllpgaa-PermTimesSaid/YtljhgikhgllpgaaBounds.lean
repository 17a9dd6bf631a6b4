/- The walks of the statements' Within and Small. Conditions: none. -/
import Derived.Test.YtljhgikhgllpgaaOwn
import Derived.Test.YtljhgikhgllpgaaList
namespace Go.Proofs.Ytljhgikhgllpgaa
open Go Go.RowKit Go.Proofs.Ytljhgikhgllpgaa.P

set_option maxHeartbeats 400000 in
theorem within_any (n l h : Int) (w : World) :
    Calls Try.prog 26 #[.int .i64 n, .int .i64 l, .int .i64 h] w (TellsB (l ≤ n ∧ n ≤ h) w) := by
  go_enter Try.func26, Try.ntmps26
  by_cases h1 : l ≤ n
  · have h1' : decide (l ≤ n) = true := by simpa using h1
    go_wp2_with fail
    go_ret
    exact ⟨decide (n ≤ h), rfl, by simp [h1], by go_grown⟩
  · have h1' : decide (l ≤ n) = false := by simpa using h1
    go_wp2_with fail
    go_ret
    exact tells_no rfl (by omega) (by go_grown)

set_option maxHeartbeats 800000 in
theorem small_any (v : Value) (xs : List Int) (m f : Nat) (w : World) (hx : IsInts w v xs) (hf : f ≤ 1000000) :
    Calls Try.prog 31 #[v, .int .i64 m, .int .i64 f] w (TellsB (xs.length ≤ m ∧ ∀ x ∈ xs, -(f : Int) ≤ x ∧ x ≤ f) w) := by
  obtain ⟨A, c, rfl, c1, c2, c3, EX, -⟩ := hx.open_
  clear hx
  go_enter Try.func31, Try.ntmps31
  rcases Nat.lt_or_ge m xs.length with hm | hm
  · have hm' : m < xs.length := by omega
    go_wp2_with fail
    go_ret
    exact tells_no rfl (by omega) (by go_grown)
  have hm' : ¬ m < xs.length := by omega
  have hM := Lib.hid hm
  clear hm
  go_wp2_with fail
  go_loopw [7] (fun i wr => ∃ k : Nat, k ≤ xs.length ∧ i = .int .i64 k ∧ (∀ x ∈ xs.take k, -(f : Int) ≤ x ∧ x ≤ f) ∧ Below w.heap.size w wr) (fun i _ => xs.length - (intOf i).toNat)
  case atStart => exact ⟨0, Nat.zero_le _, rfl, by simp, by go_grown⟩
  case round =>
    obtain ⟨k, hk, rfl, hall, hbl⟩ := hrel
    rcases Nat.lt_or_ge k xs.length with hlt | hge
    · obtain ⟨ad, x, rfl, hxk, hal, hcx⟩ := Elems.later EX hbl hlt
      have Hx := Lib.hid hxk
      have Ha := Lib.hid hall
      have hmem : x ∈ xs := List.mem_of_getElem? hxk
      clear hxk hall
      rcases Int.lt_or_le (f : Int) x with h1 | h1
      · have h1' : decide ((f : Int) < x) = true := by simpa using h1
        go_wp2_with fail
        go_ret
        exact tells_no rfl (fun h => by have := (h.2 x hmem).2; omega) (by go_grown)
      · have h1' : decide ((f : Int) < x) = false := by simp; omega
        rcases Int.lt_or_le x (-(f : Int)) with h2 | h2
        · have h2' : decide (x < -(f : Int)) = true := by simpa using h2
          go_wp2_with fail
          go_ret
          exact tells_no rfl (fun h => by have := (h.2 x hmem).1; omega) (by go_grown)
        · have h2' : decide (x < -(f : Int)) = false := by simp; omega
          go_wp2_with fail
          go_roundw
          case rel =>
            refine ⟨k + 1, by omega, by go_num, fun y hy => ?_, by go_grown⟩
            rw [List.take_add_one, Hx.out] at hy
            rcases List.mem_append.1 hy with hy | hy
            · exact Ha.out y hy
            · simp at hy
              subst hy
              exact ⟨h2, h1⟩
          case measure => simp [intOf]; omega
    · have hkk : k = xs.length := by omega
      subst hkk
      rw [List.take_length] at hall
      have Ha := Lib.hid hall
      clear hall
      go_wp2_with fail
      go_ret
      exact tells_yes rfl ⟨hM.out, Ha.out⟩ (by go_grown)

end Go.Proofs.Ytljhgikhgllpgaa
