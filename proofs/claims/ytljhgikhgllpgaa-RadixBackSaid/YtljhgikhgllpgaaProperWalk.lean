/- The walk of law3's proper. Conditions: none. -/
import Derived.Test.YtljhgikhgllpgaaDigits
import Derived.Test.YtljhgikhgllpgaaList
import Derived.Test.YtljhgikhgllpgaaProper
namespace Go.Proofs.Ytljhgikhgllpgaa.P
open Go Go.RowKit

/-- As far as k: digits below their bases; the product so far. -/
def ProperTo (k : Nat) (bs ds : List Int) : Prop := ∀ (j : Nat) (b d : Int), j < k → bs[j]? = some b → ds[j]? = some d → 1 ≤ b ∧ 0 ≤ d ∧ d < b
theorem ProperTo.zero (bs ds : List Int) : ProperTo 0 bs ds := fun j b d h => by omega
theorem ProperTo.succ {k : Nat} {bs ds : List Int} {x y : Int} (h : ProperTo k bs ds) (hx : bs[k]? = some x) (hy : ds[k]? = some y) (h1 : 1 ≤ x) (h2 : 0 ≤ y) (h3 : y < x) : ProperTo (k + 1) bs ds := fun j b d hj hb hd => by
  by_cases e : j = k
  · subst e
    rw [hx] at hb
    rw [hy] at hd
    injection hb with hb
    injection hd with hd
    omega
  · exact h j b d (by omega) hb hd
theorem room_step {P : Nat} {x : Int} (h1 : 1 ≤ x) (hP : 1 ≤ P) : ((4611686018427387904 / P : Nat) : Int).tdiv x = ((4611686018427387904 / (P * x.toNat) : Nat) : Int) ∧ 1 ≤ P * x.toNat := by
  obtain ⟨m, rfl⟩ : ∃ m : Nat, x = m := ⟨x.toNat, by omega⟩
  refine ⟨?_, Nat.mul_pos hP (by omega)⟩
  rw [Int.toNat_natCast, ← Nat.div_div_eq_div_mul]
  rfl
end Go.Proofs.Ytljhgikhgllpgaa.P

namespace Go.Proofs.Ytljhgikhgllpgaa
open Go Go.RowKit Go.Proofs.Ytljhgikhgllpgaa.P

def OnlyIf (p : Prop) (w : World) (e : Ending) (w' : World) : Prop := ∃ r : Bool, e = .returned (.bool r) ∧ (r = true → p) ∧ Below w.heap.size w w'
theorem only_no {p : Prop} {w w' : World} {v : Value} (hv : v = .bool false) (hb : Below w.heap.size w w') : OnlyIf p w (.returned v) w' := ⟨false, by rw [hv], by simp, hb⟩

set_option maxHeartbeats 1000000 in
theorem proper_ok (v1 v2 : Value) (bs ds : List Int) (w : World) (hx : IsInts w v1 bs) (hy : IsInts w v2 ds) :
    Calls Try.prog 28 #[v1, v2] w (OnlyIf (Proper bs ds) w) := by
  obtain ⟨A, c, rfl, c1, c2, c3, EX, -⟩ := hx.open_
  obtain ⟨B, d, rfl, d1, d2, d3, EY, -⟩ := hy.open_
  clear hx hy
  go_enter Try.func28, Try.ntmps28
  by_cases hl : ds.length = bs.length
  case neg =>
    have hl' : ((bs.length : Int) != (ds.length : Int)) = true := by simp; omega
    clear hl
    go_wp2_with fail
    go_ret
    exact only_no rfl (by go_grown)
  have hl' : ((bs.length : Int) != (ds.length : Int)) = false := by simp; omega
  rw [hl] at d1 d3 hl' ⊢
  have HL := Lib.hid hl
  clear hl
  rcases Nat.lt_or_ge 62 bs.length with g1 | g1
  · have g1' : decide ((62 : Int) < bs.length) = true := by simp; omega
    go_wp2_with fail
    go_ret
    exact only_no rfl (by go_grown)
  have g1' : decide ((62 : Int) < bs.length) = false := by simp; omega
  go_wp2_with fail
  go_loopw [6, 5] (fun i m wr => ∃ k P : Nat, k ≤ bs.length ∧ i = .int .i64 k ∧ m = .int .i64 ((4611686018427387904 / P : Nat) : Int) ∧ 1 ≤ P ∧ prd (bs.take k) = (P : Int) ∧ ProperTo k bs ds ∧ Below w.heap.size w wr)
    (fun i _ _ => bs.length - (intOf i).toNat)
  case atStart => exact ⟨0, 1, Nat.zero_le _, rfl, rfl, by omega, by simp [prd], ProperTo.zero _ _, by go_grown⟩
  case round =>
    obtain ⟨k, P, hk, rfl, rfl, hP, hp, ht, hbl⟩ := hrel
    rcases Nat.lt_or_ge k bs.length with hlt | hge
    · obtain ⟨ad, x, rfl, hxk, hal, hcx⟩ := Elems.later EX hbl hlt
      obtain ⟨ae, y, rfl, hyk, hae, hcy⟩ := Elems.later EY hbl (k := k) (by rw [HL.out]; exact hlt)
      have Hx := Lib.hid hxk
      have Hy := Lib.hid hyk
      have Hp := Lib.hid hp
      have Ht := Lib.hid ht
      clear hxk hyk hp ht
      rcases Int.lt_or_le x 1 with h1 | h1
      · have h1' : decide (x < 1) = true := by simpa using h1
        go_wp2_with fail
        go_quiet (fail)
        all_goals go_wp2_with fail
        go_ret
        exact only_no rfl (hbl.trans (below_draws _ _ _))
      · have h1' : decide (x < 1) = false := by simp; omega
        rcases Int.lt_or_le y 0 with h2 | h2
        · have h2' : decide (y < 0) = true := by simpa using h2
          go_wp2_with fail
          go_quiet (fail)
          all_goals go_wp2_with fail
          go_ret
          exact only_no rfl (hbl.trans (below_draws _ _ _))
        · have h2' : decide (y < 0) = false := by simp; omega
          rcases Int.lt_or_le y x with h3 | h3
          · have h3' : decide (x ≤ y) = false := by simp; omega
            obtain ⟨hr, hr1⟩ := room_step h1 hP
            have h4 : ((x == 0) : Bool) = false := by simp; omega
            have hw : wrap64 (((4611686018427387904 / P : Nat) : Int).tdiv x) = ((4611686018427387904 / (P * x.toNat) : Nat) : Int) := by
              rw [hr]
              have := Nat.div_le_self 4611686018427387904 (P * x.toNat)
              generalize 4611686018427387904 / (P * x.toNat) = z at *
              unfold wrap64
              omega
            have HW := Lib.hid hw
            clear hw hr
            go_wp2_with fail
            go_quiet (fail)
            all_goals go_wp2_with fail
            go_roundw
            case rel =>
              refine ⟨k + 1, P * x.toNat, by omega, by go_num, congrArg _ HW.out, hr1, ?_, Ht.out.succ Hx.out Hy.out h1 h2 h3, hbl.trans (below_draws _ _ _)⟩
              rw [prd_take Hx.out, Hp.out, Int.natCast_mul, Int.toNat_of_nonneg (by omega)]
            case measure => simp [intOf]; omega
          · have h3' : decide (x ≤ y) = true := by simpa using h3
            go_wp2_with fail
            go_quiet (fail)
            all_goals go_wp2_with fail
            go_ret
            exact only_no rfl (hbl.trans (below_draws _ _ _))
    · have hkk : k = bs.length := by omega
      subst hkk
      rw [List.take_length] at hp
      have Hp := Lib.hid hp
      have Ht := Lib.hid ht
      clear hp ht
      go_wp2_with fail
      go_ret
      refine ⟨_, rfl, fun h => ?_, by go_grown⟩
      have h5 : 0 < 4611686018427387904 / P := by
        have h' : (0 : Int) < ((4611686018427387904 / P : Nat) : Int) := by simpa using h
        omega
      have h6 : P ≤ 4611686018427387904 := by
        rcases Nat.lt_or_ge 4611686018427387904 P with h7 | h7
        · rw [Nat.div_eq_of_lt h7] at h5; omega
        · exact h7
      exact ⟨⟨HL.out, fun k b d hb hd => Ht.out k b d (List.getElem?_eq_some_iff.1 hb).1 hb hd⟩, g1, by rw [Hp.out]; omega⟩

end Go.Proofs.Ytljhgikhgllpgaa
