/- The walks of the references' Mask and sum. Conditions: none but these. -/
import Derived.Test.YtikjniibfomadaaDoorBase
import Derived.Test.YtikjniibfomadaaDoorList
import Derived.Test.YtikjniibfomadaaDoorKeep
import Derived.BigQuiet
import Derived.Deep.QuietTactic
namespace Go.Proofs.YtikjniibfomadaaDoor
open Go Go.RowKit Go.Proofs.YtikjniibfomadaaDoor.P

set_option maxHeartbeats 1000000 in
theorem rmask_any (v : Value) (m : List Int) (w : World) (hm : IsInts w v m) :
    Calls Tryd.prog 28 #[v] w fun e w' => e = .returned (.bool (decide (Mask m))) ∧ w = w' := by
  obtain ⟨A, ca, rfl, a1, a2, a3, _, a4⟩ := hm
  have hA := Lib.hid (show Elems w A m from a4)
  clear a4
  go_enter Tryd.func28, Tryd.ntmps28
  go_wp2_with fail
  go_loop [3] (fun s3 => ∃ k : Nat, k ≤ m.length ∧ s3 = .int .i64 k ∧ ∀ x ∈ m.take k, x = 0 ∨ x = 1) (fun s3 => m.length - (intOf s3).toNat)
  case atStart => exact ⟨0, Nat.zero_le _, rfl, fun x h => by simp at h⟩
  case round =>
    obtain ⟨k, hk, rfl, hw⟩ := hrel
    have HW := Lib.hid hw
    clear hw
    rcases Nat.lt_or_ge k m.length with hlt | hge
    · obtain ⟨ax, x, rfl, hx, hax, hcx⟩ := Elems.at_ hA.out hlt
      have HX := Lib.hid hx
      clear hx
      by_cases h0 : x = 0
      · have e1 : (x != 0) = false := by simp [h0]
        have HN := Lib.hid (show x = 0 ∨ x = 1 from .inl h0)
        clear h0
        go_wp2_with fail
        go_round
        case rel =>
          refine ⟨k + 1, by omega, by go_num, fun y hy => ?_⟩
          rw [List.take_add_one, HX.out] at hy
          rcases List.mem_append.1 hy with h | h
          · exact HW.out y h
          · simp at h; rw [h]; exact HN.out
        case measure => simp [intOf]; omega
      · have e1 : (x != 0) = true := by simp [h0]
        by_cases h1 : x = 1
        · have e2 : (x != 1) = false := by simp [h1]
          have HN := Lib.hid (show x = 0 ∨ x = 1 from .inr h1)
          clear h0 h1
          go_wp2_with fail
          go_round
          case rel =>
            refine ⟨k + 1, by omega, by go_num, fun y hy => ?_⟩
            rw [List.take_add_one, HX.out] at hy
            rcases List.mem_append.1 hy with h | h
            · exact HW.out y h
            · simp at h; rw [h]; exact HN.out
          case measure => simp [intOf]; omega
        · have e2 : (x != 1) = true := by simp [h1]
          have HE := Lib.hid (show decide (Mask m) = false by
            rw [decide_eq_false_iff_not]
            intro h
            rcases h x (List.mem_of_getElem? HX.out) with h2 | h2
            · exact h0 h2
            · exact h1 h2)
          clear h0 h1
          go_wp2_with fail
          go_ret
          exact ⟨by rw [HE.out]; rfl, rfl⟩
    · obtain rfl : k = m.length := by omega
      have HE := Lib.hid (show decide (Mask m) = true by rw [decide_eq_true_iff]; intro x hx; exact HW.out x (by rw [List.take_of_length_le (Nat.le_refl _)]; exact hx))
      go_wp2_with fail
      go_ret
      exact ⟨by rw [HE.out]; rfl, rfl⟩

set_option maxHeartbeats 1000000 in
theorem rsum_ok (v : Value) (m : List Int) (w : World) (hm : IsInts w v m) (hk : Mask m) :
    Calls Tryd.prog 29 #[v] w fun e w' => e = .returned (.int .i64 (cnt m m.length : Nat)) ∧ w = w' := by
  obtain ⟨A, ca, rfl, a1, a2, a3, _, a4⟩ := hm
  have hA := Lib.hid (show Elems w A m from a4)
  have HK := Lib.hid hk
  clear a4 hk
  go_enter Tryd.func29, Tryd.ntmps29
  go_wp2_with fail
  go_loop [3, 4] (fun s3 s4 => ∃ k c : Nat, k ≤ m.length ∧ s4 = .int .i64 k ∧ s3 = .int .i64 c ∧ c = cnt m k ∧ c ≤ k) (fun _ s4 => m.length - (intOf s4).toNat)
  case atStart => exact ⟨0, 0, Nat.zero_le _, rfl, rfl, by rw [cnt_zero], Nat.le_refl _⟩
  case round =>
    obtain ⟨k, c, hk, rfl, rfl, hc, hck⟩ := hrel
    have HC := Lib.hid hc
    clear hc
    rcases Nat.lt_or_ge k m.length with hlt | hge
    · obtain ⟨ax, x, rfl, hx, hax, hcx⟩ := Elems.at_ hA.out hlt
      have hxx := HK.out x (List.mem_of_getElem? hx)
      have HX := Lib.hid hx
      clear hx
      rcases hxx with h0 | h0
      · subst h0
        go_wp2_with fail
        go_round
        case rel => exact ⟨k + 1, c, by omega, by go_num, by go_num, by rw [cnt_other HX.out (by decide)]; exact HC.out, by omega⟩
        case measure => simp [intOf]; omega
      · subst h0
        have hcw : wrap64 ((c : Int) + 1) = (c : Int) + 1 := by unfold wrap64; omega
        go_wp2_with fail
        go_round
        case rel => exact ⟨k + 1, c + 1, by omega, by go_num, by go_num, by rw [cnt_one HX.out, ← HC.out], by omega⟩
        case measure => simp [intOf]; omega
    · obtain rfl : k = m.length := by omega
      have HE := Lib.hid HC.out
      go_wp2_with fail
      go_ret
      exact ⟨by rw [← HE.out]; rfl, rfl⟩

end Go.Proofs.YtikjniibfomadaaDoor
