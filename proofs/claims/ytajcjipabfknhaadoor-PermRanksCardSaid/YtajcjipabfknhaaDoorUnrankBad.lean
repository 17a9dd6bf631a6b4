/- perm.Unrank of numbers that name no order. Conditions: none. -/
import Derived.Test.YtajcjipabfknhaaDoorUnrankWalk
set_option linter.unusedSimpArgs false
set_option linter.unusedVariables false
namespace Go.Proofs.YtajcjipabfknhaaDoor
open Go Go.RowKit Go.Proofs.YtajcjipabfknhaaDoor.P

def UnrankFine (n K : Int) : Prop := 0 ≤ n ∧ n ≤ 12 ∧ 0 ≤ K ∧ K < (fac n.toNat : Nat)

set_option maxRecDepth 100000 in
set_option maxHeartbeats 4000000 in
theorem unrank_bad (n K : Int) (w : World) (h : ¬ UnrankFine n K) :
    Calls Tryd.prog 32 #[.int .i64 n, .int .i64 K] w fun e w' => ∃ c : Int, e = .returned (.tuple #[.slice none 0 0, .iface 23 (.int .i64 c)]) ∧ Below w.heap.size w w' := by
  by_cases h0 : n < 0
  · go_enter Tryd.func32, Tryd.ntmps32
    clear h
    go_wp2_with fail
    refine bodyPost_ret (v := .tuple #[.slice none 0 0, .iface 23 (.int .i64 6)]) (by simp [results, Tryd.results32, go_sem]) rfl ?_
    exact ⟨_, rfl, Below.refl _ _⟩
  obtain ⟨n, rfl⟩ := Int.eq_ofNat_of_zero_le (Int.not_lt.1 h0)
  clear h0
  by_cases h1 : 12 < n
  · have h1' : decide ((12 : Int) < n) = true := by simp; omega
    go_enter Tryd.func32, Tryd.ntmps32
    clear h
    go_wp2_with fail
    refine bodyPost_ret (v := .tuple #[.slice none 0 0, .iface 23 (.int .i64 7)]) (by simp [results, Tryd.results32, go_sem]) rfl ?_
    exact ⟨_, rfl, Below.refl _ _⟩
  have hn : n ≤ 12 := by omega
  have g1 : decide ((12 : Int) < n) = false := by simp; omega
  have hk : K < 0 ∨ (¬ K < 0 ∧ ((fac n : Nat) : Int) ≤ K) := by
    rcases Int.lt_or_le K 0 with c | c
    · exact .inl c
    · refine .inr ⟨by omega, ?_⟩
      rcases Int.lt_or_le K (fac n : Nat) with d | d
      · exact absurd ⟨by omega, by omega, c, by simpa using d⟩ h
      · exact d
  have HK := Lib.hid hk
  clear h hk
  go_enter Tryd.func32, Tryd.ntmps32
  go_wp2_with fail
  go_loopw [19, 6] (fun i a wr => ∃ k : Nat, k ≤ n ∧ i = .int .i64 k ∧ a = .int .i64 ((fac k : Nat) : Int) ∧ Below w.heap.size w wr) (fun i _ _ => n - (intOf i).toNat)
  case atStart => exact ⟨0, Nat.zero_le _, rfl, rfl, Below.refl _ _⟩
  case round =>
    obtain ⟨k, hk, rfl, rfl, hbl⟩ := hrel
    rcases Nat.lt_or_ge k n with hlt | hge
    · have hf := fac_wrap hlt hn
      have HF := Lib.hid hf
      clear hf
      go_wp2_with fail
      go_roundw
      case rel => exact ⟨k + 1, by omega, by go_num, congrArg _ HF.out, hbl⟩
      case measure => simp [intOf]; omega
    · have hkn : k = n := by omega
      subst hkn
      rcases HK.out with g3 | ⟨g2, g3⟩
      · go_wp2_with fail
        refine bodyPost_ret (v := .tuple #[.slice none 0 0, .iface 23 (.int .i64 5)]) (by simp [results, Tryd.results32, go_sem]) rfl ?_
        exact ⟨_, rfl, hbl⟩
      · go_wp2_with fail
        refine bodyPost_ret (v := .tuple #[.slice none 0 0, .iface 23 (.int .i64 5)]) (by simp [results, Tryd.results32, go_sem]) rfl ?_
        exact ⟨_, rfl, hbl⟩

end Go.Proofs.YtajcjipabfknhaaDoor
