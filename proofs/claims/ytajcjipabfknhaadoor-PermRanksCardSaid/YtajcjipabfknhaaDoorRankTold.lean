/- What perm.Rank and perm.Unrank tell, whatever they are given. Conditions: none. -/
import Derived.Test.YtajcjipabfknhaaDoorPermTold
import Derived.Test.YtajcjipabfknhaaDoorUnrankBad
import Derived.Test.YtajcjipabfknhaaDoorRankWalk
set_option linter.unusedSimpArgs false
set_option linter.unusedVariables false
namespace Go.Proofs.YtajcjipabfknhaaDoor
open Go Go.RowKit Go.Proofs.YtajcjipabfknhaaDoor.P

def unErr (n K : Int) : Int := if n < 0 then 6 else if 12 < n then 7 else if K < 0 ∨ ((fac n.toNat : Nat) : Int) ≤ K then 5 else 0
theorem unErr_zero {n K : Int} (h : unErr n K = 0) : ∃ m k : Nat, n = m ∧ K = k ∧ m ≤ 12 ∧ k < fac m := by
  unfold unErr at h
  by_cases h1 : n < 0
  · rw [if_pos h1] at h; omega
  · rw [if_neg h1] at h
    by_cases h2 : 12 < n
    · rw [if_pos h2] at h; omega
    · rw [if_neg h2] at h
      by_cases h3 : K < 0 ∨ ((fac n.toNat : Nat) : Int) ≤ K
      · rw [if_pos h3] at h; omega
      · exact ⟨n.toNat, K.toNat, by omega, by omega, by omega, by omega⟩

set_option maxRecDepth 100000 in
set_option maxHeartbeats 4000000 in
theorem unrank_bad2 (n K : Int) (w : World) (h : unErr n K ≠ 0) :
    Calls Tryd.prog 32 #[.int .i64 n, .int .i64 K] w (FailsInts (unErr n K) w) := by
  by_cases h0 : n < 0
  · rw [show unErr n K = 6 by unfold unErr; rw [if_pos h0]]
    go_enter Tryd.func32, Tryd.ntmps32
    clear h
    go_wp2_with fail
    refine bodyPost_ret (v := .tuple #[.slice none 0 0, .iface 23 (.int .i64 6)]) (by simp [results, Tryd.results32, go_sem]) rfl ?_
    exact ⟨rfl, Below.refl _ _⟩
  obtain ⟨n, rfl⟩ := Int.eq_ofNat_of_zero_le (Int.not_lt.1 h0)
  clear h0
  by_cases h1 : 12 < n
  · rw [show unErr (n : Int) K = 7 by unfold unErr; rw [if_neg (by omega), if_pos (by omega)]]
    have h1' : decide ((12 : Int) < n) = true := by simp; omega
    go_enter Tryd.func32, Tryd.ntmps32
    clear h
    go_wp2_with fail
    refine bodyPost_ret (v := .tuple #[.slice none 0 0, .iface 23 (.int .i64 7)]) (by simp [results, Tryd.results32, go_sem]) rfl ?_
    exact ⟨rfl, Below.refl _ _⟩
  have hn : n ≤ 12 := by omega
  have g1 : decide ((12 : Int) < n) = false := by simp; omega
  have hU : unErr (n : Int) K = if K < 0 ∨ ((fac n : Nat) : Int) ≤ K then 5 else 0 := by unfold unErr; rw [if_neg (by omega), if_neg (by omega)]; simp
  have hk : K < 0 ∨ (¬ K < 0 ∧ ((fac n : Nat) : Int) ≤ K) := by
    apply Classical.byContradiction
    intro h'
    rw [hU, if_neg (by omega)] at h
    exact h rfl
  rw [show unErr (n : Int) K = 5 by rw [hU, if_pos (by omega)]]
  clear hU
  have HK := Lib.hid hk
  clear h hk
  go_enter Tryd.func32, Tryd.ntmps32
  go_wp2_with fail
  go_loopw [19, 6] (fun i a wr => ∃ k : Nat, k ≤ n ∧ i = .int .i64 k ∧ a = .int .i64 ((fac k : Nat) : Int) ∧ Below w.heap.size w wr) (fun i _ _ => n - (intOf i).toNat)
  case atStart => exact ⟨0, Nat.zero_le _, rfl, rfl, Below.refl _ _⟩
  case round =>
    obtain ⟨k, hk, rfl, rfl, hbl⟩ := hrel
    rcases Nat.lt_or_ge k n with hlt | hge
    · have hf := fac_wrap hlt hn
      have HF := Lib.hid hf
      clear hf
      go_wp2_with fail
      go_roundw
      case rel => exact ⟨k + 1, by omega, by go_num, congrArg _ HF.out, hbl⟩
      case measure => simp [intOf]; omega
    · have hkn : k = n := by omega
      subst hkn
      rcases HK.out with g3 | ⟨g2, g3⟩
      · go_wp2_with fail
        refine bodyPost_ret (v := .tuple #[.slice none 0 0, .iface 23 (.int .i64 5)]) (by simp [results, Tryd.results32, go_sem]) rfl ?_
        exact ⟨rfl, hbl⟩
      · go_wp2_with fail
        refine bodyPost_ret (v := .tuple #[.slice none 0 0, .iface 23 (.int .i64 5)]) (by simp [results, Tryd.results32, go_sem]) rfl ?_
        exact ⟨rfl, hbl⟩


theorem unrank_told (n K : Int) (w : World) :
    Calls Tryd.prog 32 #[.int .i64 n, .int .i64 K] w (PToldI (ints (unrank n.toNat K.toNat)) (unErr n K) w) := by
  by_cases hk : unErr n K = 0
  · obtain ⟨m, k, rfl, rfl, h1, h2⟩ := unErr_zero hk
    exact (unrank_ok m k w h1 h2).mono fun _ _ h => h.p hk
  · exact (unrank_bad2 n K w hk).mono fun _ _ h => h.p hk
def rankV (p : List Int) : Int := if rankErr p = 0 then ((rank (p.map Int.toNat) : Nat) : Int) else 0
theorem rank_told (v : Value) (p : List Int) (w : World) (h : IsInts w v p) :
    Calls Tryd.prog 29 #[v] w fun e w' => e = .returned (.tuple #[.int .i64 (rankV p), errV (rankErr p)]) ∧ Below w.heap.size w w' := by
  by_cases hk : rankErr p = 0
  · unfold rankV
    rw [if_pos hk, hk]
    obtain ⟨t, rfl, ht, hl⟩ := rankErr_zero hk
    rw [toNat_ints]
    exact rank_ok v t w h ht hl
  · unfold rankV
    rw [if_neg hk, errV_ne hk]
    exact rank_bad v p w h hk

end Go.Proofs.YtajcjipabfknhaaDoor
