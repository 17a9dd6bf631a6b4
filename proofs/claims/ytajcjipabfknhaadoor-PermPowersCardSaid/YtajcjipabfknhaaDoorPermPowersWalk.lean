/- The walk of the law PermPowers. Conditions: none. -/
import Derived.Test.YtajcjipabfknhaaDoorRefPower
set_option linter.unusedSimpArgs false
set_option linter.unusedVariables false
namespace Go.Proofs.YtajcjipabfknhaaDoor
open Go Go.RowKit Go.Proofs.YtajcjipabfknhaaDoor.P

set_option maxRecDepth 100000 in
set_option maxHeartbeats 4000000 in
theorem permPowers_walk (v0 : Value) (p : List Int) (K : Int) (w : World) (hg : Laid0 w) (hK0 : (Lit.int .i64 K).wf = true) (hp : IsInts w v0 p) :
    Calls Tryd.prog 4 #[v0, .int .i64 K] w (Says w) := by
  have hK : -9223372036854775808 ≤ K ∧ K ≤ 9223372036854775807 := by
    simp only [Lit.wf, Bool.and_eq_true, decide_eq_true_eq] at hK0
    exact hK0
  clear hK0
  go_enter Tryd.func4, Tryd.ntmps4
  go_wp2_with fail
  refine (ofault_any _ p _ hp).mono ?_
  rintro e w0 ⟨rfl, rfl⟩
  have hbw2 := Below.refl w.heap.size w
  obtain ⟨x1, hx1⟩ : ∃ x, x = ints (pwr (p.map Int.toNat) K) := ⟨_, rfl⟩
  have T1 := fun W (h : Below w.heap.size w W) => power_told v0 K p W (hp.mono h)
  obtain ⟨k, hk⟩ : ∃ k, k = ordErr p := ⟨_, rfl⟩
  rw [← hx1, ← hk] at T1
  have B1 := fun W (h : Below w.heap.size w W) (c : k = 0) => (show Calls _ 17 #[v0, .int .i64 K] W (GivesL x1 W) by
    obtain ⟨t, rfl, ht, hl⟩ := ordErr_zero (hk.symm.trans c)
    rw [toNat_ints] at hx1
    rw [hx1]
    exact powered_ok K v0 t W hK (hp.mono h) ht hl)
  rw [← hk]
  have T1 := Lib.hid T1
  have B1 := Lib.hid B1
  clear hx1 hk hp
  obtain ⟨w2, hw2⟩ : ∃ W, W = w := ⟨_, rfl⟩
  have hbw2 : Below w.heap.size w w2 := by rw [hw2]; exact hbw2
  rw [← hw2]
  clear hw2
  by_cases c1 : k = 0
  · have e1 : (k == 0) = true := by simp [c1]

    have HC := Lib.hid c1
    clear c1
    go_wp2_with fail
    refine (B1.out _ hbw2 HC.out).mono ?_
    rintro e w3 ⟨vr3, rfl, hr3, hb3⟩
    have hbw3 := hbw2.trans (hb3.mono hbw2.size)
    clear hb3 e1
    have hr3 : IsInts w3 vr3 (ians x1 k) := by unfold ians; rw [if_pos HC.out]; exact hr3
    clear HC
    go_wp2_with fail
    refine (T1.out _ hbw3).mono ?_
    rintro e w4 ⟨r4, rfl, hr4, hb4⟩
    have hbw4 := hbw3.trans (hb4.mono hbw3.size)
    have hr3 := hr3.mono hb4
    clear hb4
    go_wp2_with fail
    refine (ints_yes k _ _ _ _ (hg.mono hbw4) hr4 hr3).mono ?_
    rintro e w5 ⟨rfl, hb5⟩
    have hbw5 := hbw4.trans (hb5.mono hbw4.size)
    clear hb5 hr3 hr4
    go_wp2_with fail
    go_ret
    exact ⟨rfl, hbw5⟩
  · have e1 : (k == 0) = false := by simp [c1]
    have hr3 : IsInts w2 (.slice none 0 0) (ians x1 k) := by unfold ians; rw [if_neg c1]; exact ints_none _
    clear c1
    obtain ⟨w3, hw3⟩ : ∃ W, W = w2 := ⟨_, rfl⟩
    have hbw3 := hbw2
    rw [← hw3] at hr3 hbw3 ⊢
    clear hw3
    go_wp2_with fail
    refine (T1.out _ hbw3).mono ?_
    rintro e w4 ⟨r4, rfl, hr4, hb4⟩
    have hbw4 := hbw3.trans (hb4.mono hbw3.size)
    have hr3 := hr3.mono hb4
    clear hb4
    go_wp2_with fail
    refine (ints_yes k _ _ _ _ (hg.mono hbw4) hr4 hr3).mono ?_
    rintro e w5 ⟨rfl, hb5⟩
    have hbw5 := hbw4.trans (hb5.mono hbw4.size)
    clear hb5 hr3 hr4
    go_wp2_with fail
    go_ret
    exact ⟨rfl, hbw5⟩

end Go.Proofs.YtajcjipabfknhaaDoor
