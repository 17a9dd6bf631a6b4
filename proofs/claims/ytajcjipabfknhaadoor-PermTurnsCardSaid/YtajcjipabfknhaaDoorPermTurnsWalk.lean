/- The walk of the law PermTurns. Conditions: none. -/
import Derived.Test.YtajcjipabfknhaaDoorPermTold
set_option linter.unusedSimpArgs false
set_option linter.unusedVariables false
namespace Go.Proofs.YtajcjipabfknhaaDoor
open Go Go.RowKit Go.Proofs.YtajcjipabfknhaaDoor.P

set_option maxRecDepth 100000 in
set_option maxHeartbeats 4000000 in
theorem permTurns_walk (v0 : Value) (p : List Int) (v1 : Value) (q : List Int) (w : World) (hg : Laid0 w) (hp : IsInts w v0 p) (hq : IsInts w v1 q) :
    Calls Tryd.prog 3 #[v0, v1] w (Says w) := by
  go_enter Tryd.func3, Tryd.ntmps3
  go_wp2_with fail
  refine (ofault_any _ p _ hp).mono ?_
  rintro e w0 ⟨rfl, rfl⟩
  go_wp2_with fail
  refine (pcheck_any _ p _ hp).mono ?_
  rintro e w1 ⟨rfl, hbw1⟩
  go_wp2_with fail
  refine (error_any (ordErr p) (ordErr p) _ (hg.mono hbw1)).mono ?_
  rintro e w2 ⟨r, rfl, hr, hb2⟩
  obtain rfl : r = true := hr.2 rfl
  have hbw2 := hbw1.trans (hb2.mono hbw1.size)
  clear hr hb2
  obtain ⟨x1, hx1⟩ : ∃ x, x = ints (inv (p.map Int.toNat)) := ⟨_, rfl⟩
  obtain ⟨x2, hx2⟩ : ∃ x, x = ints (aft (p.map Int.toNat) (q.map Int.toNat)) := ⟨_, rfl⟩
  have T1 := fun W (h : Below w.heap.size w W) => inverse_told v0 p W (hp.mono h)
  have T2 := fun W (h : Below w.heap.size w W) => after_told v0 v1 p q W (hp.mono h) (hq.mono h)
  have T3 := fun W (h : Below w.heap.size w W) => both_any v0 v1 p q W (hp.mono h) (hq.mono h)
  obtain ⟨k, hk⟩ : ∃ k, k = ordErr p := ⟨_, rfl⟩
  obtain ⟨j, hj⟩ : ∃ j, j = aftErr p q := ⟨_, rfl⟩
  rw [← hx1, ← hk] at T1
  rw [← hx2, ← hj] at T2
  rw [← hj] at T3
  have B1 := fun W (h : Below w.heap.size w W) (c : k = 0) => (show Calls _ 11 #[v0] W (GivesL x1 W) by
    obtain ⟨t, rfl, ht, hl⟩ := ordErr_zero (hk.symm.trans c)
    rw [toNat_ints] at hx1
    rw [hx1]
    exact turned_ok v0 t W (hp.mono h) ht hl)
  have B2 := fun W (h : Below w.heap.size w W) (c : j = 0) => (show Calls _ 15 #[v0, v1] W (GivesL x2 W) by
    obtain ⟨e1, e2, e3⟩ := aftErr_zero (hj.symm.trans c)
    obtain ⟨s, rfl, hs, hl⟩ := ordErr_zero e1
    obtain ⟨t, rfl, ht, hl2⟩ := ordErr_zero e2
    rw [toNat_ints, toNat_ints] at hx2
    rw [length_ints, length_ints] at e3
    rw [hx2]
    exact behind_ok v0 v1 s t W (hp.mono h) (hq.mono h) (fun k hk => by rw [e3]; exact ht.lt hk) hl2)
  rw [← hk]
  have T1 := Lib.hid T1
  have T2 := Lib.hid T2
  have T3 := Lib.hid T3
  have B1 := Lib.hid B1
  have B2 := Lib.hid B2
  clear hx1 hx2 hk hj hp hq
  by_cases c1 : k = 0
  · have e1 : (k == 0) = true := by simp [c1]

    have HC := Lib.hid c1
    clear c1
    go_wp2_with fail
    refine (B1.out _ hbw2 HC.out).mono ?_
    rintro e w3 ⟨vr3, rfl, hr3, hb3⟩
    have hbw3 := hbw2.trans (hb3.mono hbw2.size)
    clear hb3 e1
    have hr3 : IsInts w3 vr3 (ians x1 k) := by unfold ians; rw [if_pos HC.out]; exact hr3
    clear HC
    go_wp2_with fail
    refine (T1.out _ hbw3).mono ?_
    rintro e w4 ⟨r4, rfl, hr4, hb4⟩
    have hbw4 := hbw3.trans (hb4.mono hbw3.size)
    have hr3 := hr3.mono hb4
    clear hb4
    go_wp2_with fail
    refine (ints_yes k _ _ _ _ (hg.mono hbw4) hr4 hr3).mono ?_
    rintro e w5 ⟨rfl, hb5⟩
    have hbw5 := hbw4.trans (hb5.mono hbw4.size)
    clear hb5 hr3 hr4
    go_wp2_with fail
    refine (T3.out _ hbw5).mono ?_
    rintro e w6 ⟨rfl, rfl⟩
    obtain ⟨w6, hw6⟩ : ∃ W, W = w5 := ⟨_, rfl⟩
    rw [← hw6] at hbw5 ⊢
    have hbw6 := hbw5
    clear hw6
    by_cases c2 : j = 0
    · have e1 : (j == 0) = true := by simp [c2]

      have HC := Lib.hid c2
      clear c2
      go_wp2_with fail
      refine (B2.out _ hbw6 HC.out).mono ?_
      rintro e w7 ⟨vr7, rfl, hr7, hb7⟩
      have hbw7 := hbw6.trans (hb7.mono hbw6.size)
      clear hb7 e1
      have hr7 : IsInts w7 vr7 (ians x2 j) := by unfold ians; rw [if_pos HC.out]; exact hr7
      clear HC
      go_wp2_with fail
      refine (T2.out _ hbw7).mono ?_
      rintro e w8 ⟨r8, rfl, hr8, hb8⟩
      have hbw8 := hbw7.trans (hb8.mono hbw7.size)
      have hr7 := hr7.mono hb8
      clear hb8
      go_wp2_with fail
      refine (ints_yes j _ _ _ _ (hg.mono hbw8) hr8 hr7).mono ?_
      rintro e w9 ⟨rfl, hb9⟩
      have hbw9 := hbw8.trans (hb9.mono hbw8.size)
      clear hb9
      go_wp2_with fail
      go_ret
      exact ⟨rfl, hbw9⟩
    · have e1 : (j == 0) = false := by simp [c2]
      have hr7 : IsInts w6 (.slice none 0 0) (ians x2 j) := by unfold ians; rw [if_neg c2]; exact ints_none _
      clear c2
      obtain ⟨w7, hw7⟩ : ∃ W, W = w6 := ⟨_, rfl⟩
      have hbw7 := hbw6
      rw [← hw7] at hr7 hbw7 ⊢
      clear hw7
      go_wp2_with fail
      refine (T2.out _ hbw7).mono ?_
      rintro e w8 ⟨r8, rfl, hr8, hb8⟩
      have hbw8 := hbw7.trans (hb8.mono hbw7.size)
      have hr7 := hr7.mono hb8
      clear hb8
      go_wp2_with fail
      refine (ints_yes j _ _ _ _ (hg.mono hbw8) hr8 hr7).mono ?_
      rintro e w9 ⟨rfl, hb9⟩
      have hbw9 := hbw8.trans (hb9.mono hbw8.size)
      clear hb9
      go_wp2_with fail
      go_ret
      exact ⟨rfl, hbw9⟩
  · have e1 : (k == 0) = false := by simp [c1]
    have hr3 : IsInts w2 (.slice none 0 0) (ians x1 k) := by unfold ians; rw [if_neg c1]; exact ints_none _
    clear c1
    obtain ⟨w3, hw3⟩ : ∃ W, W = w2 := ⟨_, rfl⟩
    have hbw3 := hbw2
    rw [← hw3] at hr3 hbw3 ⊢
    clear hw3
    go_wp2_with fail
    refine (T1.out _ hbw3).mono ?_
    rintro e w4 ⟨r4, rfl, hr4, hb4⟩
    have hbw4 := hbw3.trans (hb4.mono hbw3.size)
    have hr3 := hr3.mono hb4
    clear hb4
    go_wp2_with fail
    refine (ints_yes k _ _ _ _ (hg.mono hbw4) hr4 hr3).mono ?_
    rintro e w5 ⟨rfl, hb5⟩
    have hbw5 := hbw4.trans (hb5.mono hbw4.size)
    clear hb5 hr3 hr4
    go_wp2_with fail
    refine (T3.out _ hbw5).mono ?_
    rintro e w6 ⟨rfl, rfl⟩
    obtain ⟨w6, hw6⟩ : ∃ W, W = w5 := ⟨_, rfl⟩
    rw [← hw6] at hbw5 ⊢
    have hbw6 := hbw5
    clear hw6
    by_cases c2 : j = 0
    · have e1 : (j == 0) = true := by simp [c2]

      have HC := Lib.hid c2
      clear c2
      go_wp2_with fail
      refine (B2.out _ hbw6 HC.out).mono ?_
      rintro e w7 ⟨vr7, rfl, hr7, hb7⟩
      have hbw7 := hbw6.trans (hb7.mono hbw6.size)
      clear hb7 e1
      have hr7 : IsInts w7 vr7 (ians x2 j) := by unfold ians; rw [if_pos HC.out]; exact hr7
      clear HC
      go_wp2_with fail
      refine (T2.out _ hbw7).mono ?_
      rintro e w8 ⟨r8, rfl, hr8, hb8⟩
      have hbw8 := hbw7.trans (hb8.mono hbw7.size)
      have hr7 := hr7.mono hb8
      clear hb8
      go_wp2_with fail
      refine (ints_yes j _ _ _ _ (hg.mono hbw8) hr8 hr7).mono ?_
      rintro e w9 ⟨rfl, hb9⟩
      have hbw9 := hbw8.trans (hb9.mono hbw8.size)
      clear hb9
      go_wp2_with fail
      go_ret
      exact ⟨rfl, hbw9⟩
    · have e1 : (j == 0) = false := by simp [c2]
      have hr7 : IsInts w6 (.slice none 0 0) (ians x2 j) := by unfold ians; rw [if_neg c2]; exact ints_none _
      clear c2
      obtain ⟨w7, hw7⟩ : ∃ W, W = w6 := ⟨_, rfl⟩
      have hbw7 := hbw6
      rw [← hw7] at hr7 hbw7 ⊢
      clear hw7
      go_wp2_with fail
      refine (T2.out _ hbw7).mono ?_
      rintro e w8 ⟨r8, rfl, hr8, hb8⟩
      have hbw8 := hbw7.trans (hb8.mono hbw7.size)
      have hr7 := hr7.mono hb8
      clear hb8
      go_wp2_with fail
      refine (ints_yes j _ _ _ _ (hg.mono hbw8) hr8 hr7).mono ?_
      rintro e w9 ⟨rfl, hb9⟩
      have hbw9 := hbw8.trans (hb9.mono hbw8.size)
      clear hb9
      go_wp2_with fail
      go_ret
      exact ⟨rfl, hbw9⟩

end Go.Proofs.YtajcjipabfknhaaDoor
