/- What the programs of the cards on orders tell, whatever they are given; the laws' own 'ints' and 'both'. Conditions: none. -/
import Derived.Test.YtajcjipabfknhaaDoorRefTurned
import Derived.Test.YtajcjipabfknhaaDoorAlike
set_option linter.unusedSimpArgs false
set_option linter.unusedVariables false
namespace Go.Proofs.YtajcjipabfknhaaDoor
open Go Go.RowKit Go.Proofs.YtajcjipabfknhaaDoor.P

/-- The list that goes with an error's number. -/
def ians (xs : List Int) (k : Int) : List Int := if k = 0 then xs else []
def PToldI (xs : List Int) (k : Int) (w : World) (e : Ending) (w' : World) : Prop := ∃ r, e = .returned (.tuple #[r, errV k]) ∧ IsInts w' r (ians xs k) ∧ Below w.heap.size w w'
theorem ints_none (w : World) : IsInts w (.slice none 0 0) [] := (Owns.nil w 0).isInts
theorem GivesInts.p {xs : List Int} {k : Int} {w w' : World} {e : Ending} (h : GivesInts xs w e w') (hk : k = 0) : PToldI xs k w e w' := by
  obtain ⟨r, rfl, hr, hb⟩ := h
  subst hk
  exact ⟨r, rfl, hr, hb⟩
theorem FailsInts.p {xs : List Int} {k : Int} {w w' : World} {e : Ending} (h : FailsInts k w e w') (hk : k ≠ 0) : PToldI xs k w e w' := by
  obtain ⟨rfl, hb⟩ := h
  exact ⟨_, by rw [errV_ne hk], by unfold ians; rw [if_neg hk]; exact ints_none _, hb⟩
theorem toNat_ints (t : List Nat) : (ints t).map Int.toNat = t := by
  unfold ints
  rw [List.map_map]
  exact (List.map_congr_left fun x _ => by simp).trans (List.map_id t)

theorem inverse_told (v : Value) (p : List Int) (w : World) (h : IsInts w v p) :
    Calls Tryd.prog 12 #[v] w (PToldI (ints (inv (p.map Int.toNat))) (ordErr p) w) := by
  by_cases hk : ordErr p = 0
  · obtain ⟨t, rfl, ht, hl⟩ := ordErr_zero hk
    rw [toNat_ints]
    exact (inverse_ok v t w h ht hl).mono fun _ _ h => h.p hk
  · exact (inverse_bad v p w h hk).mono fun _ _ h => h.p hk
theorem aftErr_zero {p q : List Int} (h : aftErr p q = 0) : ordErr p = 0 ∧ ordErr q = 0 ∧ p.length = q.length := by
  unfold aftErr at h
  by_cases h1 : ordErr p = 0
  · rw [if_neg (fun e => e h1)] at h
    by_cases h2 : ordErr q = 0
    · rw [if_neg (fun e => e h2)] at h
      by_cases h3 : p.length = q.length
      · exact ⟨h1, h2, h3⟩
      · rw [if_pos h3] at h; omega
    · rw [if_pos h2] at h; exact absurd h h2
  · rw [if_pos h1] at h; exact absurd h h1
theorem after_told (v1 v2 : Value) (p q : List Int) (w : World) (h1 : IsInts w v1 p) (h2 : IsInts w v2 q) :
    Calls Tryd.prog 16 #[v1, v2] w (PToldI (ints (aft (p.map Int.toNat) (q.map Int.toNat))) (aftErr p q) w) := by
  by_cases hk : aftErr p q = 0
  · obtain ⟨e1, e2, e3⟩ := aftErr_zero hk
    obtain ⟨s, rfl, hs, hl⟩ := ordErr_zero e1
    obtain ⟨t, rfl, ht, hl2⟩ := ordErr_zero e2
    rw [toNat_ints, toNat_ints]
    rw [length_ints, length_ints] at e3
    exact (after_ok v1 v2 s t w h1 h2 hs ht e3.symm hl).mono fun _ _ h => h.p hk
  · exact (after_bad v1 v2 p q w h1 h2 hk).mono fun _ _ h => h.p hk
/-- The laws' 'ints', where both tell the same. -/
theorem ints_yes (k : Int) (vg vw : Value) (xs : List Int) (w : World) (hg : Laid0 w) (h1 : IsInts w vg xs) (h2 : IsInts w vw xs) :
    Calls Tryd.prog 13 #[vg, errV k, vw, .int .i64 k] w fun e w' => e = .returned (.bool true) ∧ Below w.heap.size w w' := by
  go_enter Tryd.func13, Tryd.ntmps13
  go_wp2_with fail
  refine (error_any k k _ hg).mono ?_
  rintro e w1 ⟨r, rfl, hr, hb1⟩
  obtain rfl : r = true := hr.2 rfl
  clear hr
  go_wp2_with fail
  refine (ints_any _ _ xs xs _ (h1.mono hb1) (h2.mono hb1)).mono ?_
  rintro e w2 ⟨r, rfl, hr, hb2⟩
  obtain rfl : r = true := hr.2 rfl
  have hbw2 := hb1.trans (hb2.mono hb1.size)
  clear hr hb1 hb2
  go_wp2_with fail
  go_ret
  exact ⟨rfl, hbw2⟩

theorem both_any (v0 v1 : Value) (p q : List Int) (w : World) (hp : IsInts w v0 p) (hq : IsInts w v1 q) :
    Calls Tryd.prog 14 #[v0, v1] w fun e w' => e = .returned (.int .i64 (aftErr p q)) ∧ w = w' := by
  have HP := Lib.hid hp
  have HQ := Lib.hid hq
  obtain ⟨A, ca, rfl, a1, a2, a3, _, a4⟩ := hp
  obtain ⟨B, cb, rfl, b1, b2, b3, _, b4⟩ := hq
  clear a4 b4
  go_enter Tryd.func14, Tryd.ntmps14
  go_wp2_with fail
  refine (ofault_any _ p _ HP.out).mono ?_
  rintro e w1 ⟨rfl, rfl⟩
  obtain ⟨k, hk⟩ : ∃ k, k = ordErr p := ⟨_, rfl⟩
  rw [← hk]
  by_cases c : k = 0
  · have HE := Lib.hid (show aftErr p q = if ordErr q ≠ 0 then ordErr q else if p.length ≠ q.length then 4 else 0 by unfold aftErr; rw [if_neg (fun h => h (hk.symm.trans c))])
    subst c
    clear hk
    go_wp2_with fail
    refine (ofault_any _ q _ HQ.out).mono ?_
    rintro e w1 ⟨rfl, rfl⟩
    obtain ⟨j, hj⟩ : ∃ j, j = ordErr q := ⟨_, rfl⟩
    rw [← hj] at HE ⊢
    clear hj
    by_cases c2 : j = 0
    · subst c2
      by_cases c3 : p.length = q.length
      · have HE2 := Lib.hid (show aftErr p q = 0 by rw [HE.out, if_neg (fun h => h rfl), if_neg (fun h => h c3)])
        have e1 : ((p.length : Int) != (q.length : Int)) = false := by simp [c3]
        have e2 : (p.length : Int) = (q.length : Int) := by omega
        clear c3
        go_wp2_with fail
        go_ret
        exact ⟨by rw [HE2.out]; rfl, rfl⟩
      · have HE2 := Lib.hid (show aftErr p q = 4 by rw [HE.out, if_neg (fun h => h rfl), if_pos c3])
        have e1 : ((p.length : Int) != (q.length : Int)) = true := by simp; omega
        have e2 : ¬ (p.length : Int) = (q.length : Int) := by omega
        clear c3
        go_wp2_with fail
        go_ret
        exact ⟨by rw [HE2.out]; rfl, rfl⟩
    · have e1 : (j == 0) = false := by simp [c2]
      have HE2 := Lib.hid (show aftErr p q = j by rw [HE.out, if_pos c2])
      clear c2
      go_wp2_with fail
      go_ret
      exact ⟨by rw [HE2.out]; rfl, rfl⟩
  · have e1 : (k == 0) = false := by simp [c]
    have HE := Lib.hid (show aftErr p q = k by unfold aftErr; rw [if_pos (by rw [← hk]; exact c), ← hk])
    clear c hk
    go_wp2_with fail
    go_ret
    exact ⟨by rw [HE.out]; rfl, rfl⟩

end Go.Proofs.YtajcjipabfknhaaDoor
