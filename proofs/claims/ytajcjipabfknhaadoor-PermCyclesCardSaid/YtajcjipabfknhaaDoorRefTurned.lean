/- The walks of the references OrderFault, Turned, Behind. Conditions: none. -/
import Derived.Test.YtajcjipabfknhaaDoorRefOnce
import Derived.Test.YtajcjipabfknhaaDoorPermOps
import Derived.Test.YtajcjipabfknhaaDoorTurnPlain
import Derived.Test.YtajcjipabfknhaaDoorAsErr
set_option linter.unusedSimpArgs false
set_option linter.unusedVariables false
namespace Go.Proofs.YtajcjipabfknhaaDoor
open Go Go.RowKit Go.Proofs.YtajcjipabfknhaaDoor.P

theorem ofault_any (v : Value) (p : List Int) (w : World) (hp : IsInts w v p) :
    Calls Tryd.prog 8 #[v] w fun e w' => e = .returned (.int .i64 (ordErr p)) ∧ w = w' := by
  have HP := Lib.hid hp
  obtain ⟨A, ca, rfl, a1, a2, a3, _, a4⟩ := hp
  clear a4
  go_enter Tryd.func8, Tryd.ntmps8
  by_cases h : 4096 < p.length
  · have e1 : decide ((4096 : Int) < (p.length : Int)) = true := by simp; omega
    have HE := Lib.hid (show ordErr p = 7 by unfold ordErr; rw [if_pos h])
    clear h
    go_wp2_with fail
    go_ret
    exact ⟨by rw [HE.out]; rfl, rfl⟩
  · have e1 : decide ((4096 : Int) < (p.length : Int)) = false := by simp; omega
    have HE := Lib.hid (show ordErr p = if IsOrder p then 0 else 6 by unfold ordErr; rw [if_neg h])
    clear h
    go_wp2_with fail
    refine (once_any _ p _ HP.out).mono ?_
    rintro e w1 ⟨rfl, rfl⟩
    by_cases h : IsOrder p
    · have HE2 := Lib.hid (show ordErr p = 0 by rw [HE.out, if_pos h])
      have e2 : decide (IsOrder p) = true := by simpa using h
      rw [e2]
      clear h e2
      go_wp2_with fail
      go_ret
      exact ⟨by rw [HE2.out]; rfl, rfl⟩
    · have HE2 := Lib.hid (show ordErr p = 6 by rw [HE.out, if_neg h])
      have e2 : decide (IsOrder p) = false := by simpa using h
      rw [e2]
      clear h e2
      go_wp2_with fail
      go_ret
      exact ⟨by rw [HE2.out]; rfl, rfl⟩

/-- A call tells a list. -/
def GivesL (xs : List Int) (w : World) (e : Ending) (w' : World) : Prop := ∃ r, e = .returned r ∧ IsInts w' r xs ∧ Below w.heap.size w w'

set_option maxRecDepth 100000 in
set_option maxHeartbeats 4000000 in
theorem turned_ok (v : Value) (s : List Nat) (w : World) (h1 : IsInts w v (ints s)) (hs : Perm s) (hn : s.length ≤ 4096) :
    Calls Tryd.prog 11 #[v] w (GivesL (ints (inv s)) w) := by
  obtain ⟨A, ca, rfl, a1, a2, a3, EA, H0⟩ := h1.open_
  simp only [length_ints] at a1 a2 a3 EA H0 ⊢
  have HE := Lib.hid EA
  have HS := Lib.hid hs
  clear h1 hs EA H0
  go_enter Tryd.func11, Tryd.ntmps11
  go_wp2_with fail
  go_loopw [3, 4] (fun so sk wr => ∃ (k : Nat) (A2 : Option Addr) (c2 : Nat), k ≤ s.length ∧ sk = .int .i64 k ∧ so = .slice A2 k c2 ∧ Owns wr w.heap.size so k (ints ((inv s).take k)) ∧ Below w.heap.size w wr) (fun _ sk _ => s.length - (intOf sk).toNat)
  case atStart => exact ⟨0, none, 0, Nat.zero_le _, rfl, rfl, Owns.nil _ _, Below.refl _ _⟩
  case round =>
    obtain ⟨k, A2, c2, hk, rfl, rfl, ho, hbl⟩ := hrel
    rcases Nat.lt_or_ge k s.length with hlt | hge
    · have HO := Lib.hid ho
      have HB := Lib.hid hbl
      clear ho hbl
      go_wp2_with fail
      obtain ⟨wo, rfl⟩ : ∃ wo : World, wo = wr := ⟨_, rfl⟩
      go_loopw [3, 5] (fun so si wr => ∃ (i n : Nat) (A3 : Option Addr) (c3 : Nat), i ≤ s.length ∧ n ≤ k + 1 ∧ si = .int .i64 i ∧ so = .slice A3 n c3 ∧ Owns wr w.heap.size so n (ints (turnTo s k i)) ∧ Below w.heap.size w wr) (fun _ si _ => s.length - (intOf si).toNat)
      case atStart => exact ⟨0, k, A2, c2, Nat.zero_le _, by omega, rfl, rfl, by rw [turn_zero]; exact HO.out, HB.out⟩
      case round =>
        obtain ⟨i, n, A3, c3, hi, hnk, rfl, rfl, h2, hbl⟩ := hrel
        rcases Nat.lt_or_ge i s.length with hil | hig
        · obtain ⟨ad, x, rfl, hx, hal, hcx⟩ := Elems.later HE.out hbl (k := i) (by rw [length_ints]; exact hil)
          obtain ⟨rfl, -⟩ := ints_getD hx
          obtain ⟨X, hX⟩ : ∃ X, X = s.getD i 0 := ⟨_, rfl⟩
          rw [← hX] at hcx
          have hsz := hbl.size
          clear hx
          by_cases hxk : X = k
          · have e1 : ((X : Int) == (k : Int)) = true := by simp [hxk]
            have HY := Lib.hid (turn_hit HS.out hil (hX.symm.trans hxk))
            have HN := Lib.hid (turn_length (s := s) (i := i + 1) hlt)
            have HOL := Lib.hid h2.length
            clear hxk hX
            go_wp2_with (at_builtin; refine wpList_append_ints _ rfl rfl _ _ rfl w.heap.size n _ (ints (turnTo s k i)) rfl (h2.alloc _) (some ⟨wr.heap.size, 0, none⟩) 1 1 [(i : Int)] rfl (by simp) (elems_new wr i) rfl (by omega) (by simp; omega) ?_; intro A4 c4 w4 hown4 hgrow4 hat4)
            go_roundw
            case rel =>
              refine ⟨i + 1, n + 1, A4, c4, by omega, ?_, by go_num, rfl, ?_, ?_⟩
              · have h5 := HN.out
                rw [HY.out, List.length_append] at h5
                have h6 := HOL.out
                rw [length_ints] at h6
                simp at h5
                omega
              · rw [HY.out]
                simpa [ints] using hown4
              · exact (hbl.alloc hbl.size _).grown hgrow4 (by simp; omega) (fun _ e => (h2.lt e).1)
            case measure => simp [intOf]; omega
          · have e1 : ((X : Int) == (k : Int)) = false := by simp; omega
            have HY := Lib.hid (turn_miss (i := i) HS.out hlt (fun e => hxk (hX.trans e)))
            clear hxk hX
            go_wp2_with fail
            go_roundw
            case rel => exact ⟨i + 1, n, A3, c3, by omega, hnk, by go_num, rfl, by rw [HY.out]; exact h2, hbl⟩
            case measure => simp [intOf]; omega
        · obtain rfl : i = s.length := by omega
          rw [turn_all HS.out hlt] at h2
          have hn : n = k + 1 := by
            have h3 := h2.length
            rw [length_ints, List.length_take, inv_length] at h3
            omega
          subst hn
          go_wp2_with fail
          go_roundw
          case rel => exact ⟨k + 1, A3, c3, by omega, by go_num, rfl, h2, hbl⟩
          case measure => simp [intOf]; omega
    · obtain rfl : k = s.length := by omega
      rw [List.take_of_length_le (by rw [inv_length]; exact Nat.le_refl _)] at ho
      go_wp2_with fail
      go_ret
      exact ⟨_, rfl, ho.isInts, hbl⟩

set_option maxRecDepth 100000 in
set_option maxHeartbeats 4000000 in
theorem behind_ok (v1 v2 : Value) (s t : List Nat) (w : World) (h1 : IsInts w v1 (ints s)) (h2 : IsInts w v2 (ints t)) (hlt : ∀ k, k < t.length → t.getD k 0 < s.length) (hn : t.length ≤ 4096) :
    Calls Tryd.prog 15 #[v1, v2] w (GivesL (ints (aft s t)) w) := by
  obtain ⟨A, ca, rfl, a1, a2, a3, EA, H0⟩ := h1.open_
  obtain ⟨B, cb, rfl, b1, b2, b3, EB, H1⟩ := h2.open_
  simp only [length_ints] at a1 a2 a3 EA H0 b1 b2 b3 EB H1 ⊢
  have HA := Lib.hid EA
  have HB := Lib.hid EB
  have HLT := Lib.hid hlt
  clear h1 h2 hlt EA EB H0 H1
  go_enter Tryd.func15, Tryd.ntmps15
  go_wp2_with fail
  go_loopw [5, 6] (fun so sk wr => ∃ (k : Nat) (A2 : Option Addr) (c2 : Nat), k ≤ t.length ∧ sk = .int .i64 k ∧ so = .slice A2 k c2 ∧ Owns wr w.heap.size so k (ints ((aft s t).take k)) ∧ Below w.heap.size w wr) (fun _ sk _ => t.length - (intOf sk).toNat)
  case atStart => exact ⟨0, none, 0, Nat.zero_le _, rfl, rfl, Owns.nil _ _, Below.refl _ _⟩
  case round =>
    obtain ⟨k, A2, c2, hk, rfl, rfl, ho, hbl⟩ := hrel
    rcases Nat.lt_or_ge k t.length with hlt | hge
    · have hlk := HLT.out k hlt
      obtain ⟨ad, x, rfl, hx, hal, hcx⟩ := Elems.later HB.out hbl (k := k) (by rw [length_ints]; exact hlt)
      obtain ⟨rfl, -⟩ := ints_getD hx
      obtain ⟨ae, y, rfl, hy, hae, hcy⟩ := Elems.later HA.out hbl (k := t.getD k 0) (by rw [length_ints]; exact hlk)
      obtain ⟨rfl, -⟩ := ints_getD hy
      have HY := Lib.hid (aft_take (s := s) hlt)
      obtain ⟨m, hm⟩ : ∃ m, m = t.getD k 0 := ⟨_, rfl⟩
      obtain ⟨u, hu⟩ : ∃ u, u = s.getD m 0 := ⟨_, rfl⟩
      rw [← hm] at hlk hcx hcy
      rw [← hu] at hcy
      rw [← hm, ← hu] at HY
      have hsz := hbl.size
      clear hx hy hm hu
      go_wp2_with (at_builtin; refine wpList_append_ints _ rfl rfl _ _ rfl w.heap.size k _ (ints ((aft s t).take k)) rfl (ho.alloc _) (some ⟨wr.heap.size, 0, none⟩) 1 1 [(u : Int)] rfl (by simp) (elems_new wr u) rfl (by omega) (by simp; omega) ?_; intro A4 c4 w4 hown4 hgrow4 hat4)
      go_roundw
      case rel => exact ⟨k + 1, A4, c4, by omega, by go_num, rfl, by rw [← HY.out]; exact hown4, (hbl.alloc hbl.size _).grown hgrow4 (by simp; omega) (fun _ e => (ho.lt e).1)⟩
      case measure => simp [intOf]; omega
    · obtain rfl : k = t.length := by omega
      rw [List.take_of_length_le (by rw [aft_length]; exact Nat.le_refl _)] at ho
      go_wp2_with fail
      go_ret
      exact ⟨_, rfl, ho.isInts, hbl⟩

end Go.Proofs.YtajcjipabfknhaaDoor
