/- The walk of the reference's Axed: the shape whose axis p[k] is axis k. Conditions: none. -/
import Derived.Test.YtlkeipgpckkhbaaDoorRefOnce
import Derived.Test.YtlkeipgpckkhbaaDoorRefAt
import Derived.Test.YtlkeipgpckkhbaaDoorAxes
import Derived.BigQuiet
import Derived.Deep.QuietTactic
namespace Go.Proofs.YtlkeipgpckkhbaaDoor
open Go Go.RowKit Go.Proofs.YtlkeipgpckkhbaaDoor.P

set_option maxHeartbeats 1000000 in
theorem axed_bad {vs vp : Value} {s p : List Int} {w : World} (hs : IsInts w vs s) (hp : IsInts w vp p) (h : axesErr s p ≠ 0) :
    Calls Tryd.prog 25 #[vs, vp] w fun e w' => e = .returned (.tuple #[.slice none 0 0, .int .i64 (axesErr s p)]) ∧ w = w' := by
  obtain ⟨A, ca, rfl, a1, a2, a3, -, HS0⟩ := hs.open_
  obtain ⟨B, cb, rfl, b1, b2, b3, -, HP0⟩ := hp.open_
  have HS := Lib.hid HS0
  have HP := Lib.hid HP0
  have H := Lib.hid h
  clear hs hp h HS0 HP0
  go_enter Tryd.func25, Tryd.ntmps25
  go_wp2_with fail
  refine (fault_any _ s _ HS.out).mono ?_
  rintro e w1 ⟨rfl, rfl⟩
  by_cases c1 : cntErr s = 0
  case neg =>
    have HE := Lib.hid (show axesErr s p = cntErr s by unfold axesErr; rw [if_pos c1])
    have e1 : (cntErr s != 0) = true := by simp [c1]
    clear c1
    go_wp2_with fail
    go_ret2
    exact ⟨by rw [HE.out]; rfl, rfl⟩
  have C1 := Lib.hid c1
  rw [c1]
  clear c1
  by_cases c2 : p.length = s.length
  case neg =>
    have HE := Lib.hid (show axesErr s p = 4 by unfold axesErr; rw [if_neg (fun h => h C1.out), if_pos c2])
    have e1 : ((p.length : Int) != (s.length : Int)) = true := by simp; omega
    clear c2
    go_wp2_with fail
    go_ret2
    exact ⟨by rw [HE.out]; rfl, rfl⟩
  have C2 := Lib.hid c2
  have e1 : ((p.length : Int) != (s.length : Int)) = false := by simp; omega
  clear c2
  go_wp2_with fail
  refine (once_any _ p _ HP.out).mono ?_
  rintro e w2 ⟨rfl, rfl⟩
  by_cases c3 : IsOrder p
  · exact absurd (show axesErr s p = 0 by unfold axesErr; rw [if_neg (fun h => h C1.out), if_neg (fun h => h C2.out), if_pos c3]) H.out
  · have HE := Lib.hid (show axesErr s p = 5 by unfold axesErr; rw [if_neg (fun h => h C1.out), if_neg (fun h => h C2.out), if_neg c3])
    rw [decide_eq_false c3]
    clear c3
    go_wp2_with fail
    go_ret2
    exact ⟨by rw [HE.out]; rfl, rfl⟩

set_option maxHeartbeats 1000000 in
theorem axed_ok {vs vp : Value} {t u : List Nat} {w : World} (hs : IsInts w vs (ints t)) (hp : IsInts w vp (ints u)) (hg : GoodSh t) (hu : Perm u) (hl : u.length = t.length) :
    Calls Tryd.prog 25 #[vs, vp] w fun e w' => ∃ A c, e = .returned (.tuple #[.slice A t.length c, .int .i64 0]) ∧ Owns w' w.heap.size (.slice A t.length c) t.length (ints (flipSh u t)) ∧ Below w.heap.size w w' := by
  obtain ⟨A, ca, rfl, a1, a2, a3, ES, HS0⟩ := hs.open_
  obtain ⟨B, cb, rfl, b1, b2, b3, EP, HP0⟩ := hp.open_
  simp only [length_ints] at a1 a3 b1 b3 HS0 HP0 ⊢
  rw [hl] at b1 b3 HP0 ⊢
  have HS := Lib.hid HS0
  have HP := Lib.hid HP0
  have HES := Lib.hid ES
  have HEP := Lib.hid EP
  have HG := Lib.hid hg
  have HU := Lib.hid hu
  have HL := Lib.hid hl
  have ht6 := hg.1
  obtain ⟨T, hT⟩ : ∃ T, T = ints (flipSh u t) := ⟨_, rfl⟩
  have HT := Lib.hid hT
  have HTL := Lib.hid (show T.length = t.length by rw [hT, length_ints, flipSh_length, hl])
  rw [← hT]
  have HC := Lib.hid (cntErr_ints hg)
  have HO := Lib.hid (order_ints.2 hu)
  clear hs hp HS0 HP0 ES EP hg hu hl hT
  go_enter Tryd.func25, Tryd.ntmps25
  go_wp2_with fail
  refine (fault_any _ (ints t) _ HS.out).mono ?_
  rintro e w1 ⟨rfl, rfl⟩
  rw [HC.out]
  go_wp2_with fail
  refine (once_any _ (ints u) _ HP.out).mono ?_
  rintro e w2 ⟨rfl, rfl⟩
  rw [decide_eq_true HO.out]
  go_wp2_with fail
  go_loopw [7, 8] (fun s7 s8 wr => ∃ (k : Nat) (A1 : Option Addr) (c1 : Nat), k ≤ t.length ∧ s8 = .int .i64 k ∧ s7 = .slice A1 k c1 ∧ Owns wr w.heap.size (.slice A1 k c1) k (T.take k) ∧ Below w.heap.size w wr) (fun _ s8 _ => t.length - (intOf s8).toNat)
  case atStart => exact ⟨0, none, 0, Nat.zero_le _, rfl, rfl, Owns.nil _ _, Below.refl _ _⟩
  case round =>
    obtain ⟨k, A1, c1, hk, rfl, rfl, o1, hbl⟩ := hrel
    have O1 := Lib.hid o1
    have HBL := Lib.hid hbl
    clear o1 hbl
    rcases Nat.lt_or_ge k t.length with hlt | hge
    · have hku : k < u.length := by rw [HL.out]; exact hlt
      obtain ⟨j, hj⟩ : ∃ j, j = u.idxOf k := ⟨_, rfl⟩
      have HJ := Lib.hid hj
      have hjl : j < t.length := by rw [hj, ← HL.out]; exact idx_lt HU.out hku
      clear hj
      go_wp2_with fail
      go_loopw [7, 9] (fun s7 s9 wr => ∃ (i n : Nat) (A2 : Option Addr) (c2 : Nat), i ≤ t.length ∧ s9 = .int .i64 i ∧ s7 = .slice A2 n c2 ∧ n = (if j < i then k + 1 else k) ∧ Owns wr w.heap.size (.slice A2 n c2) n (T.take n) ∧ Below w.heap.size w wr) (fun _ s9 _ => t.length - (intOf s9).toNat)
      case atStart => exact ⟨0, k, A1, c1, Nat.zero_le _, rfl, rfl, by simp, O1.out, HBL.out⟩
      case round =>
        obtain ⟨i, n, A2, c2, hi, rfl, rfl, hn, o2, hbl⟩ := hrel
        rcases Nat.lt_or_ge i t.length with hil | hig
        · have hiu : i < u.length := by rw [HL.out]; exact hil
          obtain ⟨ax, x, rfl, hx, hax, hcx⟩ := Elems.later HEP.out hbl (k := i) (by rw [length_ints]; exact hiu)
          obtain ⟨rfl, -⟩ := ints_getD hx
          obtain ⟨ay, y, rfl, hy, hay, hcy⟩ := Elems.later HES.out hbl (k := i) (by rw [length_ints]; exact hil)
          obtain ⟨rfl, -⟩ := ints_getD hy
          obtain ⟨U, hU⟩ : ∃ U, U = u.getD i 0 := ⟨_, rfl⟩
          obtain ⟨Y, hY⟩ : ∃ Y, Y = t.getD i 0 := ⟨_, rfl⟩
          rw [← hU] at hcx
          rw [← hY] at hcy
          by_cases hik : U = k
          · have hij : j = i := by rw [HJ.out, ← hik, hU]; exact idx_of HU.out hiu
            have hnk : n = k := by rw [hn, if_neg (by omega)]
            subst hnk
            have HXK := Lib.hid (show T[n]? = some (Y : Int) by
              have e2 := flipSh_at (q := u) (t := t) HU.out hiu
              rw [← hU, hik, ← hY] at e2
              rw [HT.out, ← e2]
              exact ints_get (by rw [flipSh_length]; exact hku))
            have e1 : ((U : Int) == (n : Int)) = true := by simp; omega
            have hne := hbl.size
            clear hx hy hU hY hn
            go_wp2_with (at_builtin; refine wpList_append_ints _ rfl rfl _ _ rfl w.heap.size n (.slice A2 n c2) (T.take n) rfl (o2.alloc _) (some ⟨_, 0, none⟩) 1 1 [(Y : Int)] rfl (by simp) (elems_new _ (Y : Int)) rfl (by omega) (by simp; omega) ?_; intro A3 c3 w3 hown3 hgrow3 hat3)
            rw [take_at HXK.out] at hown3
            go_roundw
            case rel => exact ⟨i + 1, n + 1, A3, c3, by omega, by go_num, rfl, by rw [if_pos (by omega)], hown3, (hbl.alloc hbl.size _).grown hgrow3 (by simp; omega) (fun _ e => (o2.lt e).1)⟩
            case measure => simp [intOf]; omega
          · have hij : j ≠ i := fun e => hik (by rw [hU, ← e, HJ.out]; exact idx_get HU.out hku)
            have e1 : ((U : Int) == (k : Int)) = false := by simp; omega
            have HN := Lib.hid (show n = if j < i + 1 then k + 1 else k by rw [hn]; by_cases h : j < i; rw [if_pos h, if_pos (by omega)]; rw [if_neg h, if_neg (by omega)])
            clear hx hy hU hY hn hik
            go_wp2_with fail
            go_roundw
            case rel => exact ⟨i + 1, n, A2, c2, by omega, by go_num, rfl, HN.out, o2, hbl⟩
            case measure => simp [intOf]; omega
        · have hie : i = t.length := by omega
          have hnk : n = k + 1 := by rw [hn, if_pos (by omega)]
          subst hnk
          subst hie
          clear hn
          go_wp2_with fail
          go_roundw
          case rel => exact ⟨k + 1, A2, c2, by omega, by go_num, rfl, o2, hbl⟩
          case measure => simp [intOf]; omega
    · obtain rfl : k = t.length := by omega
      have o3 := O1.out
      rw [List.take_of_length_le (by rw [HTL.out]; exact Nat.le_refl _)] at o3
      have hb3 := HBL.out
      go_wp2_with fail
      go_ret2
      exact ⟨_, _, rfl, o3, hb3⟩

end Go.Proofs.YtlkeipgpckkhbaaDoor
