/- The walks of the references' small functions: what is wrong with a shape, how many cells, the indices of a place, the place of indices. Conditions: none but these. -/
import Derived.Test.YtfaojciballhnaaDoorCount
import Derived.Test.YtfaojciballhnaaDoorOdo
import Derived.Test.YtfaojciballhnaaDoorList
import Derived.Test.YtfaojciballhnaaDoorMoved
import Derived.Test.YtfaojciballhnaaDoorMore
import Derived.Test.YtfaojciballhnaaDoorIntsAt
import Derived.BigQuiet
import Derived.Deep.QuietTactic
set_option linter.unusedSimpArgs false
set_option linter.unusedVariables false
namespace Go.Proofs.YtfaojciballhnaaDoor.P

theorem cnt_rank {s : List Int} (h : 6 < s.length) : cntErr s = 3 := by unfold cntErr; rw [if_pos h]
theorem cnt_scan {s : List Int} (h : ¬ 6 < s.length) {k : Int} (hk : scanErr s = k) (h0 : k ≠ 0) : cntErr s = k := by
  subst hk; unfold cntErr; rw [if_neg h, if_pos h0]
theorem cnt_none {s : List Int} (h : ¬ 6 < s.length) (hk : scanErr s = 0) (h0 : (0 : Int) ∈ s) : cntErr s = 0 := by
  unfold cntErr; rw [if_neg h, if_neg (by rw [hk]; simp), if_pos h0]
theorem cnt_full {s : List Int} (h : ¬ 6 < s.length) (hk : scanErr s = 0) (h0 : (0 : Int) ∉ s) (hg : grow 1 s = none) : cntErr s = 7 := by
  unfold cntErr; rw [if_neg h, if_neg (by rw [hk]; simp), if_neg h0, hg]
theorem cnt_fine {s : List Int} (h : ¬ 6 < s.length) (hk : scanErr s = 0) (h0 : (0 : Int) ∉ s) {p : Int} (hg : grow 1 s = some p) : cntErr s = 0 := by
  unfold cntErr; rw [if_neg h, if_neg (by rw [hk]; simp), if_neg h0, hg]
theorem mem_take_succ {s : List Int} {k : Nat} {x y : Int} (h : s[k]? = some x) : y ∈ s.take (k + 1) ↔ y ∈ s.take k ∨ y = x := by
  rw [List.take_add_one, h]; simp
theorem room_div {q x : Nat} : 4096 / q / x = 4096 / (q * x) := Nat.div_div_eq_div_mul ..
theorem place_drop {t ix : List Nat} {k : Nat} (hk : k < t.length) (hl : ix.length = t.length) : place (t.drop k) (ix.drop k) = ix.getD k 0 * prod (t.drop (k + 1)) + place (t.drop (k + 1)) (ix.drop (k + 1)) := by
  rw [List.drop_eq_getElem_cons hk, List.drop_eq_getElem_cons (show k < ix.length by omega), place, List.getD_eq_getElem?_getD, List.getElem?_eq_getElem (show k < ix.length by omega)]
  rfl
theorem prod_drop {t : List Nat} {k : Nat} (hk : k < t.length) : prod (t.drop k) = t.getD k 0 * prod (t.drop (k + 1)) := by
  rw [List.drop_eq_getElem_cons hk, prod, List.getD_eq_getElem?_getD, List.getElem?_eq_getElem hk]
  rfl
theorem prod_drop_le {t : List Nat} (h : prod t ≠ 0) (k : Nat) : prod (t.drop k) ≤ prod t := by
  have e : prod t = prod (t.take k) * prod (t.drop k) := by rw [← prod_append, List.take_append_drop]
  rw [e] at h ⊢
  exact Nat.le_mul_of_pos_left _ (Nat.pos_of_ne_zero fun h0 => h (by rw [h0, Nat.zero_mul]))
end Go.Proofs.YtfaojciballhnaaDoor.P
namespace Go.Proofs.YtfaojciballhnaaDoor
open Go Go.RowKit Go.Proofs.YtfaojciballhnaaDoor.P

set_option maxHeartbeats 1000000 in
theorem fault_any (v : Value) (xs : List Int) (w : World) (ha : IsInts w v xs) :
    Calls Tryd.prog 23 #[v] w fun e w' => e = .returned (.int .i64 (cntErr xs)) ∧ w = w' := by
  obtain ⟨A, ca, rfl, a1, a2, a3, _, a4⟩ := ha
  have hA := Lib.hid a4
  clear a4
  rcases Nat.lt_or_ge 6 xs.length with h6 | h6
  · go_enter Tryd.func23, Tryd.ntmps23
    go_wp2
    go_ret
    exact ⟨ret_int (cnt_rank h6).symm, rfl⟩
  · go_enter Tryd.func23, Tryd.ntmps23
    go_wp2
    go_loop [3, 4] (fun b i => ∃ k : Nat, k ≤ xs.length ∧ i = .int .i64 k ∧ b = .bool (decide ((0 : Int) ∈ xs.take k)) ∧ ScanTo k xs) (fun _ i => xs.length - (intOf i).toNat)
    case atStart => exact ⟨0, Nat.zero_le _, rfl, by simp, ScanTo.zero _⟩
    case round =>
      obtain ⟨k, hk, rfl, rfl, hs⟩ := hrel
      obtain ⟨bz, hbz⟩ : ∃ bz, bz = decide ((0 : Int) ∈ xs.take k) := ⟨_, rfl⟩
      rw [← hbz]
      have HBZ := Lib.hid hbz
      clear hbz
      rcases Nat.lt_or_ge k xs.length with hlt | hge
      · obtain ⟨ad, x, rfl, hx, _, hcx⟩ := Elems.at_ hA.out hlt
        have hx' := Lib.hid hx
        clear hx
        rcases Int.lt_or_le x 0 with h0 | h0
        · go_wp2
          go_ret
          exact ⟨ret_int (cnt_scan (by omega) (hs.low hx'.out h0) (by omega)).symm, rfl⟩
        · rcases Int.lt_or_le 4096 x with h1 | h1
          · go_wp2
            go_ret
            exact ⟨ret_int (cnt_scan (by omega) (hs.high hx'.out h1) (by omega)).symm, rfl⟩
          · have hs2 := Lib.hid (hs.succ hx'.out h0 h1)
            clear hs
            by_cases hz : x = 0
            · subst hz
              go_wp2
              go_round
              case rel => exact ⟨k + 1, by omega, by go_num, by rw [decide_eq_true ((mem_take_succ hx'.out).2 (.inr rfl))], hs2.out⟩
              case measure => simp [intOf]; omega
            · have hzb : ((x : Int) == 0) = false := by simp [hz]
              have hz' := Lib.hid hz
              clear hz
              go_wp2
              go_round
              case rel => exact ⟨k + 1, by omega, by go_num, by rw [HBZ.out]; congr 1; apply decide_eq_decide.2; rw [mem_take_succ hx'.out]; exact ⟨fun h => .inl h, fun h => h.elim id fun e => absurd e.symm hz'.out⟩, hs2.out⟩
              case measure => simp [intOf]; omega
      · have hs0 := Lib.hid (hs.all hge)
        clear hs
        have hbz2 : bz = decide ((0 : Int) ∈ xs) := by rw [HBZ.out, List.take_of_length_le hge]
        by_cases h0 : (0 : Int) ∈ xs
        · rw [decide_eq_true h0] at hbz2
          subst hbz2
          have H0 := Lib.hid h0
          clear h0
          go_wp2
          go_ret
          exact ⟨ret_int (cnt_none (by omega) hs0.out H0.out).symm, rfl⟩
        · rw [decide_eq_false h0] at hbz2
          subst hbz2
          have H0 := Lib.hid h0
          clear h0
          go_wp2
          go_loop [5, 6] (fun p i => ∃ (k q : Nat), k ≤ xs.length ∧ i = .int .i64 k ∧ p = .int .i64 ((4096 / q : Nat) : Int) ∧ 1 ≤ q ∧ q ≤ 4096 ∧ GrowTo k q xs) (fun _ i => xs.length - (intOf i).toNat)
          case atStart => exact ⟨0, 1, Nat.zero_le _, rfl, rfl, by omega, by omega, GrowTo.zero _⟩
          case round =>
            obtain ⟨k3, q, hk3, rfl, rfl, q0, q1, hs3⟩ := hrel
            rcases Nat.lt_or_ge k3 xs.length with hlt3 | hge3
            · obtain ⟨ad, x, rfl, hx, _, hcx⟩ := Elems.at_ hA.out hlt3
              obtain ⟨x0, x1⟩ := scanErr_bound hs0.out hx
              have xne : x ≠ 0 := fun e => H0.out (by rw [← e]; exact List.mem_of_getElem? hx)
              obtain ⟨y, rfl⟩ := Int.eq_ofNat_of_zero_le x0
              have hx' := Lib.hid hx
              have hyz : ¬ y = 0 := by omega
              have hyb : ((y : Int) == 0) = false := by rw [beq_eq_false_iff_ne]; omega
              obtain ⟨r, hr⟩ : ∃ r, r = 4096 / q := ⟨_, rfl⟩
              have hr4 : r ≤ 4096 := by rw [hr]; exact Nat.div_le_self _ _
              obtain ⟨s, hs⟩ : ∃ s, s = r / y := ⟨_, rfl⟩
              have hs4 : s ≤ 4096 := by rw [hs]; exact Nat.le_trans (Nat.div_le_self _ _) hr4
              have hdv : Int.tdiv (r : Int) (y : Int) = (s : Int) := by rw [hs]; rfl
              have hsq : s = 4096 / (q * y) := by rw [hs, hr, room_div]
              rw [← hr]
              have HS := Lib.hid hsq
              clear hx hr hs hsq
              rcases Nat.eq_zero_or_pos s with h0 | h0
              · subst h0
                have hbig : 4096 < q * y := by
                  have := HS.out
                  rcases Nat.lt_or_ge 4096 (q * y) with h | h
                  · exact h
                  · have hp : 0 < q * y := Nat.mul_pos (by omega) (by omega)
                    have := Nat.div_pos h hp
                    omega
                have HBG := Lib.hid hbig
                clear hbig
                go_wp2
                go_ret
                exact ⟨ret_int (cnt_full (by omega) hs0.out H0.out (hs3.high hx'.out (by have := HBG.out; rw [← Int.natCast_mul]; omega))).symm, rfl⟩
              · have hle : q * y ≤ 4096 := by
                  rcases Nat.lt_or_ge 4096 (q * y) with h | h
                  · have := HS.out
                    rw [Nat.div_eq_of_lt h] at this
                    omega
                  · exact h
                have HLE := Lib.hid hle
                have HPO := Lib.hid (show 1 ≤ q * y from Nat.mul_pos (by omega) (by omega))
                have hsz : ¬ s = 0 := by omega
                have hsb : ((s : Int) == 0) = false := by rw [beq_eq_false_iff_ne]; omega
                clear hle
                go_wp2
                go_round
                case rel => exact ⟨k3 + 1, q * y, by omega, by go_num, by rw [HS.out], HPO.out, HLE.out, by rw [Int.natCast_mul]; exact hs3.succ hx'.out (by have := HLE.out; rw [← Int.natCast_mul]; omega)⟩
                case measure => simp [intOf]; omega
            · go_wp2
              go_ret
              exact ⟨ret_int (cnt_fine (by omega) hs0.out H0.out (hs3.all hge3)).symm, rfl⟩

set_option maxHeartbeats 1000000 in
theorem cells_ok (v : Value) (t : List Nat) (w : World) (ha : IsInts w v (ints t)) (hg : GoodSh t) :
    Calls Tryd.prog 24 #[v] w fun e w' => e = .returned (.int .i64 (prod t)) ∧ w = w' := by
  obtain ⟨A, ca, rfl, a1, a2, a3, _, a4⟩ := ha
  have hA := Lib.hid a4
  have HG := Lib.hid hg
  have h6 := hg.1
  rw [length_ints] at *
  clear a4 hg
  go_enter Tryd.func24, Tryd.ntmps24
  go_wp2
  go_loop [4] (fun i => ∃ k : Nat, k ≤ t.length ∧ i = .int .i64 k ∧ 0 ∉ t.take k) (fun i => t.length - (intOf i).toNat)
  case atStart => exact ⟨0, Nat.zero_le _, rfl, by simp⟩
  case round =>
    obtain ⟨k, hk, rfl, hs⟩ := hrel
    have HS := Lib.hid hs
    clear hs
    rcases Nat.lt_or_ge k t.length with hlt | hge
    · obtain ⟨ad, x, rfl, hx, _, hcx⟩ := Elems.at_ hA.out (k := k) (by rw [length_ints]; exact hlt)
      obtain ⟨rfl, -⟩ := ints_getD hx
      have HK := Lib.hid (show t.take (k + 1) = t.take k ++ [t.getD k 0] by rw [List.take_add_one, List.getElem?_eq_getElem hlt, List.getD_eq_getElem?_getD, List.getElem?_eq_getElem hlt]; rfl)
      have HM := Lib.hid (show t.getD k 0 ∈ t by rw [List.getD_eq_getElem?_getD, List.getElem?_eq_getElem hlt]; exact List.getElem_mem _)
      obtain ⟨n, hn⟩ : ∃ n, n = t.getD k 0 := ⟨_, rfl⟩
      rw [← hn] at hcx HK HM
      clear hx hn
      by_cases hz : n = 0
      · subst hz
        go_wp2
        go_ret
        exact ⟨ret_int (by rw [prod_zero HM.out]; rfl), rfl⟩
      · have hzb : ((n : Int) == 0) = false := by rw [beq_eq_false_iff_ne]; omega
        go_wp2
        go_round
        case rel => exact ⟨k + 1, by omega, by go_num, by rw [HK.out]; intro h; rcases List.mem_append.1 h with h | h; exact HS.out h; simp at h; exact hz h.symm⟩
        case measure => simp [intOf]; omega
    · have HP := Lib.hid (show prod t ≠ 0 by have := HS.out; rw [List.take_of_length_le hge] at this; have := prod_pos this; omega)
      go_wp2
      go_loop [3, 5] (fun p i => ∃ k : Nat, k ≤ t.length ∧ i = .int .i64 k ∧ p = .int .i64 (prod (t.take k) : Nat)) (fun _ i => t.length - (intOf i).toNat)
      case atStart => exact ⟨0, Nat.zero_le _, rfl, rfl⟩
      case round =>
        obtain ⟨k, hk, rfl, rfl⟩ := hrel
        rcases Nat.lt_or_ge k t.length with hlt | hge
        · obtain ⟨ad, x, rfl, hx, _, hcx⟩ := Elems.at_ hA.out (k := k) (by rw [length_ints]; exact hlt)
          obtain ⟨rfl, -⟩ := ints_getD hx
          have hps := prod_take_succ (t := t) (j := k) (n := t.getD k 0) (by rw [List.getD_eq_getElem?_getD, List.getElem?_eq_getElem hlt]; rfl)
          have h4 := Nat.le_trans (prod_take_le HP.out (k + 1)) HG.out.2.2
          obtain ⟨n, hn⟩ : ∃ n, n = t.getD k 0 := ⟨_, rfl⟩
          obtain ⟨q, hq⟩ : ∃ q, q = prod (t.take k) := ⟨_, rfl⟩
          rw [← hn] at hcx
          rw [← hn, ← hq] at hps
          rw [hps] at h4
          rw [← hq]
          have HPS := Lib.hid hps
          have e1 : (q : Int) * (n : Int) = ((q * n : Nat) : Int) := by simp
          obtain ⟨m, hm⟩ : ∃ m, m = q * n := ⟨_, rfl⟩
          rw [← hm] at e1 h4
          have HMM := Lib.hid hm
          clear hx hn hq hps hm
          go_wp2
          go_round
          case rel => exact ⟨k + 1, by omega, by go_num, by rw [HPS.out, ← HMM.out]⟩
          case measure => simp [intOf]; omega
        · rw [List.take_of_length_le hge]
          go_wp2
          go_ret
          exact ⟨rfl, rfl⟩

end Go.Proofs.YtfaojciballhnaaDoor
