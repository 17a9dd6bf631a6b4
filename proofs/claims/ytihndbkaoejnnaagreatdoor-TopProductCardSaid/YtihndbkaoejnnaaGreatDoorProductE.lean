/- What the card TopProduct leans on: Base, Alike, Count. Conditions: none but those of its theorems. -/
import Derived.Test.YtihndbkaoejnnaaGreatDoorProg
import Derived.Deep.QuietTactic
import Derived.BigQuiet
import Derived.Test.YtihndbkaoejnnaaGreatDoorProductB
set_option linter.unusedSimpArgs false
set_option linter.unusedVariables false
namespace Go.Proofs.YtihndbkaoejnnaaGreatDoor
open Go Go.RowKit Go.Proofs.YtihndbkaoejnnaaGreatDoor.P

set_option maxHeartbeats 400000 in
theorem ints_any (va vb : Value) (xs ys : List Int) (w : World) (ha : IsInts w va xs) (hb : IsInts w vb ys) :
    Calls Tryz.prog 38 #[va, vb] w (TellsB (xs = ys) w) := by
  obtain ⟨A, ca, rfl, a1, a2, a3, _, a4⟩ := ha
  obtain ⟨B, cb, rfl, b1, b2, b3, _, b4⟩ := hb
  have hA := Lib.hid a4
  have hB := Lib.hid b4
  clear a4 b4
  by_cases hl : xs.length = ys.length
  · go_enter Tryz.func38, Tryz.ntmps38
    have hlb : ((xs.length : Int) != (ys.length : Int)) = false := by simp [hl]
    have hll := Lib.hid hl
    clear hl
    go_wp2
    go_loopw [5] (fun i wr => ∃ k : Nat, k ≤ xs.length ∧ i = .int .i64 k ∧ SameTo k xs ys ∧ Below w.heap.size w wr) (fun i _ => xs.length - (intOf i).toNat)
    case atStart => exact ⟨0, Nat.zero_le _, rfl, SameTo.zero _ _, Below.refl _ _⟩
    case round =>
      obtain ⟨k, hk, rfl, hs, hbl⟩ := hrel
      rcases Nat.lt_or_ge k xs.length with hlt | hge
      · have hlt2 : k < ys.length := by have := hll.out; omega
        obtain ⟨ad, x, rfl, hx, _, hcx⟩ := (Elems.mono hA.out hbl).at_ hlt
        obtain ⟨bd, y, rfl, hy, _, hcy⟩ := (Elems.mono hB.out hbl).at_ hlt2
        have hx' := Lib.hid hx
        have hy' := Lib.hid hy
        clear hx hy
        by_cases hxy : x = y
        · subst hxy
          go_wp2
          go_quiet (fail)
          all_goals go_wp2
          go_roundw
          case rel => exact ⟨k + 1, by omega, by go_num, hs.succ hx'.out hy'.out, hbl.trans (below_draws _ _ _)⟩
          case measure => simp [intOf]; omega
        · have hne : ((x : Int) != y) = true := by simp [hxy]
          have hfin := Lib.hid (show xs ≠ ys from fun e => by have h1 := hx'.out; rw [e, hy'.out] at h1; exact hxy (by injection h1 with h1; exact h1.symm))
          clear hxy
          go_wp2
          go_quiet (fail)
          all_goals go_wp2
          go_ret
          exact tells_no rfl hfin.out (hbl.trans (below_draws _ _ _))
      · go_wp2
        go_ret
        exact tells_yes rfl (hs.all (by omega) (by have := hll.out; omega)) hbl
  · go_enter Tryz.func38, Tryz.ntmps38
    go_wp2
    go_ret
    have : ¬ xs = ys := fun e => hl (by rw [e])
    exact tells_no rfl this (Below.refl _ _)

theorem arr_eq_iff {a b : Arr} : a = b ↔ a.ch = b.ch ∧ a.sh = b.sh ∧ a.da = b.da := by
  obtain ⟨c, s, d⟩ := a
  obtain ⟨c', s', d'⟩ := b
  simp

set_option maxHeartbeats 400000 in
theorem array_any (va vb : Value) (a b : Arr) (w : World) (ha : IsArr w va a) (hb : IsArr w vb b) :
    Calls Tryz.prog 20 #[va, vb] w (TellsB (a = b) w) := by
  obtain ⟨s, d, rfl, hs, hd⟩ := ha
  obtain ⟨s', d', rfl, hs', hd'⟩ := hb
  by_cases hc : a.ch = b.ch
  · have hcb : (a.ch == b.ch) = true := by simp [hc]
    have H := Lib.hid hc
    clear hc
    go_enter Tryz.func20, Tryz.ntmps20
    go_wp2_with fail
    refine (ints_any _ _ _ _ _ (hs.mono (below_two _ _ _)) (hs'.mono (below_two _ _ _))).mono ?_
    rintro e w1 ⟨r, rfl, hr, hb1⟩
    have Hr := Lib.hid hr
    clear hr
    have hb2 := (below_two _ _ _).trans (hb1.mono (below_two w _ _).size)
    obtain ⟨hc1, hf1⟩ := bcell hb1
    go_wp2_with fail
    refine (ints_any _ _ _ _ _ (hd.mono hb2) (hd'.mono hb2)).mono ?_
    rintro e w2 ⟨r', rfl, hr', hb3⟩
    have Hr' := Lib.hid hr'
    clear hr'
    have hb4 := hb2.trans (hb3.mono hb2.size)
    cases r
    · go_wp2
      go_ret
      exact tells_no rfl (fun h => by have := Hr.out.2 (by rw [h]); cases this) hb4
    · cases r'
      · go_wp2
        go_ret
        exact tells_no rfl (fun h => by have := Hr'.out.2 (by rw [h]); cases this) hb4
      · go_wp2
        go_ret
        exact tells_yes rfl (arr_eq_iff.2 ⟨H.out, by simpa using Hr.out, by simpa using Hr'.out⟩) hb4
  · have hcb : (a.ch == b.ch) = false := by simp [hc]
    have H := Lib.hid hc
    clear hc
    go_enter Tryz.func20, Tryz.ntmps20
    go_wp2_with fail
    go_ret
    exact tells_no rfl (fun h => H.out (by rw [h])) (below_two _ _ _)

end Go.Proofs.YtihndbkaoejnnaaGreatDoor

namespace Go.Proofs.YtihndbkaoejnnaaGreatDoor
open Go Go.RowKit Go.Proofs.YtihndbkaoejnnaaGreatDoor.P

end Go.Proofs.YtihndbkaoejnnaaGreatDoor

namespace Go.Proofs.YtihndbkaoejnnaaGreatDoor
open Go Go.RowKit Go.Proofs.YtihndbkaoejnnaaGreatDoor.P

def ScanTo (k : Nat) (xs : List Int) : Prop := scanErr xs = scanErr (xs.drop k)
theorem ScanTo.zero (xs : List Int) : ScanTo 0 xs := by simp [ScanTo]
theorem drop_at {xs : List Int} {k : Nat} {x : Int} (h : xs[k]? = some x) : xs.drop k = x :: xs.drop (k + 1) := by
  obtain ⟨hk, rfl⟩ := List.getElem?_eq_some_iff.1 h
  exact List.drop_eq_getElem_cons hk
theorem ScanTo.succ {k : Nat} {xs : List Int} {x : Int} (h : ScanTo k xs) (hx : xs[k]? = some x) (h0 : 0 ≤ x) (h1 : x ≤ 4096) : ScanTo (k + 1) xs := by
  unfold ScanTo at *
  rw [h, drop_at hx, scanErr, if_neg (by omega), if_neg (by omega)]
theorem ScanTo.low {k : Nat} {xs : List Int} {x : Int} (h : ScanTo k xs) (hx : xs[k]? = some x) (h0 : x < 0) : scanErr xs = 4 := by
  unfold ScanTo at *
  rw [h, drop_at hx, scanErr, if_pos h0]
theorem ScanTo.high {k : Nat} {xs : List Int} {x : Int} (h : ScanTo k xs) (hx : xs[k]? = some x) (h0 : 4096 < x) : scanErr xs = 7 := by
  unfold ScanTo at *
  rw [h, drop_at hx, scanErr, if_neg (by omega), if_pos h0]
theorem ScanTo.all {k : Nat} {xs : List Int} (h : ScanTo k xs) (hx : xs.length ≤ k) : scanErr xs = 0 := by
  unfold ScanTo at *
  rw [h, List.drop_of_length_le hx, scanErr]

def NoZeroTo (k : Nat) (xs : List Int) : Prop := (0 : Int) ∈ xs ↔ (0 : Int) ∈ xs.drop k
theorem NoZeroTo.zero (xs : List Int) : NoZeroTo 0 xs := by simp [NoZeroTo]
theorem NoZeroTo.succ {k : Nat} {xs : List Int} {x : Int} (h : NoZeroTo k xs) (hx : xs[k]? = some x) (h0 : x ≠ 0) : NoZeroTo (k + 1) xs := by
  unfold NoZeroTo at *
  rw [h, drop_at hx, List.mem_cons]
  constructor
  · rintro (h | h)
    · exact absurd h.symm h0
    · exact h
  · exact Or.inr
theorem NoZeroTo.hit {k : Nat} {xs : List Int} {x : Int} (h : NoZeroTo k xs) (hx : xs[k]? = some x) (h0 : x = 0) : (0 : Int) ∈ xs := by
  unfold NoZeroTo at *
  rw [h, drop_at hx, h0]
  simp
theorem NoZeroTo.all {k : Nat} {xs : List Int} (h : NoZeroTo k xs) (hx : xs.length ≤ k) : (0 : Int) ∉ xs := by
  unfold NoZeroTo at *
  rw [h, List.drop_of_length_le hx]
  simp

def GrowTo (k : Nat) (p : Int) (xs : List Int) : Prop := grow 1 xs = grow p (xs.drop k)
theorem GrowTo.zero (xs : List Int) : GrowTo 0 1 xs := by simp [GrowTo]
theorem GrowTo.succ {k : Nat} {xs : List Int} {x p : Int} (h : GrowTo k p xs) (hx : xs[k]? = some x) (h0 : p * x ≤ 4096) : GrowTo (k + 1) (p * x) xs := by
  unfold GrowTo at *
  rw [h, drop_at hx, grow, if_neg (by omega)]
theorem GrowTo.high {k : Nat} {xs : List Int} {x p : Int} (h : GrowTo k p xs) (hx : xs[k]? = some x) (h0 : 4096 < p * x) : grow 1 xs = none := by
  unfold GrowTo at *
  rw [h, drop_at hx, grow, if_pos h0]
theorem GrowTo.all {k : Nat} {xs : List Int} {p : Int} (h : GrowTo k p xs) (hx : xs.length ≤ k) : grow 1 xs = some p := by
  unfold GrowTo at *
  rw [h, List.drop_of_length_le hx, grow]

theorem scanErr_bound {xs : List Int} (h : scanErr xs = 0) {k : Nat} {x : Int} (hx : xs[k]? = some x) : 0 ≤ x ∧ x ≤ 4096 := by
  obtain ⟨t, rfl, ht⟩ := scanErr_zero h
  rw [getElem?_ints, Option.map_eq_some_iff] at hx
  obtain ⟨n, hn, rfl⟩ := hx
  have := ht n (List.mem_of_getElem? hn)
  omega

def CountPost (xs : List Int) (w : World) (e : Ending) (w' : World) : Prop := e = .returned (.tuple #[.int .i64 (cntVal xs), errV (cntErr xs)]) ∧ w = w'

theorem count_rank {xs : List Int} {w : World} (h : 6 < xs.length) : CountPost xs w (.returned (.tuple #[.int .i64 0, .iface 54 (.int .i64 3)])) w := by
  unfold CountPost cntVal cntErr
  rw [if_pos h, if_pos h]
  exact ⟨rfl, rfl⟩
theorem count_scan {xs : List Int} {w : World} {k : Int} (h : ¬ 6 < xs.length) (hk : scanErr xs = k) (h0 : k ≠ 0) : CountPost xs w (.returned (.tuple #[.int .i64 0, .iface 54 (.int .i64 k)])) w := by
  unfold CountPost cntVal cntErr
  rw [if_neg h, if_neg h, hk, if_pos h0, if_pos h0, errV_ne h0]
  exact ⟨rfl, rfl⟩
theorem count_zero {xs : List Int} {w : World} (h : ¬ 6 < xs.length) (hk : scanErr xs = 0) (h0 : (0 : Int) ∈ xs) : CountPost xs w (.returned (.tuple #[.int .i64 0, .nilIface])) w := by
  unfold CountPost cntVal cntErr
  simp [*, errV]
theorem count_full {xs : List Int} {w : World} (h : ¬ 6 < xs.length) (hk : scanErr xs = 0) (h0 : (0 : Int) ∉ xs) (hg : grow 1 xs = none) : CountPost xs w (.returned (.tuple #[.int .i64 0, .iface 54 (.int .i64 7)])) w := by
  unfold CountPost cntVal cntErr
  simp [*, errV]
theorem count_all {xs : List Int} {w : World} {p : Int} (h : ¬ 6 < xs.length) (hk : scanErr xs = 0) (h0 : (0 : Int) ∉ xs) (hg : grow 1 xs = some p) : CountPost xs w (.returned (.tuple #[.int .i64 p, .nilIface])) w := by
  unfold CountPost cntVal cntErr
  simp [*, errV]

theorem mul_bd {p x : Int} (h0 : 0 ≤ p) (h1 : p ≤ 4096) (h2 : 0 ≤ x) (h3 : x ≤ 4096) : 0 ≤ p * x ∧ p * x ≤ 16777216 := by
  have h4 : p * x ≤ 4096 * x := Int.mul_le_mul_of_nonneg_right h1 h2
  exact ⟨Int.mul_nonneg h0 h2, by omega⟩

set_option maxHeartbeats 1000000 in
theorem count_any (v : Value) (xs : List Int) (w : World) (ha : IsInts w v xs) :
    Calls Tryz.prog 41 #[v] w (CountPost xs w) := by
  obtain ⟨A, ca, rfl, a1, a2, a3, _, a4⟩ := ha
  have hA := Lib.hid a4
  clear a4
  rcases Nat.lt_or_ge 6 xs.length with h6 | h6
  · go_enter Tryz.func41, Tryz.ntmps41
    go_wp2
    go_ret2
    exact count_rank h6
  · go_enter Tryz.func41, Tryz.ntmps41
    go_wp2
    go_loop [17] (fun i => ∃ k : Nat, k ≤ xs.length ∧ i = .int .i64 k ∧ ScanTo k xs) (fun i => xs.length - (intOf i).toNat)
    case atStart => exact ⟨0, Nat.zero_le _, rfl, ScanTo.zero _⟩
    case round =>
      obtain ⟨k, hk, rfl, hs⟩ := hrel
      rcases Nat.lt_or_ge k xs.length with hlt | hge
      · obtain ⟨ad, x, rfl, hx, _, hcx⟩ := Elems.at_ hA.out hlt
        have hx' := Lib.hid hx
        clear hx
        rcases Int.lt_or_le x 0 with h0 | h0
        · go_wp2
          go_ret2
          exact count_scan (by omega) (hs.low hx'.out h0) (by omega)
        · rcases Int.lt_or_le 4096 x with h1 | h1
          · go_wp2
            go_ret2
            exact count_scan (by omega) (hs.high hx'.out h1) (by omega)
          · go_wp2
            go_round
            case rel => exact ⟨k + 1, by omega, by go_num, hs.succ hx'.out h0 h1⟩
            case measure => simp [intOf]; omega
      · have hs0 := Lib.hid (hs.all hge)
        clear hs
        go_wp2
        go_loop [30] (fun i => ∃ k : Nat, k ≤ xs.length ∧ i = .int .i64 k ∧ NoZeroTo k xs) (fun i => xs.length - (intOf i).toNat)
        case atStart => exact ⟨0, Nat.zero_le _, rfl, NoZeroTo.zero _⟩
        case round =>
          obtain ⟨k2, hk2, rfl, hs2⟩ := hrel
          rcases Nat.lt_or_ge k2 xs.length with hlt2 | hge2
          · obtain ⟨ad, x, rfl, hx, _, hcx⟩ := Elems.at_ hA.out hlt2
            have hx' := Lib.hid hx
            clear hx
            by_cases hz : x = 0
            · subst hz
              go_wp2
              go_ret2
              exact count_zero (by omega) hs0.out (hs2.hit hx'.out rfl)
            · have hzb : ((x : Int) == 0) = false := by simp [hz]
              have hz' := Lib.hid hz
              clear hz
              go_wp2
              go_round
              case rel => exact ⟨k2 + 1, by omega, by go_num, hs2.succ hx'.out hz'.out⟩
              case measure => simp [intOf]; omega
          · have hn0 := Lib.hid (hs2.all hge2)
            clear hs2
            go_wp2
            go_loop [6, 39] (fun p i => ∃ (k : Nat) (q : Int), k ≤ xs.length ∧ i = .int .i64 k ∧ p = .int .i64 q ∧ 0 ≤ q ∧ q ≤ 4096 ∧ GrowTo k q xs) (fun _ i => xs.length - (intOf i).toNat)
            case atStart => exact ⟨0, 1, Nat.zero_le _, rfl, rfl, by omega, by omega, GrowTo.zero _⟩
            case round =>
              obtain ⟨k3, q, hk3, rfl, rfl, q0, q1, hs3⟩ := hrel
              rcases Nat.lt_or_ge k3 xs.length with hlt3 | hge3
              · obtain ⟨ad, x, rfl, hx, _, hcx⟩ := Elems.at_ hA.out hlt3
                have hbd := scanErr_bound hs0.out hx
                obtain ⟨x0, x1⟩ := hbd
                obtain ⟨m0, m1⟩ := mul_bd q0 q1 x0 x1
                have hx' := Lib.hid hx
                clear hx
                rcases Int.lt_or_le 4096 (q * x) with h1 | h1
                · go_wp2
                  go_ret2
                  exact count_full (by omega) hs0.out hn0.out (hs3.high hx'.out h1)
                · go_wp2
                  go_round
                  case rel => exact ⟨k3 + 1, q * x, by omega, by go_num, rfl, m0, h1, hs3.succ hx'.out h1⟩
                  case measure => simp [intOf]; omega
              · go_wp2
                go_ret2
                exact count_all (by omega) hs0.out hn0.out (hs3.all hge3)

theorem count_bad (v : Value) (xs : List Int) (w : World) (ha : IsInts w v xs) (hg : cntErr xs ≠ 0) :
    Calls Tryz.prog 41 #[v] w fun e w' => e = .returned (.tuple #[.int .i64 (cntVal xs), .iface 54 (.int .i64 (cntErr xs))]) ∧ w = w' :=
  (count_any v _ w ha).mono fun e w' ⟨he, hw⟩ => ⟨by rw [he, errV_ne hg], hw⟩

/-- No cell so far is none that a character may be. -/
def RuneTo (k : Nat) (xs : List Int) : Prop := xs.any badRune = (xs.drop k).any badRune
theorem RuneTo.zero (xs : List Int) : RuneTo 0 xs := by simp [RuneTo]
theorem RuneTo.succ {k : Nat} {xs : List Int} {x : Int} (h : RuneTo k xs) (hx : xs[k]? = some x) (h0 : badRune x = false) : RuneTo (k + 1) xs := by
  unfold RuneTo at *
  rw [h, drop_at hx, List.any_cons, h0, Bool.false_or]
theorem RuneTo.hit {k : Nat} {xs : List Int} {x : Int} (h : RuneTo k xs) (hx : xs[k]? = some x) (h0 : badRune x = true) : xs.any badRune = true := by
  unfold RuneTo at *
  rw [h, drop_at hx, List.any_cons, h0, Bool.true_or]
theorem RuneTo.all {k : Nat} {xs : List Int} (h : RuneTo k xs) (hx : xs.length ≤ k) : xs.any badRune = false := by
  unfold RuneTo at *
  rw [h, List.drop_of_length_le hx]; rfl

def CheckPost (a : Arr) (w : World) (e : Ending) (w' : World) : Prop := e = .returned (errV (arrErr a)) ∧ Below w.heap.size w w'
theorem check_sh {a : Arr} {w w' : World} (h : cntErr a.sh ≠ 0) (hb : Below w.heap.size w w') : CheckPost a w (.returned (.iface 54 (.int .i64 (cntErr a.sh)))) w' := by
  refine ⟨?_, hb⟩
  unfold arrErr
  rw [if_pos h, errV_ne h]
theorem check_len {a : Arr} {w w' : World} (h : cntErr a.sh = 0) (hl : (a.da.length : Int) ≠ cntVal a.sh) (hb : Below w.heap.size w w') : CheckPost a w (.returned (.iface 54 (.int .i64 4))) w' := by
  refine ⟨?_, hb⟩
  unfold arrErr
  rw [if_neg (by simp [h]), if_pos hl]; rfl
theorem check_rune {a : Arr} {w w' : World} (h : cntErr a.sh = 0) (hl : (a.da.length : Int) = cntVal a.sh) (hc : a.ch = true) (hr : a.da.any badRune = true) (hb : Below w.heap.size w w') : CheckPost a w (.returned (.iface 54 (.int .i64 6))) w' := by
  refine ⟨?_, hb⟩
  unfold arrErr
  rw [if_neg (by simp [h]), if_neg (by simp [hl]), if_pos (by rw [hc, hr]; rfl)]; rfl
theorem check_fine {a : Arr} {w w' : World} (h : cntErr a.sh = 0) (hl : (a.da.length : Int) = cntVal a.sh) (hr : a.ch = false ∨ a.da.any badRune = false) (hb : Below w.heap.size w w') : CheckPost a w (.returned .nilIface) w' := by
  refine ⟨?_, hb⟩
  unfold arrErr
  rw [if_neg (by simp [h]), if_neg (by simp [hl]), if_neg (by rcases hr with h | h <;> simp [h])]; rfl

theorem rune_low {x : Int} (h : x < 0) : badRune x = true := by simp [badRune, h]
theorem rune_high {x : Int} (h : 1114111 < x) : badRune x = true := by simp [badRune, h]
theorem rune_mid {x : Int} (h : 55296 ≤ x) (h' : x ≤ 57343) : badRune x = true := by simp [badRune, h, h']
theorem rune_fine {x : Int} (h0 : 0 ≤ x) (h1 : x ≤ 1114111) (h : x < 55296 ∨ 57343 < x) : badRune x = false := by
  simp only [badRune, Bool.or_eq_false_iff, decide_eq_false_iff_not, Bool.and_eq_false_iff]
  omega

set_option maxHeartbeats 1000000 in
theorem check_any (v : Value) (a : Arr) (w : World) (ha : IsArr w v a) : Calls Tryz.prog 28 #[v] w (CheckPost a w) := by
  obtain ⟨s, d, rfl, hs, hd⟩ := ha
  by_cases hc : cntErr a.sh = 0
  · obtain ⟨D, cd, rfl, d1, d2, d3, _, d4⟩ := hd
    have hcv := count_any s a.sh (w.alloc (.cells #[.bool a.ch, s, .slice D a.da.length cd] 25)) (hs.mono (below_one _ _))
    have hv : ∃ n : Int, n = cntVal a.sh := ⟨_, rfl⟩
    obtain ⟨n, hn⟩ := hv
    unfold CountPost at hcv
    rw [hc, errV_zero, ← hn] at hcv
    have HC := Lib.hid hcv
    have Hc := Lib.hid hc
    have Hn := Lib.hid hn
    have hD := Lib.hid (Elems.mono d4 (below_one w (.cells #[.bool a.ch, s, .slice D a.da.length cd] 25)))
    clear hcv hc hn d4
    by_cases hl : (a.da.length : Int) = n
    · have hlb : ((a.da.length : Int) != n) = false := by simp [hl]
      have Hl := Lib.hid hl
      clear hl
      cases hch : a.ch
      · have Hch := Lib.hid hch
        rw [hch] at HC
        clear hch
        go_enter Tryz.func28, Tryz.ntmps28
        go_wp2_with fail
        refine HC.out.mono ?_
        rintro e w1 ⟨rfl, rfl⟩
        go_wp2
        go_ret
        exact check_fine Hc.out (by rw [Hl.out, Hn.out]) (.inl Hch.out) (below_one _ _)
      · have Hch := Lib.hid hch
        rw [hch] at HC
        rw [hch] at hD
        clear hch
        go_enter Tryz.func28, Tryz.ntmps28
        go_wp2_with fail
        refine HC.out.mono ?_
        rintro e w1 ⟨rfl, rfl⟩
        go_wp2
        go_loop [27] (fun i => ∃ k : Nat, k ≤ a.da.length ∧ i = .int .i64 k ∧ RuneTo k a.da) (fun i => a.da.length - (intOf i).toNat)
        case atStart => exact ⟨0, Nat.zero_le _, rfl, RuneTo.zero _⟩
        case round =>
          obtain ⟨k, hk, rfl, hr⟩ := hrel
          rcases Nat.lt_or_ge k a.da.length with hlt | hge
          · obtain ⟨ad, x, rfl, hx, _, hcx⟩ := Elems.at_ hD.out hlt
            have hx' := Lib.hid hx
            clear hx
            rcases Int.lt_or_le x 0 with h0 | h0
            · go_wp2
              go_ret
              exact check_rune Hc.out (by rw [Hl.out, Hn.out]) Hch.out (hr.hit hx'.out (rune_low h0)) (below_one _ _)
            · rcases Int.lt_or_le 1114111 x with h1 | h1
              · go_wp2
                go_ret
                exact check_rune Hc.out (by rw [Hl.out, Hn.out]) Hch.out (hr.hit hx'.out (rune_high h1)) (below_one _ _)
              · rcases Int.lt_or_le x 55296 with h2 | h2
                · go_wp2
                  go_round
                  case rel => exact ⟨k + 1, by omega, by go_num, hr.succ hx'.out (rune_fine h0 h1 (.inl h2))⟩
                  case measure => simp [intOf]; omega
                · rcases Int.lt_or_le 57343 x with h3 | h3
                  · go_wp2
                    go_round
                    case rel => exact ⟨k + 1, by omega, by go_num, hr.succ hx'.out (rune_fine h0 h1 (.inr h3))⟩
                    case measure => simp [intOf]; omega
                  · go_wp2
                    go_ret
                    exact check_rune Hc.out (by rw [Hl.out, Hn.out]) Hch.out (hr.hit hx'.out (rune_mid h2 h3)) (below_one _ _)
          · go_wp2
            go_ret
            exact check_fine Hc.out (by rw [Hl.out, Hn.out]) (.inr (hr.all hge)) (below_one _ _)
    · have hlb : ((a.da.length : Int) != n) = true := by simp [hl]
      have Hl := Lib.hid hl
      clear hl
      go_enter Tryz.func28, Tryz.ntmps28
      go_wp2_with fail
      refine HC.out.mono ?_
      rintro e w1 ⟨rfl, rfl⟩
      go_wp2
      go_ret
      exact check_len Hc.out (by rw [← Hn.out]; exact Hl.out) (below_one _ _)
  · have hcv := count_bad s a.sh (w.alloc (.cells #[.bool a.ch, s, d] 25)) (hs.mono (below_one _ _)) hc
    have HC := Lib.hid hcv
    have Hc := Lib.hid hc
    clear hcv hc
    go_enter Tryz.func28, Tryz.ntmps28
    go_wp2_with fail
    refine HC.out.mono ?_
    rintro e w1 ⟨rfl, rfl⟩
    go_wp2
    go_ret
    exact check_sh Hc.out (below_one _ _)

theorem check_ok {v : Value} {a : Arr} {t : List Nat} {w : World} (ha : IsArr w v a) (h : Ok a t) : Calls Tryz.prog 28 #[v] w fun e w' => e = .returned .nilIface ∧ Below w.heap.size w w' :=
  (check_any v a w ha).mono fun e w' ⟨he, hw⟩ => ⟨by rw [he, arrErr_ok h]; rfl, hw⟩
theorem check_bad {v : Value} {a : Arr} {w : World} (ha : IsArr w v a) (h : arrErr a ≠ 0) : Calls Tryz.prog 28 #[v] w fun e w' => e = .returned (.iface 54 (.int .i64 (arrErr a))) ∧ Below w.heap.size w w' :=
  (check_any v a w ha).mono fun e w' ⟨he, hw⟩ => ⟨by rw [he, errV_ne h], hw⟩

end Go.Proofs.YtihndbkaoejnnaaGreatDoor
