/- What the card TopProduct leans on: TopProductWalk. Conditions: none but those of its theorems. -/
import Derived.Test.YtihndbkaoejnnaaGreatDoorProductAB
import Derived.Test.YtihndbkaoejnnaaGreatDoorProductAP
import Derived.Test.YtihndbkaoejnnaaGreatDoorProductAS
import Derived.Test.YtihndbkaoejnnaaGreatDoorProductAT
set_option linter.unusedSimpArgs false
set_option linter.unusedVariables false
namespace Go.Proofs.YtihndbkaoejnnaaGreatDoor
open Go Go.RowKit Go.Proofs.YtihndbkaoejnnaaGreatDoor.P

theorem line_prod5_is : LineOf line_prod5 [] ⟨false, [], [120]⟩ :=
  ⟨by decide, toks_prod5, nodes_prod5, 1 + 1 + (11 * 5 + 6), lexes_prod5, by decide, parsed_prod5, walked_prod5, val_prod5, by decide⟩
theorem line_prodn_is {n : Nat} (hn : n ≤ 45) : LineOf line_prodn [(⟨#[110]⟩, ⟨false, [], [(n : Int)]⟩)] ⟨false, [], [recN n]⟩ :=
  ⟨by decide, toks_prodn, nodes_prodn, 1 + 1 + (11 * n + 6), lexes_prodn, by decide, parsed_prodn, walked_prodn, val_prodn (by omega) (bd_one _ _), by omega⟩
theorem line_prodf_is {n : Nat} (hn : n ≤ 45) : LineOf line_prodf [(⟨#[110]⟩, ⟨false, [], [(n : Int)]⟩)] ⟨false, [], [recN n]⟩ := by
  have a0 := act_fold (f := 3) (by omega) (upTo_ok (n := n) (by omega)) rfl (upTo_wf (by omega)) (prod_fine n)
  rw [show (⟨false, [(n : Int)], upTo n⟩ : Arr).da = upTo n from rfl, prod_fold (by omega)] at a0
  exact ⟨by decide, toks_prodf, nodes_prodf, 5, lexes_prodf, by decide, parsed_prodf, walked_prodf, val_prodf (bd_one _ _) (act_iota (by omega)) (act_count (by omega)) a0, by decide⟩

set_option maxHeartbeats 400000 in
theorem within_num (n l h : Int) (w : World) :
    Calls Tryz.prog 10 #[.int .i64 n, .int .i64 l, .int .i64 h] w (TellsB (l ≤ n ∧ n ≤ h) w) := by
  go_enter Tryz.func10, Tryz.ntmps10
  by_cases h1 : l ≤ n
  · have h1' : decide (l ≤ n) = true := by simpa using h1
    go_wp2_with fail
    go_ret
    exact ⟨decide (n ≤ h), rfl, by simp [h1], by go_grown⟩
  · have h1' : decide (l ≤ n) = false := by simpa using h1
    go_wp2_with fail
    go_ret
    exact tells_no rfl (by omega) (by go_grown)

theorem prod_reduce {n : Nat} (hn : n ≤ 45) {w : World} {V : Value} (h : IsArr w V ⟨false, [(n : Int)], upTo n⟩) : Calls Tryz.prog 11 #[.int .i64 3, .int .i64 0, V] w (GivesOk ⟨false, [], [recN n]⟩ w) := by
  rw [← prod_fold (n := n) (by omega)]
  exact reduce_vec h (upTo_ok (by omega)) (by decide) (prod_fine n) rfl (upTo_wf (by omega))
set_option maxRecDepth 100000 in
set_option maxHeartbeats 8000000 in
theorem topProduct_walk (x : Int) (W : World) (hst : Std W) : Calls Tryz.prog 3 #[.int .i64 x] W (TrueB W) := by
  have HST := Lib.hid hst
  have hmx := mixedZ
  clear hst
  go_enter Tryz.func3, Tryz.ntmps3
  go_wp2_with fail
  refine num_is.mono ?_
  rintro e w1 ⟨v1, rfl, hv1, hb1⟩
  have HV1 := Lib.hid hv1
  obtain ⟨A1, c1, D1, d1, rfl, -, -⟩ := hv1.open_
  clear hv1
  go_wp2_with fail
  refine (tells_true (HST.out.below hb1) (wsAt_nil _) wsOk_nil line_prod5_is HV1.out rfl).mono ?_
  rintro e w2 ⟨rfl, hb2⟩
  have hbw2 := hb1.trans (hb2.mono hb1.size)
  clear hb1 hb2
  go_wp2_with fail
  refine (within_num _ 0 45 _).mono ?_
  rintro e w3 ⟨r, rfl, hr, hb3⟩
  have hbw3 := hbw2.trans (hb3.mono hbw2.size)
  clear hb3 hbw2
  cases r with
  | false =>
    go_wp2_with fail
    go_ret
    exact ⟨rfl, hbw3⟩
  | true =>
    obtain ⟨hx0, hx45⟩ := hr.1 rfl
    obtain ⟨n, rfl⟩ : ∃ n : Nat, x = n := ⟨x.toNat, by omega⟩
    have hn45 : n ≤ 45 := by omega
    clear hr hx0 hx45
    go_wp2_with fail
    go_loopw [4, 5] (fun d i wr => ∃ (k : Nat) (A : Option Addr) (c : Nat), k ≤ n ∧ i = .int .i64 ((k : Int) + 1) ∧ d = .slice A k c ∧ Owns wr W.heap.size (.slice A k c) k (upTo k) ∧ Below W.heap.size W wr)
      (fun _ i _ => n + 1 - (intOf i).toNat)
    case atStart => exact ⟨0, none, 0, Nat.zero_le _, rfl, rfl, Owns.nil _ _, hbw3⟩
    case round =>
      obtain ⟨k, A, c, hk, rfl, rfl, hown, hbl⟩ := hrel
      have hsz := hbl.size
      rcases Nat.lt_or_ge k n with hlt | hge
      · go_wp2_with (at_builtin; refine wpList_append_ints _ rfl rfl _ _ rfl W.heap.size k _ (upTo k) rfl (hown.alloc _) (some ⟨wr.heap.size, 0, none⟩) 1 1 [(k : Int) + 1] rfl (by simp) (elems_new wr ((k : Int) + 1)) rfl (by omega) (by simp; omega) ?_; intro A2 c2 w1 hown1 hgrow hat)
        rw [← upTo_succ] at hown1
        have hb2 : Below W.heap.size W w1 := below_grown (hbl.alloc hsz _) (hown.alloc _) hgrow
        go_roundw
        case rel => exact ⟨k + 1, A2, c2, by omega, by go_num, by simp, hown1, hb2⟩
        case measure => simp [intOf]; omega
      · have hkk : k = n := by omega
        subst hkk
        obtain ⟨b, hbn⟩ : ∃ b : Arr, b = ⟨false, [], [recN k]⟩ := ⟨_, rfl⟩
        obtain ⟨q, hq⟩ : ∃ q : Arr, q = ⟨false, [], [(k : Int)]⟩ := ⟨_, rfl⟩
        obtain ⟨a, ha⟩ : ∃ a : Arr, a = ⟨false, [(k : Int)], upTo k⟩ := ⟨_, rfl⟩
        have HC := Lib.hid (show ∀ (w : World) (V : Value), IsArr w V a → Calls Tryz.prog 11 #[.int .i64 3, .int .i64 0, V] w (GivesOk b w) by rw [hbn, ha]; exact fun w V h => prod_reduce (by omega) h)
        have HVEC := Lib.hid (show Calls Tryz.prog 12 #[.bool false, .slice A k c] wr fun e w' => ∃ r, e = .returned r ∧ IsArr w' r a ∧ Below wr.heap.size wr w' by
          have h := vector_any false _ _ wr hown.isInts
          rw [upTo_len] at h
          rw [ha]
          exact h)
        have HNUM := Lib.hid (show ∀ w : World, Calls Tryz.prog 9 #[.int .i64 k] w fun e w' => ∃ v, e = .returned v ∧ IsArr w' v q ∧ Below w.heap.size w w' by rw [hq]; exact fun w => num_is)
        have HLN := Lib.hid (show LineOf line_prodn [(⟨#[110]⟩, q)] b by rw [hq, hbn]; exact line_prodn_is hn45)
        have HLF := Lib.hid (show LineOf line_prodf [(⟨#[110]⟩, q)] b by rw [hq, hbn]; exact line_prodf_is hn45)
        have HWO := Lib.hid (show WsOk [(⟨#[110]⟩, q)] by rw [hq]; exact wsOk_one (nameOk_of (by decide +kernel)) (ok_num _))
        clear hbn hq ha hown hk hge
        go_wp2_with fail
        refine HVEC.out.mono ?_
        rintro e w4 ⟨r, rfl, hr, hb4⟩
        have HR := Lib.hid (HC.out w4 r hr)
        have hbw4 := hbl.trans (hb4.mono hbl.size)
        obtain ⟨A4, c4, D4, d4, rfl, -, -⟩ := hr.open_
        clear hb4 hr hbl hsz
        go_wp2_with fail
        refine HR.out.mono ?_
        rintro e w5 ⟨r, rfl, hr, hb5⟩
        obtain ⟨A5, c5, D5, d5, rfl, -, -⟩ := hr.open_
        have HB := Lib.hid (IsArr.mono hr (below_one w5 (.cells #[.bool b.ch, .slice A5 b.sh.length c5, .slice D5 b.da.length d5] 25)))
        have x5 := Box.new w5 25 #[.bool b.ch, .slice A5 b.sh.length c5, .slice D5 b.da.length d5]
        have hbw5 := (hbw4.trans (hb5.mono hbw4.size)).alloc (by have := hbw4.size; have := hb5.size; omega) (.cells #[.bool b.ch, .slice A5 b.sh.length c5, .slice D5 b.da.length d5] 25)
        clear hb5 hr hbw4
        obtain ⟨z0, z1, z2⟩ := x5.three
        have zl := x5.lt
        go_wp2_with fail
        refine (HNUM.out _).mono ?_
        rintro e w6 ⟨r, rfl, hr, hb6⟩
        obtain ⟨A6, c6, D6, d6, rfl, -, -⟩ := hr.open_
        have HQ := Lib.hid hr
        have y6 := x5.below hb6
        have HB6 := Lib.hid (HB.out.mono hb6)
        have hbw6 := hbw5.trans (hb6.mono hbw5.size)
        clear hb6 x5 hbw5 z0 z1 z2 zl HB hr
        go_wp2_with fail
        refine bind_any.mono ?_
        rintro e w7 ⟨rfl, hb7⟩
        have y7 := y6.below hb7
        have HB7 := Lib.hid (HB6.out.mono hb7)
        have HQ7 := Lib.hid (HQ.out.mono hb7)
        have hbw7 := hbw6.trans (hb7.mono hbw6.size)
        clear hb7 y6 hbw6 HB6 HQ
        have y8 := y7.alloc (.cells #[.string ⟨#[110]⟩, .bool q.ch, .slice A6 q.sh.length c6, .slice D6 q.da.length d6] 35)
        have hws := wsAt_one (Box.new w7 35 #[.string ⟨#[110]⟩, .bool q.ch, .slice A6 q.sh.length c6, .slice D6 q.da.length d6]) (HQ7.out.mono (below_one w7 (.cells #[.string ⟨#[110]⟩, .bool q.ch, .slice A6 q.sh.length c6, .slice D6 q.da.length d6] 35)))
        have HWS := Lib.hid hws
        have HB8 := Lib.hid (IsArr.mono HB7.out (below_one w7 (.cells #[.string ⟨#[110]⟩, .bool q.ch, .slice A6 q.sh.length c6, .slice D6 q.da.length d6] 35)))
        have hbw8 := hbw7.alloc hbw7.size (.cells #[.string ⟨#[110]⟩, .bool q.ch, .slice A6 q.sh.length c6, .slice D6 q.da.length d6] 35)
        obtain ⟨z0, z1, z2⟩ := y8.three
        have zl := y8.lt
        clear y7 hbw7 hws HB7 HQ7
        go_wp2_with fail
        refine (tells_true (HST.out.below hbw8) HWS.out HWO.out HLN.out HB8.out rfl).mono ?_
        rintro e w9 ⟨rfl, hb9⟩
        have y9 := y8.below hb9
        have HWS9 := Lib.hid (HWS.out.below hb9)
        have HB9 := Lib.hid (HB8.out.mono hb9)
        have hbw9 := hbw8.trans (hb9.mono hbw8.size)
        clear hb9 y8 hbw8 z0 z1 z2 zl
        obtain ⟨z0, z1, z2⟩ := y9.three
        have zl := y9.lt
        go_wp2_with fail
        refine (tells_true (HST.out.below hbw9) HWS9.out HWO.out HLF.out HB9.out rfl).mono ?_
        rintro e w10 ⟨rfl, hb10⟩
        have hbw10 := hbw9.trans (hb10.mono hbw9.size)
        clear hb10 y9 hbw9 z0 z1 z2 zl
        go_wp2_with fail
        go_ret
        exact ⟨rfl, hbw10⟩

end Go.Proofs.YtihndbkaoejnnaaGreatDoor
