/- The walks of the references Digited and Valued. Conditions: none. -/
import Derived.Test.YtajcjipabfknhaaDoorRefQuot
import Derived.Test.YtajcjipabfknhaaDoorWhole
import Derived.Test.YtajcjipabfknhaaDoorPermTold
set_option linter.unusedSimpArgs false
set_option linter.unusedVariables false
namespace Go.Proofs.YtajcjipabfknhaaDoor.P
open Go Go.RowKit
theorem digs_last (b : Int) : ∀ (l : List Int) (m : Int), digs (l ++ [b]) m = ((digs l (left b m)).1 ++ [digit b m], (digs l (left b m)).2)
  | [], m => rfl
  | x :: l, m => by
    rw [List.cons_append]
    simp only [digs]
    rw [digs_last b l m]
    simp
theorem wrap64_range (x : Int) : -9223372036854775808 ≤ wrap64 x ∧ wrap64 x ≤ 9223372036854775807 := by unfold wrap64; omega
theorem left_range (b m : Int) : -9223372036854775808 ≤ left b m ∧ left b m ≤ 9223372036854775807 := by
  unfold left
  by_cases h : b = 0
  · rw [if_pos h]; omega
  · rw [if_neg h]; exact wrap64_range _
theorem wrap_sub_r (a x : Int) : wrap64 (a - wrap64 x) = wrap64 (a - x) := by unfold wrap64; omega
theorem wrap_sub_r_mul (m b x : Int) : wrap64 (m - b * wrap64 x) = wrap64 (m - b * x) := by
  rw [← wrap_sub_r m (b * wrap64 x), wrap_mul_r, wrap_sub_r]
theorem wf_range {x : Int} (h : (Lit.int .i64 x).wf = true) : -9223372036854775808 ≤ x ∧ x ≤ 9223372036854775807 := by
  simp only [Lit.wf, Bool.and_eq_true, decide_eq_true_eq] at h
  exact h
end Go.Proofs.YtajcjipabfknhaaDoor.P
namespace Go.Proofs.YtajcjipabfknhaaDoor
open Go Go.RowKit Go.Proofs.YtajcjipabfknhaaDoor.P

theorem IsInts.fore {w : World} {A : Option Addr} {n c q : Nat} {xs : List Int} (h : IsInts w (.slice A n c) xs) (hq : q ≤ xs.length) : IsInts w (.slice A q c) (xs.take q) := by
  obtain ⟨A', c', e, h1, h2, h3, h4, h5⟩ := h
  cases e
  have e1 : (xs.take q).length = q := by rw [List.length_take]; omega
  refine ⟨A, c, by rw [e1], by omega, h2, by omega, h4, fun k x hx => h5 k x ?_⟩
  rw [List.getElem?_take] at hx
  split at hx
  · exact hx
  · cases hx

set_option maxRecDepth 100000 in
set_option maxHeartbeats 4000000 in
theorem digited_nat (n : Nat) : ∀ (bs : List Int) (m : Int) (v : Value) (w : World), bs.length = n → IsInts w v bs → n ≤ 4096 → (∀ x ∈ bs, (Lit.int .i64 x).wf = true) → -9223372036854775808 ≤ m ∧ m ≤ 9223372036854775807 →
    Calls Tryd.prog 24 #[v, .int .i64 m] w (Lists (digs bs m).1 w) := by
  induction n with
  | zero =>
    intro bs m v w hl hb hn hw hm
    have e : bs = [] := List.eq_nil_of_length_eq_zero hl
    subst e
    obtain ⟨A, c, rfl, c1, c2, c3, EB, H0⟩ := hb.open_
    clear hb EB H0 hw
    simp only [List.length_nil] at *
    go_enter Tryd.func24, Tryd.ntmps24
    go_wp2_with fail
    go_ret
    exact ⟨none, 0, rfl, Owns.nil _ _, Below.refl _ _⟩
  | succ n ih =>
    intro bs m v w hl hb hn hw hm
    obtain ⟨A, c, rfl, c1, c2, c3, EB, H0⟩ := hb.open_
    obtain ⟨ad, b, rfl, hx, hal, hcx⟩ := Elems.later EB (Below.refl _ _) (k := n) (by omega)
    have hbw := wf_range (hw b (List.mem_of_getElem? hx))
    have hsp : bs = bs.take n ++ [b] := by
      have h1 := List.take_add_one (l := bs) (i := n)
      rw [hx, List.take_of_length_le (by omega)] at h1
      exact h1
    have HD := Lib.hid (show digs bs m = ((digs (bs.take n) (left b m)).1 ++ [digit b m], (digs (bs.take n) (left b m)).2) by
      have := digs_last b (bs.take n) m
      rwa [← hsp] at this)
    have hln : (bs.take n).length = n := by rw [List.length_take]; omega
    have IH := Lib.hid (ih (bs.take n) (left b m) (.slice (some ad) n c) w hln (IsInts.fore H0 (by omega)) (by omega) (fun x hx => hw x (List.mem_of_mem_take hx)) (left_range b m))
    have HLN := Lib.hid (digs_length (bs.take n) (left b m))
    rw [hln] at HLN
    rw [hl] at c1 c3
    have hc4 : n ≤ c := by omega
    rw [hl]
    clear ih hb EB H0 hw hx hsp hl hln
    go_enter Tryd.func24, Tryd.ntmps24
    by_cases hb0 : b = 0
    · subst hb0
      have HL := Lib.hid (show left 0 m = 0 from rfl)
      have HG := Lib.hid (show digit 0 m = m from rfl)
      rw [HL.out] at IH HD HLN
      rw [HG.out] at HD
      go_wp2_with fail
      refine IH.out.mono ?_
      rintro e w1 ⟨A1, c1', rfl, ho, hb1⟩
      rw [HLN.out] at ho ⊢
      have hsz := hb1.size
      go_wp2_with (at_builtin; refine wpList_append_ints _ rfl rfl _ _ rfl w.heap.size n _ (digs (bs.take n) 0).1 rfl (ho.alloc _) (some ⟨w1.heap.size, 0, none⟩) 1 1 [m] rfl (by simp) (elems_new w1 m) rfl (by omega) (by simp; omega) ?_; intro A4 c4 w4 hown4 hgrow4 hat4)
      go_ret
      refine ⟨A4, c4, ?_, ?_, (hb1.alloc hb1.size _).grown hgrow4 (by simp; omega) (fun _ e => (ho.lt e).1)⟩
      · rw [HD.out]; simp [HLN.out]
      · rw [HD.out]; simpa [HLN.out] using hown4
    · have e0 : (b != 0) = true := by simp [hb0]
      have HL := Lib.hid (show left b m = wrap64 (Int.fdiv m b) by unfold left; rw [if_neg hb0])
      have HG := Lib.hid (show digit b m = wrap64 (m - wrap64 (b * left b m)) by unfold digit; rw [if_neg hb0, HL.out, wrap_sub_r, wrap_sub_r_mul])
      have HQ := Lib.hid (quotient_ok m b w hb0 hm hbw)
      rw [← HL.out] at HQ
      obtain ⟨L, hL⟩ : ∃ L, L = left b m := ⟨_, rfl⟩
      rw [← hL] at IH HD HLN HG HQ
      obtain ⟨G, hG⟩ : ∃ G, G = digit b m := ⟨_, rfl⟩
      rw [← hG] at HD HG
      have hGE := HG.out
      clear hb0 hL hG HL
      go_wp2_with fail
      refine HQ.out.mono ?_
      rintro e w1 ⟨rfl, rfl⟩
      go_wp2_with fail
      refine IH.out.mono ?_
      rintro e w1 ⟨A1, c1', rfl, ho, hb1⟩
      rw [HLN.out] at ho ⊢
      have hsz := hb1.size
      go_wp2_with (at_builtin; refine wpList_append_ints _ rfl rfl _ _ rfl w.heap.size n _ (digs (bs.take n) L).1 rfl (ho.alloc _) (some ⟨w1.heap.size, 0, none⟩) 1 1 [G] rfl (by simp) (by rw [hGE]; exact elems_new w1 _) rfl (by omega) (by simp; omega) ?_; intro A4 c4 w4 hown4 hgrow4 hat4)
      go_ret
      refine ⟨A4, c4, ?_, ?_, (hb1.alloc hb1.size _).grown hgrow4 (by simp; omega) (fun _ e => (ho.lt e).1)⟩
      · rw [HD.out]; simp [HLN.out]
      · rw [HD.out]; simpa [HLN.out] using hown4

theorem digited_ok (bs : List Int) (m : Int) (v : Value) (w : World) (hb : IsInts w v bs) (hn : bs.length ≤ 4096) (hw : ∀ x ∈ bs, (Lit.int .i64 x).wf = true) (hm : -9223372036854775808 ≤ m ∧ m ≤ 9223372036854775807) :
    Calls Tryd.prog 24 #[v, .int .i64 m] w (Lists (digs bs m).1 w) := digited_nat bs.length bs m v w rfl hb hn hw hm

theorem wrap_cong_l {a b c : Int} (h : wrap64 a = wrap64 b) : wrap64 (a + c) = wrap64 (b + c) := by rw [← wrap_add_l a, h, wrap_add_l]
theorem wrap_cong_r {a b c : Int} (h : wrap64 a = wrap64 b) : wrap64 (c + a) = wrap64 (c + b) := by rw [← wrap_add_r c a, h, wrap_add_r]
theorem prd_drop {bs : List Int} {k : Nat} {b : Int} (h : bs[k]? = some b) : prd (bs.drop k) = b * prd (bs.drop (k + 1)) := by
  have hk := (List.getElem?_eq_some_iff.1 h).1
  rw [List.drop_eq_getElem_cons hk, prd_cons]
  rw [List.getElem?_eq_getElem hk] at h
  injection h with h
  rw [h]
theorem hv_drop {bs ds : List Int} {k : Nat} {d : Int} (hl : ds.length = bs.length) (h : ds[k]? = some d) : hv (bs.drop k) (ds.drop k) = d * prd (bs.drop (k + 1)) + hv (bs.drop (k + 1)) (ds.drop (k + 1)) := by
  have hk := (List.getElem?_eq_some_iff.1 h).1
  rw [List.drop_eq_getElem_cons hk, List.drop_eq_getElem_cons (show k < bs.length by omega), hv_cons (by simp; omega)]
  rw [List.getElem?_eq_getElem hk] at h
  injection h with h
  rw [h]

set_option maxRecDepth 100000 in
set_option maxHeartbeats 4000000 in
theorem valued_ok (v1 v2 : Value) (bs ds : List Int) (w : World) (hb : IsInts w v1 bs) (hd : IsInts w v2 ds) (he : ds.length = bs.length) :
    Calls Tryd.prog 26 #[v1, v2] w fun e w' => e = .returned (.int .i64 (wrap64 (hv bs ds))) ∧ w = w' := by
  obtain ⟨A, c, rfl, a1, a2, a3, EA, H0⟩ := hb.open_
  obtain ⟨B, c', rfl, b1, b2, b3, EB, H1⟩ := hd.open_
  have HA := Lib.hid EA
  have HB := Lib.hid EB
  have HL := Lib.hid he
  rw [he]
  rw [he] at b1 b3
  clear hb hd EA EB H0 H1 he
  go_enter Tryd.func26, Tryd.ntmps26
  go_wp2_with fail
  go_loop [5, 6] (fun sn si => ∃ (k : Nat) (z : Int), k ≤ bs.length ∧ si = .int .i64 k ∧ sn = .int .i64 (wrap64 z) ∧ wrap64 (z + hv (bs.drop k) (ds.drop k)) = wrap64 (hv bs ds)) (fun _ si => bs.length - (intOf si).toNat)
  case atStart => exact ⟨0, 0, Nat.zero_le _, rfl, congrArg _ (show (0 : Int) = wrap64 0 by unfold wrap64; omega), by simp⟩
  case round =>
    obtain ⟨k, z, hk, rfl, rfl, hz⟩ := hrel
    have HZ := Lib.hid hz
    clear hz
    rcases Nat.lt_or_ge k bs.length with hlt | hge
    · obtain ⟨ax, x, rfl, hx, hax, hcx⟩ := Elems.at_ HB.out (k := k) (by rw [HL.out]; exact hlt)
      have HV := Lib.hid (hv_drop HL.out hx)
      clear hx
      go_wp2_with fail
      go_loop [7, 8] (fun sd sj => ∃ (j : Nat) (y : Int), k + 1 ≤ j ∧ j ≤ bs.length ∧ sj = .int .i64 j ∧ sd = .int .i64 y ∧ wrap64 (y * prd (bs.drop j)) = wrap64 (x * prd (bs.drop (k + 1)))) (fun _ sj => bs.length - (intOf sj).toNat)
      case atStart => exact ⟨k + 1, x, Nat.le_refl _, hlt, by go_num, rfl, rfl⟩
      case round =>
        obtain ⟨j, y, hkj, hj, rfl, rfl, hy⟩ := hrel
        have HY := Lib.hid hy
        clear hy
        rcases Nat.lt_or_ge j bs.length with hjl | hjg
        · obtain ⟨ay, u, rfl, hu, hay, hcy⟩ := Elems.at_ HA.out (k := j) hjl
          have HP := Lib.hid (prd_drop hu)
          clear hu
          go_wp2_with fail
          go_round
          case rel => exact ⟨j + 1, wrap64 (y * u), by omega, by omega, by go_num, rfl, by rw [wrap_mul_l, ← HY.out, HP.out, Int.mul_assoc]⟩
          case measure => simp [intOf]; omega
        · obtain rfl : j = bs.length := by omega
          have HE := Lib.hid (show wrap64 y = wrap64 (x * prd (bs.drop (k + 1))) by
            have h := HY.out
            rw [List.drop_length] at h
            simpa [prd] using h)
          go_wp2_with fail
          go_round
          case rel =>
            refine ⟨k + 1, z + y, by omega, by go_num, by rw [wrap_add_l], ?_⟩
            rw [← HZ.out, HV.out, ← Int.add_assoc, wrap_cong_l]
            exact wrap_cong_r HE.out
          case measure => simp [intOf]; omega
    · obtain rfl : k = bs.length := by omega
      have HE := Lib.hid (show wrap64 z = wrap64 (hv bs ds) by
        have h := HZ.out
        rw [List.drop_length] at h
        simpa [hv] using h)
      go_wp2_with fail
      go_ret
      exact ⟨by rw [← HE.out]; rfl, rfl⟩

end Go.Proofs.YtajcjipabfknhaaDoor
