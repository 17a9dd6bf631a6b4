/- The walk of the law PermSigns. Conditions: none. -/
import Derived.Test.YtljhgikhgllpgaaPermOps
import Derived.Test.YtljhgikhgllpgaaSignWalk
import Derived.Test.YtljhgikhgllpgaaStoreList
import Derived.Test.YtljhgikhgllpgaaDigits
import Derived.Test.YtljhgikhgllpgaaSame
namespace Go.Proofs.Ytljhgikhgllpgaa
open Go Go.RowKit Go.Proofs.Ytljhgikhgllpgaa.P

set_option maxRecDepth 100000 in
set_option maxHeartbeats 4000000 in
theorem permSigns_walk (v0 v1 : Value) (i j : Int) (p q : List Int) (w : World) (h0 : IsInts w v0 p) (h1 : IsInts w v1 q) :
    Calls Try.prog 5 #[v0, v1, .int .i64 i, .int .i64 j] w (Says w) := by
  go_enter Try.func5, Try.ntmps5
  go_wp2_with fail
  have xa := Box.new w 3 #[.int .i64 1, .int .i64 0, .int .i64 2]
  have i1 : IsInts (w.alloc (.cells #[.int .i64 1, .int .i64 0, .int .i64 2] 3)) (.slice (some ⟨w.heap.size, 0, none⟩) 3 3) (ints [1, 0, 2]) := xa.isInts (xs := [1, 0, 2]) (n := 3) rfl (by omega)
  clear xa
  refine (sign_ok _ [1, 0, 2] _ i1 ⟨by decide, by decide⟩ (by decide)).mono ?_
  rintro e w1 ⟨rfl, hb1⟩
  have hbw1 := ((Below.refl w.heap.size w).trans ((below_one w _).mono (Below.refl w.heap.size w).size)).trans (hb1.mono ((Below.refl w.heap.size w).trans ((below_one w _).mono (Below.refl w.heap.size w).size)).size)
  clear hb1 i1
  rw [show sgn [1, 0, 2] = -1 by decide]
  by_cases hE : aftErr p q = 0
  case neg =>
    go_wp2_with fail
    refine (after_bad _ _ p q _ (h0.mono hbw1) (h1.mono hbw1) hE).mono ?_
    rintro e w2 ⟨rfl, hb2⟩
    have hbw2 := hbw1.trans (hb2.mono hbw1.size)
    clear hb2 hbw1
    clear hE
    go_wp2_with fail
    go_ret
    exact ⟨rfl, by have := hbw2.size; go_grown⟩
  obtain ⟨S, T, rfl, rfl, hS, hT, hl, hn⟩ := aftErr_zero hE
  obtain ⟨A, ca, rfl, -, -, -, EA, H0⟩ := h0.open_
  simp only [length_ints] at H0 ⊢
  have hX := aft_perm hS hT hl
  have hn2 : T.length ≤ 4096 := by omega
  have hsg := sgn_aft hS hT hl
  have hsi := sgn_inv hS
  have hIS := inv_perm hS
  have HS := Lib.hid hS
  have HT := Lib.hid hT
  have HL := Lib.hid hl
  have HX := Lib.hid hX
  have HN := Lib.hid hn
  have HN2 := Lib.hid hn2
  have HSG := Lib.hid hsg
  have HSI := Lib.hid hsi
  have HIS := Lib.hid hIS
  clear hE hS hT hl hX hn hn2 hsg hsi hIS h0
  go_wp2_with fail
  refine (after_ok _ _ S T _ (H0.mono hbw1) (h1.mono hbw1) HS.out HT.out HL.out.symm HN.out).mono ?_
  rintro e w2 ⟨r2, rfl, hr2, hb2⟩
  have hbw2 := hbw1.trans (hb2.mono hbw1.size)
  clear hb2 hbw1
  go_wp2_with fail
  refine (sign_ok _ S _ (H0.mono hbw2) HS.out (by (try simp only [aft_length, inv_length]); have := HL.out; have := HN.out; omega)).mono ?_
  rintro e w3 ⟨rfl, hb3⟩
  have hbw3 := hbw2.trans (hb3.mono hbw2.size)
  have a_x3 := hr2.mono hb3
  clear hb3 hr2 hbw2
  go_wp2_with fail
  refine (sign_ok _ T _ (h1.mono hbw3) HT.out (by (try simp only [aft_length, inv_length]); have := HL.out; have := HN.out; omega)).mono ?_
  rintro e w4 ⟨rfl, hb4⟩
  have hbw4 := hbw3.trans (hb4.mono hbw3.size)
  have a_x4 := a_x3.mono hb4
  clear hb4 a_x3 hbw3
  go_wp2_with fail
  refine (sign_ok _ (aft S T) _ a_x4 HX.out (by (try simp only [aft_length, inv_length]); have := HL.out; have := HN.out; omega)).mono ?_
  rintro e w5 ⟨rfl, hb5⟩
  have hbw5 := hbw4.trans (hb5.mono hbw4.size)
  have a_x5 := a_x4.mono hb5
  clear hb5 a_x4 hbw4
  rw [HSG.out]
  go_wp2_with fail
  refine (inverse_ok _ S _ (H0.mono hbw5) HS.out (by (try simp only [aft_length, inv_length]); have := HL.out; have := HN.out; omega)).mono ?_
  rintro e w6 ⟨r6, rfl, hr6, hb6⟩
  have hbw6 := hbw5.trans (hb6.mono hbw5.size)
  have a_x6 := a_x5.mono hb6
  clear hb6 a_x5 hbw5
  go_wp2_with fail
  refine (sign_ok _ (inv S) _ hr6 HIS.out (by (try simp only [aft_length, inv_length]); have := HL.out; have := HN.out; omega)).mono ?_
  rintro e w7 ⟨rfl, hb7⟩
  have hbw7 := hbw6.trans (hb7.mono hbw6.size)
  have a_x7 := a_x6.mono hb7
  have a_t7 := hr6.mono hb7
  clear hb7 a_x6 hr6 hbw6
  rw [HSI.out]
  obtain ⟨a, ha⟩ : ∃ a, a = sgn S := ⟨_, rfl⟩
  obtain ⟨b, hb⟩ : ∃ b, b = sgn T := ⟨_, rfl⟩
  have ca1 : a = 1 ∨ a = -1 := ha ▸ sgn_cases S
  have cb1 : b = 1 ∨ b = -1 := hb ▸ sgn_cases T
  rw [← ha, ← hb]
  have wb1 : wrap64 b = b := by unfold wrap64; omega
  have wb2 : wrap64 (-b) = -b := by unfold wrap64; omega
  clear cb1
  have HA := Lib.hid ha
  clear a_x7
  clear a_t7
  clear ha hb HT HX HSG HSI HIS HN2 HL h1
  have fin : ∀ (W : World), Below w.heap.size w W → (i < 0 ∨ j < 0 ∨ (S.length : Int) ≤ i ∨ (S.length : Int) ≤ j ∨ i = j) ∨ ∃ m l : Nat, i = m ∧ j = l ∧ m < S.length ∧ l < S.length ∧ m ≠ l := fun W _ => by
    by_cases c : i < 0 ∨ j < 0 ∨ (S.length : Int) ≤ i ∨ (S.length : Int) ≤ j ∨ i = j
    · exact .inl c
    · exact .inr ⟨i.toNat, j.toNat, by omega, by omega, by omega, by omega, by omega⟩
  rcases fin w7 hbw7 with hbad | ⟨m, l, rfl, rfl, hm, hl, hne⟩
  · clear fin
    by_cases d1 : i < 0
    case pos =>
      have d1' : decide (i < 0) = true := by simpa using d1
      rcases ca1 with rfl | rfl
      all_goals
        go_wp2_with fail
        go_ret
        exact ⟨rfl, by have := hbw7.size; go_grown⟩
    have d1' : decide (i < 0) = false := by simpa using d1
    by_cases d2 : j < 0
    case pos =>
      have d2' : decide (j < 0) = true := by simpa using d2
      rcases ca1 with rfl | rfl
      all_goals
        go_wp2_with fail
        go_ret
        exact ⟨rfl, by have := hbw7.size; go_grown⟩
    have d2' : decide (j < 0) = false := by simpa using d2
    by_cases d3 : (S.length : Int) ≤ i
    case pos =>
      have d3' : decide ((S.length : Int) ≤ i) = true := by simpa using d3
      rcases ca1 with rfl | rfl
      all_goals
        go_wp2_with fail
        go_ret
        exact ⟨rfl, by have := hbw7.size; go_grown⟩
    have d3' : decide ((S.length : Int) ≤ i) = false := by simpa using d3
    by_cases d4 : (S.length : Int) ≤ j
    case pos =>
      have d4' : decide ((S.length : Int) ≤ j) = true := by simpa using d4
      rcases ca1 with rfl | rfl
      all_goals
        go_wp2_with fail
        go_ret
        exact ⟨rfl, by have := hbw7.size; go_grown⟩
    have d4' : decide ((S.length : Int) ≤ j) = false := by simpa using d4
    have d5 : i = j := by omega
    subst d5
    rcases ca1 with rfl | rfl
    all_goals
      go_wp2_with fail
      go_ret
      exact ⟨rfl, by have := hbw7.size; go_grown⟩
  clear fin
  have e1 : decide (S.length ≤ m) = false := by simpa using hm
  have e2 : decide (S.length ≤ l) = false := by simpa using hl
  have e3 : ((m : Int) == (l : Int)) = false := by simp; omega
  have hj0 : IsInts w (.slice none 0 0) [] := (Owns.nil w 0).isInts
  obtain ⟨w0, hw0⟩ : ∃ w0, w0 = w7 := ⟨_, rfl⟩
  have hE := EA
  rcases ca1 with rfl | rfl
  all_goals
    go_wp2_with fail
    refine (joined_any _ _ (ints S) [] _ ((H0.mono hbw7)) (hj0.mono hbw7) (by simp only [length_ints]; have := HN.out; simp; omega)).mono ?_
    rintro e w20 ⟨B, cb, rfl, ho, hbj⟩
    simp only [List.append_nil, length_ints] at ho
    have hbw20 := hbw7.trans (hbj.mono hbw7.size)
    obtain ⟨g, rfl, hgB, hM⟩ := ho.mine (by omega)
    have hgw : w.heap.size ≤ g := by have := hbw7.size; omega
    simp only [List.append_nil, length_ints]
    clear ho hbj
    obtain ⟨ad, x, rfl, hx, hal, hcx⟩ := Elems.later EA hbw20 (k := l) (by rw [length_ints]; exact hl)
    obtain ⟨ae, y, hae, hy, -, hcy⟩ := Elems.later EA hbw20 (k := m) (by rw [length_ints]; exact hm)
    obtain rfl : ad = ae := by injection hae
    obtain ⟨hx1, -⟩ := ints_getD hx
    obtain ⟨hy1, -⟩ := ints_getD hy
    have hgm := hM.cell (k := m) (ints_get hm)
    have hgl := hM.cell (k := l) (ints_get hl)
    have hgf := hM.frozen
    have hglt := hM.lt
    have hab : ad.block ≠ g := by omega
    have hM2 := hM.store m x
    have hS1 : ((ints S).set m x)[l]? = some ((S.getD l 0 : Nat) : Int) := by rw [List.getElem?_set_ne hne]; exact ints_get hl
    have hgl2 := hM2.cell hS1
    have hgf2 := hM2.frozen
    have hglt2 := hM2.lt
    have hcy2 : (w20.setCell ⟨g, m, none⟩ (.int .i64 x)).cell? (ad.add m) = some (.int .i64 y) := (((Below.refl w.heap.size w20).setCell (p := ⟨g, m, none⟩) hgw _).cell (p := ad.add m) (by rw [addr_block_add]; exact hal)).trans hcy
    have hM3 := hM2.store l y
    have hsw : ((ints S).set m x).set l y = ints (swp S m l) := by rw [hx1, hy1]; simp [ints, swp, List.map_set]
    rw [hsw] at hM3
    have i3 := hM3.isInts
    have hbw21 := (hbw20.setCell (p := ⟨g, m, none⟩) hgw (.int .i64 x)).setCell (p := ⟨g, l, none⟩) hgw (.int .i64 y)
    have hq := sgn_swp HS.out hm hl hne
    rw [← HA.out] at hq
    have hpm := swp_perm HS.out hm hl
    have HQ := Lib.hid hq
    have HPM := Lib.hid hpm
    clear hx hy hx1 hy1 hae hS1 hsw hM hM2 hM3 hq hpm hne
    go_wp2_with fail
    refine (sign_ok _ (swp S m l) _ i3 HPM.out (by rw [swp_length]; exact HN.out)).mono ?_
    rintro e w22 ⟨rfl, hb22⟩
    have hbw22 := hbw21.trans (hb22.mono hbw21.size)
    rw [HQ.out]
    clear hb22 hbw21 i3
    go_wp2_with fail
    go_ret
    exact ⟨rfl, by have := hbw22.size; go_grown⟩

end Go.Proofs.Ytljhgikhgllpgaa
