/- The walk of the reference's Dropped. Conditions: none. -/
import Derived.Test.YtlkeipgpckkhbaaDoorRefTaken
import Derived.Test.YtlkeipgpckkhbaaDoorDrop
namespace Go.Proofs.YtlkeipgpckkhbaaDoor
open Go Go.RowKit Go.Proofs.YtlkeipgpckkhbaaDoor.P
end Go.Proofs.YtlkeipgpckkhbaaDoor
namespace Go.Proofs.YtlkeipgpckkhbaaDoor.P
def dropRf (n : List Int) (t : List Nat) : List Int := List.zipWith (fun (m : Int) (l : Nat) => if (l : Int) ≤ m ∨ m ≤ -(l : Int) then 0 else if 0 ≤ m then m else 0) n t
theorem dropRf_length (n : List Int) (t : List Nat) : (dropRf n t).length = min n.length t.length := by simp [dropRf]
theorem dropRf_at {n : List Int} {t : List Nat} {k : Nat} {m : Int} (h : n[k]? = some m) (hk : k < t.length) : (dropRf n t)[k]? = some (if ((t.getD k 0 : Nat) : Int) ≤ m ∨ m ≤ -((t.getD k 0 : Nat) : Int) then 0 else if 0 ≤ m then m else 0) := by
  unfold dropRf
  rw [List.getElem?_zipWith, h, List.getElem?_eq_getElem hk, getD_lt hk]
theorem dropRf_eq {n : List Int} {t ix : List Nat} (hl : n.length = t.length) (hi : Inside (dropSh n t) ix) : dropFr n t = dropRf n t := by
  apply List.ext_getElem?
  intro k
  by_cases hk : k < t.length
  · have hx : n[k]? = some n[k] := List.getElem?_eq_getElem (by omega)
    have h1 := (inside_iff.1 hi).2 k (by rw [dropSh_length]; omega)
    have e1 : (dropSh n t).getD k 0 = if 0 ≤ clamp n[k] t[k] then t[k] - (clamp n[k] t[k]).toNat else ((t[k] : Int) + clamp n[k] t[k]).toNat := by
      unfold dropSh
      rw [List.getD_eq_getElem?_getD, List.getElem?_zipWith, hx, List.getElem?_eq_getElem hk]
      rfl
    rw [e1] at h1
    rw [dropRf_at hx hk, getD_lt hk]
    unfold dropFr
    rw [List.getElem?_zipWith, hx, List.getElem?_eq_getElem hk]
    simp only [Option.some.injEq]
    generalize n[k] = m at *
    generalize t[k] = l at *
    unfold clamp at *
    split at h1 <;> split <;> split <;> omega
  · rw [List.getElem?_eq_none (by rw [dropFr_length]; omega), List.getElem?_eq_none (by rw [dropRf_length]; omega)]
theorem drop_ref {n : List Int} {a : Arr} {t : List Nat} (h : Ok a t) (hl : n.length = t.length) : drop n a = win (dropRf n t) (dropSh n t) a := by
  unfold drop
  rw [h.nsh_eq]
  unfold win
  refine tab_congr fun ix hi => ?_
  rw [dropRf_eq hl hi]
end Go.Proofs.YtlkeipgpckkhbaaDoor.P
namespace Go.Proofs.YtlkeipgpckkhbaaDoor
open Go Go.RowKit Go.Proofs.YtlkeipgpckkhbaaDoor.P

set_option maxRecDepth 100000 in
set_option maxHeartbeats 4000000 in
theorem dropped_told {vn v : Value} {n : List Int} {a : Arr} {w : World} (hn : IsInts w vn n) (ha : IsArr w v a) :
    Calls Tryd.prog 6 #[vn, v] w (RTold (drop n a) (dropErr n a) w) := by
  obtain ⟨A, ca, D, cd, rfl, hs, hd⟩ := ha.open_
  obtain ⟨B, cb, rfl, b1, b2, b3, EB, H1⟩ := hn.open_
  obtain ⟨A0, ca0, eA, a1, a2, a3, a0, a4⟩ := id hs
  cases eA
  have HA := Lib.hid ha
  have EA := Lib.hid (show Elems w A a.sh from a4)
  have EN := Lib.hid EB
  clear ha hs hd hn EB H1 a0 a4
  go_enter Tryd.func6, Tryd.ntmps6
  have z1 := (Box.new w 24 #[.bool a.ch, .slice A a.sh.length ca, .slice D a.da.length cd]).alloc (.cells #[.bool false, .slice none 0 0, .slice none 0 0] 24)
  have z3 := Box.new (w.alloc (.cells #[.bool a.ch, .slice A a.sh.length ca, .slice D a.da.length cd] 24)) 24 #[.bool false, .slice none 0 0, .slice none 0 0]
  simp only [World.size_alloc] at z3
  have hb0 := below_two w (.cells #[.bool a.ch, .slice A a.sh.length ca, .slice D a.da.length cd] 24) (.cells #[.bool false, .slice none 0 0, .slice none 0 0] 24)
  obtain ⟨t0, t1, t2⟩ := z1.three
  go_wp2_with fail
  refine (flaw_any (HA.out.mono hb0)).mono ?_
  rintro e w1 ⟨rfl, hb1⟩
  have bA := z1.below hb1
  have bR := z3.below hb1
  have hbw := hb0.trans (hb1.mono hb0.size)
  clear z1 z3 hb0 hb1 t0 t1 t2
  obtain ⟨q0, q1, q2⟩ := bR.three
  have qf := bR.frozen
  have hzR := bR.lt
  by_cases c1 : arrErr a = 0
  case neg =>
    have HE := Lib.hid (show dropErr n a = arrErr a by unfold dropErr; rw [if_pos c1])
    have HE0 := Lib.hid c1
    have e1 : (arrErr a != 0) = true := by simp [c1]
    clear c1
    go_wp2_with fail
    refine bodyPost_ret (v := .tuple #[zeroArr, .int .i64 (arrErr a)]) (by simp [results, Tryd.results6, go_sem, q0, q1, q2, hzR]) rfl ?_
    rw [HE.out]
    exact RTold.bad HE0.out (by have := hbw.size; go_grown)
  obtain ⟨t, ht⟩ := ok_of_arrErr c1
  have hsl : a.sh.length = t.length := by rw [ht.sh, length_ints]
  have HT := Lib.hid ht
  have HSL := Lib.hid hsl
  have ht6 := ht.good.1
  have HC1 := Lib.hid c1
  rw [c1]
  clear c1 ht hsl
  obtain ⟨t0, t1, t2⟩ := bA.three
  by_cases c2 : n.length = a.sh.length
  case neg =>
    have HE := Lib.hid (show dropErr n a = 4 by unfold dropErr; rw [if_neg (fun h => h HC1.out), if_pos c2])
    have c2' : ((n.length : Int) != (a.sh.length : Int)) = true := by simp; omega
    clear c2
    go_wp2_with fail
    refine bodyPost_ret (v := .tuple #[zeroArr, .int .i64 4]) (by simp [results, Tryd.results6, go_sem, q0, q1, q2, hzR]) rfl ?_
    rw [HE.out]
    exact RTold.bad (by decide) (by have := hbw.size; go_grown)
  have c2' : ((n.length : Int) != (a.sh.length : Int)) = false := by simp; omega
  have C2 := Lib.hid c2
  have hn6 : n.length ≤ 6 := by have := HSL.out; omega
  obtain ⟨S, hSe⟩ : ∃ S : List Int, S = ints (dropSh n t) := ⟨_, rfl⟩
  obtain ⟨F, hFe⟩ : ∃ F : List Int, F = dropRf n t := ⟨_, rfl⟩
  have HSE := Lib.hid hSe
  have HFE := Lib.hid hFe
  have HLS := Lib.hid (show S.length = n.length by rw [hSe, length_ints, dropSh_length, c2, HSL.out]; simp)
  have HLF := Lib.hid (show F.length = n.length by rw [hFe, dropRf_length, c2, HSL.out]; simp)
  clear c2 q0 q1 q2 qf hzR hSe hFe
  have hzA := bA.lt
  have hzW := hbw.size
  go_wp2_with fail
  clear t0 t1 t2
  go_loopw [7, 8, 9] (fun s7 s8 s9 wr => ∃ (k : Nat) (A1 A2 : Option Addr) (c1 c2 : Nat), k ≤ n.length ∧ s9 = .int .i64 k ∧ s7 = .slice A1 k c1 ∧ s8 = .slice A2 k c2 ∧ True ∧ Owns wr w1.heap.size (.slice A1 k c1) k (S.take k) ∧ Owns wr w1.heap.size (.slice A2 k c2) k (F.take k) ∧ ApartV (.slice A1 k c1) (.slice A2 k c2) ∧ Below w1.heap.size w1 wr) (fun _ _ s9 _ => n.length - (intOf s9).toNat)
  case atStart => exact ⟨0, none, none, 0, 0, Nat.zero_le _, rfl, rfl, rfl, trivial, Owns.nil _ _, Owns.nil _ _, (fun m h => by cases h), Below.refl _ _⟩
  case round =>
    obtain ⟨k, A1, A2, c1, c2, hk, rfl, rfl, rfl, hin, o1, o2, hap, hbl⟩ := hrel
    have HIN := Lib.hid hin
    clear hin
    rcases Nat.lt_or_ge k n.length with hlt | hge
    · obtain ⟨ad, m, rfl, hm, hal, hcm0⟩ := Elems.at_ EN.out hlt
      obtain ⟨ae, y, rfl, hy, hae, hcy0⟩ := Elems.at_ EA.out (k := k) (by rw [← C2.out]; exact hlt)
      rw [HT.out.sh] at hy
      obtain ⟨rfl, hkt⟩ := ints_getD hy
      have hY4 : t.getD k 0 ≤ 4096 := by rw [getD_lt hkt]; exact HT.out.good.2.1 _ (List.getElem_mem _)
      obtain ⟨Y, hY⟩ : ∃ Y, Y = t.getD k 0 := ⟨_, rfl⟩
      rw [← hY] at hcy0 hY4
      have HCM := Lib.hid (show ∀ wx, Below w1.heap.size w1 wx → wx.cell? (ad.add k) = some (.int .i64 m) from fun wx h => ((hbw.trans (h.mono hbw.size)).cell (p := ad.add k) (by rw [addr_block_add]; exact hal)).trans hcm0)
      have HCY := Lib.hid (show ∀ wx, Below w1.heap.size w1 wx → wx.cell? (ae.add k) = some (.int .i64 Y) from fun wx h => ((hbw.trans (h.mono hbw.size)).cell (p := ae.add k) (by rw [addr_block_add]; exact hae)).trans hcy0)
      have HM := Lib.hid hm
      have HY := Lib.hid hY
      have hcm := HCM.out wr hbl
      have hcy := HCY.out wr hbl
      have hkA : k < a.sh.length := by rw [← C2.out]; exact hlt
      obtain ⟨t0, t1, t2⟩ := (bA.below hbl).three
      have lA2 := (bA.below hbl).lt
      have O1 := Lib.hid o1
      have O2 := Lib.hid o2
      have HAP := Lib.hid hap
      have HBL := Lib.hid hbl
      clear o1 o2 hap hm hy hY hcm0 hcy0
      have HIN2 := Lib.hid trivial
      have hS : S[k]? = some (if 0 ≤ clamp m Y then (Y : Int) - clamp m Y else (Y : Int) + clamp m Y) := by rw [HSE.out, HY.out]; exact dropSh_at HM.out hkt
      have hF : F[k]? = some (if (Y : Int) ≤ m ∨ m ≤ -(Y : Int) then 0 else if 0 ≤ m then m else 0) := by rw [HFE.out, HY.out]; exact dropRf_at HM.out hkt
      have hwn : IntKind.i64.wrap (-(Y : Int)) = -(Y : Int) := IntWalk.i64_in _ (by omega)
      rcases Int.lt_or_le m Y with h1 | h1
      · have d1 : decide ((Y : Int) ≤ m) = false := by simp; omega
        rcases Int.lt_or_le (-(Y : Int)) m with h2 | h2
        · have d2 : decide (m ≤ -(Y : Int)) = false := by simp; omega
          rcases Int.lt_or_le m 0 with h3 | h3
          · have d3 : decide ((0 : Int) ≤ m) = false := by simp; omega
            have hw1 : IntKind.i64.wrap ((Y : Int) + m) = (Y : Int) + m := IntWalk.i64_in _ (by omega)
            have HXK := Lib.hid (show S[k]? = some ((Y : Int) + m) by rw [hS]; congr 1; unfold clamp; split <;> omega)
            have HYK := Lib.hid (show F[k]? = some (0) by rw [hF]; congr 1; split <;> (try split) <;> omega)
            clear hS hF
            have o1 := O1.out
            have o2 := O2.out
            have hap := HAP.out
            have hbl := HBL.out
            go_wp2_with (at_builtin; first | (refine wpList_append_ints _ rfl rfl _ _ rfl w1.heap.size k (.slice A1 k c1) (S.take k) rfl (o1.alloc _) (some ⟨wr.heap.size, 0, none⟩) 1 1 [(Y : Int) + m] rfl (by simp) (elems_new wr ((Y : Int) + m)) rfl (by omega) (by have := hbl.size; simp; omega) ?_; intro A3 c3 w3 hown3 hgrow3 hat3; have hb3 : Below w1.heap.size w1 w3 := (hbl.alloc hbl.size _).grown hgrow3 (by have := hbl.size; simp; omega) (fun _ e => (o1.lt e).1); have hz3 := hb3.size; have p2 : Owns w3 w1.heap.size (.slice A2 k c2) k (F.take k) := (o2.alloc _).kept hgrow3 (apart_ne hap.symm)) | (refine wpList_append_ints _ rfl rfl _ _ rfl w1.heap.size k (.slice A2 k c2) (F.take k) rfl (p2.alloc _) (some ⟨w3.heap.size, 0, none⟩) 1 1 [0] rfl (by simp) (elems_new w3 (0)) rfl (by omega) (by simp; omega) ?_; intro A4 c4 w4 hown4 hgrow4 hat4))
            have hap3 : ApartV (.slice A3 (k + 1) c3) (.slice A2 k c2) := apart_next hap o2 (by simp) hat3
            have hb4 : Below w1.heap.size w1 w4 := (hb3.alloc hb3.size _).grown hgrow4 (by simp; omega) (fun _ e => (p2.lt e).1)
            have r1 : Owns w4 w1.heap.size (.slice A3 (k + 1) c3) (k + 1) (S.take k ++ [(Y : Int) + m]) := (hown3.alloc _).kept hgrow4 (apart_ne hap3)
            have hap4 : ApartV (.slice A3 (k + 1) c3) (.slice A4 (k + 1) c4) := apart_next' hap3 hown3 (by simp) hat4
            rw [take_at HYK.out] at hown4
            rw [take_at HXK.out] at r1
            go_roundw
            case rel => exact ⟨k + 1, A3, A4, c3, c4, by omega, by go_num, rfl, rfl, HIN2.out, r1, hown4, hap4, hb4⟩
            case measure => simp [intOf]; omega
          · have d3 : decide ((0 : Int) ≤ m) = true := by simpa using h3
            have hw1 : IntKind.i64.wrap ((Y : Int) - m) = (Y : Int) - m := IntWalk.i64_in _ (by omega)
            have HXK := Lib.hid (show S[k]? = some ((Y : Int) - m) by rw [hS]; congr 1; unfold clamp; split <;> omega)
            have HYK := Lib.hid (show F[k]? = some (m) by rw [hF]; congr 1; split <;> (try split) <;> omega)
            clear hS hF
            have o1 := O1.out
            have o2 := O2.out
            have hap := HAP.out
            have hbl := HBL.out
            go_wp2_with (at_builtin; first | (refine wpList_append_ints _ rfl rfl _ _ rfl w1.heap.size k (.slice A1 k c1) (S.take k) rfl (o1.alloc _) (some ⟨wr.heap.size, 0, none⟩) 1 1 [(Y : Int) - m] rfl (by simp) (elems_new wr ((Y : Int) - m)) rfl (by omega) (by have := hbl.size; simp; omega) ?_; intro A3 c3 w3 hown3 hgrow3 hat3; have hb3 : Below w1.heap.size w1 w3 := (hbl.alloc hbl.size _).grown hgrow3 (by have := hbl.size; simp; omega) (fun _ e => (o1.lt e).1); have hz3 := hb3.size; have p2 : Owns w3 w1.heap.size (.slice A2 k c2) k (F.take k) := (o2.alloc _).kept hgrow3 (apart_ne hap.symm); have hcm3 := HCM.out w3 hb3) | (refine wpList_append_ints _ rfl rfl _ _ rfl w1.heap.size k (.slice A2 k c2) (F.take k) rfl (p2.alloc _) (some ⟨w3.heap.size, 0, none⟩) 1 1 [m] rfl (by simp) (elems_new w3 (m)) rfl (by omega) (by simp; omega) ?_; intro A4 c4 w4 hown4 hgrow4 hat4))
            have hap3 : ApartV (.slice A3 (k + 1) c3) (.slice A2 k c2) := apart_next hap o2 (by simp) hat3
            have hb4 : Below w1.heap.size w1 w4 := (hb3.alloc hb3.size _).grown hgrow4 (by simp; omega) (fun _ e => (p2.lt e).1)
            have r1 : Owns w4 w1.heap.size (.slice A3 (k + 1) c3) (k + 1) (S.take k ++ [(Y : Int) - m]) := (hown3.alloc _).kept hgrow4 (apart_ne hap3)
            have hap4 : ApartV (.slice A3 (k + 1) c3) (.slice A4 (k + 1) c4) := apart_next' hap3 hown3 (by simp) hat4
            rw [take_at HYK.out] at hown4
            rw [take_at HXK.out] at r1
            go_roundw
            case rel => exact ⟨k + 1, A3, A4, c3, c4, by omega, by go_num, rfl, rfl, HIN2.out, r1, hown4, hap4, hb4⟩
            case measure => simp [intOf]; omega
        · have d2 : decide (m ≤ -(Y : Int)) = true := by simpa using h2
          have d3 : (m == 0) = false := by rw [beq_eq_false_iff_ne]; omega
          have HXK := Lib.hid (show S[k]? = some (0) by rw [hS]; congr 1; unfold clamp; split <;> omega)
          have HYK := Lib.hid (show F[k]? = some (0) by rw [hF]; congr 1; split <;> (try split) <;> omega)
          clear hS hF
          have o1 := O1.out
          have o2 := O2.out
          have hap := HAP.out
          have hbl := HBL.out
          go_wp2_with (at_builtin; first | (refine wpList_append_ints _ rfl rfl _ _ rfl w1.heap.size k (.slice A1 k c1) (S.take k) rfl (o1.alloc _) (some ⟨wr.heap.size, 0, none⟩) 1 1 [0] rfl (by simp) (elems_new wr (0)) rfl (by omega) (by have := hbl.size; simp; omega) ?_; intro A3 c3 w3 hown3 hgrow3 hat3; have hb3 : Below w1.heap.size w1 w3 := (hbl.alloc hbl.size _).grown hgrow3 (by have := hbl.size; simp; omega) (fun _ e => (o1.lt e).1); have hz3 := hb3.size; have p2 : Owns w3 w1.heap.size (.slice A2 k c2) k (F.take k) := (o2.alloc _).kept hgrow3 (apart_ne hap.symm)) | (refine wpList_append_ints _ rfl rfl _ _ rfl w1.heap.size k (.slice A2 k c2) (F.take k) rfl (p2.alloc _) (some ⟨w3.heap.size, 0, none⟩) 1 1 [0] rfl (by simp) (elems_new w3 (0)) rfl (by omega) (by simp; omega) ?_; intro A4 c4 w4 hown4 hgrow4 hat4))
          have hap3 : ApartV (.slice A3 (k + 1) c3) (.slice A2 k c2) := apart_next hap o2 (by simp) hat3
          have hb4 : Below w1.heap.size w1 w4 := (hb3.alloc hb3.size _).grown hgrow4 (by simp; omega) (fun _ e => (p2.lt e).1)
          have r1 : Owns w4 w1.heap.size (.slice A3 (k + 1) c3) (k + 1) (S.take k ++ [0]) := (hown3.alloc _).kept hgrow4 (apart_ne hap3)
          have hap4 : ApartV (.slice A3 (k + 1) c3) (.slice A4 (k + 1) c4) := apart_next' hap3 hown3 (by simp) hat4
          rw [take_at HYK.out] at hown4
          rw [take_at HXK.out] at r1
          go_roundw
          case rel => exact ⟨k + 1, A3, A4, c3, c4, by omega, by go_num, rfl, rfl, HIN2.out, r1, hown4, hap4, hb4⟩
          case measure => simp [intOf]; omega
      · have d1 : decide ((Y : Int) ≤ m) = true := by simpa using h1
        by_cases h2 : m = 0
        · have d3 : (m == 0) = true := by simp [h2]
          have hm0 := h2
          have HXK := Lib.hid (show S[k]? = some ((Y : Int)) by rw [hS]; congr 1; unfold clamp; split <;> omega)
          have HYK := Lib.hid (show F[k]? = some (0) by rw [hF]; congr 1; split <;> (try split) <;> omega)
          clear hS hF hm0 h2
          have o1 := O1.out
          have o2 := O2.out
          have hap := HAP.out
          have hbl := HBL.out
          go_wp2_with (at_builtin; first | (refine wpList_append_ints _ rfl rfl _ _ rfl w1.heap.size k (.slice A1 k c1) (S.take k) rfl (o1.alloc _) (some ⟨wr.heap.size, 0, none⟩) 1 1 [(Y : Int)] rfl (by simp) (elems_new wr ((Y : Int))) rfl (by omega) (by have := hbl.size; simp; omega) ?_; intro A3 c3 w3 hown3 hgrow3 hat3; have hb3 : Below w1.heap.size w1 w3 := (hbl.alloc hbl.size _).grown hgrow3 (by have := hbl.size; simp; omega) (fun _ e => (o1.lt e).1); have hz3 := hb3.size; have p2 : Owns w3 w1.heap.size (.slice A2 k c2) k (F.take k) := (o2.alloc _).kept hgrow3 (apart_ne hap.symm)) | (refine wpList_append_ints _ rfl rfl _ _ rfl w1.heap.size k (.slice A2 k c2) (F.take k) rfl (p2.alloc _) (some ⟨w3.heap.size, 0, none⟩) 1 1 [0] rfl (by simp) (elems_new w3 (0)) rfl (by omega) (by simp; omega) ?_; intro A4 c4 w4 hown4 hgrow4 hat4))
          have hap3 : ApartV (.slice A3 (k + 1) c3) (.slice A2 k c2) := apart_next hap o2 (by simp) hat3
          have hb4 : Below w1.heap.size w1 w4 := (hb3.alloc hb3.size _).grown hgrow4 (by simp; omega) (fun _ e => (p2.lt e).1)
          have r1 : Owns w4 w1.heap.size (.slice A3 (k + 1) c3) (k + 1) (S.take k ++ [(Y : Int)]) := (hown3.alloc _).kept hgrow4 (apart_ne hap3)
          have hap4 : ApartV (.slice A3 (k + 1) c3) (.slice A4 (k + 1) c4) := apart_next' hap3 hown3 (by simp) hat4
          rw [take_at HYK.out] at hown4
          rw [take_at HXK.out] at r1
          go_roundw
          case rel => exact ⟨k + 1, A3, A4, c3, c4, by omega, by go_num, rfl, rfl, HIN2.out, r1, hown4, hap4, hb4⟩
          case measure => simp [intOf]; omega
        · have d3 : (m == 0) = false := by simp [h2]
          have hm0 := h2
          have HXK := Lib.hid (show S[k]? = some (0) by rw [hS]; congr 1; unfold clamp; split <;> omega)
          have HYK := Lib.hid (show F[k]? = some (0) by rw [hF]; congr 1; split <;> (try split) <;> omega)
          clear hS hF hm0 h2
          have o1 := O1.out
          have o2 := O2.out
          have hap := HAP.out
          have hbl := HBL.out
          go_wp2_with (at_builtin; first | (refine wpList_append_ints _ rfl rfl _ _ rfl w1.heap.size k (.slice A1 k c1) (S.take k) rfl (o1.alloc _) (some ⟨wr.heap.size, 0, none⟩) 1 1 [0] rfl (by simp) (elems_new wr (0)) rfl (by omega) (by have := hbl.size; simp; omega) ?_; intro A3 c3 w3 hown3 hgrow3 hat3; have hb3 : Below w1.heap.size w1 w3 := (hbl.alloc hbl.size _).grown hgrow3 (by have := hbl.size; simp; omega) (fun _ e => (o1.lt e).1); have hz3 := hb3.size; have p2 : Owns w3 w1.heap.size (.slice A2 k c2) k (F.take k) := (o2.alloc _).kept hgrow3 (apart_ne hap.symm)) | (refine wpList_append_ints _ rfl rfl _ _ rfl w1.heap.size k (.slice A2 k c2) (F.take k) rfl (p2.alloc _) (some ⟨w3.heap.size, 0, none⟩) 1 1 [0] rfl (by simp) (elems_new w3 (0)) rfl (by omega) (by simp; omega) ?_; intro A4 c4 w4 hown4 hgrow4 hat4))
          have hap3 : ApartV (.slice A3 (k + 1) c3) (.slice A2 k c2) := apart_next hap o2 (by simp) hat3
          have hb4 : Below w1.heap.size w1 w4 := (hb3.alloc hb3.size _).grown hgrow4 (by simp; omega) (fun _ e => (p2.lt e).1)
          have r1 : Owns w4 w1.heap.size (.slice A3 (k + 1) c3) (k + 1) (S.take k ++ [0]) := (hown3.alloc _).kept hgrow4 (apart_ne hap3)
          have hap4 : ApartV (.slice A3 (k + 1) c3) (.slice A4 (k + 1) c4) := apart_next' hap3 hown3 (by simp) hat4
          rw [take_at HYK.out] at hown4
          rw [take_at HXK.out] at r1
          go_roundw
          case rel => exact ⟨k + 1, A3, A4, c3, c4, by omega, by go_num, rfl, rfl, HIN2.out, r1, hown4, hap4, hb4⟩
          case measure => simp [intOf]; omega
    · obtain rfl : k = n.length := by omega
      rw [List.take_of_length_le (by rw [HLS.out]; exact Nat.le_refl _)] at o1
      rw [List.take_of_length_le (by rw [HLF.out]; exact Nat.le_refl _)] at o2
      have iS := o1.isInts
      have iF := o2.isInts
      have hbw2 := hbw.trans (hbl.mono hbw.size)
      clear o1 o2 hap
      have HE := Lib.hid (show dropErr n a = 0 by
        unfold dropErr
        rw [if_neg (fun h => h HC1.out), if_neg (by have := C2.out; omega)])
      have HG := Lib.hid (dropSh_good (n := n) (t := t) (by rw [C2.out, HSL.out]) HT.out.good)
      have HFB := Lib.hid (show ∀ (k : Nat) (f : Int), F[k]? = some f → -8192 ≤ f ∧ f ≤ 8192 from by
        intro k f hf
        have hkl := (List.getElem?_eq_some_iff.1 hf).1
        rw [HLF.out] at hkl
        have hkt : k < t.length := by rw [← HSL.out, ← C2.out]; exact hkl
        have hx : n[k]? = some n[k] := List.getElem?_eq_getElem hkl
        rw [HFE.out, dropRf_at hx hkt] at hf
        injection hf with hf
        have h2 : t.getD k 0 ≤ 4096 := by rw [getD_lt hkt]; exact HT.out.good.2.1 _ (List.getElem_mem _)
        split at hf
        · omega
        · split at hf <;> omega)
      obtain ⟨t0, t1, t2⟩ := (bA.below hbl).three
      have lA2 := (bA.below hbl).lt
      have hbz := hbl.size
      go_wp2_with fail
      refine (part_any (HA.out.mono hbw2) HT.out (s := dropSh n t) (iS.eq' HSE.out) iF HG.out (by rw [dropSh_length, C2.out, HSL.out]; simp) (by rw [HLF.out, C2.out, HSL.out]) HFB.out).mono ?_
      rintro e w3 ⟨r, rfl, hr, hb3⟩
      obtain ⟨A3, ca3, D3, cd3, rfl, hs3, hd3⟩ := hr.open_
      have bR3 := (bR.below hbl).below hb3
      obtain ⟨q0, q1, q2⟩ := bR3.three
      have fR3 := bR3.frozen
      have hz3 := bR3.lt
      have hbw3 := hbw2.trans (hb3.mono hbw2.size)
      clear hb3 hs3 hd3 t0 t1 t2 lA2
      have HTK := Lib.hid (show drop n a = win F (dropSh n t) a by rw [drop_ref HT.out (by rw [C2.out, HSL.out]), HFE.out])
      go_wp2_with fail
      refine bodyPost_ret (v := .tuple #[.agg #[.bool (win F (dropSh n t) a).ch, .slice A3 (win F (dropSh n t) a).sh.length ca3, .slice D3 (win F (dropSh n t) a).da.length cd3], .int .i64 0]) (by simp [results, Tryd.results6, go_sem, q0, q1, q2, hz3]) rfl ?_
      rw [HTK.out, HE.out]
      exact RTold.ok rfl (hr.laid bR3 _ _ _) (by have := hbw3.size; go_grown)

end Go.Proofs.YtlkeipgpckkhbaaDoor
