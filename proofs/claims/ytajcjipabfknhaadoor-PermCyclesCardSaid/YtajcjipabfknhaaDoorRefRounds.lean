/- The walk of the reference's Rounds. Conditions: none. -/
import Derived.Test.YtajcjipabfknhaaDoorCyclesOrder
import Derived.Test.YtajcjipabfknhaaDoorRefTurned
set_option linter.unusedSimpArgs false
set_option linter.unusedVariables false
namespace Go.Proofs.YtajcjipabfknhaaDoor
open Go Go.RowKit Go.Proofs.YtajcjipabfknhaaDoor.P

namespace P
/-- Those of more than one number. -/
def lng (cs : List (List Nat)) : List (List Nat) := cs.filter fun c => decide (1 < c.length)
theorem lng_hit {cs : List (List Nat)} {c : List Nat} (h : 1 < c.length) : lng (cs ++ [c]) = lng cs ++ [c] := by simp [lng, h]
theorem lng_miss {cs : List (List Nat)} {c : List Nat} (h : ¬ 1 < c.length) : lng (cs ++ [c]) = lng cs := by simp [lng, h]
/-- None of the first ones is less. -/
def lst (p : List Nat) (m i : Nat) : Bool := decide (∀ a, a < m → i ≤ it p a i)
theorem lst_one (p : List Nat) (i : Nat) : lst p 1 i = true := decide_eq_true fun a ha => by
  obtain rfl : a = 0 := by omega
  exact Nat.le_refl _
theorem lst_hit {p : List Nat} {m i : Nat} (h : it p m i < i) : lst p (m + 1) i = false := decide_eq_false fun k => by
  have := k m (by omega)
  omega
theorem lst_miss {p : List Nat} {m i : Nat} (h : ¬ it p m i < i) : lst p (m + 1) i = lst p m i := by
  unfold lst
  rw [Bool.eq_iff_iff, decide_eq_true_iff, decide_eq_true_iff]
  refine ⟨fun k a ha => k a (by omega), fun k a ha => ?_⟩
  by_cases e : a = m
  · subst e; omega
  · exact k a (by omega)
theorem lst_all {p : List Nat} (hp : Perm p) {i : Nat} (hi : i < p.length) : lst p (per p i) i = leastB p i := by
  rw [Bool.eq_iff_iff, least_iff hp hi]
  unfold lst
  rw [decide_eq_true_iff]
end P

/-- A list of lists, each of the call's own. -/
def LRows (w : World) (B : Nat) (vs : List Value) (cs : List (List Nat)) : Prop := vs.length = cs.length ∧ ∀ (j : Nat) (v : Value) (c : List Nat), vs[j]? = some v → cs[j]? = some c → Owns w B v c.length (ints c)
theorem LRows.nil (w : World) (B : Nat) : LRows w B [] [] := ⟨rfl, fun j v c h => by simp at h⟩
theorem LRows.add {w : World} {B : Nat} {vs : List Value} {cs : List (List Nat)} {v : Value} {c : List Nat} (h : LRows w B vs cs) (hv : Owns w B v c.length (ints c)) : LRows w B (vs ++ [v]) (cs ++ [c]) := by
  refine ⟨by simp [h.1], fun j u d hu hd => ?_⟩
  rcases Nat.lt_trichotomy j vs.length with hj | hj | hj
  · rw [List.getElem?_append_left hj] at hu
    rw [List.getElem?_append_left (by rw [← h.1]; exact hj)] at hd
    exact h.2 j u d hu hd
  · rw [hj, List.getElem?_append_right (Nat.le_refl _)] at hu
    rw [hj, h.1, List.getElem?_append_right (Nat.le_refl _)] at hd
    simp at hu hd
    rw [← hu, ← hd]
    exact hv
  · have := (List.getElem?_eq_some_iff.1 hu).1
    simp at this
    omega
theorem LRows.imp {w w' : World} {B B' : Nat} {vs : List Value} {cs : List (List Nat)} (h : LRows w B vs cs) (hi : ∀ v n xs, Owns w B v n xs → Owns w' B' v n xs) : LRows w' B' vs cs := ⟨h.1, fun j v c hv hc => hi _ _ _ (h.2 j v c hv hc)⟩
theorem Owns.apart {w : World} {B B' n k : Nat} {v v' : Value} {xs : List Int} {us : List Value} (h : Owns w B v n xs) (h' : w.ownsRow B' 22 1 v' k us) : v.ownBlock = none ∨ v.ownBlock ≠ v'.ownBlock := by
  rcases h.1.2 with ⟨rfl, _⟩ | ⟨g, cap, cur, rfl, _, hg, _⟩
  · exact .inl rfl
  · right
    rcases h'.2 with ⟨rfl, _⟩ | ⟨g', cap', cur', rfl, _, hg', _⟩
    · simp [Value.ownBlock]
    · intro e
      have e2 : g = g' := by simpa [Value.ownBlock] using e
      rw [e2, hg'] at hg
      injection hg with hg
      injection hg with _ e3 _
      exact absurd e3 (by decide)
theorem ownsRow_below {w w' : World} {B k : Nat} {e : TypeId} {v : Value} {us : List Value} (h : w.ownsRow B e 1 v k us) (hb : Below w.heap.size w w') : w'.ownsRow B e 1 v k us :=
  h.kept (row := none) ⟨hb.os, hb.tape, hb.output, hb.size, fun k hk _ => hb.block k hk⟩ (by cases v.ownBlock <;> simp)
theorem owns_lit (w : World) (x : Int) : Owns (w.alloc (.cells #[.int .i64 x] 3)) w.heap.size (.slice (some ⟨w.heap.size, 0, none⟩) 1 1) 1 [x] :=
  ⟨⟨rfl, .inr ⟨w.heap.size, 1, #[.int .i64 x], rfl, Nat.le_refl _, Box.new w _ _, Nat.le_refl _, by unfold maxLen; omega, rfl, rfl⟩⟩, by omega⟩

set_option maxRecDepth 100000 in
set_option maxHeartbeats 4000000 in
theorem rrounds_ok (v : Value) (s : List Nat) (w : World) (h1 : IsInts w v (ints s)) (hs : Perm s) (hn : s.length ≤ 4096) :
    Calls Tryd.prog 19 #[v] w fun e w' => ∃ r vs, e = .returned r ∧ IsVals w' r vs ∧ LRows w' w.heap.size vs (lng (cycs s s.length)) ∧ Below w.heap.size w w' := by
  obtain ⟨A, ca, rfl, a1, a2, a3, EA, H0⟩ := h1.open_
  simp only [length_ints] at a1 a2 a3 EA H0 ⊢
  have HE := Lib.hid EA
  have HS := Lib.hid hs
  clear h1 hs EA H0
  obtain ⟨i0, hi0, hz0, hz1, hz2⟩ := info_parts ints_info
  have HI := Lib.hid hi0
  have HZ0 := Lib.hid hz0
  have HZ1 := Lib.hid hz1
  have HZ2 := Lib.hid hz2
  clear hi0 hz0 hz1 hz2
  go_enter Tryd.func19, Tryd.ntmps19
  go_wp2_with fail
  go_loopw [3, 4] (fun so si wr => ∃ (k : Nat) (vs : List Value), k ≤ s.length ∧ si = .int .i64 k ∧ wr.ownsRow w.heap.size 22 1 so vs.length vs ∧ vs.length ≤ k ∧ LRows wr w.heap.size vs (lng (cycs s k)) ∧ Below w.heap.size w wr) (fun _ si _ => s.length - (intOf si).toNat)
  case atStart => exact ⟨0, [], Nat.zero_le _, rfl, World.ownsRow_nil _ _ _ _, Nat.le_refl _, LRows.nil _ _, Below.refl _ _⟩
  case round =>
    obtain ⟨k, vs, hk, rfl, ho, hvk, hrows, hbl⟩ := hrel
    rcases Nat.lt_or_ge k s.length with hlt | hge
    · obtain ⟨ad, x, rfl, hx, hal, hcx⟩ := Elems.later HE.out hbl (k := k) (by rw [length_ints]; exact hlt)
      obtain ⟨rfl, -⟩ := ints_getD hx
      have hsz := hbl.size
      obtain ⟨hL1, hL2, hL3, hL4⟩ := cyc_facts HS.out hlt
      have HLA := Lib.hid (lst_all HS.out hlt)
      have HCY := Lib.hid (show cyc s k = orb s (per s k) k from rfl)
      obtain ⟨L, hL⟩ : ∃ L, L = per s k := ⟨_, rfl⟩
      rw [← hL] at hL1 hL2 hL3 hL4 HLA HCY
      have HL3 := Lib.hid hL3
      have HL4 := Lib.hid hL4
      clear hL hL3 hL4 hx
      obtain ⟨wo, rfl⟩ : ∃ wo : World, wo = wr := ⟨_, rfl⟩
      have HO := Lib.hid ho
      have HR := Lib.hid hrows
      have HB := Lib.hid hbl
      have hal2 : ad.block < wo.heap.size := by omega
      clear ho hrows hbl
      obtain ⟨Y0, hY0⟩ : ∃ Y, Y = s.getD k 0 := ⟨_, rfl⟩
      rw [← hY0] at hcx
      have HY0 := Lib.hid hY0
      clear hY0
      have hcxa : (wo.alloc (.cells #[.int .i64 (k : Int)] 3)).cell? (ad.add k) = some (.int .i64 Y0) := ((below_one wo _).cell (p := ad.add k) (by rw [addr_block_add]; exact hal2)).trans hcx
      go_wp2_with fail
      clear hcx hcxa
      go_loopw [5, 6, 7] (fun sc sl sj wr => ∃ (m : Nat) (A' : Option Addr) (c' : Nat), 1 ≤ m ∧ m ≤ L ∧ sc = .slice A' m c' ∧ sl = .bool (lst s m k) ∧ sj = .int .i64 ((it s m k : Nat) : Int) ∧ Owns wr wo.heap.size (.slice A' m c') m (ints (orb s m k)) ∧ Below wo.heap.size wo wr) (fun sc _ _ _ => L - sliceLen sc)
      case atStart =>
        refine ⟨1, some ⟨wo.heap.size, 0, none⟩, 1, by omega, hL1, rfl, by rw [lst_one], by rw [HY0.out]; rfl, ?_, below_one _ _⟩
        exact owns_lit wo (k : Int)
      case round =>
        obtain ⟨m, A', c', hm1, hmL, rfl, rfl, rfl, hown, hb2⟩ := hrel
        have hsz2 := hb2.size
        rcases Nat.lt_or_ge m L with hml | hmg
        · have hne : it s m k ≠ k := fun e => orb_apart HL4.out (a := 0) (b := m) (by omega) hml e.symm
          have hys : it s m k < s.length := it_lt HS.out m hlt
          have HW := Lib.hid (show ∀ W, Below wo.heap.size wo W → W.cell? (ad.add (it s m k)) = some (.int .i64 ((it s (m + 1) k : Nat) : Int)) from fun W hW => by
            obtain ⟨ad', y, e, hy, hal', hcy⟩ := Elems.later HE.out (HB.out.trans (hW.mono hsz)) (k := it s m k) (by rw [length_ints]; exact hys)
            cases e
            obtain ⟨rfl, -⟩ := ints_getD hy
            exact hcy)
          have HOS := Lib.hid (ints_orb_succ s m k)
          have HLH := Lib.hid (fun h => lst_hit (p := s) (m := m) (i := k) h)
          have HLM := Lib.hid (fun h => lst_miss (p := s) (m := m) (i := k) h)
          obtain ⟨Y, hY⟩ : ∃ Y, Y = it s m k := ⟨_, rfl⟩
          obtain ⟨Z, hZ⟩ : ∃ Z, Z = it s (m + 1) k := ⟨_, rfl⟩
          rw [← hY] at hne hys HW HOS HLH HLM ⊢
          rw [← hZ] at HW
          have HZ := Lib.hid hZ
          clear hY hZ
          have e1 : ((Y : Int) != (k : Int)) = true := by simp; omega
          clear hne
          by_cases hyk : Y < k
          · have e2 : decide ((Y : Int) < (k : Int)) = true := decide_eq_true (by omega)
            go_wp2_with (at_builtin; refine wpList_append_ints _ rfl rfl _ _ rfl wo.heap.size m _ (ints (orb s m k)) rfl (hown.alloc _) (some ⟨wr.heap.size, 0, none⟩) 1 1 [(Y : Int)] rfl (by simp) (elems_new wr Y) rfl (by omega) (by simp; omega) ?_; intro A4 c4 w4 hown4 hgrow4 hat4; have hb4 := (hb2.alloc hb2.size _).grown hgrow4 (by simp; omega) (fun _ e => (hown.lt e).1); have hcy4 := HW.out _ hb4; have hsz4 := hb4.size)
            go_roundw
            case rel => exact ⟨m + 1, A4, c4, by omega, by omega, rfl, by rw [HLH.out hyk], by rw [HZ.out], by rw [HOS.out] at hown4; exact hown4, hb4⟩
            case measure => simp [sliceLen]; omega
          · have e2 : decide ((Y : Int) < (k : Int)) = false := decide_eq_false (by omega)
            go_wp2_with (at_builtin; refine wpList_append_ints _ rfl rfl _ _ rfl wo.heap.size m _ (ints (orb s m k)) rfl (hown.alloc _) (some ⟨wr.heap.size, 0, none⟩) 1 1 [(Y : Int)] rfl (by simp) (elems_new wr Y) rfl (by omega) (by simp; omega) ?_; intro A4 c4 w4 hown4 hgrow4 hat4; have hb4 := (hb2.alloc hb2.size _).grown hgrow4 (by simp; omega) (fun _ e => (hown.lt e).1); have hcy4 := HW.out _ hb4; have hsz4 := hb4.size)
            go_roundw
            case rel => exact ⟨m + 1, A4, c4, by omega, by omega, rfl, by rw [HLM.out hyk], by rw [HZ.out], by rw [HOS.out] at hown4; exact hown4, hb4⟩
            case measure => simp [sliceLen]; omega
        · obtain rfl : m = L := by omega
          rw [HL3.out, HLA.out]
          have ho3 := ownsRow_below HO.out hb2
          have hr3 := HR.out.imp fun v n xs h => Owns.below h hb2
          have hb3 := HB.out.trans (hb2.mono hsz)
          have hcy : Owns wr w.heap.size (.slice A' m c') (cyc s k).length (ints (cyc s k)) := by rw [HCY.out, orb_length]; exact hown.base hsz
          have hsz3 := hb3.size
          have HR3 := Lib.hid hr3
          have HC3 := Lib.hid hcy
          clear hr3 hcy hown hb2
          cases hle : leastB s k with
          | false =>
            have HM := Lib.hid (cycs_miss hle)
            clear hle
            go_wp2_with fail
            go_roundw
            case rel => exact ⟨k + 1, vs, by omega, by go_num, ho3, by omega, by rw [HM.out]; exact HR3.out, hb3⟩
            case measure => simp [intOf]; omega
          | true =>
            have HM := Lib.hid (cycs_hit hle)
            clear hle
            by_cases h1m : 1 < m
            · have e2 : decide ((1 : Int) < (m : Int)) = true := decide_eq_true (by omega)
              have HLN := Lib.hid (lng_hit (cs := cycs s k) (c := cyc s k) (by rw [HCY.out, orb_length]; exact h1m))
              go_wp2_with (at_builtin; refine wpList_append_own _ rfl _ _ 40 rfl w.heap.size 22 i0 (.slice none 0 0) 1 24 Tryd.underlying40 HI.out HZ0.out HZ1.out HZ2.out rfl (by decide) _ _ _ rfl (ho3.alloc _) ⟨wr.heap.size, 0, none⟩ 1 1 [.slice A' m c'] rfl rfl (cell_one_new _ _ _) (by simp [Value.oneCell']) (by unfold maxLen; omega) (by omega) (by simp; omega) ?_; intro v' w4 hown4 hgrow4 _)
              go_roundw
              case rel =>
                refine ⟨k + 1, vs ++ [.slice A' m c'], by omega, by go_num, by rw [List.length_append]; exact hown4, by simp; omega, ?_, ?_⟩
                · rw [HM.out, HLN.out]
                  exact LRows.add (HR3.out.imp fun v n xs h => (h.alloc (.cells #[.slice A' m c'] 22)).kept hgrow4 ((h.alloc (.cells #[.slice A' m c'] 22)).apart (ho3.alloc (.cells #[.slice A' m c'] 22)))) ((HC3.out.alloc (.cells #[.slice A' m c'] 22)).kept hgrow4 ((HC3.out.alloc (.cells #[.slice A' m c'] 22)).apart (ho3.alloc (.cells #[.slice A' m c'] 22))))
                · exact (hb3.alloc hb3.size _).grown hgrow4 (by have := hb3.size; simp; omega) (fun _ e => (ho3.lt _ e).1)
              case measure => simp [intOf]; omega
            · have e2 : decide ((1 : Int) < (m : Int)) = false := decide_eq_false (by omega)
              have HLN := Lib.hid (lng_miss (cs := cycs s k) (c := cyc s k) (by rw [HCY.out, orb_length]; exact h1m))
              go_wp2_with fail
              go_roundw
              case rel => exact ⟨k + 1, vs, by omega, by go_num, ho3, by omega, by rw [HM.out, HLN.out]; exact HR3.out, hb3⟩
              case measure => simp [intOf]; omega
    · obtain rfl : k = s.length := by omega
      have HV := Lib.hid (isVals_of_owns ho)
      go_wp2_with fail
      go_ret
      exact ⟨_, vs, rfl, HV.out, hrows, hbl⟩

end Go.Proofs.YtajcjipabfknhaaDoor
