/- What the card TopSums leans on: ActScan, ActDrop. Conditions: none but those of its theorems. -/
import Derived.Test.YtihndbkaoejnnaaGreatDoorSumsAJ
import Derived.Test.YtihndbkaoejnnaaGreatDoorSumsAB
import Derived.Test.YtihndbkaoejnnaaGreatDoorSumsZ
import Derived.Test.YtihndbkaoejnnaaGreatDoorSumsA
set_option linter.unusedSimpArgs false
set_option linter.unusedVariables false
namespace Go.Proofs.YtihndbkaoejnnaaGreatDoor
open Go Go.RowKit Go.Proofs.YtihndbkaoejnnaaGreatDoor.P

/-- Sums so far. -/
theorem act_scan {a : Arr} {n : Nat} (h : Ok a [n]) (hc : a.ch = false) (hw : Wf a.da) : ActOne 2 1 0 a ⟨false, a.sh, scan1 1 a.da⟩ :=
  one_along h (fun W => known_over (.inr rfl) (.inl rfl) 0 W) (fun W v hv => scan_vec_new hv h tame_one hc hw)

end Go.Proofs.YtihndbkaoejnnaaGreatDoor

namespace Go.Proofs.YtihndbkaoejnnaaGreatDoor
open Go Go.RowKit Go.Proofs.YtihndbkaoejnnaaGreatDoor.P

/-- All but the last one. -/
theorem act_drop {a : Arr} {n : Nat} (h : Ok a [n]) : ActTwo 0 23 0 ⟨false, [], [-1]⟩ a (drop [-1] a) := by
  have he : dropErr [-1] a = 0 := by unfold dropErr; rw [if_neg (by rw [arrErr_ok h]; simp), if_neg (by rw [rank_one h]; simp)]
  refine two_list (arrErr_ok (ok_num (-1))) (arrErr_ok h) (.inl rfl) (fun W => known_list (.inr (.inl rfl)) 0 W) ?_
  exact list_drop rfl (.inl rfl) (rank_one h) fun W vn v h1 h2 => (drop_new h1 h2).mono fun e w' p => p.ok he
/-- One number ahead. -/
theorem act_comma {a : Arr} {m : Nat} {x : Int} (h : Ok a [m]) (hc : a.ch = false) (hm : m + 1 ≤ 4096) : ActTwo 0 19 0 ⟨false, [], [x]⟩ a ⟨false, [((m + 1 : Nat) : Int)], x :: a.da⟩ := by
  have h1 : Ok ⟨false, [1], [x]⟩ [1] := ⟨rfl, ⟨by simp, by simp, by simp [prod]⟩, by simp [prod], fun e => by cases e⟩
  have he : joinErr 0 ⟨false, [1], [x]⟩ a = 0 := by
    have hs : a.sh = ints [m] := h.sh
    unfold joinErr
    rw [if_neg (by rw [arrErr_ok h1]; simp), if_neg (by rw [arrErr_ok h]; simp), if_neg (by rw [rank_one h]; simp), if_neg (by simp), if_neg, if_neg (by rw [hc]; simp)]
    · rw [hs]
      have : joinSh (0 : Int).toNat [1] (ints [m]) = ints [m + 1] := by simp [joinSh, ints]; omega
      rw [this]
      exact cntErr_ints ⟨by simp, by simp; omega, by simp [prod]; omega⟩
    · rintro ⟨j, h2, h3, -⟩
      simp at h2
      omega
  refine two_both (arrErr_ok (ok_num x)) (arrErr_ok h) (by omega) (fun W => known_list (.inl rfl) 0 W) ?_
  refine both_comma hc (rank_one h) fun W v1 v2 h3 h4 => (join_new h3 h4).mono fun e w' p => ?_
  have p := p.ok he
  rw [show (0 : Int).toNat = 0 from rfl, glue_cons h] at p
  exact p

end Go.Proofs.YtihndbkaoejnnaaGreatDoor
