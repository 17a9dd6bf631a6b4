/- What the law of what is spread and kept uses. Conditions: none. -/
import Derived.Test.YtfemeaehpjajlaaSpreadWalk
namespace Go.Proofs.Ytfemeaehpjajlaa
open Go Go.RowKit Go.Proofs.Ytfemeaehpjajlaa.P

theorem keep_toldN {vm v : Value} {k : Nat} {m : List Int} {a : Arr} {w : World} (hm : IsInts w vm m) (ha : IsArr w v a) : Calls Try.prog 45 #[vm, .int .i64 (k : Int), v] w (Told (keep m k a) (keepErr m k a) w) := by
  have h := keep_told (axis := (k : Int)) hm ha
  rwa [show ((k : Nat) : Int).toNat = k by omega] at h
theorem spread_toldN {vm v : Value} {k : Nat} {m : List Int} {a : Arr} {w : World} (hm : IsInts w vm m) (ha : IsArr w v a) : Calls Try.prog 44 #[vm, .int .i64 (k : Int), v] w (Told (spread m k a) (spreadErr m k a) w) := by
  have h := spread_told (axis := (k : Int)) hm ha
  rwa [show ((k : Nat) : Int).toNat = k by omega] at h

theorem spreadErr_zero {m : List Int} {axis : Int} {a : Arr} (h : spreadErr m axis a = 0) :
    ∃ t k, Ok a t ∧ axis = ((k : Nat) : Int) ∧ k < t.length ∧ Mask m ∧ cnt m m.length = t.getD k 0 ∧ GoodSh (t.set k m.length) := by
  unfold spreadErr at h
  by_cases h1 : arrErr a ≠ 0
  · rw [if_pos h1] at h; exact absurd h h1
  rw [if_neg h1] at h
  obtain ⟨t, ht⟩ := ok_of_arrErr (by simpa using h1)
  have la : a.sh.length = t.length := by rw [ht.sh, length_ints]
  by_cases h2 : axis < 0 ∨ (a.sh.length : Int) ≤ axis
  · rw [if_pos h2] at h; omega
  rw [if_neg h2] at h
  obtain ⟨k, rfl⟩ := Int.eq_ofNat_of_zero_le (show 0 ≤ axis by omega)
  have hk : k < t.length := by omega
  have hkn : ((k : Nat) : Int).toNat = k := by omega
  by_cases h3 : ¬ Mask m
  · rw [if_pos h3] at h; omega
  rw [if_neg h3, hkn] at h
  have hg : a.sh.getD k 0 = ((t.getD k 0 : Nat) : Int) := by
    rw [ht.sh, List.getD_eq_getElem?_getD, ints_get hk]; rfl
  rw [hg] at h
  by_cases h4 : ((cnt m m.length : Nat) : Int) ≠ ((t.getD k 0 : Nat) : Int)
  · rw [if_pos h4] at h; omega
  rw [if_neg h4, ht.sh, show (ints t).set k (m.length : Int) = ints (t.set k m.length) by simp [ints, List.map_set]] at h
  obtain ⟨u, hu, hgu⟩ := cntErr_zero h
  rw [← ints_inj hu] at hgu
  exact ⟨t, k, ht, rfl, hk, by simpa using h3, by omega, hgu⟩

theorem keepErr_ok {m : List Int} {a : Arr} {t : List Nat} {k : Nat} (h : Ok a t) (hk : k < t.length) (hm : m.length = t.getD k 0) (hM : Mask m) : keepErr m k a = 0 := by
  have la : a.sh.length = t.length := by rw [h.sh, length_ints]
  unfold keepErr
  rw [if_neg (by rw [arrErr_ok h]; simp), if_neg (by omega), show ((k : Nat) : Int).toNat = k by omega, h.sh, List.getD_eq_getElem?_getD, ints_get hk]
  rw [if_neg (by simp only [Option.getD_some]; omega), if_neg (by simpa using hM)]

theorem back_plain {m : List Int} {a : Arr} {t : List Nat} {k : Nat} (h : Ok a t) (hk : k < t.length) (hM : Mask m) (hc : cnt m m.length = t.getD k 0) (hg : GoodSh (t.set k m.length)) :
    keepErr m k (spread m k a) = 0 ∧ keepErr (others m) k (spread m k a) = 0 ∧ keep m k (spread m k a) = a ∧ (∀ x ∈ (keep (others m) k (spread m k a)).da, x = fillOf a.ch) ∧
      (keep (others m) k (spread m k a)).da.length + (keep m k (spread m k a)).da.length = (spread m k a).da.length ∧ (spread m k a).da.length ≤ 4096 ∧ m.length ≤ 4096 := by
  have hs := spread_ok h hk hc hg
  have hk' : k < (t.set k m.length).length := by rw [List.length_set]; exact hk
  have hl : m.length = (t.set k m.length).getD k 0 := by rw [getD_set hk]
  refine ⟨keepErr_ok hs hk' hl hM, keepErr_ok hs hk' (by rw [others_length]; exact hl) (others_mask hM), keep_spread h hk hc hg, ?_, ?_, by rw [hs.len]; exact hg.2.2, ?_⟩
  · exact keep_others_spread h hk hc hg hM
  · have := keep_lengths hs hk' hl hM
    omega
  · have h5 : (t.set k m.length)[k]? = some m.length := List.getElem?_set_self hk
    exact hg.2.1 _ (List.mem_of_getElem? h5)

end Go.Proofs.Ytfemeaehpjajlaa
