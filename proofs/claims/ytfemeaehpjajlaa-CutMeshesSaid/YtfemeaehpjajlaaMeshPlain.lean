/- What the law of the meshes uses. Conditions: none. -/
import Derived.Test.YtfemeaehpjajlaaBackPlain
import Derived.Test.YtfemeaehpjajlaaEachAdd
import Derived.Test.YtfemeaehpjajlaaFirsts
namespace Go.Proofs.Ytfemeaehpjajlaa
open Go Go.RowKit Go.Proofs.Ytfemeaehpjajlaa.P

theorem wf_wrap {x : Int} (h : (Lit.int .i64 x).wf = true) : Go.RowKit.wrap64 x = x := by
  have hb : -9223372036854775808 ≤ x ∧ x ≤ 9223372036854775807 := by
    simp [Lit.wf, IntKind.min, IntKind.max, IntKind.bits, IntKind.signed] at h
    omega
  unfold Go.RowKit.wrap64
  omega
theorem spreadErr_ok {m : List Int} {a : Arr} {t : List Nat} {k : Nat} (h : Ok a t) (hk : k < t.length) (hM : Mask m) (hc : cnt m m.length = t.getD k 0) (hg : GoodSh (t.set k m.length)) : spreadErr m k a = 0 := by
  have la : a.sh.length = t.length := by rw [h.sh, length_ints]
  unfold spreadErr
  rw [if_neg (by rw [arrErr_ok h]; simp), if_neg (by omega), if_neg (by simpa using hM), show ((k : Nat) : Int).toNat = k by omega, h.sh, List.getD_eq_getElem?_getD, ints_get hk]
  rw [if_neg (by simp only [Option.getD_some]; omega), show (ints t).set k (m.length : Int) = ints (t.set k m.length) by simp [ints, List.map_set]]
  exact cntErr_ints hg
theorem keepErr_zero {m : List Int} {axis : Int} {a : Arr} (h : keepErr m axis a = 0) : ∃ t k, Ok a t ∧ axis = ((k : Nat) : Int) ∧ k < t.length ∧ m.length = t.getD k 0 ∧ Mask m := by
  unfold keepErr at h
  by_cases h1 : arrErr a ≠ 0
  · rw [if_pos h1] at h; exact absurd h h1
  rw [if_neg h1] at h
  obtain ⟨t, ht⟩ := ok_of_arrErr (by simpa using h1)
  have la : a.sh.length = t.length := by rw [ht.sh, length_ints]
  by_cases h2 : axis < 0 ∨ (a.sh.length : Int) ≤ axis
  · rw [if_pos h2] at h; omega
  rw [if_neg h2] at h
  obtain ⟨k, rfl⟩ := Int.eq_ofNat_of_zero_le (show 0 ≤ axis by omega)
  have hk : k < t.length := by omega
  rw [show ((k : Nat) : Int).toNat = k by omega, ht.sh, List.getD_eq_getElem?_getD, ints_get hk] at h
  simp only [Option.getD_some] at h
  by_cases h3 : (m.length : Int) ≠ ((t.getD k 0 : Nat) : Int)
  · rw [if_pos h3] at h; omega
  rw [if_neg h3] at h
  by_cases h4 : ¬ Mask m
  · rw [if_pos h4] at h; omega
  exact ⟨t, k, ht, rfl, hk, by omega, by simpa using h4⟩

theorem mesh_part {m : List Int} {a : Arr} {t : List Nat} {k : Nat} (h : Ok a t) (hk : k < t.length) (hm : m.length = t.getD k 0) (hM : Mask m) : spreadErr m k (keep m k a) = 0 ∧ Ok (spread m k (keep m k a)) t := by
  have hko := keep_ok h hk hm
  have hk' : k < (t.set k (cnt m m.length)).length := by rw [List.length_set]; exact hk
  have hc : cnt m m.length = (t.set k (cnt m m.length)).getD k 0 := by rw [getD_set hk]
  have hg : GoodSh ((t.set k (cnt m m.length)).set k m.length) := by rw [List.set_set, hm, set_getD]; exact h.good
  refine ⟨spreadErr_ok hko hk' hM hc hg, ?_⟩
  have := spread_ok hko hk' hc hg
  rwa [List.set_set, hm, set_getD] at this

theorem mesh_plain {m : List Int} {a : Arr} {t : List Nat} {k : Nat} (h : Ok a t) (hk : k < t.length) (hm : m.length = t.getD k 0) (hM : Mask m) (hch : a.ch = false) (hw : Wf a.da) :
    keepErr (others m) k a = 0 ∧ spreadErr m k (keep m k a) = 0 ∧ spreadErr (others m) k (keep (others m) k a) = 0 ∧ Ok (spread m k (keep m k a)) t ∧ Ok (spread (others m) k (keep (others m) k a)) t ∧
      (⟨false, (spread m k (keep m k a)).sh, addD (spread m k (keep m k a)).da (spread (others m) k (keep (others m) k a)).da⟩ : Arr) = a ∧ m.length ≤ 4096 := by
  have hmo : (others m).length = t.getD k 0 := by rw [others_length]; exact hm
  have hMo := others_mask hM
  obtain ⟨e1, ou⟩ := mesh_part h hk hm hM
  obtain ⟨e2, ov⟩ := mesh_part h hk hmo hMo
  refine ⟨keepErr_ok h hk hmo hMo, e1, e2, ou, ov, ?_, ?_⟩
  · have oR : Ok (⟨false, (spread m k (keep m k a)).sh, addD (spread m k (keep m k a)).da (spread (others m) k (keep (others m) k a)).da⟩ : Arr) t :=
      ⟨ou.sh, h.good, by simp [addD, ou.len, ov.len], fun e => by cases e⟩
    refine Ok.ext oR h hch.symm fun ix hi => ?_
    have g1 := cell_get oR hi
    have g2 := cell_get ou hi
    have g3 := cell_get ov hi
    have g4 := cell_get h hi
    simp only [addD, List.getElem?_zipWith, g2, g3, Option.some.injEq] at g1
    refine g1.symm.trans ?_
    rw [mesh_cell h hk hm hi, mesh_cell h hk hmo hi, hch]
    have hwx := hw.at_ g4
    have hil : ix.getD k 0 < m.length := by rw [hm]; exact (inside_iff.1 hi).2 k hk
    have hmx : m[ix.getD k 0]? = some (m[ix.getD k 0]'hil) := List.getElem?_eq_getElem hil
    rcases mask_at hM hmx with e | e
    · rw [e] at hmx
      rw [if_neg (by rw [hmx]; simp), if_pos ((others_one hM).2 hmx), show fillOf false = 0 from rfl, Int.zero_add]
      exact wf_wrap hwx
    · rw [e] at hmx
      rw [if_pos hmx, if_neg (by rw [others_one hM, hmx]; simp), show fillOf false = 0 from rfl, Int.add_zero]
      exact wf_wrap hwx
  · rw [hm, getD_lt hk]; exact h.good.2.1 _ (List.getElem_mem _)

end Go.Proofs.Ytfemeaehpjajlaa
