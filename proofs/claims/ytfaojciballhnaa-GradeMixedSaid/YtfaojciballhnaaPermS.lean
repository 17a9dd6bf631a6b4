/- The walks of Permutation and Backwards. Conditions: none. -/
import Derived.Test.YtfaojciballhnaaAxes
set_option linter.unusedSimpArgs false
set_option linter.unusedVariables false
namespace Go.Proofs.Ytfaojciballhnaa
open Go Go.RowKit Go.Proofs.Ytfaojciballhnaa.P

set_option maxRecDepth 100000 in
set_option maxHeartbeats 1000000 in
theorem permutation_any {v : Value} {p : List Int} {w : World} (hx : IsInts w v p) :
    Calls Try.prog 10 #[v] w (TellsB (IsOrder p) w) := by
  obtain ⟨A, c, rfl, c1, c2, c3, EX, -⟩ := hx.open_
  clear hx
  go_enter Try.func10, Try.ntmps10
  go_wp2_with fail
  go_loopw [3] (fun i wr => ∃ (k : Nat) (u : List Nat), k ≤ p.length ∧ i = .int .i64 k ∧ p.take k = ints u ∧ u.Nodup ∧ (∀ x ∈ u, x < p.length) ∧ Below w.heap.size w wr) (fun i _ => p.length - (intOf i).toNat)
  case atStart => exact ⟨0, [], Nat.zero_le _, rfl, by simp [ints], by simp, by simp, Below.refl _ _⟩
  case round =>
    obtain ⟨k, u, hk, rfl, hu, hn, hr, hbl⟩ := hrel
    rcases Nat.lt_or_ge k p.length with hlt | hge
    · obtain ⟨ad, x, rfl, hxk, hal, hcx⟩ := Elems.later EX hbl hlt
      rcases Int.lt_or_le x 0 with h1 | h1
      · have h1' : decide (x < 0) = true := by simpa using h1
        have he := Lib.hid (show ¬ IsOrder p from fun h => by have := h.2 x (List.mem_of_getElem? hxk); omega)
        clear hxk hu hn hr
        go_wp2_with fail
        go_ret
        exact tells_no rfl he.out hbl
      · have h1' : decide (x < 0) = false := by simp; omega
        rcases Int.lt_or_le x p.length with h2 | h2
        case inr =>
          have h2' : decide ((p.length : Int) ≤ x) = true := by simpa using h2
          have he := Lib.hid (show ¬ IsOrder p from fun h => by have := h.2 x (List.mem_of_getElem? hxk); omega)
          clear hxk hu hn hr
          go_wp2_with fail
          go_ret
          exact tells_no rfl he.out hbl
        obtain ⟨m, rfl⟩ : ∃ m : Nat, x = m := ⟨x.toNat, by omega⟩
        have h2' : decide ((p.length : Int) ≤ (m : Int)) = false := by simp; omega
        have h2'' : decide (p.length ≤ m) = false := by simp; omega
        have h3 : m < p.length := by omega
        have hul : u.length = k := by have := congrArg List.length hu; rw [length_ints, List.length_take] at this; omega
        have HX := Lib.hid hxk
        have HU := Lib.hid hu
        have HN := Lib.hid hn
        have HR := Lib.hid hr
        have HUL := Lib.hid hul
        clear hxk hu hn hr hul
        go_wp2_with fail
        obtain ⟨wo, rfl⟩ : ∃ wo : World, wo = wr := ⟨_, rfl⟩
        clear hcx
        go_loopw [4] (fun i wr => ∃ j : Nat, j ≤ k ∧ i = .int .i64 j ∧ (m ∉ u.take j) ∧ Below w.heap.size w wr) (fun i _ => k - (intOf i).toNat)
        case atStart => exact ⟨0, Nat.zero_le _, rfl, by simp, hbl⟩
        case round =>
          obtain ⟨j, hj, rfl, hm, hbl2⟩ := hrel
          have HM := Lib.hid hm
          clear hm
          rcases Nat.lt_or_ge j k with hjk | hjk
          · obtain ⟨ae, y, e1, hy, hae, hcy⟩ := Elems.later EX hbl2 (k := j) (by omega)
            obtain ⟨af, z, e2, hz, haf, hcz⟩ := Elems.later EX hbl2 (k := k) (by omega)
            cases e1
            cases e2
            have hzm : z = (m : Int) := by have := HX.out; rw [hz] at this; injection this
            subst hzm
            have hju : j < u.length := by rw [HUL.out]; exact hjk
            have hyu : y = ((u.getD j 0 : Nat) : Int) := by
              have h4 : (p.take k)[j]? = some y := by rw [List.getElem?_take, if_pos hjk]; exact hy
              rw [HU.out, ints_get hju] at h4
              injection h4 with h4
              exact h4.symm
            obtain ⟨n, hn⟩ : ∃ n, n = u.getD j 0 := ⟨_, rfl⟩
            rw [← hn] at hyu
            subst hyu
            have htk : u.take (j + 1) = u.take j ++ [n] := by rw [List.take_add_one, List.getElem?_eq_getElem hju, hn, getD_lt hju]; rfl
            have hmem : n ∈ u := by rw [hn, getD_lt hju]; exact List.getElem_mem hju
            have HTK := Lib.hid htk
            have HMM := Lib.hid hmem
            clear hy hz htk hmem hn hju
            by_cases hnm : n = m
            · have hb : ((n : Int) == (m : Int)) = true := by simp; omega
              have he := Lib.hid (twice_not HU.out HX.out (by rw [← hnm]; exact HMM.out))
              clear hnm
              go_wp2_with fail
              go_quiet (fail)
              all_goals go_wp2_with fail
              go_ret
              exact tells_no rfl he.out (hbl2.trans (below_draws _ _ _))
            · have hb : ((n : Int) == (m : Int)) = false := by simp; omega
              have HNM := Lib.hid hnm
              clear hnm
              go_wp2_with fail
              go_quiet (fail)
              all_goals go_wp2_with fail
              go_roundw
              case rel =>
                refine ⟨j + 1, by omega, by go_num, ?_, hbl2.trans (below_draws _ _ _)⟩
                rw [HTK.out, List.mem_append, List.mem_singleton]
                rintro (h | h)
                · exact HM.out h
                · exact HNM.out h.symm
              case measure => simp [intOf]; omega
          · go_wp2_with fail
            go_roundw
            case rel =>
              refine ⟨k + 1, u ++ [m], by omega, by go_num, take_snoc_ints HU.out HX.out, ?_, ?_, hbl2⟩
              · have hm := HM.out
                rw [List.take_of_length_le (by rw [HUL.out]; exact hjk)] at hm
                rw [List.nodup_append]
                exact ⟨HN.out, by simp, fun a ha b hb e => hm (by simp at hb; rw [← hb, ← e]; exact ha)⟩
              · intro y hy
                rcases List.mem_append.1 hy with hy | hy
                · exact HR.out y hy
                · simp at hy; omega
            case measure => simp [intOf]; omega
    · have hkk : k = p.length := by omega
      subst hkk
      rw [List.take_length] at hu
      have he := Lib.hid (show IsOrder p by
        have hl : p.length = u.length := by rw [hu, length_ints]
        rw [hu]
        exact order_ints.2 ⟨hn, fun x hx => by have := hr x hx; omega⟩)
      clear hu hn hr
      go_wp2_with fail
      go_ret
      exact tells_yes rfl he.out hbl

theorem invTo_zero (s : List Nat) (S : List Int) : ∀ j, j < 0 → S[s.getD j 0]? = some (j : Int) := fun j h => by omega
theorem invTo_succ {k : Nat} {s : List Nat} {S : List Int} (h : ∀ j, j < k → S[s.getD j 0]? = some (j : Int)) (hs : Perm s) (hl : S.length = s.length) (hk : k < s.length) : ∀ j, j < k + 1 → (S.set (s.getD k 0) (k : Int))[s.getD j 0]? = some (j : Int) := fun j hj => by
  by_cases e : j = k
  · subst e
    rw [List.getElem?_set_self (by rw [hl]; exact hs.lt hk)]
  · rw [List.getElem?_set_ne (fun h => e (hs.inj hk (by omega) h).symm)]
    exact h j (by omega)
theorem invTo_all {s : List Nat} {S : List Int} (h : ∀ j, j < s.length → S[s.getD j 0]? = some (j : Int)) (hs : Perm s) (hl : S.length = s.length) : S = ints (inv s) := by
  apply List.ext_getElem?
  intro m
  rcases Nat.lt_or_ge m s.length with h1 | h1
  · have := h _ (idx_lt hs h1)
    rw [idx_get hs h1] at this
    rw [this, ints_get (by rw [inv_length]; exact h1), getD_inv h1]
  · rw [List.getElem?_eq_none (by omega), List.getElem?_eq_none (by rw [length_ints, inv_length]; exact h1)]

end Go.Proofs.Ytfaojciballhnaa
