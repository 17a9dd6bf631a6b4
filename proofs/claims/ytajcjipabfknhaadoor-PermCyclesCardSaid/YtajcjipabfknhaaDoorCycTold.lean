/- What perm.Cycles and perm.Sign tell, whatever they are given. Conditions: none. -/
import Derived.Test.YtajcjipabfknhaaDoorRefRounds
import Derived.Test.YtajcjipabfknhaaDoorRefSigned
import Derived.Test.YtajcjipabfknhaaDoorPermTold
set_option linter.unusedSimpArgs false
set_option linter.unusedVariables false
namespace Go.Proofs.YtajcjipabfknhaaDoor
open Go Go.RowKit Go.Proofs.YtajcjipabfknhaaDoor.P

set_option maxHeartbeats 1000000 in
theorem cycles_bad (v : Value) (p : List Int) (w : World) (h1 : IsInts w v p) (h : ordErr p ≠ 0) :
    Calls Tryd.prog 21 #[v] w fun e w' => e = .returned (.tuple #[.slice none 0 0, .iface 23 (.int .i64 (ordErr p))]) ∧ Below w.heap.size w w' := by
  obtain ⟨A, ca, rfl, a1, a2, a3, -, H0⟩ := h1.open_
  have C1 := Lib.hid h
  clear h1 h
  go_enter Tryd.func21, Tryd.ntmps21
  go_wp2_with fail
  refine (pcheck_bad _ _ _ H0 C1.out).mono ?_
  rintro en w1 ⟨rfl, hb1⟩
  go_wp2_with fail
  refine bodyPost_ret (v := .tuple #[.slice none 0 0, .iface 23 (.int .i64 (ordErr p))]) (by simp [results, Tryd.results21, go_sem]) rfl ?_
  exact ⟨rfl, by go_grown⟩

/-- The cycles and the sign that go with an error's number. -/
def cansw (p : List Int) : List (List Nat) := if ordErr p = 0 then lng (cycs (p.map Int.toNat) (p.map Int.toNat).length) else []
def sansw (p : List Int) : Int := if ordErr p = 0 then sgn (p.map Int.toNat) else 0

theorem longs_rows {w : World} {B : Nat} : ∀ (xs : List Cyc), (∀ x ∈ xs, Owns w B x.1 x.2.length (ints x.2)) → LRows w B (longs xs) (lng (xs.map Prod.snd)) := by
  intro xs h
  have key : ∀ (ys : List Cyc), (∀ x ∈ ys, x ∈ xs) → LRows w B (ys.map Prod.fst) (ys.map Prod.snd) := by
    intro ys hy
    refine ⟨by simp, fun j v c hv hc => ?_⟩
    rw [List.getElem?_map] at hv hc
    cases hj : ys[j]? with
    | none => rw [hj] at hv; cases hv
    | some x =>
      rw [hj] at hv hc
      simp at hv hc
      rw [← hv, ← hc]
      exact h x (hy x (List.mem_of_getElem? hj))
  have e : lng (xs.map Prod.snd) = (xs.filter fun x => decide (1 < x.2.length)).map Prod.snd := by
    unfold lng
    rw [List.filter_map]
    rfl
  rw [e]
  exact key _ fun x hx => (List.mem_filter.1 hx).1

theorem cycles_told (v : Value) (p : List Int) (w : World) (h : IsInts w v p) :
    Calls Tryd.prog 21 #[v] w fun e w' => ∃ r vs, e = .returned (.tuple #[r, errV (ordErr p)]) ∧ IsVals w' r vs ∧ LRows w' w.heap.size vs (cansw p) ∧ Below w.heap.size w w' := by
  unfold cansw
  by_cases hk : ordErr p = 0
  · rw [if_pos hk, hk]
    obtain ⟨t, rfl, ht, hl⟩ := ordErr_zero hk
    rw [toNat_ints]
    refine (callsIn_wide.1 (cycles_in Fence.wide 3 rfl (Nat.le_refl _) v t w h ht hl)).mono ?_
    rintro e w' ⟨r, xs, rfl, hv, hS, hO, hb⟩
    refine ⟨r, longs xs, rfl, hv, ?_, hb⟩
    rw [← hS.2.2]
    exact longs_rows xs hO
  · rw [if_neg hk]
    refine (cycles_bad v p w h hk).mono ?_
    rintro e w' ⟨rfl, hb⟩
    refine ⟨_, [], by rw [errV_ne hk]; rfl, ⟨none, 0, rfl, by simp, by omega, fun k x hk => by simp at hk⟩, LRows.nil _ _, hb⟩
theorem sign_told (v : Value) (p : List Int) (w : World) (h : IsInts w v p) :
    Calls Tryd.prog 23 #[v] w fun e w' => e = .returned (.tuple #[.int .i64 (sansw p), errV (ordErr p)]) ∧ Below w.heap.size w w' := by
  unfold sansw
  by_cases hk : ordErr p = 0
  · rw [if_pos hk, hk]
    obtain ⟨t, rfl, ht, hl⟩ := ordErr_zero hk
    rw [toNat_ints]
    exact sign_ok v t w h ht hl
  · rw [if_neg hk, errV_ne hk]
    exact sign_bad v p w h hk
theorem rounds_told (v : Value) (p : List Int) (w : World) (h : IsInts w v p) (hk : ordErr p = 0) :
    Calls Tryd.prog 19 #[v] w fun e w' => ∃ r vs, e = .returned r ∧ IsVals w' r vs ∧ LRows w' w.heap.size vs (cansw p) ∧ Below w.heap.size w w' := by
  unfold cansw
  rw [if_pos hk]
  obtain ⟨t, rfl, ht, hl⟩ := ordErr_zero hk
  rw [toNat_ints]
  exact rrounds_ok v t w h ht hl
theorem signed_told (v : Value) (p : List Int) (w : World) (h : IsInts w v p) (hk : ordErr p = 0) :
    Calls Tryd.prog 20 #[v] w fun e w' => e = .returned (.int .i64 (sansw p)) ∧ Below w.heap.size w w' := by
  unfold sansw
  rw [if_pos hk]
  obtain ⟨t, rfl, ht, hl⟩ := ordErr_zero hk
  rw [toNat_ints]
  exact signed_ok v t w h ht hl

end Go.Proofs.YtajcjipabfknhaaDoor
