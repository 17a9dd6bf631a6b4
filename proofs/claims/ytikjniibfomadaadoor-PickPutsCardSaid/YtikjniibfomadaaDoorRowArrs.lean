/- A list of arrays that came in, as an argument. Conditions: none. -/
import Derived.Test.YtikjniibfomadaaDoorRow
import Derived.Test.YtikjniibfomadaaDoorPickLaw
import Derived.Deep.SlicePairs
set_option linter.unusedSimpArgs false
set_option linter.unusedVariables false
namespace Go.Proofs.YtikjniibfomadaaDoor
open Go Go.RowKit Go.ChangeShapes Go.WideShapes Go.ChangeAt Go.Deep Go.Proofs.YtikjniibfomadaaDoor.P
variable {H : Type} {enc : TypeId × Value → H}

theorem three_len {α : Type} (f : Nat → List α) (hf : ∀ i, (f i).length = 3) : ∀ len, ((List.range len).flatMap f).length = len * 3
  | 0 => rfl
  | n + 1 => by rw [List.range_succ, List.flatMap_append, List.length_append, three_len f hf n]; simp [hf]; omega
theorem three_at {α : Type} (f : Nat → List α) (hf : ∀ i, (f i).length = 3) : ∀ {len k r : Nat}, k < len → r < 3 → ((List.range len).flatMap f)[k * 3 + r]? = (f k)[r]?
  | 0, k, r, h, _ => by omega
  | n + 1, k, r, h, hr => by
    rw [List.range_succ, List.flatMap_append]
    have hl := three_len f hf n
    rcases Nat.lt_or_ge k n with hk | hk
    · rw [List.getElem?_append_left (by omega)]; exact three_at f hf hk hr
    · have : k = n := by omega
      subst this
      rw [List.getElem?_append_right (by omega), hl, show k * 3 + r - k * 3 = r by omega]
      simp

theorem wAll_mem {P : Program} {e : TypeId} : ∀ {l : List (DataW H)} {d : DataW H}, d ∈ l → ∀ n ∈ d.weights P e, n ∈ DataW.weightsAll P e l
  | c :: l, d, hd, n, hn => by
    simp only [DataW.weightsAll, List.mem_append]
    rcases List.mem_cons.1 hd with rfl | hd
    · exact Or.inl hn
    · exact Or.inr (wAll_mem hd n hn)
instance : Inhabited Arr := ⟨⟨false, [], []⟩⟩

set_option maxRecDepth 100000 in
theorem arrs_of {W : World} {n : Nat} {c : Value} {y : DataW H × List MemPlace} (h : DataW.trod enc Tryd.prog W 0 (fun _ => true) true n 37 [c] = some y)
    (hs : ∀ x ∈ y.1.weights Tryd.prog 37, x ≤ reachBytes) : ∃ bs, IsArrs W c bs := by
  rcases open_slice Tryd.underlying37 h with ⟨hc, _⟩ | ⟨a, len, cap, m, n', Dd, Pl, hc, _, hl, hm, hmm, hx, hall⟩
  · injection hc with hc _
    subst hc
    exact ⟨[], isArrs_nil W⟩
  · injection hc with hc _
    subst hc
    have hmc : m = cap := by simpa using hmm
    subst hmc
    rw [hx] at hs
    have bytes_arr : Tryd.prog.bytesOf 24 = 56 := by kernel_rfl
    simp only [DataW.weights, Tryd.underlying37, List.length_map, List.length_range, bytes_arr, reachBytes] at hs
    have hcap : m * 56 ≤ 140737488351232 := by
      have := hs _ (List.mem_cons_self ..)
      rw [show len + (m - len) = m by omega] at this
      exact this
    have each : ∀ i, i < len → ∃ q : Arr × (Option Addr × Nat) × (Option Addr × Nat), W.cell? (a.add (i * 3)) = some (.bool q.1.ch) ∧ W.cell? (a.add (i * 3 + 1)) = some (.slice q.2.1.1 q.1.sh.length q.2.1.2) ∧
        W.cell? (a.add (i * 3 + 2)) = some (.slice q.2.2.1 q.1.da.length q.2.2.2) ∧ IsInts W (.slice q.2.1.1 q.1.sh.length q.2.1.2) q.1.sh ∧ IsInts W (.slice q.2.2.1 q.1.da.length q.2.2.2) q.1.da := by
      intro i hi
      obtain ⟨cs', h1, h2⟩ := hall i (by omega)
      rw [cells_arr] at h1
      obtain ⟨_, hlen, hcell⟩ := World.cells?_some h1
      obtain ⟨y0, y1, y2, n2, hxy, _, g0, g1, g2⟩ := trod_struct3 Tryd.underlying24 h2
      match cs', hlen with
      | [v0, v1, v2], _ =>
        have e0 := hcell 0 (by omega)
        have e1 := hcell 1 (by omega)
        have e2 := hcell 2 (by omega)
        rw [add_add] at e0 e1 e2
        have cb : Tryd.prog.cellsOf 4 = 1 := by kernel_rfl
        have ci : Tryd.prog.cellsOf 22 = 1 := by kernel_rfl
        simp [cb, ci] at g0 g1 g2
        obtain ⟨b, hb, _⟩ := DataW.trod_bool Tryd.underlying4 g0
        injection hb with hb _
        subst hb
        have hdd : Dd i = .agg [y0.1, y1.1, y2.1] := (Prod.mk.inj hxy).1
        have hw : ∀ w ∈ y1.1.weights Tryd.prog 22 ++ y2.1.weights Tryd.prog 22, w ≤ reachBytes := by
          intro w hw
          refine hs w (List.mem_cons_of_mem _ (List.mem_append_left _ (wAll_mem (d := Dd i) (List.mem_map.2 ⟨i, List.mem_range.2 hi, rfl⟩) w ?_)))
          rw [hdd]
          simp only [DataW.weights, Tryd.underlying24, DataW.weightsEach, List.map_cons, List.map_nil, List.append_nil]
          exact List.mem_append_right _ hw
        have hw1 : ∀ (y : DataW H × List MemPlace), (∀ w ∈ y.1.weights Tryd.prog 22, w ≤ reachBytes) → ∀ elems spare, y.1 = .slice elems spare → (elems.length + spare.length) * 8 ≤ reachBytes := by
          intro y hy elems spare e
          rw [e] at hy
          refine hy _ ?_
          simp [DataW.weights, Tryd.underlying22, bytes_int]
        obtain ⟨xs, hx1, _⟩ := ints_in g1 (hw1 y1 fun w hh => hw w (List.mem_append_left _ hh))
        obtain ⟨zs, hz1, _⟩ := ints_in g2 (hw1 y2 fun w hh => hw w (List.mem_append_right _ hh))
        obtain ⟨S, cs, rfl, -, -, -, -, HS⟩ := hx1.open_
        obtain ⟨D, cd, rfl, -, -, -, -, HD⟩ := hz1.open_
        exact ⟨(⟨b, xs, zs⟩, (S, cs), (D, cd)), by simpa using e0, by simpa using e1, by simpa using e2, HS, HD⟩
    obtain ⟨q, hq⟩ := choose_lt each
    obtain ⟨f, hf⟩ : ∃ f : Nat → List Value, f = fun i => [.bool (q i).1.ch, .slice (q i).2.1.1 (q i).1.sh.length (q i).2.1.2, .slice (q i).2.2.1 (q i).1.da.length (q i).2.2.2] := ⟨_, rfl⟩
    have hf3 : ∀ i, (f i).length = 3 := fun i => by rw [hf]; rfl
    refine ⟨(List.range len).map fun i => (q i).1, some a, m, (List.range len).flatMap f, by simp, by simpa using hl, by unfold maxLen at hm; omega, by simp; omega, (fun e => by cases e), ⟨?_, ?_, ?_⟩, ?_⟩
    · rw [three_len f hf3]; simp
    · intro u hu
      obtain ⟨i, _, hu⟩ := List.mem_flatMap.1 hu
      rw [hf] at hu
      simp only [List.mem_cons, List.not_mem_nil, or_false] at hu
      rcases hu with rfl | rfl | rfl <;> rfl
    · intro k b hk
      rw [List.getElem?_map] at hk
      have hlt : k < len := by
        rcases Nat.lt_or_ge k len with h1 | h1
        · exact h1
        · rw [List.getElem?_eq_none (by simpa using h1)] at hk; simp at hk
      rw [List.getElem?_range hlt] at hk
      simp only [Option.map_some, Option.some.injEq] at hk
      subst hk
      obtain ⟨_, _, _, h4, h5⟩ := hq k hlt
      exact ⟨_, _, _, _, by rw [show k * 3 = k * 3 + 0 by omega, three_at f hf3 hlt (by omega), hf]; rfl, by rw [three_at f hf3 hlt (by omega), hf]; rfl, by rw [three_at f hf3 hlt (by omega), hf]; rfl, h4, h5⟩
    · intro j u hj
      have hjl : j < len * 3 := by
        have := (List.getElem?_eq_some_iff.1 hj).1
        rwa [three_len f hf3] at this
      obtain ⟨k, r, hk, hr, rfl⟩ : ∃ k r, k < len ∧ r < 3 ∧ j = k * 3 + r := ⟨j / 3, j % 3, by omega, by omega, by omega⟩
      rw [three_at f hf3 hk hr, hf] at hj
      obtain ⟨h1, h2, h3, _, _⟩ := hq k hk
      have hcl : W.cell? (a.add (k * 3 + r)) = some u := by
        match r, hr, hj with
        | 0, _, hj => simp at hj; subst hj; exact h1
        | 1, _, hj => simp at hj; subst hj; exact h2
        | 2, _, hj => simp at hj; subst hj; exact h3
      exact ⟨a, rfl, by have := World.block_lt_of_cell? _ _ hcl; rwa [addr_block_add] at this, hcl⟩

set_option maxRecDepth 100000 in
/-- A list of arrays that came in, as an argument. -/
theorem arrs_in {W : World} {ts : List TypeId} {ds : List (DataW H)} {j : Nat} {v : Value} {d : DataW H} {p : List MemPlace} (hv : Value.okWide Tryd.prog W .any 0 37 v)
    (h : DataW.Trod enc Tryd.prog W 0 (fun _ => true) true 37 v d p) (hsz : (DataW.weightsEach Tryd.prog ts ds).all (· ≤ reachBytes) = true) (ht : ts[j]? = some 37) (hd : ds[j]? = some d) :
    ∃ bs, IsArrs W v bs := by
  obtain ⟨a, len, cap, rfl⟩ := okWide_slice Tryd.underlying37 hv
  obtain ⟨fuel, hf⟩ := h
  exact arrs_of hf fun x hx => by
    have := List.all_eq_true.1 hsz x (DataW.weights_mem_each ht hd _ hx)
    simpa using this

end Go.Proofs.YtikjniibfomadaaDoor
