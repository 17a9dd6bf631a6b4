/- Plain facts on shapes, indices of cells and places of cells: no program in sight. Conditions: none. -/
set_option linter.unusedSimpArgs false
set_option linter.unusedVariables false
namespace Go.Proofs.YtajcjipabfknhaaDoor.P

/-- How many cells a shape has. -/
def prod : List Nat → Nat
  | [] => 1
  | n :: s => n * prod s

/-- The place of a cell, the last axis fastest. -/
def place : List Nat → List Nat → Nat
  | _ :: s, i :: a => i * prod s + place s a
  | _, _ => 0

/-- Are these the indices of a cell? -/
def Inside : List Nat → List Nat → Prop
  | [], [] => True
  | n :: s, i :: a => i < n ∧ Inside s a
  | _, _ => False

/-- The indices of a place. -/
def coords : List Nat → Nat → List Nat
  | [], _ => []
  | _ :: s, p => p / prod s :: coords s (p % prod s)

theorem inside_length : ∀ {s a : List Nat}, Inside s a → a.length = s.length
  | [], [], _ => rfl
  | _ :: _, _ :: _, h => by simp [inside_length h.2]
  | [], _ :: _, h => h.elim
  | _ :: _, [], h => h.elim

theorem length_coords : ∀ (s : List Nat) (p : Nat), (coords s p).length = s.length
  | [], _ => rfl
  | _ :: s, p => by simp [coords, length_coords s]

theorem place_lt : ∀ {s a : List Nat}, Inside s a → place s a < prod s
  | [], [], _ => by simp [place, prod]
  | n :: s, i :: a, h => by
    have h1 := place_lt h.2
    have h2 : (i + 1) * prod s ≤ n * prod s := Nat.mul_le_mul_right _ h.1
    simp only [place, prod]
    rw [Nat.add_mul] at h2
    omega
  | [], _ :: _, h => h.elim
  | _ :: _, [], h => h.elim

theorem coords_inside : ∀ {s : List Nat} {p : Nat}, p < prod s → Inside s (coords s p)
  | [], _, _ => trivial
  | n :: s, p, h => by
    simp only [prod] at h
    have hp : 0 < prod s := by
      rcases Nat.eq_zero_or_pos (prod s) with h0 | h0
      · rw [h0] at h; omega
      · exact h0
    exact ⟨(Nat.div_lt_iff_lt_mul hp).2 h, coords_inside (Nat.mod_lt _ hp)⟩

theorem place_coords : ∀ {s : List Nat} {p : Nat}, p < prod s → place s (coords s p) = p
  | [], p, h => by simp [prod] at h; simp [place, h]
  | n :: s, p, h => by
    simp only [prod] at h
    have hp : 0 < prod s := by
      rcases Nat.eq_zero_or_pos (prod s) with h0 | h0
      · rw [h0] at h; omega
      · exact h0
    simp only [place, coords]
    rw [place_coords (Nat.mod_lt _ hp)]
    exact Nat.div_add_mod' p (prod s)

theorem coords_place : ∀ {s a : List Nat}, Inside s a → coords s (place s a) = a
  | [], [], _ => rfl
  | n :: s, i :: a, h => by
    have h1 := place_lt h.2
    simp only [place, coords]
    have e1 : (i * prod s + place s a) / prod s = i := by
      rw [Nat.mul_comm, Nat.mul_add_div (by omega), Nat.div_eq_of_lt h1]; rfl
    have e2 : (i * prod s + place s a) % prod s = place s a := by
      rw [Nat.mul_comm, Nat.mul_add_mod, Nat.mod_eq_of_lt h1]
    rw [e1, e2, coords_place h.2]
  | [], _ :: _, h => h.elim
  | _ :: _, [], h => h.elim

theorem place_inj {s a b : List Nat} (ha : Inside s a) (hb : Inside s b) (h : place s a = place s b) : a = b := by
  rw [← coords_place ha, ← coords_place hb, h]

theorem prod_append : ∀ (s t : List Nat), prod (s ++ t) = prod s * prod t
  | [], t => by simp [prod]
  | n :: s, t => by simp [prod, prod_append s t, Nat.mul_assoc]

theorem place_append : ∀ {s a : List Nat} (t b : List Nat), a.length = s.length → place (s ++ t) (a ++ b) = place s a * prod t + place t b
  | [], [], t, b, _ => by simp [place]
  | n :: s, i :: a, t, b, h => by
    simp only [List.cons_append, place]
    rw [place_append t b (by simpa using h), prod_append]
    rw [Nat.add_mul, Nat.mul_assoc]
    omega
  | [], _ :: _, _, _, h => by simp at h
  | _ :: _, [], _, _, h => by simp at h

theorem inside_append : ∀ {s a : List Nat} (t b : List Nat), a.length = s.length → (Inside (s ++ t) (a ++ b) ↔ Inside s a ∧ Inside t b)
  | [], [], t, b, _ => by simp [Inside]
  | n :: s, i :: a, t, b, h => by
    simp only [List.cons_append, Inside]
    rw [inside_append t b (by simpa using h), and_assoc]
  | [], _ :: _, _, _, h => by simp at h
  | _ :: _, [], _, _, h => by simp at h

theorem inside_iff : ∀ {s a : List Nat}, Inside s a ↔ a.length = s.length ∧ ∀ k, k < s.length → a.getD k 0 < s.getD k 0
  | [], [] => by simp [Inside]
  | n :: s, i :: a => by
    simp only [Inside]
    rw [inside_iff (s := s)]
    constructor
    · rintro ⟨h1, h2, h3⟩
      refine ⟨by simp [h2], fun k hk => ?_⟩
      rcases k with _ | k
      · simpa using h1
      · simpa using h3 k (by simpa using hk)
    · rintro ⟨h1, h2⟩
      refine ⟨by simpa using h2 0 (by simp), by simpa using h1, fun k hk => ?_⟩
      simpa using h2 (k + 1) (by simpa using hk)
  | [], _ :: _ => by simp [Inside]
  | _ :: _, [] => by simp [Inside]

theorem inside_set {s a : List Nat} (h : Inside s a) {k x : Nat} (hx : x < s.getD k 0) : Inside s (a.set k x) := by
  rw [inside_iff] at h ⊢
  refine ⟨by simp [h.1], fun j hj => ?_⟩
  by_cases hjk : k = j
  · subst hjk
    simp only [List.getD_eq_getElem?_getD, List.getElem?_set] at hx ⊢
    simp only [if_true, h.1, hj, Option.getD_some]
    exact hx
  · have := h.2 j hj
    simp only [List.getD_eq_getElem?_getD, List.getElem?_set] at this ⊢
    simpa [hjk] using this

theorem inside_zero {s : List Nat} (h : 0 < prod s) : Inside s (List.replicate s.length 0) := by
  rw [inside_iff]
  refine ⟨by simp, fun k hk => ?_⟩
  have hpos : ∀ (s : List Nat), 0 < prod s → ∀ k, k < s.length → 0 < s.getD k 0 := by
    intro s
    induction s with
    | nil => intro _ k hk; simp at hk
    | cons n s ih =>
      intro h k hk
      simp only [prod] at h
      rcases k with _ | k
      · simpa using Nat.pos_of_mul_pos_right h
      · simpa using ih (Nat.pos_of_mul_pos_left h) k (by simpa using hk)
  have h1 := hpos s h k hk
  simp only [List.getD_eq_getElem?_getD, List.getElem?_replicate, hk, if_true, Option.getD_some]
  simpa using h1

/-- The place, as it is reckoned from the first axis on. -/
theorem foldl_place : ∀ {s a : List Nat} (p : Nat), a.length = s.length → (s.zip a).foldl (fun p x => p * x.1 + x.2) p = p * prod s + place s a
  | [], [], p, _ => by simp [prod, place]
  | n :: s, i :: a, p, h => by
    simp only [List.zip_cons_cons, List.foldl_cons, prod, place]
    rw [foldl_place _ (by simpa using h), Nat.add_mul, Nat.mul_assoc]
    omega
  | [], _ :: _, _, h => by simp at h
  | _ :: _, [], _, h => by simp at h

/-- One further; true: it has come round. -/
def next : List Nat → List Nat → List Nat × Bool
  | n :: s, i :: a =>
    if (next s a).2 then if i + 1 < n then ((i + 1) :: (next s a).1, false) else (0 :: (next s a).1, true)
    else (i :: (next s a).1, false)
  | _, _ => ([], true)

theorem length_next : ∀ {s a : List Nat}, a.length = s.length → (next s a).1.length = s.length
  | [], [], _ => rfl
  | n :: s, i :: a, h => by
    have ih := length_next (s := s) (a := a) (by simpa using h)
    unfold next
    split
    · split <;> simp [ih]
    · simp [ih]
  | [], _ :: _, h => by simp at h
  | _ :: _, [], h => by simp at h

theorem next_spec : ∀ {s a : List Nat}, Inside s a →
    ((next s a).2 = true → place s a + 1 = prod s ∧ (next s a).1 = List.replicate s.length 0) ∧
    ((next s a).2 = false → Inside s (next s a).1 ∧ place s (next s a).1 = place s a + 1)
  | [], [], _ => by simp [next, place, prod]
  | n :: s, i :: a, h => by
    obtain ⟨i1, i2⟩ := next_spec h.2
    have hl := place_lt h.2
    unfold next
    by_cases hc : (next s a).2 = true
    · obtain ⟨e1, e2⟩ := i1 hc
      rw [if_pos hc]
      by_cases hi : i + 1 < n
      · rw [if_pos hi]
        refine ⟨fun h => by simp at h, fun _ => ⟨⟨hi, ?_⟩, ?_⟩⟩
        · rw [e2]; exact inside_zero (by omega)
        · simp only [place]
          have e3 : place s (next s a).1 = 0 := by
            rw [e2]
            have hz : ∀ s : List Nat, place s (List.replicate s.length 0) = 0 := by
              intro s
              induction s with
              | nil => rfl
              | cons n s ih => simp [place, List.replicate_succ, ih]
            exact hz s
          rw [e3, Nat.add_mul]
          omega
      · rw [if_neg hi]
        refine ⟨fun _ => ⟨?_, ?_⟩, fun h => by simp at h⟩
        · have : n = i + 1 := by have := h.1; omega
          subst this
          simp only [place, prod]
          rw [Nat.add_mul]
          omega
        · simp [e2, List.replicate_succ]
    · rw [if_neg hc]
      have hc' : (next s a).2 = false := by simpa using hc
      obtain ⟨e1, e2⟩ := i2 hc'
      refine ⟨fun h => by simp at h, fun _ => ⟨⟨h.1, e1⟩, ?_⟩⟩
      simp only [place]
      omega
  | [], _ :: _, h => h.elim
  | _ :: _, [], h => h.elim

theorem coords_zero : ∀ (s : List Nat), coords s 0 = List.replicate s.length 0
  | [] => rfl
  | n :: s => by simp [coords, coords_zero s, List.replicate_succ]

theorem next_coords {s : List Nat} {p : Nat} (h : p + 1 < prod s) : (next s (coords s p)).1 = coords s (p + 1) := by
  have hp : p < prod s := by omega
  have hi := coords_inside hp
  have e := place_coords hp
  have hn := next_spec hi
  by_cases hc : (next s (coords s p)).2 = true
  · have := (hn.1 hc).1
    omega
  · obtain ⟨h1, h2⟩ := hn.2 (by simpa using hc)
    refine place_inj h1 (coords_inside h) ?_
    rw [h2, e, place_coords h]

end Go.Proofs.YtajcjipabfknhaaDoor.P
