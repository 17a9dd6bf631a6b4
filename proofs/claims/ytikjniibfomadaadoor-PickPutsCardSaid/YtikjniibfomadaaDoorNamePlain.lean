/- Plain facts: the place that each cell of some indices names. Conditions: none. -/
import Derived.Test.YtikjniibfomadaaDoorPickPlain
set_option linter.unusedSimpArgs false
set_option linter.unusedVariables false
namespace Go.Proofs.YtikjniibfomadaaDoor.P

/-- The shape of some indices, in natural numbers. -/
def shs (bs : List Arr) : List Nat := bs.flatMap (·.nsh)
/-- What the indices name, for one cell of theirs. -/
def frs : List Arr → List Nat → List Nat
  | [], _ => []
  | b :: bs, ix => (b.da.getD (place b.nsh (ix.take b.sh.length)) 0).toNat :: frs bs (ix.drop b.sh.length)

theorem shs_ints {bs : List Arr} (hg : ∀ b ∈ bs, ∃ s, Ok b s) : catSh bs = ints (shs bs) := by
  induction bs with
  | nil => rfl
  | cons b l ih =>
    obtain ⟨s, hs⟩ := hg b List.mem_cons_self
    show b.sh ++ catSh l = ints (b.nsh ++ shs l)
    rw [ih fun x hx => hg x (List.mem_cons_of_mem _ hx), hs.nsh_eq, hs.sh]
    simp [ints]
theorem shs_prod {bs : List Arr} (hg : ∀ b ∈ bs, ∃ s, Ok b s) : prod (shs bs) = prodLen bs := by
  induction bs with
  | nil => rfl
  | cons b l ih =>
    obtain ⟨s, hs⟩ := hg b List.mem_cons_self
    show prod (b.nsh ++ shs l) = b.da.length * prodLen l
    rw [prod_append, ih fun x hx => hg x (List.mem_cons_of_mem _ hx), hs.nsh_eq, hs.len]
theorem frs_length : ∀ (bs : List Arr) (ix : List Nat), (frs bs ix).length = bs.length
  | [], _ => rfl
  | b :: bs, ix => by simp [frs, frs_length bs]
/-- Of the indices of a cell those of the k-th array. -/
def chunk (bs : List Arr) (ix : List Nat) (k : Nat) (b : Arr) : List Nat := (ix.drop (catSh (bs.take k)).length).take b.sh.length
theorem frs_at : ∀ {bs : List Arr} {ix : List Nat} {k : Nat} {b : Arr}, bs[k]? = some b → (frs bs ix).getD k 0 = (b.da.getD (place b.nsh (chunk bs ix k b)) 0).toNat
  | c :: bs, ix, 0, b, h => by
    simp at h
    subst h
    simp [frs, chunk, catSh]
  | c :: bs, ix, k + 1, b, h => by
    have h' : bs[k]? = some b := by simpa using h
    have := frs_at (ix := ix.drop c.sh.length) h'
    unfold chunk at this ⊢
    simp only [frs, List.take_succ_cons]
    rw [show catSh (c :: bs.take k) = c.sh ++ catSh (bs.take k) from rfl, List.length_append, ← List.drop_drop, ← this]
    rfl
theorem chunk_inside : ∀ {bs : List Arr} {ix : List Nat} {k : Nat} {b : Arr}, (∀ b ∈ bs, ∃ s, Ok b s) → Inside (shs bs) ix → bs[k]? = some b → Inside b.nsh (chunk bs ix k b)
  | c :: bs, ix, k, b, hg, hi, h => by
    obtain ⟨s, hs⟩ := hg c List.mem_cons_self
    have hl : c.sh.length = c.nsh.length := by rw [hs.sh, length_ints, hs.nsh_eq]
    have hlen := inside_length hi
    have e : shs (c :: bs) = c.nsh ++ shs bs := rfl
    rw [e] at hi hlen
    rw [List.length_append] at hlen
    have h1 : (ix.take c.sh.length).length = c.nsh.length := by rw [List.length_take]; omega
    rw [show ix = ix.take c.sh.length ++ ix.drop c.sh.length from (List.take_append_drop _ _).symm] at hi
    obtain ⟨h2, h3⟩ := (inside_append _ _ h1).1 hi
    cases k with
    | zero =>
      simp at h
      subst h
      simpa [chunk, catSh] using h2
    | succ k =>
      have h' : bs[k]? = some b := by simpa using h
      have := chunk_inside (fun x hx => hg x (List.mem_cons_of_mem _ hx)) h3 h'
      unfold chunk at this ⊢
      rw [List.take_succ_cons, show catSh (c :: bs.take k) = c.sh ++ catSh (bs.take k) from rfl, List.length_append, ← List.drop_drop]
      exact this
theorem frs_inside {t : List Nat} {bs : List Arr} {ix : List Nat} (hl : bs.length = t.length) (hg : ∀ b ∈ bs, ∃ s, Ok b s) (hi : idxBad t bs = false) (h : Inside (shs bs) ix) : Inside t (frs bs ix) := by
  rw [inside_iff]
  refine ⟨by rw [frs_length, hl], fun k hk => ?_⟩
  obtain ⟨b, hb⟩ : ∃ b, bs[k]? = some b := ⟨_, List.getElem?_eq_getElem (by omega)⟩
  obtain ⟨s, hs⟩ := hg b (List.mem_of_getElem? hb)
  rw [frs_at hb]
  have hp := place_lt (chunk_inside hg h hb)
  rw [hs.nsh_eq, ← hs.len] at hp
  rw [hs.nsh_eq]
  have hm : b.da.getD (place s (chunk bs ix k b)) 0 ∈ b.da := by
    rw [List.getD_eq_getElem?_getD, List.getElem?_eq_getElem hp]
    exact List.getElem_mem hp
  obtain ⟨i0, i1⟩ := idxs_of hi (k + 1) k b (t.getD k 0) (by omega) hb (by rw [List.getD_eq_getElem?_getD, List.getElem?_eq_getElem hk]; rfl) _ hm
  omega

theorem fold_flat : ∀ {t : List Nat} {bs : List Arr} (Q : List Int), bs.length = t.length → (t.zip bs).foldl (fun Q p => stepAt Q p.1 p.2.da) Q = Q.flatMap fun q => (placesOf t bs).map fun r => q * (prod t : Int) + r
  | [], [], Q, _ => by simp [placesOf, prod, List.flatMap_singleton']
  | n :: t, b :: bs, Q, h => by
    have hl : bs.length = t.length := by simpa using h
    have e : placesOf (n :: t) (b :: bs) = (stepAt [0] n b.da).flatMap fun q => (placesOf t bs).map fun r => q * (prod t : Int) + r := by
      show ((n :: t).zip (b :: bs)).foldl (fun Q p => stepAt Q p.1 p.2.da) [0] = _
      rw [List.zip_cons_cons, List.foldl_cons, fold_flat _ hl]
    rw [List.zip_cons_cons, List.foldl_cons, fold_flat _ hl, e]
    unfold stepAt
    rw [List.flatMap_assoc]
    congr 1
    funext q
    simp only [List.flatMap_cons, List.flatMap_nil, List.append_nil, List.flatMap_map, List.map_flatMap, List.map_map]
    congr 1
    funext i
    congr 1
    funext r
    simp only [Function.comp, prod, Int.natCast_mul, Int.add_mul, Int.mul_assoc, Int.zero_mul, Int.zero_add, Int.add_assoc]
  | [], _ :: _, _, h => by simp at h
  | _ :: _, [], _, h => by simp at h
theorem places_cons {n : Nat} {t : List Nat} {b : Arr} {bs : List Arr} (hl : bs.length = t.length) : placesOf (n :: t) (b :: bs) = b.da.flatMap fun i => (placesOf t bs).map fun r => i * (prod t : Int) + r := by
  show ((n :: t).zip (b :: bs)).foldl (fun Q p => stepAt Q p.1 p.2.da) [0] = _
  rw [List.zip_cons_cons, List.foldl_cons, fold_flat _ hl]
  simp [stepAt, List.flatMap_map]
theorem flat_at {f : Int → List Int} {L : Nat} : ∀ {d : List Int} {j r : Nat} {i : Int}, (∀ i, (f i).length = L) → d[j]? = some i → r < L → (d.flatMap f)[j * L + r]? = (f i)[r]?
  | x :: d, 0, r, i, hf, h, hr => by
    simp at h
    subst h
    rw [List.flatMap_cons, Nat.zero_mul, Nat.zero_add, List.getElem?_append_left (by rw [hf]; exact hr)]
  | x :: d, j + 1, r, i, hf, h, hr => by
    have h' : d[j]? = some i := by simpa using h
    rw [List.flatMap_cons, List.getElem?_append_right (by rw [hf, Nat.add_mul, Nat.one_mul]; omega), hf, Nat.add_mul, Nat.one_mul, show j * L + L + r - L = j * L + r by omega]
    exact flat_at hf h' hr
  | [], j, r, i, hf, h, hr => by simp at h
theorem places_at : ∀ {t : List Nat} {bs : List Arr} {ix : List Nat}, bs.length = t.length → (∀ b ∈ bs, ∃ s, Ok b s) → (∀ b ∈ bs, ∀ i ∈ b.da, 0 ≤ i) → Inside (shs bs) ix → (placesOf t bs)[place (shs bs) ix]? = some ((place t (frs bs ix) : Nat) : Int)
  | [], [], ix, _, _, _, _ => by simp [placesOf, shs, place, frs]
  | n :: t, b :: bs, ix, h, hg, h0, hi => by
    have hl : bs.length = t.length := by simpa using h
    obtain ⟨s, hs⟩ := hg b List.mem_cons_self
    have hg' : ∀ x ∈ bs, ∃ s, Ok x s := fun x hx => hg x (List.mem_cons_of_mem _ hx)
    have hsl : b.sh.length = b.nsh.length := by rw [hs.sh, length_ints, hs.nsh_eq]
    have hlen := inside_length hi
    have e : shs (b :: bs) = b.nsh ++ shs bs := rfl
    rw [e] at hi hlen ⊢
    rw [List.length_append] at hlen
    have h1 : (ix.take b.sh.length).length = b.nsh.length := by rw [List.length_take]; omega
    have hix : ix = ix.take b.sh.length ++ ix.drop b.sh.length := (List.take_append_drop _ _).symm
    rw [hix] at hi
    obtain ⟨h2, h3⟩ := (inside_append _ _ h1).1 hi
    have ih := places_at hl hg' (fun x hx => h0 x (List.mem_cons_of_mem _ hx)) h3
    have hp := place_lt h2
    rw [hs.nsh_eq, ← hs.len] at hp
    have hpl : place (b.nsh ++ shs bs) ix = place b.nsh (ix.take b.sh.length) * prod (shs bs) + place (shs bs) (ix.drop b.sh.length) := by
      have := place_append (s := b.nsh) (a := ix.take b.sh.length) (shs bs) (ix.drop b.sh.length) h1
      rwa [← hix] at this
    have hL : (placesOf t bs).length = prod (shs bs) := by
      rw [← placesTo_all (Nat.le_refl _), placesTo_len hl (Nat.le_refl _), List.take_length, shs_prod hg']
    obtain ⟨i, hdi⟩ : ∃ i, b.da[place b.nsh (ix.take b.sh.length)]? = some i := ⟨_, List.getElem?_eq_getElem (by rw [hs.nsh_eq]; exact hp)⟩
    have hi0 := h0 b List.mem_cons_self i (List.mem_of_getElem? hdi)
    rw [places_cons hl, hpl, flat_at (L := prod (shs bs)) (fun i => by rw [List.length_map, hL]) hdi (place_lt h3), List.getElem?_map, ih]
    simp only [frs, place, Option.map_some]
    rw [List.getD_eq_getElem?_getD, hdi]
    congr 1
    simp only [Option.getD_some, Int.natCast_add, Int.natCast_mul]
    rw [Int.toNat_of_nonneg hi0]
  | [], _ :: _, _, h, _, _, _ => by simp at h
  | _ :: _, [], _, h, _, _, _ => by simp at h
/-- The i-th place that indices name. -/
theorem places_get {t : List Nat} {bs : List Arr} {i : Nat} (hl : bs.length = t.length) (hg : ∀ b ∈ bs, ∃ s, Ok b s) (hi : idxBad t bs = false) (h : i < prod (shs bs)) :
    (placesOf t bs)[i]? = some ((place t (frs bs (coords (shs bs) i)) : Nat) : Int) := by
  have h1 := coords_inside h
  have h2 := places_at hl hg (fun b hb x hx => by
    obtain ⟨k, hk⟩ := List.getElem?_of_mem hb
    have hlt := (List.getElem?_eq_some_iff.1 hk).1
    exact (idxs_of hi (k + 1) k b (t.getD k 0) (by omega) hk (by rw [List.getD_eq_getElem?_getD, List.getElem?_eq_getElem (by omega)]; rfl) x hx).1) h1
  rwa [place_coords h] at h2

end Go.Proofs.YtikjniibfomadaaDoor.P
