/- Plain facts: the rank of an order, and the order of a rank. Conditions: none. -/
import Derived.Test.YtajcjipabfknhaaDoorPower
import Derived.Test.YtajcjipabfknhaaDoorProper
set_option linter.unusedSimpArgs false
set_option linter.unusedVariables false
namespace Go.Proofs.YtajcjipabfknhaaDoor.P

/-- Below 0, 0, above 0: the first number that differs tells. -/
def cmpn : List Nat → List Nat → Int
  | x :: xs, y :: ys => if x < y then -1 else if y < x then 1 else cmpn xs ys
  | _, _ => 0
theorem cmp_ints : ∀ (p q : List Nat), cmp (ints p) (ints q) = cmpn p q
  | [], [] => rfl
  | [], _ :: _ => rfl
  | _ :: _, [] => rfl
  | x :: xs, y :: ys => by
    have := cmp_ints xs ys
    simp only [ints, List.map_cons, cmp, cmpn] at this ⊢
    rw [this]
    by_cases h1 : x < y
    · rw [if_pos h1, if_pos (by omega)]
    · rw [if_neg h1, if_neg (by omega)]
      by_cases h2 : y < x
      · rw [if_pos h2, if_pos (by omega)]
      · rw [if_neg h2, if_neg (by omega)]

/-- Digits of falling bases: below n, below n - 1, .. -/
def Falls : Nat → List Nat → Prop
  | 0, [] => True
  | n + 1, d :: ds => d ≤ n ∧ Falls n ds
  | _, _ => False
/-- The value of such digits. -/
def lv : List Nat → Nat
  | [] => 0
  | d :: ds => d * fac ds.length + lv ds

theorem falls_length : ∀ {n : Nat} {ds : List Nat}, Falls n ds → ds.length = n
  | 0, [], _ => rfl
  | n + 1, d :: ds, h => by simp [falls_length h.2]
  | 0, _ :: _, h => h.elim
  | n + 1, [], h => h.elim
theorem lv_lt : ∀ {n : Nat} {ds : List Nat}, Falls n ds → lv ds < fac n
  | 0, [], _ => by simp [lv, fac]
  | n + 1, d :: ds, h => by
    have h1 := lv_lt h.2
    have h2 := falls_length h.2
    simp only [lv, fac]
    rw [h2]
    have h3 : (d + 1) * fac n ≤ (n + 1) * fac n := Nat.mul_le_mul_right _ (by have := h.1; omega)
    rw [Nat.add_mul] at h3
    omega
  | 0, _ :: _, h => h.elim
  | n + 1, [], h => h.elim

theorem lv_cmp : ∀ {n : Nat} {ds es : List Nat}, Falls n ds → Falls n es → (lv ds < lv es ↔ cmpn ds es < 0) ∧ (lv ds = lv es ↔ cmpn ds es = 0)
  | 0, [], [], _, _ => by simp [lv, cmpn]
  | n + 1, d :: ds, e :: es, hd, he => by
    have l1 := falls_length hd.2
    have l2 := falls_length he.2
    have b1 := lv_lt hd.2
    have b2 := lv_lt he.2
    obtain ⟨i1, i2⟩ := lv_cmp hd.2 he.2
    simp only [lv, cmpn]
    rw [l1, l2]
    by_cases c1 : d < e
    · rw [if_pos c1]
      have : (d + 1) * fac n ≤ e * fac n := Nat.mul_le_mul_right _ (by omega)
      rw [Nat.add_mul] at this
      constructor <;> constructor <;> intro <;> omega
    · rw [if_neg c1]
      by_cases c2 : e < d
      · rw [if_pos c2]
        have : (e + 1) * fac n ≤ d * fac n := Nat.mul_le_mul_right _ (by omega)
        rw [Nat.add_mul] at this
        constructor <;> constructor <;> intro <;> omega
      · rw [if_neg c2]
        have : d = e := by omega
        subst this
        constructor
        · rw [← i1]; constructor <;> intro <;> omega
        · rw [← i2]; constructor <;> intro <;> omega
  | 0, _ :: _, _, h, _ => h.elim
  | 0, [], _ :: _, _, h => h.elim
  | n + 1, [], _, h, _ => h.elim
  | n + 1, _ :: _, [], _, h => h.elim

/-- The digits of a rank. -/
def lds : Nat → Nat → List Nat
  | 0, _ => []
  | n + 1, k => k / fac n :: lds n (k % fac n)
theorem lds_falls : ∀ {n k : Nat}, k < fac n → Falls n (lds n k)
  | 0, _, _ => trivial
  | n + 1, k, h => by
    have hf := fac_pos n
    simp only [fac] at h
    refine ⟨?_, lds_falls (Nat.mod_lt _ hf)⟩
    have : k / fac n < n + 1 := (Nat.div_lt_iff_lt_mul hf).2 h
    omega
theorem lv_lds : ∀ {n k : Nat}, k < fac n → lv (lds n k) = k
  | 0, k, h => by simp only [fac] at h; simp only [lds, lv]; omega
  | n + 1, k, h => by
    have hf := fac_pos n
    have hl := falls_length (lds_falls (Nat.mod_lt k hf))
    simp only [lds, lv]
    rw [hl, lv_lds (Nat.mod_lt k hf)]
    have := Nat.div_add_mod k (fac n)
    rw [Nat.mul_comm]
    exact this
theorem lds_lv : ∀ {n : Nat} {ds : List Nat}, Falls n ds → lds n (lv ds) = ds
  | 0, [], _ => rfl
  | n + 1, d :: ds, h => by
    have hf := fac_pos n
    have hb := lv_lt h.2
    have hl := falls_length h.2
    simp only [lv, lds]
    rw [hl]
    have e1 : (d * fac n + lv ds) / fac n = d := by
      rw [Nat.mul_comm, Nat.mul_add_div hf, Nat.div_eq_of_lt hb]; rfl
    have e2 : (d * fac n + lv ds) % fac n = lv ds := by
      rw [Nat.mul_comm, Nat.mul_add_mod, Nat.mod_eq_of_lt hb]
    rw [e1, e2, lds_lv h.2]
  | 0, _ :: _, h => h.elim
  | n + 1, [], h => h.elim

/-- Of numbers that are left: which of them; and back. -/
def code : List Nat → List Nat → List Nat
  | _, [] => []
  | l, x :: xs => l.idxOf x :: code (l.erase x) xs
def decode : List Nat → List Nat → List Nat
  | _, [] => []
  | l, d :: ds => l.getD d 0 :: decode (l.eraseIdx d) ds

theorem code_falls : ∀ {l p : List Nat}, p.Perm l → Falls l.length (code l p)
  | l, [], h => by
    have := h.symm.eq_nil
    subst this
    trivial
  | l, x :: xs, h => by
    have hx : x ∈ l := h.mem_iff.1 List.mem_cons_self
    have h2 : xs.Perm (l.erase x) := by
      have := h.erase x
      simpa using this
    have hl := List.length_erase_of_mem hx
    have hp : 0 < l.length := List.length_pos_of_mem hx
    have hi := List.idxOf_lt_length_of_mem hx
    have := code_falls h2
    rw [hl] at this
    obtain ⟨m, hm⟩ : ∃ m, l.length = m + 1 := ⟨l.length - 1, by omega⟩
    rw [hm] at this ⊢
    exact ⟨by omega, this⟩
theorem erase_idx {l : List Nat} {x : Nat} (hx : x ∈ l) : l.eraseIdx (l.idxOf x) = l.erase x := by
  induction l with
  | nil => simp at hx
  | cons y ys ih =>
    by_cases e : y = x
    · subst e; simp
    · have hb : (y == x) = false := by simpa using e
      rw [List.idxOf_cons, hb]
      simp only [cond_false, List.eraseIdx_cons_succ]
      rw [List.erase_cons, hb, ih (by rcases List.mem_cons.1 hx with h | h; exact absurd h.symm e; exact h)]
      simp
theorem decode_code : ∀ {l p : List Nat}, p.Perm l → decode l (code l p) = p
  | l, [], h => rfl
  | l, x :: xs, h => by
    have hx : x ∈ l := h.mem_iff.1 List.mem_cons_self
    have h2 : xs.Perm (l.erase x) := by
      have := h.erase x
      simpa using this
    have hi := List.idxOf_lt_length_of_mem hx
    simp only [code, decode]
    rw [erase_idx hx, decode_code h2]
    congr 1
    simp [List.getD_eq_getElem?_getD, hi]
theorem cons_eraseIdx : ∀ {l : List Nat} {d : Nat} (hd : d < l.length), (l[d] :: l.eraseIdx d).Perm l
  | x :: l, 0, _ => List.Perm.refl _
  | x :: l, d + 1, h => by
    simp only [List.getElem_cons_succ, List.eraseIdx_cons_succ]
    exact (List.Perm.swap _ _ _).trans ((cons_eraseIdx (by simpa using h)).cons x)
  | [], d, h => by simp at h
theorem decode_perm : ∀ {l ds : List Nat}, Falls l.length ds → (decode l ds).Perm l
  | [], [], _ => List.Perm.refl _
  | l, [], h => by
    have := falls_length h
    have : l = [] := List.eq_nil_of_length_eq_zero (by simpa using this.symm)
    subst this
    exact List.Perm.refl _
  | l, d :: ds, h => by
    have hl := falls_length h
    obtain ⟨m, hm⟩ : ∃ m, l.length = m + 1 := ⟨ds.length, by simpa using hl.symm⟩
    rw [hm] at h
    have hd : d < l.length := by have := h.1; omega
    have h2 : Falls (l.eraseIdx d).length ds := by
      rw [List.length_eraseIdx_of_lt hd, hm]
      exact h.2
    simp only [decode]
    have e : l.getD d 0 = l[d] := by simp [List.getD_eq_getElem?_getD, hd]
    rw [e]
    exact ((decode_perm h2).cons _).trans (cons_eraseIdx hd)
theorem code_decode : ∀ {l ds : List Nat}, l.Nodup → Falls l.length ds → code l (decode l ds) = ds
  | l, [], _, _ => rfl
  | l, d :: ds, hn, h => by
    have hl := falls_length h
    obtain ⟨m, hm⟩ : ∃ m, l.length = m + 1 := ⟨ds.length, by simpa using hl.symm⟩
    rw [hm] at h
    have hd : d < l.length := by have := h.1; omega
    have h2 : Falls (l.eraseIdx d).length ds := by
      rw [List.length_eraseIdx_of_lt hd, hm]
      exact h.2
    simp only [decode, code]
    have e : l.getD d 0 = l[d] := by simp [List.getD_eq_getElem?_getD, hd]
    have ei : l.idxOf l[d] = d := hn.idxOf_getElem d hd
    rw [e, ei, ← erase_idx (List.getElem_mem hd), ei, code_decode (hn.sublist (List.eraseIdx_sublist _ _)) h2]

theorem idx_order : ∀ {l : List Nat} {x y : Nat}, l.Pairwise (· < ·) → x ∈ l → y ∈ l → (l.idxOf x < l.idxOf y ↔ x < y)
  | z :: l, x, y, hp, hx, hy => by
    obtain ⟨h1, h2⟩ := List.pairwise_cons.1 hp
    rw [List.idxOf_cons, List.idxOf_cons]
    by_cases ex : z = x
    · by_cases ey : z = y
      · subst ex; subst ey; simp
      · subst ex
        have := h1 y (by rcases List.mem_cons.1 hy with h | h; exact absurd h.symm ey; exact h)
        have hb : (z == y) = false := by simpa using ey
        simp [hb, this]
    · by_cases ey : z = y
      · subst ey
        have := h1 x (by rcases List.mem_cons.1 hx with h | h; exact absurd h.symm ex; exact h)
        have hb : (z == x) = false := by simpa using ex
        simp [hb]
        omega
      · have mx : x ∈ l := by rcases List.mem_cons.1 hx with h | h; exact absurd h.symm ex; exact h
        have my : y ∈ l := by rcases List.mem_cons.1 hy with h | h; exact absurd h.symm ey; exact h
        have := idx_order h2 mx my
        have hb : (z == x) = false := by simpa using ex
        have hb2 : (z == y) = false := by simpa using ey
        simp [hb, hb2, this]
  | [], x, y, _, hx, _ => by simp at hx

theorem cmpn_code : ∀ {l p q : List Nat}, l.Pairwise (· < ·) → p.Perm l → q.Perm l → cmpn (code l p) (code l q) = cmpn p q
  | l, [], q, _, h, h' => by
    have := h.symm.eq_nil
    subst this
    have := h'.eq_nil
    subst this
    rfl
  | l, x :: xs, [], _, h, h' => by
    have := h'.symm.eq_nil
    subst this
    simp at h
  | l, x :: xs, y :: ys, hl, h, h' => by
    have hx : x ∈ l := h.mem_iff.1 List.mem_cons_self
    have hy : y ∈ l := h'.mem_iff.1 List.mem_cons_self
    have h2 : xs.Perm (l.erase x) := by
      have := h.erase x
      simpa using this
    have h3 : ys.Perm (l.erase y) := by
      have := h'.erase y
      simpa using this
    simp only [code, cmpn, idx_order hl hx hy, idx_order hl hy hx]
    by_cases c1 : x < y
    · rw [if_pos c1, if_pos c1]
    · rw [if_neg c1, if_neg c1]
      by_cases c2 : y < x
      · rw [if_pos c2, if_pos c2]
      · rw [if_neg c2, if_neg c2]
        have : x = y := by omega
        subst this
        exact cmpn_code (hl.sublist List.erase_sublist) h2 h3

theorem range_sorted (n : Nat) : (List.range n).Pairwise (· < ·) := List.pairwise_lt_range
theorem range_perm {p : List Nat} {n : Nat} (h : p.Perm (List.range n)) : Perm p ∧ p.length = n := by
  have hl := h.length_eq
  simp at hl
  exact ⟨⟨(h.nodup_iff).2 List.nodup_range, fun x hx => by have := h.mem_iff.1 hx; simp at this; omega⟩, hl⟩

/-- An order's rank; a rank's order. -/
def rank (p : List Nat) : Nat := lv (code (List.range p.length) p)
def unrank (n k : Nat) : List Nat := decode (List.range n) (lds n k)

theorem rank_lt {p : List Nat} (h : Perm p) : rank p < fac p.length := by
  have := lv_lt (code_falls (perm_range h))
  rw [List.length_range] at this
  exact this
theorem unrank_perm {n k : Nat} (h : k < fac n) : Perm (unrank n k) ∧ (unrank n k).length = n :=
  range_perm (decode_perm (by rw [List.length_range]; exact lds_falls h))
theorem rank_unrank {n k : Nat} (h : k < fac n) : rank (unrank n k) = k := by
  unfold rank
  rw [(unrank_perm h).2]
  unfold unrank
  rw [code_decode List.nodup_range (by rw [List.length_range]; exact lds_falls h), lv_lds h]
theorem unrank_rank {p : List Nat} (h : Perm p) : unrank p.length (rank p) = p := by
  unfold unrank rank
  have := code_falls (perm_range h)
  rw [List.length_range] at this
  rw [lds_lv this, decode_code (perm_range h)]
theorem rank_cmp {p q : List Nat} (hp : Perm p) (hq : Perm q) (hl : p.length = q.length) : (rank p < rank q ↔ cmpn p q < 0) ∧ (rank p = rank q ↔ cmpn p q = 0) := by
  have h1 := perm_range hp
  have h2 := perm_range hq
  rw [← hl] at h2
  unfold rank
  rw [← hl, ← cmpn_code (range_sorted _) h1 h2]
  exact lv_cmp (code_falls h1) (code_falls h2)

end Go.Proofs.YtajcjipabfknhaaDoor.P
