/- Plain facts: going on by one cell, from the last axis on. Conditions: none. -/
import Derived.Test.YtajcjipabfknhaaDoorAxis
set_option linter.unusedSimpArgs false
set_option linter.unusedVariables false
namespace Go.Proofs.YtajcjipabfknhaaDoor.P

theorem next_true {n i : Nat} {s a : List Nat} (h : (next s a).2 = true) : next (n :: s) (i :: a) = if i + 1 < n then ((i + 1) :: (next s a).1, false) else (0 :: (next s a).1, true) := by
  rw [next, if_pos h]
theorem next_false {n i : Nat} {s a : List Nat} (h : (next s a).2 = false) : next (n :: s) (i :: a) = (i :: (next s a).1, false) := by
  rw [next, if_neg (by rw [h]; simp)]
theorem next_ahead : ∀ {s1 a1 s2 a2 : List Nat}, a1.length = s1.length → (next s2 a2).2 = false → next (s1 ++ s2) (a1 ++ a2) = (a1 ++ (next s2 a2).1, false)
  | [], [], s2, a2, _, h => by
    simp only [List.nil_append]
    exact Prod.ext rfl h
  | n :: s1, i :: a1, s2, a2, hl, h => by
    have ih := next_ahead (s1 := s1) (a1 := a1) (by simpa using hl) h
    simp only [List.cons_append]
    rw [next_false (by rw [ih]), ih]
  | [], _ :: _, _, _, h, _ => by simp at h
  | _ :: _, [], _, _, h, _ => by simp at h

/-- Behind the first k axes it has come round. -/
def Odo (t ix : List Nat) (k : Nat) (b : List Nat) : Prop := b = ix.take k ++ List.replicate (t.length - k) 0 ∧ (next (t.drop k) (ix.drop k)).2 = true

theorem inside_drop : ∀ {t ix : List Nat} (k : Nat), Inside t ix → Inside (t.drop k) (ix.drop k)
  | t, ix, 0, h => by simpa using h
  | n :: t, i :: ix, k + 1, h => by simpa using inside_drop k h.2
  | [], [], k + 1, _ => by simp [Inside]
  | [], _ :: _, _ + 1, h => h.elim
  | _ :: _, [], _ + 1, h => h.elim

theorem Odo.start {t ix : List Nat} (h : Inside t ix) : Odo t ix t.length ix := by
  have hl := inside_length h
  refine ⟨?_, ?_⟩
  · rw [Nat.sub_self, ← hl]; simp
  · rw [List.drop_length, ← hl, List.drop_length]; rfl

theorem Odo.length {t ix b : List Nat} {k : Nat} (h : Inside t ix) (ho : Odo t ix k b) (hk : k ≤ t.length) : b.length = t.length := by
  have hl := inside_length h
  rw [ho.1]; simp; omega

theorem Odo.get {t ix b : List Nat} {k : Nat} (h : Inside t ix) (ho : Odo t ix (k + 1) b) (hk : k < t.length) : b[k]? = some (ix.getD k 0) := by
  have hl := inside_length h
  rw [ho.1, List.getElem?_append_left (by simp; omega), List.getElem?_take]
  simp [List.getD_eq_getElem?_getD, show k < ix.length by omega]

theorem odo_set {t ix b : List Nat} {k x : Nat} (hl : ix.length = t.length) (hk : k < t.length) (hb : b = ix.take (k + 1) ++ List.replicate (t.length - (k + 1)) 0) :
    b.set k x = ix.take k ++ x :: List.replicate (t.length - (k + 1)) 0 := by
  subst hb
  rw [List.set_append_left _ _ (by simp; omega), List.take_add_one, List.getElem?_eq_getElem (show k < ix.length by omega)]
  rw [List.set_append_right _ _ (by rw [List.length_take]; omega)]
  simp [show min k ix.length = k by omega]

theorem Odo.step {t ix b : List Nat} {k : Nat} (h : Inside t ix) (ho : Odo t ix (k + 1) b) (hk : k < t.length) (hi : t.getD k 0 ≤ ix.getD k 0 + 1) : Odo t ix k (b.set k 0) := by
  have hl := inside_length h
  have hk' : k < ix.length := by omega
  refine ⟨?_, ?_⟩
  · rw [odo_set hl hk ho.1]
    have e : t.length - k = (t.length - (k + 1)) + 1 := by omega
    rw [e, List.replicate_succ]
  · rw [List.drop_eq_getElem_cons hk, List.drop_eq_getElem_cons hk', next_true ho.2, if_neg]
    simp only [List.getD_eq_getElem?_getD, List.getElem?_eq_getElem hk, List.getElem?_eq_getElem hk', Option.getD_some] at hi
    omega

theorem Odo.done {t ix b : List Nat} {k : Nat} (h : Inside t ix) (ho : Odo t ix (k + 1) b) (hk : k < t.length) (hi : ix.getD k 0 + 1 < t.getD k 0) : (next t ix).1 = b.set k (ix.getD k 0 + 1) := by
  have hl := inside_length h
  have hk' : k < ix.length := by omega
  have hin := inside_drop (k + 1) h
  have hr := ((next_spec hin).1 ho.2).2
  have e1 : t = t.take k ++ t[k] :: t.drop (k + 1) := by simp
  have e2 : ix = ix.take k ++ ix[k] :: ix.drop (k + 1) := by simp
  simp only [List.getD_eq_getElem?_getD, List.getElem?_eq_getElem hk, List.getElem?_eq_getElem hk', Option.getD_some] at hi ⊢
  have hn := next_true (n := t[k]) (i := ix[k]) ho.2
  rw [if_pos hi] at hn
  have ha := next_ahead (s1 := t.take k) (a1 := ix.take k) (s2 := t[k] :: t.drop (k + 1)) (a2 := ix[k] :: ix.drop (k + 1)) (by simp; omega) (by rw [hn])
  rw [← e1, ← e2] at ha
  rw [ha, hn, odo_set hl hk ho.1, hr]
  simp

theorem Odo.all {t ix b : List Nat} (h : Inside t ix) (ho : Odo t ix 0 b) : place t ix + 1 = prod t := by
  have h2 := ho.2
  rw [List.drop_zero, List.drop_zero] at h2
  exact ((next_spec h).1 h2).1

/-- The indices of the p-th cell, if there is one. -/
def AtCell (t : List Nat) (p : Nat) (b : List Nat) : Prop := b.length = t.length ∧ (p < prod t → b = coords t p)
theorem AtCell.zero (t : List Nat) : AtCell t 0 (List.replicate t.length 0) := ⟨by simp, fun _ => (coords_zero t).symm⟩
theorem AtCell.last {t b : List Nat} {p : Nat} (hp : p < prod t) (ho : Odo t (coords t p) 0 b) : AtCell t (p + 1) b := by
  have h := coords_inside hp
  have e := ho.all h
  rw [place_coords hp] at e
  exact ⟨ho.length h (Nat.zero_le _), fun h => by omega⟩
theorem AtCell.next {t b : List Nat} {p k : Nat} (hp : p < prod t) (hk : k < t.length) (ho : Odo t (coords t p) (k + 1) b) (hi : (coords t p).getD k 0 + 1 < t.getD k 0) :
    AtCell t (p + 1) (b.set k ((coords t p).getD k 0 + 1)) := by
  have h := coords_inside hp
  refine ⟨by rw [List.length_set]; exact ho.length h (by omega), fun h2 => ?_⟩
  rw [← ho.done h hk hi]
  exact next_coords h2
theorem coords_lt {t : List Nat} {p k : Nat} (hp : p < prod t) (hk : k < t.length) : (coords t p).getD k 0 < t.getD k 0 := (inside_iff.1 (coords_inside hp)).2 k hk

end Go.Proofs.YtajcjipabfknhaaDoor.P
