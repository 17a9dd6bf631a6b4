/- Plain facts: flipped and reversed. Conditions: none. -/
import Derived.Test.YtfemeaehpjajlaaFlip
namespace Go.Proofs.Ytfemeaehpjajlaa.P

theorem aft_set {ix q : List Nat} {k x : Nat} (hq : Perm q) (hl : ix.length = q.length) (hk : k < q.length) : aft (ix.set (q.getD k 0) x) q = (aft ix q).set k x := by
  have hqk := hq.lt hk
  apply ext_getD (by rw [aft_length, List.length_set, aft_length])
  intro j hj
  rw [aft_length] at hj
  rw [getD_aft hj]
  by_cases e : k = j
  · subst e
    rw [getD_set (by omega), getD_set (by rw [aft_length]; exact hk)]
  · have e2 : q.getD k 0 ≠ q.getD j 0 := fun h => e (hq.inj hk hj h)
    rw [getD_set_ne e2, getD_set_ne e, getD_aft hj]

theorem flip_pull {a : Arr} {t q : List Nat} {k : Nat} {f : Nat → Nat} (h : Ok a t) (hq : Perm q) (hl : q.length = t.length) (hk : k < q.length) (hf : ∀ i, i < t.getD k 0 → f i < t.getD k 0) :
    flip q (pull k f a) = pull (q.getD k 0) f (flip q a) := by
  have hp := pull_ok h (k := k) hf
  have hfl := flip_ok h hq hl
  rw [show flip q (pull k f a) = tab (pull k f a).ch (flipSh q (pull k f a).nsh) fun ix => (pull k f a).cell (aft ix q) from rfl, hp.nsh_eq]
  rw [show pull (q.getD k 0) f (flip q a) = tab (flip q a).ch (flip q a).nsh fun ix => (flip q a).cell (ix.set (q.getD k 0) (f (ix.getD (q.getD k 0) 0))) from rfl, hfl.nsh_eq]
  refine tab_congr fun ix hi => ?_
  have hil : ix.length = q.length := by rw [inside_length hi, flipSh_length]
  have hin := aft_inside hq hl hi
  have hqk := hq.lt hk
  have hx : ix.getD (q.getD k 0) 0 < t.getD k 0 := by
    have := (inside_iff.1 hi).2 (q.getD k 0) (by rw [flipSh_length]; exact hqk)
    rwa [flipSh_at hq hk] at this
  have hset : Inside (flipSh q t) (ix.set (q.getD k 0) (f (ix.getD (q.getD k 0) 0))) := inside_set hi (by rw [flipSh_at hq hk]; exact hf _ hx)
  have e1 : (pull k f a).cell (aft ix q) = a.cell ((aft ix q).set k (f ((aft ix q).getD k 0))) := pull_cell (by rw [h.nsh_eq]; exact hin)
  have e2 : (flip q a).cell (ix.set (q.getD k 0) (f (ix.getD (q.getD k 0) 0))) = a.cell (aft (ix.set (q.getD k 0) (f (ix.getD (q.getD k 0) 0))) q) := by
    unfold flip
    rw [h.nsh_eq]
    exact tab_cell hset
  rw [e1, e2, aft_set hq hil hk, getD_aft hk]
theorem flip_rev {a : Arr} {t q : List Nat} {k : Nat} (h : Ok a t) (hq : Perm q) (hl : q.length = t.length) (hk : k < q.length) : flip q (rev k a) = rev (q.getD k 0) (flip q a) := by
  unfold rev
  rw [h.nsh_eq, flip_pull h hq hl hk (fun i hi => rev_lt hi), (flip_ok h hq hl).nsh_eq, flipSh_at hq hk]

theorem perm_two : Perm [1, 0] := ⟨by decide, by decide⟩
/-- Flipped and reversed so many times. -/
def corner : Nat → Arr → Arr
  | 0, a => a
  | i + 1, a => rev 1 (flip [1, 0] (corner i a))
theorem corner_ok {a : Arr} {t : List Nat} (h : Ok a t) (hl : t.length = 2) : ∀ i, ∃ u, u.length = 2 ∧ Ok (corner i a) u
  | 0 => ⟨t, hl, h⟩
  | i + 1 => by
    obtain ⟨u, hu, hk⟩ := corner_ok h hl i
    exact ⟨flipSh [1, 0] u, by rw [flipSh_length]; rfl, rev_ok (flip_ok hk perm_two (by rw [hu]; rfl))⟩
theorem flip_two {a : Arr} {t : List Nat} (h : Ok a t) (hl : t.length = 2) : flip [1, 0] (flip [1, 0] a) = a := by
  have := flip_back h perm_two (by rw [hl]; rfl)
  rwa [show inv [1, 0] = [1, 0] by decide] at this
theorem corner_four {a : Arr} {t : List Nat} (h : Ok a t) (hl : t.length = 2) : corner 4 a = a := by
  have hs : ∀ {b : Arr} {u : List Nat}, Ok b u → u.length = 2 → rev 1 (flip [1, 0] (rev 1 (flip [1, 0] b))) = rev 1 (rev 0 b) := by
    intro b u hb hu
    have hf := flip_ok hb perm_two (by rw [hu]; rfl)
    have hfl : (flipSh [1, 0] u).length = 2 := by rw [flipSh_length]; rfl
    have e := flip_rev hf perm_two (k := 1) (by rw [hfl]; rfl) (by decide)
    rw [show ([1, 0] : List Nat).getD 1 0 = 0 from rfl, flip_two hb hu] at e
    rw [e]
  have hr := rev_ok (rev_ok h (k := 0)) (k := 1)
  show rev 1 (flip [1, 0] (rev 1 (flip [1, 0] (rev 1 (flip [1, 0] (rev 1 (flip [1, 0] a))))))) = a
  rw [hs h hl, hs hr hl, rev_comm (rev_ok h) (by omega) (by omega), rev_rev (rev_ok (rev_ok h)) (by omega), rev_rev h (by omega)]
theorem corner_turn {a : Arr} {t : List Nat} (h : Ok a t) (hl : t.length = 2) : flip [1, 0] (rev 0 a) = rev 1 (flip [1, 0] a) :=
  flip_rev h perm_two (by rw [hl]; rfl) (by decide)

end Go.Proofs.Ytfemeaehpjajlaa.P
