/- Plain facts: the steps of a window. Conditions: none. -/
import Derived.Test.YtamlangancaccaaCut
import Derived.Test.YtamlangancaccaaOdo
import Derived.Test.YtamlangancaccaaCount
set_option linter.unusedSimpArgs false
set_option linter.unusedVariables false
namespace Go.Proofs.Ytamlangancaccaa.P
open Go Go.RowKit

theorem place_take_succ {t u : List Nat} {k : Nat} (hl : u.length = t.length) (hk : k < t.length) : place (t.take (k + 1)) (u.take (k + 1)) = place (t.take k) (u.take k) * t.getD k 0 + u.getD k 0 := by
  have hk' : k < u.length := by omega
  rw [List.take_add_one, List.take_add_one, List.getElem?_eq_getElem hk, List.getElem?_eq_getElem hk']
  simp only [Option.toList_some]
  rw [place_append _ _ (by simp; omega)]
  simp [prod, place, List.getD_eq_getElem?_getD, hk, hk']

theorem prod_take_le {t : List Nat} (h : 0 < prod t) (k : Nat) : prod (t.take k) ≤ prod t := by
  have e : prod t = prod (t.take k) * prod (t.drop k) := by rw [← prod_append, List.take_append_drop]
  rw [e] at h ⊢
  exact Nat.le_mul_of_pos_right _ (Nat.pos_of_mul_pos_left h)
theorem inside_take : ∀ {t u : List Nat} (k : Nat), Inside t u → Inside (t.take k) (u.take k)
  | t, u, 0, _ => by simp [Inside]
  | n :: t, i :: u, k + 1, h => by
    simp only [List.take_succ_cons]
    exact ⟨h.1, inside_take k h.2⟩
  | [], [], k + 1, _ => by simp [Inside]
  | [], _ :: _, _ + 1, h => h.elim
  | _ :: _, [], _ + 1, h => h.elim

theorem toNat_getD {js : List Int} {k : Nat} : (js.map Int.toNat).getD k 0 = (js.getD k 0).toNat := by
  simp only [List.getD_eq_getElem?_getD, List.getElem?_map]
  cases js[k]? <;> simp

/-- The place so far, if all is inside. -/
def WinPlace (t : List Nat) (js : List Int) (k : Nat) (P : Int) : Prop := WinIn t js t.length → P = ((place (t.take k) ((js.map Int.toNat).take k) : Nat) : Int)
theorem WinPlace.zero (t : List Nat) (js : List Int) : WinPlace t js 0 0 := fun _ => by simp [place]
theorem win_wrap {z y j : Nat} {x : Int} (e : (j : Int) = x) (h : z * y + j < 1000000) : wrap64 (wrap64 ((z : Int) * (y : Int)) + x) = ((z * y + j : Nat) : Int) := by
  subst e
  have e4 : (z : Int) * (y : Int) = ((z * y : Nat) : Int) := by rw [Int.natCast_mul]
  rw [e4]
  generalize z * y = q at *
  unfold wrap64
  omega
theorem WinPlace.step {t : List Nat} {js : List Int} {k : Nat} {P : Int} (hg : GoodSh t) (hl : js.length = t.length) (hk : k < t.length) (hP : WinPlace t js k P) :
    WinPlace t js (k + 1) (wrap64 (wrap64 (P * (t.getD k 0 : Int)) + js.getD k 0)) := fun hw => by
  have hin := winIn_inside hl hw
  have hlt := place_lt (inside_take (k + 1) hin)
  have hpos : 0 < prod t := by have := place_lt hin; omega
  have h1 := prod_take_le hpos (k + 1)
  have h2 := hg.2.2
  clear hg
  have e := place_take_succ (u := js.map Int.toNat) (by simp [hl]) hk
  rw [hP hw, e]
  rw [e] at hlt
  have h3 := (hw k hk).1
  rw [toNat_getD] at hlt ⊢
  have e3 : (((js.getD k 0).toNat : Nat) : Int) = js.getD k 0 := Int.toNat_of_nonneg h3
  refine win_wrap e3 ?_
  omega
theorem WinPlace.all {t : List Nat} {js : List Int} {P : Int} (hl : js.length = t.length) (hP : WinPlace t js t.length P) (hw : WinIn t js t.length) : P = ((place t (js.map Int.toNat) : Nat) : Int) := by
  have := hP hw
  rwa [List.take_length, List.take_of_length_le (by simp; omega)] at this

theorem win_at {a : Arr} {t s : List Nat} {fr : List Int} {p : Nat} (h : Ok a t) (hp : p < prod s) :
    (win fr s a).da[p]? = some (if WinIn t (adds (coords s p) fr) t.length then a.cell ((adds (coords s p) fr).map Int.toNat) else fillOf a.ch) := by
  unfold win
  rw [h.nsh_eq]
  simp [tab, hp]
theorem win_in {a : Arr} {t s : List Nat} {fr : List Int} {p : Nat} (h : Ok a t) (hp : p < prod s) (hl : (adds (coords s p) fr).length = t.length) (hw : WinIn t (adds (coords s p) fr) t.length) :
    (win fr s a).da[p]? = a.da[place t ((adds (coords s p) fr).map Int.toNat)]? ∧ place t ((adds (coords s p) fr).map Int.toNat) < a.da.length := by
  have hin := winIn_inside hl hw
  rw [win_at h hp, if_pos hw, cell_get h hin, h.len]
  exact ⟨rfl, place_lt hin⟩
theorem win_out {a : Arr} {t s : List Nat} {fr : List Int} {p : Nat} (h : Ok a t) (hp : p < prod s) (hw : ¬ WinIn t (adds (coords s p) fr) t.length) : (win fr s a).da[p]? = some (fillOf a.ch) := by
  rw [win_at h hp, if_neg hw]

end Go.Proofs.Ytamlangancaccaa.P
