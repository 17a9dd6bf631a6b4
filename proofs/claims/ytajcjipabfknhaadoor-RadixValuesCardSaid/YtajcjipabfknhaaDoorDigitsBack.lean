/- The walk of radix.Digits. Conditions: none. -/
import Derived.Test.YtajcjipabfknhaaDoorDigits
import Derived.Test.YtajcjipabfknhaaDoorList
import Derived.Test.YtajcjipabfknhaaDoorCell
import Derived.Deep.RegionWith
set_option linter.unusedSimpArgs false
set_option linter.unusedVariables false
namespace Go.Proofs.YtajcjipabfknhaaDoor.P
open Go Go.RowKit

/-- One digit, and what is left. -/
def digit (b n : Int) : Int := if b = 0 then n else wrap64 (n - b * Int.fdiv n b)
def left (b n : Int) : Int := if b = 0 then 0 else wrap64 (Int.fdiv n b)
/-- The digits of a number at bases, the last base first; and what is left. -/
def digs : List Int → Int → List Int × Int
  | [], n => ([], n)
  | b :: bs, n => let r := digs bs n; (digit b r.2 :: r.1, left b r.2)

theorem digs_length : ∀ (bs : List Int) (n : Int), (digs bs n).1.length = bs.length
  | [], _ => rfl
  | b :: bs, n => by simp [digs, digs_length bs n]

end Go.Proofs.YtajcjipabfknhaaDoor.P

namespace Go.Proofs.YtajcjipabfknhaaDoor
open Go Go.RowKit Go.Proofs.YtajcjipabfknhaaDoor.P

theorem digs_step {bs : List Int} {k : Nat} {b : Int} (n : Int) (h : bs[k]? = some b) : digs (bs.drop k) n = (digit b (digs (bs.drop (k + 1)) n).2 :: (digs (bs.drop (k + 1)) n).1, left b (digs (bs.drop (k + 1)) n).2) := by
  have hk := (List.getElem?_eq_some_iff.1 h).1
  have e : bs.drop k = b :: bs.drop (k + 1) := by
    rw [List.drop_eq_getElem_cons hk]
    rw [List.getElem?_eq_getElem hk] at h
    injection h with h
    rw [h]
  rw [e]
  rfl

theorem drop_set_at {S : List Int} {j : Nat} (x : Int) (h : j < S.length) : (S.set j x).drop j = x :: S.drop (j + 1) := by
  rw [List.drop_eq_getElem_cons (by simpa using h), List.getElem_set_self]
  congr 1
  rw [List.drop_set_of_lt (by omega)]

set_option maxHeartbeats 1000000 in
theorem digits_ok (v : Value) (bs : List Int) (n : Int) (w : World) (hb : IsInts w v bs) (hl : bs.length ≤ 4096) :
    Calls Tryd.prog 25 #[v, .int .i64 n] w fun e w' => ∃ r, e = .returned (.tuple #[r, .nilIface]) ∧ IsInts w' r (digs bs n).1 ∧ Below w.heap.size w w' := by
  obtain ⟨A, c, rfl, c1, c2, c3, EB, H0⟩ := hb.open_
  clear hb
  have hmk := run_make_list bs.length (by omega)
  have hro := Row.made w bs.length
  go_enter Tryd.func25, Tryd.ntmps25
  go_wp2_with fail
  go_loopw [7, 1] (fun i m wr => ∃ (k : Nat) (S : List Int), k ≤ bs.length ∧ i = .int .i64 ((k : Int) - 1) ∧ m = .int .i64 (digs (bs.drop k) n).2 ∧ S.length = bs.length ∧ S.drop k = (digs (bs.drop k) n).1 ∧ Row wr w.heap.size S ∧ Below w.heap.size w wr)
    (fun i _ _ => (intOf i + 1).toNat)
  case atStart => exact ⟨bs.length, List.replicate bs.length 0, Nat.le_refl _, rfl, by simp [digs], by simp, by simp [digs], hro, by go_grown⟩
  case round =>
    clear hro
    obtain ⟨k, S, hk, rfl, rfl, hS, hd, hro, hbl⟩ := hrel
    rcases Nat.eq_zero_or_pos k with hz | hp
    · subst hz
      have hro' := hro.isInts hS.symm (by omega)
      simp only [List.drop_zero] at hd
      rw [hd] at hro'
      have h0 : ¬ (0 : Int) ≤ ((0 : Nat) : Int) - 1 := by omega
      go_wp2_with fail
      refine bodyPost_ret (v := .tuple #[.slice (some ⟨w.heap.size, 0, none⟩) bs.length bs.length, .nilIface]) (by simp [results, Tryd.results25, go_sem]) rfl ?_
      exact ⟨_, rfl, hro', by go_grown⟩
    · obtain ⟨j, rfl⟩ : ∃ j, k = j + 1 := ⟨k - 1, by omega⟩
      obtain ⟨ad, b, rfl, hx, hal, hcx⟩ := Elems.later EB hbl (k := j) (by omega)
      have hgc := hro.at_ (List.getElem?_eq_getElem (show j < S.length by omega))
      have hgf := Box.frozen hro j
      have hglt := Box.lt hro
      have ej : ((j + 1 : Nat) : Int) - 1 = j := by omega
      rw [ej]
      have hx' := Lib.hid hx
      clear hx
      by_cases h0 : b = 0
      · subst h0
        go_wp2_with fail
        go_roundw
        case rel =>
          refine ⟨j, S.set j (digs (bs.drop (j + 1)) n).2, by omega, by go_num, ?_, by simpa using hS, ?_, hro.store j _, by have := hbl.size; go_grown⟩
          · rw [digs_step n hx'.out]; simp [left]
          · rw [digs_step n hx'.out, drop_set_at _ (by omega), hd]; simp [digit]
        case measure => simp [intOf] <;> omega
      · have h3 : ((b == 0) : Bool) = false := by simpa using h0
        have hsz := hbl.size
        go_wp2_with fail
        refine (two_res b _ _ h0).mono ?_
        rintro e w1 ⟨rfl, hb1⟩
        have hr1 := Box.below hro hb1
        have hb1' := hbl.trans (hb1.mono hsz)
        have hc1 := Row.at_ hr1 (List.getElem?_eq_getElem (show j < S.length by omega))
        have hf1 := Box.frozen hr1 j
        have hl1 := Box.lt hr1
        have hz1 := hb1'.size
        clear hro hgc hgf hglt hbl hcx
        go_wp2_with fail
        have hro2 := Row.store hr1 j (wrap64 ((digs (bs.drop (j + 1)) n).2 - b * Int.fdiv (digs (bs.drop (j + 1)) n).2 b))
        have hb2 : Below w.heap.size w (w1.setCell ⟨w.heap.size, j, none⟩ (.int .i64 (wrap64 ((digs (bs.drop (j + 1)) n).2 - b * Int.fdiv (digs (bs.drop (j + 1)) n).2 b)))) := by go_grown
        refine (two_div _ b _ h0).mono ?_
        rintro e w2 ⟨rfl, hb3⟩
        have hro3 := Box.below hro2 hb3
        have hb4 := hb2.trans (hb3.mono hb2.size)
        go_wp2_with fail
        go_roundw
        case rel =>
          refine ⟨j, S.set j (wrap64 ((digs (bs.drop (j + 1)) n).2 - b * Int.fdiv (digs (bs.drop (j + 1)) n).2 b)), by omega, by go_num, ?_, by simpa using hS, ?_, hro3, by have := hb4.size; go_grown⟩
          · rw [digs_step n hx'.out]; simp [left, h0]
          · rw [digs_step n hx'.out, drop_set_at _ (by omega), hd]; simp [digit, h0]
        case measure => simp [intOf] <;> omega

end Go.Proofs.YtajcjipabfknhaaDoor
