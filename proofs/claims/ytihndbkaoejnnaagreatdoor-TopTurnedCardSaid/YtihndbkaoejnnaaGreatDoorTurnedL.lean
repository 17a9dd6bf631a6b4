/- What the card TopTurned leans on: LexSmall, LexWhile, Axes. Conditions: none but those of its theorems. -/
import Derived.Deep.QuietTactic
import Derived.BigQuiet
import Derived.Test.YtihndbkaoejnnaaGreatDoorTurnedA
import Derived.Test.YtihndbkaoejnnaaGreatDoorTurnedC
import Derived.Test.YtihndbkaoejnnaaGreatDoorTurnedE
set_option linter.unusedSimpArgs false
set_option linter.unusedVariables false
namespace Go.Proofs.YtihndbkaoejnnaaGreatDoor
open Go Go.RowKit Go.Proofs.YtihndbkaoejnnaaGreatDoor.P

theorem digit_any (x : Int) (w : World) : Calls Tryz.prog 77 #[.int .u8 x] w fun e w' => e = .returned (.bool (digB x)) ∧ w = w' := by
  by_cases h1 : 48 ≤ x
  · by_cases h2 : x ≤ 57
    · have HV := Lib.hid (digB_yes h1 h2)
      go_enter Tryz.func77, Tryz.ntmps77
      go_wp2_with fail
      go_ret
      exact ⟨ret_bool (by rw [HV.out]), rfl⟩
    · have HV := Lib.hid (digB_hi h2)
      have h3 : 57 < x := by omega
      go_enter Tryz.func77, Tryz.ntmps77
      go_wp2_with fail
      go_ret
      exact ⟨ret_bool (by rw [HV.out]), rfl⟩
  · have HV := Lib.hid (digB_lo h1)
    go_enter Tryz.func77, Tryz.ntmps77
    go_wp2_with fail
    go_ret
    exact ⟨ret_bool (by rw [HV.out]), rfl⟩

theorem space_any (x : Int) (w : World) : Calls Tryz.prog 59 #[.int .u8 x] w fun e w' => e = .returned (.bool (spB x)) ∧ w = w' := by
  have HV := Lib.hid (show spB x = (x == 32) by unfold spB; rw [Bool.eq_iff_iff]; simp)
  go_enter Tryz.func59, Tryz.ntmps59
  go_wp2_with fail
  go_ret
  exact ⟨ret_bool (by rw [HV.out]), rfl⟩

set_option maxHeartbeats 4000000 in
theorem glyph_any (f : Int) (w : World) : Calls Tryz.prog 88 #[.int .i64 f] w fun e w' => e = .returned (.int .i32 (glyphR f)) ∧ w = w' := by
  go_enter Tryz.func88, Tryz.ntmps88
  go_wp2_with fail
  all_goals go_ret
  all_goals refine ⟨ret_int ?_, rfl⟩
  all_goals unfold glyphR
  all_goals simp_all

set_option maxHeartbeats 4000000 in
theorem sign_any (f : Int) (w : World) : Calls Tryz.prog 83 #[.int .i64 f] w fun e w' => e = .returned (.int .i32 (signR f)) ∧ w = w' := by
  go_enter Tryz.func83, Tryz.ntmps83
  go_wp2_with fail
  all_goals go_ret
  all_goals refine ⟨ret_int ?_, rfl⟩
  all_goals unfold signR
  all_goals simp_all

set_option maxHeartbeats 1000000 in
theorem letter_any (x : Int) (w : World) : Calls Tryz.prog 79 #[.int .u8 x] w fun e w' => e = .returned (.bool (letB x)) ∧ w = w' := by
  by_cases h1 : 97 ≤ x <;> by_cases h2 : x ≤ 122 <;> by_cases h3 : 65 ≤ x <;> by_cases h4 : x ≤ 90
  all_goals first | (exfalso; omega) | skip
  all_goals
    obtain ⟨v, hv⟩ : ∃ v, v = letB x := ⟨_, rfl⟩
    have HV : v = _ := hv.trans (by simp only [letB, h1, h2, h3, h4, decide_true, decide_false]; rfl)
    rw [← hv, HV]
    clear hv HV
    go_enter Tryz.func79, Tryz.ntmps79
    go_wp2_with fail
    go_ret
    exact ⟨rfl, rfl⟩

set_option maxHeartbeats 1000000 in
theorem within_any (x : Int) (w : World) : Calls Tryz.prog 80 #[.int .u8 x] w fun e w' => e = .returned (.bool (inB x)) ∧ w = w' := by
  cases hl : letB x <;> cases hd : digB x <;> cases h9 : (x == 95)
  all_goals
    have HV : inB x = _ := (show inB x = (letB x || digB x || (x == 95)) by unfold inB; congr 1).trans (by rw [hl, hd, h9])
    rw [HV]
    clear HV
    go_enter Tryz.func80, Tryz.ntmps80
    go_wp2_with (first
      | (go_at_call 79; refine (letter_any _ _).mono ?_; rintro e w' ⟨rfl, rfl⟩)
      | (go_at_call 77; refine (digit_any _ _).mono ?_; rintro e w' ⟨rfl, rfl⟩))
    go_ret
    exact ⟨rfl, rfl⟩

set_option maxHeartbeats 1000000 in
theorem fnOf_yes (c F : Int) (w : World) (h : FnOf c F) : Calls Tryz.prog 82 #[.int .i32 c] w fun e w' => e = .returned (.tuple #[.int .i64 F, .bool true]) ∧ w = w' := by
  obtain ⟨h1, h2, h3, h4⟩ := h
  have H3 := Lib.hid h3
  have H4 := Lib.hid h4
  clear h3 h4
  go_enter Tryz.func82, Tryz.ntmps82
  go_wp2_with fail
  go_loop [4] (fun s4 => ∃ k : Int, 1 ≤ k ∧ k ≤ F ∧ s4 = .int .i64 k) (fun s4 => (F - intOf s4).toNat)
  case atStart => exact ⟨1, by omega, h1, rfl⟩
  case round =>
    obtain ⟨k, hk1, hk2, rfl⟩ := hrel
    by_cases hkF : k = F
    · subst hkF
      have e1 : (glyphR k == c) = true := by simp [H3.out]
      have hk : k ≤ 34 := h2
      go_wp2_with (go_at_call 88; refine (glyph_any _ _).mono ?_; rintro e w' ⟨rfl, rfl⟩)
      go_ret2
      exact ⟨rfl, rfl⟩
    · have e1 : (glyphR k == c) = false := by simp; exact H4.out k hk1 (by omega)
      have hk : k ≤ 34 := by omega
      have hkF' : k < F := by omega
      clear hkF
      go_wp2_with (go_at_call 88; refine (glyph_any _ _).mono ?_; rintro e w' ⟨rfl, rfl⟩)
      go_round
      case rel => exact ⟨k + 1, by omega, by omega, rfl⟩
      case measure => simp [intOf]; omega

set_option maxHeartbeats 1000000 in
theorem fnOf_no (c : Int) (w : World) (h : NoFn c) : Calls Tryz.prog 82 #[.int .i32 c] w fun e w' => e = .returned (.tuple #[.int .i64 0, .bool false]) ∧ w = w' := by
  have H4 := Lib.hid h
  clear h
  go_enter Tryz.func82, Tryz.ntmps82
  go_wp2_with fail
  go_loop [4] (fun s4 => ∃ k : Int, 1 ≤ k ∧ k ≤ 35 ∧ s4 = .int .i64 k) (fun s4 => (35 - intOf s4).toNat)
  case atStart => exact ⟨1, by omega, by omega, rfl⟩
  case round =>
    obtain ⟨k, hk1, hk2, rfl⟩ := hrel
    by_cases hkF : k ≤ 34
    · have e1 : (glyphR k == c) = false := by simp; exact H4.out k hk1 hkF
      go_wp2_with (go_at_call 88; refine (glyph_any _ _).mono ?_; rintro e w' ⟨rfl, rfl⟩)
      go_round
      case rel => exact ⟨k + 1, by omega, by omega, rfl⟩
      case measure => simp [intOf]; omega
    · go_wp2_with fail
      go_ret2
      exact ⟨rfl, rfl⟩

end Go.Proofs.YtihndbkaoejnnaaGreatDoor

namespace Go.Proofs.YtihndbkaoejnnaaGreatDoor
open Go Go.RowKit Go.Proofs.YtihndbkaoejnnaaGreatDoor.P

theorem grownBy_draws (w : World) (n : Nat) (row : Option Nat) : w.grownBy (w.drewN n) row := ⟨rfl, rfl, rfl, Nat.le_refl _, fun _ _ _ => rfl⟩
theorem grownBy_of_below {w w' : World} {n : Nat} {row : Option Nat} (h : Below n w w') (hn : w.heap.size ≤ n) : w.grownBy w' row := ⟨h.os, h.tape, h.output, h.size, fun k hk _ => h.block k (Nat.lt_of_lt_of_le hk hn)⟩

theorem grownBy_after {w w1 w2 : World} {row : Option Nat} {g : Nat} (h : w.grownBy w1 row) (h2 : w1.grownBy w2 (some g)) (hg : w.heap.size ≤ g) : w.grownBy w2 row :=
  ⟨h2.os.trans h.os, h2.tape.trans h.tape, h2.output.trans h.output, Nat.le_trans h.size h2.size, fun k hk hne => (h2.block k (Nat.lt_of_lt_of_le hk h.size) (fun e => by injection e with e; omega)).trans (h.block k hk hne)⟩
theorem grownBy_row {w w1 w2 : World} {row r2 : Option Nat} (h : w.grownBy w1 row) (h2 : w1.grownBy w2 r2) (hg : ∀ k, r2 = some k → w.heap.size ≤ k) : w.grownBy w2 row :=
  ⟨h2.os.trans h.os, h2.tape.trans h.tape, h2.output.trans h.output, Nat.le_trans h.size h2.size, fun k hk hne => (h2.block k (Nat.lt_of_lt_of_le hk h.size) (fun e => by have := hg k e.symm; omega)).trans (h.block k hk hne)⟩
theorem grownBy_then {w w1 w2 : World} {row : Option Nat} (h : w.grownBy w1 row) (h2 : Below w1.heap.size w1 w2) : w.grownBy w2 row := grownBy_trans h (grownBy_of_below h2 (Nat.le_refl _))
theorem grownBy_five (w : World) (b : Nat) (u0 u1 u2 u3 u4 : Value) : w.grownBy (((((w.setCell ⟨b, 0, none⟩ u0).setCell ⟨b, 1, none⟩ u1).setCell ⟨b, 2, none⟩ u2).setCell ⟨b, 3, none⟩ u3).setCell ⟨b, 4, none⟩ u4) (some b) :=
  grownBy_trans (grownBy_trans (grownBy_three _ _ _ _ _) (grownBy_setCell _ _ _ _)) (grownBy_setCell _ _ _ _)
theorem Box.five {w : World} {b : Nat} {t : TypeId} {c0 c1 c2 c3 c4 : Value} (h : Box w b t #[c0, c1, c2, c3, c4]) :
    w.cell? ⟨b, 0, none⟩ = some c0 ∧ w.cell? ⟨b, 1, none⟩ = some c1 ∧ w.cell? ⟨b, 2, none⟩ = some c2 ∧ w.cell? ⟨b, 3, none⟩ = some c3 ∧ w.cell? ⟨b, 4, none⟩ = some c4 := ⟨h.cell 0, h.cell 1, h.cell 2, h.cell 3, h.cell 4⟩

/-- The reader's block: the line, the place, the words. -/
def Reader (w : World) (R : Nat) (src : ByteArray) (pos : Nat) (wv : Value) : Prop := Box w R 85 #[.string src, .int .i64 pos, wv]
theorem Reader.drewN {w : World} {R : Nat} {src : ByteArray} {pos : Nat} {wv : Value} (h : Reader w R src pos wv) (n : Nat) : Reader (w.drewN n) R src pos wv := h
theorem Reader.at_ {w : World} {R : Nat} {src : ByteArray} {pos : Nat} {wv : Value} (h : Reader w R src pos wv) (q : Nat) : Reader (w.setCell ⟨R, 1, none⟩ (.int .i64 q)) R src q wv := Box.store h 1 _
theorem Reader.grown {w w' : World} {R g : Nat} {src : ByteArray} {pos : Nat} {wv : Value} (h : Reader w R src pos wv) (hg : w.grownBy w' (some g)) (hne : g ≠ R) : Reader w' R src pos wv := Box.grown h hg (by simpa using hne)
theorem Reader.below {w w' : World} {R : Nat} {src : ByteArray} {pos : Nat} {wv : Value} (h : Reader w R src pos wv) (hb : Below w.heap.size w w') : Reader w' R src pos wv := Box.below h hb

set_option maxHeartbeats 1000000 in
theorem rest_any {w : World} {R : Nat} {src : ByteArray} {pos : Nat} {wv : Value} (h : Reader w R src pos wv) (hp : pos ≤ src.size) :
    Calls Tryz.prog 60 #[.pointer (some ⟨R, 0, none⟩)] w fun e w' => e = .returned (.string (src.extract pos src.size)) ∧ ∃ n, w' = w.drewN n := by
  obtain ⟨c0, c1, c2⟩ := Box.three h
  clear h
  go_enter Tryz.func60, Tryz.ntmps60
  go_wp2_with fail
  go_quiet (fail)
  all_goals go_wp2_with fail
  go_ret
  exact ⟨rfl, _, rfl⟩

/-- The place at which a reader stands. -/
def posIn (w : World) (R : Nat) : Nat := match w.cell? ⟨R, 1, none⟩ with | some (.int _ x) => x.toNat | _ => 0
theorem Reader.posIn {w : World} {R : Nat} {src : ByteArray} {pos : Nat} {wv : Value} (h : Reader w R src pos wv) : posIn w R = pos := by
  unfold Go.Proofs.YtihndbkaoejnnaaGreatDoor.posIn
  rw [(Box.three h).2.1]
  simp

set_option maxHeartbeats 4000000 in
theorem while_any (F : FuncId) (p : Int → Bool) (hp : ∀ (x : Int) (W : World), Calls Tryz.prog F #[.int .u8 x] W fun e W' => e = .returned (.bool (p x)) ∧ W = W')
    (hcf : ∀ args W, (callFunc F args).run Tryz.prog W = .ok (.enter F args) W)
    {w : World} {R : Nat} {src : ByteArray} {pos n : Nat} {wv : Value} (h : Reader w R src pos wv) (hs : src.size ≤ 1000) (hn : pos + n ≤ src.size)
    (hall : ∀ k, pos ≤ k → k < pos + n → (hk : k < src.size) → p (src[k].toNat : Int) = true) (hstop : (hk : pos + n < src.size) → p (src[pos + n].toNat : Int) = false) :
    Calls Tryz.prog 58 #[.pointer (some ⟨R, 0, none⟩), .func (.func F) #[] #[]] w fun e w' =>
      e = .returned (.string (src.extract pos (pos + n))) ∧ Reader w' R src (pos + n) wv ∧ w.grownBy w' (some R) := by
  have H := Lib.hid h
  obtain ⟨c0, c1, c2⟩ := Box.three h
  have HP := Lib.hid hp
  have HA := Lib.hid hall
  have HS := Lib.hid hstop
  clear h hall hstop hp
  go_enter Tryz.func58, Tryz.ntmps58
  go_wp2_with fail
  clear c0 c1 c2
  go_loopw [32] (fun _ wr => ∃ k : Nat, pos ≤ k ∧ k ≤ pos + n ∧ Reader wr R src k wv ∧ w.grownBy wr (some R)) (fun _ wr => src.size - posIn wr R)
  case atStart => exact ⟨pos, Nat.le_refl _, by omega, H.out, World.grownBy.refl _ _⟩
  case round =>
    obtain ⟨k, hk1, hk2, hr, hg⟩ := hrel
    have HR := Lib.hid hr
    obtain ⟨c0, c1, c2⟩ := Box.three hr
    have fz := Box.frozen hr 1
    have lt := Box.lt hr
    clear hr
    have HG := Lib.hid hg
    clear hg
    by_cases hk : k < pos + n
    · have hks : k < src.size := by omega
      have HPK := Lib.hid (HA.out k hk1 hk hks)
      have HC := Lib.hid (fun m => ((HP.out (src[k].toNat : Int) (wr.drewN m)).mono fun e W' q => (⟨q.1.trans (by rw [HPK.out]), q.2.symm⟩ : e = .returned (.bool true) ∧ W' = wr.drewN m)))
      go_wp2_with fail
      go_quiet ((exact Calls.quiet_of_same (HC.out _)))
      all_goals go_wp2_with fail
      go_roundw
      case rel => exact ⟨k + 1, by omega, by omega, Reader.at_ (HR.out.drewN _) (k + 1), grownBy_trans (grownBy_trans HG.out (grownBy_draws _ _ _)) (grownBy_setCell _ _ _ _)⟩
      case measure =>
        exact (show ∀ a b, a = k + 1 → b = k → src.size - a < src.size - b from fun a b h1 h2 => by omega) _ _ (Reader.posIn (Reader.at_ (HR.out.drewN _) (k + 1))) HR.out.posIn
    · have HKN := Lib.hid (show k = pos + n by omega)
      have hke : k ≤ src.size := by omega
      clear hk
      by_cases hks : k < src.size
      · have HPK := Lib.hid (show p (src[k].toNat : Int) = false by have e := HKN.out; subst e; exact HS.out hks)
        have HC := Lib.hid (fun m => ((HP.out (src[k].toNat : Int) (wr.drewN m)).mono fun e W' q => (⟨q.1.trans (by rw [HPK.out]), q.2.symm⟩ : e = .returned (.bool false) ∧ W' = wr.drewN m)))
        go_wp2_with fail
        go_quiet ((exact Calls.quiet_of_same (HC.out _)))
        all_goals go_wp2_with fail
        go_quiet (fail)
        all_goals go_wp2_with fail
        go_ret
        exact ⟨(by have e := HKN.out; show Ending.returned (.string (src.extract pos k)) = _; rw [e]), (by rw [← HKN.out]; exact (HR.out.drewN _).drewN _), grownBy_trans (grownBy_trans HG.out (grownBy_draws _ _ _)) (grownBy_draws _ _ _)⟩
      · go_wp2_with fail
        go_quiet (fail)
        all_goals go_wp2_with fail
        go_quiet (fail)
        all_goals go_wp2_with fail
        go_ret
        exact ⟨(by have e := HKN.out; show Ending.returned (.string (src.extract pos k)) = _; rw [e]), (by rw [← HKN.out]; exact (HR.out.drewN _).drewN _), grownBy_trans (grownBy_trans HG.out (grownBy_draws _ _ _)) (grownBy_draws _ _ _)⟩

end Go.Proofs.YtihndbkaoejnnaaGreatDoor

namespace Go.Proofs.YtihndbkaoejnnaaGreatDoor.P

/-- The lengths laid so far. -/
def AxesTo (k : Nat) (u t : List Nat) (S : List Int) : Prop := S.length = t.length ∧ ∀ j, j < k → S[u.getD j 0]? = some ((t.getD j 0 : Nat) : Int)
theorem AxesTo.zero {n : Nat} {t : List Nat} (h : n = t.length) : AxesTo 0 [] t (List.replicate n 0) := ⟨by simpa using h, fun j h => by omega⟩
theorem AxesTo.succ {k m : Nat} {u t : List Nat} {S : List Int} {x : Int} (h : AxesTo k u t S) (hu : u.length = k) (hm : m < t.length) (hn : m ∉ u) (hx : x = ((t.getD k 0 : Nat) : Int)) : AxesTo (k + 1) (u ++ [m]) t (S.set m x) := by
  refine ⟨by rw [List.length_set]; exact h.1, fun j hj => ?_⟩
  by_cases e : j = k
  · subst e
    have : (u ++ [m]).getD j 0 = m := by rw [List.getD_eq_getElem?_getD, List.getElem?_append_right (by omega), hu]; simp
    rw [this, List.getElem?_set_self (by rw [h.1]; exact hm), hx]
  · have hju : j < u.length := by omega
    have e2 : (u ++ [m]).getD j 0 = u.getD j 0 := by rw [List.getD_eq_getElem?_getD, List.getElem?_append_left hju, List.getD_eq_getElem?_getD]
    rw [e2, List.getElem?_set_ne (fun e3 => hn (by rw [e3, getD_lt hju]; exact List.getElem_mem hju))]
    exact h.2 j (by omega)
theorem AxesTo.all {u t : List Nat} {S : List Int} (h : AxesTo t.length u t S) (hu : Perm u) (hl : u.length = t.length) : S = ints (flipSh u t) := by
  apply List.ext_getElem?
  intro m
  rcases Nat.lt_or_ge m t.length with h1 | h1
  · have hm : m < u.length := by omega
    have h2 := h.2 (u.idxOf m) (by rw [← hl]; exact idx_lt hu hm)
    rw [idx_get hu hm] at h2
    have h3 := flipSh_at (t := t) hu (idx_lt hu hm)
    rw [idx_get hu hm] at h3
    have hf : m < (flipSh u t).length := by rw [flipSh_length]; exact hm
    rw [h2, getElem?_ints, List.getElem?_eq_getElem hf, ← getD_lt hf, h3]
    rfl
  · rw [List.getElem?_eq_none (by rw [h.1]; exact h1), List.getElem?_eq_none (by rw [length_ints, flipSh_length]; omega)]

/-- Which axes have been seen. -/
def SeenB (L : List Bool) (u : List Nat) : Prop := L.length = 6 ∧ ∀ i, i < 6 → L[i]? = some (decide (i ∈ u))
theorem SeenB.nil : SeenB (List.replicate 6 false) [] := ⟨by simp, fun i hi => by rw [List.getElem?_replicate, if_pos hi]; simp⟩
theorem SeenB.add {L : List Bool} {u : List Nat} (h : SeenB L u) {m : Nat} (hm : m < 6) : SeenB (L.set m true) (u ++ [m]) := by
  refine ⟨by rw [List.length_set]; exact h.1, fun i hi => ?_⟩
  by_cases e : m = i
  · subst e
    rw [List.getElem?_set_self (by rw [h.1]; exact hm)]
    simp
  · rw [List.getElem?_set_ne e, h.2 i hi]
    congr 1
    rw [decide_eq_decide, List.mem_append, List.mem_singleton]
    constructor
    · exact .inl
    · rintro (h | h)
      · exact h
      · exact absurd h.symm e
end Go.Proofs.YtihndbkaoejnnaaGreatDoor.P
namespace Go.Proofs.YtihndbkaoejnnaaGreatDoor
open Go Go.RowKit Go.Proofs.YtihndbkaoejnnaaGreatDoor.P

/-- The marks of an array. -/
def Bools (w : World) (g : Nat) (L : List Bool) : Prop := Box w g 290 (L.map Value.bool).toArray
theorem Bools.store {w : World} {g : Nat} {L : List Bool} (h : Bools w g L) (k : Nat) (x : Bool) : Bools (w.setCell ⟨g, k, none⟩ (.bool x)) g (L.set k x) := by
  have := Box.store h k (.bool x)
  unfold Bools
  rw [List.map_set]
  simpa using this
theorem Bools.at_ {w : World} {g : Nat} {L : List Bool} (h : Bools w g L) {k : Nat} {x : Bool} (hk : L[k]? = some x) : w.cell? ⟨g, k, none⟩ = some (.bool x) := by
  rw [Box.cell h]
  simp [hk]

/-- A call tells a list of its own and no error. -/
def GivesOwn (xs : List Int) (w : World) (e : Ending) (w' : World) : Prop := ∃ g, e = .returned (.tuple #[.slice (some ⟨g, 0, none⟩) xs.length xs.length, .nilIface]) ∧ w.heap.size ≤ g ∧ Row w' g xs ∧ Below w.heap.size w w'
set_option maxRecDepth 100000 in
set_option maxHeartbeats 1000000 in
theorem axes_ok {vs vp : Value} {t u : List Nat} {w : World} (hs : IsInts w vs (ints t)) (hp : IsInts w vp (ints u)) (hg : GoodSh t) (hu : Perm u) (hl : u.length = t.length) :
    Calls Tryz.prog 233 #[vs, vp] w (GivesOwn (ints (flipSh u t)) w) := by
  obtain ⟨A, ca, rfl, a1, a2, a3, EA, H0⟩ := hs.open_
  obtain ⟨B, cb, rfl, b1, b2, b3, EB, H1⟩ := hp.open_
  have h6 := hg.1
  have hct := count_ok (.slice A (ints t).length ca) t w hs hg
  simp only [length_ints, hl] at a1 a3 H0 b1 b3 H1 hct ⊢
  have hlt : ∀ k, k < t.length → u.getD k 0 < t.length := fun k hk => by rw [← hl]; exact hu.lt (by omega)
  have hne : ∀ k, k < t.length → u.getD k 0 ∉ u.take k := fun k hk hm => by
    obtain ⟨j, hj, e⟩ := List.getElem_of_mem hm
    rw [List.length_take] at hj
    rw [List.getElem_take, ← getD_lt (by omega)] at e
    have := hu.inj (by omega) (by omega) e
    omega
  have HU := Lib.hid hu
  have HL := Lib.hid hl
  have HLT := Lib.hid hlt
  have HNE := Lib.hid hne
  have HG := Lib.hid hg
  have HC := Lib.hid hct
  have hmk := run_make_list t.length (by omega)
  clear hs hp hg hu hl hlt hne hct
  go_enter Tryz.func233, Tryz.ntmps233
  go_wp2_with fail
  refine HC.out.mono ?_
  rintro en w1 ⟨rfl, rfl⟩
  have hsb : Bools (w.alloc (.cells #[.bool false, .bool false, .bool false, .bool false, .bool false, .bool false] 290)) w.heap.size (List.replicate 6 false) := Box.new w 290 _
  have hro := Row.made (w.alloc (.cells #[.bool false, .bool false, .bool false, .bool false, .bool false, .bool false] 290)) t.length
  rw [World.size_alloc] at hro
  go_wp2_with fail
  go_loopw [31] (fun i wr => ∃ (k : Nat) (L : List Bool) (S : List Int), k ≤ t.length ∧ i = .int .i64 k ∧ SeenB L (u.take k) ∧ AxesTo k (u.take k) t S ∧ Bools wr w.heap.size L ∧ Row wr (w.heap.size + 1) S ∧ Below w.heap.size w wr) (fun i _ => t.length - (intOf i).toNat)
  case atStart => exact ⟨0, _, _, Nat.zero_le _, rfl, by simpa using SeenB.nil, by simpa using AxesTo.zero rfl, hsb.alloc _, hro, by go_grown⟩
  case round =>
    clear hsb hro
    obtain ⟨k, L, S, hk, rfl, hL, hS, hb1, hb2, hbl⟩ := hrel
    rcases Nat.lt_or_ge k t.length with hlt | hge
    · obtain ⟨ad, x, rfl, hx, hal, hcx⟩ := Elems.later EB hbl (k := k) (by rw [length_ints, HL.out]; exact hlt)
      obtain ⟨rfl, -⟩ := ints_getD hx
      obtain ⟨ae, y, rfl, hy, hae, hcy⟩ := Elems.later EA hbl (k := k) (by rw [length_ints]; exact hlt)
      obtain ⟨rfl, -⟩ := ints_getD hy
      have h1 := HLT.out k hlt
      have h2 := HNE.out k hlt
      have hsn : (u.take (k + 1)) = u.take k ++ [u.getD k 0] := by
        rw [List.take_add_one, List.getElem?_eq_getElem (by rw [HL.out]; exact hlt), ← getD_lt]; rfl
      obtain ⟨m, hm⟩ : ∃ m, m = u.getD k 0 := ⟨_, rfl⟩
      obtain ⟨z, hz⟩ : ∃ z, z = t.getD k 0 := ⟨_, rfl⟩
      rw [← hm] at h1 h2 hcx hsn
      rw [← hz] at hcy
      have h6' : m < 6 := by omega
      have hb0 : wr.cell? ⟨w.heap.size, m, none⟩ = some (.bool false) := hb1.at_ (by rw [hL.2 m h6']; simp [h2])
      have hf0 := Box.frozen hb1 m
      have hf1 := Box.frozen hb2 m
      have hz0 := Box.lt hb1
      have hz1 := Box.lt hb2
      obtain ⟨z1, hz1'⟩ : ∃ z, S[m]? = some z := ⟨_, List.getElem?_eq_getElem (show m < S.length by rw [hS.1]; exact h1)⟩
      have hg1 := hb2.at_ hz1'
      have h1' : decide ((t.length : Nat) ≤ m) = false := by simp; omega
      have h1'' : decide ((t.length : Int) ≤ (m : Int)) = false := by simp; omega
      have hcy' : (wr.setCell ⟨w.heap.size, m, none⟩ (.bool true)).cell? (ae.add k) = some (.int .i64 (z : Nat)) := cellS hcy (by rw [addr_block_add]; simp; omega)
      have H2 := Lib.hid h2
      have HSN := Lib.hid hsn
      have HL' := Lib.hid hL
      have HS' := Lib.hid hS
      have HZ := Lib.hid hz
      clear h2 hsn hL hS hz hx hy hz1' hm
      go_wp2_with fail
      go_roundw
      case rel =>
        refine ⟨k + 1, L.set m true, S.set m (z : Int), by omega, by go_num, ?_, ?_, ?_, ?_, by have := hbl.size; go_grown⟩
        · rw [HSN.out]; exact HL'.out.add h6'
        · rw [HSN.out]; exact HS'.out.succ (by rw [List.length_take, HL.out]; omega) h1 H2.out (by rw [HZ.out])
        · exact (hb1.store m true).far (p := ⟨w.heap.size + 1, m, none⟩) (by simp) _
        · exact Row.store (hb2.far (p := ⟨w.heap.size, m, none⟩) (by simp) _) m z
      case measure => simp [intOf]; omega
    · have hkk : k = t.length := by omega
      subst hkk
      have hfin : S = ints (flipSh u t) := by
        rw [List.take_of_length_le (by rw [HL.out]; exact Nat.le_refl _)] at hS
        exact hS.all HU.out HL.out
      have hsl : S.length = t.length := hS.1
      have HF := Lib.hid hfin
      have HS' := Lib.hid hsl
      clear hfin hsl hS hL
      go_wp2_with fail
      refine bodyPost_ret (v := .tuple #[.slice (some ⟨w.heap.size + 1, 0, none⟩) t.length t.length, .nilIface]) (by simp [results, Tryz.results233, go_sem]) rfl ?_
      refine ⟨w.heap.size + 1, ?_, by omega, by rw [← HF.out]; exact hb2, hbl⟩
      rw [← HF.out, HS'.out]

end Go.Proofs.YtihndbkaoejnnaaGreatDoor
