/- What the card TopProduct leans on: LexSmall, LexWhile. Conditions: none but those of its theorems. -/
import Derived.Deep.QuietTactic
import Derived.BigQuiet
import Derived.Test.YtihndbkaoejnnaaGreatDoorProductA
import Derived.Test.YtihndbkaoejnnaaGreatDoorProductC
set_option linter.unusedSimpArgs false
set_option linter.unusedVariables false
namespace Go.Proofs.YtihndbkaoejnnaaGreatDoor
open Go Go.RowKit Go.Proofs.YtihndbkaoejnnaaGreatDoor.P

theorem digit_any (x : Int) (w : World) : Calls Tryz.prog 77 #[.int .u8 x] w fun e w' => e = .returned (.bool (digB x)) ∧ w = w' := by
  by_cases h1 : 48 ≤ x
  · by_cases h2 : x ≤ 57
    · have HV := Lib.hid (digB_yes h1 h2)
      go_enter Tryz.func77, Tryz.ntmps77
      go_wp2_with fail
      go_ret
      exact ⟨ret_bool (by rw [HV.out]), rfl⟩
    · have HV := Lib.hid (digB_hi h2)
      have h3 : 57 < x := by omega
      go_enter Tryz.func77, Tryz.ntmps77
      go_wp2_with fail
      go_ret
      exact ⟨ret_bool (by rw [HV.out]), rfl⟩
  · have HV := Lib.hid (digB_lo h1)
    go_enter Tryz.func77, Tryz.ntmps77
    go_wp2_with fail
    go_ret
    exact ⟨ret_bool (by rw [HV.out]), rfl⟩

theorem space_any (x : Int) (w : World) : Calls Tryz.prog 59 #[.int .u8 x] w fun e w' => e = .returned (.bool (spB x)) ∧ w = w' := by
  have HV := Lib.hid (show spB x = (x == 32) by unfold spB; rw [Bool.eq_iff_iff]; simp)
  go_enter Tryz.func59, Tryz.ntmps59
  go_wp2_with fail
  go_ret
  exact ⟨ret_bool (by rw [HV.out]), rfl⟩

set_option maxHeartbeats 4000000 in
theorem glyph_any (f : Int) (w : World) : Calls Tryz.prog 88 #[.int .i64 f] w fun e w' => e = .returned (.int .i32 (glyphR f)) ∧ w = w' := by
  go_enter Tryz.func88, Tryz.ntmps88
  go_wp2_with fail
  all_goals go_ret
  all_goals refine ⟨ret_int ?_, rfl⟩
  all_goals unfold glyphR
  all_goals simp_all

set_option maxHeartbeats 4000000 in
theorem sign_any (f : Int) (w : World) : Calls Tryz.prog 83 #[.int .i64 f] w fun e w' => e = .returned (.int .i32 (signR f)) ∧ w = w' := by
  go_enter Tryz.func83, Tryz.ntmps83
  go_wp2_with fail
  all_goals go_ret
  all_goals refine ⟨ret_int ?_, rfl⟩
  all_goals unfold signR
  all_goals simp_all

set_option maxHeartbeats 1000000 in
theorem letter_any (x : Int) (w : World) : Calls Tryz.prog 79 #[.int .u8 x] w fun e w' => e = .returned (.bool (letB x)) ∧ w = w' := by
  by_cases h1 : 97 ≤ x <;> by_cases h2 : x ≤ 122 <;> by_cases h3 : 65 ≤ x <;> by_cases h4 : x ≤ 90
  all_goals first | (exfalso; omega) | skip
  all_goals
    obtain ⟨v, hv⟩ : ∃ v, v = letB x := ⟨_, rfl⟩
    have HV : v = _ := hv.trans (by simp only [letB, h1, h2, h3, h4, decide_true, decide_false]; rfl)
    rw [← hv, HV]
    clear hv HV
    go_enter Tryz.func79, Tryz.ntmps79
    go_wp2_with fail
    go_ret
    exact ⟨rfl, rfl⟩

set_option maxHeartbeats 1000000 in
theorem within_any (x : Int) (w : World) : Calls Tryz.prog 80 #[.int .u8 x] w fun e w' => e = .returned (.bool (inB x)) ∧ w = w' := by
  cases hl : letB x <;> cases hd : digB x <;> cases h9 : (x == 95)
  all_goals
    have HV : inB x = _ := (show inB x = (letB x || digB x || (x == 95)) by unfold inB; congr 1).trans (by rw [hl, hd, h9])
    rw [HV]
    clear HV
    go_enter Tryz.func80, Tryz.ntmps80
    go_wp2_with (first
      | (go_at_call 79; refine (letter_any _ _).mono ?_; rintro e w' ⟨rfl, rfl⟩)
      | (go_at_call 77; refine (digit_any _ _).mono ?_; rintro e w' ⟨rfl, rfl⟩))
    go_ret
    exact ⟨rfl, rfl⟩

set_option maxHeartbeats 1000000 in
theorem fnOf_yes (c F : Int) (w : World) (h : FnOf c F) : Calls Tryz.prog 82 #[.int .i32 c] w fun e w' => e = .returned (.tuple #[.int .i64 F, .bool true]) ∧ w = w' := by
  obtain ⟨h1, h2, h3, h4⟩ := h
  have H3 := Lib.hid h3
  have H4 := Lib.hid h4
  clear h3 h4
  go_enter Tryz.func82, Tryz.ntmps82
  go_wp2_with fail
  go_loop [4] (fun s4 => ∃ k : Int, 1 ≤ k ∧ k ≤ F ∧ s4 = .int .i64 k) (fun s4 => (F - intOf s4).toNat)
  case atStart => exact ⟨1, by omega, h1, rfl⟩
  case round =>
    obtain ⟨k, hk1, hk2, rfl⟩ := hrel
    by_cases hkF : k = F
    · subst hkF
      have e1 : (glyphR k == c) = true := by simp [H3.out]
      have hk : k ≤ 34 := h2
      go_wp2_with (go_at_call 88; refine (glyph_any _ _).mono ?_; rintro e w' ⟨rfl, rfl⟩)
      go_ret2
      exact ⟨rfl, rfl⟩
    · have e1 : (glyphR k == c) = false := by simp; exact H4.out k hk1 (by omega)
      have hk : k ≤ 34 := by omega
      have hkF' : k < F := by omega
      clear hkF
      go_wp2_with (go_at_call 88; refine (glyph_any _ _).mono ?_; rintro e w' ⟨rfl, rfl⟩)
      go_round
      case rel => exact ⟨k + 1, by omega, by omega, rfl⟩
      case measure => simp [intOf]; omega

set_option maxHeartbeats 1000000 in
theorem fnOf_no (c : Int) (w : World) (h : NoFn c) : Calls Tryz.prog 82 #[.int .i32 c] w fun e w' => e = .returned (.tuple #[.int .i64 0, .bool false]) ∧ w = w' := by
  have H4 := Lib.hid h
  clear h
  go_enter Tryz.func82, Tryz.ntmps82
  go_wp2_with fail
  go_loop [4] (fun s4 => ∃ k : Int, 1 ≤ k ∧ k ≤ 35 ∧ s4 = .int .i64 k) (fun s4 => (35 - intOf s4).toNat)
  case atStart => exact ⟨1, by omega, by omega, rfl⟩
  case round =>
    obtain ⟨k, hk1, hk2, rfl⟩ := hrel
    by_cases hkF : k ≤ 34
    · have e1 : (glyphR k == c) = false := by simp; exact H4.out k hk1 hkF
      go_wp2_with (go_at_call 88; refine (glyph_any _ _).mono ?_; rintro e w' ⟨rfl, rfl⟩)
      go_round
      case rel => exact ⟨k + 1, by omega, by omega, rfl⟩
      case measure => simp [intOf]; omega
    · go_wp2_with fail
      go_ret2
      exact ⟨rfl, rfl⟩

end Go.Proofs.YtihndbkaoejnnaaGreatDoor

namespace Go.Proofs.YtihndbkaoejnnaaGreatDoor
open Go Go.RowKit Go.Proofs.YtihndbkaoejnnaaGreatDoor.P

theorem grownBy_draws (w : World) (n : Nat) (row : Option Nat) : w.grownBy (w.drewN n) row := ⟨rfl, rfl, rfl, Nat.le_refl _, fun _ _ _ => rfl⟩
theorem grownBy_of_below {w w' : World} {n : Nat} {row : Option Nat} (h : Below n w w') (hn : w.heap.size ≤ n) : w.grownBy w' row := ⟨h.os, h.tape, h.output, h.size, fun k hk _ => h.block k (Nat.lt_of_lt_of_le hk hn)⟩

theorem grownBy_after {w w1 w2 : World} {row : Option Nat} {g : Nat} (h : w.grownBy w1 row) (h2 : w1.grownBy w2 (some g)) (hg : w.heap.size ≤ g) : w.grownBy w2 row :=
  ⟨h2.os.trans h.os, h2.tape.trans h.tape, h2.output.trans h.output, Nat.le_trans h.size h2.size, fun k hk hne => (h2.block k (Nat.lt_of_lt_of_le hk h.size) (fun e => by injection e with e; omega)).trans (h.block k hk hne)⟩
theorem grownBy_row {w w1 w2 : World} {row r2 : Option Nat} (h : w.grownBy w1 row) (h2 : w1.grownBy w2 r2) (hg : ∀ k, r2 = some k → w.heap.size ≤ k) : w.grownBy w2 row :=
  ⟨h2.os.trans h.os, h2.tape.trans h.tape, h2.output.trans h.output, Nat.le_trans h.size h2.size, fun k hk hne => (h2.block k (Nat.lt_of_lt_of_le hk h.size) (fun e => by have := hg k e.symm; omega)).trans (h.block k hk hne)⟩
theorem grownBy_then {w w1 w2 : World} {row : Option Nat} (h : w.grownBy w1 row) (h2 : Below w1.heap.size w1 w2) : w.grownBy w2 row := grownBy_trans h (grownBy_of_below h2 (Nat.le_refl _))
theorem grownBy_five (w : World) (b : Nat) (u0 u1 u2 u3 u4 : Value) : w.grownBy (((((w.setCell ⟨b, 0, none⟩ u0).setCell ⟨b, 1, none⟩ u1).setCell ⟨b, 2, none⟩ u2).setCell ⟨b, 3, none⟩ u3).setCell ⟨b, 4, none⟩ u4) (some b) :=
  grownBy_trans (grownBy_trans (grownBy_three _ _ _ _ _) (grownBy_setCell _ _ _ _)) (grownBy_setCell _ _ _ _)
theorem Box.five {w : World} {b : Nat} {t : TypeId} {c0 c1 c2 c3 c4 : Value} (h : Box w b t #[c0, c1, c2, c3, c4]) :
    w.cell? ⟨b, 0, none⟩ = some c0 ∧ w.cell? ⟨b, 1, none⟩ = some c1 ∧ w.cell? ⟨b, 2, none⟩ = some c2 ∧ w.cell? ⟨b, 3, none⟩ = some c3 ∧ w.cell? ⟨b, 4, none⟩ = some c4 := ⟨h.cell 0, h.cell 1, h.cell 2, h.cell 3, h.cell 4⟩

/-- The reader's block: the line, the place, the words. -/
def Reader (w : World) (R : Nat) (src : ByteArray) (pos : Nat) (wv : Value) : Prop := Box w R 85 #[.string src, .int .i64 pos, wv]
theorem Reader.drewN {w : World} {R : Nat} {src : ByteArray} {pos : Nat} {wv : Value} (h : Reader w R src pos wv) (n : Nat) : Reader (w.drewN n) R src pos wv := h
theorem Reader.at_ {w : World} {R : Nat} {src : ByteArray} {pos : Nat} {wv : Value} (h : Reader w R src pos wv) (q : Nat) : Reader (w.setCell ⟨R, 1, none⟩ (.int .i64 q)) R src q wv := Box.store h 1 _
theorem Reader.grown {w w' : World} {R g : Nat} {src : ByteArray} {pos : Nat} {wv : Value} (h : Reader w R src pos wv) (hg : w.grownBy w' (some g)) (hne : g ≠ R) : Reader w' R src pos wv := Box.grown h hg (by simpa using hne)
theorem Reader.below {w w' : World} {R : Nat} {src : ByteArray} {pos : Nat} {wv : Value} (h : Reader w R src pos wv) (hb : Below w.heap.size w w') : Reader w' R src pos wv := Box.below h hb

set_option maxHeartbeats 1000000 in
theorem rest_any {w : World} {R : Nat} {src : ByteArray} {pos : Nat} {wv : Value} (h : Reader w R src pos wv) (hp : pos ≤ src.size) :
    Calls Tryz.prog 60 #[.pointer (some ⟨R, 0, none⟩)] w fun e w' => e = .returned (.string (src.extract pos src.size)) ∧ ∃ n, w' = w.drewN n := by
  obtain ⟨c0, c1, c2⟩ := Box.three h
  clear h
  go_enter Tryz.func60, Tryz.ntmps60
  go_wp2_with fail
  go_quiet (fail)
  all_goals go_wp2_with fail
  go_ret
  exact ⟨rfl, _, rfl⟩

/-- The place at which a reader stands. -/
def posIn (w : World) (R : Nat) : Nat := match w.cell? ⟨R, 1, none⟩ with | some (.int _ x) => x.toNat | _ => 0
theorem Reader.posIn {w : World} {R : Nat} {src : ByteArray} {pos : Nat} {wv : Value} (h : Reader w R src pos wv) : posIn w R = pos := by
  unfold Go.Proofs.YtihndbkaoejnnaaGreatDoor.posIn
  rw [(Box.three h).2.1]
  simp

set_option maxHeartbeats 4000000 in
theorem while_any (F : FuncId) (p : Int → Bool) (hp : ∀ (x : Int) (W : World), Calls Tryz.prog F #[.int .u8 x] W fun e W' => e = .returned (.bool (p x)) ∧ W = W')
    (hcf : ∀ args W, (callFunc F args).run Tryz.prog W = .ok (.enter F args) W)
    {w : World} {R : Nat} {src : ByteArray} {pos n : Nat} {wv : Value} (h : Reader w R src pos wv) (hs : src.size ≤ 1000) (hn : pos + n ≤ src.size)
    (hall : ∀ k, pos ≤ k → k < pos + n → (hk : k < src.size) → p (src[k].toNat : Int) = true) (hstop : (hk : pos + n < src.size) → p (src[pos + n].toNat : Int) = false) :
    Calls Tryz.prog 58 #[.pointer (some ⟨R, 0, none⟩), .func (.func F) #[] #[]] w fun e w' =>
      e = .returned (.string (src.extract pos (pos + n))) ∧ Reader w' R src (pos + n) wv ∧ w.grownBy w' (some R) := by
  have H := Lib.hid h
  obtain ⟨c0, c1, c2⟩ := Box.three h
  have HP := Lib.hid hp
  have HA := Lib.hid hall
  have HS := Lib.hid hstop
  clear h hall hstop hp
  go_enter Tryz.func58, Tryz.ntmps58
  go_wp2_with fail
  clear c0 c1 c2
  go_loopw [32] (fun _ wr => ∃ k : Nat, pos ≤ k ∧ k ≤ pos + n ∧ Reader wr R src k wv ∧ w.grownBy wr (some R)) (fun _ wr => src.size - posIn wr R)
  case atStart => exact ⟨pos, Nat.le_refl _, by omega, H.out, World.grownBy.refl _ _⟩
  case round =>
    obtain ⟨k, hk1, hk2, hr, hg⟩ := hrel
    have HR := Lib.hid hr
    obtain ⟨c0, c1, c2⟩ := Box.three hr
    have fz := Box.frozen hr 1
    have lt := Box.lt hr
    clear hr
    have HG := Lib.hid hg
    clear hg
    by_cases hk : k < pos + n
    · have hks : k < src.size := by omega
      have HPK := Lib.hid (HA.out k hk1 hk hks)
      have HC := Lib.hid (fun m => ((HP.out (src[k].toNat : Int) (wr.drewN m)).mono fun e W' q => (⟨q.1.trans (by rw [HPK.out]), q.2.symm⟩ : e = .returned (.bool true) ∧ W' = wr.drewN m)))
      go_wp2_with fail
      go_quiet ((exact Calls.quiet_of_same (HC.out _)))
      all_goals go_wp2_with fail
      go_roundw
      case rel => exact ⟨k + 1, by omega, by omega, Reader.at_ (HR.out.drewN _) (k + 1), grownBy_trans (grownBy_trans HG.out (grownBy_draws _ _ _)) (grownBy_setCell _ _ _ _)⟩
      case measure =>
        exact (show ∀ a b, a = k + 1 → b = k → src.size - a < src.size - b from fun a b h1 h2 => by omega) _ _ (Reader.posIn (Reader.at_ (HR.out.drewN _) (k + 1))) HR.out.posIn
    · have HKN := Lib.hid (show k = pos + n by omega)
      have hke : k ≤ src.size := by omega
      clear hk
      by_cases hks : k < src.size
      · have HPK := Lib.hid (show p (src[k].toNat : Int) = false by have e := HKN.out; subst e; exact HS.out hks)
        have HC := Lib.hid (fun m => ((HP.out (src[k].toNat : Int) (wr.drewN m)).mono fun e W' q => (⟨q.1.trans (by rw [HPK.out]), q.2.symm⟩ : e = .returned (.bool false) ∧ W' = wr.drewN m)))
        go_wp2_with fail
        go_quiet ((exact Calls.quiet_of_same (HC.out _)))
        all_goals go_wp2_with fail
        go_quiet (fail)
        all_goals go_wp2_with fail
        go_ret
        exact ⟨(by have e := HKN.out; show Ending.returned (.string (src.extract pos k)) = _; rw [e]), (by rw [← HKN.out]; exact (HR.out.drewN _).drewN _), grownBy_trans (grownBy_trans HG.out (grownBy_draws _ _ _)) (grownBy_draws _ _ _)⟩
      · go_wp2_with fail
        go_quiet (fail)
        all_goals go_wp2_with fail
        go_quiet (fail)
        all_goals go_wp2_with fail
        go_ret
        exact ⟨(by have e := HKN.out; show Ending.returned (.string (src.extract pos k)) = _; rw [e]), (by rw [← HKN.out]; exact (HR.out.drewN _).drewN _), grownBy_trans (grownBy_trans HG.out (grownBy_draws _ _ _)) (grownBy_draws _ _ _)⟩

end Go.Proofs.YtihndbkaoejnnaaGreatDoor
