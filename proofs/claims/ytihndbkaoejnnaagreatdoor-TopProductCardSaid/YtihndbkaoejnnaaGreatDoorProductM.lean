/- What the card TopProduct leans on: LexNumber, LexWord, LexWords. Conditions: none but those of its theorems. -/
import Derived.Test.YtihndbkaoejnnaaGreatDoorProductL
import Derived.Test.YtihndbkaoejnnaaGreatDoorProductD
set_option linter.unusedSimpArgs false
set_option linter.unusedVariables false
namespace Go.Proofs.YtihndbkaoejnnaaGreatDoor
open Go Go.RowKit Go.Proofs.YtihndbkaoejnnaaGreatDoor.P

theorem enters_digit : ∀ args w, (callFunc 77 args).run Tryz.prog w = .ok (.enter 77 args) w := enters_of Tryz.func77 (by kernel_rfl) rfl
theorem enters_within : ∀ args w, (callFunc 80 args).run Tryz.prog w = .ok (.enter 80 args) w := enters_of Tryz.func80 (by kernel_rfl) rfl
theorem enters_space : ∀ args w, (callFunc 59 args).run Tryz.prog w = .ok (.enter 59 args) w := enters_of Tryz.func59 (by kernel_rfl) rfl

/-- So many bytes from here on are so, and no more. -/
def Runs (p : Int → Bool) (src : ByteArray) (pos n : Nat) : Prop :=
  pos + n ≤ src.size ∧ (∀ k, pos ≤ k → k < pos + n → (hk : k < src.size) → p (src[k].toNat : Int) = true) ∧ ((hk : pos + n < src.size) → p (src[pos + n].toNat : Int) = false)

/-- A word as a struct's value. -/
def tokV (k f n : Int) (t : ByteArray) (at_ : Nat) : Value := .agg #[.int .i64 k, .int .i64 f, .int .i64 n, .string t, .int .i64 at_]

set_option maxHeartbeats 2000000 in
theorem number_any {w : World} {R : Nat} {src : ByteArray} {pos n at_ : Nat} {wv : Value} {v : Int} {t : ByteArray} (minus : Bool) (ht : (if minus then ⟨#[45]⟩ ++ src.extract pos (pos + n) else src.extract pos (pos + n)) = t) (h : Reader w R src pos wv) (hs : src.size ≤ 900) (hr : Runs digB src pos n) (hts : t.size ≤ 1000) (hv : Lib.parseIntB 64 t.data.toList = .ok v) :
    Calls Tryz.prog 78 #[.pointer (some ⟨R, 0, none⟩), .int .i64 at_, .bool minus] w fun e w' =>
      e = .returned (tokV 1 0 v ⟨#[]⟩ at_) ∧ Reader w' R src (pos + n) wv ∧ w.grownBy w' (some R) := by
  have HW := Lib.hid (fun (W : World) (hW : Reader W R src pos wv) => while_any 77 digB digit_any enters_digit hW (by omega) hr.1 hr.2.1 hr.2.2)
  have HT := Lib.hid ht
  have HV := Lib.hid hv
  have hb0 := Below.refl w.heap.size w
  have HR := Lib.hid h
  have hRlt := Box.lt h
  clear ht hv hr h hb0
  cases minus
  all_goals
    go_enter Tryz.func78, Tryz.ntmps78
    go_wp2_with fail
    refine (HW.out _ (Reader.below HR.out (below_one _ _))).mono ?_
    rintro e w1 ⟨rfl, hr1, hg1⟩
    have b1 := Box.grown (Box.new w 113 #[.int .i64 0, .int .i64 0, .int .i64 0, .string ⟨#[]⟩, .int .i64 0]) hg1 (by simp; omega)
    go_wp2_with fail
    have HT' := HT.out
    simp only [if_true, Bool.false_eq_true, if_false] at HT'
    rw [HT']
    clear HT'
    refine (parse_ok t v _ hts HV.out).mono ?_
    rintro e w2 ⟨rfl, hb2⟩
    have b2 := b1.below hb2
    have lt2 := b2.lt
    have fz2 := b2.frozen
    obtain ⟨q0, q1, q2, q3, q4⟩ := b2.five
    have hr2 := Lib.hid (Reader.below hr1 hb2)
    have hg2 := Lib.hid (grownBy_then (grownBy_trans (grownBy_of_below (row := some R) (below_one w (.cells #[.int .i64 0, .int .i64 0, .int .i64 0, .string ⟨#[]⟩, .int .i64 0] 113)) (Nat.le_refl _)) hg1) hb2)
    clear b1 b2 hb2 hg1 hr1
    have hne : w.heap.size ≠ R := by omega
    go_wp2_with fail
    have hg5 := grownBy_five w2 w.heap.size (.int .i64 1) (.int .i64 0) (.int .i64 v) (.string ⟨#[]⟩) (.int .i64 at_)
    refine bodyPost_ret (v := tokV 1 0 v ⟨#[]⟩ at_) (by simp [tokV, results, Tryz.results78, go_sem, lt2, q0, q1, q2, q3, q4]) rfl ?_
    exact ⟨rfl, hr2.out.grown hg5 hne, grownBy_after hg2.out hg5 (Nat.le_refl _)⟩

end Go.Proofs.YtihndbkaoejnnaaGreatDoor

namespace Go.Proofs.YtihndbkaoejnnaaGreatDoor
open Go Go.RowKit Go.Proofs.YtihndbkaoejnnaaGreatDoor.P

/-- A word is read. -/
def Words (t : Value) (R : Nat) (src : ByteArray) (q : Nat) (wv : Value) (w : World) (e : Ending) (w' : World) : Prop := e = .returned t ∧ Reader w' R src q wv ∧ w.grownBy w' (some R)

abbrev zeroTok : Array Value := #[.int .i64 0, .int .i64 0, .int .i64 0, .string ⟨#[]⟩, .int .i64 0]

set_option maxRecDepth 100000 in
set_option maxHeartbeats 4000000 in
theorem word_number {w : World} {R : Nat} {src : ByteArray} {pos n c k : Nat} {wv : Value} {v : Int} (hst : Std w) (h : Reader w R src pos wv) (hs : src.size ≤ 900) (hp : pos ≤ src.size)
    (hd : Lib.decodeGo (src.extract pos src.size) = (c, k)) (hc : c < 128) (hdc : digB c = true) (hr : Runs digB src pos n) (hv : Lib.parseIntB 64 (src.extract pos (pos + n)).data.toList = .ok v) :
    Calls Tryz.prog 62 #[.pointer (some ⟨R, 0, none⟩)] w (Words (tokV 1 0 v ⟨#[]⟩ pos) R src (pos + n) wv w) := by
  have HR := Lib.hid h
  have hRlt := Box.lt h
  have HST := Lib.hid hst
  have HD := Lib.hid hd
  obtain ⟨c0, c1, c2⟩ := Box.three (Reader.below h (below_one w (.cells zeroTok 113)))
  have hsz : (src.extract pos (pos + n)).size ≤ 1000 := by rw [ByteArray.size_extract]; omega
  have HN := Lib.hid (fun (W : World) (hW : Reader W R src pos wv) => number_any (at_ := pos) false rfl hW hs hr hsz hv)
  have HREST := Lib.hid (fun (W : World) (hW : Reader W R src pos wv) => rest_any hW hp)
  clear h hst hd hv hr hsz
  go_enter Tryz.func62, Tryz.ntmps62
  go_wp2_with fail
  refine (HREST.out _ (Reader.below HR.out (below_one _ _))).mono ?_
  rintro e w1 ⟨rfl, n1, rfl⟩
  have hb1 : Below w.heap.size w ((w.alloc (.cells zeroTok 113)).drewN n1) := (below_one w _).trans (below_draws _ _ _)
  go_wp2_with fail
  refine (decode_any _ _ (HST.out.below hb1)).mono ?_
  rintro e w2 ⟨rfl, hb2⟩
  rw [HD.out]
  have b2 := ((Box.new w 113 zeroTok).drewN n1).below hb2
  have hbw2 := hb1.trans (hb2.mono hb1.size)
  have hr2 := Reader.below HR.out hbw2
  clear hb1 hb2 c0 c1 c2
  go_wp2_with (go_at_call 77; refine (digit_any _ _).mono ?_; rintro e w' ⟨rfl, rfl⟩)
  refine (HN.out _ hr2).mono ?_
  rintro e w3 ⟨rfl, hr3, hg3⟩
  have b3 := Box.grown b2 hg3 (by simp; omega)
  have lt3 := b3.lt
  have fz3 := b3.frozen
  obtain ⟨q0, q1, q2, q3, q4⟩ := b3.five
  have H3 := Lib.hid hr3
  have HG := Lib.hid (grownBy_trans (grownBy_of_below (row := some R) hbw2 (Nat.le_refl _)) hg3)
  have hne : w.heap.size ≠ R := by omega
  clear b2 b3 hr2 hr3 hg3 hbw2
  unfold tokV
  go_wp2_with fail
  have hg5 := grownBy_five w3 w.heap.size (.int .i64 1) (.int .i64 0) (.int .i64 v) (.string ⟨#[]⟩) (.int .i64 pos)
  refine bodyPost_ret (v := tokV 1 0 v ⟨#[]⟩ pos) (by simp [tokV, results, Tryz.results62, go_sem, lt3, q0, q1, q2, q3, q4]) rfl ?_
  exact ⟨rfl, H3.out.grown hg5 hne, grownBy_after HG.out hg5 (Nat.le_refl _)⟩

end Go.Proofs.YtihndbkaoejnnaaGreatDoor

namespace Go.Proofs.YtihndbkaoejnnaaGreatDoor
open Go Go.RowKit Go.Proofs.YtihndbkaoejnnaaGreatDoor.P

/-- A rune that begins no number and no name. -/
def Other (c : Nat) : Prop := (c < 128 → digB c = false ∧ letB c = false) ∧ c ≠ 175 ∧ c ≠ 39

set_option maxRecDepth 100000 in
set_option maxHeartbeats 8000000 in
theorem word_glyph {w : World} {R : Nat} {src : ByteArray} {pos c k : Nat} {wv : Value} {F : Int} (hst : Std w) (h : Reader w R src pos wv) (hs : src.size ≤ 900) (hp : pos + k ≤ src.size)
    (hd : Lib.decodeGo (src.extract pos src.size) = (c, k)) (hc : Other c) (hF : FnOf c F) :
    Calls Tryz.prog 62 #[.pointer (some ⟨R, 0, none⟩)] w (Words (tokV 4 F 0 ⟨#[]⟩ pos) R src (pos + k) wv w) := by
  have HR := Lib.hid h
  have hRlt := Box.lt h
  have HST := Lib.hid hst
  have HD := Lib.hid hd
  have HF := Lib.hid hF
  clear hF
  obtain ⟨hc1, hc2, hc3⟩ := hc
  have HC := Lib.hid hc1
  have e1 : ((c : Int) == 175) = false := by simp; omega
  have e2 : ((c : Int) == 39) = false := by simp; omega
  clear hc1 hc2 hc3
  obtain ⟨c0, c1, c2⟩ := Box.three (Reader.below h (below_one w (.cells zeroTok 113)))
  have HREST := Lib.hid (fun (W : World) (hW : Reader W R src pos wv) => rest_any hW (by omega))
  clear h hst hd
  by_cases hlt : c < 128
  · have hd1 := (HC.out hlt).1
    have hd2 := (HC.out hlt).2
    have hlt' : (c : Int) < 128 := by omega
    go_enter Tryz.func62, Tryz.ntmps62
    go_wp2_with fail
    refine (HREST.out _ (Reader.below HR.out (below_one _ _))).mono ?_
    rintro e w1 ⟨rfl, n1, rfl⟩
    have hb1 : Below w.heap.size w ((w.alloc (.cells zeroTok 113)).drewN n1) := (below_one w _).trans (below_draws _ _ _)
    go_wp2_with fail
    refine (decode_any _ _ (HST.out.below hb1)).mono ?_
    rintro e w2 ⟨rfl, hb2⟩
    rw [HD.out]
    have b2 := ((Box.new w 113 zeroTok).drewN n1).below hb2
    have hbw2 := hb1.trans (hb2.mono hb1.size)
    have hr2 := Reader.below HR.out hbw2
    clear hb1 hb2 c0 c1 c2
    obtain ⟨c0, c1, c2⟩ := Box.three hr2
    have cf := Box.frozen hr2 1
    have cl := Box.lt hr2
    have b3 := Box.far b2 (p := ⟨R, 1, none⟩) (by simp; omega) (.int .i64 (pos + k : Nat))
    have lt3 := b2.lt
    have fz2 := b2.frozen
    obtain ⟨q0, q1, q2, q3, q4⟩ := b2.five
    have H3 := Lib.hid (Reader.at_ hr2 (pos + k))
    have HG := Lib.hid (grownBy_trans (grownBy_of_below (row := some R) hbw2 (Nat.le_refl _)) (grownBy_setCell w2 R 1 (.int .i64 (pos + k : Nat))))
    have hne : w.heap.size ≠ R := by omega
    clear b2 b3 hr2 hbw2
    go_wp2_with (first | (go_at_call 77; refine (digit_any _ _).mono ?_; rintro e w' ⟨rfl, rfl⟩) | (go_at_call 79; refine (letter_any _ _).mono ?_; rintro e w' ⟨rfl, rfl⟩) | (go_at_call 82; refine (fnOf_yes _ _ _ HF.out).mono ?_; rintro e w' ⟨rfl, rfl⟩))
    have hg5 := grownBy_five (w2.setCell ⟨R, 1, none⟩ (.int .i64 (pos + k : Nat))) w.heap.size (.int .i64 4) (.int .i64 F) (.int .i64 0) (.string ⟨#[]⟩) (.int .i64 pos)
    refine bodyPost_ret (v := tokV 4 F 0 ⟨#[]⟩ pos) (by simp [tokV, results, Tryz.results62, go_sem, lt3, q0, q1, q2, q3, q4]) rfl ?_
    exact ⟨rfl, H3.out.grown hg5 hne, grownBy_after HG.out hg5 (Nat.le_refl _)⟩
  · have hlt' : ¬ (c : Int) < 128 := by omega
    go_enter Tryz.func62, Tryz.ntmps62
    go_wp2_with fail
    refine (HREST.out _ (Reader.below HR.out (below_one _ _))).mono ?_
    rintro e w1 ⟨rfl, n1, rfl⟩
    have hb1 : Below w.heap.size w ((w.alloc (.cells zeroTok 113)).drewN n1) := (below_one w _).trans (below_draws _ _ _)
    go_wp2_with fail
    refine (decode_any _ _ (HST.out.below hb1)).mono ?_
    rintro e w2 ⟨rfl, hb2⟩
    rw [HD.out]
    have b2 := ((Box.new w 113 zeroTok).drewN n1).below hb2
    have hbw2 := hb1.trans (hb2.mono hb1.size)
    have hr2 := Reader.below HR.out hbw2
    clear hb1 hb2 c0 c1 c2
    obtain ⟨c0, c1, c2⟩ := Box.three hr2
    have cf := Box.frozen hr2 1
    have cl := Box.lt hr2
    have b3 := Box.far b2 (p := ⟨R, 1, none⟩) (by simp; omega) (.int .i64 (pos + k : Nat))
    have lt3 := b2.lt
    have fz2 := b2.frozen
    obtain ⟨q0, q1, q2, q3, q4⟩ := b2.five
    have H3 := Lib.hid (Reader.at_ hr2 (pos + k))
    have HG := Lib.hid (grownBy_trans (grownBy_of_below (row := some R) hbw2 (Nat.le_refl _)) (grownBy_setCell w2 R 1 (.int .i64 (pos + k : Nat))))
    have hne : w.heap.size ≠ R := by omega
    clear b2 b3 hr2 hbw2
    go_wp2_with (first | (go_at_call 77; refine (digit_any _ _).mono ?_; rintro e w' ⟨rfl, rfl⟩) | (go_at_call 79; refine (letter_any _ _).mono ?_; rintro e w' ⟨rfl, rfl⟩) | (go_at_call 82; refine (fnOf_yes _ _ _ HF.out).mono ?_; rintro e w' ⟨rfl, rfl⟩))
    have hg5 := grownBy_five (w2.setCell ⟨R, 1, none⟩ (.int .i64 (pos + k : Nat))) w.heap.size (.int .i64 4) (.int .i64 F) (.int .i64 0) (.string ⟨#[]⟩) (.int .i64 pos)
    refine bodyPost_ret (v := tokV 4 F 0 ⟨#[]⟩ pos) (by simp [tokV, results, Tryz.results62, go_sem, lt3, q0, q1, q2, q3, q4]) rfl ?_
    exact ⟨rfl, H3.out.grown hg5 hne, grownBy_after HG.out hg5 (Nat.le_refl _)⟩

set_option maxRecDepth 100000 in
set_option maxHeartbeats 8000000 in
theorem word_sign {w : World} {R : Nat} {src : ByteArray} {pos c k : Nat} {wv : Value} {K : Int} (hst : Std w) (h : Reader w R src pos wv) (hs : src.size ≤ 900) (hp : pos + k ≤ src.size)
    (hd : Lib.decodeGo (src.extract pos src.size) = (c, k)) (hc : Other c) (hF : NoFn c) (hK : SignOf c K) :
    Calls Tryz.prog 62 #[.pointer (some ⟨R, 0, none⟩)] w (Words (tokV K 0 0 ⟨#[]⟩ pos) R src (pos + k) wv w) := by
  have HR := Lib.hid h
  have hRlt := Box.lt h
  have HST := Lib.hid hst
  have HD := Lib.hid hd
  have HF := Lib.hid hF
  have HK := Lib.hid hK
  have hk5 := hK.1
  have hk20 := hK.2.1
  clear hF hK
  obtain ⟨hc1, hc2, hc3⟩ := hc
  have HC := Lib.hid hc1
  have e1 : ((c : Int) == 175) = false := by simp; omega
  have e2 : ((c : Int) == 39) = false := by simp; omega
  clear hc1 hc2 hc3
  obtain ⟨c0, c1, c2⟩ := Box.three (Reader.below h (below_one w (.cells zeroTok 113)))
  have HREST := Lib.hid (fun (W : World) (hW : Reader W R src pos wv) => rest_any hW (by omega))
  clear h hst hd
  by_cases hlt : c < 128
  · have hd1 := (HC.out hlt).1
    have hd2 := (HC.out hlt).2
    have hlt' : (c : Int) < 128 := by omega
    go_enter Tryz.func62, Tryz.ntmps62
    go_wp2_with fail
    refine (HREST.out _ (Reader.below HR.out (below_one _ _))).mono ?_
    rintro e w1 ⟨rfl, n1, rfl⟩
    have hb1 : Below w.heap.size w ((w.alloc (.cells zeroTok 113)).drewN n1) := (below_one w _).trans (below_draws _ _ _)
    go_wp2_with fail
    refine (decode_any _ _ (HST.out.below hb1)).mono ?_
    rintro e w2 ⟨rfl, hb2⟩
    rw [HD.out]
    have b2 := ((Box.new w 113 zeroTok).drewN n1).below hb2
    have hbw2 := hb1.trans (hb2.mono hb1.size)
    have hr2 := Reader.below HR.out hbw2
    clear hb1 hb2 c0 c1 c2
    obtain ⟨c0, c1, c2⟩ := Box.three hr2
    have cf := Box.frozen hr2 1
    have cl := Box.lt hr2
    have b3 := Box.far b2 (p := ⟨R, 1, none⟩) (by simp; omega) (.int .i64 (pos + k : Nat))
    have lt3 := b2.lt
    have fz2 := b2.frozen
    obtain ⟨q0, q1, q2, q3, q4⟩ := b2.five
    have H3 := Lib.hid (Reader.at_ hr2 (pos + k))
    have HG := Lib.hid (grownBy_trans (grownBy_of_below (row := some R) hbw2 (Nat.le_refl _)) (grownBy_setCell w2 R 1 (.int .i64 (pos + k : Nat))))
    have hne : w.heap.size ≠ R := by omega
    clear b2 b3 hr2 hbw2
    go_wp2_with (first | (go_at_call 77; refine (digit_any _ _).mono ?_; rintro e w' ⟨rfl, rfl⟩) | (go_at_call 79; refine (letter_any _ _).mono ?_; rintro e w' ⟨rfl, rfl⟩) | (go_at_call 82; refine (fnOf_no _ _ HF.out).mono ?_; rintro e w' ⟨rfl, rfl⟩))
    go_loop [10] (fun s10 => ∃ j : Int, 5 ≤ j ∧ j ≤ K ∧ s10 = .int .i64 j) (fun s10 => (K - intOf s10).toNat)
    case atStart => exact ⟨5, by omega, hk5, rfl⟩
    case round =>
      obtain ⟨j, hj1, hj2, rfl⟩ := hrel
      have hj3 : j ≤ 20 := by omega
      by_cases hjK : j = K
      · subst hjK
        have e3 : (signR j == (c : Int)) = true := by simp [HK.out.2.2.1]
        go_wp2_with (go_at_call 83; refine (sign_any _ _).mono ?_; rintro e w' ⟨rfl, rfl⟩)
        have hg5 := grownBy_five (w2.setCell ⟨R, 1, none⟩ (.int .i64 (pos + k : Nat))) w.heap.size (.int .i64 j) (.int .i64 0) (.int .i64 0) (.string ⟨#[]⟩) (.int .i64 pos)
        refine bodyPost_ret (v := tokV j 0 0 ⟨#[]⟩ pos) (by simp [tokV, results, Tryz.results62, go_sem, lt3, q0, q1, q2, q3, q4]) rfl ?_
        exact ⟨rfl, H3.out.grown hg5 hne, grownBy_after HG.out hg5 (Nat.le_refl _)⟩
      · have e3 : (signR j == (c : Int)) = false := by simp; exact HK.out.2.2.2 j hj1 (by omega)
        have hjK' : j < K := by omega
        clear hjK
        go_wp2_with (go_at_call 83; refine (sign_any _ _).mono ?_; rintro e w' ⟨rfl, rfl⟩)
        go_round
        case rel => exact ⟨j + 1, by omega, by omega, rfl⟩
        case measure => simp [intOf]; omega
  · have hlt' : ¬ (c : Int) < 128 := by omega
    go_enter Tryz.func62, Tryz.ntmps62
    go_wp2_with fail
    refine (HREST.out _ (Reader.below HR.out (below_one _ _))).mono ?_
    rintro e w1 ⟨rfl, n1, rfl⟩
    have hb1 : Below w.heap.size w ((w.alloc (.cells zeroTok 113)).drewN n1) := (below_one w _).trans (below_draws _ _ _)
    go_wp2_with fail
    refine (decode_any _ _ (HST.out.below hb1)).mono ?_
    rintro e w2 ⟨rfl, hb2⟩
    rw [HD.out]
    have b2 := ((Box.new w 113 zeroTok).drewN n1).below hb2
    have hbw2 := hb1.trans (hb2.mono hb1.size)
    have hr2 := Reader.below HR.out hbw2
    clear hb1 hb2 c0 c1 c2
    obtain ⟨c0, c1, c2⟩ := Box.three hr2
    have cf := Box.frozen hr2 1
    have cl := Box.lt hr2
    have b3 := Box.far b2 (p := ⟨R, 1, none⟩) (by simp; omega) (.int .i64 (pos + k : Nat))
    have lt3 := b2.lt
    have fz2 := b2.frozen
    obtain ⟨q0, q1, q2, q3, q4⟩ := b2.five
    have H3 := Lib.hid (Reader.at_ hr2 (pos + k))
    have HG := Lib.hid (grownBy_trans (grownBy_of_below (row := some R) hbw2 (Nat.le_refl _)) (grownBy_setCell w2 R 1 (.int .i64 (pos + k : Nat))))
    have hne : w.heap.size ≠ R := by omega
    clear b2 b3 hr2 hbw2
    go_wp2_with (first | (go_at_call 77; refine (digit_any _ _).mono ?_; rintro e w' ⟨rfl, rfl⟩) | (go_at_call 79; refine (letter_any _ _).mono ?_; rintro e w' ⟨rfl, rfl⟩) | (go_at_call 82; refine (fnOf_no _ _ HF.out).mono ?_; rintro e w' ⟨rfl, rfl⟩))
    go_loop [10] (fun s10 => ∃ j : Int, 5 ≤ j ∧ j ≤ K ∧ s10 = .int .i64 j) (fun s10 => (K - intOf s10).toNat)
    case atStart => exact ⟨5, by omega, hk5, rfl⟩
    case round =>
      obtain ⟨j, hj1, hj2, rfl⟩ := hrel
      have hj3 : j ≤ 20 := by omega
      by_cases hjK : j = K
      · subst hjK
        have e3 : (signR j == (c : Int)) = true := by simp [HK.out.2.2.1]
        go_wp2_with (go_at_call 83; refine (sign_any _ _).mono ?_; rintro e w' ⟨rfl, rfl⟩)
        have hg5 := grownBy_five (w2.setCell ⟨R, 1, none⟩ (.int .i64 (pos + k : Nat))) w.heap.size (.int .i64 j) (.int .i64 0) (.int .i64 0) (.string ⟨#[]⟩) (.int .i64 pos)
        refine bodyPost_ret (v := tokV j 0 0 ⟨#[]⟩ pos) (by simp [tokV, results, Tryz.results62, go_sem, lt3, q0, q1, q2, q3, q4]) rfl ?_
        exact ⟨rfl, H3.out.grown hg5 hne, grownBy_after HG.out hg5 (Nat.le_refl _)⟩
      · have e3 : (signR j == (c : Int)) = false := by simp; exact HK.out.2.2.2 j hj1 (by omega)
        have hjK' : j < K := by omega
        clear hjK
        go_wp2_with (go_at_call 83; refine (sign_any _ _).mono ?_; rintro e w' ⟨rfl, rfl⟩)
        go_round
        case rel => exact ⟨j + 1, by omega, by omega, rfl⟩
        case measure => simp [intOf]; omega

set_option maxRecDepth 100000 in
set_option maxHeartbeats 8000000 in
theorem word_name {w : World} {R : Nat} {src : ByteArray} {pos c k n : Nat} {wv : Value} (hst : Std w) (h : Reader w R src pos wv) (hs : src.size ≤ 900) (hp : pos + k ≤ src.size)
    (hd : Lib.decodeGo (src.extract pos src.size) = (c, k)) (hc : c < 128) (hdc : digB c = false) (hlc : letB c = true) (hr : Runs inB src pos n) (hn : n ≤ 12) :
    Calls Tryz.prog 62 #[.pointer (some ⟨R, 0, none⟩)] w (Words (tokV 3 0 0 (src.extract pos (pos + n)) pos) R src (pos + n) wv w) := by
  have HR := Lib.hid h
  have hRlt := Box.lt h
  have HST := Lib.hid hst
  have HD := Lib.hid hd
  have hlt' : (c : Int) < 128 := by omega
  have hnn : (src.extract pos (pos + n)).size ≤ 12 := by rw [ByteArray.size_extract]; omega
  have HWH := Lib.hid (fun (W : World) (hW : Reader W R src pos wv) => while_any 80 inB within_any enters_within hW (by omega) hr.1 hr.2.1 hr.2.2)
  obtain ⟨X, hX⟩ : ∃ X, X = src.extract pos (pos + n) := ⟨_, rfl⟩
  rw [← hX] at HWH hnn ⊢
  clear hr hX
  obtain ⟨c0, c1, c2⟩ := Box.three (Reader.below h (below_one w (.cells zeroTok 113)))
  have HREST := Lib.hid (fun (W : World) (hW : Reader W R src pos wv) => rest_any hW (by omega))
  clear h hst hd
  go_enter Tryz.func62, Tryz.ntmps62
  go_wp2_with fail
  refine (HREST.out _ (Reader.below HR.out (below_one _ _))).mono ?_
  rintro e w1 ⟨rfl, n1, rfl⟩
  have hb1 : Below w.heap.size w ((w.alloc (.cells zeroTok 113)).drewN n1) := (below_one w _).trans (below_draws _ _ _)
  go_wp2_with fail
  refine (decode_any _ _ (HST.out.below hb1)).mono ?_
  rintro e w2 ⟨rfl, hb2⟩
  rw [HD.out]
  have b2 := ((Box.new w 113 zeroTok).drewN n1).below hb2
  have hbw2 := hb1.trans (hb2.mono hb1.size)
  have hr2 := Reader.below HR.out hbw2
  clear hb1 hb2 c0 c1 c2
  obtain ⟨c0, c1, c2⟩ := Box.three hr2
  have cf := Box.frozen hr2 1
  have cl := Box.lt hr2
  have hne : w.heap.size ≠ R := by omega
  go_wp2_with (first | (go_at_call 77; refine (digit_any _ _).mono ?_; rintro e w' ⟨rfl, rfl⟩) | (go_at_call 79; refine (letter_any _ _).mono ?_; rintro e w' ⟨rfl, rfl⟩))
  refine (HWH.out _ hr2).mono ?_
  rintro e w3 ⟨rfl, hr3, hg3⟩
  have b3 := Box.grown b2 hg3 (by simp; omega)
  have lt3 := b3.lt
  have fz3 := b3.frozen
  obtain ⟨q0, q1, q2, q3, q4⟩ := b3.five
  have H3 := Lib.hid hr3
  have HG := Lib.hid (grownBy_trans (grownBy_of_below (row := some R) hbw2 (Nat.le_refl _)) hg3)
  clear b2 b3 hr2 hr3 hg3 hbw2 c0 c1 c2 cf cl
  go_wp2_with fail
  have hg5 := grownBy_five w3 w.heap.size (.int .i64 3) (.int .i64 0) (.int .i64 0) (.string X) (.int .i64 pos)
  refine bodyPost_ret (v := tokV 3 0 0 X pos) (by simp [tokV, results, Tryz.results62, go_sem, lt3, q0, q1, q2, q3, q4]) rfl ?_
  exact ⟨rfl, H3.out.grown hg5 hne, grownBy_after HG.out hg5 (Nat.le_refl _)⟩

end Go.Proofs.YtihndbkaoejnnaaGreatDoor
