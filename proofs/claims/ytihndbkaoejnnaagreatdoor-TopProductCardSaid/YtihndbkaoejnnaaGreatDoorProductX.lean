/- What the card TopProduct leans on: ParsProd, WalkProd. Conditions: none but those of its theorems. -/
import Derived.Test.YtihndbkaoejnnaaGreatDoorProductU
import Derived.Test.YtihndbkaoejnnaaGreatDoorProductW
import Derived.Test.YtihndbkaoejnnaaGreatDoorProductO
import Derived.Test.YtihndbkaoejnnaaGreatDoorProductT
set_option linter.unusedSimpArgs false
set_option linter.unusedVariables false
namespace Go.Proofs.YtihndbkaoejnnaaGreatDoor
open Go Go.RowKit Go.Proofs.YtihndbkaoejnnaaGreatDoor.P

set_option maxRecDepth 100000 in
set_option maxHeartbeats 4000000 in
theorem shape_prod5 (T : List Tok) (t0 : T[0]? = some ⟨14, 0, 0, ⟨#[]⟩, 0⟩) (t1 : T[1]? = some ⟨19, 0, 0, ⟨#[]⟩, 1⟩) (t2 : T[2]? = some ⟨4, 8, 0, ⟨#[]⟩, 4⟩) (t3 : T[3]? = some ⟨1, 0, 0, ⟨#[]⟩, 5⟩) (t4 : T[4]? = some ⟨16, 0, 0, ⟨#[]⟩, 6⟩) (t5 : T[5]? = some ⟨1, 0, 1, ⟨#[]⟩, 7⟩) (t6 : T[6]? = some ⟨17, 0, 0, ⟨#[]⟩, 8⟩) (t7 : T[7]? = some ⟨19, 0, 0, ⟨#[]⟩, 11⟩) (t8 : T[8]? = some ⟨4, 3, 0, ⟨#[]⟩, 14⟩) (t9 : T[9]? = some ⟨20, 0, 0, ⟨#[]⟩, 16⟩) (t10 : T[10]? = some ⟨19, 0, 0, ⟨#[]⟩, 19⟩) (t11 : T[11]? = some ⟨4, 2, 0, ⟨#[]⟩, 22⟩) (t12 : T[12]? = some ⟨1, 0, 1, ⟨#[]⟩, 23⟩) (t13 : T[13]? = some ⟨15, 0, 0, ⟨#[]⟩, 24⟩) (t14 : T[14]? = some ⟨1, 0, 5, ⟨#[]⟩, 25⟩) (hl : T.length = 15) : ExprAt T 0 0 15 [⟨6, 6, 0, 0, 1, [], ⟨#[]⟩⟩, ⟨7, 0, 8, 0, 0, [], ⟨#[]⟩⟩, ⟨5, 0, 0, 0, 0, [], ⟨#[]⟩⟩, ⟨1, 0, 0, 0, 0, [0], ⟨#[]⟩⟩, ⟨1, 0, 0, 0, 0, [1], ⟨#[]⟩⟩, ⟨7, 0, 3, 0, 0, [], ⟨#[]⟩⟩, ⟨5, 0, 0, 0, 0, [], ⟨#[]⟩⟩, ⟨6, 7, 0, 0, 0, [], ⟨#[]⟩⟩, ⟨7, 0, 2, 0, 0, [], ⟨#[]⟩⟩, ⟨5, 0, 0, 0, 0, [], ⟨#[]⟩⟩, ⟨1, 0, 0, 0, 0, [1], ⟨#[]⟩⟩, ⟨1, 0, 0, 0, 0, [5], ⟨#[]⟩⟩] := by
  have k0 : kindAt T 0 = 14 := kindAt_some t0
  have k1 : kindAt T 1 = 19 := kindAt_some t1
  have k2 : kindAt T 2 = 4 := kindAt_some t2
  have k3 : kindAt T 3 = 1 := kindAt_some t3
  have k4 : kindAt T 4 = 16 := kindAt_some t4
  have k5 : kindAt T 5 = 1 := kindAt_some t5
  have k6 : kindAt T 6 = 17 := kindAt_some t6
  have k7 : kindAt T 7 = 19 := kindAt_some t7
  have k8 : kindAt T 8 = 4 := kindAt_some t8
  have k9 : kindAt T 9 = 20 := kindAt_some t9
  have k10 : kindAt T 10 = 19 := kindAt_some t10
  have k11 : kindAt T 11 = 4 := kindAt_some t11
  have k12 : kindAt T 12 = 1 := kindAt_some t12
  have k13 : kindAt T 13 = 15 := kindAt_some t13
  have k14 : kindAt T 14 = 1 := kindAt_some t14
  have k15 : kindAt T 15 = 0 := by unfold kindAt; rw [List.getElem?_eq_none (by omega)]
  have a_1 : AtomAt T 1 1 2 [⟨5, 0, 0, 0, 0, [], ⟨#[]⟩⟩] := atom_omega t1 rfl (by decide)
  have m_2 : TermAt T 1 1 2 [⟨5, 0, 0, 0, 0, [], ⟨#[]⟩⟩] := term_atom a_1 (show kindAt T 2 ≠ 7 by rw [k2]; decide)
  have f_3 : FnAt T 2 1 3 0 8 0 0 [] := fn_plain t2 rfl (show kindAt T 3 ≠ 13 by rw [k3]; decide) (show kindAt T 3 ≠ 12 by rw [k3]; decide) (show kindAt T 3 ≠ 4 by rw [k3]; decide)
  have n_4 : numsB T 3 [0] = true := by simp [numsB, t3]
  have a_5 : AtomAt T 3 1 4 [⟨1, 0, 0, 0, 0, [0], ⟨#[]⟩⟩] := atom_nums (xs := [0]) (nums_of n_4) (by decide) (show kindAt T 4 ≠ 1 by rw [k4]; decide)
  have m_6 : TermAt T 3 1 4 [⟨1, 0, 0, 0, 0, [0], ⟨#[]⟩⟩] := term_atom a_5 (show kindAt T 4 ≠ 7 by rw [k4]; decide)
  have e_7 : ExprAt T 3 1 4 [⟨1, 0, 0, 0, 0, [0], ⟨#[]⟩⟩] := expr_term (show startsB T 3 1 = false by unfold startsB; rw [k3]; rfl) m_6 (show startsB T 4 1 = false by unfold startsB; rw [k4]; rfl)
  have e_8 : ExprAt T 1 1 4 [⟨7, 0, 8, 0, 0, [], ⟨#[]⟩⟩, ⟨5, 0, 0, 0, 0, [], ⟨#[]⟩⟩, ⟨1, 0, 0, 0, 0, [0], ⟨#[]⟩⟩] := expr_two (m := 2) (q := 3) (show startsB T 1 1 = false by unfold startsB; rw [k1]; rfl) m_2 (show startsB T 2 1 = true by unfold startsB; rw [k2]; rfl) f_3 e_7
  have n_9 : numsB T 5 [1] = true := by simp [numsB, t5]
  have a_10 : AtomAt T 5 1 6 [⟨1, 0, 0, 0, 0, [1], ⟨#[]⟩⟩] := atom_nums (xs := [1]) (nums_of n_9) (by decide) (show kindAt T 6 ≠ 1 by rw [k6]; decide)
  have m_11 : TermAt T 5 1 6 [⟨1, 0, 0, 0, 0, [1], ⟨#[]⟩⟩] := term_atom a_10 (show kindAt T 6 ≠ 7 by rw [k6]; decide)
  have e_12 : ExprAt T 5 1 6 [⟨1, 0, 0, 0, 0, [1], ⟨#[]⟩⟩] := expr_term (show startsB T 5 1 = false by unfold startsB; rw [k5]; rfl) m_11 (show startsB T 6 1 = false by unfold startsB; rw [k6]; rfl)
  have a_13 : AtomAt T 7 1 8 [⟨5, 0, 0, 0, 0, [], ⟨#[]⟩⟩] := atom_omega t7 rfl (by decide)
  have m_14 : TermAt T 7 1 8 [⟨5, 0, 0, 0, 0, [], ⟨#[]⟩⟩] := term_atom a_13 (show kindAt T 8 ≠ 7 by rw [k8]; decide)
  have f_15 : FnAt T 8 1 9 0 3 0 0 [] := fn_plain t8 rfl (show kindAt T 9 ≠ 13 by rw [k9]; decide) (show kindAt T 9 ≠ 12 by rw [k9]; decide) (show kindAt T 9 ≠ 4 by rw [k9]; decide)
  have f_16 : FnAt T 9 1 10 7 0 0 0 [] := fn_del t9 rfl
  have a_17 : AtomAt T 10 1 11 [⟨5, 0, 0, 0, 0, [], ⟨#[]⟩⟩] := atom_omega t10 rfl (by decide)
  have m_18 : TermAt T 10 1 11 [⟨5, 0, 0, 0, 0, [], ⟨#[]⟩⟩] := term_atom a_17 (show kindAt T 11 ≠ 7 by rw [k11]; decide)
  have f_19 : FnAt T 11 1 12 0 2 0 0 [] := fn_plain t11 rfl (show kindAt T 12 ≠ 13 by rw [k12]; decide) (show kindAt T 12 ≠ 12 by rw [k12]; decide) (show kindAt T 12 ≠ 4 by rw [k12]; decide)
  have n_20 : numsB T 12 [1] = true := by simp [numsB, t12]
  have a_21 : AtomAt T 12 1 13 [⟨1, 0, 0, 0, 0, [1], ⟨#[]⟩⟩] := atom_nums (xs := [1]) (nums_of n_20) (by decide) (show kindAt T 13 ≠ 1 by rw [k13]; decide)
  have m_22 : TermAt T 12 1 13 [⟨1, 0, 0, 0, 0, [1], ⟨#[]⟩⟩] := term_atom a_21 (show kindAt T 13 ≠ 7 by rw [k13]; decide)
  have e_23 : ExprAt T 12 1 13 [⟨1, 0, 0, 0, 0, [1], ⟨#[]⟩⟩] := expr_term (show startsB T 12 1 = false by unfold startsB; rw [k12]; rfl) m_22 (show startsB T 13 1 = false by unfold startsB; rw [k13]; rfl)
  have e_24 : ExprAt T 10 1 13 [⟨7, 0, 2, 0, 0, [], ⟨#[]⟩⟩, ⟨5, 0, 0, 0, 0, [], ⟨#[]⟩⟩, ⟨1, 0, 0, 0, 0, [1], ⟨#[]⟩⟩] := expr_two (m := 11) (q := 12) (show startsB T 10 1 = false by unfold startsB; rw [k10]; rfl) m_18 (show startsB T 11 1 = true by unfold startsB; rw [k11]; rfl) f_19 e_23
  have e_25 : ExprAt T 9 1 13 [⟨6, 7, 0, 0, 0, [], ⟨#[]⟩⟩, ⟨7, 0, 2, 0, 0, [], ⟨#[]⟩⟩, ⟨5, 0, 0, 0, 0, [], ⟨#[]⟩⟩, ⟨1, 0, 0, 0, 0, [1], ⟨#[]⟩⟩] := expr_one (q := 10) (show startsB T 9 1 = true by unfold startsB; rw [k9]; rfl) f_16 e_24
  have e_26 : ExprAt T 7 1 13 [⟨7, 0, 3, 0, 0, [], ⟨#[]⟩⟩, ⟨5, 0, 0, 0, 0, [], ⟨#[]⟩⟩, ⟨6, 7, 0, 0, 0, [], ⟨#[]⟩⟩, ⟨7, 0, 2, 0, 0, [], ⟨#[]⟩⟩, ⟨5, 0, 0, 0, 0, [], ⟨#[]⟩⟩, ⟨1, 0, 0, 0, 0, [1], ⟨#[]⟩⟩] := expr_two (m := 8) (q := 9) (show startsB T 7 1 = false by unfold startsB; rw [k7]; rfl) m_14 (show startsB T 8 1 = true by unfold startsB; rw [k8]; rfl) f_15 e_25
  have f_27 : FnAt T 0 0 14 6 0 0 1 [[⟨7, 0, 8, 0, 0, [], ⟨#[]⟩⟩, ⟨5, 0, 0, 0, 0, [], ⟨#[]⟩⟩, ⟨1, 0, 0, 0, 0, [0], ⟨#[]⟩⟩], [⟨1, 0, 0, 0, 0, [1], ⟨#[]⟩⟩], [⟨7, 0, 3, 0, 0, [], ⟨#[]⟩⟩, ⟨5, 0, 0, 0, 0, [], ⟨#[]⟩⟩, ⟨6, 7, 0, 0, 0, [], ⟨#[]⟩⟩, ⟨7, 0, 2, 0, 0, [], ⟨#[]⟩⟩, ⟨5, 0, 0, 0, 0, [], ⟨#[]⟩⟩, ⟨1, 0, 0, 0, 0, [1], ⟨#[]⟩⟩]] := fn_written (m0 := 4) (m1 := 6) (m2 := 13) t0 rfl e_8 t4 rfl e_12 t6 rfl e_26 t13 rfl (by decide) (by decide)
  have n_28 : numsB T 14 [5] = true := by simp [numsB, t14]
  have a_29 : AtomAt T 14 0 15 [⟨1, 0, 0, 0, 0, [5], ⟨#[]⟩⟩] := atom_nums (xs := [5]) (nums_of n_28) (by decide) (show kindAt T 15 ≠ 1 by rw [k15]; decide)
  have m_30 : TermAt T 14 0 15 [⟨1, 0, 0, 0, 0, [5], ⟨#[]⟩⟩] := term_atom a_29 (show kindAt T 15 ≠ 7 by rw [k15]; decide)
  have e_31 : ExprAt T 14 0 15 [⟨1, 0, 0, 0, 0, [5], ⟨#[]⟩⟩] := expr_term (show startsB T 14 0 = false by unfold startsB; rw [k14]; rfl) m_30 (show startsB T 15 0 = false by unfold startsB; rw [k15]; rfl)
  have e_32 : ExprAt T 0 0 15 [⟨6, 6, 0, 0, 1, [], ⟨#[]⟩⟩, ⟨7, 0, 8, 0, 0, [], ⟨#[]⟩⟩, ⟨5, 0, 0, 0, 0, [], ⟨#[]⟩⟩, ⟨1, 0, 0, 0, 0, [0], ⟨#[]⟩⟩, ⟨1, 0, 0, 0, 0, [1], ⟨#[]⟩⟩, ⟨7, 0, 3, 0, 0, [], ⟨#[]⟩⟩, ⟨5, 0, 0, 0, 0, [], ⟨#[]⟩⟩, ⟨6, 7, 0, 0, 0, [], ⟨#[]⟩⟩, ⟨7, 0, 2, 0, 0, [], ⟨#[]⟩⟩, ⟨5, 0, 0, 0, 0, [], ⟨#[]⟩⟩, ⟨1, 0, 0, 0, 0, [1], ⟨#[]⟩⟩, ⟨1, 0, 0, 0, 0, [5], ⟨#[]⟩⟩] := expr_one (q := 14) (show startsB T 0 0 = true by unfold startsB; rw [k0]; rfl) f_27 e_31
  exact e_32
abbrev nodes_prod5 : List Nd := [⟨6, 6, 0, 0, 1, [], ⟨#[]⟩⟩, ⟨7, 0, 8, 0, 0, [], ⟨#[]⟩⟩, ⟨5, 0, 0, 0, 0, [], ⟨#[]⟩⟩, ⟨1, 0, 0, 0, 0, [0], ⟨#[]⟩⟩, ⟨1, 0, 0, 0, 0, [1], ⟨#[]⟩⟩, ⟨7, 0, 3, 0, 0, [], ⟨#[]⟩⟩, ⟨5, 0, 0, 0, 0, [], ⟨#[]⟩⟩, ⟨6, 7, 0, 0, 0, [], ⟨#[]⟩⟩, ⟨7, 0, 2, 0, 0, [], ⟨#[]⟩⟩, ⟨5, 0, 0, 0, 0, [], ⟨#[]⟩⟩, ⟨1, 0, 0, 0, 0, [1], ⟨#[]⟩⟩, ⟨1, 0, 0, 0, 0, [5], ⟨#[]⟩⟩]
theorem parsed_prod5 : Parsed toks_prod5 nodes_prod5 := ⟨allOk_at ⟨tokOk_sign (by decide) (by decide), tokOk_sign (by decide) (by decide), tokOk_glyph (by decide) (by decide), tokOk_num (n := 0) (by decide), tokOk_sign (by decide) (by decide), tokOk_num (n := 1) (by decide), tokOk_sign (by decide) (by decide), tokOk_sign (by decide) (by decide), tokOk_glyph (by decide) (by decide), tokOk_sign (by decide) (by decide), tokOk_sign (by decide) (by decide), tokOk_glyph (by decide) (by decide), tokOk_num (n := 1) (by decide), tokOk_sign (by decide) (by decide), tokOk_num (n := 5) (by decide), trivial⟩, shape_prod5 toks_prod5 rfl rfl rfl rfl rfl rfl rfl rfl rfl rfl rfl rfl rfl rfl rfl rfl, by decide +kernel, by decide, by decide, by decide⟩

set_option maxRecDepth 100000 in
set_option maxHeartbeats 4000000 in
theorem shape_prodn (T : List Tok) (t0 : T[0]? = some ⟨14, 0, 0, ⟨#[]⟩, 0⟩) (t1 : T[1]? = some ⟨19, 0, 0, ⟨#[]⟩, 1⟩) (t2 : T[2]? = some ⟨4, 8, 0, ⟨#[]⟩, 4⟩) (t3 : T[3]? = some ⟨1, 0, 0, ⟨#[]⟩, 5⟩) (t4 : T[4]? = some ⟨16, 0, 0, ⟨#[]⟩, 6⟩) (t5 : T[5]? = some ⟨1, 0, 1, ⟨#[]⟩, 7⟩) (t6 : T[6]? = some ⟨17, 0, 0, ⟨#[]⟩, 8⟩) (t7 : T[7]? = some ⟨19, 0, 0, ⟨#[]⟩, 11⟩) (t8 : T[8]? = some ⟨4, 3, 0, ⟨#[]⟩, 14⟩) (t9 : T[9]? = some ⟨20, 0, 0, ⟨#[]⟩, 16⟩) (t10 : T[10]? = some ⟨19, 0, 0, ⟨#[]⟩, 19⟩) (t11 : T[11]? = some ⟨4, 2, 0, ⟨#[]⟩, 22⟩) (t12 : T[12]? = some ⟨1, 0, 1, ⟨#[]⟩, 23⟩) (t13 : T[13]? = some ⟨15, 0, 0, ⟨#[]⟩, 24⟩) (t14 : T[14]? = some ⟨3, 0, 0, ⟨#[110]⟩, 25⟩) (hl : T.length = 15) : ExprAt T 0 0 15 [⟨6, 6, 0, 0, 1, [], ⟨#[]⟩⟩, ⟨7, 0, 8, 0, 0, [], ⟨#[]⟩⟩, ⟨5, 0, 0, 0, 0, [], ⟨#[]⟩⟩, ⟨1, 0, 0, 0, 0, [0], ⟨#[]⟩⟩, ⟨1, 0, 0, 0, 0, [1], ⟨#[]⟩⟩, ⟨7, 0, 3, 0, 0, [], ⟨#[]⟩⟩, ⟨5, 0, 0, 0, 0, [], ⟨#[]⟩⟩, ⟨6, 7, 0, 0, 0, [], ⟨#[]⟩⟩, ⟨7, 0, 2, 0, 0, [], ⟨#[]⟩⟩, ⟨5, 0, 0, 0, 0, [], ⟨#[]⟩⟩, ⟨1, 0, 0, 0, 0, [1], ⟨#[]⟩⟩, ⟨3, 0, 0, 0, 0, [], ⟨#[110]⟩⟩] := by
  have k0 : kindAt T 0 = 14 := kindAt_some t0
  have k1 : kindAt T 1 = 19 := kindAt_some t1
  have k2 : kindAt T 2 = 4 := kindAt_some t2
  have k3 : kindAt T 3 = 1 := kindAt_some t3
  have k4 : kindAt T 4 = 16 := kindAt_some t4
  have k5 : kindAt T 5 = 1 := kindAt_some t5
  have k6 : kindAt T 6 = 17 := kindAt_some t6
  have k7 : kindAt T 7 = 19 := kindAt_some t7
  have k8 : kindAt T 8 = 4 := kindAt_some t8
  have k9 : kindAt T 9 = 20 := kindAt_some t9
  have k10 : kindAt T 10 = 19 := kindAt_some t10
  have k11 : kindAt T 11 = 4 := kindAt_some t11
  have k12 : kindAt T 12 = 1 := kindAt_some t12
  have k13 : kindAt T 13 = 15 := kindAt_some t13
  have k14 : kindAt T 14 = 3 := kindAt_some t14
  have k15 : kindAt T 15 = 0 := by unfold kindAt; rw [List.getElem?_eq_none (by omega)]
  have a_1 : AtomAt T 1 1 2 [⟨5, 0, 0, 0, 0, [], ⟨#[]⟩⟩] := atom_omega t1 rfl (by decide)
  have m_2 : TermAt T 1 1 2 [⟨5, 0, 0, 0, 0, [], ⟨#[]⟩⟩] := term_atom a_1 (show kindAt T 2 ≠ 7 by rw [k2]; decide)
  have f_3 : FnAt T 2 1 3 0 8 0 0 [] := fn_plain t2 rfl (show kindAt T 3 ≠ 13 by rw [k3]; decide) (show kindAt T 3 ≠ 12 by rw [k3]; decide) (show kindAt T 3 ≠ 4 by rw [k3]; decide)
  have n_4 : numsB T 3 [0] = true := by simp [numsB, t3]
  have a_5 : AtomAt T 3 1 4 [⟨1, 0, 0, 0, 0, [0], ⟨#[]⟩⟩] := atom_nums (xs := [0]) (nums_of n_4) (by decide) (show kindAt T 4 ≠ 1 by rw [k4]; decide)
  have m_6 : TermAt T 3 1 4 [⟨1, 0, 0, 0, 0, [0], ⟨#[]⟩⟩] := term_atom a_5 (show kindAt T 4 ≠ 7 by rw [k4]; decide)
  have e_7 : ExprAt T 3 1 4 [⟨1, 0, 0, 0, 0, [0], ⟨#[]⟩⟩] := expr_term (show startsB T 3 1 = false by unfold startsB; rw [k3]; rfl) m_6 (show startsB T 4 1 = false by unfold startsB; rw [k4]; rfl)
  have e_8 : ExprAt T 1 1 4 [⟨7, 0, 8, 0, 0, [], ⟨#[]⟩⟩, ⟨5, 0, 0, 0, 0, [], ⟨#[]⟩⟩, ⟨1, 0, 0, 0, 0, [0], ⟨#[]⟩⟩] := expr_two (m := 2) (q := 3) (show startsB T 1 1 = false by unfold startsB; rw [k1]; rfl) m_2 (show startsB T 2 1 = true by unfold startsB; rw [k2]; rfl) f_3 e_7
  have n_9 : numsB T 5 [1] = true := by simp [numsB, t5]
  have a_10 : AtomAt T 5 1 6 [⟨1, 0, 0, 0, 0, [1], ⟨#[]⟩⟩] := atom_nums (xs := [1]) (nums_of n_9) (by decide) (show kindAt T 6 ≠ 1 by rw [k6]; decide)
  have m_11 : TermAt T 5 1 6 [⟨1, 0, 0, 0, 0, [1], ⟨#[]⟩⟩] := term_atom a_10 (show kindAt T 6 ≠ 7 by rw [k6]; decide)
  have e_12 : ExprAt T 5 1 6 [⟨1, 0, 0, 0, 0, [1], ⟨#[]⟩⟩] := expr_term (show startsB T 5 1 = false by unfold startsB; rw [k5]; rfl) m_11 (show startsB T 6 1 = false by unfold startsB; rw [k6]; rfl)
  have a_13 : AtomAt T 7 1 8 [⟨5, 0, 0, 0, 0, [], ⟨#[]⟩⟩] := atom_omega t7 rfl (by decide)
  have m_14 : TermAt T 7 1 8 [⟨5, 0, 0, 0, 0, [], ⟨#[]⟩⟩] := term_atom a_13 (show kindAt T 8 ≠ 7 by rw [k8]; decide)
  have f_15 : FnAt T 8 1 9 0 3 0 0 [] := fn_plain t8 rfl (show kindAt T 9 ≠ 13 by rw [k9]; decide) (show kindAt T 9 ≠ 12 by rw [k9]; decide) (show kindAt T 9 ≠ 4 by rw [k9]; decide)
  have f_16 : FnAt T 9 1 10 7 0 0 0 [] := fn_del t9 rfl
  have a_17 : AtomAt T 10 1 11 [⟨5, 0, 0, 0, 0, [], ⟨#[]⟩⟩] := atom_omega t10 rfl (by decide)
  have m_18 : TermAt T 10 1 11 [⟨5, 0, 0, 0, 0, [], ⟨#[]⟩⟩] := term_atom a_17 (show kindAt T 11 ≠ 7 by rw [k11]; decide)
  have f_19 : FnAt T 11 1 12 0 2 0 0 [] := fn_plain t11 rfl (show kindAt T 12 ≠ 13 by rw [k12]; decide) (show kindAt T 12 ≠ 12 by rw [k12]; decide) (show kindAt T 12 ≠ 4 by rw [k12]; decide)
  have n_20 : numsB T 12 [1] = true := by simp [numsB, t12]
  have a_21 : AtomAt T 12 1 13 [⟨1, 0, 0, 0, 0, [1], ⟨#[]⟩⟩] := atom_nums (xs := [1]) (nums_of n_20) (by decide) (show kindAt T 13 ≠ 1 by rw [k13]; decide)
  have m_22 : TermAt T 12 1 13 [⟨1, 0, 0, 0, 0, [1], ⟨#[]⟩⟩] := term_atom a_21 (show kindAt T 13 ≠ 7 by rw [k13]; decide)
  have e_23 : ExprAt T 12 1 13 [⟨1, 0, 0, 0, 0, [1], ⟨#[]⟩⟩] := expr_term (show startsB T 12 1 = false by unfold startsB; rw [k12]; rfl) m_22 (show startsB T 13 1 = false by unfold startsB; rw [k13]; rfl)
  have e_24 : ExprAt T 10 1 13 [⟨7, 0, 2, 0, 0, [], ⟨#[]⟩⟩, ⟨5, 0, 0, 0, 0, [], ⟨#[]⟩⟩, ⟨1, 0, 0, 0, 0, [1], ⟨#[]⟩⟩] := expr_two (m := 11) (q := 12) (show startsB T 10 1 = false by unfold startsB; rw [k10]; rfl) m_18 (show startsB T 11 1 = true by unfold startsB; rw [k11]; rfl) f_19 e_23
  have e_25 : ExprAt T 9 1 13 [⟨6, 7, 0, 0, 0, [], ⟨#[]⟩⟩, ⟨7, 0, 2, 0, 0, [], ⟨#[]⟩⟩, ⟨5, 0, 0, 0, 0, [], ⟨#[]⟩⟩, ⟨1, 0, 0, 0, 0, [1], ⟨#[]⟩⟩] := expr_one (q := 10) (show startsB T 9 1 = true by unfold startsB; rw [k9]; rfl) f_16 e_24
  have e_26 : ExprAt T 7 1 13 [⟨7, 0, 3, 0, 0, [], ⟨#[]⟩⟩, ⟨5, 0, 0, 0, 0, [], ⟨#[]⟩⟩, ⟨6, 7, 0, 0, 0, [], ⟨#[]⟩⟩, ⟨7, 0, 2, 0, 0, [], ⟨#[]⟩⟩, ⟨5, 0, 0, 0, 0, [], ⟨#[]⟩⟩, ⟨1, 0, 0, 0, 0, [1], ⟨#[]⟩⟩] := expr_two (m := 8) (q := 9) (show startsB T 7 1 = false by unfold startsB; rw [k7]; rfl) m_14 (show startsB T 8 1 = true by unfold startsB; rw [k8]; rfl) f_15 e_25
  have f_27 : FnAt T 0 0 14 6 0 0 1 [[⟨7, 0, 8, 0, 0, [], ⟨#[]⟩⟩, ⟨5, 0, 0, 0, 0, [], ⟨#[]⟩⟩, ⟨1, 0, 0, 0, 0, [0], ⟨#[]⟩⟩], [⟨1, 0, 0, 0, 0, [1], ⟨#[]⟩⟩], [⟨7, 0, 3, 0, 0, [], ⟨#[]⟩⟩, ⟨5, 0, 0, 0, 0, [], ⟨#[]⟩⟩, ⟨6, 7, 0, 0, 0, [], ⟨#[]⟩⟩, ⟨7, 0, 2, 0, 0, [], ⟨#[]⟩⟩, ⟨5, 0, 0, 0, 0, [], ⟨#[]⟩⟩, ⟨1, 0, 0, 0, 0, [1], ⟨#[]⟩⟩]] := fn_written (m0 := 4) (m1 := 6) (m2 := 13) t0 rfl e_8 t4 rfl e_12 t6 rfl e_26 t13 rfl (by decide) (by decide)
  have a_28 : AtomAt T 14 0 15 [⟨3, 0, 0, 0, 0, [], ⟨#[110]⟩⟩] := atom_name t14 rfl
  have m_29 : TermAt T 14 0 15 [⟨3, 0, 0, 0, 0, [], ⟨#[110]⟩⟩] := term_atom a_28 (show kindAt T 15 ≠ 7 by rw [k15]; decide)
  have e_30 : ExprAt T 14 0 15 [⟨3, 0, 0, 0, 0, [], ⟨#[110]⟩⟩] := expr_term (show startsB T 14 0 = false by unfold startsB; rw [k14]; rfl) m_29 (show startsB T 15 0 = false by unfold startsB; rw [k15]; rfl)
  have e_31 : ExprAt T 0 0 15 [⟨6, 6, 0, 0, 1, [], ⟨#[]⟩⟩, ⟨7, 0, 8, 0, 0, [], ⟨#[]⟩⟩, ⟨5, 0, 0, 0, 0, [], ⟨#[]⟩⟩, ⟨1, 0, 0, 0, 0, [0], ⟨#[]⟩⟩, ⟨1, 0, 0, 0, 0, [1], ⟨#[]⟩⟩, ⟨7, 0, 3, 0, 0, [], ⟨#[]⟩⟩, ⟨5, 0, 0, 0, 0, [], ⟨#[]⟩⟩, ⟨6, 7, 0, 0, 0, [], ⟨#[]⟩⟩, ⟨7, 0, 2, 0, 0, [], ⟨#[]⟩⟩, ⟨5, 0, 0, 0, 0, [], ⟨#[]⟩⟩, ⟨1, 0, 0, 0, 0, [1], ⟨#[]⟩⟩, ⟨3, 0, 0, 0, 0, [], ⟨#[110]⟩⟩] := expr_one (q := 14) (show startsB T 0 0 = true by unfold startsB; rw [k0]; rfl) f_27 e_30
  exact e_31
abbrev nodes_prodn : List Nd := [⟨6, 6, 0, 0, 1, [], ⟨#[]⟩⟩, ⟨7, 0, 8, 0, 0, [], ⟨#[]⟩⟩, ⟨5, 0, 0, 0, 0, [], ⟨#[]⟩⟩, ⟨1, 0, 0, 0, 0, [0], ⟨#[]⟩⟩, ⟨1, 0, 0, 0, 0, [1], ⟨#[]⟩⟩, ⟨7, 0, 3, 0, 0, [], ⟨#[]⟩⟩, ⟨5, 0, 0, 0, 0, [], ⟨#[]⟩⟩, ⟨6, 7, 0, 0, 0, [], ⟨#[]⟩⟩, ⟨7, 0, 2, 0, 0, [], ⟨#[]⟩⟩, ⟨5, 0, 0, 0, 0, [], ⟨#[]⟩⟩, ⟨1, 0, 0, 0, 0, [1], ⟨#[]⟩⟩, ⟨3, 0, 0, 0, 0, [], ⟨#[110]⟩⟩]
theorem parsed_prodn : Parsed toks_prodn nodes_prodn := ⟨allOk_at ⟨tokOk_sign (by decide) (by decide), tokOk_sign (by decide) (by decide), tokOk_glyph (by decide) (by decide), tokOk_num (n := 0) (by decide), tokOk_sign (by decide) (by decide), tokOk_num (n := 1) (by decide), tokOk_sign (by decide) (by decide), tokOk_sign (by decide) (by decide), tokOk_glyph (by decide) (by decide), tokOk_sign (by decide) (by decide), tokOk_sign (by decide) (by decide), tokOk_glyph (by decide) (by decide), tokOk_num (n := 1) (by decide), tokOk_sign (by decide) (by decide), tokOk_name (nameOk_of (by decide +kernel)), trivial⟩, shape_prodn toks_prodn rfl rfl rfl rfl rfl rfl rfl rfl rfl rfl rfl rfl rfl rfl rfl rfl, by decide +kernel, by decide, by decide, by decide⟩

set_option maxRecDepth 100000 in
set_option maxHeartbeats 4000000 in
theorem shape_prodf (T : List Tok) (t0 : T[0]? = some ⟨4, 3, 0, ⟨#[]⟩, 0⟩) (t1 : T[1]? = some ⟨4, 33, 0, ⟨#[]⟩, 2⟩) (t2 : T[2]? = some ⟨1, 0, 1, ⟨#[]⟩, 3⟩) (t3 : T[3]? = some ⟨4, 1, 0, ⟨#[]⟩, 4⟩) (t4 : T[4]? = some ⟨4, 24, 0, ⟨#[]⟩, 5⟩) (t5 : T[5]? = some ⟨3, 0, 0, ⟨#[110]⟩, 8⟩) (hl : T.length = 6) : ExprAt T 0 0 6 [⟨6, 1, 3, 0, 0, [], ⟨#[]⟩⟩, ⟨7, 0, 1, 0, 0, [], ⟨#[]⟩⟩, ⟨1, 0, 0, 0, 0, [1], ⟨#[]⟩⟩, ⟨6, 0, 24, 0, 0, [], ⟨#[]⟩⟩, ⟨3, 0, 0, 0, 0, [], ⟨#[110]⟩⟩] := by
  have k0 : kindAt T 0 = 4 := kindAt_some t0
  have k1 : kindAt T 1 = 4 := kindAt_some t1
  have k2 : kindAt T 2 = 1 := kindAt_some t2
  have k3 : kindAt T 3 = 4 := kindAt_some t3
  have k4 : kindAt T 4 = 4 := kindAt_some t4
  have k5 : kindAt T 5 = 3 := kindAt_some t5
  have k6 : kindAt T 6 = 0 := by unfold kindAt; rw [List.getElem?_eq_none (by omega)]
  have f_1 : FnAt T 0 0 2 1 3 0 0 [] := fn_over t0 rfl t1 rfl rfl
  have n_2 : numsB T 2 [1] = true := by simp [numsB, t2]
  have a_3 : AtomAt T 2 0 3 [⟨1, 0, 0, 0, 0, [1], ⟨#[]⟩⟩] := atom_nums (xs := [1]) (nums_of n_2) (by decide) (show kindAt T 3 ≠ 1 by rw [k3]; decide)
  have m_4 : TermAt T 2 0 3 [⟨1, 0, 0, 0, 0, [1], ⟨#[]⟩⟩] := term_atom a_3 (show kindAt T 3 ≠ 7 by rw [k3]; decide)
  have f_5 : FnAt T 3 0 4 0 1 0 0 [] := fn_plain_sign t3 rfl t4 rfl (by decide) (by decide)
  have f_6 : FnAt T 4 0 5 0 24 0 0 [] := fn_plain t4 rfl (show kindAt T 5 ≠ 13 by rw [k5]; decide) (show kindAt T 5 ≠ 12 by rw [k5]; decide) (show kindAt T 5 ≠ 4 by rw [k5]; decide)
  have a_7 : AtomAt T 5 0 6 [⟨3, 0, 0, 0, 0, [], ⟨#[110]⟩⟩] := atom_name t5 rfl
  have m_8 : TermAt T 5 0 6 [⟨3, 0, 0, 0, 0, [], ⟨#[110]⟩⟩] := term_atom a_7 (show kindAt T 6 ≠ 7 by rw [k6]; decide)
  have e_9 : ExprAt T 5 0 6 [⟨3, 0, 0, 0, 0, [], ⟨#[110]⟩⟩] := expr_term (show startsB T 5 0 = false by unfold startsB; rw [k5]; rfl) m_8 (show startsB T 6 0 = false by unfold startsB; rw [k6]; rfl)
  have e_10 : ExprAt T 4 0 6 [⟨6, 0, 24, 0, 0, [], ⟨#[]⟩⟩, ⟨3, 0, 0, 0, 0, [], ⟨#[110]⟩⟩] := expr_one (q := 5) (show startsB T 4 0 = true by unfold startsB; rw [k4]; rfl) f_6 e_9
  have e_11 : ExprAt T 2 0 6 [⟨7, 0, 1, 0, 0, [], ⟨#[]⟩⟩, ⟨1, 0, 0, 0, 0, [1], ⟨#[]⟩⟩, ⟨6, 0, 24, 0, 0, [], ⟨#[]⟩⟩, ⟨3, 0, 0, 0, 0, [], ⟨#[110]⟩⟩] := expr_two (m := 3) (q := 4) (show startsB T 2 0 = false by unfold startsB; rw [k2]; rfl) m_4 (show startsB T 3 0 = true by unfold startsB; rw [k3]; rfl) f_5 e_10
  have e_12 : ExprAt T 0 0 6 [⟨6, 1, 3, 0, 0, [], ⟨#[]⟩⟩, ⟨7, 0, 1, 0, 0, [], ⟨#[]⟩⟩, ⟨1, 0, 0, 0, 0, [1], ⟨#[]⟩⟩, ⟨6, 0, 24, 0, 0, [], ⟨#[]⟩⟩, ⟨3, 0, 0, 0, 0, [], ⟨#[110]⟩⟩] := expr_one (q := 2) (show startsB T 0 0 = true by unfold startsB; rw [k0]; rfl) f_1 e_11
  exact e_12
abbrev nodes_prodf : List Nd := [⟨6, 1, 3, 0, 0, [], ⟨#[]⟩⟩, ⟨7, 0, 1, 0, 0, [], ⟨#[]⟩⟩, ⟨1, 0, 0, 0, 0, [1], ⟨#[]⟩⟩, ⟨6, 0, 24, 0, 0, [], ⟨#[]⟩⟩, ⟨3, 0, 0, 0, 0, [], ⟨#[110]⟩⟩]
theorem parsed_prodf : Parsed toks_prodf nodes_prodf := ⟨allOk_at ⟨tokOk_glyph (by decide) (by decide), tokOk_glyph (by decide) (by decide), tokOk_num (n := 1) (by decide), tokOk_glyph (by decide) (by decide), tokOk_glyph (by decide) (by decide), tokOk_name (nameOk_of (by decide +kernel)), trivial⟩, shape_prodf toks_prodf rfl rfl rfl rfl rfl rfl rfl, by decide +kernel, by decide, by decide, by decide⟩

end Go.Proofs.YtihndbkaoejnnaaGreatDoor

namespace Go.Proofs.YtihndbkaoejnnaaGreatDoor
open Go Go.RowKit Go.Proofs.YtihndbkaoejnnaaGreatDoor.P

theorem walk_prod5 (ns : List Nd) (t0 : ns[0]? = some ⟨6, 6, 0, 0, 1, [], ⟨#[]⟩⟩) (t1 : ns[1]? = some ⟨7, 0, 8, 0, 0, [], ⟨#[]⟩⟩) (t2 : ns[2]? = some ⟨5, 0, 0, 0, 0, [], ⟨#[]⟩⟩) (t3 : ns[3]? = some ⟨1, 0, 0, 0, 0, [0], ⟨#[]⟩⟩) (t4 : ns[4]? = some ⟨1, 0, 0, 0, 0, [1], ⟨#[]⟩⟩) (t5 : ns[5]? = some ⟨7, 0, 3, 0, 0, [], ⟨#[]⟩⟩) (t6 : ns[6]? = some ⟨5, 0, 0, 0, 0, [], ⟨#[]⟩⟩) (t7 : ns[7]? = some ⟨6, 7, 0, 0, 0, [], ⟨#[]⟩⟩) (t8 : ns[8]? = some ⟨7, 0, 2, 0, 0, [], ⟨#[]⟩⟩) (t9 : ns[9]? = some ⟨5, 0, 0, 0, 0, [], ⟨#[]⟩⟩) (t10 : ns[10]? = some ⟨1, 0, 0, 0, 0, [1], ⟨#[]⟩⟩) (t11 : ns[11]? = some ⟨1, 0, 0, 0, 0, [5], ⟨#[]⟩⟩) : WExpr ns 0 0 12 := by
  have e_1 : WExpr ns 2 1 3 := w_arg t2 rightNd_arg (by decide)
  have e_2 : WExpr ns 3 1 4 := w_nums t3 (rightNd_nums (by decide))
  have e_3 : WExpr ns 1 1 4 := w_two (m := 3) (q := 3) t1 (rightNd_act (by decide) (by unfold ActOk; decide) (by decide) (by decide)) e_1 (wfnAt_plain (by decide) (by decide)) e_2
  have e_4 : WExpr ns 4 1 5 := w_nums t4 (rightNd_nums (by decide))
  have e_5 : WExpr ns 6 1 7 := w_arg t6 rightNd_arg (by decide)
  have e_6 : WExpr ns 9 1 10 := w_arg t9 rightNd_arg (by decide)
  have e_7 : WExpr ns 10 1 11 := w_nums t10 (rightNd_nums (by decide))
  have e_8 : WExpr ns 8 1 11 := w_two (m := 10) (q := 10) t8 (rightNd_act (by decide) (by unfold ActOk; decide) (by decide) (by decide)) e_6 (wfnAt_plain (by decide) (by decide)) e_7
  have e_9 : WExpr ns 7 1 11 := w_one (q := 8) t7 (rightNd_act (by decide) (by unfold ActOk; decide) (by decide) (by decide)) (wfnAt_self rfl (by decide)) e_8
  have e_10 : WExpr ns 5 1 11 := w_two (m := 7) (q := 7) t5 (rightNd_act (by decide) (by unfold ActOk; decide) (by decide) (by decide)) e_5 (wfnAt_plain (by decide) (by decide)) e_9
  have e_11 : WExpr ns 11 0 12 := w_nums t11 (rightNd_nums (by decide))
  have e_12 : WExpr ns 0 0 12 := w_one (q := 11) t0 (rightNd_act (by decide) (by unfold ActOk; decide) (by decide) (by decide)) (wfnAt_dfn (m0 := 4) (m1 := 5) rfl rfl e_3 e_4 e_10 (by decide)) e_11
  exact e_12
theorem walked_prod5 : Walked nodes_prod5 := ⟨walk_prod5 nodes_prod5 rfl rfl rfl rfl rfl rfl rfl rfl rfl rfl rfl rfl, ⟨_, rfl, by decide⟩, by decide⟩

theorem walk_prodn (ns : List Nd) (t0 : ns[0]? = some ⟨6, 6, 0, 0, 1, [], ⟨#[]⟩⟩) (t1 : ns[1]? = some ⟨7, 0, 8, 0, 0, [], ⟨#[]⟩⟩) (t2 : ns[2]? = some ⟨5, 0, 0, 0, 0, [], ⟨#[]⟩⟩) (t3 : ns[3]? = some ⟨1, 0, 0, 0, 0, [0], ⟨#[]⟩⟩) (t4 : ns[4]? = some ⟨1, 0, 0, 0, 0, [1], ⟨#[]⟩⟩) (t5 : ns[5]? = some ⟨7, 0, 3, 0, 0, [], ⟨#[]⟩⟩) (t6 : ns[6]? = some ⟨5, 0, 0, 0, 0, [], ⟨#[]⟩⟩) (t7 : ns[7]? = some ⟨6, 7, 0, 0, 0, [], ⟨#[]⟩⟩) (t8 : ns[8]? = some ⟨7, 0, 2, 0, 0, [], ⟨#[]⟩⟩) (t9 : ns[9]? = some ⟨5, 0, 0, 0, 0, [], ⟨#[]⟩⟩) (t10 : ns[10]? = some ⟨1, 0, 0, 0, 0, [1], ⟨#[]⟩⟩) (t11 : ns[11]? = some ⟨3, 0, 0, 0, 0, [], ⟨#[110]⟩⟩) : WExpr ns 0 0 12 := by
  have e_1 : WExpr ns 2 1 3 := w_arg t2 rightNd_arg (by decide)
  have e_2 : WExpr ns 3 1 4 := w_nums t3 (rightNd_nums (by decide))
  have e_3 : WExpr ns 1 1 4 := w_two (m := 3) (q := 3) t1 (rightNd_act (by decide) (by unfold ActOk; decide) (by decide) (by decide)) e_1 (wfnAt_plain (by decide) (by decide)) e_2
  have e_4 : WExpr ns 4 1 5 := w_nums t4 (rightNd_nums (by decide))
  have e_5 : WExpr ns 6 1 7 := w_arg t6 rightNd_arg (by decide)
  have e_6 : WExpr ns 9 1 10 := w_arg t9 rightNd_arg (by decide)
  have e_7 : WExpr ns 10 1 11 := w_nums t10 (rightNd_nums (by decide))
  have e_8 : WExpr ns 8 1 11 := w_two (m := 10) (q := 10) t8 (rightNd_act (by decide) (by unfold ActOk; decide) (by decide) (by decide)) e_6 (wfnAt_plain (by decide) (by decide)) e_7
  have e_9 : WExpr ns 7 1 11 := w_one (q := 8) t7 (rightNd_act (by decide) (by unfold ActOk; decide) (by decide) (by decide)) (wfnAt_self rfl (by decide)) e_8
  have e_10 : WExpr ns 5 1 11 := w_two (m := 7) (q := 7) t5 (rightNd_act (by decide) (by unfold ActOk; decide) (by decide) (by decide)) e_5 (wfnAt_plain (by decide) (by decide)) e_9
  have e_11 : WExpr ns 11 0 12 := w_var t11 (rightNd_var (nameOk_of (by decide +kernel)))
  have e_12 : WExpr ns 0 0 12 := w_one (q := 11) t0 (rightNd_act (by decide) (by unfold ActOk; decide) (by decide) (by decide)) (wfnAt_dfn (m0 := 4) (m1 := 5) rfl rfl e_3 e_4 e_10 (by decide)) e_11
  exact e_12
theorem walked_prodn : Walked nodes_prodn := ⟨walk_prodn nodes_prodn rfl rfl rfl rfl rfl rfl rfl rfl rfl rfl rfl rfl, ⟨_, rfl, by decide⟩, by decide⟩

theorem walk_prodf (ns : List Nd) (t0 : ns[0]? = some ⟨6, 1, 3, 0, 0, [], ⟨#[]⟩⟩) (t1 : ns[1]? = some ⟨7, 0, 1, 0, 0, [], ⟨#[]⟩⟩) (t2 : ns[2]? = some ⟨1, 0, 0, 0, 0, [1], ⟨#[]⟩⟩) (t3 : ns[3]? = some ⟨6, 0, 24, 0, 0, [], ⟨#[]⟩⟩) (t4 : ns[4]? = some ⟨3, 0, 0, 0, 0, [], ⟨#[110]⟩⟩) : WExpr ns 0 0 5 := by
  have e_1 : WExpr ns 2 0 3 := w_nums t2 (rightNd_nums (by decide))
  have e_2 : WExpr ns 4 0 5 := w_var t4 (rightNd_var (nameOk_of (by decide +kernel)))
  have e_3 : WExpr ns 3 0 5 := w_one (q := 4) t3 (rightNd_act (by decide) (by unfold ActOk; decide) (by decide) (by decide)) (wfnAt_plain (by decide) (by decide)) e_2
  have e_4 : WExpr ns 1 0 5 := w_two (m := 3) (q := 3) t1 (rightNd_act (by decide) (by unfold ActOk; decide) (by decide) (by decide)) e_1 (wfnAt_plain (by decide) (by decide)) e_3
  have e_5 : WExpr ns 0 0 5 := w_one (q := 1) t0 (rightNd_act (by decide) (by unfold ActOk; decide) (by decide) (by decide)) (wfnAt_plain (by decide) (by decide)) e_4
  exact e_5
theorem walked_prodf : Walked nodes_prodf := ⟨walk_prodf nodes_prodf rfl rfl rfl rfl rfl, ⟨_, rfl, by decide⟩, by decide⟩

end Go.Proofs.YtihndbkaoejnnaaGreatDoor
