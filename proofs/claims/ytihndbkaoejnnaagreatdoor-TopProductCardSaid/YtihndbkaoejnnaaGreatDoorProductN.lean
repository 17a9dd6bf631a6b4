/- What the card TopProduct leans on: LexAll. Conditions: none but those of its theorems. -/
import Derived.Deep.RegionLaw
import Derived.Test.YtihndbkaoejnnaaGreatDoorProductM
set_option linter.unusedSimpArgs false
set_option linter.unusedVariables false
namespace Go.Proofs.YtihndbkaoejnnaaGreatDoor
open Go Go.RowKit Go.Proofs.YtihndbkaoejnnaaGreatDoor.P

/-- A word: its kind, its function, its number, its text, its place. -/
structure Tok where
  k : Int
  f : Int
  n : Int
  t : ByteArray
  at_ : Nat
def Tok.cells (x : Tok) : List Value := [.int .i64 x.k, .int .i64 x.f, .int .i64 x.n, .string x.t, .int .i64 x.at_]
def Tok.v (x : Tok) : Value := tokV x.k x.f x.n x.t x.at_
def tokCells : List Tok → List Value
  | [] => []
  | x :: l => x.cells ++ tokCells l
theorem tokCells_append (a b : List Tok) : tokCells (a ++ b) = tokCells a ++ tokCells b := by
  induction a with
  | nil => rfl
  | cons x l ih => simp [tokCells, ih]
theorem length_tokCells (a : List Tok) : (tokCells a).length = a.length * 5 := by
  induction a with
  | nil => rfl
  | cons x l ih => simp [tokCells, ih, Tok.cells]; omega

/-- Here stands this word, which ends there. -/
def WordAt (src : ByteArray) (pos : Nat) (t : Tok) (q : Nat) : Prop :=
  ∀ (w : World) (R : Nat) (wv : Value), Std w → Reader w R src pos wv → Calls Tryz.prog 62 #[.pointer (some ⟨R, 0, none⟩)] w (Words t.v R src q wv w)

/-- From here on stand these words. -/
inductive Lexes (src : ByteArray) : Nat → List Tok → Prop
  | done (pos m : Nat) : Runs spB src pos m → pos + m = src.size → Lexes src pos []
  | more (pos m q : Nat) (t : Tok) (ts : List Tok) : Runs spB src pos m → pos + m < src.size → Lib.hasPrefix (src.extract (pos + m) src.size).data.toList [226, 141, 157] = false → WordAt src (pos + m) t q → q ≤ src.size → Lexes src q ts → Lexes src pos (t :: ts)

def wordsIn (w : World) (R : Nat) : Nat := match w.cell? ⟨R, 2, none⟩ with | some (.slice _ n _) => n | _ => 0
theorem Reader.wordsIn {w : World} {R : Nat} {src : ByteArray} {pos : Nat} {A : Option Addr} {n c : Nat} (h : Reader w R src pos (.slice A n c)) : wordsIn w R = n := by
  unfold Go.Proofs.YtihndbkaoejnnaaGreatDoor.wordsIn
  rw [(Box.three h).2.2]
theorem Reader.words {w : World} {R : Nat} {src : ByteArray} {pos : Nat} {wv : Value} (h : Reader w R src pos wv) (wv' : Value) : Reader (w.setCell ⟨R, 2, none⟩ wv') R src pos wv' := Box.store h 2 _

theorem extract_none (s : ByteArray) (q : Nat) (h : q = s.size) : s.extract q s.size = ⟨#[]⟩ := by
  apply ByteArray.ext
  subst h
  have : (s.extract s.size s.size).size = 0 := by simp
  have h2 : (s.extract s.size s.size).data.size = 0 := this
  exact Array.eq_empty_of_size_eq_zero h2
theorem extract_some {s : ByteArray} {q : Nat} (h : q < s.size) : (s.extract q s.size).toList.isEmpty = false := by
  rw [Lib.toList_data]
  have hX0 : 0 < (s.extract q s.size).size := by rw [ByteArray.size_extract]; omega
  cases he : (s.extract q s.size).data.toList with
  | nil => rw [Lib.size_eq, he] at hX0; simp at hX0
  | cons _ _ => rfl

theorem cellsAt_new (w : World) (t : TypeId) (us : List Value) : CellsAt (w.alloc (.cells us.toArray t)) (some ⟨w.heap.size, 0, none⟩) us := by
  intro j u hj
  refine ⟨_, rfl, by simp, ?_⟩
  have e : (⟨w.heap.size, 0, none⟩ : Addr).add j = ⟨w.heap.size, j, none⟩ := by unfold Addr.add; split <;> simp_all
  rw [e, (Box.new w t us.toArray).cell j]
  simpa using hj
theorem tok_one (t : Tok) : ∀ u ∈ t.cells, u.oneCell' = true := by
  intro u hu
  simp only [Tok.cells, List.mem_cons, List.not_mem_nil, or_false] at hu
  rcases hu with rfl | rfl | rfl | rfl | rfl <;> rfl

set_option maxHeartbeats 8000000 in
theorem all_any {w : World} {R : Nat} {src : ByteArray} {toks : List Tok} (hst : Std w) (hR : 6 ≤ R) (h : Reader w R src 0 (.slice none 0 0)) (hs : src.size ≤ 900) (hl : Lexes src 0 toks) (hn : toks.length ≤ 199) :
    Calls Tryz.prog 43 #[.pointer (some ⟨R, 0, none⟩)] w fun e w' => e = .returned (.tuple #[]) ∧ w.grownBy w' (some R) ∧ ∃ A c q, Reader w' R src q (.slice A toks.length c) ∧ w'.ownsRow w.heap.size 113 5 (.slice A toks.length c) toks.length (tokCells toks) := by
  have HR := Lib.hid h
  have HL := Lib.hid hl
  have HST := Lib.hid hst
  have hRlt := Box.lt h
  clear h hl hst
  go_enter Tryz.func43, Tryz.ntmps43
  go_wp2_with fail
  go_loopw [12] (fun _ wr => ∃ (pos n : Nat) (A : Option Addr) (c : Nat) (dn todo : List Tok), pos ≤ src.size ∧ toks = dn ++ todo ∧ n = dn.length ∧ Lexes src pos todo ∧ Reader wr R src pos (.slice A n c) ∧ wr.ownsRow w.heap.size 113 5 (.slice A n c) n (tokCells dn) ∧ w.grownBy wr (some R)) (fun _ wr => toks.length - wordsIn wr R)
  case atStart => exact ⟨0, 0, none, 0, [], toks, Nat.zero_le _, rfl, rfl, HL.out, HR.out, World.ownsRow_nil _ _ _ _, World.grownBy.refl _ _⟩
  case round =>
    obtain ⟨pos, n, A, c, dn, todo, hp, htk, hdn, hlx, hr, hown, hg⟩ := hrel
    have HTK := Lib.hid htk
    have HDN := Lib.hid hdn
    have HR1 := Lib.hid hr
    have HO := Lib.hid hown
    have HG := Lib.hid hg
    have HS1 := Lib.hid (HST.out.grown hg hR)
    clear htk hdn hr hown hg
    cases hlx with
    | done _ m hrun hend =>
      have HW := Lib.hid (fun (W : World) (hW : Reader W R src pos (.slice A n c)) => while_any 59 spB space_any enters_space hW (by omega) hrun.1 hrun.2.1 hrun.2.2)
      have HE := Lib.hid (extract_none src (pos + m) hend)
      have hpm := hrun.1
      clear hrun hend
      go_wp2_with fail
      refine (HW.out _ HR1.out).mono ?_
      rintro e w1 ⟨rfl, hr1, hg1⟩
      have H1 := Lib.hid hr1
      have HG1 := Lib.hid hg1
      have HO1 := Lib.hid (HO.out.kept hg1 (.inr (ownsR_ne HO.out HR1.out (by decide))))
      clear hr1 hg1
      go_wp2_with fail
      refine (rest_any H1.out hpm).mono ?_
      rintro e w2 ⟨rfl, n2, rfl⟩
      rw [HE.out]
      go_wp2_with fail
      first | go_end0 | refine bodyPost_ret (results_none rfl _ _ _) rfl ?_
      have e1 := HTK.out
      rw [List.append_nil] at e1
      have e2 := HDN.out
      subst e1 e2
      exact ⟨rfl, grownBy_trans (grownBy_trans HG.out HG1.out) (grownBy_draws _ _ _), A, c, pos + m, H1.out.drewN _, (HO1.out : w1.ownsRow _ _ _ _ _ _)⟩
    | more _ m q t ts hrun hlt hpre hw hq hmore =>
      have HW := Lib.hid (fun (W : World) (hW : Reader W R src pos (.slice A n c)) => while_any 59 spB space_any enters_space hW (by omega) hrun.1 hrun.2.1 hrun.2.2)
      have HX0 := extract_some hlt
      have hpm := hrun.1
      have HWD := Lib.hid hw
      have HM := Lib.hid hmore
      obtain ⟨X, hX⟩ : ∃ X, X = src.extract (pos + m) src.size := ⟨_, rfl⟩
      rw [← hX] at HX0 hpre
      have HX := Lib.hid hX
      have hn200 : n < 200 := by have e1 := congrArg List.length HTK.out; have e2 := HDN.out; simp at e1; omega
      clear hrun hw hmore hX
      go_wp2_with fail
      refine (HW.out _ HR1.out).mono ?_
      rintro e w1 ⟨rfl, hr1, hg1⟩
      have H1 := Lib.hid hr1
      have HG1 := Lib.hid hg1
      have HO1 := Lib.hid (HO.out.kept hg1 (.inr (ownsR_ne HO.out HR1.out (by decide))))
      clear hr1 hg1
      go_wp2_with fail
      refine (rest_any H1.out hpm).mono ?_
      rintro e w2 ⟨rfl, n2, rfl⟩
      rw [← HX.out]
      go_wp2_with fail
      refine (rest_any (H1.out.drewN n2) hpm).mono ?_
      rintro e w2 ⟨rfl, n3, rfl⟩
      rw [← HX.out]
      go_wp2_with fail
      refine (prefix_any _ _ _).mono ?_
      rintro e w2 ⟨rfl, rfl⟩
      rw [hpre]
      go_wp2_with fail
      have HG2 := Lib.hid (grownBy_trans (grownBy_trans HG.out HG1.out) (grownBy_draws _ (n2 + n3) _))
      have HO2 := Lib.hid (show (w1.drewN (n2 + n3)).ownsRow w.heap.size 113 5 (.slice A n c) n (tokCells dn) from (HO1.out : w1.ownsRow _ _ _ _ _ _))
      refine (HWD.out _ R _ (HST.out.grown HG2.out hR) (H1.out.drewN (n2 + n3))).mono ?_
      rintro e w4 ⟨rfl, hr4, hg4⟩
      have HG4 := Lib.hid (grownBy_trans HG2.out hg4)
      have HO4 := Lib.hid (HO2.out.kept hg4 (.inr (ownsR_ne HO2.out (H1.out.drewN (n2 + n3)) (by decide))))
      have H4 := Lib.hid hr4
      obtain ⟨c0, c1, c2⟩ := Box.three hr4
      have cf := Box.frozen hr4 2
      have cl := Box.lt hr4
      clear hr4 hg4
      unfold Tok.v tokV
      go_wp2_with fail
      generalize ((n : Int) == 200) = b200
      have hne : (Value.slice A n c).ownBlock ≠ some R := ownsR_ne HO4.out H4.out (by decide)
      have hwR : R < w4.heap.size := H4.out.lt
      have hg4s : w.heap.size ≤ w4.heap.size := HG4.out.size
      go_region_law
        ((refine step_append_rows _ rfl 62 113 5 48 rowed_tok rfl _ _ (by rfl) w.heap.size n _ (tokCells dn) (by rfl) (show World.ownsRow _ _ _ _ _ _ _ from ((HO4.out.alloc _).alloc _)) (some ⟨w4.heap.size + 1, 0, none⟩) 1 1 t.cells (by rfl) (by simp) (by omega) (by have := cellsAt_new (w4.alloc (.cells t.cells.toArray 113)) 113 t.cells; rw [World.size_alloc] at this; exact this) (tok_one t) rfl (by omega) (by simp; omega) ?_; intro A2 c2 w5 hown5 hgrow hat; have H5 := Box.grown (((H4.out : Box _ _ _ _).alloc _).alloc _).drew hgrow hne; have hc5 := (Box.three H5).2.2; have hf5 := Box.frozen H5 2))
      all_goals
        go_wp2
        go_roundw
        case rel =>
          have e1 := HTK.out
          have e2 := HDN.out
          exact ⟨q, n + 1, A2, c2, dn ++ [t], ts, hq, by rw [e1]; simp, by rw [e2]; simp, HM.out, Reader.words H5 _, by rw [tokCells_append, show tokCells [t] = t.cells by simp [tokCells]]; exact ownsR_away hown5 (ownsR_ne hown5 H5 (by decide)) _, grownBy_trans (grownBy_row (grownBy_then HG4.out ((below_two w4 _ _).drew)) hgrow (fun k hk => (HO4.out.lt k hk).1)) (grownBy_setCell _ _ _ _)⟩
        case measure =>
          have e1 := congrArg List.length HTK.out
          simp at e1
          exact (show ∀ a b, a = n + 1 → b = n → toks.length - a < toks.length - b from fun a b h1 h2 => by have := HDN.out; omega) _ _ (Reader.wordsIn (Reader.words H5 _)) HR1.out.wordsIn

end Go.Proofs.YtihndbkaoejnnaaGreatDoor
