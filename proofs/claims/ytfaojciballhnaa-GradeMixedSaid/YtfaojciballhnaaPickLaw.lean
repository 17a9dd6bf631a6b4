/- What the laws of pick lay and call. Conditions: none. -/
import Derived.Test.YtfaojciballhnaaChainsPlain
set_option linter.unusedSimpArgs false
set_option linter.unusedVariables false
namespace Go.Proofs.Ytfaojciballhnaa
open Go Go.RowKit Go.Proofs.Ytfaojciballhnaa.P

/-- A list of one array that the call itself made. -/
theorem arrs_one {w : World} {g : Nat} {b : Arr} {A D : Option Addr} {ca cd : Nat} (h : Box w g 24 #[.bool b.ch, .slice A b.sh.length ca, .slice D b.da.length cd]) (hb : IsArr w (.agg #[.bool b.ch, .slice A b.sh.length ca, .slice D b.da.length cd]) b) :
    IsArrs w (.slice (some ⟨g, 0, none⟩) 1 1) [b] := by
  refine ⟨some ⟨g, 0, none⟩, 1, _, rfl, Nat.le_refl _, by omega, by simp, (fun e => by cases e), AllCells.one hb, fun j u hj => ?_⟩
  refine ⟨_, rfl, h.lt, ?_⟩
  have hc := (h.cell j)
  rw [show (⟨g, 0, none⟩ : Addr).add j = ⟨g, j, none⟩ from addr_zero_add g j, hc]
  simpa using hj
/-- pick.At, where it tells. -/
theorem at_ok {va vb : Value} {a : Arr} {bs : List Arr} {w : World} (ha : IsArr w va a) (hb : IsArrs w vb bs) (h : atErr a bs = 0) : Calls Try.prog 19 #[va, vb] w (GivesOk (atOf a bs) w) :=
  (pick_at ha hb).mono fun _ _ x => (x.ok h).old
theorem at_bad {va vb : Value} {a : Arr} {bs : List Arr} {w : World} (ha : IsArr w va a) (hb : IsArrs w vb bs) (h : atErr a bs ≠ 0) : Calls Try.prog 19 #[va, vb] w (Fails zeroArr (atErr a bs) w) :=
  (pick_at ha hb).mono fun _ _ x => x.elim (fun y => absurd y.1 h) (fun y => y.2)

theorem at_zero (more : List Arr) : atErr ⟨false, [], []⟩ more ≠ 0 := by
  have h : allErr (⟨false, [], []⟩ :: more) ≠ 0 := by
    unfold allErr
    rw [if_pos (by decide +kernel)]
    decide +kernel
  unfold atErr
  rw [if_pos h]
  exact h

end Go.Proofs.Ytfaojciballhnaa
