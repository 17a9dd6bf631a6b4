/- The lines that a new length along an axis folds: the plain part of Scan's and Windows' cards. Conditions: none. -/
import Derived.Test.YtojeggeimnenbaaDoorRedPlain
import Derived.Test.YtojeggeimnenbaaDoorFoldWin
import Derived.Test.YtojeggeimnenbaaDoorGround
set_option linter.unusedSimpArgs false
set_option linter.unusedVariables false
namespace Go.Proofs.YtojeggeimnenbaaDoor.P
open Go Go.RowKit
noncomputable def lnG (a : Arr) (t : List Nat) (k n : Nat) (F G : Nat → Nat) : Nat → List Int := lnAt a.da (t.getD k 0) (lineF t k).2.2 n F G
noncomputable def alongOf (f : Int) (a : Arr) (t : List Nat) (k n : Nat) (F G : Nat → Nat) : Arr := ⟨false, a.sh.set k (n : Int), (List.range (prod (t.set k n))).map fun q => (ofR f (lnG a t k n F G q)).1⟩
noncomputable def alongErr (f : Int) (a : Arr) (t : List Nat) (k n : Nat) (F G : Nat → Nat) : Int := firstErr (fun q => (ofR f (lnG a t k n F G q)).2) (prod (t.set k n))
theorem along_line {a : Arr} {t c : List Nat} {k n q : Nat} {F G : Nat → Nat} (hk : k < t.length) (hq : q < prod (t.set k n)) (hc : c = coords (t.set k n) q) :
    Go.Proofs.YtojeggeimnenbaaDoor.rline a t c k (F (c.getD k 0)) (G (c.getD k 0)) = lnG a t k n F G q := by
  have hk1 : k < (t.set k n).length := by simpa using hk
  have hi := coords_inside hq
  have hne : ¬ NoneElse t k := fun ⟨j, hj, hne, hz⟩ => by
    have h1 : NoneElse (t.set k n) k := ⟨j, by simpa using hj, hne, by rw [getD_set_ne (fun e => hne e.symm)]; exact hz⟩
    rw [noneElse_prod h1] at hq; omega
  have hp := place_coords hq
  rw [← hc] at hi hp
  have hl := inside_length hi
  rw [place_axis hk1 hl, take_set_self, drop_set_self, inner_set, getD_set hk] at hp
  obtain ⟨-, h2, h3⟩ := inside_axis hk1 hi
  rw [getD_set hk] at h2
  rw [inner_set, drop_set_self] at h3
  unfold Go.Proofs.YtojeggeimnenbaaDoor.rline lnG
  rw [show (lineF t k).2.2 = innerOf t k by unfold lineF; rw [if_neg hne], ← hp, lnAt_at h2 h3]
  unfold Go.Proofs.YtojeggeimnenbaaDoor.fline
  refine List.map_congr_left fun j _ => ?_
  rw [place_axis_set hk (by simpa using hl), Nat.add_assoc (place (t.take k) (c.take k) * t.getD k 0)]
theorem along_at {t c : List Nat} {k n q : Nat} (hk : k < t.length) (hq : q < prod (t.set k n)) (hc : c = coords (t.set k n) q) :
    c.length = t.length ∧ c.getD k 0 < n ∧ ∀ j, j < t.length → j ≠ k → c.getD j 0 < t.getD j 0 := by
  have hi := coords_inside hq
  rw [← hc] at hi
  obtain ⟨h1, h2⟩ := inside_iff.1 hi
  rw [List.length_set] at h1 h2
  refine ⟨h1, by have := h2 k hk; rwa [getD_set hk] at this, fun j hj hne => ?_⟩
  have := h2 j hj
  rwa [getD_set_ne (fun e => hne e.symm)] at this
noncomputable def scanFault (f axis : Int) (a : Arr) : Int :=
  if foldErr f axis a ≠ 0 then foldErr f axis a else alongErr f a a.nsh axis.toNat (a.nsh.getD axis.toNat 0) (fun _ => 0) (fun j => j + 1)
noncomputable def winFault (f n axis : Int) (a : Arr) : Int :=
  if foldErr f axis a ≠ 0 then foldErr f axis a else
  if n < 1 ∨ (a.nsh.getD axis.toNat 0 : Int) < n then 4 else alongErr f a a.nsh axis.toNat (a.nsh.getD axis.toNat 0 - n.toNat + 1) (fun j => j) (fun _ => n.toNat)
noncomputable def scanLine (f axis : Int) (a : Arr) : Arr := alongOf f a a.nsh axis.toNat (a.nsh.getD axis.toNat 0) (fun _ => 0) (fun j => j + 1)
noncomputable def winLine (f n axis : Int) (a : Arr) : Arr := alongOf f a a.nsh axis.toNat (a.nsh.getD axis.toNat 0 - n.toNat + 1) (fun j => j) (fun _ => n.toNat)
theorem set_same {t : List Nat} {k : Nat} (hk : k < t.length) : t.set k (t.getD k 0) = t := by
  rw [getD_lt hk, List.set_getElem_self]
theorem lineF_prods {t : List Nat} {k n : Nat} (hk : k < t.length) : (lineF t k).1 * n * (lineF t k).2.2 = prod (t.set k n) := by
  unfold lineF
  by_cases h : NoneElse t k
  · obtain ⟨j, hj, hne, hz⟩ := id h
    have h1 : NoneElse (t.set k n) k := ⟨j, by simpa using hj, hne, by rw [getD_set_ne (fun e => hne e.symm)]; exact hz⟩
    rw [if_pos h, noneElse_prod h1]; simp
  · rw [if_neg h, prod_set hk]
end Go.Proofs.YtojeggeimnenbaaDoor.P
namespace Go.Proofs.YtojeggeimnenbaaDoor
open Go Go.RowKit Go.Proofs.YtojeggeimnenbaaDoor.P
theorem scan_told {v : Value} {a : Arr} {w : World} {f axis : Int} (ha : IsArr w v a) (hw : Wf a.da) :
    Calls Tryd.prog 13 #[.int .i64 f, .int .i64 axis, v] w (Told (scanLine f axis a) (scanFault f axis a) w) := by
  by_cases hE : foldErr f axis a = 0
  · obtain ⟨t, k, h, rfl, hk, hc, hf⟩ := foldErr_zero hE
    refine (scan_ok ha h hk hf hc hw).mono fun e w' h6 => ?_
    unfold scanFault scanLine
    rw [if_neg (fun h => h hE), h.nsh_eq, Int.toNat_natCast]
    unfold alongOf alongErr
    rw [set_same hk, show a.sh.set k ((t.getD k 0 : Nat) : Int) = a.sh by rw [h.sh, ints_set, set_same hk]]
    exact h6.told
  · refine (scan_bad ha hE).mono fun e w' h6 => .inr ?_
    unfold scanFault
    rw [if_pos hE]
    exact ⟨hE, h6⟩
end Go.Proofs.YtojeggeimnenbaaDoor
