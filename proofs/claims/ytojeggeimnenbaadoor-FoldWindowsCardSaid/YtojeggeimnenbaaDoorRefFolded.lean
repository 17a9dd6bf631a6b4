/- The walks of the reference's Folded and LineFault. Conditions: none but these. -/
import Derived.Test.YtojeggeimnenbaaDoorRefTwo
import Derived.Test.YtojeggeimnenbaaDoorFoldOf
import Derived.Test.YtojeggeimnenbaaDoorRefTurn
import Derived.Test.YtojeggeimnenbaaDoorFoldBad
set_option linter.unusedSimpArgs false
set_option linter.unusedVariables false
namespace Go.Proofs.YtojeggeimnenbaaDoor.P
open Go Go.RowKit
theorem word_bit (p : Prop) [Decidable p] : Word (bitV p) := by unfold bitV Word; split <;> omega
theorem word_bits (o : BinOp) (a b : Int) : Word (IntKind.i64.wrap a) := by rw [IntKind.wrap_i64]; unfold Word; omega
theorem word_i64 (a : Int) : Word (IntKind.i64.wrap a) := by rw [IntKind.wrap_i64]; unfold Word; omega
theorem word_zero : Word 0 := by unfold Word; omega
theorem word_ite {p : Prop} [Decidable p] {x y : Int} (hx : Word x) (hy : Word y) : Word (if p then x else y) := by by_cases h : p <;> simp [h, hx, hy]
theorem word_mx {a b : Int} (ha : Word a) (hb : Word b) : Word (max a b) := by unfold Word at *; omega
theorem word_mn {a b : Int} (ha : Word a) (hb : Word b) : Word (min a b) := by unfold Word at *; omega
theorem word_twoV (f : Int) {a b : Int} (ha : Word a) (hb : Word b) : Word (twoV f a b) := by
  unfold twoV
  repeat' (first | exact word_wrap _ | exact word_zero | exact word_bit _ | exact hb | exact word_mx ha hb | exact word_mn ha hb | exact word_i64 _ | refine word_ite ?_ ?_)
theorem word_neutV (f : Int) : Word (neutV f) := by
  unfold neutV
  have h1 : Word 1 := by unfold Word; omega
  have h2 : Word (-9223372036854775808) := by unfold Word; omega
  have h3 : Word 9223372036854775807 := by unfold Word; omega
  have h4 : Word (-1) := by unfold Word; omega
  repeat' (first | exact h1 | exact h2 | exact h3 | exact h4 | exact word_zero | refine word_ite ?_ ?_)
theorem word_ofR (f : Int) : ∀ {l : List Int}, (∀ x ∈ l, Word x) → Word (ofR f l).1
  | [], _ => word_neutV f
  | [x], h => h x List.mem_cons_self
  | x :: y :: l, h => by
    rw [ofR_cons (by simp)]
    split
    · exact word_zero
    · exact word_twoV f (h x List.mem_cons_self) (word_ofR f fun z hz => h z (List.mem_cons_of_mem _ hz))
end Go.Proofs.YtojeggeimnenbaaDoor.P
namespace Go.Proofs.YtojeggeimnenbaaDoor
open Go Go.RowKit Go.Proofs.YtojeggeimnenbaaDoor.P
theorem IsInts.rest {w : World} {ad : Addr} {c : Nat} {x : Int} {l : List Int} (h : IsInts w (.slice (some ad) (x :: l).length c) (x :: l)) : IsInts w (.slice (some (ad.add 1)) l.length (c - 1)) l := by
  obtain ⟨A, c', e, h1, h2, h3, h4, h5⟩ := h
  injection e with e1 e2 e3
  subst e1 e3
  simp only [List.length_cons] at h1 h3
  refine ⟨_, _, rfl, by omega, by omega, by omega, (fun e => by cases e), fun k y hk => ?_⟩
  obtain ⟨ad', e, h6, h7⟩ := h5 (k + 1) y (by simpa using hk)
  injection e with e
  subst e
  refine ⟨_, rfl, by rw [addr_block_add]; exact h6, ?_⟩
  rw [← h7]
  rcases Nat.eq_zero_or_pos k with h0 | h0
  · subst h0; simp [Addr.add]
  · simp [Addr.add, Nat.ne_of_gt h0, Nat.add_comm, Nat.add_left_comm, Nat.add_assoc]
set_option maxRecDepth 100000 in
set_option maxHeartbeats 4000000 in
theorem rfolded_any (f : Int) : ∀ (ln : List Int) (v : Value) (w : World), IsInts w v ln → ln.length ≤ 4096 → (∀ x ∈ ln, Word x) →
    Calls Tryd.prog 29 #[.int .i64 f, v] w fun e w' => e = .returned (.tuple #[.int .i64 (ofR f ln).1, .int .i64 (ofR f ln).2]) ∧ w = w'
  | [], v, w, h1, _, _ => by
    obtain ⟨A, ca, rfl, a1, a2, a3, -, -⟩ := h1.open_
    have HN := Lib.hid (rneutral_any f w)
    have HV := Lib.hid (show ofR f [] = (neutV f, neutE f) from rfl)
    obtain ⟨V, hV⟩ : ∃ V, V = neutV f := ⟨_, rfl⟩
    obtain ⟨E, hE⟩ : ∃ V, V = neutE f := ⟨_, rfl⟩
    rw [← hV, ← hE] at HN HV
    clear hV hE h1
    rw [HV.out]
    go_enter Tryd.func29, Tryd.ntmps29
    go_wp2_with fail
    refine HN.out.mono ?_
    rintro e w1 ⟨rfl, rfl⟩
    go_wp2_with fail
    refine bodyPost_ret (v := .tuple #[.int .i64 V, .int .i64 E]) (by simp [results, Tryd.results29, go_sem]) rfl ?_
    exact ⟨rfl, rfl⟩
  | [x], v, w, h1, _, _ => by
    obtain ⟨A, ca, rfl, a1, a2, a3, E0, -⟩ := h1.open_
    obtain ⟨ad, e, hl, hc⟩ := E0 0 x rfl
    subst e
    have hc' : w.cell? ad = some (.int .i64 x) := hc
    clear hc E0 h1
    simp only [List.length_cons, List.length_nil, Nat.zero_add] at a1 a2 a3 ⊢
    go_enter Tryd.func29, Tryd.ntmps29
    go_wp2_with fail
    refine bodyPost_ret (v := .tuple #[.int .i64 x, .int .i64 0]) (by simp [results, Tryd.results29, go_sem]) rfl ?_
    exact ⟨rfl, rfl⟩
  | x :: y :: l, v, w, h1, h4, hw => by
    obtain ⟨A, ca, rfl, a1, a2, a3, E0, H0⟩ := h1.open_
    obtain ⟨ad, e, hl, hc⟩ := E0 0 x rfl
    subst e
    have hc' : w.cell? ad = some (.int .i64 x) := hc
    have HI := Lib.hid (rfolded_any f (y :: l) _ w (IsInts.rest h1) (by simp only [List.length_cons] at h4 ⊢; omega) fun z hz => hw z (List.mem_cons_of_mem _ hz))
    have HWX := Lib.hid (hw x List.mem_cons_self)
    have HWR := Lib.hid (word_ofR f fun z hz => hw z (List.mem_cons_of_mem _ hz))
    have HR := Lib.hid (ofR_cons (f := f) (x := x) (l := y :: l) (by simp))
    obtain ⟨V, hV⟩ : ∃ V, V = (ofR f (y :: l)).1 := ⟨_, rfl⟩
    obtain ⟨E, hE⟩ : ∃ V, V = (ofR f (y :: l)).2 := ⟨_, rfl⟩
    rw [← hV] at HWR
    rw [← hV, ← hE] at HI HR
    obtain ⟨m, hm⟩ : ∃ m, m = l.length := ⟨_, rfl⟩
    simp only [List.length_cons, ← hm] at a1 a2 a3 h4 HI ⊢
    clear hc E0 h1 H0 hw hV hE hm
    have e1 : ((m : Int) + 1 + 1 == 0) = false := by simp; omega
    have e2 : ((m : Int) + 1 + 1 == 1) = false := by simp; omega
    have e3 : (((m + 1 + 1 : Nat) : Int) == 0) = false := by simp; omega
    have e4 : (((m + 1 + 1 : Nat) : Int) == 1) = false := by simp; omega
    by_cases hz : E = 0
    · subst hz
      rw [if_neg (by simp)] at HR
      have HT := Lib.hid (rtwo_any f x V w HWX.out HWR.out)
      obtain ⟨V2, hV2⟩ : ∃ z, z = twoV f x V := ⟨_, rfl⟩
      obtain ⟨E2, hE2⟩ : ∃ z, z = twoE f x V := ⟨_, rfl⟩
      rw [← hV2, ← hE2] at HT HR
      clear hV2 hE2
      rw [HR.out]
      go_enter Tryd.func29, Tryd.ntmps29
      go_wp2_with fail
      refine HI.out.mono ?_
      rintro e w1 ⟨rfl, rfl⟩
      go_wp2_with fail
      refine HT.out.mono ?_
      rintro e w1 ⟨rfl, rfl⟩
      go_wp2_with fail
      refine bodyPost_ret (v := .tuple #[.int .i64 V2, .int .i64 E2]) (by simp [results, Tryd.results29, go_sem]) rfl ?_
      exact ⟨rfl, rfl⟩
    · rw [if_pos hz] at HR
      have ez : (E != 0) = true := by simpa using hz
      clear hz
      rw [HR.out]
      go_enter Tryd.func29, Tryd.ntmps29
      go_wp2_with fail
      refine HI.out.mono ?_
      rintro e w1 ⟨rfl, rfl⟩
      go_wp2_with fail
      refine bodyPost_ret (v := .tuple #[.int .i64 0, .int .i64 E]) (by simp [results, Tryd.results29, go_sem]) rfl ?_
      exact ⟨rfl, rfl⟩
end Go.Proofs.YtojeggeimnenbaaDoor
