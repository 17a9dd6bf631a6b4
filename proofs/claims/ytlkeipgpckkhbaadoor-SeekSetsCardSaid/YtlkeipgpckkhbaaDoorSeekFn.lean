/- The walks of the functions that seek asks cell by cell. Conditions: none. -/
import Derived.Test.YtlkeipgpckkhbaaDoorChosen
namespace Go.Proofs.YtlkeipgpckkhbaaDoor
open Go Go.RowKit Go.Proofs.YtlkeipgpckkhbaaDoor.P

theorem FirstsAt.has {w : World} {g : Nat} {d : List Int} (h : FirstsAt w g d) : ∃ n D, w.ownsMap Tryd.prog 3 (plainElem Tryd.prog 3) g n D ∧ Tells D d d := h

set_option maxRecDepth 100000 in
set_option maxHeartbeats 1000000 in
theorem nub1_any (i : Nat) (x : Int) (b g : Nat) (d : List Int) (W : World) (hb : Box W b 54 #[.map (some g)]) (hg : FirstsAt W g d) (hx : x ∈ d) (hw : (Lit.int .i64 x).wf = true) :
    Calls Tryd.prog 33 (#[.int .i64 i, .int .i64 x] ++ #[.pointer (some ⟨b, 0, none⟩)]) W fun e W' => e = .returned (.bool (firstB d i x)) ∧ W = W' := by
  obtain ⟨n, D, hown, ht⟩ := hg
  have hat0 := ht.2.2 x hw hx (.lit (.int .i64 0))
  have hkey : keyOf Tryd.prog 3 (.int .i64 x) = some (.int .i64 x) := Maps.keyOf_int_mk Tryd.underlying3 hw
  have H0 := Lib.hid hat0
  have c0 := hb.one
  clear hat0 ht hx hw
  simp only [List.append_toArray, List.cons_append, List.nil_append]
  go_enter Tryd.func33, Tryd.ntmps33
  go_wp2_with (at_lookup; refine wpList_lookup_own_int _ rfl _ _ 54 rfl 3 3 .i64 int_keys Tryd.underlying54 Tryd.underlying3 (int_zero _) g n _ rfl hown _ _ rfl hkey ?_; intro c hat hwc)
  have hc : c = ((d.idxOf x : Nat) : Int) := by
    rw [H0.out] at hat
    injection hat with hat
    injection hat with _ hat
    exact hat.symm
  subst hc
  clear hat hwc
  go_ret
  refine ⟨?_, rfl⟩
  unfold firstB
  by_cases e : d.idxOf x = i
  · rw [e]; simp
  · rw [decide_eq_false e]
    have : (((d.idxOf x : Nat) : Int) == (i : Int)) = false := by simp; omega
    rw [this]
    rfl

set_option maxRecDepth 100000 in
set_option maxHeartbeats 1000000 in
theorem pair1_any (i : Nat) (x : Int) (g0 ga gb g : Nat) (a b : Arr) (ta tb : TypeId) (a1 a2 b1 b2 : Value) (W : World) (hb : Box W g0 54 #[.map (some g)]) (hA : Box W ga ta #[.bool a.ch, a1, a2]) (hB : Box W gb tb #[.bool b.ch, b1, b2])
    (hg : FirstsAt W g b.da) (hw : (Lit.int .i64 x).wf = true) :
    Calls Tryd.prog 49 (#[.int .i64 i, .int .i64 x] ++ #[.pointer (some ⟨g0, 0, none⟩), .pointer (some ⟨ga, 0, none⟩), .pointer (some ⟨gb, 0, none⟩)]) W fun e W' => e = .returned (.bool (hasB b a.ch x)) ∧ W = W' := by
  obtain ⟨n, D, hown, ht⟩ := hg
  have hhas := ht.2.1 x hw
  have hkey : keyOf Tryd.prog 3 (.int .i64 x) = some (.int .i64 x) := Maps.keyOf_int_mk Tryd.underlying3 hw
  have c0 := hb.one
  obtain ⟨p0, -, -⟩ := hA.three
  obtain ⟨q0, -, -⟩ := hB.three
  clear ht hw
  simp only [List.append_toArray, List.cons_append, List.nil_append]
  by_cases hm : x ∈ b.da
  · rw [decide_eq_true hm] at hhas
    have HM := Lib.hid hm
    clear hm
    by_cases hc : a.ch = b.ch
    · have e1 : (a.ch == b.ch) = true := by simp [hc]
      have HC := Lib.hid hc
      clear hc
      go_enter Tryd.func49, Tryd.ntmps49
      go_wp2_with (at_lookup; refine wpList_lookup_own_ok_int _ rfl _ _ 54 rfl 3 3 .i64 int_keys Tryd.underlying54 Tryd.underlying3 (int_zero _) g n _ rfl hown _ _ rfl hkey ?_; intro c hat hwc; rw [hhas])
      go_ret
      exact ⟨by rw [show hasB b a.ch x = true from hasB_iff.2 ⟨HM.out, HC.out⟩]; rfl, rfl⟩
    · have e1 : (a.ch == b.ch) = false := by simp [hc]
      have HC := Lib.hid hc
      clear hc
      go_enter Tryd.func49, Tryd.ntmps49
      go_wp2_with (at_lookup; refine wpList_lookup_own_ok_int _ rfl _ _ 54 rfl 3 3 .i64 int_keys Tryd.underlying54 Tryd.underlying3 (int_zero _) g n _ rfl hown _ _ rfl hkey ?_; intro c hat hwc; rw [hhas])
      go_ret
      exact ⟨by rw [show hasB b a.ch x = false from by rw [Bool.eq_false_iff]; intro h; exact HC.out (hasB_iff.1 h).2]; rfl, rfl⟩
  · rw [decide_eq_false hm] at hhas
    have HM := Lib.hid hm
    clear hm
    go_enter Tryd.func49, Tryd.ntmps49
    go_wp2_with (at_lookup; refine wpList_lookup_own_ok_int _ rfl _ _ 54 rfl 3 3 .i64 int_keys Tryd.underlying54 Tryd.underlying3 (int_zero _) g n _ rfl hown _ _ rfl hkey ?_; intro c hat hwc; rw [hhas])
    go_ret
    exact ⟨by rw [show hasB b a.ch x = false from by rw [Bool.eq_false_iff]; intro h; exact HM.out (hasB_iff.1 h).1]; rfl, rfl⟩

end Go.Proofs.YtlkeipgpckkhbaaDoor
