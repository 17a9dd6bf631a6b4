/- The walk of each.Two, whatever the function and the arrays. Conditions: none but these. -/
import Derived.Test.YtfaojciballhnaaEachFit
import Derived.Test.YtfaojciballhnaaFilledTold
import Derived.Test.YtfaojciballhnaaCellQuiet
import Derived.Test.YtfaojciballhnaaFirsts
set_option linter.unusedSimpArgs false
set_option linter.unusedVariables false
namespace Go.Proofs.Ytfaojciballhnaa.P
/-- What is told of two cells, chars or not. -/
def cellV (fa fb : Bool) (f x y : Int) : Int := if fa ≠ fb then (if f = 9 then 1 else 0) else twoV f x y
def cellE (fa fb : Bool) (f x y : Int) : Int := if fa ≠ fb then 0 else twoE f x y
end Go.Proofs.Ytfaojciballhnaa.P
namespace Go.Proofs.Ytfaojciballhnaa
open Go Go.RowKit Go.Proofs.Ytfaojciballhnaa.P

set_option maxRecDepth 100000 in
set_option maxHeartbeats 8000000 in
theorem two_pp (i : Nat) (f x y : Int) (fa fb : Bool) (ba bb bf b1 b2 q1 q2 : Nat) (da db : List Int) (sa va sb vb s1 s2 : Value) (D D' : Option Addr) (cd cd' : Nat) (W : World) (hA : Box W ba 24 #[.bool fa, sa, va]) (hB : Box W bb 24 #[.bool fb, sb, vb])
    (hf : Box W bf 47 #[.int .i64 f]) (h1 : Box W b1 66 #[.func (.func 44) #[] #[.pointer (some ⟨q1, 0, none⟩)]]) (h2 : Box W b2 66 #[.func (.func 44) #[] #[.pointer (some ⟨q2, 0, none⟩)]]) (k1 : Box W q1 24 #[.bool fa, s1, .slice D da.length cd]) (k2 : Box W q2 24 #[.bool fb, s2, .slice D' db.length cd'])
    (ea : Elems W D da) (eb : Elems W D' db) (hx : da[i]? = some x) (hy : db[i]? = some y) (hw : f = 16 → y ≤ 9223372036854775807) :
    Calls Try.prog 35 (#[.int .i64 i] ++ #[.pointer (some ⟨ba, 0, none⟩), .pointer (some ⟨bb, 0, none⟩), .pointer (some ⟨bf, 0, none⟩), .pointer (some ⟨b1, 0, none⟩), .pointer (some ⟨b2, 0, none⟩)]) W
      fun e W' => e = .returned (.tuple #[.int .i64 (cellV fa fb f x y), errV (cellE fa fb f x y)]) ∧ Below W.heap.size W W' := by
  obtain ⟨a0, -, -⟩ := hA.three
  obtain ⟨c0, -, -⟩ := hB.three
  have f0 := hf.one
  have g1 := h1.one
  have g2 := h2.one
  have C1 := Lib.hid (fun n => plain_at i x q1 da (.bool fa) s1 D cd (W.drewN n) (k1.drewN n) ea hx)
  have C2 := Lib.hid (fun n => plain_at i y q2 db (.bool fb) s2 D' cd' (W.drewN n) (k2.drewN n) eb hy)
  clear hx hy ea eb k1 k2
  simp only [List.append_toArray, List.cons_append, List.nil_append] at C1 C2 ⊢
  have HW := Lib.hid hw
  clear hw
  by_cases hc : fa = fb
  · subst hc
    have HV := Lib.hid (show cellV fa fa f x y = twoV f x y by unfold cellV; simp)
    have HE := Lib.hid (show cellE fa fa f x y = twoE f x y by unfold cellE; simp)
    rw [HV.out, HE.out]
    have hbb : (fa != fa) = false := by simp
    have C3 := Lib.hid (fun n => two_quiet f x y W n HW.out)
    go_enter Try.func35, Try.ntmps35
    go_wp2_with fail
    go_quiet ((first | exact Calls.quiet_of_same (quiet_call (C1.out _)) | exact Calls.quiet_of_same (quiet_call (C2.out _)) | exact (C3.out _)))
    all_goals go_wp2_with fail
    go_ret2
    exact ⟨rfl, below_draws _ _ _⟩
  · cases fa <;> cases fb
    · exact absurd rfl hc
    · have HE := Lib.hid (show cellE false true f x y = 0 by unfold cellE; rw [if_pos (by simp)])
      by_cases h9 : f = 9
      · subst h9
        have HV := Lib.hid (show cellV false true 9 x y = 1 by unfold cellV; rw [if_pos (by simp)]; rfl)
        rw [HV.out, HE.out]
        go_enter Try.func35, Try.ntmps35
        go_wp2_with fail
        go_ret2
        exact ⟨rfl, Below.refl _ _⟩
      · have HV := Lib.hid (show cellV false true f x y = 0 by unfold cellV; rw [if_pos (by simp), if_neg h9])
        rw [HV.out, HE.out]
        go_enter Try.func35, Try.ntmps35
        go_wp2_with fail
        go_ret2
        exact ⟨rfl, Below.refl _ _⟩
    · have HE := Lib.hid (show cellE true false f x y = 0 by unfold cellE; rw [if_pos (by simp)])
      by_cases h9 : f = 9
      · subst h9
        have HV := Lib.hid (show cellV true false 9 x y = 1 by unfold cellV; rw [if_pos (by simp)]; rfl)
        rw [HV.out, HE.out]
        go_enter Try.func35, Try.ntmps35
        go_wp2_with fail
        go_ret2
        exact ⟨rfl, Below.refl _ _⟩
      · have HV := Lib.hid (show cellV true false f x y = 0 by unfold cellV; rw [if_pos (by simp), if_neg h9])
        rw [HV.out, HE.out]
        go_enter Try.func35, Try.ntmps35
        go_wp2_with fail
        go_ret2
        exact ⟨rfl, Below.refl _ _⟩
    · exact absurd rfl hc

set_option maxRecDepth 100000 in
set_option maxHeartbeats 8000000 in
theorem two_sp (i : Nat) (f x y : Int) (fa fb : Bool) (ba bb bf b1 b2 q1 q2 : Nat) (da db : List Int) (sa va sb vb s1 s2 : Value) (D D' : Option Addr) (cd cd' : Nat) (W : World) (hA : Box W ba 24 #[.bool fa, sa, va]) (hB : Box W bb 24 #[.bool fb, sb, vb])
    (hf : Box W bf 47 #[.int .i64 f]) (h1 : Box W b1 66 #[.func (.func 46) #[] #[.pointer (some ⟨q1, 0, none⟩)]]) (h2 : Box W b2 66 #[.func (.func 44) #[] #[.pointer (some ⟨q2, 0, none⟩)]]) (k1 : Box W q1 24 #[.bool fa, s1, .slice D da.length cd]) (k2 : Box W q2 24 #[.bool fb, s2, .slice D' db.length cd'])
    (ea : Elems W D da) (eb : Elems W D' db) (hx : da[0]? = some x) (hy : db[i]? = some y) (hw : f = 16 → y ≤ 9223372036854775807) :
    Calls Try.prog 35 (#[.int .i64 i] ++ #[.pointer (some ⟨ba, 0, none⟩), .pointer (some ⟨bb, 0, none⟩), .pointer (some ⟨bf, 0, none⟩), .pointer (some ⟨b1, 0, none⟩), .pointer (some ⟨b2, 0, none⟩)]) W
      fun e W' => e = .returned (.tuple #[.int .i64 (cellV fa fb f x y), errV (cellE fa fb f x y)]) ∧ Below W.heap.size W W' := by
  obtain ⟨a0, -, -⟩ := hA.three
  obtain ⟨c0, -, -⟩ := hB.three
  have f0 := hf.one
  have g1 := h1.one
  have g2 := h2.one
  have C1 := Lib.hid (fun n => single_at i x q1 da (.bool fa) s1 D cd (W.drewN n) (k1.drewN n) ea hx)
  have C2 := Lib.hid (fun n => plain_at i y q2 db (.bool fb) s2 D' cd' (W.drewN n) (k2.drewN n) eb hy)
  clear hx hy ea eb k1 k2
  simp only [List.append_toArray, List.cons_append, List.nil_append] at C1 C2 ⊢
  have HW := Lib.hid hw
  clear hw
  by_cases hc : fa = fb
  · subst hc
    have HV := Lib.hid (show cellV fa fa f x y = twoV f x y by unfold cellV; simp)
    have HE := Lib.hid (show cellE fa fa f x y = twoE f x y by unfold cellE; simp)
    rw [HV.out, HE.out]
    have hbb : (fa != fa) = false := by simp
    have C3 := Lib.hid (fun n => two_quiet f x y W n HW.out)
    go_enter Try.func35, Try.ntmps35
    go_wp2_with fail
    go_quiet ((first | exact Calls.quiet_of_same (quiet_call (C1.out _)) | exact Calls.quiet_of_same (quiet_call (C2.out _)) | exact (C3.out _)))
    all_goals go_wp2_with fail
    go_ret2
    exact ⟨rfl, below_draws _ _ _⟩
  · cases fa <;> cases fb
    · exact absurd rfl hc
    · have HE := Lib.hid (show cellE false true f x y = 0 by unfold cellE; rw [if_pos (by simp)])
      by_cases h9 : f = 9
      · subst h9
        have HV := Lib.hid (show cellV false true 9 x y = 1 by unfold cellV; rw [if_pos (by simp)]; rfl)
        rw [HV.out, HE.out]
        go_enter Try.func35, Try.ntmps35
        go_wp2_with fail
        go_ret2
        exact ⟨rfl, Below.refl _ _⟩
      · have HV := Lib.hid (show cellV false true f x y = 0 by unfold cellV; rw [if_pos (by simp), if_neg h9])
        rw [HV.out, HE.out]
        go_enter Try.func35, Try.ntmps35
        go_wp2_with fail
        go_ret2
        exact ⟨rfl, Below.refl _ _⟩
    · have HE := Lib.hid (show cellE true false f x y = 0 by unfold cellE; rw [if_pos (by simp)])
      by_cases h9 : f = 9
      · subst h9
        have HV := Lib.hid (show cellV true false 9 x y = 1 by unfold cellV; rw [if_pos (by simp)]; rfl)
        rw [HV.out, HE.out]
        go_enter Try.func35, Try.ntmps35
        go_wp2_with fail
        go_ret2
        exact ⟨rfl, Below.refl _ _⟩
      · have HV := Lib.hid (show cellV true false f x y = 0 by unfold cellV; rw [if_pos (by simp), if_neg h9])
        rw [HV.out, HE.out]
        go_enter Try.func35, Try.ntmps35
        go_wp2_with fail
        go_ret2
        exact ⟨rfl, Below.refl _ _⟩
    · exact absurd rfl hc

set_option maxRecDepth 100000 in
set_option maxHeartbeats 8000000 in
theorem two_ps (i : Nat) (f x y : Int) (fa fb : Bool) (ba bb bf b1 b2 q1 q2 : Nat) (da db : List Int) (sa va sb vb s1 s2 : Value) (D D' : Option Addr) (cd cd' : Nat) (W : World) (hA : Box W ba 24 #[.bool fa, sa, va]) (hB : Box W bb 24 #[.bool fb, sb, vb])
    (hf : Box W bf 47 #[.int .i64 f]) (h1 : Box W b1 66 #[.func (.func 44) #[] #[.pointer (some ⟨q1, 0, none⟩)]]) (h2 : Box W b2 66 #[.func (.func 46) #[] #[.pointer (some ⟨q2, 0, none⟩)]]) (k1 : Box W q1 24 #[.bool fa, s1, .slice D da.length cd]) (k2 : Box W q2 24 #[.bool fb, s2, .slice D' db.length cd'])
    (ea : Elems W D da) (eb : Elems W D' db) (hx : da[i]? = some x) (hy : db[0]? = some y) (hw : f = 16 → y ≤ 9223372036854775807) :
    Calls Try.prog 35 (#[.int .i64 i] ++ #[.pointer (some ⟨ba, 0, none⟩), .pointer (some ⟨bb, 0, none⟩), .pointer (some ⟨bf, 0, none⟩), .pointer (some ⟨b1, 0, none⟩), .pointer (some ⟨b2, 0, none⟩)]) W
      fun e W' => e = .returned (.tuple #[.int .i64 (cellV fa fb f x y), errV (cellE fa fb f x y)]) ∧ Below W.heap.size W W' := by
  obtain ⟨a0, -, -⟩ := hA.three
  obtain ⟨c0, -, -⟩ := hB.three
  have f0 := hf.one
  have g1 := h1.one
  have g2 := h2.one
  have C1 := Lib.hid (fun n => plain_at i x q1 da (.bool fa) s1 D cd (W.drewN n) (k1.drewN n) ea hx)
  have C2 := Lib.hid (fun n => single_at i y q2 db (.bool fb) s2 D' cd' (W.drewN n) (k2.drewN n) eb hy)
  clear hx hy ea eb k1 k2
  simp only [List.append_toArray, List.cons_append, List.nil_append] at C1 C2 ⊢
  have HW := Lib.hid hw
  clear hw
  by_cases hc : fa = fb
  · subst hc
    have HV := Lib.hid (show cellV fa fa f x y = twoV f x y by unfold cellV; simp)
    have HE := Lib.hid (show cellE fa fa f x y = twoE f x y by unfold cellE; simp)
    rw [HV.out, HE.out]
    have hbb : (fa != fa) = false := by simp
    have C3 := Lib.hid (fun n => two_quiet f x y W n HW.out)
    go_enter Try.func35, Try.ntmps35
    go_wp2_with fail
    go_quiet ((first | exact Calls.quiet_of_same (quiet_call (C1.out _)) | exact Calls.quiet_of_same (quiet_call (C2.out _)) | exact (C3.out _)))
    all_goals go_wp2_with fail
    go_ret2
    exact ⟨rfl, below_draws _ _ _⟩
  · cases fa <;> cases fb
    · exact absurd rfl hc
    · have HE := Lib.hid (show cellE false true f x y = 0 by unfold cellE; rw [if_pos (by simp)])
      by_cases h9 : f = 9
      · subst h9
        have HV := Lib.hid (show cellV false true 9 x y = 1 by unfold cellV; rw [if_pos (by simp)]; rfl)
        rw [HV.out, HE.out]
        go_enter Try.func35, Try.ntmps35
        go_wp2_with fail
        go_ret2
        exact ⟨rfl, Below.refl _ _⟩
      · have HV := Lib.hid (show cellV false true f x y = 0 by unfold cellV; rw [if_pos (by simp), if_neg h9])
        rw [HV.out, HE.out]
        go_enter Try.func35, Try.ntmps35
        go_wp2_with fail
        go_ret2
        exact ⟨rfl, Below.refl _ _⟩
    · have HE := Lib.hid (show cellE true false f x y = 0 by unfold cellE; rw [if_pos (by simp)])
      by_cases h9 : f = 9
      · subst h9
        have HV := Lib.hid (show cellV true false 9 x y = 1 by unfold cellV; rw [if_pos (by simp)]; rfl)
        rw [HV.out, HE.out]
        go_enter Try.func35, Try.ntmps35
        go_wp2_with fail
        go_ret2
        exact ⟨rfl, Below.refl _ _⟩
      · have HV := Lib.hid (show cellV true false f x y = 0 by unfold cellV; rw [if_pos (by simp), if_neg h9])
        rw [HV.out, HE.out]
        go_enter Try.func35, Try.ntmps35
        go_wp2_with fail
        go_ret2
        exact ⟨rfl, Below.refl _ _⟩
    · exact absurd rfl hc

end Go.Proofs.Ytfaojciballhnaa
