/- What the card TopProduct leans on: EachTold, EachAll, ZipNew. Conditions: none but those of its theorems. -/
import Derived.Test.YtihndbkaoejnnaaGreatDoorProductAE
import Derived.Test.YtihndbkaoejnnaaGreatDoorProductAD
import Derived.Test.YtihndbkaoejnnaaGreatDoorProductAH
import Derived.Test.YtihndbkaoejnnaaGreatDoorProductH
set_option linter.unusedSimpArgs false
set_option linter.unusedVariables false
namespace Go.Proofs.YtihndbkaoejnnaaGreatDoor.P
/-- What is told of two cells, chars or not. -/
def cellV (fa fb : Bool) (f x y : Int) : Int := if fa ≠ fb then (if f = 9 then 1 else 0) else twoV f x y
def cellE (fa fb : Bool) (f x y : Int) : Int := if fa ≠ fb then 0 else twoE f x y
end Go.Proofs.YtihndbkaoejnnaaGreatDoor.P
namespace Go.Proofs.YtihndbkaoejnnaaGreatDoor
open Go Go.RowKit Go.Proofs.YtihndbkaoejnnaaGreatDoor.P

set_option maxRecDepth 100000 in
set_option maxHeartbeats 8000000 in
theorem two_pp (i : Nat) (f x y : Int) (fa fb : Bool) (ba bb bf b1 b2 q1 q2 : Nat) (da db : List Int) (sa va sb vb s1 s2 : Value) (D D' : Option Addr) (cd cd' : Nat) (W : World) (hA : Box W ba 25 #[.bool fa, sa, va]) (hB : Box W bb 25 #[.bool fb, sb, vb])
    (hf : Box W bf 32 #[.int .i64 f]) (h1 : Box W b1 56 #[.func (.func 243) #[] #[.pointer (some ⟨q1, 0, none⟩)]]) (h2 : Box W b2 56 #[.func (.func 243) #[] #[.pointer (some ⟨q2, 0, none⟩)]]) (k1 : Box W q1 25 #[.bool fa, s1, .slice D da.length cd]) (k2 : Box W q2 25 #[.bool fb, s2, .slice D' db.length cd'])
    (ea : Elems W D da) (eb : Elems W D' db) (hx : da[i]? = some x) (hy : db[i]? = some y) (hw : f = 16 → y ≤ 9223372036854775807) :
    Calls Tryz.prog 231 (#[.int .i64 i] ++ #[.pointer (some ⟨ba, 0, none⟩), .pointer (some ⟨bb, 0, none⟩), .pointer (some ⟨bf, 0, none⟩), .pointer (some ⟨b1, 0, none⟩), .pointer (some ⟨b2, 0, none⟩)]) W
      fun e W' => e = .returned (.tuple #[.int .i64 (cellV fa fb f x y), errV (cellE fa fb f x y)]) ∧ Below W.heap.size W W' := by
  obtain ⟨a0, -, -⟩ := hA.three
  obtain ⟨c0, -, -⟩ := hB.three
  have f0 := hf.one
  have g1 := h1.one
  have g2 := h2.one
  have C1 := Lib.hid (fun n => plain_at i x q1 da (.bool fa) s1 D cd (W.drewN n) (k1.drewN n) ea hx)
  have C2 := Lib.hid (fun n => plain_at i y q2 db (.bool fb) s2 D' cd' (W.drewN n) (k2.drewN n) eb hy)
  clear hx hy ea eb k1 k2
  simp only [List.append_toArray, List.cons_append, List.nil_append] at C1 C2 ⊢
  have HW := Lib.hid hw
  clear hw
  by_cases hc : fa = fb
  · subst hc
    have HV := Lib.hid (show cellV fa fa f x y = twoV f x y by unfold cellV; simp)
    have HE := Lib.hid (show cellE fa fa f x y = twoE f x y by unfold cellE; simp)
    rw [HV.out, HE.out]
    have hbb : (fa != fa) = false := by simp
    have C3 := Lib.hid (fun n => two_quiet f x y W n HW.out)
    go_enter Tryz.func231, Tryz.ntmps231
    go_wp2_with fail
    go_quiet ((first | exact Calls.quiet_of_same (quiet_call (C1.out _)) | exact Calls.quiet_of_same (quiet_call (C2.out _)) | exact (C3.out _)))
    all_goals go_wp2_with fail
    go_ret2
    exact ⟨rfl, below_draws _ _ _⟩
  · cases fa <;> cases fb
    · exact absurd rfl hc
    · have HE := Lib.hid (show cellE false true f x y = 0 by unfold cellE; rw [if_pos (by simp)])
      by_cases h9 : f = 9
      · subst h9
        have HV := Lib.hid (show cellV false true 9 x y = 1 by unfold cellV; rw [if_pos (by simp)]; rfl)
        rw [HV.out, HE.out]
        go_enter Tryz.func231, Tryz.ntmps231
        go_wp2_with fail
        go_ret2
        exact ⟨rfl, Below.refl _ _⟩
      · have HV := Lib.hid (show cellV false true f x y = 0 by unfold cellV; rw [if_pos (by simp), if_neg h9])
        rw [HV.out, HE.out]
        go_enter Tryz.func231, Tryz.ntmps231
        go_wp2_with fail
        go_ret2
        exact ⟨rfl, Below.refl _ _⟩
    · have HE := Lib.hid (show cellE true false f x y = 0 by unfold cellE; rw [if_pos (by simp)])
      by_cases h9 : f = 9
      · subst h9
        have HV := Lib.hid (show cellV true false 9 x y = 1 by unfold cellV; rw [if_pos (by simp)]; rfl)
        rw [HV.out, HE.out]
        go_enter Tryz.func231, Tryz.ntmps231
        go_wp2_with fail
        go_ret2
        exact ⟨rfl, Below.refl _ _⟩
      · have HV := Lib.hid (show cellV true false f x y = 0 by unfold cellV; rw [if_pos (by simp), if_neg h9])
        rw [HV.out, HE.out]
        go_enter Tryz.func231, Tryz.ntmps231
        go_wp2_with fail
        go_ret2
        exact ⟨rfl, Below.refl _ _⟩
    · exact absurd rfl hc

set_option maxRecDepth 100000 in
set_option maxHeartbeats 8000000 in
theorem two_sp (i : Nat) (f x y : Int) (fa fb : Bool) (ba bb bf b1 b2 q1 q2 : Nat) (da db : List Int) (sa va sb vb s1 s2 : Value) (D D' : Option Addr) (cd cd' : Nat) (W : World) (hA : Box W ba 25 #[.bool fa, sa, va]) (hB : Box W bb 25 #[.bool fb, sb, vb])
    (hf : Box W bf 32 #[.int .i64 f]) (h1 : Box W b1 56 #[.func (.func 245) #[] #[.pointer (some ⟨q1, 0, none⟩)]]) (h2 : Box W b2 56 #[.func (.func 243) #[] #[.pointer (some ⟨q2, 0, none⟩)]]) (k1 : Box W q1 25 #[.bool fa, s1, .slice D da.length cd]) (k2 : Box W q2 25 #[.bool fb, s2, .slice D' db.length cd'])
    (ea : Elems W D da) (eb : Elems W D' db) (hx : da[0]? = some x) (hy : db[i]? = some y) (hw : f = 16 → y ≤ 9223372036854775807) :
    Calls Tryz.prog 231 (#[.int .i64 i] ++ #[.pointer (some ⟨ba, 0, none⟩), .pointer (some ⟨bb, 0, none⟩), .pointer (some ⟨bf, 0, none⟩), .pointer (some ⟨b1, 0, none⟩), .pointer (some ⟨b2, 0, none⟩)]) W
      fun e W' => e = .returned (.tuple #[.int .i64 (cellV fa fb f x y), errV (cellE fa fb f x y)]) ∧ Below W.heap.size W W' := by
  obtain ⟨a0, -, -⟩ := hA.three
  obtain ⟨c0, -, -⟩ := hB.three
  have f0 := hf.one
  have g1 := h1.one
  have g2 := h2.one
  have C1 := Lib.hid (fun n => single_at i x q1 da (.bool fa) s1 D cd (W.drewN n) (k1.drewN n) ea hx)
  have C2 := Lib.hid (fun n => plain_at i y q2 db (.bool fb) s2 D' cd' (W.drewN n) (k2.drewN n) eb hy)
  clear hx hy ea eb k1 k2
  simp only [List.append_toArray, List.cons_append, List.nil_append] at C1 C2 ⊢
  have HW := Lib.hid hw
  clear hw
  by_cases hc : fa = fb
  · subst hc
    have HV := Lib.hid (show cellV fa fa f x y = twoV f x y by unfold cellV; simp)
    have HE := Lib.hid (show cellE fa fa f x y = twoE f x y by unfold cellE; simp)
    rw [HV.out, HE.out]
    have hbb : (fa != fa) = false := by simp
    have C3 := Lib.hid (fun n => two_quiet f x y W n HW.out)
    go_enter Tryz.func231, Tryz.ntmps231
    go_wp2_with fail
    go_quiet ((first | exact Calls.quiet_of_same (quiet_call (C1.out _)) | exact Calls.quiet_of_same (quiet_call (C2.out _)) | exact (C3.out _)))
    all_goals go_wp2_with fail
    go_ret2
    exact ⟨rfl, below_draws _ _ _⟩
  · cases fa <;> cases fb
    · exact absurd rfl hc
    · have HE := Lib.hid (show cellE false true f x y = 0 by unfold cellE; rw [if_pos (by simp)])
      by_cases h9 : f = 9
      · subst h9
        have HV := Lib.hid (show cellV false true 9 x y = 1 by unfold cellV; rw [if_pos (by simp)]; rfl)
        rw [HV.out, HE.out]
        go_enter Tryz.func231, Tryz.ntmps231
        go_wp2_with fail
        go_ret2
        exact ⟨rfl, Below.refl _ _⟩
      · have HV := Lib.hid (show cellV false true f x y = 0 by unfold cellV; rw [if_pos (by simp), if_neg h9])
        rw [HV.out, HE.out]
        go_enter Tryz.func231, Tryz.ntmps231
        go_wp2_with fail
        go_ret2
        exact ⟨rfl, Below.refl _ _⟩
    · have HE := Lib.hid (show cellE true false f x y = 0 by unfold cellE; rw [if_pos (by simp)])
      by_cases h9 : f = 9
      · subst h9
        have HV := Lib.hid (show cellV true false 9 x y = 1 by unfold cellV; rw [if_pos (by simp)]; rfl)
        rw [HV.out, HE.out]
        go_enter Tryz.func231, Tryz.ntmps231
        go_wp2_with fail
        go_ret2
        exact ⟨rfl, Below.refl _ _⟩
      · have HV := Lib.hid (show cellV true false f x y = 0 by unfold cellV; rw [if_pos (by simp), if_neg h9])
        rw [HV.out, HE.out]
        go_enter Tryz.func231, Tryz.ntmps231
        go_wp2_with fail
        go_ret2
        exact ⟨rfl, Below.refl _ _⟩
    · exact absurd rfl hc

set_option maxRecDepth 100000 in
set_option maxHeartbeats 8000000 in
theorem two_ps (i : Nat) (f x y : Int) (fa fb : Bool) (ba bb bf b1 b2 q1 q2 : Nat) (da db : List Int) (sa va sb vb s1 s2 : Value) (D D' : Option Addr) (cd cd' : Nat) (W : World) (hA : Box W ba 25 #[.bool fa, sa, va]) (hB : Box W bb 25 #[.bool fb, sb, vb])
    (hf : Box W bf 32 #[.int .i64 f]) (h1 : Box W b1 56 #[.func (.func 243) #[] #[.pointer (some ⟨q1, 0, none⟩)]]) (h2 : Box W b2 56 #[.func (.func 245) #[] #[.pointer (some ⟨q2, 0, none⟩)]]) (k1 : Box W q1 25 #[.bool fa, s1, .slice D da.length cd]) (k2 : Box W q2 25 #[.bool fb, s2, .slice D' db.length cd'])
    (ea : Elems W D da) (eb : Elems W D' db) (hx : da[i]? = some x) (hy : db[0]? = some y) (hw : f = 16 → y ≤ 9223372036854775807) :
    Calls Tryz.prog 231 (#[.int .i64 i] ++ #[.pointer (some ⟨ba, 0, none⟩), .pointer (some ⟨bb, 0, none⟩), .pointer (some ⟨bf, 0, none⟩), .pointer (some ⟨b1, 0, none⟩), .pointer (some ⟨b2, 0, none⟩)]) W
      fun e W' => e = .returned (.tuple #[.int .i64 (cellV fa fb f x y), errV (cellE fa fb f x y)]) ∧ Below W.heap.size W W' := by
  obtain ⟨a0, -, -⟩ := hA.three
  obtain ⟨c0, -, -⟩ := hB.three
  have f0 := hf.one
  have g1 := h1.one
  have g2 := h2.one
  have C1 := Lib.hid (fun n => plain_at i x q1 da (.bool fa) s1 D cd (W.drewN n) (k1.drewN n) ea hx)
  have C2 := Lib.hid (fun n => single_at i y q2 db (.bool fb) s2 D' cd' (W.drewN n) (k2.drewN n) eb hy)
  clear hx hy ea eb k1 k2
  simp only [List.append_toArray, List.cons_append, List.nil_append] at C1 C2 ⊢
  have HW := Lib.hid hw
  clear hw
  by_cases hc : fa = fb
  · subst hc
    have HV := Lib.hid (show cellV fa fa f x y = twoV f x y by unfold cellV; simp)
    have HE := Lib.hid (show cellE fa fa f x y = twoE f x y by unfold cellE; simp)
    rw [HV.out, HE.out]
    have hbb : (fa != fa) = false := by simp
    have C3 := Lib.hid (fun n => two_quiet f x y W n HW.out)
    go_enter Tryz.func231, Tryz.ntmps231
    go_wp2_with fail
    go_quiet ((first | exact Calls.quiet_of_same (quiet_call (C1.out _)) | exact Calls.quiet_of_same (quiet_call (C2.out _)) | exact (C3.out _)))
    all_goals go_wp2_with fail
    go_ret2
    exact ⟨rfl, below_draws _ _ _⟩
  · cases fa <;> cases fb
    · exact absurd rfl hc
    · have HE := Lib.hid (show cellE false true f x y = 0 by unfold cellE; rw [if_pos (by simp)])
      by_cases h9 : f = 9
      · subst h9
        have HV := Lib.hid (show cellV false true 9 x y = 1 by unfold cellV; rw [if_pos (by simp)]; rfl)
        rw [HV.out, HE.out]
        go_enter Tryz.func231, Tryz.ntmps231
        go_wp2_with fail
        go_ret2
        exact ⟨rfl, Below.refl _ _⟩
      · have HV := Lib.hid (show cellV false true f x y = 0 by unfold cellV; rw [if_pos (by simp), if_neg h9])
        rw [HV.out, HE.out]
        go_enter Tryz.func231, Tryz.ntmps231
        go_wp2_with fail
        go_ret2
        exact ⟨rfl, Below.refl _ _⟩
    · have HE := Lib.hid (show cellE true false f x y = 0 by unfold cellE; rw [if_pos (by simp)])
      by_cases h9 : f = 9
      · subst h9
        have HV := Lib.hid (show cellV true false 9 x y = 1 by unfold cellV; rw [if_pos (by simp)]; rfl)
        rw [HV.out, HE.out]
        go_enter Tryz.func231, Tryz.ntmps231
        go_wp2_with fail
        go_ret2
        exact ⟨rfl, Below.refl _ _⟩
      · have HV := Lib.hid (show cellV true false f x y = 0 by unfold cellV; rw [if_pos (by simp), if_neg h9])
        rw [HV.out, HE.out]
        go_enter Tryz.func231, Tryz.ntmps231
        go_wp2_with fail
        go_ret2
        exact ⟨rfl, Below.refl _ _⟩
    · exact absurd rfl hc

end Go.Proofs.YtihndbkaoejnnaaGreatDoor

namespace Go.Proofs.YtihndbkaoejnnaaGreatDoor.P
/-- The cells that are put together. -/
def oneAt (a b : Arr) (i : Nat) : Int := if a.sh.length = 0 then a.da.getD 0 0 else a.da.getD i 0
def twoAt (a b : Arr) (i : Nat) : Int := if a.sh.length = 0 then b.da.getD i 0 else if b.sh.length = 0 then b.da.getD 0 0 else b.da.getD i 0
def fitSh (a b : Arr) : List Int := if a.sh.length = 0 then b.sh else a.sh
def fitN (a b : Arr) : Nat := if a.sh.length = 0 then b.da.length else a.da.length
/-- What is wrong ahead of the cells. -/
def eachErr (f : Int) (a b : Arr) : Int :=
  if twoE f 0 1 ≠ 0 then twoE f 0 1 else if arrErr a ≠ 0 then arrErr a else if arrErr b ≠ 0 then arrErr b else
  if a.sh.length = 0 ∨ b.sh.length = 0 then (if f ≠ 8 ∧ f ≠ 9 ∧ (a.ch = true ∨ b.ch = true) then 6 else 0) else
  if a.sh.length ≠ b.sh.length then 3 else if a.sh ≠ b.sh then 4 else (if f ≠ 8 ∧ f ≠ 9 ∧ (a.ch = true ∨ b.ch = true) then 6 else 0)
theorem dom_three {f : Int} {fa fb : Bool} (hd : ¬ (f ≠ 8 ∧ f ≠ 9 ∧ (fa = true ∨ fb = true))) : f = 8 ∨ f = 9 ∨ ((f != 8) = true ∧ (f != 9) = true ∧ fa = false ∧ fb = false) := by
  by_cases h8 : f = 8
  · exact .inl h8
  by_cases h9 : f = 9
  · exact .inr (.inl h9)
  refine .inr (.inr ⟨by simpa using h8, by simpa using h9, ?_, ?_⟩)
  · cases fa with
    | false => rfl
    | true => exact absurd ⟨h8, h9, .inl rfl⟩ hd
  · cases fb with
    | false => rfl
    | true => exact absurd ⟨h8, h9, .inr rfl⟩ hd
theorem at_some {d : List Int} {i : Nat} (h : i < d.length) : d[i]? = some (d.getD i 0) := by
  rw [List.getD_eq_getElem?_getD, List.getElem?_eq_getElem h]; rfl
theorem one_zero {a b : Arr} {t : List Nat} {i : Nat} (h : Ok a t) (h0 : a.sh.length = 0) : a.da[0]? = some (oneAt a b i) := by
  unfold oneAt
  rw [if_pos h0]
  have ht : t = [] := List.length_eq_zero_iff.1 (by rw [← length_ints, ← h.sh]; exact h0)
  exact at_some (by rw [h.len, ht]; decide)
theorem two_zero {a b : Arr} {t : List Nat} {i : Nat} (h : Ok b t) (h0 : a.sh.length ≠ 0) (h1 : b.sh.length = 0) : b.da[0]? = some (twoAt a b i) := by
  unfold twoAt
  rw [if_neg h0, if_pos h1]
  have ht : t = [] := List.length_eq_zero_iff.1 (by rw [← length_ints, ← h.sh]; exact h1)
  exact at_some (by rw [h.len, ht]; decide)
theorem wf_top {d : List Int} (h : Wf d) : ∀ (i : Nat) (y : Int), d[i]? = some y → y ≤ 9223372036854775807 := fun i y hy => by
  have h1 := h _ (List.mem_of_getElem? hy)
  simp [Lit.wf, IntKind.min, IntKind.max, IntKind.bits, IntKind.signed] at h1
  omega
end Go.Proofs.YtihndbkaoejnnaaGreatDoor.P
namespace Go.Proofs.YtihndbkaoejnnaaGreatDoor
open Go Go.RowKit Go.Proofs.YtihndbkaoejnnaaGreatDoor.P
def EachTellsN (f : Int) (a b : Arr) (w : World) (e : Ending) (w' : World) : Prop :=
  (eachErr f a b ≠ 0 ∧ Fails zeroArr (eachErr f a b) w e w') ∨
  (eachErr f a b = 0 ∧ FillTellsN (fun i => cellV a.ch b.ch f (oneAt a b i) (twoAt a b i)) (fun i => cellE a.ch b.ch f (oneAt a b i) (twoAt a b i)) (fitN a b) (fitSh a b) w e w')

set_option maxRecDepth 100000 in
set_option maxHeartbeats 16000000 in
theorem each_new {va vb : Value} {a b : Arr} {w : World} {f : Int} (ha : IsArr w va a) (hb : IsArr w vb b) (hwb : Wf b.da) :
    Calls Tryz.prog 191 #[.int .i64 f, va, vb] w (EachTellsN f a b w) := by
  obtain ⟨A, ca, D, cd, rfl, hs, hd⟩ := ha.open_
  obtain ⟨A', ca', D', cd', rfl, hs', hd'⟩ := hb.open_
  obtain ⟨fa, hfa⟩ : ∃ c, c = a.ch := ⟨_, rfl⟩
  obtain ⟨fb, hfb⟩ : ∃ c, c = b.ch := ⟨_, rfl⟩
  rw [← hfa] at ha ⊢
  rw [← hfb] at hb ⊢
  have HFA := Lib.hid hfa
  have HFB := Lib.hid hfb
  clear hfa hfb
  have EA := Lib.hid hd.elems
  have EB := Lib.hid hd'.elems
  have HSA := Lib.hid hs
  have HSB := Lib.hid hs'
  have HWB := Lib.hid (wf_top (d := b.da) hwb)
  have i0 : ∀ w, (Instr.index 209 (.agg #[.bool fa, .slice A a.sh.length ca, .slice D a.da.length cd, .bool fb, .slice A' b.sh.length ca', .slice D' b.da.length cd']) (.int .i64 0)).run Tryz.prog w = .ok (.agg #[.bool fa, .slice A a.sh.length ca, .slice D a.da.length cd]) w := fun _ => by kernel_rfl
  have i1 : ∀ w, (Instr.index 209 (.agg #[.bool fa, .slice A a.sh.length ca, .slice D a.da.length cd, .bool fb, .slice A' b.sh.length ca', .slice D' b.da.length cd']) (.int .i64 1)).run Tryz.prog w = .ok (.agg #[.bool fb, .slice A' b.sh.length ca', .slice D' b.da.length cd']) w := fun _ => by kernel_rfl
  have bF0 := (((Box.new w 32 #[.int .i64 f]).alloc (.cells #[.bool fa, .slice A a.sh.length ca, .slice D a.da.length cd] 25)).alloc (.cells #[.bool fb, .slice A' b.sh.length ca', .slice D' b.da.length cd'] 25)).alloc (.cells #[.bool false, .slice none 0 0, .slice none 0 0] 25)
  have bA0 := ((Box.new (w.alloc (.cells #[.int .i64 f] 32)) 25 #[.bool fa, .slice A a.sh.length ca, .slice D a.da.length cd]).alloc (.cells #[.bool fb, .slice A' b.sh.length ca', .slice D' b.da.length cd'] 25)).alloc (.cells #[.bool false, .slice none 0 0, .slice none 0 0] 25)
  have bB0 := (Box.new ((w.alloc (.cells #[.int .i64 f] 32)).alloc (.cells #[.bool fa, .slice A a.sh.length ca, .slice D a.da.length cd] 25)) 25 #[.bool fb, .slice A' b.sh.length ca', .slice D' b.da.length cd']).alloc (.cells #[.bool false, .slice none 0 0, .slice none 0 0] 25)
  have bR0 := Box.new (((w.alloc (.cells #[.int .i64 f] 32)).alloc (.cells #[.bool fa, .slice A a.sh.length ca, .slice D a.da.length cd] 25)).alloc (.cells #[.bool fb, .slice A' b.sh.length ca', .slice D' b.da.length cd'] 25)) 25 #[.bool false, .slice none 0 0, .slice none 0 0]
  simp only [World.size_alloc] at bA0 bB0 bR0
  have hb0 := below_four w (.cells #[.int .i64 f] 32) (.cells #[.bool fa, .slice A a.sh.length ca, .slice D a.da.length cd] 25) (.cells #[.bool fb, .slice A' b.sh.length ca', .slice D' b.da.length cd'] 25) (.cells #[.bool false, .slice none 0 0, .slice none 0 0] 25)
  have f0 := bF0.one
  obtain ⟨t0, t1, t2⟩ := bA0.three
  obtain ⟨u0, u1, u2⟩ := bB0.three
  clear hs hd hs' hd' hwb
  by_cases h1 : twoE f 0 1 = 0
  case neg =>
    have HTE := Lib.hid (show eachErr f a b = twoE f 0 1 by unfold eachErr; rw [if_pos h1])
    have H1 := Lib.hid h1
    have hc0 := fun W => two_any f 0 1 W (fun _ => by omega)
    rw [errV_ne h1] at hc0
    obtain ⟨EE, hEE⟩ : ∃ E, E = twoE f 0 1 := ⟨_, rfl⟩
    rw [← hEE] at hc0 HTE H1
    have HC := Lib.hid hc0
    clear hc0 hEE h1
    go_enter Tryz.func191, Tryz.ntmps191
    go_wp2_with fail
    refine (HC.out _).mono ?_
    rintro e w1 ⟨rfl, hb1⟩
    have bR1 := bR0.below hb1
    have hbw1 := hb0.trans (hb1.mono hb0.size)
    clear bF0 bA0 bB0 bR0 hb1 f0 t0 t1 t2 u0 u1 u2
    obtain ⟨z0, z1, z2⟩ := bR1.three
    have zf := bR1.frozen
    have zl := bR1.lt
    go_wp2_with fail
    refine bodyPost_ret (v := .tuple #[zeroArr, .iface 54 (.int .i64 EE)]) (by simp [results, Tryz.results191, go_sem, z0, z1, z2, zl]; first | done | rfl) rfl ?_
    exact .inl ⟨by rw [HTE.out]; exact H1.out, by rw [HTE.out]; exact ⟨rfl, by have := hbw1.size; go_grown⟩⟩
  have hc0 := fun W => two_any f 0 1 W (fun _ => by omega)
  rw [h1] at hc0
  have HC := Lib.hid (show ∀ W, Calls _ _ _ W fun e w' => e = .returned (.tuple #[.int .i64 (twoV f 0 1), .nilIface]) ∧ Below W.heap.size W w' from hc0)
  have H1 := Lib.hid h1
  clear hc0 h1
  go_enter Tryz.func191, Tryz.ntmps191
  go_wp2_with fail
  refine (HC.out _).mono ?_
  rintro e w1 ⟨rfl, hb1⟩
  have bF1 := bF0.below hb1
  have bA1 := bA0.below hb1
  have bB1 := bB0.below hb1
  have bR1 := bR0.below hb1
  have hbw1 := hb0.trans (hb1.mono hb0.size)
  clear bF0 bA0 bB0 bR0 hb1 f0 t0 t1 t2 u0 u1 u2 HC
  have f0 := bF1.one
  obtain ⟨t0, t1, t2⟩ := bA1.three
  obtain ⟨u0, u1, u2⟩ := bB1.three
  go_wp2_with fail
  clear f0 t0 t1 t2 u0 u1 u2
  go_loopw [30] (fun s30 wr => ∃ m : Int, s30 = .int .i64 m ∧ (m = 0 ∨ (m = 1 ∧ arrErr a = 0) ∨ (m = 2 ∧ arrErr a = 0 ∧ arrErr b = 0)) ∧ Box wr w.heap.size 32 #[.int .i64 f] ∧ Box wr (w.heap.size + 1) 25 #[.bool fa, .slice A a.sh.length ca, .slice D a.da.length cd] ∧ Box wr (w.heap.size + 1 + 1) 25 #[.bool fb, .slice A' b.sh.length ca', .slice D' b.da.length cd'] ∧ Box wr (w.heap.size + 1 + 1 + 1) 25 #[.bool false, .slice none 0 0, .slice none 0 0] ∧ Below w.heap.size w wr) (fun s30 _ => (2 - intOf s30).toNat)
  case atStart => exact ⟨0, rfl, .inl rfl, bF1, bA1, bB1, bR1, hbw1⟩
  case round =>
    clear bF1 bA1 bB1 bR1 hbw1
    obtain ⟨m, rfl, hm, bF, bA, bB, bR, hbl⟩ := hrel
    have f0 := bF.one
    obtain ⟨t0, t1, t2⟩ := bA.three
    obtain ⟨u0, u1, u2⟩ := bB.three
    have hzF := bF.lt
    have hzA := bA.lt
    have hzB := bB.lt
    rcases hm with rfl | ⟨rfl, hea⟩ | ⟨rfl, hea, heb⟩
    · skip
      by_cases he : arrErr a = 0
      case neg =>
        have HTE := Lib.hid (show eachErr f a b = arrErr a by unfold eachErr; rw [if_neg (fun h => h H1.out), if_pos he])
        have HX := Lib.hid he
        have hc0 := fun (W : World) (hW : Below w.heap.size w W) => check_bad (ha.mono hW) HX.out
        obtain ⟨EE, hEE⟩ : ∃ E, E = arrErr a := ⟨_, rfl⟩
        have HX2 := Lib.hid he
        rw [← hEE] at hc0 HTE HX2
        have HC := Lib.hid hc0
        clear hc0 hEE he HX
        go_wp2_with fail
        refine (HC.out _ (hbl.trans ((below_one _ _).mono hbl.size))).mono ?_
        rintro e w1 ⟨rfl, hb1⟩
        have bR1 := (bR.alloc _).below hb1
        have hbw1 := (hbl.trans ((below_one _ _).mono hbl.size)).trans (hb1.mono (by have := hbl.size; simp; omega))
        clear bF bA bB bR hbl hb1 f0 t0 t1 t2 u0 u1 u2 hzF hzA hzB
        obtain ⟨z0, z1, z2⟩ := bR1.three
        have zf := bR1.frozen
        have zl := bR1.lt
        go_wp2_with fail
        refine bodyPost_ret (v := .tuple #[zeroArr, .iface 54 (.int .i64 EE)]) (by simp [results, Tryz.results191, go_sem, z0, z1, z2, zl]; first | done | rfl) rfl ?_
        exact .inl ⟨by rw [HTE.out]; exact HX2.out, by rw [HTE.out]; exact ⟨rfl, by have := hbw1.size; go_grown⟩⟩
      obtain ⟨tt, htt⟩ := ok_of_arrErr he
      have HT := Lib.hid htt
      have HX := Lib.hid he
      clear htt he
      go_wp2_with fail
      refine (check_ok (ha.mono (hbl.trans ((below_one _ _).mono hbl.size))) HT.out).mono ?_
      rintro e w1 ⟨rfl, hb1⟩
      go_wp2_with fail
      go_roundw
      case rel => exact ⟨1, rfl, .inr (.inl ⟨rfl, HX.out⟩), (bF.alloc _).below hb1, (bA.alloc _).below hb1, (bB.alloc _).below hb1, (bR.alloc _).below hb1, (hbl.trans ((below_one _ _).mono hbl.size)).trans (hb1.mono (by have := hbl.size; simp; omega))⟩
      case measure => simp [intOf]
    · have HEA := Lib.hid hea
      clear hea
      by_cases he : arrErr b = 0
      case neg =>
        have HTE := Lib.hid (show eachErr f a b = arrErr b by unfold eachErr; rw [if_neg (fun h => h H1.out), if_neg (fun h => h HEA.out), if_pos he])
        have HX := Lib.hid he
        have hc0 := fun (W : World) (hW : Below w.heap.size w W) => check_bad (hb.mono hW) HX.out
        obtain ⟨EE, hEE⟩ : ∃ E, E = arrErr b := ⟨_, rfl⟩
        have HX2 := Lib.hid he
        rw [← hEE] at hc0 HTE HX2
        have HC := Lib.hid hc0
        clear hc0 hEE he HX
        go_wp2_with fail
        refine (HC.out _ (hbl.trans ((below_one _ _).mono hbl.size))).mono ?_
        rintro e w1 ⟨rfl, hb1⟩
        have bR1 := (bR.alloc _).below hb1
        have hbw1 := (hbl.trans ((below_one _ _).mono hbl.size)).trans (hb1.mono (by have := hbl.size; simp; omega))
        clear bF bA bB bR hbl hb1 f0 t0 t1 t2 u0 u1 u2 hzF hzA hzB
        obtain ⟨z0, z1, z2⟩ := bR1.three
        have zf := bR1.frozen
        have zl := bR1.lt
        go_wp2_with fail
        refine bodyPost_ret (v := .tuple #[zeroArr, .iface 54 (.int .i64 EE)]) (by simp [results, Tryz.results191, go_sem, z0, z1, z2, zl]; first | done | rfl) rfl ?_
        exact .inl ⟨by rw [HTE.out]; exact HX2.out, by rw [HTE.out]; exact ⟨rfl, by have := hbw1.size; go_grown⟩⟩
      obtain ⟨tt, htt⟩ := ok_of_arrErr he
      have HT := Lib.hid htt
      have HX := Lib.hid he
      clear htt he
      go_wp2_with fail
      refine (check_ok (hb.mono (hbl.trans ((below_one _ _).mono hbl.size))) HT.out).mono ?_
      rintro e w1 ⟨rfl, hb1⟩
      go_wp2_with fail
      go_roundw
      case rel => exact ⟨2, rfl, .inr (.inr ⟨rfl, HEA.out, HX.out⟩), (bF.alloc _).below hb1, (bA.alloc _).below hb1, (bB.alloc _).below hb1, (bR.alloc _).below hb1, (hbl.trans ((below_one _ _).mono hbl.size)).trans (hb1.mono (by have := hbl.size; simp; omega))⟩
      case measure => simp [intOf]
    · have HEA := Lib.hid hea
      have HEB := Lib.hid heb
      obtain ⟨z0, z1, z2⟩ := bR.three
      have zf := bR.frozen
      have zl := bR.lt
      obtain ⟨ta, hta⟩ := ok_of_arrErr hea
      obtain ⟨tb, htb⟩ := ok_of_arrErr heb
      have HTA := Lib.hid hta
      have HTB := Lib.hid htb
      have HN4a := Lib.hid (show a.da.length ≤ 4096 by rw [hta.len]; exact hta.good.2.2)
      have HN4b := Lib.hid (show b.da.length ≤ 4096 by rw [htb.len]; exact htb.good.2.2)
      clear hea heb hta htb
      by_cases r0 : a.sh.length = 0
      · have HR0 := Lib.hid r0
        clear r0
        have HSE := Lib.hid (show fitSh a b = b.sh by unfold fitSh; rw [if_pos HR0.out])
        have HNE := Lib.hid (show fitN a b = b.da.length by unfold fitN; rw [if_pos HR0.out])
        have HG1 := Lib.hid (fun (i : Nat) (_ : i < b.da.length) => (show a.da[0]? = some (oneAt a b i) from one_zero HTA.out HR0.out))
        have HG2 := Lib.hid (fun (i : Nat) (hi : i < b.da.length) => (show b.da[i]? = some (twoAt a b i) by unfold twoAt; rw [if_pos HR0.out]; exact at_some hi))
        have hfit := fun (W : World) (hW : Below w.heap.size w W) => fit_first (w := W) (ha.mono hW) (hb.mono hW) HR0.out
        have HFIT := Lib.hid hfit
        clear hfit
        go_wp2_with fail
        refine (HFIT.out _ hbl).mono ?_
        rintro e w2 ⟨q1, q2, rfl, k1, k2, hb2⟩
        have hbw2 := hbl.trans (hb2.mono hbl.size)
        have x1 := (Box.new w2 56 #[.func (.func 245) #[] #[.pointer (some ⟨q1, 0, none⟩)]]).alloc (.cells #[.func (.func 243) #[] #[.pointer (some ⟨q2, 0, none⟩)]] 56)
        have x2 := Box.new (w2.alloc (.cells #[.func (.func 245) #[] #[.pointer (some ⟨q1, 0, none⟩)]] 56)) 56 #[.func (.func 243) #[] #[.pointer (some ⟨q2, 0, none⟩)]]
        have hb3 := below_two w2 (.cells #[.func (.func 245) #[] #[.pointer (some ⟨q1, 0, none⟩)]] 56) (.cells #[.func (.func 243) #[] #[.pointer (some ⟨q2, 0, none⟩)]] 56)
        have bF3 := (bF.below hb2).below hb3
        have bA3 := (bA.below hb2).below hb3
        have bB3 := (bB.below hb2).below hb3
        have bR3 := (bR.below hb2).below hb3
        have k13 := k1.below hb3
        have k23 := k2.below hb3
        have hbw3 := hbw2.trans (hb3.mono hbw2.size)
        clear bF bA bB bR hbl f0 t0 t1 t2 u0 u1 u2 z0 z1 z2 zf zl hzF hzA hzB hb2 hbw2 k1 k2 hb3
        rw [World.size_alloc] at x2
        have f0 := bF3.one
        obtain ⟨t0, t1, t2⟩ := bA3.three
        obtain ⟨u0, u1, u2⟩ := bB3.three
        obtain ⟨z0, z1, z2⟩ := bR3.three
        have zf := bR3.frozen
        have zl := bR3.lt
        by_cases hd : f ≠ 8 ∧ f ≠ 9 ∧ (fa = true ∨ fb = true)
        · have HTE := Lib.hid (show eachErr f a b = 6 by unfold eachErr; rw [if_neg (fun h => h H1.out), if_neg (fun h => h HEA.out), if_neg (fun h => h HEB.out), if_pos (Or.inl HR0.out)]; rw [if_pos (show f ≠ 8 ∧ f ≠ 9 ∧ (a.ch = true ∨ b.ch = true) by rw [← HFA.out, ← HFB.out]; exact hd)])
          obtain ⟨h8, h9, hc⟩ := hd
          have g8 : (f != 8) = true := by simpa using h8
          have g9 : (f != 9) = true := by simpa using h9
          clear h8 h9
          clear x1 x2 k13 k23
          cases fa <;> cases fb
          · simp at hc
          all_goals
            clear hc
            go_wp2_with fail
            refine bodyPost_ret (v := .tuple #[zeroArr, .iface 54 (.int .i64 6)]) (by simp [results, Tryz.results191, go_sem, z0, z1, z2, zl]; first | done | rfl) rfl ?_
            exact .inl ⟨by rw [HTE.out]; decide, by rw [HTE.out]; exact ⟨rfl, by have := hbw3.size; go_grown⟩⟩
        have HTE := Lib.hid (show eachErr f a b = 0 by unfold eachErr; rw [if_neg (fun h => h H1.out), if_neg (fun h => h HEA.out), if_neg (fun h => h HEB.out), if_pos (Or.inl HR0.out)]; rw [if_neg (show ¬ (f ≠ 8 ∧ f ≠ 9 ∧ (a.ch = true ∨ b.ch = true)) by rw [← HFA.out, ← HFB.out]; exact hd)])
        have hdd := dom_three hd
        clear hd
        have GOK := Lib.hid (fun (e : Ending) (w' : World) (h : FillTellsN (fun i => cellV fa fb f (oneAt a b i) (twoAt a b i)) (fun i => cellE fa fb f (oneAt a b i) (twoAt a b i)) b.da.length b.sh w e w') => (show EachTellsN f a b w e w' from .inr ⟨HTE.out, by rw [HNE.out, HSE.out, ← HFA.out, ← HFB.out]; exact h⟩))
        obtain ⟨VAL, hVAL⟩ : ∃ V : Nat → Int, V = fun i => cellV fa fb f (oneAt a b i) (twoAt a b i) := ⟨_, rfl⟩
        obtain ⟨ERR, hERR⟩ : ∃ V : Nat → Int, V = fun i => cellE fa fb f (oneAt a b i) (twoAt a b i) := ⟨_, rfl⟩
        rw [← hVAL, ← hERR] at GOK
        have HCALL := Lib.hid (filled_new (.slice A' b.sh.length ca') b.sh VAL ERR b.da.length 231 #[.pointer (some ⟨w.heap.size + 1, 0, none⟩), .pointer (some ⟨w.heap.size + 1 + 1, 0, none⟩), .pointer (some ⟨w.heap.size, 0, none⟩), .pointer (some ⟨w2.heap.size, 0, none⟩), .pointer (some ⟨w2.heap.size + 1, 0, none⟩)] _ (HSB.out.mono hbw3) (HN4b.out) (fun i hi W hW => by
            have hbW := hbw3.trans (hW.mono hbw3.size)
            rw [hVAL, hERR]
            exact two_sp i f (oneAt a b i) (twoAt a b i) fa fb (w.heap.size + 1) (w.heap.size + 1 + 1) w.heap.size w2.heap.size (w2.heap.size + 1) q1 q2 a.da b.da _ _ _ _ _ _ D D' cd cd' W (bA3.below hW) (bB3.below hW) (bF3.below hW) (x1.below hW) (x2.below hW) (k13.below hW) (k23.below hW) (Elems.mono EA.out hbW) (Elems.mono EB.out hbW) (HG1.out i hi) (HG2.out i hi) (fun _ => HWB.out _ _ (HG2.out i hi))) (fun args W => by go_simp))
        clear x1 x2 k13 k23 hVAL hERR
        rcases hdd with rfl | rfl | ⟨h8, h9, rfl, rfl⟩
        all_goals
          go_wp2_with fail
          refine HCALL.out.mono ?_
          rintro e w4 h4
          rcases h4 with ⟨hall, r, rfl, hr, hb4, hnv⟩ | ⟨i, hi, hmin, hne, rfl, hb4⟩
          · have HALL := Lib.hid hall
            have HNV := Lib.hid (hnv.low (B' := w.heap.size) hbw3.size)
            clear hnv
            clear hall
            have bR4 := bR3.below hb4
            have hbw4 := hbw3.trans (hb4.mono hbw3.size)
            obtain ⟨R, hR⟩ : ∃ R, R = (List.range b.da.length).map VAL := ⟨_, rfl⟩
            rw [← hR] at hr
            have HR := Lib.hid hR
            clear hR
            obtain ⟨A4, c4, D4, d4, rfl, -, -⟩ := hr.open_
            clear hb4 bF3 bA3 bB3 bR3 f0 t0 t1 t2 u0 u1 u2 z0 z1 z2 zf zl
            obtain ⟨z0, z1, z2⟩ := bR4.three
            have zf := bR4.frozen
            have zl := bR4.lt
            go_wp2_with fail
            refine bodyPost_ret (v := .tuple #[.agg #[.bool false, .slice A4 b.sh.length c4, .slice D4 R.length d4], .nilIface]) (by simp [results, Tryz.results191, go_sem, zl, z0, z1, z2]; first | done | rfl | exact ⟨rfl, rfl, rfl⟩) rfl ?_
            exact GOK.out _ _ (.inl ⟨HALL.out, _, rfl, by rw [← HR.out]; exact hr.stored bR4 _ _ _, by have := hbw4.size; go_grown, HNV.out⟩)
          · have HX := Lib.hid (And.intro hi (And.intro hmin hne))
            obtain ⟨EE, hEE⟩ : ∃ E, E = ERR i := ⟨_, rfl⟩
            rw [← hEE]
            have HEE := Lib.hid hEE
            clear hi hmin hne hEE
            have bR4 := bR3.below hb4
            have hbw4 := hbw3.trans (hb4.mono hbw3.size)
            clear hb4 bF3 bA3 bB3 bR3 f0 t0 t1 t2 u0 u1 u2 z0 z1 z2 zf zl
            obtain ⟨z0, z1, z2⟩ := bR4.three
            have zf := bR4.frozen
            have zl := bR4.lt
            go_wp2_with fail
            refine bodyPost_ret (v := .tuple #[zeroArr, .iface 54 (.int .i64 EE)]) (by simp [results, Tryz.results191, go_sem, z0, z1, z2, zl]; first | done | rfl) rfl ?_
            exact GOK.out _ _ (.inr ⟨i, HX.out.1, HX.out.2.1, HX.out.2.2, by rw [← HEE.out]; exact ⟨rfl, by have := hbw4.size; go_grown⟩⟩)
      have HR0 := Lib.hid r0
      clear r0
      by_cases r1 : b.sh.length = 0
      · have HR1 := Lib.hid r1
        clear r1
        have HSE := Lib.hid (show fitSh a b = a.sh by unfold fitSh; rw [if_neg HR0.out])
        have HNE := Lib.hid (show fitN a b = a.da.length by unfold fitN; rw [if_neg HR0.out])
        have HG1 := Lib.hid (fun (i : Nat) (hi : i < a.da.length) => (show a.da[i]? = some (oneAt a b i) by unfold oneAt; rw [if_neg HR0.out]; exact at_some hi))
        have HG2 := Lib.hid (fun (i : Nat) (_ : i < a.da.length) => (show b.da[0]? = some (twoAt a b i) from two_zero HTB.out HR0.out HR1.out))
        have hfit := fun (W : World) (hW : Below w.heap.size w W) => fit_second (w := W) (ha.mono hW) (hb.mono hW) HR0.out HR1.out
        have HFIT := Lib.hid hfit
        clear hfit
        go_wp2_with fail
        refine (HFIT.out _ hbl).mono ?_
        rintro e w2 ⟨q1, q2, rfl, k1, k2, hb2⟩
        have hbw2 := hbl.trans (hb2.mono hbl.size)
        have x1 := (Box.new w2 56 #[.func (.func 243) #[] #[.pointer (some ⟨q1, 0, none⟩)]]).alloc (.cells #[.func (.func 245) #[] #[.pointer (some ⟨q2, 0, none⟩)]] 56)
        have x2 := Box.new (w2.alloc (.cells #[.func (.func 243) #[] #[.pointer (some ⟨q1, 0, none⟩)]] 56)) 56 #[.func (.func 245) #[] #[.pointer (some ⟨q2, 0, none⟩)]]
        have hb3 := below_two w2 (.cells #[.func (.func 243) #[] #[.pointer (some ⟨q1, 0, none⟩)]] 56) (.cells #[.func (.func 245) #[] #[.pointer (some ⟨q2, 0, none⟩)]] 56)
        have bF3 := (bF.below hb2).below hb3
        have bA3 := (bA.below hb2).below hb3
        have bB3 := (bB.below hb2).below hb3
        have bR3 := (bR.below hb2).below hb3
        have k13 := k1.below hb3
        have k23 := k2.below hb3
        have hbw3 := hbw2.trans (hb3.mono hbw2.size)
        clear bF bA bB bR hbl f0 t0 t1 t2 u0 u1 u2 z0 z1 z2 zf zl hzF hzA hzB hb2 hbw2 k1 k2 hb3
        rw [World.size_alloc] at x2
        have f0 := bF3.one
        obtain ⟨t0, t1, t2⟩ := bA3.three
        obtain ⟨u0, u1, u2⟩ := bB3.three
        obtain ⟨z0, z1, z2⟩ := bR3.three
        have zf := bR3.frozen
        have zl := bR3.lt
        by_cases hd : f ≠ 8 ∧ f ≠ 9 ∧ (fa = true ∨ fb = true)
        · have HTE := Lib.hid (show eachErr f a b = 6 by unfold eachErr; rw [if_neg (fun h => h H1.out), if_neg (fun h => h HEA.out), if_neg (fun h => h HEB.out), if_pos (Or.inr HR1.out)]; rw [if_pos (show f ≠ 8 ∧ f ≠ 9 ∧ (a.ch = true ∨ b.ch = true) by rw [← HFA.out, ← HFB.out]; exact hd)])
          obtain ⟨h8, h9, hc⟩ := hd
          have g8 : (f != 8) = true := by simpa using h8
          have g9 : (f != 9) = true := by simpa using h9
          clear h8 h9
          clear x1 x2 k13 k23
          cases fa <;> cases fb
          · simp at hc
          all_goals
            clear hc
            go_wp2_with fail
            refine bodyPost_ret (v := .tuple #[zeroArr, .iface 54 (.int .i64 6)]) (by simp [results, Tryz.results191, go_sem, z0, z1, z2, zl]; first | done | rfl) rfl ?_
            exact .inl ⟨by rw [HTE.out]; decide, by rw [HTE.out]; exact ⟨rfl, by have := hbw3.size; go_grown⟩⟩
        have HTE := Lib.hid (show eachErr f a b = 0 by unfold eachErr; rw [if_neg (fun h => h H1.out), if_neg (fun h => h HEA.out), if_neg (fun h => h HEB.out), if_pos (Or.inr HR1.out)]; rw [if_neg (show ¬ (f ≠ 8 ∧ f ≠ 9 ∧ (a.ch = true ∨ b.ch = true)) by rw [← HFA.out, ← HFB.out]; exact hd)])
        have hdd := dom_three hd
        clear hd
        have GOK := Lib.hid (fun (e : Ending) (w' : World) (h : FillTellsN (fun i => cellV fa fb f (oneAt a b i) (twoAt a b i)) (fun i => cellE fa fb f (oneAt a b i) (twoAt a b i)) a.da.length a.sh w e w') => (show EachTellsN f a b w e w' from .inr ⟨HTE.out, by rw [HNE.out, HSE.out, ← HFA.out, ← HFB.out]; exact h⟩))
        obtain ⟨VAL, hVAL⟩ : ∃ V : Nat → Int, V = fun i => cellV fa fb f (oneAt a b i) (twoAt a b i) := ⟨_, rfl⟩
        obtain ⟨ERR, hERR⟩ : ∃ V : Nat → Int, V = fun i => cellE fa fb f (oneAt a b i) (twoAt a b i) := ⟨_, rfl⟩
        rw [← hVAL, ← hERR] at GOK
        have HCALL := Lib.hid (filled_new (.slice A a.sh.length ca) a.sh VAL ERR a.da.length 231 #[.pointer (some ⟨w.heap.size + 1, 0, none⟩), .pointer (some ⟨w.heap.size + 1 + 1, 0, none⟩), .pointer (some ⟨w.heap.size, 0, none⟩), .pointer (some ⟨w2.heap.size, 0, none⟩), .pointer (some ⟨w2.heap.size + 1, 0, none⟩)] _ (HSA.out.mono hbw3) (HN4a.out) (fun i hi W hW => by
            have hbW := hbw3.trans (hW.mono hbw3.size)
            rw [hVAL, hERR]
            exact two_ps i f (oneAt a b i) (twoAt a b i) fa fb (w.heap.size + 1) (w.heap.size + 1 + 1) w.heap.size w2.heap.size (w2.heap.size + 1) q1 q2 a.da b.da _ _ _ _ _ _ D D' cd cd' W (bA3.below hW) (bB3.below hW) (bF3.below hW) (x1.below hW) (x2.below hW) (k13.below hW) (k23.below hW) (Elems.mono EA.out hbW) (Elems.mono EB.out hbW) (HG1.out i hi) (HG2.out i hi) (fun _ => HWB.out _ _ (HG2.out i hi))) (fun args W => by go_simp))
        clear x1 x2 k13 k23 hVAL hERR
        rcases hdd with rfl | rfl | ⟨h8, h9, rfl, rfl⟩
        all_goals
          go_wp2_with fail
          refine HCALL.out.mono ?_
          rintro e w4 h4
          rcases h4 with ⟨hall, r, rfl, hr, hb4, hnv⟩ | ⟨i, hi, hmin, hne, rfl, hb4⟩
          · have HALL := Lib.hid hall
            have HNV := Lib.hid (hnv.low (B' := w.heap.size) hbw3.size)
            clear hnv
            clear hall
            have bR4 := bR3.below hb4
            have hbw4 := hbw3.trans (hb4.mono hbw3.size)
            obtain ⟨R, hR⟩ : ∃ R, R = (List.range a.da.length).map VAL := ⟨_, rfl⟩
            rw [← hR] at hr
            have HR := Lib.hid hR
            clear hR
            obtain ⟨A4, c4, D4, d4, rfl, -, -⟩ := hr.open_
            clear hb4 bF3 bA3 bB3 bR3 f0 t0 t1 t2 u0 u1 u2 z0 z1 z2 zf zl
            obtain ⟨z0, z1, z2⟩ := bR4.three
            have zf := bR4.frozen
            have zl := bR4.lt
            go_wp2_with fail
            refine bodyPost_ret (v := .tuple #[.agg #[.bool false, .slice A4 a.sh.length c4, .slice D4 R.length d4], .nilIface]) (by simp [results, Tryz.results191, go_sem, zl, z0, z1, z2]; first | done | rfl | exact ⟨rfl, rfl, rfl⟩) rfl ?_
            exact GOK.out _ _ (.inl ⟨HALL.out, _, rfl, by rw [← HR.out]; exact hr.stored bR4 _ _ _, by have := hbw4.size; go_grown, HNV.out⟩)
          · have HX := Lib.hid (And.intro hi (And.intro hmin hne))
            obtain ⟨EE, hEE⟩ : ∃ E, E = ERR i := ⟨_, rfl⟩
            rw [← hEE]
            have HEE := Lib.hid hEE
            clear hi hmin hne hEE
            have bR4 := bR3.below hb4
            have hbw4 := hbw3.trans (hb4.mono hbw3.size)
            clear hb4 bF3 bA3 bB3 bR3 f0 t0 t1 t2 u0 u1 u2 z0 z1 z2 zf zl
            obtain ⟨z0, z1, z2⟩ := bR4.three
            have zf := bR4.frozen
            have zl := bR4.lt
            go_wp2_with fail
            refine bodyPost_ret (v := .tuple #[zeroArr, .iface 54 (.int .i64 EE)]) (by simp [results, Tryz.results191, go_sem, z0, z1, z2, zl]; first | done | rfl) rfl ?_
            exact GOK.out _ _ (.inr ⟨i, HX.out.1, HX.out.2.1, HX.out.2.2, by rw [← HEE.out]; exact ⟨rfl, by have := hbw4.size; go_grown⟩⟩)
      have HR1 := Lib.hid r1
      clear r1
      by_cases rl : a.sh.length = b.sh.length
      case neg =>
        have HRL := Lib.hid rl
        clear rl
        have HFIT := Lib.hid (fun (W : World) => fit_rank (w := W) (a := a) (b := b) (fa := fa) (fb := fb) (A := A) (A' := A') (D := D) (D' := D') (ca := ca) (ca' := ca') (cd := cd) (cd' := cd') HR0.out HR1.out HRL.out)
        go_wp2_with fail
        refine (HFIT.out _).mono ?_
        rintro e w2 ⟨rfl, hb2⟩
        have HTE := Lib.hid (show eachErr f a b = 3 by unfold eachErr; rw [if_neg (fun h => h H1.out), if_neg (fun h => h HEA.out), if_neg (fun h => h HEB.out), if_neg (fun h => h.elim HR0.out HR1.out), if_pos HRL.out])
        have hb3 := below_two w2 (.cells #[.nilFunc] 56) (.cells #[.nilFunc] 56)
        have hbw2 := hbl.trans (hb2.mono hbl.size)
        have hbw3 := hbw2.trans (hb3.mono hbw2.size)
        have bR3 := (bR.below hb2).below hb3
        clear hbw2 hb3
        clear bF bA bB bR hbl f0 t0 t1 t2 u0 u1 u2 z0 z1 z2 zf zl hzF hzA hzB hb2
        obtain ⟨z0, z1, z2⟩ := bR3.three
        have zf := bR3.frozen
        have zl := bR3.lt
        go_wp2_with fail
        refine bodyPost_ret (v := .tuple #[zeroArr, .iface 54 (.int .i64 3)]) (by simp [results, Tryz.results191, go_sem, z0, z1, z2, zl]; first | done | rfl) rfl ?_
        exact .inl ⟨by rw [HTE.out]; decide, by rw [HTE.out]; exact ⟨rfl, by have := hbw3.size; go_grown⟩⟩
      have HRL := Lib.hid rl
      clear rl
      by_cases rs : a.sh = b.sh
      case neg =>
        have HRS := Lib.hid rs
        clear rs
        have HFIT := Lib.hid (fun (W : World) (hW : Below w.heap.size w W) => fit_unlike (w := W) (ha.mono hW) (hb.mono hW) HR0.out HR1.out HRL.out HRS.out)
        go_wp2_with fail
        refine (HFIT.out _ hbl).mono ?_
        rintro e w2 ⟨rfl, hb2⟩
        have HTE := Lib.hid (show eachErr f a b = 4 by unfold eachErr; rw [if_neg (fun h => h H1.out), if_neg (fun h => h HEA.out), if_neg (fun h => h HEB.out), if_neg (fun h => h.elim HR0.out HR1.out), if_neg (fun h => h HRL.out), if_pos HRS.out])
        have hb3 := below_two w2 (.cells #[.nilFunc] 56) (.cells #[.nilFunc] 56)
        have hbw2 := hbl.trans (hb2.mono hbl.size)
        have hbw3 := hbw2.trans (hb3.mono hbw2.size)
        have bR3 := (bR.below hb2).below hb3
        clear hbw2 hb3
        clear bF bA bB bR hbl f0 t0 t1 t2 u0 u1 u2 z0 z1 z2 zf zl hzF hzA hzB hb2
        obtain ⟨z0, z1, z2⟩ := bR3.three
        have zf := bR3.frozen
        have zl := bR3.lt
        go_wp2_with fail
        refine bodyPost_ret (v := .tuple #[zeroArr, .iface 54 (.int .i64 4)]) (by simp [results, Tryz.results191, go_sem, z0, z1, z2, zl]; first | done | rfl) rfl ?_
        exact .inl ⟨by rw [HTE.out]; decide, by rw [HTE.out]; exact ⟨rfl, by have := hbw3.size; go_grown⟩⟩
      have HRS := Lib.hid rs
      clear rs
      have HSE := Lib.hid (show fitSh a b = a.sh by unfold fitSh; rw [if_neg HR0.out])
      have HNE := Lib.hid (show fitN a b = a.da.length by unfold fitN; rw [if_neg HR0.out])
      have HG1 := Lib.hid (fun (i : Nat) (hi : i < a.da.length) => (show a.da[i]? = some (oneAt a b i) by unfold oneAt; rw [if_neg HR0.out]; exact at_some hi))
      have HLE := Lib.hid (show a.da.length = b.da.length by have e : ints ta = ints tb := (HTA.out.sh.symm.trans HRS.out).trans HTB.out.sh; rw [HTA.out.len, HTB.out.len, ints_inj e])
      have HG2 := Lib.hid (fun (i : Nat) (hi : i < a.da.length) => (show b.da[i]? = some (twoAt a b i) by unfold twoAt; rw [if_neg HR0.out, if_neg HR1.out]; exact at_some (by rw [← HLE.out]; exact hi)))
      have HFIT := Lib.hid (fun (W : World) (hW : Below w.heap.size w W) => fit_like (w := W) (ha.mono hW) (hb.mono hW) HR0.out HRS.out)
      go_wp2_with fail
      refine (HFIT.out _ hbl).mono ?_
      rintro e w2 ⟨q1, q2, rfl, k1, k2, hb2⟩
      have hbw2 := hbl.trans (hb2.mono hbl.size)
      have x1 := (Box.new w2 56 #[.func (.func 243) #[] #[.pointer (some ⟨q1, 0, none⟩)]]).alloc (.cells #[.func (.func 243) #[] #[.pointer (some ⟨q2, 0, none⟩)]] 56)
      have x2 := Box.new (w2.alloc (.cells #[.func (.func 243) #[] #[.pointer (some ⟨q1, 0, none⟩)]] 56)) 56 #[.func (.func 243) #[] #[.pointer (some ⟨q2, 0, none⟩)]]
      have hb3 := below_two w2 (.cells #[.func (.func 243) #[] #[.pointer (some ⟨q1, 0, none⟩)]] 56) (.cells #[.func (.func 243) #[] #[.pointer (some ⟨q2, 0, none⟩)]] 56)
      have bF3 := (bF.below hb2).below hb3
      have bA3 := (bA.below hb2).below hb3
      have bB3 := (bB.below hb2).below hb3
      have bR3 := (bR.below hb2).below hb3
      have k13 := k1.below hb3
      have k23 := k2.below hb3
      have hbw3 := hbw2.trans (hb3.mono hbw2.size)
      clear bF bA bB bR hbl f0 t0 t1 t2 u0 u1 u2 z0 z1 z2 zf zl hzF hzA hzB hb2 hbw2 k1 k2 hb3
      rw [World.size_alloc] at x2
      have f0 := bF3.one
      obtain ⟨t0, t1, t2⟩ := bA3.three
      obtain ⟨u0, u1, u2⟩ := bB3.three
      obtain ⟨z0, z1, z2⟩ := bR3.three
      have zf := bR3.frozen
      have zl := bR3.lt
      by_cases hd : f ≠ 8 ∧ f ≠ 9 ∧ (fa = true ∨ fb = true)
      · have HTE := Lib.hid (show eachErr f a b = 6 by unfold eachErr; rw [if_neg (fun h => h H1.out), if_neg (fun h => h HEA.out), if_neg (fun h => h HEB.out), if_neg (fun h => h.elim HR0.out HR1.out), if_neg (fun h => h HRL.out), if_neg (fun h => h HRS.out)]; rw [if_pos (show f ≠ 8 ∧ f ≠ 9 ∧ (a.ch = true ∨ b.ch = true) by rw [← HFA.out, ← HFB.out]; exact hd)])
        obtain ⟨h8, h9, hc⟩ := hd
        have g8 : (f != 8) = true := by simpa using h8
        have g9 : (f != 9) = true := by simpa using h9
        clear h8 h9
        clear x1 x2 k13 k23
        cases fa <;> cases fb
        · simp at hc
        all_goals
          clear hc
          go_wp2_with fail
          refine bodyPost_ret (v := .tuple #[zeroArr, .iface 54 (.int .i64 6)]) (by simp [results, Tryz.results191, go_sem, z0, z1, z2, zl]; first | done | rfl) rfl ?_
          exact .inl ⟨by rw [HTE.out]; decide, by rw [HTE.out]; exact ⟨rfl, by have := hbw3.size; go_grown⟩⟩
      have HTE := Lib.hid (show eachErr f a b = 0 by unfold eachErr; rw [if_neg (fun h => h H1.out), if_neg (fun h => h HEA.out), if_neg (fun h => h HEB.out), if_neg (fun h => h.elim HR0.out HR1.out), if_neg (fun h => h HRL.out), if_neg (fun h => h HRS.out)]; rw [if_neg (show ¬ (f ≠ 8 ∧ f ≠ 9 ∧ (a.ch = true ∨ b.ch = true)) by rw [← HFA.out, ← HFB.out]; exact hd)])
      have hdd := dom_three hd
      clear hd
      have GOK := Lib.hid (fun (e : Ending) (w' : World) (h : FillTellsN (fun i => cellV fa fb f (oneAt a b i) (twoAt a b i)) (fun i => cellE fa fb f (oneAt a b i) (twoAt a b i)) a.da.length a.sh w e w') => (show EachTellsN f a b w e w' from .inr ⟨HTE.out, by rw [HNE.out, HSE.out, ← HFA.out, ← HFB.out]; exact h⟩))
      obtain ⟨VAL, hVAL⟩ : ∃ V : Nat → Int, V = fun i => cellV fa fb f (oneAt a b i) (twoAt a b i) := ⟨_, rfl⟩
      obtain ⟨ERR, hERR⟩ : ∃ V : Nat → Int, V = fun i => cellE fa fb f (oneAt a b i) (twoAt a b i) := ⟨_, rfl⟩
      rw [← hVAL, ← hERR] at GOK
      have HCALL := Lib.hid (filled_new (.slice A a.sh.length ca) a.sh VAL ERR a.da.length 231 #[.pointer (some ⟨w.heap.size + 1, 0, none⟩), .pointer (some ⟨w.heap.size + 1 + 1, 0, none⟩), .pointer (some ⟨w.heap.size, 0, none⟩), .pointer (some ⟨w2.heap.size, 0, none⟩), .pointer (some ⟨w2.heap.size + 1, 0, none⟩)] _ (HSA.out.mono hbw3) (HN4a.out) (fun i hi W hW => by
          have hbW := hbw3.trans (hW.mono hbw3.size)
          rw [hVAL, hERR]
          exact two_pp i f (oneAt a b i) (twoAt a b i) fa fb (w.heap.size + 1) (w.heap.size + 1 + 1) w.heap.size w2.heap.size (w2.heap.size + 1) q1 q2 a.da b.da _ _ _ _ _ _ D D' cd cd' W (bA3.below hW) (bB3.below hW) (bF3.below hW) (x1.below hW) (x2.below hW) (k13.below hW) (k23.below hW) (Elems.mono EA.out hbW) (Elems.mono EB.out hbW) (HG1.out i hi) (HG2.out i hi) (fun _ => HWB.out _ _ (HG2.out i hi))) (fun args W => by go_simp))
      clear x1 x2 k13 k23 hVAL hERR
      rcases hdd with rfl | rfl | ⟨h8, h9, rfl, rfl⟩
      all_goals
        go_wp2_with fail
        refine HCALL.out.mono ?_
        rintro e w4 h4
        rcases h4 with ⟨hall, r, rfl, hr, hb4, hnv⟩ | ⟨i, hi, hmin, hne, rfl, hb4⟩
        · have HALL := Lib.hid hall
          have HNV := Lib.hid (hnv.low (B' := w.heap.size) hbw3.size)
          clear hnv
          clear hall
          have bR4 := bR3.below hb4
          have hbw4 := hbw3.trans (hb4.mono hbw3.size)
          obtain ⟨R, hR⟩ : ∃ R, R = (List.range a.da.length).map VAL := ⟨_, rfl⟩
          rw [← hR] at hr
          have HR := Lib.hid hR
          clear hR
          obtain ⟨A4, c4, D4, d4, rfl, -, -⟩ := hr.open_
          clear hb4 bF3 bA3 bB3 bR3 f0 t0 t1 t2 u0 u1 u2 z0 z1 z2 zf zl
          obtain ⟨z0, z1, z2⟩ := bR4.three
          have zf := bR4.frozen
          have zl := bR4.lt
          go_wp2_with fail
          refine bodyPost_ret (v := .tuple #[.agg #[.bool false, .slice A4 a.sh.length c4, .slice D4 R.length d4], .nilIface]) (by simp [results, Tryz.results191, go_sem, zl, z0, z1, z2]; first | done | rfl | exact ⟨rfl, rfl, rfl⟩) rfl ?_
          exact GOK.out _ _ (.inl ⟨HALL.out, _, rfl, by rw [← HR.out]; exact hr.stored bR4 _ _ _, by have := hbw4.size; go_grown, HNV.out⟩)
        · have HX := Lib.hid (And.intro hi (And.intro hmin hne))
          obtain ⟨EE, hEE⟩ : ∃ E, E = ERR i := ⟨_, rfl⟩
          rw [← hEE]
          have HEE := Lib.hid hEE
          clear hi hmin hne hEE
          have bR4 := bR3.below hb4
          have hbw4 := hbw3.trans (hb4.mono hbw3.size)
          clear hb4 bF3 bA3 bB3 bR3 f0 t0 t1 t2 u0 u1 u2 z0 z1 z2 zf zl
          obtain ⟨z0, z1, z2⟩ := bR4.three
          have zf := bR4.frozen
          have zl := bR4.lt
          go_wp2_with fail
          refine bodyPost_ret (v := .tuple #[zeroArr, .iface 54 (.int .i64 EE)]) (by simp [results, Tryz.results191, go_sem, z0, z1, z2, zl]; first | done | rfl) rfl ?_
          exact GOK.out _ _ (.inr ⟨i, HX.out.1, HX.out.2.1, HX.out.2.2, by rw [← HEE.out]; exact ⟨rfl, by have := hbw4.size; go_grown⟩⟩)
end Go.Proofs.YtihndbkaoejnnaaGreatDoor

namespace Go.Proofs.YtihndbkaoejnnaaGreatDoor.P
open Go Go.RowKit
/-- Two arrays of one shape, put together. -/
def zipA (f : Int) (a b : Arr) : Arr := ⟨false, a.sh, (List.range a.da.length).map fun i => cellV a.ch b.ch f (a.da.getD i 0) (b.da.getD i 0)⟩
def ZipFine (f : Int) (a b : Arr) : Prop := eachErr f a b = 0 ∧ ∀ i, i < a.da.length → cellE a.ch b.ch f (a.da.getD i 0) (b.da.getD i 0) = 0
end Go.Proofs.YtihndbkaoejnnaaGreatDoor.P
namespace Go.Proofs.YtihndbkaoejnnaaGreatDoor
open Go Go.RowKit Go.Proofs.YtihndbkaoejnnaaGreatDoor.P

theorem FillTellsN.zip {f : Int} {a b : Arr} {t : List Nat} {w : World} {e : Ending} {w' : World} (ha : Ok a t) (hb : Ok b t)
    (h : FillTellsN (fun i => cellV a.ch b.ch f (oneAt a b i) (twoAt a b i)) (fun i => cellE a.ch b.ch f (oneAt a b i) (twoAt a b i)) (fitN a b) (fitSh a b) w e w') :
    FillTellsN (fun i => cellV a.ch b.ch f (a.da.getD i 0) (b.da.getD i 0)) (fun i => cellE a.ch b.ch f (a.da.getD i 0) (b.da.getD i 0)) a.da.length a.sh w e w' := by
  have hsh : a.sh = b.sh := by rw [ha.sh, hb.sh]
  have hn : a.da.length = b.da.length := by rw [ha.len, hb.len]
  have e1 : fitSh a b = a.sh := by unfold fitSh; rw [hsh]; simp
  have e2 : fitN a b = a.da.length := by unfold fitN; rw [hn]; simp
  have e3 : ∀ i, i < a.da.length → oneAt a b i = a.da.getD i 0 ∧ twoAt a b i = b.da.getD i 0 := fun i hi => by
    unfold oneAt twoAt
    by_cases h0 : a.sh.length = 0
    · have ht : t = [] := List.length_eq_zero_iff.1 (by rw [← length_ints, ← ha.sh]; exact h0)
      have : i = 0 := by have := ha.len; rw [ht] at this; simp [prod] at this; omega
      subst this
      simp [h0]
    · rw [if_neg h0, if_neg h0, if_neg (by rw [← hsh]; exact h0)]
      exact ⟨rfl, rfl⟩
  rw [e1, e2] at h
  rcases h with ⟨h1, h2⟩ | ⟨i, hi, hm, hne, h2⟩
  · refine .inl ⟨fun i hi => by have := h1 i hi; simp only [(e3 i hi).1, (e3 i hi).2] at this; exact this, ?_⟩
    rw [List.map_congr_left (fun i hi => by simp only [(e3 i (List.mem_range.1 hi)).1, (e3 i (List.mem_range.1 hi)).2] : ∀ i ∈ List.range a.da.length, cellV a.ch b.ch f (oneAt a b i) (twoAt a b i) = cellV a.ch b.ch f (a.da.getD i 0) (b.da.getD i 0))] at h2
    exact h2
  · refine .inr ⟨i, hi, fun j hj => ?_, ?_, ?_⟩
    · have := hm j hj; simp only [(e3 j (by omega)).1, (e3 j (by omega)).2] at this; exact this
    · simp only [(e3 i hi).1, (e3 i hi).2] at hne; exact hne
    · simp only [(e3 i hi).1, (e3 i hi).2] at h2; exact h2
theorem each_zip_new {va vb : Value} {a b : Arr} {t : List Nat} {w : World} {f : Int} (ha : IsArr w va a) (hb : IsArr w vb b) (hwb : Wf b.da) (hoa : Ok a t) (hob : Ok b t) (hz : ZipFine f a b) :
    Calls Tryz.prog 191 #[.int .i64 f, va, vb] w (GivesOkN (zipA f a b) w) := by
  refine (each_new ha hb hwb).mono fun e w' h => ?_
  rcases h with ⟨h1, -⟩ | ⟨-, h2⟩
  · exact absurd hz.1 h1
  · rcases h2.zip hoa hob with ⟨-, h3⟩ | ⟨i, hi, -, hne, -⟩
    · exact h3
    · exact absurd (hz.2 i hi) hne


end Go.Proofs.YtihndbkaoejnnaaGreatDoor
