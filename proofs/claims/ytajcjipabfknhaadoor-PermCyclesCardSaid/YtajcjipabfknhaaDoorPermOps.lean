/- The walks of perm.After and perm.Inverse. Conditions: none. -/
import Derived.Test.YtajcjipabfknhaaDoorPermCheck
set_option linter.unusedSimpArgs false
set_option linter.unusedVariables false
namespace Go.Proofs.YtajcjipabfknhaaDoor.P

theorem take_set_at {S : List Int} {k : Nat} (x : Int) (h : k < S.length) : (S.set k x).take (k + 1) = S.take k ++ [x] := by
  rw [List.take_add_one, List.getElem?_set_self h, List.take_set_of_le (Nat.le_refl k)]
  rfl
theorem ints_take (s : List Nat) (k : Nat) : (ints s).take k = ints (s.take k) := by simp [ints, List.map_take]
theorem ints_getD {s : List Nat} {k : Nat} {x : Int} (h : (ints s)[k]? = some x) : x = (s.getD k 0 : Nat) ∧ k < s.length := by
  rw [getElem?_ints, Option.map_eq_some_iff] at h
  obtain ⟨n, hn, rfl⟩ := h
  have := (List.getElem?_eq_some_iff.1 hn).1
  exact ⟨by rw [List.getD_eq_getElem?_getD, hn]; rfl, this⟩
theorem ints_get {s : List Nat} {k : Nat} (h : k < s.length) : (ints s)[k]? = some ((s.getD k 0 : Nat) : Int) := by
  rw [getElem?_ints, List.getD_eq_getElem?_getD, List.getElem?_eq_getElem h]
  rfl
theorem aft_take {s t : List Nat} {k : Nat} (h : k < t.length) : ints ((aft s t).take k) ++ [((s.getD (t.getD k 0) 0 : Nat) : Int)] = ints ((aft s t).take (k + 1)) := by
  have e : (aft s t)[k]? = some (s.getD (t.getD k 0) 0) := by
    rw [List.getElem?_eq_getElem (by rw [aft_length]; exact h), ← getD_lt, getD_aft h]
  rw [List.take_add_one, e]
  simp [ints]

def InvTo (k : Nat) (s : List Nat) (S : List Int) : Prop := ∀ j, j < k → S[s.getD j 0]? = some (j : Int)
theorem InvTo.zero (s : List Nat) (S : List Int) : InvTo 0 s S := fun j h => by omega
theorem InvTo.succ {k : Nat} {s : List Nat} {S : List Int} (h : InvTo k s S) (hs : Perm s) (hl : S.length = s.length) (hk : k < s.length) : InvTo (k + 1) s (S.set (s.getD k 0) k) := fun j hj => by
  by_cases e : j = k
  · subst e
    rw [List.getElem?_set_self (by rw [hl]; exact hs.lt hk)]
  · rw [List.getElem?_set_ne (fun h => e (hs.inj hk (by omega) h).symm)]
    exact h j (by omega)
theorem InvTo.all {s : List Nat} {S : List Int} (h : InvTo s.length s S) (hs : Perm s) (hl : S.length = s.length) : S = ints (inv s) := by
  apply List.ext_getElem?
  intro m
  rcases Nat.lt_or_ge m s.length with h1 | h1
  · have := h _ (idx_lt hs h1)
    rw [idx_get hs h1] at this
    rw [this, ints_get (by rw [inv_length]; exact h1), getD_inv h1]
  · rw [List.getElem?_eq_none (by omega), List.getElem?_eq_none (by rw [length_ints, inv_length]; exact h1)]

end Go.Proofs.YtajcjipabfknhaaDoor.P
namespace Go.Proofs.YtajcjipabfknhaaDoor
open Go Go.RowKit Go.Proofs.YtajcjipabfknhaaDoor.P

theorem pcheck_ok (v : Value) (p : List Int) (w : World) (hx : IsInts w v p) (h : ordErr p = 0) :
    Calls Tryd.prog 10 #[v] w fun e w' => e = .returned .nilIface ∧ Below w.heap.size w w' :=
  (pcheck_any v p w hx).mono fun e w' ⟨he, hb⟩ => ⟨by rw [he, h]; rfl, hb⟩
theorem pcheck_bad (v : Value) (p : List Int) (w : World) (hx : IsInts w v p) (h : ordErr p ≠ 0) :
    Calls Tryd.prog 10 #[v] w fun e w' => e = .returned (.iface 23 (.int .i64 (ordErr p))) ∧ Below w.heap.size w w' :=
  (pcheck_any v p w hx).mono fun e w' ⟨he, hb⟩ => ⟨by rw [he, errV_ne h], hb⟩

/-- A call tells a list and no error; no list and an error. -/
def GivesInts (xs : List Int) (w : World) (e : Ending) (w' : World) : Prop := ∃ r, e = .returned (.tuple #[r, .nilIface]) ∧ IsInts w' r xs ∧ Below w.heap.size w w'
def FailsInts (k : Int) (w : World) (e : Ending) (w' : World) : Prop := e = .returned (.tuple #[.slice none 0 0, .iface 23 (.int .i64 k)]) ∧ Below w.heap.size w w'

set_option maxRecDepth 100000 in
set_option maxHeartbeats 2000000 in
theorem after_ok (v1 v2 : Value) (s t : List Nat) (w : World) (h1 : IsInts w v1 (ints s)) (h2 : IsInts w v2 (ints t)) (hs : Perm s) (ht : Perm t) (hl : t.length = s.length) (hn : s.length ≤ 4096) :
    Calls Tryd.prog 16 #[v1, v2] w (GivesInts (ints (aft s t)) w) := by
  obtain ⟨A, ca, rfl, a1, a2, a3, EA, H0⟩ := h1.open_
  obtain ⟨B, cb, rfl, b1, b2, b3, EB, H1⟩ := h2.open_
  have o1 := ordErr_ok hs hn
  have o2 := ordErr_ok ht (by omega)
  have hlt : ∀ k, k < s.length → t.getD k 0 < s.length := fun k hk => by rw [← hl]; exact ht.lt (by omega)
  simp only [length_ints, hl] at a1 a3 H0 b1 b3 H1 ⊢
  have HL := Lib.hid hl
  have HLT := Lib.hid hlt
  have O1 := Lib.hid o1
  have O2 := Lib.hid o2
  clear h1 h2 hl hs ht o1 o2 hlt
  go_enter Tryd.func16, Tryd.ntmps16
  go_wp2_with fail
  refine (pcheck_ok _ _ _ H0 O1.out).mono ?_
  rintro en w1 ⟨rfl, hb1⟩
  go_wp2_with fail
  refine (pcheck_ok _ _ _ (H1.mono hb1) O2.out).mono ?_
  rintro en w2 ⟨rfl, hb2⟩
  have hbw := hb1.trans (hb2.mono hb1.size)
  clear hb1 hb2 H0 H1
  have hmk := run_make_list s.length (by omega)
  have hro := Row.made w2 s.length
  obtain ⟨g, hg⟩ : ∃ g, g = w2.heap.size := ⟨_, rfl⟩
  have hgl : w.heap.size ≤ g := by have := hbw.size; omega
  have hbg := hbw.alloc hbw.size (.cells (madeCells #[.int .i64 0] s.length) 3)
  rw [← hg] at hro
  go_wp2_with fail
  rw [← hg]
  clear hg
  go_loopw [32] (fun i wr => ∃ (k : Nat) (S : List Int), k ≤ s.length ∧ i = .int .i64 k ∧ S.length = s.length ∧ S.take k = ints ((aft s t).take k) ∧ Row wr g S ∧ Below w.heap.size w wr)
    (fun i _ => s.length - (intOf i).toNat)
  case atStart => exact ⟨0, List.replicate s.length 0, Nat.zero_le _, rfl, by simp, by simp [ints], hro, hbg⟩
  case round =>
    clear hro hbg
    obtain ⟨k, S, hk, rfl, hS, hd, hro, hbl⟩ := hrel
    rcases Nat.lt_or_ge k s.length with hlt | hge
    · have hlk := HLT.out k hlt
      have HS := Lib.hid hS
      have HD := Lib.hid hd
      obtain ⟨ad, x, rfl, hx, hal, hcx⟩ := Elems.later EB hbl (k := k) (by rw [length_ints, HL.out]; exact hlt)
      obtain ⟨rfl, -⟩ := ints_getD hx
      obtain ⟨ae, y, rfl, hy, hae, hcy⟩ := Elems.later EA hbl (k := t.getD k 0) (by rw [length_ints]; exact hlk)
      obtain ⟨rfl, -⟩ := ints_getD hy
      obtain ⟨z, hz⟩ : ∃ z, S[k]? = some z := ⟨_, List.getElem?_eq_getElem (show k < S.length by omega)⟩
      have hgc := hro.at_ hz
      have hgf := Box.frozen hro k
      have hglt := Box.lt hro
      clear hz hx hy hS hd
      obtain ⟨m, hm⟩ : ∃ m, m = t.getD k 0 := ⟨_, rfl⟩
      obtain ⟨u, hu⟩ : ∃ u, u = s.getD m 0 := ⟨_, rfl⟩
      rw [← hm] at hlk hcx hcy
      rw [← hu] at hcy
      have HM := Lib.hid hm
      have HU := Lib.hid hu
      clear hm hu
      go_wp2_with fail
      go_roundw
      case rel =>
        refine ⟨k + 1, S.set k u, by omega, by go_num, by simp [HS.out], ?_, hro.store k _, by have := hbl.size; go_grown⟩
        rw [take_set_at _ (by rw [HS.out]; exact hlt), HD.out, HU.out, HM.out]
        exact aft_take (by rw [HL.out]; exact hlt)
      case measure => simp [intOf]; omega
    · have hkk : k = s.length := by omega
      subst hkk
      have e : S = ints (aft s t) := by
        rw [List.take_of_length_le (by omega), List.take_of_length_le (by rw [aft_length, HL.out]; omega)] at hd
        exact hd
      have hi := hro.isInts hS.symm (by omega)
      rw [e] at hi
      clear hS hd e hro
      go_wp2_with fail
      refine bodyPost_ret (v := .tuple #[.slice (some ⟨g, 0, none⟩) s.length s.length, .nilIface]) (by simp [results, Tryd.results16, go_sem]) rfl ?_
      exact ⟨_, rfl, hi, by go_grown⟩

set_option maxHeartbeats 1000000 in
theorem after_bad (v1 v2 : Value) (p q : List Int) (w : World) (h1 : IsInts w v1 p) (h2 : IsInts w v2 q) (h : aftErr p q ≠ 0) :
    Calls Tryd.prog 16 #[v1, v2] w (FailsInts (aftErr p q) w) := by
  obtain ⟨A, ca, rfl, a1, a2, a3, -, H0⟩ := h1.open_
  obtain ⟨B, cb, rfl, b1, b2, b3, -, H1⟩ := h2.open_
  clear h1 h2
  by_cases c1 : ordErr p ≠ 0
  · have e : aftErr p q = ordErr p := by unfold aftErr; rw [if_pos c1]
    rw [e]
    have C1 := Lib.hid c1
    clear c1 h e
    go_enter Tryd.func16, Tryd.ntmps16
    go_wp2_with fail
    refine (pcheck_bad _ _ _ H0 C1.out).mono ?_
    rintro en w1 ⟨rfl, hb1⟩
    go_wp2_with fail
    refine bodyPost_ret (v := .tuple #[.slice none 0 0, .iface 23 (.int .i64 (ordErr p))]) (by simp [results, Tryd.results16, go_sem]) rfl ?_
    exact ⟨rfl, by go_grown⟩
  · have c1' : ordErr p = 0 := by simpa using c1
    have C1 := Lib.hid c1'
    by_cases c2 : ordErr q ≠ 0
    · have e : aftErr p q = ordErr q := by unfold aftErr; rw [if_neg c1, if_pos c2]
      rw [e]
      have C2 := Lib.hid c2
      clear c1 c1' c2 h e
      go_enter Tryd.func16, Tryd.ntmps16
      go_wp2_with fail
      refine (pcheck_ok _ _ _ H0 C1.out).mono ?_
      rintro en w1 ⟨rfl, hb1⟩
      go_wp2_with fail
      refine (pcheck_bad _ _ _ (H1.mono hb1) C2.out).mono ?_
      rintro en w2 ⟨rfl, hb2⟩
      have hbw := hb1.trans (hb2.mono hb1.size)
      clear hb1 hb2
      go_wp2_with fail
      refine bodyPost_ret (v := .tuple #[.slice none 0 0, .iface 23 (.int .i64 (ordErr q))]) (by simp [results, Tryd.results16, go_sem]) rfl ?_
      exact ⟨rfl, by go_grown⟩
    · have c2' : ordErr q = 0 := by simpa using c2
      have C2 := Lib.hid c2'
      by_cases c3 : p.length = q.length
      · exact absurd (by unfold aftErr; rw [if_neg c1, if_neg c2, if_neg (by simpa using c3)]) h
      · have e : aftErr p q = 4 := by unfold aftErr; rw [if_neg c1, if_neg c2, if_pos c3]
        rw [e]
        have c3' : ((p.length : Int) != (q.length : Int)) = true := by simp; omega
        clear c1 c1' c2 c2' c3 h e
        go_enter Tryd.func16, Tryd.ntmps16
        go_wp2_with fail
        refine (pcheck_ok _ _ _ H0 C1.out).mono ?_
        rintro en w1 ⟨rfl, hb1⟩
        go_wp2_with fail
        refine (pcheck_ok _ _ _ (H1.mono hb1) C2.out).mono ?_
        rintro en w2 ⟨rfl, hb2⟩
        have hbw := hb1.trans (hb2.mono hb1.size)
        clear hb1 hb2
        go_wp2_with fail
        refine bodyPost_ret (v := .tuple #[.slice none 0 0, .iface 23 (.int .i64 4)]) (by simp [results, Tryd.results16, go_sem]) rfl ?_
        exact ⟨rfl, by go_grown⟩

/-- A call tells something and an error or none. -/
def TellsErr (w : World) (e : Ending) (w' : World) : Prop := ∃ r ev, e = .returned (.tuple #[r, ev]) ∧ (ev = .nilIface ∨ ∃ k, ev = .iface 23 (.int .i64 k)) ∧ Below w.heap.size w w'
theorem after_some (v1 v2 : Value) (p q : List Int) (w : World) (h1 : IsInts w v1 p) (h2 : IsInts w v2 q) : Calls Tryd.prog 16 #[v1, v2] w (TellsErr w) := by
  by_cases h : aftErr p q = 0
  · obtain ⟨s, t, rfl, rfl, hs, ht, hl, hn⟩ := aftErr_zero h
    exact (after_ok v1 v2 s t w h1 h2 hs ht hl.symm hn).mono fun e w' ⟨r, he, _, hb⟩ => ⟨r, _, he, .inl rfl, hb⟩
  · exact (after_bad v1 v2 p q w h1 h2 h).mono fun e w' ⟨he, hb⟩ => ⟨_, _, he, .inr ⟨_, rfl⟩, hb⟩

set_option maxRecDepth 100000 in
set_option maxHeartbeats 2000000 in
theorem inverse_ok (v : Value) (s : List Nat) (w : World) (h1 : IsInts w v (ints s)) (hs : Perm s) (hn : s.length ≤ 4096) :
    Calls Tryd.prog 12 #[v] w (GivesInts (ints (inv s)) w) := by
  obtain ⟨A, ca, rfl, a1, a2, a3, EA, H0⟩ := h1.open_
  have o1 := ordErr_ok hs hn
  simp only [length_ints] at a1 a3 H0 ⊢
  have HS0 := Lib.hid hs
  have O1 := Lib.hid o1
  clear h1 hs o1
  go_enter Tryd.func12, Tryd.ntmps12
  go_wp2_with fail
  refine (pcheck_ok _ _ _ H0 O1.out).mono ?_
  rintro en w2 ⟨rfl, hbw⟩
  clear H0
  have hmk := run_make_list s.length (by omega)
  have hro := Row.made w2 s.length
  obtain ⟨g, hg⟩ : ∃ g, g = w2.heap.size := ⟨_, rfl⟩
  have hgl : w.heap.size ≤ g := by have := hbw.size; omega
  have hbg := hbw.alloc hbw.size (.cells (madeCells #[.int .i64 0] s.length) 3)
  rw [← hg] at hro
  go_wp2_with fail
  rw [← hg]
  clear hg
  go_loopw [18] (fun i wr => ∃ (k : Nat) (S : List Int), k ≤ s.length ∧ i = .int .i64 k ∧ S.length = s.length ∧ InvTo k s S ∧ Row wr g S ∧ Below w.heap.size w wr)
    (fun i _ => s.length - (intOf i).toNat)
  case atStart => exact ⟨0, List.replicate s.length 0, Nat.zero_le _, rfl, by simp, InvTo.zero _ _, hro, hbg⟩
  case round =>
    clear hro hbg
    obtain ⟨k, S, hk, rfl, hS, hd, hro, hbl⟩ := hrel
    rcases Nat.lt_or_ge k s.length with hlt | hge
    · have hlk := HS0.out.lt hlt
      have HS := Lib.hid hS
      have HD := Lib.hid hd
      obtain ⟨ad, x, rfl, hx, hal, hcx⟩ := Elems.later EA hbl (k := k) (by rw [length_ints]; exact hlt)
      obtain ⟨rfl, -⟩ := ints_getD hx
      obtain ⟨z, hz⟩ : ∃ z, S[s.getD k 0]? = some z := ⟨_, List.getElem?_eq_getElem (show s.getD k 0 < S.length by omega)⟩
      have hgc := hro.at_ hz
      have hgf := Box.frozen hro (s.getD k 0)
      have hglt := Box.lt hro
      clear hz hx hS hd
      obtain ⟨m, hm⟩ : ∃ m, m = s.getD k 0 := ⟨_, rfl⟩
      rw [← hm] at hlk hcx hgf
      simp only [← hm] at hgc
      have HM := Lib.hid hm
      clear hm
      go_wp2_with fail
      go_roundw
      case rel =>
        refine ⟨k + 1, S.set m k, by omega, by go_num, by simp [HS.out], ?_, hro.store m _, by have := hbl.size; go_grown⟩
        rw [HM.out]
        exact HD.out.succ HS0.out HS.out hlt
      case measure => simp [intOf]; omega
    · have hkk : k = s.length := by omega
      subst hkk
      have e : S = ints (inv s) := hd.all HS0.out hS
      have hi := hro.isInts hS.symm (by omega)
      rw [e] at hi
      clear hS hd e hro
      go_wp2_with fail
      refine bodyPost_ret (v := .tuple #[.slice (some ⟨g, 0, none⟩) s.length s.length, .nilIface]) (by simp [results, Tryd.results12, go_sem]) rfl ?_
      exact ⟨_, rfl, hi, by go_grown⟩

set_option maxHeartbeats 1000000 in
theorem inverse_bad (v : Value) (p : List Int) (w : World) (h1 : IsInts w v p) (h : ordErr p ≠ 0) :
    Calls Tryd.prog 12 #[v] w (FailsInts (ordErr p) w) := by
  obtain ⟨A, ca, rfl, a1, a2, a3, -, H0⟩ := h1.open_
  have C1 := Lib.hid h
  clear h1 h
  go_enter Tryd.func12, Tryd.ntmps12
  go_wp2_with fail
  refine (pcheck_bad _ _ _ H0 C1.out).mono ?_
  rintro en w1 ⟨rfl, hb1⟩
  go_wp2_with fail
  refine bodyPost_ret (v := .tuple #[.slice none 0 0, .iface 23 (.int .i64 (ordErr p))]) (by simp [results, Tryd.results12, go_sem]) rfl ?_
  exact ⟨rfl, by go_grown⟩

end Go.Proofs.YtajcjipabfknhaaDoor
