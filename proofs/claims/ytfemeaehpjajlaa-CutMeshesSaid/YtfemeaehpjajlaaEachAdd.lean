/- The walk of each.Two at Add. Conditions: two arrays of numbers of one shape, of one axis at least. -/
import Derived.Test.YtfemeaehpjajlaaEachTwo
namespace Go.Proofs.Ytfemeaehpjajlaa
open Go Go.RowKit Go.Proofs.Ytfemeaehpjajlaa.P

set_option maxRecDepth 100000 in
set_option maxHeartbeats 1000000 in
theorem two1_any (i : Nat) (x y : Int) (ba bb bf b1 b2 q1 q2 : Nat) (da db : List Int) (sa va sb vb s1 s2 : Value) (D D' : Option Addr) (cd cd' : Nat) (W : World) (hA : Box W ba 24 #[.bool false, sa, va]) (hB : Box W bb 24 #[.bool false, sb, vb])
    (hf : Box W bf 60 #[.int .i64 1]) (h1 : Box W b1 68 #[.func (.func 86) #[] #[.pointer (some ⟨q1, 0, none⟩)]]) (h2 : Box W b2 68 #[.func (.func 86) #[] #[.pointer (some ⟨q2, 0, none⟩)]]) (k1 : Box W q1 24 #[.bool false, s1, .slice D da.length cd]) (k2 : Box W q2 24 #[.bool false, s2, .slice D' db.length cd'])
    (ea : Elems W D da) (eb : Elems W D' db) (hx : da[i]? = some x) (hy : db[i]? = some y) :
    Calls Try.prog 80 (#[.int .i64 i] ++ #[.pointer (some ⟨ba, 0, none⟩), .pointer (some ⟨bb, 0, none⟩), .pointer (some ⟨bf, 0, none⟩), .pointer (some ⟨b1, 0, none⟩), .pointer (some ⟨b2, 0, none⟩)]) W
      fun e W' => e = .returned (.tuple #[.int .i64 (Go.RowKit.wrap64 (x + y)), .nilIface]) ∧ Below W.heap.size W W' := by
  obtain ⟨a0, -, -⟩ := hA.three
  obtain ⟨c0, -, -⟩ := hB.three
  have f0 := hf.one
  have g1 := h1.one
  have g2 := h2.one
  have C1 := Lib.hid (fun n => plain1_any i x q1 da (.bool false) s1 D cd (W.drewN n) (k1.drewN n) ea hx)
  have C2 := Lib.hid (fun n => plain1_any i y q2 db (.bool false) s2 D' cd' (W.drewN n) (k2.drewN n) eb hy)
  clear hx hy ea eb k1 k2
  simp only [List.append_toArray, List.cons_append, List.nil_append] at C1 C2 ⊢
  go_enter Try.func80, Try.ntmps80
  go_wp2_with fail
  go_quiet ((first | exact Calls.quiet_of_same (quiet_call (C1.out _)) | exact Calls.quiet_of_same (quiet_call (C2.out _)) | exact Calls.quiet_of_same (quiet_call (cell_add x y _))))
  all_goals go_wp2_with fail
  go_ret2
  exact ⟨rfl, below_draws _ _ _⟩

def addD (x y : List Int) : List Int := List.zipWith (fun a b => Go.RowKit.wrap64 (a + b)) x y

set_option maxRecDepth 100000 in
set_option maxHeartbeats 4000000 in
theorem each_add {va vb : Value} {a b : Arr} {t : List Nat} {w : World} (ha : IsArr w va a) (hb : IsArr w vb b) (hoa : Ok a t) (hob : Ok b t) (h0 : 0 < t.length) (hca : a.ch = false) (hcb : b.ch = false) :
    Calls Try.prog 51 #[.int .i64 1, va, vb] w (GivesOk ⟨false, a.sh, addD a.da b.da⟩ w) := by
  obtain ⟨A, ca, D, cd, rfl, hs, hd⟩ := ha.open_
  obtain ⟨A', ca', D', cd', rfl, hs', hd'⟩ := hb.open_
  rw [hca] at ha ⊢
  rw [hcb] at hb ⊢
  clear hca hcb
  have HA := Lib.hid hoa
  have HB := Lib.hid hob
  have EA := Lib.hid hd.elems
  have EB := Lib.hid hd'.elems
  have HS := Lib.hid hs
  have HSE := Lib.hid (show a.sh = b.sh by rw [hoa.sh, hob.sh])
  have HLE := Lib.hid (show a.da.length = b.da.length by rw [hoa.len, hob.len])
  have H0 := Lib.hid (show a.sh.length ≠ 0 by rw [hoa.sh, length_ints]; omega)
  have hl4 : a.da.length ≤ 4096 := by rw [hoa.len]; exact hoa.good.2.2
  have i0 : ∀ w, (Instr.index 90 (.agg #[.bool false, .slice A a.sh.length ca, .slice D a.da.length cd, .bool false, .slice A' b.sh.length ca', .slice D' b.da.length cd']) (.int .i64 0)).run Try.prog w = .ok (.agg #[.bool false, .slice A a.sh.length ca, .slice D a.da.length cd]) w := fun _ => by kernel_rfl
  have i1 : ∀ w, (Instr.index 90 (.agg #[.bool false, .slice A a.sh.length ca, .slice D a.da.length cd, .bool false, .slice A' b.sh.length ca', .slice D' b.da.length cd']) (.int .i64 1)).run Try.prog w = .ok (.agg #[.bool false, .slice A' b.sh.length ca', .slice D' b.da.length cd']) w := fun _ => by kernel_rfl
  have bF0 := (((Box.new w 60 #[.int .i64 1]).alloc (.cells #[.bool false, .slice A a.sh.length ca, .slice D a.da.length cd] 24)).alloc (.cells #[.bool false, .slice A' b.sh.length ca', .slice D' b.da.length cd'] 24)).alloc (.cells #[.bool false, .slice none 0 0, .slice none 0 0] 24)
  have bA0 := ((Box.new (w.alloc (.cells #[.int .i64 1] 60)) 24 #[.bool false, .slice A a.sh.length ca, .slice D a.da.length cd]).alloc (.cells #[.bool false, .slice A' b.sh.length ca', .slice D' b.da.length cd'] 24)).alloc (.cells #[.bool false, .slice none 0 0, .slice none 0 0] 24)
  have bB0 := (Box.new ((w.alloc (.cells #[.int .i64 1] 60)).alloc (.cells #[.bool false, .slice A a.sh.length ca, .slice D a.da.length cd] 24)) 24 #[.bool false, .slice A' b.sh.length ca', .slice D' b.da.length cd']).alloc (.cells #[.bool false, .slice none 0 0, .slice none 0 0] 24)
  have bR0 := Box.new (((w.alloc (.cells #[.int .i64 1] 60)).alloc (.cells #[.bool false, .slice A a.sh.length ca, .slice D a.da.length cd] 24)).alloc (.cells #[.bool false, .slice A' b.sh.length ca', .slice D' b.da.length cd'] 24)) 24 #[.bool false, .slice none 0 0, .slice none 0 0]
  simp only [World.size_alloc] at bA0 bB0 bR0
  have hb0 := below_four w (.cells #[.int .i64 1] 60) (.cells #[.bool false, .slice A a.sh.length ca, .slice D a.da.length cd] 24) (.cells #[.bool false, .slice A' b.sh.length ca', .slice D' b.da.length cd'] 24) (.cells #[.bool false, .slice none 0 0, .slice none 0 0] 24)
  have f0 := bF0.one
  obtain ⟨t0, t1, t2⟩ := bA0.three
  obtain ⟨u0, u1, u2⟩ := bB0.three
  clear hs hd hs' hd' hoa hob h0
  go_enter Try.func51, Try.ntmps51
  go_wp2_with fail
  refine (cell_add 0 1 _).mono ?_
  rintro e w1 ⟨rfl, rfl⟩
  go_wp2_with fail
  clear f0 t0 t1 t2 u0 u1 u2
  go_loopw [30] (fun s30 wr => ∃ m : Int, s30 = .int .i64 m ∧ (m = 0 ∨ m = 1 ∨ m = 2) ∧ Box wr w.heap.size 60 #[.int .i64 1] ∧ Box wr (w.heap.size + 1) 24 #[.bool false, .slice A a.sh.length ca, .slice D a.da.length cd] ∧ Box wr (w.heap.size + 1 + 1) 24 #[.bool false, .slice A' b.sh.length ca', .slice D' b.da.length cd'] ∧ Box wr (w.heap.size + 1 + 1 + 1) 24 #[.bool false, .slice none 0 0, .slice none 0 0] ∧ Below w.heap.size w wr) (fun s30 _ => (2 - intOf s30).toNat)
  case atStart => exact ⟨0, rfl, .inl rfl, bF0, bA0, bB0, bR0, hb0⟩
  case round =>
    clear bF0 bA0 bB0 bR0 hb0
    obtain ⟨m, rfl, hm, bF, bA, bB, bR, hbl⟩ := hrel
    have f0 := bF.one
    obtain ⟨t0, t1, t2⟩ := bA.three
    obtain ⟨u0, u1, u2⟩ := bB.three
    have hzF := bF.lt
    have hzA := bA.lt
    have hzB := bB.lt
    have hzR := bR.lt
    rcases hm with rfl | rfl | rfl
    · go_wp2_with fail
      refine (check_ok (ha.mono (hbl.trans ((below_one _ _).mono hbl.size))) HA.out).mono ?_
      rintro e w1 ⟨rfl, hb1⟩
      go_wp2_with fail
      go_roundw
      case rel => exact ⟨1, rfl, .inr (.inl rfl), (bF.alloc _).below hb1, (bA.alloc _).below hb1, (bB.alloc _).below hb1, (bR.alloc _).below hb1, (hbl.trans ((below_one _ _).mono hbl.size)).trans (hb1.mono (by have := hbl.size; simp; omega))⟩
      case measure => simp [intOf]
    · go_wp2_with fail
      refine (check_ok (hb.mono (hbl.trans ((below_one _ _).mono hbl.size))) HB.out).mono ?_
      rintro e w1 ⟨rfl, hb1⟩
      go_wp2_with fail
      go_roundw
      case rel => exact ⟨2, rfl, .inr (.inr rfl), (bF.alloc _).below hb1, (bA.alloc _).below hb1, (bB.alloc _).below hb1, (bR.alloc _).below hb1, (hbl.trans ((below_one _ _).mono hbl.size)).trans (hb1.mono (by have := hbl.size; simp; omega))⟩
      case measure => simp [intOf]
    · go_wp2_with fail
      refine (fit_same (ha.mono hbl) (hb.mono hbl) HSE.out H0.out (w := wr)).mono ?_
      rintro e w2 ⟨q1, q2, rfl, k1, k2, hb2⟩
      have hbw2 := hbl.trans (hb2.mono hbl.size)
      obtain ⟨b1, hb1e⟩ : ∃ b1, b1 = w2.heap.size := ⟨_, rfl⟩
      have x1 := (Box.new w2 68 #[.func (.func 86) #[] #[.pointer (some ⟨q1, 0, none⟩)]]).alloc (.cells #[.func (.func 86) #[] #[.pointer (some ⟨q2, 0, none⟩)]] 68)
      have x2 := Box.new (w2.alloc (.cells #[.func (.func 86) #[] #[.pointer (some ⟨q1, 0, none⟩)]] 68)) 68 #[.func (.func 86) #[] #[.pointer (some ⟨q2, 0, none⟩)]]
      have hb3 := below_two w2 (.cells #[.func (.func 86) #[] #[.pointer (some ⟨q1, 0, none⟩)]] 68) (.cells #[.func (.func 86) #[] #[.pointer (some ⟨q2, 0, none⟩)]] 68)
      have bF3 := (bF.below hb2).below hb3
      have bA3 := (bA.below hb2).below hb3
      have bB3 := (bB.below hb2).below hb3
      have bR3 := (bR.below hb2).below hb3
      have k13 := k1.below hb3
      have k23 := k2.below hb3
      have hbw3 := hbw2.trans (hb3.mono hbw2.size)
      clear bF bA bB bR hbl f0 t0 t1 t2 u0 u1 u2 hzF hzA hzB hzR hb2 hbw2 k1 k2 hb1e hb3
      rw [World.size_alloc] at x2
      have f0 := bF3.one
      obtain ⟨t0, t1, t2⟩ := bA3.three
      obtain ⟨u0, u1, u2⟩ := bB3.three
      go_wp2_with fail
      refine (filled_any _ a.sh (addD a.da b.da) a.da.length 80 #[.pointer (some ⟨w.heap.size + 1, 0, none⟩), .pointer (some ⟨w.heap.size + 1 + 1, 0, none⟩), .pointer (some ⟨w.heap.size, 0, none⟩), .pointer (some ⟨w2.heap.size, 0, none⟩), .pointer (some ⟨w2.heap.size + 1, 0, none⟩)] _ (HS.out.mono hbw3) hl4
        (by simp only [addD, List.length_zipWith]; have := HLE.out; omega) (fun i x hx W hW => ?hF) (fun args W => by go_simp)).mono ?_
      case hF =>
        have hil : i < a.da.length := by
          have := (List.getElem?_eq_some_iff.1 hx).1
          simp only [addD, List.length_zipWith] at this
          omega
        have hax : a.da[i]? = some a.da[i] := List.getElem?_eq_getElem hil
        have hbx : b.da[i]? = some (b.da[i]'(by rw [← HLE.out]; exact hil)) := List.getElem?_eq_getElem _
        have hxe : x = Go.RowKit.wrap64 (a.da[i] + b.da[i]'(by rw [← HLE.out]; exact hil)) := by
          simp only [addD, List.getElem?_zipWith, hax, hbx, Option.some.injEq] at hx
          exact hx.symm
        rw [hxe]
        have hbW := hbw3.trans (hW.mono hbw3.size)
        exact two1_any i _ _ (w.heap.size + 1) (w.heap.size + 1 + 1) w.heap.size w2.heap.size (w2.heap.size + 1) q1 q2 a.da b.da _ _ _ _ _ _ D D' cd cd' W (bA3.below hW) (bB3.below hW) (bF3.below hW) (x1.below hW) (x2.below hW) (k13.below hW) (k23.below hW)
          (Elems.mono EA.out hbW) (Elems.mono EB.out hbW) hax hbx
      rintro e w4 ⟨r, rfl, hr, hb4⟩
      obtain ⟨A4, c4, D4, d4, rfl, -, -⟩ := hr.open_
      have bR4 := bR3.below hb4
      obtain ⟨z0, z1, z2⟩ := bR4.three
      have zf := bR4.frozen
      have zl := bR4.lt
      have hbw4 := hbw3.trans (hb4.mono hbw3.size)
      clear hb4 bF3 bA3 bB3 bR3 x1 x2 k13 k23 f0 t0 t1 t2 u0 u1 u2
      go_wp2_with fail
      refine bodyPost_ret (v := .tuple #[.agg #[.bool false, .slice A4 a.sh.length c4, .slice D4 (addD a.da b.da).length d4], .nilIface]) (by simp [results, Try.results51, go_sem, zl, z0, z1, z2]; first | done | rfl | exact ⟨rfl, rfl, rfl⟩) rfl ?_
      exact ⟨_, rfl, hr.stored bR4 _ _ _, by have := hbw4.size; go_grown⟩

end Go.Proofs.Ytfemeaehpjajlaa
