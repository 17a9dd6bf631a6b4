/- What the card TopProduct leans on: EvalDfn, EvalSelf, EvalNode, EvalOmega, EvalTwo, EvalLeaf, PrimSmall, EvalOne, ValProd. Conditions: none but those of its theorems. -/
import Derived.Deep.RegionLaw
import Derived.Test.YtihndbkaoejnnaaGreatDoorProductV
import Derived.Test.YtihndbkaoejnnaaGreatDoorProductE
import Derived.Test.YtihndbkaoejnnaaGreatDoorProductC
import Derived.Test.YtihndbkaoejnnaaGreatDoorProductX
set_option linter.unusedSimpArgs false
set_option linter.unusedVariables false
namespace Go.Proofs.YtihndbkaoejnnaaGreatDoor
open Go Go.RowKit Go.Proofs.YtihndbkaoejnnaaGreatDoor.P

set_option maxRecDepth 100000 in
set_option maxHeartbeats 8000000 in
theorem acted_dfn {bs : List Bd} {ns : List Nd} {at_ k k2 : Nat} {a b : Arr} (P : Nat → Nat) (hP0 : P 0 = at_ + 1) (hPS : ∀ i, i < 3 → Skips ns (P i) 1 (P (i + 1))) (hPB : ∀ i, i ≤ 3 → P i ≤ 390) (hx : ns[at_]? = some ⟨6, 6, 0, 0, 1, [], ⟨#[]⟩⟩) (hV : ValAt none bs ns (P 3) k a) (hR : RunAt ⟨a, ns, at_ + 1, 1, 1⟩ bs k2 b) : ActedAt none bs ns at_ (k + 1 + k2) b := by
  intro w C E M f G g c S hst hev hnds hGE hom hdeep
  have hdeep60 := hdeep.1
  have hdeep0 := hdeep.2 rfl
  have hlt : at_ < ns.length := (List.getElem?_eq_some_iff.1 hx).1
  obtain ⟨nA, nc, n0, n1, n2, n3, n4, n5, n6, n7, n8⟩ := hnds.2.2.2.2.2 at_ _ hx
  have hgM := hnds.1
  have hMs := hnds.2.1
  have hL390 := hnds.2.2.2.2.1
  have hLc := hnds.2.2.1
  have hgl : g < w.heap.size := by omega
  have hEl := hev.1.lt
  have hE20 : 6 ≤ E := by have := hev.2.1; have := hev.2.2.1; omega
  simp only [] at n0 n1 n2 n3 n4 n5 n6
  have hSKP := fun (i : Nat) (hi : i < 3) (W : World) (h : NdsAt W G g c ns) => skip_any h (hPS i hi)
  obtain ⟨L, hL⟩ : ∃ L, L = ns.length := ⟨_, rfl⟩
  simp only [← hL] at hSKP
  rw [← hL] at hlt hL390 hLc
  have hb3 := below_three w (.cells #[.slice C.bA C.bn C.bc, .int .i64 C.at_, .int .i64 C.n, .pointer C.al, .bool C.ob, .slice C.oA C.on C.oc, .slice C.pA C.pn C.pc, .int .i64 C.deep, .pointer (some ⟨E, 0, none⟩)] 131) (.cells #[.bool false, .slice none 0 0, .slice none 0 0] 25) (.cells #[.int .i64 6, .int .i64 6, .int .i64 0, .int .i64 0, .int .i64 1, .slice nA 0 nc, .string ⟨#[]⟩] 101)
  have x6 := (Box.new (w.alloc (.cells #[.slice C.bA C.bn C.bc, .int .i64 C.at_, .int .i64 C.n, .pointer C.al, .bool C.ob, .slice C.oA C.on C.oc, .slice C.pA C.pn C.pc, .int .i64 C.deep, .pointer (some ⟨E, 0, none⟩)] 131)) 25 #[.bool false, .slice none 0 0, .slice none 0 0]).alloc (.cells #[.int .i64 6, .int .i64 6, .int .i64 0, .int .i64 0, .int .i64 1, .slice nA 0 nc, .string ⟨#[]⟩] 101)
  have x3 := ((Box.new w 131 #[.slice C.bA C.bn C.bc, .int .i64 C.at_, .int .i64 C.n, .pointer C.al, .bool C.ob, .slice C.oA C.on C.oc, .slice C.pA C.pn C.pc, .int .i64 C.deep, .pointer (some ⟨E, 0, none⟩)]).alloc (.cells #[.bool false, .slice none 0 0, .slice none 0 0] 25)).alloc (.cells #[.int .i64 6, .int .i64 6, .int .i64 0, .int .i64 0, .int .i64 1, .slice nA 0 nc, .string ⟨#[]⟩] 101)
  have x7 := Box.new ((w.alloc (.cells #[.slice C.bA C.bn C.bc, .int .i64 C.at_, .int .i64 C.n, .pointer C.al, .bool C.ob, .slice C.oA C.on C.oc, .slice C.pA C.pn C.pc, .int .i64 C.deep, .pointer (some ⟨E, 0, none⟩)] 131)).alloc (.cells #[.bool false, .slice none 0 0, .slice none 0 0] 25)) 101 #[.int .i64 6, .int .i64 6, .int .i64 0, .int .i64 0, .int .i64 1, .slice nA 0 nc, .string ⟨#[]⟩]
  obtain ⟨W3, hW3⟩ : ∃ W, W = ((w.alloc (.cells #[.slice C.bA C.bn C.bc, .int .i64 C.at_, .int .i64 C.n, .pointer C.al, .bool C.ob, .slice C.oA C.on C.oc, .slice C.pA C.pn C.pc, .int .i64 C.deep, .pointer (some ⟨E, 0, none⟩)] 131)).alloc (.cells #[.bool false, .slice none 0 0, .slice none 0 0] 25)).alloc (.cells #[.int .i64 6, .int .i64 6, .int .i64 0, .int .i64 0, .int .i64 1, .slice nA 0 nc, .string ⟨#[]⟩] 101) := ⟨_, rfl⟩
  rw [← hW3] at hb3 x3 x6 x7
  have hWs3 : W3.heap.size = w.heap.size + 3 := by rw [hW3]; simp
  simp only [World.size_alloc] at x6 x7
  have HB3 := Lib.hid hb3
  have HX3 := Lib.hid x3
  have HX6 := Lib.hid x6
  have HX7 := Lib.hid x7
  have HST := Lib.hid hst
  have HWS3 := Lib.hid hWs3
  have HR := Lib.hid hR
  have HV := Lib.hid hV
  have HND := Lib.hid hnds
  have HEV := Lib.hid hev
  have HSG := Lib.hid hGE
  have HDP := Lib.hid hdeep
  have HD0 := Lib.hid hdeep0
  have HSKP := Lib.hid hSKP
  have HP0 := Lib.hid hP0
  have HPB := Lib.hid hPB
  have HLN := Lib.hid hL
  rw [← hL]
  clear hnds hom n7 n8 hev hb3 x3 x6 x7 hWs3 hst hx hL hV hR hGE hdeep hdeep0 hSKP hPS hP0 hPB
  go_enter Tryz.func99, Tryz.ntmps99
  go_wp2_with fail
  rw [← hW3]
  clear n0 n1 n2 n3 n4 n5 n6 hW3
  have z7 := HX7.out
  have o0 := z7.cell 0
  have o1 := z7.cell 1
  have o4 := z7.cell 4
  have l7 := z7.lt
  simp at o0 o1 o4
  clear z7
  go_loopw [10, 36] (fun s10 s36 wr => ∃ i : Nat, i ≤ 3 ∧ s10 = .int .i64 (P i) ∧ s36 = .int .i64 i ∧ Below W3.heap.size W3 wr) (fun _ s36 _ => 3 - (intOf s36).toNat)
  case atStart => exact ⟨0, by omega, by rw [HP0.out]; rfl, rfl, Below.refl _ _⟩
  case round =>
    obtain ⟨i, hi3, rfl, rfl, hbr⟩ := hrel
    rcases Nat.lt_or_ge i 3 with hlt3 | hge
    · have hbr0 := HB3.out.trans (hbr.mono HB3.out.size)
      have HC := Lib.hid (HSKP.out i hlt3 wr (HND.out.below hbr0))
      have hpb := HPB.out i hi3
      have hpb1 := HPB.out (i + 1) (by omega)
      have HBR := Lib.hid hbr
      clear hbr hbr0 o0 o1 o4 l7
      go_wp2_with fail
      refine HC.out.mono ?_
      rintro e w1 ⟨rfl, hb1⟩
      have HB1 := Lib.hid (HBR.out.trans (hb1.mono HBR.out.size))
      clear hb1
      go_wp2_with fail
      go_roundw
      case rel => exact ⟨i + 1, by omega, rfl, by go_num, HB1.out⟩
      case measure => simp [intOf]; omega
    · have hi : i = 3 := by omega
      subst hi
      have x7 := HX7.out.below hbr
      have x3 := HX3.out.below hbr
      have x6 := HX6.out.below hbr
      have hs3 := hbr.size
      have hWs3 := HWS3.out
      have hb4 : Below w.heap.size w (wr.alloc (.cells #[.slice (some ⟨g, 0, none⟩) L c, .int .i64 ((at_ : Int) + 1), .int .i64 1, .pointer none, .bool false, .slice none 0 0, .slice none 0 0, .int .i64 ((C.deep : Int) + 1), .pointer (some ⟨E, 0, none⟩)] 131)) := (HB3.out.trans (hbr.mono HB3.out.size)).alloc (by omega) _
      have t0 := x3.cell 0
      have t1 := x3.cell 1
      have t2 := x3.cell 2
      have t3 := x3.cell 3
      have t4 := x3.cell 4
      have t5 := x3.cell 5
      have t6 := x3.cell 6
      have t7 := x3.cell 7
      have t8 := x3.cell 8
      have xl := x3.lt
      clear o0 o1 o4 l7
      have o0 := x7.cell 0
      have o1 := x7.cell 1
      have o4 := x7.cell 4
      have l7 := x7.lt
      simp at o0 o1 o4 t0 t1 t2 t3 t4 t5 t6 t7 t8
      have y3 := x3.alloc (.cells #[.slice (some ⟨g, 0, none⟩) L c, .int .i64 ((at_ : Int) + 1), .int .i64 1, .pointer none, .bool false, .slice none 0 0, .slice none 0 0, .int .i64 ((C.deep : Int) + 1), .pointer (some ⟨E, 0, none⟩)] 131)
      have y6 := x6.alloc (.cells #[.slice (some ⟨g, 0, none⟩) L c, .int .i64 ((at_ : Int) + 1), .int .i64 1, .pointer none, .bool false, .slice none 0 0, .slice none 0 0, .int .i64 ((C.deep : Int) + 1), .pointer (some ⟨E, 0, none⟩)] 131)
      have y7 := x7.alloc (.cells #[.slice (some ⟨g, 0, none⟩) L c, .int .i64 ((at_ : Int) + 1), .int .i64 1, .pointer none, .bool false, .slice none 0 0, .slice none 0 0, .int .i64 ((C.deep : Int) + 1), .pointer (some ⟨E, 0, none⟩)] 131)
      have y11 := Box.new wr 131 #[.slice (some ⟨g, 0, none⟩) L c, .int .i64 ((at_ : Int) + 1), .int .i64 1, .pointer none, .bool false, .slice none 0 0, .slice none 0 0, .int .i64 ((C.deep : Int) + 1), .pointer (some ⟨E, 0, none⟩)]
      obtain ⟨W, hW⟩ : ∃ W, W = wr.alloc (.cells #[.slice (some ⟨g, 0, none⟩) L c, .int .i64 ((at_ : Int) + 1), .int .i64 1, .pointer none, .bool false, .slice none 0 0, .slice none 0 0, .int .i64 ((C.deep : Int) + 1), .pointer (some ⟨E, 0, none⟩)] 131) := ⟨_, rfl⟩
      rw [← hW] at hb4 y3 y6 y7 y11
      have hWs : W.heap.size = wr.heap.size + 1 := by rw [hW]; simp
      obtain ⟨S', hS'⟩ : ∃ S' : Nat → Prop, S' = fun b => S b ∨ (w.heap.size ≤ b ∧ b < W.heap.size) := ⟨_, rfl⟩
      have hSi : ∀ b, S b → S' b := fun b h => by rw [hS']; exact .inl h
      have hSn : ∀ b, w.heap.size ≤ b → b < wr.heap.size + 1 → S' b := fun b h1 h2 => by rw [hS']; exact .inr ⟨h1, by omega⟩
      have hSo : ∀ b, S' b → S b ∨ (w.heap.size ≤ b ∧ b < W.heap.size) := fun b h => by rw [hS'] at h; exact h
      have hSE : S E := HEV.out.2.2.2.1
      have hSGP : ∀ b, S' b → G ≤ b := fun b h => (hSo b h).elim (HSG.out b) (fun h => Nat.le_trans hMs h.1)
      have hevW : EvAt W E M S' bs (f + k2 + 1 + k) := by
        have := HEV.out
        rw [show f + (k + 1 + k2) = f + k2 + 1 + k by omega] at this
        exact this.wide hb4 hSo (hSi _ hSE)
      have HCALL := Lib.hid (HV.out W C E M (f + k2 + 1) G g c S' (HST.out.below hb4) hevW (HND.out.below hb4) hSGP (fun a e => by cases e) HDP.out)
      rw [← HLN.out] at HCALL
      have HB4 := Lib.hid hb4
      have HX3' := Lib.hid y3
      have HX6' := Lib.hid y6
      have HX7' := Lib.hid y7
      have HX11 := Lib.hid y11
      have HWS := Lib.hid hWs
      have HSN := Lib.hid hSn
      have HSI := Lib.hid hSi
      have HSE := Lib.hid hSE
      have HSGP := Lib.hid hSGP
      clear hb4 y3 y6 y7 y11 hevW x3 x6 x7 hS' hSi hSn hSo hSE hSGP hWs hbr
      go_wp2_with fail
      rw [← hW]
      clear hW t0 t1 t2 t3 t4 t5 t6 t7 t8 xl o0 o1 o4 l7
      refine HCALL.out.mono ?_
      rintro e w1 ⟨v, rfl, hv, hev1, hg1⟩
      have hWs := HWS.out
      have hs1 := hg1.size
      have y7 := Box.grown HX7'.out hg1 (by intro e; injection e; omega)
      have y11 := Box.grown HX11.out hg1 (by intro e; injection e; omega)
      have y3 := Box.grown HX3'.out hg1 (by intro e; injection e; omega)
      have y6 := Box.grown HX6'.out hg1 (by intro e; injection e; omega)
      obtain ⟨sA, sc, dA, dc, hve, -⟩ := id hv
      subst hve
      have d4 := y11.cell 4
      have d5 := y11.cell 5
      have d6 := y11.cell 6
      have f4 := Box.frozen y11 4
      have f5 := Box.frozen y11 5
      have f6 := Box.frozen y11 6
      have l11 := y11.lt
      have l7 := y7.lt
      have l3 := y3.lt
      have o0 := y7.cell 0
      have o8 := y3.cell 8
      have hg2 := grownBy_456 w1 wr.heap.size (.bool a.ch) (.slice sA a.sh.length sc) (.slice dA a.da.length dc)
      have hS11 : S' wr.heap.size := HSN.out _ (by omega) (by omega)
      have hS6 : S' (w.heap.size + 1) := HSN.out _ (by omega) (by omega)
      have HV2 := Lib.hid (hv.grown hg2 hS11)
      have HEV2 := Lib.hid (hev1.grown hg2 hS11 (by omega))
      have HST2 := Lib.hid (step_any HEV2.out)
      have HG2 := Lib.hid (grownBy_after (grownBy_trans (grownBy_of_below (row := some E) HB4.out (Nat.le_refl _)) hg1) hg2 (by omega))
      have Z7 := Lib.hid (Box.grown y7 hg2 (by intro e; injection e; omega))
      have Z3 := Lib.hid (Box.grown y3 hg2 (by intro e; injection e; omega))
      have Z6 := Lib.hid (Box.grown y6 hg2 (by intro e; injection e; omega))
      have Z11 := Lib.hid ((((y11.store 4 (.bool a.ch)).store 5 (.slice sA a.sh.length sc)).store 6 (.slice dA a.da.length dc)))
      clear hv hev1 hg1 hg2 y7 y11 y3 y6
      simp at d4 d5 d6 o0 o8
      go_wp2_with fail
      refine HST2.out.mono ?_
      rintro e w3 ⟨rfl, hev3, hg3⟩
      have y7 := Box.grown Z7.out hg3 (by intro e; injection e; omega)
      have y6 := Box.grown Z6.out hg3 (by intro e; injection e; omega)
      have y11 := Box.grown Z11.out hg3 (by intro e; injection e; omega)
      simp at y11
      have q1 := y7.cell 1
      have r0 := y11.cell 0
      have r1 := y11.cell 1
      have r2 := y11.cell 2
      have r3 := y11.cell 3
      have r4 := y11.cell 4
      have r5 := y11.cell 5
      have r6 := y11.cell 6
      have r7 := y11.cell 7
      have r8 := y11.cell 8
      have m7 := y7.lt
      have m11 := y11.lt
      have HG3 := Lib.hid (grownBy_trans HG2.out hg3)
      have hh3 : Env0.holds ⟨a, ns, at_ + 1, 1, 1⟩ w3 S' ⟨some ⟨g, 0, none⟩, L, c, (at_ : Int) + 1, 1, none, a.ch, sA, a.sh.length, sc, dA, a.da.length, dc, C.deep + 1⟩ :=
        ⟨HV2.out.grown hg3 HEV2.out.2.2.2.1, ⟨G, g, rfl, HLN.out, HND.out.grown HG3.out (HSG.out E HSE.out), HSGP.out⟩, rfl, rfl, by show C.deep + 1 = 1; rw [HD0.out]⟩
      have HRUN := Lib.hid (HR.out w3 _ E M f S' (HST.out.grown HG3.out hE20) hev3 hh3)
      have Y6 := Lib.hid y6
      simp at q1 r0 r1 r2 r3 r4 r5 r6 r7 r8
      clear hev3 hg3 y7 y6 y11 hh3 d4 d5 d6 f4 f5 f6 o0 o8 l11 l7 l3
      go_wp2_with fail
      refine HRUN.out.mono ?_
      rintro e w5 ⟨v5, rfl, hv5, hev5, hg5⟩
      obtain ⟨tA, tc, eA, ec, rfl, -⟩ := id hv5
      have y65 := Y6.out.grown hg5 (by intro e; injection e; omega)
      obtain ⟨d0, d1, d2⟩ := y65.three
      have f0 := Box.frozen y65 0
      have f1 := Box.frozen y65 1
      have f2 := Box.frozen y65 2
      have dl := y65.lt
      have HV5 := Lib.hid hv5
      have HEV5 := Lib.hid hev5
      have HG5 := Lib.hid (grownBy_trans HG3.out hg5)
      have Y65 := Lib.hid y65
      clear hv5 hev5 hg5 y65 q1 r0 r1 r2 r3 r4 r5 r6 r7 r8
      go_wp2_with fail
      have hg7 := grownBy_three w5 (w.heap.size + 1) (.bool b.ch) (.slice tA b.sh.length tc) (.slice eA b.da.length ec)
      have hb7 := ((Y65.out.store 0 (.bool b.ch)).store 1 (.slice tA b.sh.length tc)).store 2 (.slice eA b.da.length ec)
      simp only [List.setIfInBounds_toArray, List.set_cons_zero, List.set_cons_succ] at hb7
      obtain ⟨d0, d1, d2⟩ := hb7.three
      have dl := hb7.lt
      refine bodyPost_ret (v := .agg #[.bool b.ch, .slice tA b.sh.length tc, .slice eA b.da.length ec]) (by simp [results, Tryz.results99, go_sem, d0, d1, d2, dl]) rfl ?_
      exact ⟨_, rfl, (ArrAt.off HV5.out hg7 Y65.out).wide (fun x h => .inl (HSI.out x h)), ((HEV5.out).off hg7 Y65.out (by omega)).narrow HSI.out HSE.out, grownBy_after HG5.out hg7 (by omega)⟩

end Go.Proofs.YtihndbkaoejnnaaGreatDoor

namespace Go.Proofs.YtihndbkaoejnnaaGreatDoor
open Go Go.RowKit Go.Proofs.YtihndbkaoejnnaaGreatDoor.P

set_option maxRecDepth 100000 in
set_option maxHeartbeats 8000000 in
theorem acted_self {env : Env0} {bs : List Bd} {ns : List Nd} {at_ k k2 : Nat} {a b : Arr} (hx : ns[at_]? = some ⟨6, 7, 0, 0, 0, [], ⟨#[]⟩⟩) (hV : ValAt (some env) bs ns (at_ + 1) k a) (hR : RunAt ⟨a, env.ns, env.p, env.n, env.deep + 1⟩ bs k2 b) : ActedAt (some env) bs ns at_ (k + 1 + k2) b := by
  intro w C E M f G g c S hst hev hnds hGE hom hdeep
  have hdeep60 := hdeep.1
  have hlt : at_ < ns.length := (List.getElem?_eq_some_iff.1 hx).1
  obtain ⟨nA, nc, n0, n1, n2, n3, n4, n5, n6, n7, n8⟩ := hnds.2.2.2.2.2 at_ _ hx
  have hgM := hnds.1
  have hMs := hnds.2.1
  have hL390 := hnds.2.2.2.2.1
  have hLc := hnds.2.2.1
  have hgl : g < w.heap.size := by omega
  have hEl := hev.1.lt
  have hE20 : 6 ≤ E := by have := hev.2.1; have := hev.2.2.1; omega
  have HOM := Lib.hid (hom env rfl)
  simp only [] at n0 n1 n2 n3 n4 n5 n6
  obtain ⟨L, hL⟩ : ∃ L, L = ns.length := ⟨_, rfl⟩
  rw [← hL] at hlt hL390 hLc
  have hb4 : Below w.heap.size w (((((w.alloc (.cells #[.slice C.bA C.bn C.bc, .int .i64 C.at_, .int .i64 C.n, .pointer C.al, .bool C.ob, .slice C.oA C.on C.oc, .slice C.pA C.pn C.pc, .int .i64 C.deep, .pointer (some ⟨E, 0, none⟩)] 131)).alloc (.cells #[.bool false, .slice none 0 0, .slice none 0 0] 25)).alloc (.cells #[.int .i64 6, .int .i64 7, .int .i64 0, .int .i64 0, .int .i64 0, .slice nA 0 nc, .string ⟨#[]⟩] 101)).alloc (.cells #[.slice C.bA C.bn C.bc, .int .i64 C.at_, .int .i64 C.n, .pointer none, .bool false, .slice none 0 0, .slice none 0 0, .int .i64 ((C.deep : Int) + 1), .pointer (some ⟨E, 0, none⟩)] 131)).drew) := ((below_three w _ _ _).alloc (by simp; omega) _).drew
  have x6 := (((Box.new (w.alloc (.cells #[.slice C.bA C.bn C.bc, .int .i64 C.at_, .int .i64 C.n, .pointer C.al, .bool C.ob, .slice C.oA C.on C.oc, .slice C.pA C.pn C.pc, .int .i64 C.deep, .pointer (some ⟨E, 0, none⟩)] 131)) 25 #[.bool false, .slice none 0 0, .slice none 0 0]).alloc (.cells #[.int .i64 6, .int .i64 7, .int .i64 0, .int .i64 0, .int .i64 0, .slice nA 0 nc, .string ⟨#[]⟩] 101)).alloc (.cells #[.slice C.bA C.bn C.bc, .int .i64 C.at_, .int .i64 C.n, .pointer none, .bool false, .slice none 0 0, .slice none 0 0, .int .i64 ((C.deep : Int) + 1), .pointer (some ⟨E, 0, none⟩)] 131)).drew
  have x3 := ((((Box.new w 131 #[.slice C.bA C.bn C.bc, .int .i64 C.at_, .int .i64 C.n, .pointer C.al, .bool C.ob, .slice C.oA C.on C.oc, .slice C.pA C.pn C.pc, .int .i64 C.deep, .pointer (some ⟨E, 0, none⟩)]).alloc (.cells #[.bool false, .slice none 0 0, .slice none 0 0] 25)).alloc (.cells #[.int .i64 6, .int .i64 7, .int .i64 0, .int .i64 0, .int .i64 0, .slice nA 0 nc, .string ⟨#[]⟩] 101)).alloc (.cells #[.slice C.bA C.bn C.bc, .int .i64 C.at_, .int .i64 C.n, .pointer none, .bool false, .slice none 0 0, .slice none 0 0, .int .i64 ((C.deep : Int) + 1), .pointer (some ⟨E, 0, none⟩)] 131)).drew
  have x7 := ((Box.new ((w.alloc (.cells #[.slice C.bA C.bn C.bc, .int .i64 C.at_, .int .i64 C.n, .pointer C.al, .bool C.ob, .slice C.oA C.on C.oc, .slice C.pA C.pn C.pc, .int .i64 C.deep, .pointer (some ⟨E, 0, none⟩)] 131)).alloc (.cells #[.bool false, .slice none 0 0, .slice none 0 0] 25)) 101 #[.int .i64 6, .int .i64 7, .int .i64 0, .int .i64 0, .int .i64 0, .slice nA 0 nc, .string ⟨#[]⟩]).alloc (.cells #[.slice C.bA C.bn C.bc, .int .i64 C.at_, .int .i64 C.n, .pointer none, .bool false, .slice none 0 0, .slice none 0 0, .int .i64 ((C.deep : Int) + 1), .pointer (some ⟨E, 0, none⟩)] 131)).drew
  have x11 := (Box.new (((w.alloc (.cells #[.slice C.bA C.bn C.bc, .int .i64 C.at_, .int .i64 C.n, .pointer C.al, .bool C.ob, .slice C.oA C.on C.oc, .slice C.pA C.pn C.pc, .int .i64 C.deep, .pointer (some ⟨E, 0, none⟩)] 131)).alloc (.cells #[.bool false, .slice none 0 0, .slice none 0 0] 25)).alloc (.cells #[.int .i64 6, .int .i64 7, .int .i64 0, .int .i64 0, .int .i64 0, .slice nA 0 nc, .string ⟨#[]⟩] 101)) 131 #[.slice C.bA C.bn C.bc, .int .i64 C.at_, .int .i64 C.n, .pointer none, .bool false, .slice none 0 0, .slice none 0 0, .int .i64 ((C.deep : Int) + 1), .pointer (some ⟨E, 0, none⟩)]).drew
  obtain ⟨W, hW⟩ : ∃ W, W = ((((w.alloc (.cells #[.slice C.bA C.bn C.bc, .int .i64 C.at_, .int .i64 C.n, .pointer C.al, .bool C.ob, .slice C.oA C.on C.oc, .slice C.pA C.pn C.pc, .int .i64 C.deep, .pointer (some ⟨E, 0, none⟩)] 131)).alloc (.cells #[.bool false, .slice none 0 0, .slice none 0 0] 25)).alloc (.cells #[.int .i64 6, .int .i64 7, .int .i64 0, .int .i64 0, .int .i64 0, .slice nA 0 nc, .string ⟨#[]⟩] 101)).alloc (.cells #[.slice C.bA C.bn C.bc, .int .i64 C.at_, .int .i64 C.n, .pointer none, .bool false, .slice none 0 0, .slice none 0 0, .int .i64 ((C.deep : Int) + 1), .pointer (some ⟨E, 0, none⟩)] 131)).drew := ⟨_, rfl⟩
  rw [← hW] at hb4 x3 x6 x7 x11
  have hWs : W.heap.size = w.heap.size + 4 := by rw [hW]; simp
  simp only [World.size_alloc] at x6 x7 x11
  obtain ⟨S', hS'⟩ : ∃ S' : Nat → Prop, S' = fun b => S b ∨ (w.heap.size ≤ b ∧ b < W.heap.size) := ⟨_, rfl⟩
  have hSi : ∀ b, S b → S' b := fun b h => by rw [hS']; exact .inl h
  have hSn : ∀ b, w.heap.size ≤ b → b < w.heap.size + 4 → S' b := fun b h1 h2 => by rw [hS']; exact .inr ⟨h1, by omega⟩
  have hSo : ∀ b, S' b → S b ∨ (w.heap.size ≤ b ∧ b < W.heap.size) := fun b h => by rw [hS'] at h; exact h
  have hSE : S E := hev.2.2.2.1
  have hevW : EvAt W E M S' bs (f + k2 + 1 + k) := by
    have := hev
    rw [show f + (k + 1 + k2) = f + k2 + 1 + k by omega] at this
    exact this.wide hb4 hSo (hSi _ hSE)
  have HCALL := Lib.hid (hV W C E M (f + k2 + 1) G g c S' (hst.below hb4) hevW (hnds.below hb4) (fun b h => (hSo b h).elim (hGE b) (fun h => Nat.le_trans hMs h.1)) (hom.wide hb4 (fun b h => (hSo b h).imp id (fun h => h.1))) hdeep)
  rw [← hL] at HCALL ⊢
  have HB4 := Lib.hid hb4
  have HX3 := Lib.hid x3
  have HX6 := Lib.hid x6
  have HX7 := Lib.hid x7
  have HX11 := Lib.hid x11
  have HST := Lib.hid hst
  have HWS := Lib.hid hWs
  have HSN := Lib.hid hSn
  have HSI := Lib.hid hSi
  have HSE := Lib.hid hSE
  have HR := Lib.hid hR
  have HHW := Lib.hid ((HOM.out.wide (fun b h => (hSo b h).imp id (fun h => h.1))).below hb4)
  clear hnds hom n7 n8 hev hevW hb4 x3 x6 x7 x11 hWs hst hx hL hV hR hS' hSi hSn hSo hSE
  go_enter Tryz.func99, Tryz.ntmps99
  go_wp2_with fail
  go_region
  go_wp2_with fail
  rw [← hW]
  clear n0 n1 n2 n3 n4 n5 n6 hW
  refine HCALL.out.mono ?_
  rintro e w1 ⟨v, rfl, hv, hev1, hg1⟩
  have y7 := Box.grown HX7.out hg1 (by intro e; injection e; omega)
  have y11 := Box.grown HX11.out hg1 (by intro e; injection e; omega)
  have y3 := Box.grown HX3.out hg1 (by intro e; injection e; omega)
  have y6 := Box.grown HX6.out hg1 (by intro e; injection e; omega)
  obtain ⟨sA, sc, dA, dc, hve, -⟩ := id hv
  subst hve
  have d4 := y11.cell 4
  have d5 := y11.cell 5
  have d6 := y11.cell 6
  have f4 := Box.frozen y11 4
  have f5 := Box.frozen y11 5
  have f6 := Box.frozen y11 6
  have l11 := y11.lt
  have l7 := y7.lt
  have l3 := y3.lt
  have o0 := y7.cell 0
  have o8 := y3.cell 8
  have hg2 := grownBy_456 w1 (w.heap.size + 1 + 1 + 1) (.bool a.ch) (.slice sA a.sh.length sc) (.slice dA a.da.length dc)
  have hs1 := hg1.size
  have hWs := HWS.out
  have hS11 : S' (w.heap.size + 1 + 1 + 1) := HSN.out _ (by omega) (by omega)
  have hS6 : S' (w.heap.size + 1) := HSN.out _ (by omega) (by omega)
  have HV2 := Lib.hid (hv.grown hg2 hS11)
  have HEV2 := Lib.hid (hev1.grown hg2 hS11 (by omega))
  have HST2 := Lib.hid (step_any HEV2.out)
  have HG2 := Lib.hid (grownBy_after (grownBy_trans (grownBy_of_below (row := some E) HB4.out (Nat.le_refl _)) hg1) hg2 (by omega))
  have Z7 := Lib.hid (Box.grown y7 hg2 (by intro e; injection e; omega))
  have Z3 := Lib.hid (Box.grown y3 hg2 (by intro e; injection e; omega))
  have Z6 := Lib.hid (Box.grown y6 hg2 (by intro e; injection e; omega))
  have Z11 := Lib.hid ((((y11.store 4 (.bool a.ch)).store 5 (.slice sA a.sh.length sc)).store 6 (.slice dA a.da.length dc)))
  have HH2 := Lib.hid ((HHW.out.grown hg1 hev1.2.2.2.1).grown hg2 hS11)
  clear hv hev1 hg1 hg2 y7 y11 y3 y6
  simp at d4 d5 d6 o0 o8
  go_wp2_with fail
  refine HST2.out.mono ?_
  rintro e w3 ⟨rfl, hev3, hg3⟩
  have y7 := Box.grown Z7.out hg3 (by intro e; injection e; omega)
  have y6 := Box.grown Z6.out hg3 (by intro e; injection e; omega)
  have y11 := Box.grown Z11.out hg3 (by intro e; injection e; omega)
  simp at y11
  have q1 := y7.cell 1
  have r0 := y11.cell 0
  have r1 := y11.cell 1
  have r2 := y11.cell 2
  have r3 := y11.cell 3
  have r4 := y11.cell 4
  have r5 := y11.cell 5
  have r6 := y11.cell 6
  have r7 := y11.cell 7
  have r8 := y11.cell 8
  have m7 := y7.lt
  have m11 := y11.lt
  have HG3 := Lib.hid (grownBy_trans HG2.out hg3)
  have hh3 : Env0.holds ⟨a, env.ns, env.p, env.n, env.deep + 1⟩ w3 S' ⟨C.bA, C.bn, C.bc, C.at_, C.n, none, a.ch, sA, a.sh.length, sc, dA, a.da.length, dc, C.deep + 1⟩ := by
    obtain ⟨-, p1, p2, p3, p4⟩ := HH2.out.grown hg3 HEV2.out.2.2.2.1
    exact ⟨HV2.out.grown hg3 HEV2.out.2.2.2.1, p1, p2, p3, congrArg (· + 1) p4⟩
  have HRUN := Lib.hid (HR.out w3 _ E M f S' (HST.out.grown HG3.out hE20) hev3 hh3)
  have Y6 := Lib.hid y6
  simp at q1 r0 r1 r2 r3 r4 r5 r6 r7 r8
  clear hev3 hg3 y7 y6 y11 hh3 d4 d5 d6 f4 f5 f6 o0 o8 l11 l7 l3
  go_wp2_with fail
  refine HRUN.out.mono ?_
  rintro e w5 ⟨v5, rfl, hv5, hev5, hg5⟩
  obtain ⟨tA, tc, eA, ec, rfl, -⟩ := id hv5
  have y65 := Y6.out.grown hg5 (by intro e; injection e; omega)
  obtain ⟨d0, d1, d2⟩ := y65.three
  have f0 := Box.frozen y65 0
  have f1 := Box.frozen y65 1
  have f2 := Box.frozen y65 2
  have dl := y65.lt
  have HV5 := Lib.hid hv5
  have HEV5 := Lib.hid hev5
  have HG5 := Lib.hid (grownBy_trans HG3.out hg5)
  have Y65 := Lib.hid y65
  clear hv5 hev5 hg5 y65
  go_wp2_with fail
  have hg7 := grownBy_three w5 (w.heap.size + 1) (.bool b.ch) (.slice tA b.sh.length tc) (.slice eA b.da.length ec)
  have hb7 := ((Y65.out.store 0 (.bool b.ch)).store 1 (.slice tA b.sh.length tc)).store 2 (.slice eA b.da.length ec)
  simp only [List.setIfInBounds_toArray, List.set_cons_zero, List.set_cons_succ] at hb7
  obtain ⟨d0, d1, d2⟩ := hb7.three
  have dl := hb7.lt
  refine bodyPost_ret (v := .agg #[.bool b.ch, .slice tA b.sh.length tc, .slice eA b.da.length ec]) (by simp [results, Tryz.results99, go_sem, d0, d1, d2, dl]) rfl ?_
  exact ⟨_, rfl, (ArrAt.off HV5.out hg7 Y65.out).wide (fun x h => .inl (HSI.out x h)), ((HEV5.out).off hg7 Y65.out (by omega)).narrow HSI.out HSE.out, grownBy_after HG5.out hg7 (by omega)⟩

end Go.Proofs.YtihndbkaoejnnaaGreatDoor

namespace Go.Proofs.YtihndbkaoejnnaaGreatDoor
open Go Go.RowKit Go.Proofs.YtihndbkaoejnnaaGreatDoor.P


set_option maxRecDepth 100000 in
set_option maxHeartbeats 8000000 in
theorem v_one {om : Option Env0} {bs : List Bd} {ns : List Nd} {at_ k : Nat} {aop af ag n : Int} {a : Arr} (hx : ns[at_]? = some ⟨6, aop, af, ag, n, [], ⟨#[]⟩⟩) (hA : ActedAt om bs ns at_ k a) : ValAt om bs ns at_ k a := by
  intro w C E M f G g c S hst hev hnds hGE hom hdeep
  have hlt : at_ < ns.length := (List.getElem?_eq_some_iff.1 hx).1
  obtain ⟨nA, nc, n0, n1, n2, n3, n4, n5, n6, n7, n8⟩ := hnds.2.2.2.2.2 at_ _ hx
  have hgM := hnds.1
  have hMs := hnds.2.1
  have hL390 := hnds.2.2.2.2.1
  have hLc := hnds.2.2.1
  have hgl : g < w.heap.size := by omega
  have hEl := hev.1.lt
  simp only [] at n0 n1 n2 n3 n4 n5 n6
  obtain ⟨L, hL⟩ : ∃ L, L = ns.length := ⟨_, rfl⟩
  rw [← hL] at hlt hL390 hLc
  have hb3 := below_three w (.cells #[.slice C.bA C.bn C.bc, .int .i64 C.at_, .int .i64 C.n, .pointer C.al, .bool C.ob, .slice C.oA C.on C.oc, .slice C.pA C.pn C.pc, .int .i64 C.deep, .pointer (some ⟨E, 0, none⟩)] 131) (.cells #[.bool false, .slice none 0 0, .slice none 0 0] 25) (.cells #[.int .i64 6, .int .i64 aop, .int .i64 af, .int .i64 ag, .int .i64 n, .slice nA 0 nc, .string ⟨#[]⟩] 101)
  have x6 := (Box.new (w.alloc (.cells #[.slice C.bA C.bn C.bc, .int .i64 C.at_, .int .i64 C.n, .pointer C.al, .bool C.ob, .slice C.oA C.on C.oc, .slice C.pA C.pn C.pc, .int .i64 C.deep, .pointer (some ⟨E, 0, none⟩)] 131)) 25 #[.bool false, .slice none 0 0, .slice none 0 0]).alloc (.cells #[.int .i64 6, .int .i64 aop, .int .i64 af, .int .i64 ag, .int .i64 n, .slice nA 0 nc, .string ⟨#[]⟩] 101)
  obtain ⟨W, hW⟩ : ∃ W, W = ((w.alloc (.cells #[.slice C.bA C.bn C.bc, .int .i64 C.at_, .int .i64 C.n, .pointer C.al, .bool C.ob, .slice C.oA C.on C.oc, .slice C.pA C.pn C.pc, .int .i64 C.deep, .pointer (some ⟨E, 0, none⟩)] 131)).alloc (.cells #[.bool false, .slice none 0 0, .slice none 0 0] 25)).alloc (.cells #[.int .i64 6, .int .i64 aop, .int .i64 af, .int .i64 ag, .int .i64 n, .slice nA 0 nc, .string ⟨#[]⟩] 101) := ⟨_, rfl⟩
  rw [← hW] at hb3 x6
  simp only [World.size_alloc] at x6
  have HCALL := Lib.hid (hA W C E M f G g c S (hst.below hb3) (hev.below hb3) (hnds.below hb3) hGE (hom.wide hb3 (fun b h => .inl h)) hdeep)
  rw [← hL] at HCALL ⊢
  have HB3 := Lib.hid hb3
  have HX6 := Lib.hid x6
  clear hnds hom n7 n8 hev hb3 x6 hst hx hL hA
  go_enter Tryz.func68, Tryz.ntmps68
  go_wp2_with fail
  rw [← hW]
  clear n0 n1 n2 n3 n4 n5 n6 hW
  refine HCALL.out.mono ?_
  rintro e w1 ⟨v, rfl, hv, hev1, hg1⟩
  obtain ⟨sA, sc, dA, dc, hve, -⟩ := id hv
  subst hve
  have y6 := Box.grown HX6.out hg1 (by intro e; injection e; omega)
  obtain ⟨d0, d1, d2⟩ := Box.three y6
  have f0 := Box.frozen y6 0
  have f1 := Box.frozen y6 1
  have f2 := Box.frozen y6 2
  have dl := y6.lt
  have HAR := Lib.hid hv
  have HEV1 := Lib.hid hev1
  have HG1 := Lib.hid (grownBy_trans (grownBy_of_below (row := some E) HB3.out (Nat.le_refl _)) hg1)
  have HY6 := Lib.hid y6
  clear hv hev1 hg1 y6
  go_wp2_with fail
  refine bodyPost_ret (v := .agg #[.bool a.ch, .slice sA a.sh.length sc, .slice dA a.da.length dc]) (by simp [results, Tryz.results68, go_sem, d0, d1, d2, f0, f1, f2, dl]) rfl ?_
  have hg3 := grownBy_three w1 (w.heap.size + 1) (.bool a.ch) (.slice sA a.sh.length sc) (.slice dA a.da.length dc)
  exact ⟨_, rfl, ArrAt.off HAR.out hg3 HY6.out, HEV1.out.off hg3 HY6.out (by omega), grownBy_after HG1.out hg3 (by omega)⟩


set_option maxRecDepth 100000 in
set_option maxHeartbeats 8000000 in
theorem v_two {om : Option Env0} {bs : List Bd} {ns : List Nd} {at_ k : Nat} {aop af ag n : Int} {a : Arr} (hx : ns[at_]? = some ⟨7, aop, af, ag, n, [], ⟨#[]⟩⟩) (hA : ActedAt om bs ns at_ k a) : ValAt om bs ns at_ k a := by
  intro w C E M f G g c S hst hev hnds hGE hom hdeep
  have hlt : at_ < ns.length := (List.getElem?_eq_some_iff.1 hx).1
  obtain ⟨nA, nc, n0, n1, n2, n3, n4, n5, n6, n7, n8⟩ := hnds.2.2.2.2.2 at_ _ hx
  have hgM := hnds.1
  have hMs := hnds.2.1
  have hL390 := hnds.2.2.2.2.1
  have hLc := hnds.2.2.1
  have hgl : g < w.heap.size := by omega
  have hEl := hev.1.lt
  simp only [] at n0 n1 n2 n3 n4 n5 n6
  obtain ⟨L, hL⟩ : ∃ L, L = ns.length := ⟨_, rfl⟩
  rw [← hL] at hlt hL390 hLc
  have hb3 := below_three w (.cells #[.slice C.bA C.bn C.bc, .int .i64 C.at_, .int .i64 C.n, .pointer C.al, .bool C.ob, .slice C.oA C.on C.oc, .slice C.pA C.pn C.pc, .int .i64 C.deep, .pointer (some ⟨E, 0, none⟩)] 131) (.cells #[.bool false, .slice none 0 0, .slice none 0 0] 25) (.cells #[.int .i64 7, .int .i64 aop, .int .i64 af, .int .i64 ag, .int .i64 n, .slice nA 0 nc, .string ⟨#[]⟩] 101)
  have x6 := (Box.new (w.alloc (.cells #[.slice C.bA C.bn C.bc, .int .i64 C.at_, .int .i64 C.n, .pointer C.al, .bool C.ob, .slice C.oA C.on C.oc, .slice C.pA C.pn C.pc, .int .i64 C.deep, .pointer (some ⟨E, 0, none⟩)] 131)) 25 #[.bool false, .slice none 0 0, .slice none 0 0]).alloc (.cells #[.int .i64 7, .int .i64 aop, .int .i64 af, .int .i64 ag, .int .i64 n, .slice nA 0 nc, .string ⟨#[]⟩] 101)
  obtain ⟨W, hW⟩ : ∃ W, W = ((w.alloc (.cells #[.slice C.bA C.bn C.bc, .int .i64 C.at_, .int .i64 C.n, .pointer C.al, .bool C.ob, .slice C.oA C.on C.oc, .slice C.pA C.pn C.pc, .int .i64 C.deep, .pointer (some ⟨E, 0, none⟩)] 131)).alloc (.cells #[.bool false, .slice none 0 0, .slice none 0 0] 25)).alloc (.cells #[.int .i64 7, .int .i64 aop, .int .i64 af, .int .i64 ag, .int .i64 n, .slice nA 0 nc, .string ⟨#[]⟩] 101) := ⟨_, rfl⟩
  rw [← hW] at hb3 x6
  simp only [World.size_alloc] at x6
  have HCALL := Lib.hid (hA W C E M f G g c S (hst.below hb3) (hev.below hb3) (hnds.below hb3) hGE (hom.wide hb3 (fun b h => .inl h)) hdeep)
  rw [← hL] at HCALL ⊢
  have HB3 := Lib.hid hb3
  have HX6 := Lib.hid x6
  clear hnds hom n7 n8 hev hb3 x6 hst hx hL hA
  go_enter Tryz.func68, Tryz.ntmps68
  go_wp2_with fail
  rw [← hW]
  clear n0 n1 n2 n3 n4 n5 n6 hW
  refine HCALL.out.mono ?_
  rintro e w1 ⟨v, rfl, hv, hev1, hg1⟩
  obtain ⟨sA, sc, dA, dc, hve, -⟩ := id hv
  subst hve
  have y6 := Box.grown HX6.out hg1 (by intro e; injection e; omega)
  obtain ⟨d0, d1, d2⟩ := Box.three y6
  have f0 := Box.frozen y6 0
  have f1 := Box.frozen y6 1
  have f2 := Box.frozen y6 2
  have dl := y6.lt
  have HAR := Lib.hid hv
  have HEV1 := Lib.hid hev1
  have HG1 := Lib.hid (grownBy_trans (grownBy_of_below (row := some E) HB3.out (Nat.le_refl _)) hg1)
  have HY6 := Lib.hid y6
  clear hv hev1 hg1 y6
  go_wp2_with fail
  refine bodyPost_ret (v := .agg #[.bool a.ch, .slice sA a.sh.length sc, .slice dA a.da.length dc]) (by simp [results, Tryz.results68, go_sem, d0, d1, d2, f0, f1, f2, dl]) rfl ?_
  have hg3 := grownBy_three w1 (w.heap.size + 1) (.bool a.ch) (.slice sA a.sh.length sc) (.slice dA a.da.length dc)
  exact ⟨_, rfl, ArrAt.off HAR.out hg3 HY6.out, HEV1.out.off hg3 HY6.out (by omega), grownBy_after HG1.out hg3 (by omega)⟩


end Go.Proofs.YtihndbkaoejnnaaGreatDoor

namespace Go.Proofs.YtihndbkaoejnnaaGreatDoor
open Go Go.RowKit Go.Proofs.YtihndbkaoejnnaaGreatDoor.P

set_option maxRecDepth 100000 in
set_option maxHeartbeats 8000000 in
theorem v_omega {env : Env0} {bs : List Bd} {ns : List Nd} {at_ : Nat} (hx : ns[at_]? = some ⟨5, 0, 0, 0, 0, [], ⟨#[]⟩⟩) : ValAt (some env) bs ns at_ 1 env.arr := by
  intro w C E M f G g c S hst hev hnds hGE hom hdeep
  have hlt : at_ < ns.length := (List.getElem?_eq_some_iff.1 hx).1
  obtain ⟨nA, nc, n0, n1, n2, n3, n4, n5, n6, n7, n8⟩ := hnds.2.2.2.2.2 at_ _ hx
  have hgM := hnds.1
  have hMs := hnds.2.1
  have hL390 := hnds.2.2.2.2.1
  have hLc := hnds.2.2.1
  have hgl : g < w.heap.size := by omega
  have hEl := hev.1.lt
  obtain ⟨L, hL⟩ : ∃ L, L = ns.length := ⟨_, rfl⟩
  rw [← hL] at hlt hL390 hLc ⊢
  simp only [] at n0 n1 n2 n3 n4 n5 n6
  have HOM := Lib.hid (hom env rfl).1
  have hSE := hev.2.2.2.1
  have hb3 := below_three w (.cells #[.slice C.bA C.bn C.bc, .int .i64 C.at_, .int .i64 C.n, .pointer C.al, .bool C.ob, .slice C.oA C.on C.oc, .slice C.pA C.pn C.pc, .int .i64 C.deep, .pointer (some ⟨E, 0, none⟩)] 131) (.cells #[.bool false, .slice none 0 0, .slice none 0 0] 25) (.cells #[.int .i64 5, .int .i64 0, .int .i64 0, .int .i64 0, .int .i64 0, .slice nA 0 nc, .string ⟨#[]⟩] 101)
  have x3 := ((Box.new w 131 #[.slice C.bA C.bn C.bc, .int .i64 C.at_, .int .i64 C.n, .pointer C.al, .bool C.ob, .slice C.oA C.on C.oc, .slice C.pA C.pn C.pc, .int .i64 C.deep, .pointer (some ⟨E, 0, none⟩)]).alloc (.cells #[.bool false, .slice none 0 0, .slice none 0 0] 25)).alloc (.cells #[.int .i64 5, .int .i64 0, .int .i64 0, .int .i64 0, .int .i64 0, .slice nA 0 nc, .string ⟨#[]⟩] 101)
  have x6 := (Box.new (w.alloc (.cells #[.slice C.bA C.bn C.bc, .int .i64 C.at_, .int .i64 C.n, .pointer C.al, .bool C.ob, .slice C.oA C.on C.oc, .slice C.pA C.pn C.pc, .int .i64 C.deep, .pointer (some ⟨E, 0, none⟩)] 131)) 25 #[.bool false, .slice none 0 0, .slice none 0 0]).alloc (.cells #[.int .i64 5, .int .i64 0, .int .i64 0, .int .i64 0, .int .i64 0, .slice nA 0 nc, .string ⟨#[]⟩] 101)
  have x7 := Box.new ((w.alloc (.cells #[.slice C.bA C.bn C.bc, .int .i64 C.at_, .int .i64 C.n, .pointer C.al, .bool C.ob, .slice C.oA C.on C.oc, .slice C.pA C.pn C.pc, .int .i64 C.deep, .pointer (some ⟨E, 0, none⟩)] 131)).alloc (.cells #[.bool false, .slice none 0 0, .slice none 0 0] 25)) 101 #[.int .i64 5, .int .i64 0, .int .i64 0, .int .i64 0, .int .i64 0, .slice nA 0 nc, .string ⟨#[]⟩]
  obtain ⟨W, hW⟩ : ∃ W, W = ((w.alloc (.cells #[.slice C.bA C.bn C.bc, .int .i64 C.at_, .int .i64 C.n, .pointer C.al, .bool C.ob, .slice C.oA C.on C.oc, .slice C.pA C.pn C.pc, .int .i64 C.deep, .pointer (some ⟨E, 0, none⟩)] 131)).alloc (.cells #[.bool false, .slice none 0 0, .slice none 0 0] 25)).alloc (.cells #[.int .i64 5, .int .i64 0, .int .i64 0, .int .i64 0, .int .i64 0, .slice nA 0 nc, .string ⟨#[]⟩] 101) := ⟨_, rfl⟩
  rw [← hW] at hb3 x3 x6 x7
  have hWs : W.heap.size = w.heap.size + 3 := by rw [hW]; simp
  simp only [World.size_alloc] at x6 x7
  have HSTEP := Lib.hid (step_any (hev.below hb3))
  have HB3 := Lib.hid hb3
  have HX3 := Lib.hid x3
  have HX6 := Lib.hid x6
  have HX7 := Lib.hid x7
  have HST := Lib.hid hst
  have HWS := Lib.hid hWs
  clear hnds hom n7 n8 hev hb3 x3 x6 x7 hWs hst hx hL
  go_enter Tryz.func68, Tryz.ntmps68
  go_wp2_with fail
  rw [← hW]
  clear n0 n1 n2 n3 n4 n5 n6 hW
  refine HSTEP.out.mono ?_
  rintro e w1 ⟨rfl, hev1, hg1⟩
  have y3 := Box.grown HX3.out hg1 (by intro e; injection e; omega)
  have y6 := Box.grown HX6.out hg1 (by intro e; injection e; omega)
  have y7 := Box.grown HX7.out hg1 (by intro e; injection e; omega)
  have o0 := y7.cell 0
  have o7l := y7.lt
  have t4 := y3.cell 4
  have t5 := y3.cell 5
  have t6 := y3.cell 6
  have t3l := y3.lt
  obtain ⟨d0, d1, d2⟩ := Box.three y6
  have f0 := Box.frozen y6 0
  have f1 := Box.frozen y6 1
  have f2 := Box.frozen y6 2
  have dl := y6.lt
  have HG1 := Lib.hid hg1
  have HEV1 := Lib.hid hev1
  have hWs := HWS.out
  have hs1 := hg1.size
  have HAR := Lib.hid ((HOM.out.below HB3.out).grown hg1 hSE)
  have HGW := Lib.hid (grownBy_trans (grownBy_of_below (row := some E) HB3.out (Nat.le_refl _)) HG1.out)
  have Y6 := Lib.hid y6
  clear hev1 hg1 y3 y6 y7
  simp at o0 t4 t5 t6
  go_wp2_with fail
  refine bodyPost_ret (v := .agg #[.bool C.ob, .slice C.oA C.on C.oc, .slice C.pA C.pn C.pc]) (by simp [results, Tryz.results68, go_sem, d0, d1, d2, f0, f1, f2, dl]) rfl ?_
  have hg3 := grownBy_three w1 (w.heap.size + 1) (.bool C.ob) (.slice C.oA C.on C.oc) (.slice C.pA C.pn C.pc)
  exact ⟨_, rfl, ArrAt.off HAR.out hg3 Y6.out, (HEV1.out).off hg3 Y6.out (by omega), grownBy_row HGW.out hg3 (fun k e => by injection e; omega)⟩

end Go.Proofs.YtihndbkaoejnnaaGreatDoor

namespace Go.Proofs.YtihndbkaoejnnaaGreatDoor
open Go Go.RowKit Go.Proofs.YtihndbkaoejnnaaGreatDoor.P

set_option maxRecDepth 100000 in
set_option maxHeartbeats 8000000 in
theorem acted_two {om : Option Env0} {bs : List Bd} {ns : List Nd} {at_ m k1 k2 : Nat} {aop af ag n : Int} {a1 a2 b : Arr} (hx : ns[at_]? = some ⟨7, aop, af, ag, n, [], ⟨#[]⟩⟩) (h6 : aop ≠ 6) (h7 : aop ≠ 7) (hk : Skips ns (at_ + 1) 1 m) (hm390 : m ≤ 390) (hR : ValAt om bs ns m k2 a2) (hL : ValAt om bs ns (at_ + 1) k1 a1) (hA : ActTwo aop af ag a1 a2 b) : ActedAt om bs ns at_ (k1 + k2 + 1) b := by
  intro w C E M f G g c S hst hev hnds hGE hom hdeep
  have hdeep60 := hdeep.1
  have hmx := mixedZ
  have hlt : at_ < ns.length := (List.getElem?_eq_some_iff.1 hx).1
  obtain ⟨nA, nc, n0, n1, n2, n3, n4, n5, n6, n7, n8⟩ := hnds.2.2.2.2.2 at_ _ hx
  have hgM := hnds.1
  have hMs := hnds.2.1
  have hL390 := hnds.2.2.2.2.1
  have hLc := hnds.2.2.1
  have hgl : g < w.heap.size := by omega
  have hEl := hev.1.lt
  have hE20 : 6 ≤ E := by have := hev.2.1; have := hev.2.2.1; omega
  have e6 : (aop == 6) = false := by simpa using h6
  have e7 : (aop == 7) = false := by simpa using h7
  simp only [] at n0 n1 n2 n3 n4 n5 n6
  obtain ⟨L, hLn⟩ : ∃ L, L = ns.length := ⟨_, rfl⟩
  rw [← hLn] at hlt hL390 hLc
  have hb3 := below_three w (.cells #[.slice C.bA C.bn C.bc, .int .i64 C.at_, .int .i64 C.n, .pointer C.al, .bool C.ob, .slice C.oA C.on C.oc, .slice C.pA C.pn C.pc, .int .i64 C.deep, .pointer (some ⟨E, 0, none⟩)] 131) (.cells #[.bool false, .slice none 0 0, .slice none 0 0] 25) (.cells #[.int .i64 7, .int .i64 aop, .int .i64 af, .int .i64 ag, .int .i64 n, .slice nA 0 nc, .string ⟨#[]⟩] 101)
  have x3 := ((Box.new w 131 #[.slice C.bA C.bn C.bc, .int .i64 C.at_, .int .i64 C.n, .pointer C.al, .bool C.ob, .slice C.oA C.on C.oc, .slice C.pA C.pn C.pc, .int .i64 C.deep, .pointer (some ⟨E, 0, none⟩)]).alloc (.cells #[.bool false, .slice none 0 0, .slice none 0 0] 25)).alloc (.cells #[.int .i64 7, .int .i64 aop, .int .i64 af, .int .i64 ag, .int .i64 n, .slice nA 0 nc, .string ⟨#[]⟩] 101)
  have x6 := (Box.new (w.alloc (.cells #[.slice C.bA C.bn C.bc, .int .i64 C.at_, .int .i64 C.n, .pointer C.al, .bool C.ob, .slice C.oA C.on C.oc, .slice C.pA C.pn C.pc, .int .i64 C.deep, .pointer (some ⟨E, 0, none⟩)] 131)) 25 #[.bool false, .slice none 0 0, .slice none 0 0]).alloc (.cells #[.int .i64 7, .int .i64 aop, .int .i64 af, .int .i64 ag, .int .i64 n, .slice nA 0 nc, .string ⟨#[]⟩] 101)
  have x7 := Box.new ((w.alloc (.cells #[.slice C.bA C.bn C.bc, .int .i64 C.at_, .int .i64 C.n, .pointer C.al, .bool C.ob, .slice C.oA C.on C.oc, .slice C.pA C.pn C.pc, .int .i64 C.deep, .pointer (some ⟨E, 0, none⟩)] 131)).alloc (.cells #[.bool false, .slice none 0 0, .slice none 0 0] 25)) 101 #[.int .i64 7, .int .i64 aop, .int .i64 af, .int .i64 ag, .int .i64 n, .slice nA 0 nc, .string ⟨#[]⟩]
  obtain ⟨W3, hW3⟩ : ∃ W, W = ((w.alloc (.cells #[.slice C.bA C.bn C.bc, .int .i64 C.at_, .int .i64 C.n, .pointer C.al, .bool C.ob, .slice C.oA C.on C.oc, .slice C.pA C.pn C.pc, .int .i64 C.deep, .pointer (some ⟨E, 0, none⟩)] 131)).alloc (.cells #[.bool false, .slice none 0 0, .slice none 0 0] 25)).alloc (.cells #[.int .i64 7, .int .i64 aop, .int .i64 af, .int .i64 ag, .int .i64 n, .slice nA 0 nc, .string ⟨#[]⟩] 101) := ⟨_, rfl⟩
  rw [← hW3] at hb3 x3 x6 x7
  have hWs3 : W3.heap.size = w.heap.size + 3 := by rw [hW3]; simp
  simp only [World.size_alloc] at x6 x7
  have HSK := Lib.hid (skip_any (hnds.below hb3) hk)
  rw [← hLn] at HSK
  have HLN := Lib.hid hLn
  have HB3 := Lib.hid hb3
  have HX3 := Lib.hid x3
  have HX6 := Lib.hid x6
  have HX7 := Lib.hid x7
  have HST := Lib.hid hst
  have HWS3 := Lib.hid hWs3
  have HA := Lib.hid hA
  have HR := Lib.hid hR
  have HL := Lib.hid hL
  have HND := Lib.hid hnds
  have HOM := Lib.hid hom
  have HEV := Lib.hid hev
  rw [← hLn]
  clear hnds hom n7 n8 hev hb3 x3 x6 x7 hWs3 hst hx hLn h6 h7 hA hR hL hk
  go_enter Tryz.func99, Tryz.ntmps99
  go_wp2_with fail
  rw [← hW3]
  clear n0 n1 n2 n3 n4 n5 n6 hW3
  refine HSK.out.mono ?_
  rintro e w1 ⟨rfl, hb1⟩
  have hs31 := hb1.size
  have hWs3 := HWS3.out
  have y7 := HX7.out.below hb1
  have y3 := HX3.out.below hb1
  have o0 := y7.cell 0
  have o1 := y7.cell 1
  have o4 := y7.cell 4
  have t0 := y3.cell 0
  have t1 := y3.cell 1
  have t2 := y3.cell 2
  have t3 := y3.cell 3
  have t4 := y3.cell 4
  have t5 := y3.cell 5
  have t6 := y3.cell 6
  have t7 := y3.cell 7
  have t8 := y3.cell 8
  have l7 := y7.lt
  have l3 := y3.lt
  simp at o0 o1 o4 t0 t1 t2 t3 t4 t5 t6 t7 t8
  have hne0 : ¬ w.heap.size = w1.heap.size := by omega
  have hne1 : ¬ w1.heap.size = w.heap.size := by omega
  have hne2 : ¬ w.heap.size + 1 + 1 = w1.heap.size := by omega
  have hne3 : ¬ w1.heap.size = w.heap.size + 1 + 1 := by omega
  have hne4 : ¬ w.heap.size + 1 = w1.heap.size := by omega
  have hne5 : ¬ w1.heap.size = w.heap.size + 1 := by omega
  have Y7 := Lib.hid (y7.alloc (.cells #[.slice (some ⟨g, 0, none⟩) L c, .int .i64 m, .int .i64 n, .pointer none, .bool false, .slice none 0 0, .slice none 0 0, .int .i64 ((C.deep : Int) + 1), .pointer (some ⟨E, 0, none⟩)] 131))
  have Y3 := Lib.hid (y3.alloc (.cells #[.slice (some ⟨g, 0, none⟩) L c, .int .i64 m, .int .i64 n, .pointer none, .bool false, .slice none 0 0, .slice none 0 0, .int .i64 ((C.deep : Int) + 1), .pointer (some ⟨E, 0, none⟩)] 131))
  have Y6 := Lib.hid ((HX6.out.below hb1).alloc (.cells #[.slice (some ⟨g, 0, none⟩) L c, .int .i64 m, .int .i64 n, .pointer none, .bool false, .slice none 0 0, .slice none 0 0, .int .i64 ((C.deep : Int) + 1), .pointer (some ⟨E, 0, none⟩)] 131))
  have Y11 := Lib.hid (Box.new w1 131 #[.slice (some ⟨g, 0, none⟩) L c, .int .i64 m, .int .i64 n, .pointer none, .bool false, .slice none 0 0, .slice none 0 0, .int .i64 ((C.deep : Int) + 1), .pointer (some ⟨E, 0, none⟩)])
  have hbW : Below w.heap.size w (w1.alloc (.cells #[.slice (some ⟨g, 0, none⟩) L c, .int .i64 m, .int .i64 n, .pointer none, .bool false, .slice none 0 0, .slice none 0 0, .int .i64 ((C.deep : Int) + 1), .pointer (some ⟨E, 0, none⟩)] 131)) := (HB3.out.trans (hb1.mono HB3.out.size)).alloc (by omega) _
  have HBW := Lib.hid hbW
  clear y7 y3 hb1 hbW
  go_wp2_with fail
  obtain ⟨W1, hW1⟩ : ∃ W, W = w1.alloc (.cells #[.slice (some ⟨g, 0, none⟩) L c, .int .i64 m, .int .i64 n, .pointer none, .bool false, .slice none 0 0, .slice none 0 0, .int .i64 ((C.deep : Int) + 1), .pointer (some ⟨E, 0, none⟩)] 131) := ⟨_, rfl⟩
  rw [← hW1] at Y7 Y3 Y6 Y11 HBW ⊢
  have hs11 : W1.heap.size = w1.heap.size + 1 := by rw [hW1]; simp
  clear hW1 o0 o1 o4 t0 t1 t2 t3 t4 t5 t6 t7 t8 l7 l3
  obtain ⟨S', hS'⟩ : ∃ S' : Nat → Prop, S' = fun b => S b ∨ (w.heap.size ≤ b ∧ b < W1.heap.size) := ⟨_, rfl⟩
  have hSi : ∀ b, S b → S' b := fun b h => by rw [hS']; exact .inl h
  have hSo : ∀ b, S' b → S b ∨ (w.heap.size ≤ b ∧ b < W1.heap.size) := fun b h => by rw [hS'] at h; exact h
  have hST : S' w1.heap.size := by rw [hS']; exact .inr ⟨by omega, by omega⟩
  have hS6 : S' (w.heap.size + 1) := by rw [hS']; exact .inr ⟨by omega, by omega⟩
  have hSE : S E := HEV.out.2.2.2.1
  have HSI := Lib.hid hSi
  have HSE := Lib.hid hSE
  have hSGP : ∀ b, S' b → G ≤ b := fun b h => (hSo b h).elim (hGE b) (fun h => Nat.le_trans hMs h.1)
  clear hS'
  have hevW : EvAt W1 E M S' bs (f + 1 + k1 + k2) := by
    have := HEV.out
    rw [show f + (k1 + k2 + 1) = f + 1 + k1 + k2 by omega] at this
    exact this.wide HBW.out hSo (hSi _ hSE)
  have HOM1 := Lib.hid (HOM.out.wide HBW.out (fun b h => (hSo b h).imp id (fun h => h.1)))
  have HND1 := Lib.hid (HND.out.below HBW.out)
  have hc1 := HR.out W1 C E M (f + 1 + k1) G g c S' (HST.out.below HBW.out) hevW HND1.out hSGP HOM1.out hdeep
  rw [← HLN.out] at hc1
  clear hSi hSo hSE hevW
  refine hc1.mono ?_
  rintro e wA ⟨v2, rfl, hv2, hevA, hgA⟩
  have sA1 := hgA.size
  have y7 := Box.grown Y7.out hgA (by intro e; injection e; omega)
  have y3 := Box.grown Y3.out hgA (by intro e; injection e; omega)
  have y6 := Box.grown Y6.out hgA (by intro e; injection e; omega)
  have y11 := Box.grown Y11.out hgA (by intro e; injection e; omega)
  obtain ⟨sA, sc, dA, dc, hve, -⟩ := id hv2
  subst hve
  have hg2 := grownBy_456 wA w1.heap.size (.bool a2.ch) (.slice sA a2.sh.length sc) (.slice dA a2.da.length dc)
  have d4 := y11.cell 4
  have d5 := y11.cell 5
  have d6 := y11.cell 6
  have f4 := Box.frozen y11 4
  have f5 := Box.frozen y11 5
  have f6 := Box.frozen y11 6
  have l11 := y11.lt
  have l7 := y7.lt
  have l3 := y3.lt
  have o0 := y7.cell 0
  have t0 := y3.cell 0
  have t1 := y3.cell 1
  have t2 := y3.cell 2
  have t3 := y3.cell 3
  have t4 := y3.cell 4
  have t5 := y3.cell 5
  have t6 := y3.cell 6
  have t7 := y3.cell 7
  have t8 := y3.cell 8
  simp at d4 d5 d6 o0 t0 t1 t2 t3 t4 t5 t6 t7 t8
  have HG2 := Lib.hid (grownBy_after (grownBy_trans (grownBy_of_below (row := some E) HBW.out (Nat.le_refl _)) hgA) hg2 (by omega))
  have HV2 := Lib.hid (hv2.grown hg2 hST)
  have HEV2 := Lib.hid (hevA.grown hg2 hST (by omega))
  have HOM2 := Lib.hid (show OmAt _ S' C om from fun a e => ((HOM1.out a e).grown hgA HEV2.out.2.2.2.1).grown hg2 hST)
  have HND2 := Lib.hid ((HND1.out.grown hgA (hGE E HSE.out)).grown hg2 (by omega))
  have Z7 := Lib.hid (Box.grown y7 hg2 (by intro e; injection e; omega))
  have Z3 := Lib.hid (Box.grown y3 hg2 (by intro e; injection e; omega))
  have Z6 := Lib.hid (Box.grown y6 hg2 (by intro e; injection e; omega))
  have Z11 := Lib.hid ((((y11.store 4 (.bool a2.ch)).store 5 (.slice sA a2.sh.length sc)).store 6 (.slice dA a2.da.length dc)))
  have hs2 : (((wA.setCell ⟨w1.heap.size, 4, none⟩ (.bool a2.ch)).setCell ⟨w1.heap.size, 5, none⟩ (.slice sA a2.sh.length sc)).setCell ⟨w1.heap.size, 6, none⟩ (.slice dA a2.da.length dc)).heap.size = wA.heap.size := by simp
  clear hv2 hevA hgA hg2 y7 y3 y6 y11 hc1
  go_wp2_with fail
  obtain ⟨W2, hW2⟩ : ∃ W2, W2 = ((wA.setCell ⟨w1.heap.size, 4, none⟩ (.bool a2.ch)).setCell ⟨w1.heap.size, 5, none⟩ (.slice sA a2.sh.length sc)).setCell ⟨w1.heap.size, 6, none⟩ (.slice dA a2.da.length dc) := ⟨_, rfl⟩
  rw [← hW2] at HG2 HV2 HEV2 HOM2 HND2 Z7 Z3 Z6 Z11 hs2 ⊢
  clear hW2 d4 d5 d6 f4 f5 f6 l11 l7 l3 o0 t0 t1 t2 t3 t4 t5 t6 t7 t8
  have hc2 := HL.out W2 C E M (f + 1) G g c S' (HST.out.grown HG2.out hE20) (by have := HEV2.out; rwa [show f + 1 + k1 = f + 1 + k1 from rfl] at this) HND2.out hSGP HOM2.out hdeep
  rw [← HLN.out] at hc2
  refine hc2.mono ?_
  rintro e wB ⟨v1, rfl, hv1, hevB, hgB⟩
  have sB1 := hgB.size
  have hTE : w1.heap.size ≠ E := by omega
  have y7 := Box.grown Z7.out hgB (by intro e; injection e; omega)
  have y3 := Box.grown Z3.out hgB (by intro e; injection e; omega)
  have y6 := Box.grown Z6.out hgB (by intro e; injection e; omega)
  have y11 := Box.grown Z11.out hgB (by intro e; injection e; omega)
  simp at y11
  obtain ⟨tA, tc, eA, ec, hve, -⟩ := id hv1
  subst hve
  have c3 := y11.cell 3
  have f3 := Box.frozen y11 3
  have t8 := y3.cell 8
  have l11 := y11.lt
  have l3 := y3.lt
  have l7 := y7.lt
  have l6 := y6.lt
  simp at c3 t8
  have hg3 := grownBy_setCell wB w1.heap.size 3 (.pointer (some ⟨wB.heap.size, 0, none⟩))
  have hb12 := below_one (wB.setCell ⟨w1.heap.size, 3, none⟩ (.pointer (some ⟨wB.heap.size, 0, none⟩))) (.cells #[.bool a1.ch, .slice tA a1.sh.length tc, .slice eA a1.da.length ec] 25)
  have x12 := Box.new (wB.setCell ⟨w1.heap.size, 3, none⟩ (.pointer (some ⟨wB.heap.size, 0, none⟩))) 25 #[.bool a1.ch, .slice tA a1.sh.length tc, .slice eA a1.da.length ec]
  have hss : (wB.setCell ⟨w1.heap.size, 3, none⟩ (.pointer (some ⟨wB.heap.size, 0, none⟩))).heap.size = wB.heap.size := by simp
  rw [hss] at x12
  have HG3 := Lib.hid (grownBy_then (grownBy_after (grownBy_trans HG2.out hgB) hg3 (by omega)) hb12)
  have HEV3 := Lib.hid ((hevB.grown hg3 hST (by omega)).below hb12)
  have HV13 := Lib.hid ((hv1.grown hg3 hST).below hb12)
  have HV23 := Lib.hid (((HV2.out.grown hgB HEV2.out.2.2.2.1).grown hg3 hST).below hb12)
  have Q7 := Lib.hid ((Box.grown y7 hg3 (by intro e; injection e; omega)).below hb12)
  have Q6 := Lib.hid ((Box.grown y6 hg3 (by intro e; injection e; omega)).below hb12)
  have Q12 := Lib.hid x12
  have Q11 := Lib.hid ((y11.store 3 (.pointer (some ⟨wB.heap.size, 0, none⟩))).alloc (.cells #[.bool a1.ch, .slice tA a1.sh.length tc, .slice eA a1.da.length ec] 25))
  have hs4 : ((wB.setCell ⟨w1.heap.size, 3, none⟩ (.pointer (some ⟨wB.heap.size, 0, none⟩))).alloc (.cells #[.bool a1.ch, .slice tA a1.sh.length tc, .slice eA a1.da.length ec] 25)).heap.size = wB.heap.size + 1 := by simp
  clear hv1 hevB hgB hb12 x12 hss hg3 y7 y3 y6 y11 hc2
  go_wp2_with fail
  obtain ⟨W4, hW4⟩ : ∃ W4, W4 = (wB.setCell ⟨w1.heap.size, 3, none⟩ (.pointer (some ⟨wB.heap.size, 0, none⟩))).alloc (.cells #[.bool a1.ch, .slice tA a1.sh.length tc, .slice eA a1.da.length ec] 25) := ⟨_, rfl⟩
  rw [← hW4] at HG3 HEV3 HV13 HV23 Q7 Q6 Q12 Q11 hs4 ⊢
  clear hW4 c3 f3 t8
  refine (step_any HEV3.out).mono ?_
  rintro e wC ⟨rfl, hevC, hgC⟩
  have sC1 := hgC.size
  have y7 := Box.grown Q7.out hgC (by intro e; injection e; omega)
  have y6 := Box.grown Q6.out hgC (by intro e; injection e; omega)
  have y11 := Box.grown Q11.out hgC (by intro e; injection e; omega)
  have y12 := Box.grown Q12.out hgC (by intro e; injection e; omega)
  simp at y11
  have HV1C := Lib.hid (HV13.out.grown hgC HEV3.out.2.2.2.1)
  have HV2C := Lib.hid (HV23.out.grown hgC HEV3.out.2.2.2.1)
  have HEVC := Lib.hid hevC
  have HGC := Lib.hid (grownBy_trans HG3.out hgC)
  have HY7 := Lib.hid y7
  have HY6 := Lib.hid y6
  have HY11 := Lib.hid y11
  have HY12 := Lib.hid y12
  have q0 := y7.cell 0
  have q1 := y7.cell 1
  have m7 := y7.lt
  simp at q0 q1
  clear hevC hgC y7 y6 y11 y12
  go_wp2_with fail
  have hRel : Rels (fun u0 u1 => u0.grownBy u1 (some (w.heap.size + 1))) := rels_block (w.heap.size + 1)
  obtain ⟨V, hVe⟩ : ∃ V : Nat → Value → World → Prop, V = fun i v w' => match i with
      | 0 => v = .pointer (some ⟨w.heap.size + 1 + 1, 1, none⟩)
      | 1 => v = .agg #[.int .i64 aop, .int .i64 af, .int .i64 ag]
      | 2 => v = .pointer (some ⟨w1.heap.size, 3, none⟩)
      | 3 => v = .pointer (some ⟨wB.heap.size, 0, none⟩)
      | 4 => v = .pointer (some ⟨wB.heap.size, 0, none⟩)
      | 5 => v = .agg #[.bool a1.ch, .slice tA a1.sh.length tc, .slice eA a1.da.length ec]
      | 6 => v = .pointer (some ⟨w1.heap.size, 4, none⟩)
      | 7 => v = .agg #[.bool a2.ch, .slice sA a2.sh.length sc, .slice dA a2.da.length dc]
      | 8 => ∃ x, v = .tuple #[x, .nilIface] ∧ ArrAt w' S' x b
      | 9 => ArrAt w' S' v b
      | 10 => v = .nilIface
      | 11 => ArrAt w' S' v b
      | _ => True := ⟨_, rfl⟩
  have hVm : ∀ j v w1 w2, V j v w1 → (fun u0 u1 => u0.grownBy u1 (some (w.heap.size + 1))) w1 w2 → V j v w2 := by
    intro j v w1 w2 h hr
    subst hVe
    match j, h with
    | 0, h => exact h
    | 1, h => exact h
    | 2, h => exact h
    | 3, h => exact h
    | 4, h => exact h
    | 5, h => exact h
    | 6, h => exact h
    | 7, h => exact h
    | 8, ⟨x, e, h⟩ => exact ⟨x, e, h.grown hr hS6⟩
    | 9, h => exact h.grown hr hS6
    | 10, h => exact h
    | 11, h => exact h.grown hr hS6
    | i + 12, _ => trivial
  have hV0 : ∀ v w', V 0 v w' ↔ v = .pointer (some ⟨w.heap.size + 1 + 1, 1, none⟩) := fun _ _ => by subst hVe; rfl
  have hV1 : ∀ v w', V 1 v w' ↔ v = .agg #[.int .i64 aop, .int .i64 af, .int .i64 ag] := fun _ _ => by subst hVe; rfl
  have hV2 : ∀ v w', V 2 v w' ↔ v = .pointer (some ⟨w1.heap.size, 3, none⟩) := fun _ _ => by subst hVe; rfl
  have hV3 : ∀ v w', V 3 v w' ↔ v = .pointer (some ⟨wB.heap.size, 0, none⟩) := fun _ _ => by subst hVe; rfl
  have hV4 : ∀ v w', V 4 v w' ↔ v = .pointer (some ⟨wB.heap.size, 0, none⟩) := fun _ _ => by subst hVe; rfl
  have hV5 : ∀ v w', V 5 v w' ↔ v = .agg #[.bool a1.ch, .slice tA a1.sh.length tc, .slice eA a1.da.length ec] := fun _ _ => by subst hVe; rfl
  have hV6 : ∀ v w', V 6 v w' ↔ v = .pointer (some ⟨w1.heap.size, 4, none⟩) := fun _ _ => by subst hVe; rfl
  have hV7 : ∀ v w', V 7 v w' ↔ v = .agg #[.bool a2.ch, .slice sA a2.sh.length sc, .slice dA a2.da.length dc] := fun _ _ => by subst hVe; rfl
  have hV8 : ∀ v w', V 8 v w' ↔ ∃ x, v = .tuple #[x, .nilIface] ∧ ArrAt w' S' x b := fun _ _ => by subst hVe; rfl
  have hV9 : ∀ v w', V 9 v w' ↔ ArrAt w' S' v b := fun _ _ => by subst hVe; rfl
  have hV10 : ∀ v w', V 10 v w' ↔ v = .nilIface := fun _ _ => by subst hVe; rfl
  have hV11 : ∀ v w', V 11 v w' ↔ ArrAt w' S' v b := fun _ _ => by subst hVe; rfl
  have hV12 : ∀ v w', V 12 v w' := fun _ _ => by subst hVe; trivial
  obtain ⟨St, hSe⟩ : ∃ St : Nat → (Nat → Value) → World → Prop, St = fun s u w' => match s with
      | 0 => Box w' (w.heap.size + 1) 25 #[.bool false, .slice none 0 0, .slice none 0 0]
      | 1 => ∃ sB sd dB dd, Box w' (w.heap.size + 1) 25 #[.bool b.ch, .slice sB b.sh.length sd, .slice dB b.da.length dd] ∧ ArrAt w' S' (.agg #[.bool b.ch, .slice sB b.sh.length sd, .slice dB b.da.length dd]) b
      | _ => False := ⟨_, rfl⟩
  have hSm : ∀ s u u' w1 w2, (∀ c ∈ [12], u' c = u c) → St s u w1 → Below w1.heap.size w1 w2 → St s u' w2 := by
    intro s u u' w1 w2 hu h hb
    subst hSe
    match s, h with
    | 0, h => exact h.below hb
    | 1, ⟨sB, sd, dB, dd, h1, h2⟩ => exact ⟨sB, sd, dB, dd, h1.below hb, h2.below hb⟩
    | s + 2, h => exact h.elim
  have hS0 : ∀ u w', St 0 u w' ↔ (Box w' (w.heap.size + 1) 25 #[.bool false, .slice none 0 0, .slice none 0 0]) := fun _ _ => by subst hSe; rfl
  have hS1 : ∀ u w', St 1 u w' ↔ (∃ sB sd dB dd, Box w' (w.heap.size + 1) 25 #[.bool b.ch, .slice sB b.sh.length sd, .slice dB b.da.length dd] ∧ ArrAt w' S' (.agg #[.bool b.ch, .slice sB b.sh.length sd, .slice dB b.da.length dd]) b) := fun _ _ => by subst hSe; rfl
  clear hVe hSe
  refine wp_region_inv (ChainInv (fun u0 u1 => u0.grownBy u1 (some (w.heap.size + 1))) V [12] St wC) (by kernel_rfl) (by kernel_rfl) (by kernel_rfl) ?start ?step ?fin
  case start => exact fun u => ChainInv.start hRel (Below.refl _ _).drew ((hS0 _ _).2 (HY6.out.drew))
  case step =>
    simp only [putAll, Act.put, List.setIfInBounds_toArray, List.set_cons_zero, List.set_cons_succ, Nat.reduceAdd, Nat.zero_add]
    intro i o ho done u wr hnd hdep hI K hK
    have hgr := hI.1
    have z7 := Box.grown HY7.out hgr (by intro e; injection e; omega)
    have z11 := Box.grown HY11.out hgr (by intro e; injection e; omega)
    have z12 := Box.grown HY12.out hgr (by intro e; injection e; omega)
    have z6 := hgr.size
    have p1 := z7.cell 1
    have p2 := z7.cell 2
    have p3 := z7.cell 3
    have b3 := z11.cell 3
    have b4 := z11.cell 4
    have b5 := z11.cell 5
    have b6 := z11.cell 6
    obtain ⟨c0, c1, c2⟩ := Box.three z12
    have zl7 := z7.lt
    have zl11 := z11.lt
    have zl12 := z12.lt
    simp at p1 p2 p3 b3 b4 b5 b6
    clear z7 z11 z12
    match i, ho with
    | 0, ho =>
      simp only [List.getElem?_cons_zero, Option.some.injEq] at ho
      subst ho
      simp only [Act.put, List.setIfInBounds_toArray, List.set_cons_zero, List.set_cons_succ] at hK
      refine wpOp_step rfl fun K' hK' => ?_
      go_simp
      exact hK' _ _ (hK _ _ (hI.quiet hRel hnd (by decide) hVm hSm (Below.refl _ _) ((hV0 _ _).2 rfl)))
    | 1, ho =>
      simp only [List.getElem?_cons_succ, List.getElem?_cons_zero, Option.some.injEq] at ho
      subst ho
      simp only [Act.put, List.setIfInBounds_toArray, List.set_cons_zero, List.set_cons_succ] at hK
      have e0 := (hV0 _ _).1 (hI.know (hdep ⟨0, .data⟩ (by simp) rfl))
      simp only [e0] at hK
      refine wpOp_step rfl fun K' hK' => ?_
      go_simp
      exact hK' _ _ (hK _ _ (hI.quiet hRel hnd (by decide) hVm hSm (Below.refl _ _) ((hV1 _ _).2 rfl)))
    | 2, ho =>
      simp only [List.getElem?_cons_succ, List.getElem?_cons_zero, Option.some.injEq] at ho
      subst ho
      simp only [Act.put, List.setIfInBounds_toArray, List.set_cons_zero, List.set_cons_succ] at hK
      refine wpOp_step rfl fun K' hK' => ?_
      go_simp
      exact hK' _ _ (hK _ _ (hI.quiet hRel hnd (by decide) hVm hSm (Below.refl _ _) ((hV2 _ _).2 rfl)))
    | 3, ho =>
      simp only [List.getElem?_cons_succ, List.getElem?_cons_zero, Option.some.injEq] at ho
      subst ho
      simp only [Act.put, List.setIfInBounds_toArray, List.set_cons_zero, List.set_cons_succ] at hK
      have e2 := (hV2 _ _).1 (hI.know (hdep ⟨2, .data⟩ (by simp) rfl))
      simp only [e2] at hK
      refine wpOp_step rfl fun K' hK' => ?_
      go_simp
      exact hK' _ _ (hK _ _ (hI.quiet hRel hnd (by decide) hVm hSm (Below.refl _ _) ((hV3 _ _).2 rfl)))
    | 4, ho =>
      simp only [List.getElem?_cons_succ, List.getElem?_cons_zero, Option.some.injEq] at ho
      subst ho
      simp only [Act.put, List.setIfInBounds_toArray, List.set_cons_zero, List.set_cons_succ] at hK
      have e3 := (hV3 _ _).1 (hI.know (hdep ⟨3, .data⟩ (by simp) rfl))
      simp only [e3] at hK
      refine wpOp_step rfl fun K' hK' => ?_
      go_simp
      exact hK' _ _ (hK _ _ (hI.quiet hRel hnd (by decide) hVm hSm (Below.refl _ _) ((hV4 _ _).2 rfl)))
    | 5, ho =>
      simp only [List.getElem?_cons_succ, List.getElem?_cons_zero, Option.some.injEq] at ho
      subst ho
      simp only [Act.put, List.setIfInBounds_toArray, List.set_cons_zero, List.set_cons_succ] at hK
      have e4 := (hV4 _ _).1 (hI.know (hdep ⟨4, .data⟩ (by simp) rfl))
      simp only [e4] at hK
      refine wpOp_step rfl fun K' hK' => ?_
      go_simp
      exact hK' _ _ (hK _ _ (hI.quiet hRel hnd (by decide) hVm hSm (Below.refl _ _) ((hV5 _ _).2 rfl)))
    | 6, ho =>
      simp only [List.getElem?_cons_succ, List.getElem?_cons_zero, Option.some.injEq] at ho
      subst ho
      simp only [Act.put, List.setIfInBounds_toArray, List.set_cons_zero, List.set_cons_succ] at hK
      refine wpOp_step rfl fun K' hK' => ?_
      go_simp
      exact hK' _ _ (hK _ _ (hI.quiet hRel hnd (by decide) hVm hSm (Below.refl _ _) ((hV6 _ _).2 rfl)))
    | 7, ho =>
      simp only [List.getElem?_cons_succ, List.getElem?_cons_zero, Option.some.injEq] at ho
      subst ho
      simp only [Act.put, List.setIfInBounds_toArray, List.set_cons_zero, List.set_cons_succ] at hK
      have e6 := (hV6 _ _).1 (hI.know (hdep ⟨6, .data⟩ (by simp) rfl))
      simp only [e6] at hK
      refine wpOp_step rfl fun K' hK' => ?_
      go_simp
      exact hK' _ _ (hK _ _ (hI.quiet hRel hnd (by decide) hVm hSm (Below.refl _ _) ((hV7 _ _).2 rfl)))
    | 8, ho =>
      simp only [List.getElem?_cons_succ, List.getElem?_cons_zero, Option.some.injEq] at ho
      subst ho
      simp only [Act.put, List.setIfInBounds_toArray, List.set_cons_zero, List.set_cons_succ] at hK
      have e1 := (hV1 _ _).1 (hI.know (hdep ⟨1, .data⟩ (by simp) rfl))
      have e5 := (hV5 _ _).1 (hI.know (hdep ⟨5, .data⟩ (by simp) rfl))
      have e7 := (hV7 _ _).1 (hI.know (hdep ⟨7, .data⟩ (by simp) rfl))
      simp only [e1, e5, e7] at hK
      refine wpOp_step rfl fun K' hK' => ?_
      go_simp
      refine (HA.out wr S' _ _ (HST.out.grown (grownBy_after HGC.out hgr (by omega)) hE20) (HV1C.out.grown hgr hS6) (HV2C.out.grown hgr hS6) (fun x hx => Nat.lt_of_lt_of_le (HEVC.out.2.2.2.2.1 x hx) hgr.size)).mono ?_
      rintro e w5 ⟨v', rfl, hv5, hb5⟩
      exact hK' _ _ (hK _ _ (hI.quiet hRel hnd (by decide) hVm hSm hb5 ((hV8 _ _).2 ⟨v', rfl, hv5⟩)))
    | 9, ho =>
      simp only [List.getElem?_cons_succ, List.getElem?_cons_zero, Option.some.injEq] at ho
      subst ho
      simp only [Act.put, List.setIfInBounds_toArray, List.set_cons_zero, List.set_cons_succ] at hK
      obtain ⟨x, e8, hx⟩ := (hV8 _ _).1 (hI.know (hdep ⟨8, .data⟩ (by simp) rfl))
      simp only [e8] at hK
      refine wpOp_step rfl fun K' hK' => ?_
      go_simp
      exact hK' _ _ (hK _ _ (hI.quiet hRel hnd (by decide) hVm hSm (Below.refl _ _) ((hV9 _ _).2 hx)))
    | 10, ho =>
      simp only [List.getElem?_cons_succ, List.getElem?_cons_zero, Option.some.injEq] at ho
      subst ho
      simp only [Act.put, List.setIfInBounds_toArray, List.set_cons_zero, List.set_cons_succ] at hK
      obtain ⟨x, e8, hx⟩ := (hV8 _ _).1 (hI.know (hdep ⟨8, .data⟩ (by simp) rfl))
      simp only [e8] at hK
      refine wpOp_step rfl fun K' hK' => ?_
      go_simp
      exact hK' _ _ (hK _ _ (hI.quiet hRel hnd (by decide) hVm hSm (Below.refl _ _) ((hV10 _ _).2 rfl)))
    | 11, ho =>
      simp only [List.getElem?_cons_succ, List.getElem?_cons_zero, Option.some.injEq] at ho
      subst ho
      simp only [Act.put, List.setIfInBounds_toArray, List.set_cons_zero, List.set_cons_succ] at hK
      have h9 := (hV9 _ _).1 (hI.know (hdep ⟨9, .data⟩ (by simp) rfl))
      obtain ⟨sB, sd, dB, dd, e9, -⟩ := id h9
      rw [e9] at h9
      have e10 := (hV10 _ _).1 (hI.know (hdep ⟨10, .data⟩ (by simp) rfl))
      simp only [e9, e10] at hK
      refine wpOp_step rfl fun K' hK' => ?_
      go_simp
      refine must_any.mono ?_
      rintro e w5 ⟨rfl, hb5⟩
      exact hK' _ _ (hK _ _ (hI.quiet hRel hnd (by decide) hVm hSm hb5 ((hV11 _ _).2 (h9.below hb5))))
    | 12, ho =>
      simp only [List.getElem?_cons_succ, List.getElem?_cons_zero, Option.some.injEq] at ho
      subst ho
      simp only [Act.put, List.setIfInBounds_toArray, List.set_cons_zero, List.set_cons_succ] at hK
      have h9 := (hV11 _ _).1 (hI.know (hdep ⟨11, .data⟩ (by simp) rfl))
      obtain ⟨sB, sd, dB, dd, e11, -⟩ := id h9
      rw [e11] at h9
      simp only [e11] at hK
      have hx6 := (hS0 _ _).1 (hI.at_ (k := 0) rfl hnd (.inl rfl))
      obtain ⟨d0, d1, d2⟩ := Box.three hx6
      have f0 := Box.frozen hx6 0
      have f1 := Box.frozen hx6 1
      have f2 := Box.frozen hx6 2
      have dl := hx6.lt
      refine wpOp_step rfl fun K' hK' => ?_
      go_simp
      have hg6 := grownBy_three wr (w.heap.size + 1) (.bool b.ch) (.slice sB b.sh.length sd) (.slice dB b.da.length dd)
      have hb6 : Box (((wr.setCell ⟨w.heap.size + 1, 0, none⟩ (.bool b.ch)).setCell ⟨w.heap.size + 1, 1, none⟩ (.slice sB b.sh.length sd)).setCell ⟨w.heap.size + 1, 2, none⟩ (.slice dB b.da.length dd)) (w.heap.size + 1) 25 #[.bool b.ch, .slice sB b.sh.length sd, .slice dB b.da.length dd] := by simpa using ((hx6.store 0 (.bool b.ch)).store 1 (.slice sB b.sh.length sd)).store 2 (.slice dB b.da.length dd)
      exact hK' _ _ (hK _ _ (hI.step (v := .nilIface) hRel (k := 0) rfl hnd (.inl rfl) (by decide) hVm (hg6) (hV12 _ _) ((hS1 _ _).2 (⟨sB, sd, dB, dd, hb6, h9.grown hg6 hS6⟩))))
    | i + 13, ho => simp at ho
  case fin =>
    simp only [putAll, Act.put, List.setIfInBounds_toArray, List.set_cons_zero, List.set_cons_succ, Nat.reduceAdd, Nat.zero_add]
    intro done u wr hd hI
    simp only [List.length_cons, List.length_nil, Nat.reduceAdd, Nat.zero_add] at hd
    have hS := (hS1 _ _).1 (hI.end_ (fun c hc => hd c (by simp at hc; omega)))
    obtain ⟨sB, sd, dB, dd, hb6, hv6⟩ := hS
    obtain ⟨d0, d1, d2⟩ := Box.three hb6
    have dl := hb6.lt
    have hg6 := hI.1
    go_wp2_with fail
    refine bodyPost_ret (v := .agg #[.bool b.ch, .slice sB b.sh.length sd, .slice dB b.da.length dd]) (by simp [results, Tryz.results99, go_sem, d0, d1, d2, dl]) rfl ?_
    exact ⟨_, rfl, hv6.wide (fun x h => .inl (HSI.out x h)), (HEVC.out.grown hg6 hS6 (by omega)).narrow HSI.out HSE.out, grownBy_after HGC.out hg6 (by omega)⟩

end Go.Proofs.YtihndbkaoejnnaaGreatDoor

namespace Go.Proofs.YtihndbkaoejnnaaGreatDoor
open Go Go.RowKit Go.Proofs.YtihndbkaoejnnaaGreatDoor.P


set_option maxRecDepth 100000 in
set_option maxHeartbeats 8000000 in
theorem v_nums {om : Option Env0} {bs : List Bd} {ns : List Nd} {at_ : Nat} {xs : List Int} (hx : ns[at_]? = some ⟨1, 0, 0, 0, 0, xs, ⟨#[]⟩⟩) (hl : xs.length ≤ 4096) : ValAt om bs ns at_ 1 (numsOf xs) := by
  intro w C E M f G g c S hst hev hnds hGE hom hdeep
  have hGE1 := hGE E hev.2.2.2.1
  have hlt : at_ < ns.length := (List.getElem?_eq_some_iff.1 hx).1
  obtain ⟨nA, nc, n0, n1, n2, n3, n4, n5, n6, n7, n8⟩ := hnds.2.2.2.2.2 at_ _ hx
  have hgM := hnds.1
  have hMs := hnds.2.1
  have hL390 := hnds.2.2.2.2.1
  have hLc := hnds.2.2.1
  have hgl : g < w.heap.size := by omega
  have hEl := hev.1.lt
  obtain ⟨L, hL⟩ : ∃ L, L = ns.length := ⟨_, rfl⟩
  rw [← hL] at hlt hL390 hLc ⊢
  simp only [] at n0 n1 n2 n3 n4 n5 n6
  have HN7 := Lib.hid n7
  have HN8 := Lib.hid n8
  have hb3 := below_three w (.cells #[.slice C.bA C.bn C.bc, .int .i64 C.at_, .int .i64 C.n, .pointer C.al, .bool C.ob, .slice C.oA C.on C.oc, .slice C.pA C.pn C.pc, .int .i64 C.deep, .pointer (some ⟨E, 0, none⟩)] 131) (.cells #[.bool false, .slice none 0 0, .slice none 0 0] 25) (.cells #[.int .i64 1, .int .i64 0, .int .i64 0, .int .i64 0, .int .i64 0, .slice nA xs.length nc, .string ⟨#[]⟩] 101)
  have x3 := ((Box.new w 131 #[.slice C.bA C.bn C.bc, .int .i64 C.at_, .int .i64 C.n, .pointer C.al, .bool C.ob, .slice C.oA C.on C.oc, .slice C.pA C.pn C.pc, .int .i64 C.deep, .pointer (some ⟨E, 0, none⟩)]).alloc (.cells #[.bool false, .slice none 0 0, .slice none 0 0] 25)).alloc (.cells #[.int .i64 1, .int .i64 0, .int .i64 0, .int .i64 0, .int .i64 0, .slice nA xs.length nc, .string ⟨#[]⟩] 101)
  have x6 := (Box.new (w.alloc (.cells #[.slice C.bA C.bn C.bc, .int .i64 C.at_, .int .i64 C.n, .pointer C.al, .bool C.ob, .slice C.oA C.on C.oc, .slice C.pA C.pn C.pc, .int .i64 C.deep, .pointer (some ⟨E, 0, none⟩)] 131)) 25 #[.bool false, .slice none 0 0, .slice none 0 0]).alloc (.cells #[.int .i64 1, .int .i64 0, .int .i64 0, .int .i64 0, .int .i64 0, .slice nA xs.length nc, .string ⟨#[]⟩] 101)
  have x7 := Box.new ((w.alloc (.cells #[.slice C.bA C.bn C.bc, .int .i64 C.at_, .int .i64 C.n, .pointer C.al, .bool C.ob, .slice C.oA C.on C.oc, .slice C.pA C.pn C.pc, .int .i64 C.deep, .pointer (some ⟨E, 0, none⟩)] 131)).alloc (.cells #[.bool false, .slice none 0 0, .slice none 0 0] 25)) 101 #[.int .i64 1, .int .i64 0, .int .i64 0, .int .i64 0, .int .i64 0, .slice nA xs.length nc, .string ⟨#[]⟩]
  obtain ⟨W, hW⟩ : ∃ W, W = ((w.alloc (.cells #[.slice C.bA C.bn C.bc, .int .i64 C.at_, .int .i64 C.n, .pointer C.al, .bool C.ob, .slice C.oA C.on C.oc, .slice C.pA C.pn C.pc, .int .i64 C.deep, .pointer (some ⟨E, 0, none⟩)] 131)).alloc (.cells #[.bool false, .slice none 0 0, .slice none 0 0] 25)).alloc (.cells #[.int .i64 1, .int .i64 0, .int .i64 0, .int .i64 0, .int .i64 0, .slice nA xs.length nc, .string ⟨#[]⟩] 101) := ⟨_, rfl⟩
  rw [← hW] at hb3 x3 x6 x7
  have hWs : W.heap.size = w.heap.size + 3 := by rw [hW]; simp
  simp only [World.size_alloc] at x6 x7
  have HSTEP := Lib.hid (step_any (hev.below hb3))
  have HB3 := Lib.hid hb3
  have HX3 := Lib.hid x3
  have HX6 := Lib.hid x6
  have HX7 := Lib.hid x7
  have HST := Lib.hid hst
  have HWS := Lib.hid hWs
  clear hnds hom n7 n8 hev hb3 x3 x6 x7 hWs hst hx hL
  go_enter Tryz.func68, Tryz.ntmps68
  go_wp2_with fail
  rw [← hW]
  clear n0 n1 n2 n3 n4 n5 n6 hW
  refine HSTEP.out.mono ?_
  rintro e w1 ⟨rfl, hev1, hg1⟩
  have y3 := Box.grown HX3.out hg1 (by intro e; injection e; omega)
  have y6 := Box.grown HX6.out hg1 (by intro e; injection e; omega)
  have y7 := Box.grown HX7.out hg1 (by intro e; injection e; omega)
  have o0 := y7.cell 0
  have o5 := y7.cell 5
  have o6 := y7.cell 6
  have o7l := y7.lt
  have HG1 := Lib.hid hg1
  have HEV1 := Lib.hid hev1
  have hWs := HWS.out
  have hs1 := hg1.size
  clear hev1 hg1
  simp at o0 o5 o6
  have hi1 : IsInts w1 (.slice nA xs.length nc) xs := (HN7.out.mono HB3.out).grown HG1.out (fun A n c e => by injection e with e1; have := HN8.out _ e1; omega)
  obtain ⟨a, ha⟩ : ∃ a, a = numsOf xs := ⟨_, rfl⟩
  have HNUM := Lib.hid (nums_any (w := w1) (S := S) HEV1.out.2.2.2.2.1 hi1 hl)
  rw [← ha] at HNUM
  have HA := Lib.hid ha
  clear hi1 ha
  go_wp2_with fail
  refine HNUM.out.mono ?_
  rintro e w2 ⟨v, rfl, hv, hb2⟩
  have y62 := y6.below hb2
  obtain ⟨d0, d1, d2⟩ := Box.three y62
  have f0 := Box.frozen y62 0
  have f1 := Box.frozen y62 1
  have f2 := Box.frozen y62 2
  have dl := y62.lt
  have HAR := Lib.hid hv
  have HEV2 := Lib.hid (HEV1.out.below hb2)
  have HGW := Lib.hid (grownBy_then (grownBy_trans (grownBy_of_below (row := some E) HB3.out (Nat.le_refl _)) HG1.out) hb2)
  obtain ⟨sA, sc, dA, dc, rfl, -⟩ := hv
  clear hb2 y3 y6 y7
  go_wp2_with fail
  refine bodyPost_ret (v := .agg #[.bool a.ch, .slice sA a.sh.length sc, .slice dA a.da.length dc]) (by simp [results, Tryz.results68, go_sem, d0, d1, d2, f0, f1, f2, dl]) rfl ?_
  have hg3 := grownBy_three w2 (w.heap.size + 1) (.bool a.ch) (.slice sA a.sh.length sc) (.slice dA a.da.length dc)
  refine ⟨_, rfl, (by rw [← HA.out]; exact ArrAt.off HAR.out hg3 y62), (HEV2.out).off hg3 y62 (by omega), grownBy_row HGW.out hg3 (fun k e => by injection e; omega)⟩


end Go.Proofs.YtihndbkaoejnnaaGreatDoor

namespace Go.Proofs.YtihndbkaoejnnaaGreatDoor
open Go Go.RowKit Go.Proofs.YtihndbkaoejnnaaGreatDoor.P

def Yes (w : World) (e : Ending) (w' : World) : Prop := e = .returned (.bool true) ∧ Below w.heap.size w w'

theorem scalar_yes {f : Int} (h : f = 1 ∨ f = 2 ∨ f = 3 ∨ f = 8) (w : World) : Calls Tryz.prog 165 #[.int .i64 f] w (Yes w) := by
  rcases h with rfl | rfl | rfl | rfl
  all_goals
    go_enter Tryz.func165, Tryz.ntmps165
    go_wp2_with fail
    go_ret
    exact ⟨rfl, by go_grown⟩

theorem known_plain {f : Int} (h : f = 18 ∨ f = 21 ∨ f = 24 ∨ f = 26 ∨ f = 28) (g : Int) (w : World) : Calls Tryz.prog 148 #[.agg #[.int .i64 0, .int .i64 f, .int .i64 g]] w (Yes w) := by
  rcases h with rfl | rfl | rfl | rfl | rfl
  all_goals
    go_enter Tryz.func148, Tryz.ntmps148
    go_wp2_with fail
    go_ret
    exact ⟨rfl, by go_grown⟩
theorem known_over {aop f : Int} (ha : aop = 1 ∨ aop = 2) (h : f = 1 ∨ f = 2 ∨ f = 3 ∨ f = 8) (g : Int) (w : World) : Calls Tryz.prog 148 #[.agg #[.int .i64 aop, .int .i64 f, .int .i64 g]] w (Yes w) := by
  have HS := fun W => scalar_yes h W
  rcases ha with rfl | rfl
  all_goals
    go_enter Tryz.func148, Tryz.ntmps148
    go_wp2_with fail
    refine (HS _).mono ?_
    rintro e w1 ⟨rfl, hb1⟩
    have hb := (below_one w (.cells #[.int .i64 _, .int .i64 f, .int .i64 g] 99)).trans (hb1.mono (by simp))
    clear hb1
    go_wp2_with fail
    go_ret
    exact ⟨rfl, hb⟩
theorem known_cells {f : Int} (h : f = 1 ∨ f = 2 ∨ f = 3 ∨ f = 8) (g : Int) (w : World) : Calls Tryz.prog 139 #[.agg #[.int .i64 0, .int .i64 f, .int .i64 g]] w (Yes w) := by
  have HS := fun W => scalar_yes h W
  rcases h with rfl | rfl | rfl | rfl
  all_goals
    go_enter Tryz.func139, Tryz.ntmps139
    go_wp2_with fail
    refine (HS _).mono ?_
    rintro e w1 ⟨rfl, hb1⟩
    have hb := (below_one w (.cells #[.int .i64 0, .int .i64 _, .int .i64 g] 99)).trans (hb1.mono (by simp))
    clear hb1
    go_wp2_with fail
    go_ret
    exact ⟨rfl, hb⟩
/-- The last axis. -/
theorem last_any {w : World} {b : Bool} {sA dA : Option Addr} {n sc m dc : Nat} (hn : n = 0 ∨ n = 1 ∨ n = 2) : Calls Tryz.prog 143 #[.agg #[.bool b, .slice sA n sc, .slice dA m dc]] w fun e w' => e = .returned (.tuple #[.int .i64 ((n : Int) - 1), .bool (decide (0 < n))]) ∧ Below w.heap.size w w' := by
  have hbw := below_one w (.cells #[.bool b, .slice sA n sc, .slice dA m dc] 25)
  rcases hn with rfl | rfl | rfl
  all_goals
    go_enter Tryz.func143, Tryz.ntmps143
    go_wp2_with fail
    go_quiet (fail)
    all_goals go_wp2_with fail
    go_ret2
    exact ⟨rfl, hbw.trans (below_draws _ _ _)⟩

/-- A number. -/
theorem numberP_any {w : World} {sA dA : Option Addr} {sc dc : Nat} {x : Int} (h : IsInts w (.slice dA 1 dc) [x]) : Calls Tryz.prog 142 #[.agg #[.bool false, .slice sA 0 sc, .slice dA 1 dc]] w fun e w' => e = .returned (.tuple #[.int .i64 x, .nilIface]) ∧ Below w.heap.size w w' := by
  have hbw := below_one w (.cells #[.bool false, .slice sA 0 sc, .slice dA 1 dc] 25)
  obtain ⟨A', c', e, h1, h2, h3, h5, h4⟩ := h
  injection e with e1 e2 e3
  subst e1 e3
  clear e2
  obtain ⟨ad, rfl, hal, hcv⟩ := h4 0 x rfl
  rw [addr_zero] at hcv
  have hcs := (hbw.cell (p := ad) hal).trans hcv
  clear h1 h2 h3 h4 h5 hcv
  go_enter Tryz.func142, Tryz.ntmps142
  go_wp2_with fail
  go_ret2
  exact ⟨rfl, hbw⟩

end Go.Proofs.YtihndbkaoejnnaaGreatDoor

namespace Go.Proofs.YtihndbkaoejnnaaGreatDoor
open Go Go.RowKit Go.Proofs.YtihndbkaoejnnaaGreatDoor.P

set_option maxRecDepth 100000 in
set_option maxHeartbeats 8000000 in
theorem acted_one {om : Option Env0} {bs : List Bd} {ns : List Nd} {at_ k : Nat} {aop af ag n : Int} {a b : Arr} (hx : ns[at_]? = some ⟨6, aop, af, ag, n, [], ⟨#[]⟩⟩) (h6 : aop ≠ 6) (h7 : aop ≠ 7) (hV : ValAt om bs ns (at_ + 1) k a) (hA : ActOne aop af ag a b) : ActedAt om bs ns at_ (k + 1) b := by
  intro w C E M f G g c S hst hev hnds hGE hom hdeep
  have hdeep60 := hdeep.1
  have hlt : at_ < ns.length := (List.getElem?_eq_some_iff.1 hx).1
  obtain ⟨nA, nc, n0, n1, n2, n3, n4, n5, n6, n7, n8⟩ := hnds.2.2.2.2.2 at_ _ hx
  have hgM := hnds.1
  have hMs := hnds.2.1
  have hL390 := hnds.2.2.2.2.1
  have hLc := hnds.2.2.1
  have hgl : g < w.heap.size := by omega
  have hEl := hev.1.lt
  have hE20 : 6 ≤ E := by have := hev.2.1; have := hev.2.2.1; omega
  have e6 : (aop == 6) = false := by simpa using h6
  have e7 : (aop == 7) = false := by simpa using h7
  simp only [] at n0 n1 n2 n3 n4 n5 n6
  obtain ⟨L, hL⟩ : ∃ L, L = ns.length := ⟨_, rfl⟩
  rw [← hL] at hlt hL390 hLc
  have hb4 : Below w.heap.size w ((((w.alloc (.cells #[.slice C.bA C.bn C.bc, .int .i64 C.at_, .int .i64 C.n, .pointer C.al, .bool C.ob, .slice C.oA C.on C.oc, .slice C.pA C.pn C.pc, .int .i64 C.deep, .pointer (some ⟨E, 0, none⟩)] 131)).alloc (.cells #[.bool false, .slice none 0 0, .slice none 0 0] 25)).alloc (.cells #[.int .i64 6, .int .i64 aop, .int .i64 af, .int .i64 ag, .int .i64 n, .slice nA 0 nc, .string ⟨#[]⟩] 101)).alloc (.cells #[.slice (some ⟨g, 0, none⟩) L c, .int .i64 ((at_ : Int) + 1), .int .i64 n, .pointer none, .bool false, .slice none 0 0, .slice none 0 0, .int .i64 ((C.deep : Int) + 1), .pointer (some ⟨E, 0, none⟩)] 131)) := (below_three w _ _ _).alloc (by simp; omega) _
  have x6 := ((Box.new (w.alloc (.cells #[.slice C.bA C.bn C.bc, .int .i64 C.at_, .int .i64 C.n, .pointer C.al, .bool C.ob, .slice C.oA C.on C.oc, .slice C.pA C.pn C.pc, .int .i64 C.deep, .pointer (some ⟨E, 0, none⟩)] 131)) 25 #[.bool false, .slice none 0 0, .slice none 0 0]).alloc (.cells #[.int .i64 6, .int .i64 aop, .int .i64 af, .int .i64 ag, .int .i64 n, .slice nA 0 nc, .string ⟨#[]⟩] 101)).alloc (.cells #[.slice (some ⟨g, 0, none⟩) L c, .int .i64 ((at_ : Int) + 1), .int .i64 n, .pointer none, .bool false, .slice none 0 0, .slice none 0 0, .int .i64 ((C.deep : Int) + 1), .pointer (some ⟨E, 0, none⟩)] 131)
  have x3 := (((Box.new w 131 #[.slice C.bA C.bn C.bc, .int .i64 C.at_, .int .i64 C.n, .pointer C.al, .bool C.ob, .slice C.oA C.on C.oc, .slice C.pA C.pn C.pc, .int .i64 C.deep, .pointer (some ⟨E, 0, none⟩)]).alloc (.cells #[.bool false, .slice none 0 0, .slice none 0 0] 25)).alloc (.cells #[.int .i64 6, .int .i64 aop, .int .i64 af, .int .i64 ag, .int .i64 n, .slice nA 0 nc, .string ⟨#[]⟩] 101)).alloc (.cells #[.slice (some ⟨g, 0, none⟩) L c, .int .i64 ((at_ : Int) + 1), .int .i64 n, .pointer none, .bool false, .slice none 0 0, .slice none 0 0, .int .i64 ((C.deep : Int) + 1), .pointer (some ⟨E, 0, none⟩)] 131)
  have x7 := (Box.new ((w.alloc (.cells #[.slice C.bA C.bn C.bc, .int .i64 C.at_, .int .i64 C.n, .pointer C.al, .bool C.ob, .slice C.oA C.on C.oc, .slice C.pA C.pn C.pc, .int .i64 C.deep, .pointer (some ⟨E, 0, none⟩)] 131)).alloc (.cells #[.bool false, .slice none 0 0, .slice none 0 0] 25)) 101 #[.int .i64 6, .int .i64 aop, .int .i64 af, .int .i64 ag, .int .i64 n, .slice nA 0 nc, .string ⟨#[]⟩]).alloc (.cells #[.slice (some ⟨g, 0, none⟩) L c, .int .i64 ((at_ : Int) + 1), .int .i64 n, .pointer none, .bool false, .slice none 0 0, .slice none 0 0, .int .i64 ((C.deep : Int) + 1), .pointer (some ⟨E, 0, none⟩)] 131)
  have x11 := Box.new (((w.alloc (.cells #[.slice C.bA C.bn C.bc, .int .i64 C.at_, .int .i64 C.n, .pointer C.al, .bool C.ob, .slice C.oA C.on C.oc, .slice C.pA C.pn C.pc, .int .i64 C.deep, .pointer (some ⟨E, 0, none⟩)] 131)).alloc (.cells #[.bool false, .slice none 0 0, .slice none 0 0] 25)).alloc (.cells #[.int .i64 6, .int .i64 aop, .int .i64 af, .int .i64 ag, .int .i64 n, .slice nA 0 nc, .string ⟨#[]⟩] 101)) 131 #[.slice (some ⟨g, 0, none⟩) L c, .int .i64 ((at_ : Int) + 1), .int .i64 n, .pointer none, .bool false, .slice none 0 0, .slice none 0 0, .int .i64 ((C.deep : Int) + 1), .pointer (some ⟨E, 0, none⟩)]
  obtain ⟨W, hW⟩ : ∃ W, W = (((w.alloc (.cells #[.slice C.bA C.bn C.bc, .int .i64 C.at_, .int .i64 C.n, .pointer C.al, .bool C.ob, .slice C.oA C.on C.oc, .slice C.pA C.pn C.pc, .int .i64 C.deep, .pointer (some ⟨E, 0, none⟩)] 131)).alloc (.cells #[.bool false, .slice none 0 0, .slice none 0 0] 25)).alloc (.cells #[.int .i64 6, .int .i64 aop, .int .i64 af, .int .i64 ag, .int .i64 n, .slice nA 0 nc, .string ⟨#[]⟩] 101)).alloc (.cells #[.slice (some ⟨g, 0, none⟩) L c, .int .i64 ((at_ : Int) + 1), .int .i64 n, .pointer none, .bool false, .slice none 0 0, .slice none 0 0, .int .i64 ((C.deep : Int) + 1), .pointer (some ⟨E, 0, none⟩)] 131) := ⟨_, rfl⟩
  rw [← hW] at hb4 x3 x6 x7 x11
  have hWs : W.heap.size = w.heap.size + 4 := by rw [hW]; simp
  simp only [World.size_alloc] at x6 x7 x11
  obtain ⟨S', hS'⟩ : ∃ S' : Nat → Prop, S' = fun b => S b ∨ (w.heap.size ≤ b ∧ b < W.heap.size) := ⟨_, rfl⟩
  have hSi : ∀ b, S b → S' b := fun b h => by rw [hS']; exact .inl h
  have hSn : ∀ b, w.heap.size ≤ b → b < w.heap.size + 4 → S' b := fun b h1 h2 => by rw [hS']; exact .inr ⟨h1, by omega⟩
  have hSo : ∀ b, S' b → S b ∨ (w.heap.size ≤ b ∧ b < W.heap.size) := fun b h => by rw [hS'] at h; exact h
  have hSE : S E := hev.2.2.2.1
  have hevW : EvAt W E M S' bs (f + 1 + k) := by
    have := hev
    rw [show f + (k + 1) = f + 1 + k by omega] at this
    exact this.wide hb4 hSo (hSi _ hSE)
  have HCALL := Lib.hid (hV W C E M (f + 1) G g c S' (hst.below hb4) hevW (hnds.below hb4) (fun b h => (hSo b h).elim (hGE b) (fun h => Nat.le_trans hMs h.1)) (hom.wide hb4 (fun b h => (hSo b h).imp id (fun h => h.1))) hdeep)
  rw [← hL] at HCALL ⊢
  have HB4 := Lib.hid hb4
  have HX3 := Lib.hid x3
  have HX6 := Lib.hid x6
  have HX7 := Lib.hid x7
  have HX11 := Lib.hid x11
  have HST := Lib.hid hst
  have HWS := Lib.hid hWs
  have HSN := Lib.hid hSn
  have HSI := Lib.hid hSi
  have HSE := Lib.hid hSE
  have HA := Lib.hid hA
  clear hnds hom n7 n8 hev hevW hb4 x3 x6 x7 x11 hWs hst hx hL h6 h7 hV hA hS' hSi hSn hSo hSE
  go_enter Tryz.func99, Tryz.ntmps99
  go_wp2_with fail
  rw [← hW]
  clear n0 n1 n2 n3 n4 n5 n6 hW
  refine HCALL.out.mono ?_
  rintro e w1 ⟨v, rfl, hv, hev1, hg1⟩
  have y7 := Box.grown HX7.out hg1 (by intro e; injection e; omega)
  have y11 := Box.grown HX11.out hg1 (by intro e; injection e; omega)
  have y3 := Box.grown HX3.out hg1 (by intro e; injection e; omega)
  have y6 := Box.grown HX6.out hg1 (by intro e; injection e; omega)
  obtain ⟨sA, sc, dA, dc, hve, -⟩ := id hv
  subst hve
  have d4 := y11.cell 4
  have d5 := y11.cell 5
  have d6 := y11.cell 6
  have f4 := Box.frozen y11 4
  have f5 := Box.frozen y11 5
  have f6 := Box.frozen y11 6
  have l11 := y11.lt
  have l7 := y7.lt
  have l3 := y3.lt
  have o0 := y7.cell 0
  have o8 := y3.cell 8
  have hg2 := grownBy_456 w1 (w.heap.size + 1 + 1 + 1) (.bool a.ch) (.slice sA a.sh.length sc) (.slice dA a.da.length dc)
  have hs1 := hg1.size
  have hWs := HWS.out
  have hS11 : S' (w.heap.size + 1 + 1 + 1) := HSN.out _ (by omega) (by omega)
  have hS6 : S' (w.heap.size + 1) := HSN.out _ (by omega) (by omega)
  have HV2 := Lib.hid (hv.grown hg2 hS11)
  have HEV2 := Lib.hid (hev1.grown hg2 hS11 (by omega))
  have HST2 := Lib.hid (step_any HEV2.out)
  have HG2 := Lib.hid (grownBy_after (grownBy_trans (grownBy_of_below (row := some E) HB4.out (Nat.le_refl _)) hg1) hg2 (by omega))
  have Z7 := Lib.hid (Box.grown y7 hg2 (by intro e; injection e; omega))
  have Z3 := Lib.hid (Box.grown y3 hg2 (by intro e; injection e; omega))
  have Z6 := Lib.hid (Box.grown y6 hg2 (by intro e; injection e; omega))
  have Z11 := Lib.hid ((((y11.store 4 (.bool a.ch)).store 5 (.slice sA a.sh.length sc)).store 6 (.slice dA a.da.length dc)))
  clear hv hev1 hg1 hg2 y7 y11 y3 y6
  simp at d4 d5 d6 o0 o8
  go_wp2_with fail
  refine HST2.out.mono ?_
  rintro e w3 ⟨rfl, hev3, hg3⟩
  have y7 := Box.grown Z7.out hg3 (by intro e; injection e; omega)
  have y6 := Box.grown Z6.out hg3 (by intro e; injection e; omega)
  have y11 := Box.grown Z11.out hg3 (by intro e; injection e; omega)
  simp at y11
  have q0 := y7.cell 0
  have q1 := y7.cell 1
  have q2 := y7.cell 2
  have q3 := y7.cell 3
  have q4 := y7.cell 4
  have r4 := y11.cell 4
  have r5 := y11.cell 5
  have r6 := y11.cell 6
  have m7 := y7.lt
  have m11 := y11.lt
  have HG3 := Lib.hid (grownBy_trans HG2.out hg3)
  have HEV3 := Lib.hid hev3
  have HONE := Lib.hid (HA.out w3 S' _ (HST.out.grown HG3.out hE20) (HV2.out.grown hg3 HEV2.out.2.2.2.1) hev3.2.2.2.2.1)
  have Y6 := Lib.hid y6
  simp at q0 q1 q2 q3 q4 r4 r5 r6
  clear hev3 hg3 y7 y6 y11 d4 d5 d6 f4 f5 f6 o0 o8 l11 l7 l3
  go_wp2_with fail
  refine HONE.out.mono ?_
  rintro e w4 ⟨v', rfl, hv4, hb4⟩
  obtain ⟨sB, sd, dB, dd, hve, -⟩ := id hv4
  subst hve
  have HV4 := Lib.hid hv4
  have HB34 := Lib.hid hb4
  clear hv4 hb4 q0 q1 q2 q3 q4 r4 r5 r6 m7 m11
  go_wp2_with fail
  refine must_any.mono ?_
  rintro e w5 ⟨rfl, hb5⟩
  have hb35 := HB34.out.trans (hb5.mono HB34.out.size)
  have y6 := Y6.out.below hb35
  obtain ⟨d0, d1, d2⟩ := Box.three y6
  have f0 := Box.frozen y6 0
  have f1 := Box.frozen y6 1
  have f2 := Box.frozen y6 2
  have dl := y6.lt
  have HV5 := Lib.hid (HV4.out.below hb5)
  have HEV5 := Lib.hid (HEV3.out.below hb35)
  have HG5 := Lib.hid (grownBy_then HG3.out hb35)
  have Y5 := Lib.hid y6
  clear hb5 hb35 y6
  go_wp2_with fail
  refine bodyPost_ret (v := .agg #[.bool b.ch, .slice sB b.sh.length sd, .slice dB b.da.length dd]) (by simp [results, Tryz.results99, go_sem, d0, d1, d2, f0, f1, f2, dl]) rfl ?_
  have hg6 := grownBy_three w5 (w.heap.size + 1) (.bool b.ch) (.slice sB b.sh.length sd) (.slice dB b.da.length dd)
  exact ⟨_, rfl, (HV5.out.grown hg6 hS6).wide (fun x h => .inl (HSI.out x h)), (HEV5.out.grown hg6 hS6 (by omega)).narrow HSI.out HSE.out, grownBy_after HG5.out hg6 (by omega)⟩

end Go.Proofs.YtihndbkaoejnnaaGreatDoor

namespace Go.Proofs.YtihndbkaoejnnaaGreatDoor
open Go Go.RowKit Go.Proofs.YtihndbkaoejnnaaGreatDoor.P

theorem vals_prodf {bs : List Bd} {v0 r3 r1 r0 : Arr} (ns : List Nd) (t0 : ns[0]? = some ⟨6, 1, 3, 0, 0, [], ⟨#[]⟩⟩) (t1 : ns[1]? = some ⟨7, 0, 1, 0, 0, [], ⟨#[]⟩⟩) (t2 : ns[2]? = some ⟨1, 0, 0, 0, 0, [1], ⟨#[]⟩⟩) (t3 : ns[3]? = some ⟨6, 0, 24, 0, 0, [], ⟨#[]⟩⟩) (t4 : ns[4]? = some ⟨3, 0, 0, 0, 0, [], ⟨#[110]⟩⟩) (hv0 : ∃ i, bs[i]? = some (⟨#[110]⟩, v0) ∧ ∀ x ∈ bs.take i, x.1 ≠ ⟨#[110]⟩) (a3 : ActOne 0 24 0 v0 r3) (a1 : ActTwo 0 1 0 (⟨false, [], [1]⟩ : Arr) r3 r1) (a0 : ActOne 1 3 0 r1 r0) : ValAt none bs ns 0 5 r0 := by
  have e_1 : ValAt none bs ns 2 1 (⟨false, [], [1]⟩ : Arr) := v_nums t2 (by decide)
  have e_2 : ValAt none bs ns 4 1 v0 := v_var t4 hv0
  have e_3 : ValAt none bs ns 3 2 r3 := v_one t3 (acted_one t3 (by decide) (by decide) e_2 a3)
  have e_4 : ValAt none bs ns 1 4 r1 := v_two t1 (acted_two (m := 3) t1 (by decide) (by decide) (.node t2 (e := 0) (by decide) (by decide) (by decide) (by decide) (.done 3)) (by decide) e_3 e_1 a1)
  have e_5 : ValAt none bs ns 0 5 r0 := v_one t0 (acted_one t0 (by decide) (by decide) e_4 a0)
  exact e_5
theorem val_prodf {bs : List Bd} {v0 r3 r1 r0 : Arr} (hv0 : ∃ i, bs[i]? = some (⟨#[110]⟩, v0) ∧ ∀ x ∈ bs.take i, x.1 ≠ ⟨#[110]⟩) (a3 : ActOne 0 24 0 v0 r3) (a1 : ActTwo 0 1 0 (⟨false, [], [1]⟩ : Arr) r3 r1) (a0 : ActOne 1 3 0 r1 r0) : ValAt none bs nodes_prodf 0 5 r0 := vals_prodf nodes_prodf rfl rfl rfl rfl rfl hv0 a3 a1 a0

end Go.Proofs.YtihndbkaoejnnaaGreatDoor
