/- The walks of seek.pair, Nub, Without, Meet. Conditions: none. -/
import Derived.Test.YtlkeipgpckkhbaaDoorSeekFn
import Derived.Test.YtlkeipgpckkhbaaDoorPair
import Derived.Test.YtlkeipgpckkhbaaDoorStore
import Derived.Test.YtlkeipgpckkhbaaDoorMore
namespace Go.Proofs.YtlkeipgpckkhbaaDoor
open Go Go.RowKit Go.Proofs.YtlkeipgpckkhbaaDoor.P

/-- A call tells the function that asks whether b has a cell of a's kind. -/
def GivesFn (a b : Arr) (w : World) (e : Ending) (w' : World) : Prop :=
  ∃ (g0 ga gb g : Nat) (a1 a2 b1 b2 : Value), e = .returned (.tuple #[.func (.func 49) #[] #[.pointer (some ⟨g0, 0, none⟩), .pointer (some ⟨ga, 0, none⟩), .pointer (some ⟨gb, 0, none⟩)], .nilIface]) ∧
    Box w' g0 54 #[.map (some g)] ∧ Box w' ga 24 #[.bool a.ch, a1, a2] ∧ Box w' gb 24 #[.bool b.ch, b1, b2] ∧ FirstsAt w' g b.da ∧ Below w.heap.size w w'

set_option maxRecDepth 100000 in
set_option maxHeartbeats 1000000 in
theorem pair_ok {va vb : Value} {a b : Arr} {w : World} (ha : IsArr w va a) (hb : IsArr w vb b) (hw : Wf b.da) (h : pairErr a b = 0) :
    Calls Tryd.prog 35 #[va, vb] w (GivesFn a b w) := by
  obtain ⟨A, ca, D, cd, rfl, hs, hd⟩ := ha.open_
  obtain ⟨A', ca', D', cd', rfl, hs', hd'⟩ := hb.open_
  obtain ⟨s, t, hsO, htO, h1, h2⟩ := pairErr_zero h
  have hl := ok_da_le htO
  have H2 := Lib.hid (twoErr_ok hsO htO)
  have e1 : ((a.sh.length : Int) != 1) = false := by simp; omega
  have e2 : ((b.sh.length : Int) != 1) = false := by simp; omega
  have HW := Lib.hid hw
  clear h hsO htO h1 h2 hw hs hs' hd hd'
  have bA0 := (Box.new w 24 #[.bool a.ch, .slice A a.sh.length ca, .slice D a.da.length cd]).alloc (.cells #[.bool b.ch, .slice A' b.sh.length ca', .slice D' b.da.length cd'] 24)
  have bB0 := Box.new (w.alloc (.cells #[.bool a.ch, .slice A a.sh.length ca, .slice D a.da.length cd] 24)) 24 #[.bool b.ch, .slice A' b.sh.length ca', .slice D' b.da.length cd']
  rw [World.size_alloc] at bB0
  go_enter Tryd.func35, Tryd.ntmps35
  go_wp2_with fail
  refine (scheck_any (ha.mono (below_two _ _ _)) (hb.mono (below_two _ _ _))).mono ?_
  rintro e w1 ⟨rfl, hb1⟩
  rw [H2.out]
  have bA1 := bA0.below hb1
  have bB1 := bB0.below hb1
  have hbw := (below_two w _ _).trans (hb1.mono (below_two w _ _).size)
  obtain ⟨t0, t1, t2⟩ := bA1.three
  obtain ⟨u0, u1, u2⟩ := bB1.three
  clear hb1 bA0 bB0
  rw [errV_zero]
  go_wp2_with fail
  refine (firsts_any (hb.mono hbw) HW.out hl).mono ?_
  rintro e w2 ⟨g, rfl, hg, hf, hb2⟩
  have bA2 := bA1.below hb2
  have bB2 := bB1.below hb2
  have hbw2 := hbw.trans (hb2.mono hbw.size)
  have bM := Box.new w2 54 #[.map (some g)]
  clear hb2 bA1 bB1 t0 t1 t2 u0 u1 u2
  go_wp2_with fail
  go_ret2
  exact ⟨w2.heap.size, w.heap.size, w.heap.size + 1, g, _, _, _, _, rfl, bM, bA2.alloc _, bB2.alloc _, hf.mono (below_one _ _), hbw2.alloc hbw2.size _⟩

end Go.Proofs.YtlkeipgpckkhbaaDoor
