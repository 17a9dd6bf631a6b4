/- The walks of seek.Meet and seek.Without where something is wrong. Conditions: none. -/
import Derived.Test.YtlkeipgpckkhbaaDoorPairBad
import Derived.Test.YtlkeipgpckkhbaaDoorMeetWalk
import Derived.Laws.EntriesVeiled
namespace Go.Proofs.YtlkeipgpckkhbaaDoor
open Go Go.RowKit Go.Proofs.YtlkeipgpckkhbaaDoor.P

set_option maxRecDepth 100000 in
set_option maxHeartbeats 1000000 in
theorem meet_bad {va vb : Value} {a b : Arr} {w : World} (ha : IsArr w va a) (hb : IsArr w vb b) (h : pairErr a b ≠ 0) :
    Calls Tryd.prog 15 #[va, vb] w (Fails zeroArr (pairErr a b) w) := by
  obtain ⟨A, ca, D, cd, rfl, hs, hd⟩ := ha.open_
  obtain ⟨A', ca', D', cd', rfl, hs', hd'⟩ := hb.open_
  have H := Lib.hid h
  clear h hs hd hs' hd'
  have bA0 := ((Box.new w 24 #[.bool a.ch, .slice A a.sh.length ca, .slice D a.da.length cd]).alloc (.cells #[.bool b.ch, .slice A' b.sh.length ca', .slice D' b.da.length cd'] 24)).alloc (.cells #[.bool false, .slice none 0 0, .slice none 0 0] 24)
  have bB0 := (Box.new (w.alloc (.cells #[.bool a.ch, .slice A a.sh.length ca, .slice D a.da.length cd] 24)) 24 #[.bool b.ch, .slice A' b.sh.length ca', .slice D' b.da.length cd']).alloc (.cells #[.bool false, .slice none 0 0, .slice none 0 0] 24)
  have bR0 := Box.new ((w.alloc (.cells #[.bool a.ch, .slice A a.sh.length ca, .slice D a.da.length cd] 24)).alloc (.cells #[.bool b.ch, .slice A' b.sh.length ca', .slice D' b.da.length cd'] 24)) 24 #[.bool false, .slice none 0 0, .slice none 0 0]
  simp only [World.size_alloc] at bB0 bR0
  have hb0 := below_three w (.cells #[.bool a.ch, .slice A a.sh.length ca, .slice D a.da.length cd] 24) (.cells #[.bool b.ch, .slice A' b.sh.length ca', .slice D' b.da.length cd'] 24) (.cells #[.bool false, .slice none 0 0, .slice none 0 0] 24)
  obtain ⟨t0, t1, t2⟩ := bA0.three
  obtain ⟨u0, u1, u2⟩ := bB0.three
  go_enter Tryd.func15, Tryd.ntmps15
  go_wp2_with fail
  refine (pair_bad (ha.mono hb0) (hb.mono hb0) H.out).mono ?_
  rintro e w1 ⟨rfl, hb1⟩
  have b1 := bR0.below hb1
  have hbw := hb0.trans (hb1.mono hb0.size)
  obtain ⟨q0, q1, q2⟩ := b1.three
  have f1 := b1.frozen
  have hz := b1.lt
  clear bR0 bA0 bB0 t0 t1 t2 u0 u1 u2 hb1
  go_wp2_with fail
  refine bodyPost_ret (v := .tuple #[zeroArr, .iface 25 (.int .i64 (pairErr a b))]) (by simp [results, Tryd.results15, go_sem, q0, q1, q2, hz]) rfl ?_
  exact ⟨rfl, by have := hbw.size; go_grown⟩

set_option maxRecDepth 100000 in
set_option maxHeartbeats 1000000 in
theorem without_bad {va vb : Value} {a b : Arr} {w : World} (ha : IsArr w va a) (hb : IsArr w vb b) (h : pairErr a b ≠ 0) :
    Calls Tryd.prog 14 #[va, vb] w (Fails zeroArr (pairErr a b) w) := by
  obtain ⟨A, ca, D, cd, rfl, hs, hd⟩ := ha.open_
  obtain ⟨A', ca', D', cd', rfl, hs', hd'⟩ := hb.open_
  have H := Lib.hid h
  clear h hs hd hs' hd'
  have bA0 := ((Box.new w 24 #[.bool a.ch, .slice A a.sh.length ca, .slice D a.da.length cd]).alloc (.cells #[.bool b.ch, .slice A' b.sh.length ca', .slice D' b.da.length cd'] 24)).alloc (.cells #[.bool false, .slice none 0 0, .slice none 0 0] 24)
  have bB0 := (Box.new (w.alloc (.cells #[.bool a.ch, .slice A a.sh.length ca, .slice D a.da.length cd] 24)) 24 #[.bool b.ch, .slice A' b.sh.length ca', .slice D' b.da.length cd']).alloc (.cells #[.bool false, .slice none 0 0, .slice none 0 0] 24)
  have bR0 := Box.new ((w.alloc (.cells #[.bool a.ch, .slice A a.sh.length ca, .slice D a.da.length cd] 24)).alloc (.cells #[.bool b.ch, .slice A' b.sh.length ca', .slice D' b.da.length cd'] 24)) 24 #[.bool false, .slice none 0 0, .slice none 0 0]
  simp only [World.size_alloc] at bB0 bR0
  have hb0 := below_three w (.cells #[.bool a.ch, .slice A a.sh.length ca, .slice D a.da.length cd] 24) (.cells #[.bool b.ch, .slice A' b.sh.length ca', .slice D' b.da.length cd'] 24) (.cells #[.bool false, .slice none 0 0, .slice none 0 0] 24)
  obtain ⟨t0, t1, t2⟩ := bA0.three
  obtain ⟨u0, u1, u2⟩ := bB0.three
  go_enter Tryd.func14, Tryd.ntmps14
  go_wp2_with fail
  refine (pair_bad (ha.mono hb0) (hb.mono hb0) H.out).mono ?_
  rintro e w1 ⟨rfl, hb1⟩
  have b1 := bR0.below hb1
  have hbw := hb0.trans (hb1.mono hb0.size)
  obtain ⟨q0, q1, q2⟩ := b1.three
  have f1 := b1.frozen
  have hz := b1.lt
  clear bR0 bA0 bB0 t0 t1 t2 u0 u1 u2 hb1
  go_wp2_with fail
  refine bodyPost_ret (v := .tuple #[zeroArr, .iface 25 (.int .i64 (pairErr a b))]) (by simp [results, Tryd.results14, go_sem, q0, q1, q2, hz]) rfl ?_
  exact ⟨rfl, by have := hbw.size; go_grown⟩

end Go.Proofs.YtlkeipgpckkhbaaDoor
