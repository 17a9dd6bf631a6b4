/- The walks of seek.In and seek.Index where an array is no array. Conditions: none. -/
import Derived.Test.YtfecokkgdojcdaaDoorMeetBad
namespace Go.Proofs.YtfecokkgdojcdaaDoor
open Go Go.RowKit Go.Proofs.YtfecokkgdojcdaaDoor.P

set_option maxRecDepth 100000 in
set_option maxHeartbeats 1000000 in
theorem in_bad {va vb : Value} {a b : Arr} {w : World} (ha : IsArr w va a) (hb : IsArr w vb b) (h : twoErr a b ≠ 0) :
    Calls Tryd.prog 17 #[va, vb] w (Fails zeroArr (twoErr a b) w) := by
  obtain ⟨A, ca, D, cd, rfl, hs, hd⟩ := ha.open_
  obtain ⟨A', ca', D', cd', rfl, hs', hd'⟩ := hb.open_
  have HE := errV_ne h
  clear h hs hd hs' hd'
  have bA0 := ((Box.new w 24 #[.bool a.ch, .slice A a.sh.length ca, .slice D a.da.length cd]).alloc (.cells #[.bool b.ch, .slice A' b.sh.length ca', .slice D' b.da.length cd'] 24)).alloc (.cells #[.bool false, .slice none 0 0, .slice none 0 0] 24)
  have bB0 := (Box.new (w.alloc (.cells #[.bool a.ch, .slice A a.sh.length ca, .slice D a.da.length cd] 24)) 24 #[.bool b.ch, .slice A' b.sh.length ca', .slice D' b.da.length cd']).alloc (.cells #[.bool false, .slice none 0 0, .slice none 0 0] 24)
  have bR0 := Box.new ((w.alloc (.cells #[.bool a.ch, .slice A a.sh.length ca, .slice D a.da.length cd] 24)).alloc (.cells #[.bool b.ch, .slice A' b.sh.length ca', .slice D' b.da.length cd'] 24)) 24 #[.bool false, .slice none 0 0, .slice none 0 0]
  simp only [World.size_alloc] at bB0 bR0
  have hb0 := below_three w (.cells #[.bool a.ch, .slice A a.sh.length ca, .slice D a.da.length cd] 24) (.cells #[.bool b.ch, .slice A' b.sh.length ca', .slice D' b.da.length cd'] 24) (.cells #[.bool false, .slice none 0 0, .slice none 0 0] 24)
  obtain ⟨t0, t1, t2⟩ := bA0.three
  obtain ⟨u0, u1, u2⟩ := bB0.three
  go_enter Tryd.func17, Tryd.ntmps17
  go_wp2_with fail
  refine (scheck_any (ha.mono hb0) (hb.mono hb0)).mono ?_
  rintro e w1 ⟨rfl, hb1⟩
  rw [HE]
  have b1 := bR0.below hb1
  have hbw := hb0.trans (hb1.mono hb0.size)
  obtain ⟨q0, q1, q2⟩ := b1.three
  have f1 := b1.frozen
  have hz := b1.lt
  clear bR0 bA0 bB0 t0 t1 t2 u0 u1 u2 hb1
  go_wp2_with fail
  refine bodyPost_ret (v := .tuple #[zeroArr, .iface 25 (.int .i64 (twoErr a b))]) (by simp [results, Tryd.results17, go_sem, q0, q1, q2, hz]) rfl ?_
  exact ⟨rfl, by have := hbw.size; go_grown⟩

set_option maxRecDepth 100000 in
set_option maxHeartbeats 1000000 in
theorem index_bad2 {va vb : Value} {a b : Arr} {w : World} (ha : IsArr w va a) (hb : IsArr w vb b) (h : twoErr a b ≠ 0) :
    Calls Tryd.prog 20 #[va, vb] w (Fails zeroArr (twoErr a b) w) := by
  obtain ⟨A, ca, D, cd, rfl, hs, hd⟩ := ha.open_
  obtain ⟨A', ca', D', cd', rfl, hs', hd'⟩ := hb.open_
  have HE := errV_ne h
  clear h hs hd hs' hd'
  have bA0 := ((Box.new w 24 #[.bool a.ch, .slice A a.sh.length ca, .slice D a.da.length cd]).alloc (.cells #[.bool b.ch, .slice A' b.sh.length ca', .slice D' b.da.length cd'] 24)).alloc (.cells #[.bool false, .slice none 0 0, .slice none 0 0] 24)
  have bB0 := (Box.new (w.alloc (.cells #[.bool a.ch, .slice A a.sh.length ca, .slice D a.da.length cd] 24)) 24 #[.bool b.ch, .slice A' b.sh.length ca', .slice D' b.da.length cd']).alloc (.cells #[.bool false, .slice none 0 0, .slice none 0 0] 24)
  have bR0 := Box.new ((w.alloc (.cells #[.bool a.ch, .slice A a.sh.length ca, .slice D a.da.length cd] 24)).alloc (.cells #[.bool b.ch, .slice A' b.sh.length ca', .slice D' b.da.length cd'] 24)) 24 #[.bool false, .slice none 0 0, .slice none 0 0]
  simp only [World.size_alloc] at bB0 bR0
  have hb0 := below_three w (.cells #[.bool a.ch, .slice A a.sh.length ca, .slice D a.da.length cd] 24) (.cells #[.bool b.ch, .slice A' b.sh.length ca', .slice D' b.da.length cd'] 24) (.cells #[.bool false, .slice none 0 0, .slice none 0 0] 24)
  obtain ⟨t0, t1, t2⟩ := bA0.three
  obtain ⟨u0, u1, u2⟩ := bB0.three
  go_enter Tryd.func20, Tryd.ntmps20
  go_wp2_with fail
  refine (scheck_any (ha.mono hb0) (hb.mono hb0)).mono ?_
  rintro e w1 ⟨rfl, hb1⟩
  rw [HE]
  have b1 := bR0.below hb1
  have hbw := hb0.trans (hb1.mono hb0.size)
  obtain ⟨q0, q1, q2⟩ := b1.three
  have f1 := b1.frozen
  have hz := b1.lt
  clear bR0 bA0 bB0 t0 t1 t2 u0 u1 u2 hb1
  go_wp2_with fail
  refine bodyPost_ret (v := .tuple #[zeroArr, .iface 25 (.int .i64 (twoErr a b))]) (by simp [results, Tryd.results20, go_sem, q0, q1, q2, hz]) rfl ?_
  exact ⟨rfl, by have := hbw.size; go_grown⟩

set_option maxRecDepth 100000 in
set_option maxHeartbeats 1000000 in
theorem index_rank {va vb : Value} {a b : Arr} {w : World} (ha : IsArr w va a) (hb : IsArr w vb b) (h : twoErr a b = 0) (h1 : a.sh.length ≠ 1) :
    Calls Tryd.prog 20 #[va, vb] w (Fails zeroArr 3 w) := by
  obtain ⟨A, ca, D, cd, rfl, hs, hd⟩ := ha.open_
  obtain ⟨A', ca', D', cd', rfl, hs', hd'⟩ := hb.open_
  have HE := Lib.hid h
  have e1 : ((a.sh.length : Int) != 1) = true := by simp; omega
  clear h h1 hs hd hs' hd'
  have bA0 := ((Box.new w 24 #[.bool a.ch, .slice A a.sh.length ca, .slice D a.da.length cd]).alloc (.cells #[.bool b.ch, .slice A' b.sh.length ca', .slice D' b.da.length cd'] 24)).alloc (.cells #[.bool false, .slice none 0 0, .slice none 0 0] 24)
  have bB0 := (Box.new (w.alloc (.cells #[.bool a.ch, .slice A a.sh.length ca, .slice D a.da.length cd] 24)) 24 #[.bool b.ch, .slice A' b.sh.length ca', .slice D' b.da.length cd']).alloc (.cells #[.bool false, .slice none 0 0, .slice none 0 0] 24)
  have bR0 := Box.new ((w.alloc (.cells #[.bool a.ch, .slice A a.sh.length ca, .slice D a.da.length cd] 24)).alloc (.cells #[.bool b.ch, .slice A' b.sh.length ca', .slice D' b.da.length cd'] 24)) 24 #[.bool false, .slice none 0 0, .slice none 0 0]
  simp only [World.size_alloc] at bB0 bR0
  have hb0 := below_three w (.cells #[.bool a.ch, .slice A a.sh.length ca, .slice D a.da.length cd] 24) (.cells #[.bool b.ch, .slice A' b.sh.length ca', .slice D' b.da.length cd'] 24) (.cells #[.bool false, .slice none 0 0, .slice none 0 0] 24)
  obtain ⟨t0, t1, t2⟩ := bA0.three
  obtain ⟨u0, u1, u2⟩ := bB0.three
  go_enter Tryd.func20, Tryd.ntmps20
  go_wp2_with fail
  refine (scheck_any (ha.mono hb0) (hb.mono hb0)).mono ?_
  rintro e w1 ⟨rfl, hb1⟩
  rw [HE.out, errV_zero]
  obtain ⟨y0, y1, y2⟩ := (bA0.below hb1).three
  have b1 := bR0.below hb1
  have hbw := hb0.trans (hb1.mono hb0.size)
  obtain ⟨q0, q1, q2⟩ := b1.three
  have f1 := b1.frozen
  have hz := b1.lt
  clear bR0 bA0 bB0 t0 t1 t2 u0 u1 u2 hb1
  go_wp2_with fail
  refine bodyPost_ret (v := .tuple #[zeroArr, .iface 25 (.int .i64 3)]) (by simp [results, Tryd.results20, go_sem, q0, q1, q2, hz]) rfl ?_
  exact ⟨rfl, by have := hbw.size; go_grown⟩

end Go.Proofs.YtfecokkgdojcdaaDoor
