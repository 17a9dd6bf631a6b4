/- The walks of the references' Flaws, truth and Among. Conditions: none. -/
import Derived.Test.YtikjniibfomadaaDoorRefFlaw
import Derived.Test.YtikjniibfomadaaDoorRefAt
import Derived.Test.YtikjniibfomadaaDoorHas
import Derived.Test.YtikjniibfomadaaDoorTail
import Derived.Test.YtikjniibfomadaaDoorSeekPlain
import Derived.Deep.RegionLaw
namespace Go.Proofs.YtikjniibfomadaaDoor
open Go Go.RowKit Go.Proofs.YtikjniibfomadaaDoor.P

set_option maxHeartbeats 400000 in
theorem flaws_any {va vb : Value} {a b : Arr} {w : World} (ha : IsArr w va a) (hb : IsArr w vb b) :
    Calls Tryd.prog 16 #[va, vb] w fun e w' => e = .returned (.int .i64 (twoErr a b)) ∧ Below w.heap.size w w' := by
  obtain ⟨A, ca, D, cd, rfl, -, -⟩ := ha.open_
  obtain ⟨A', ca', D', cd', rfl, -, -⟩ := hb.open_
  have HA := Lib.hid ha
  have HB := Lib.hid hb
  clear ha hb
  go_enter Tryd.func16, Tryd.ntmps16
  have z1 := (Box.new w 24 #[.bool a.ch, .slice A a.sh.length ca, .slice D a.da.length cd]).alloc (.cells #[.bool b.ch, .slice A' b.sh.length ca', .slice D' b.da.length cd'] 24)
  have z2 := Box.new (w.alloc (.cells #[.bool a.ch, .slice A a.sh.length ca, .slice D a.da.length cd] 24)) 24 #[.bool b.ch, .slice A' b.sh.length ca', .slice D' b.da.length cd']
  rw [World.size_alloc] at z2
  have hb0 := below_two w (.cells #[.bool a.ch, .slice A a.sh.length ca, .slice D a.da.length cd] 24) (.cells #[.bool b.ch, .slice A' b.sh.length ca', .slice D' b.da.length cd'] 24)
  obtain ⟨t0, t1, t2⟩ := z1.three
  go_wp2_with fail
  refine (flaw_any (HA.out.mono hb0)).mono ?_
  rintro e w1 ⟨rfl, hb1⟩
  have b2 := z2.below hb1
  have hbw := hb0.trans (hb1.mono hb0.size)
  clear z1 z2 hb0 hb1 t0 t1 t2
  obtain ⟨u0, u1, u2⟩ := b2.three
  by_cases c : arrErr a = 0
  · have HE := Lib.hid (show twoErr a b = arrErr b by unfold twoErr; rw [if_neg (fun h => h c)])
    rw [c]
    clear c
    go_wp2_with fail
    refine (flaw_any (HB.out.mono hbw)).mono ?_
    rintro e w2 ⟨rfl, hb2⟩
    have hbw2 := hbw.trans (hb2.mono hbw.size)
    go_wp2_with fail
    go_ret
    exact ⟨ret_int HE.out.symm, hbw2⟩
  · have HE := Lib.hid (show twoErr a b = arrErr a by unfold twoErr; rw [if_pos c])
    have e1 : (arrErr a == 0) = false := by simp [c]
    clear c
    go_wp2_with fail
    go_ret
    exact ⟨ret_int HE.out.symm, hbw⟩

theorem isin_at' {a b : Arr} {k : Nat} {x : Int} (h : a.da[k]? = some x) : (isin a b).da[k]? = some (if hasB b a.ch x then 1 else 0) := by
  unfold isin
  rw [List.getElem?_map, h]
  rfl

end Go.Proofs.YtikjniibfomadaaDoor
