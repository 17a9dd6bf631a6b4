/- The walk of seek.chosen. Conditions: none. -/
import Derived.Test.YtlkeipgpckkhbaaDoorFirsts
import Derived.Test.YtlkeipgpckkhbaaDoorList
namespace Go.Proofs.YtlkeipgpckkhbaaDoor
open Go Go.RowKit Go.Proofs.YtlkeipgpckkhbaaDoor.P

theorem chosen_step {w wr w4 : World} {ch : Bool} {o : Obj} {A2 A4 : Option Addr} {c2 c4 p : Nat} {xs ys : List Int} {a : Arr} {A : Option Addr} {ca : Nat} {D : Option Addr} {cd : Nat}
    (h1 : Box wr (w.heap.size + 1 + 1) 24 #[.bool ch, .slice none 0 0, .slice A2 p c2]) (h2 : Owns wr (w.heap.size + 3) (.slice A2 p c2) p xs)
    (h3 : Box wr w.heap.size 24 #[.bool a.ch, .slice A a.sh.length ca, .slice D a.da.length cd]) (h4 : Box wr (w.heap.size + 1) 24 #[.bool false, .slice none 0 0, .slice none 0 0]) (h5 : Below w.heap.size w wr)
    (hgrow : (wr.alloc o).grownBy w4 (Value.slice A2 p c2).ownBlock) (hown : Owns w4 (w.heap.size + 3) (.slice A4 (p + 1) c4) (p + 1) ys) :
    Box (w4.setCell ⟨w.heap.size + 1 + 1, 2, none⟩ (.slice A4 (p + 1) c4)) (w.heap.size + 1 + 1) 24 #[.bool ch, .slice none 0 0, .slice A4 (p + 1) c4] ∧ Owns (w4.setCell ⟨w.heap.size + 1 + 1, 2, none⟩ (.slice A4 (p + 1) c4)) (w.heap.size + 3) (.slice A4 (p + 1) c4) (p + 1) ys ∧
    Box (w4.setCell ⟨w.heap.size + 1 + 1, 2, none⟩ (.slice A4 (p + 1) c4)) w.heap.size 24 #[.bool a.ch, .slice A a.sh.length ca, .slice D a.da.length cd] ∧ Box (w4.setCell ⟨w.heap.size + 1 + 1, 2, none⟩ (.slice A4 (p + 1) c4)) (w.heap.size + 1) 24 #[.bool false, .slice none 0 0, .slice none 0 0] ∧
    Below w.heap.size w (w4.setCell ⟨w.heap.size + 1 + 1, 2, none⟩ (.slice A4 (p + 1) c4)) := by
  have b4 := Box.grown (w := wr.alloc o) (h1.alloc o) hgrow (h2.ne_box h1 (by decide))
  have s := b4.store 2 (.slice A4 (p + 1) c4)
  simp only [List.setIfInBounds_toArray, List.set_cons_zero, List.set_cons_succ] at s
  exact ⟨s, hown.setCell (p := ⟨w.heap.size + 1 + 1, 2, none⟩) (hown.ne_box b4 (by decide)) _, (Box.grown (w := wr.alloc o) (h3.alloc o) hgrow (h2.ne_low (by omega))).far (p := ⟨w.heap.size + 1 + 1, 2, none⟩) (by simp; omega) _,
    (Box.grown (w := wr.alloc o) (h4.alloc o) hgrow (h2.ne_low (by omega))).far (p := ⟨w.heap.size + 1 + 1, 2, none⟩) (by simp) _,
    ((h5.alloc h5.size o).grown hgrow (by have := h5.size; simp; omega) (fun j e => by have := (h2.lt e).1; omega)).setCell (p := ⟨w.heap.size + 1 + 1, 2, none⟩) (by simp; omega) _⟩

set_option maxRecDepth 100000 in
set_option maxHeartbeats 2000000 in
theorem chosen_any (v : Value) (a : Arr) (F : Nat) (caps : Array Value) (q : Nat → Int → Bool) (w : World) (ha : IsArr w v a) (hl : a.da.length ≤ 4096)
    (hF : ∀ i x, a.da[i]? = some x → ∀ W, Below w.heap.size w W → Calls Tryd.prog F (#[.int .i64 i, .int .i64 x] ++ caps) W fun e W' => e = .returned (.bool (q i x)) ∧ W = W')
    (hcf : ∀ args W, (callFunc F args).run Tryd.prog W = .ok (.enter F args) W) :
    Calls Tryd.prog 32 #[v, .func (.func F) #[] caps] w (Gives (vecOf a.ch (sel q a.da)) w) := by
  obtain ⟨A, ca, D, cd, rfl, hs, hd⟩ := ha.open_
  obtain ⟨_, _, e1, d1, d2, d3, d0, d4⟩ := id hd
  cases e1
  have D4 := Lib.hid (show Elems w D a.da from d4)
  have HF := Lib.hid hF
  have bA0 := ((Box.new w 24 #[.bool a.ch, .slice A a.sh.length ca, .slice D a.da.length cd]).alloc (.cells #[.bool false, .slice none 0 0, .slice none 0 0] 24)).alloc (.cells #[.bool a.ch, .slice none 0 0, .slice none 0 0] 24)
  have bZ0 := (Box.new (w.alloc (.cells #[.bool a.ch, .slice A a.sh.length ca, .slice D a.da.length cd] 24)) 24 #[.bool false, .slice none 0 0, .slice none 0 0]).alloc (.cells #[.bool a.ch, .slice none 0 0, .slice none 0 0] 24)
  have bO0 := Box.new ((w.alloc (.cells #[.bool a.ch, .slice A a.sh.length ca, .slice D a.da.length cd] 24)).alloc (.cells #[.bool false, .slice none 0 0, .slice none 0 0] 24)) 24 #[.bool a.ch, .slice none 0 0, .slice none 0 0]
  simp only [World.size_alloc] at bZ0 bO0
  have hb0 := below_three w (.cells #[.bool a.ch, .slice A a.sh.length ca, .slice D a.da.length cd] 24) (.cells #[.bool false, .slice none 0 0, .slice none 0 0] 24) (.cells #[.bool a.ch, .slice none 0 0, .slice none 0 0] 24)
  obtain ⟨t0, t1, t2⟩ := bA0.three
  clear d4 d0 hs hd hF
  go_enter Tryd.func32, Tryd.ntmps32
  go_wp2_with fail
  clear t0 t1 t2
  go_loopw [14] (fun i wr => ∃ (k : Nat) (A2 : Option Addr) (c2 p : Nat), k ≤ a.da.length ∧ i = .int .i64 k ∧ p ≤ k ∧ Box wr (w.heap.size + 1 + 1) 24 #[.bool a.ch, .slice none 0 0, .slice A2 p c2] ∧ Owns wr (w.heap.size + 3) (.slice A2 p c2) p (sel q (a.da.take k)) ∧
      Box wr w.heap.size 24 #[.bool a.ch, .slice A a.sh.length ca, .slice D a.da.length cd] ∧ Box wr (w.heap.size + 1) 24 #[.bool false, .slice none 0 0, .slice none 0 0] ∧ Below w.heap.size w wr) (fun i _ => a.da.length - (intOf i).toNat)
  case atStart => exact ⟨0, none, 0, 0, Nat.zero_le _, rfl, Nat.le_refl _, bO0, by rw [sel_zero]; exact Owns.nil _ _, bA0, bZ0, hb0⟩
  case round =>
    clear bA0 bZ0 bO0 hb0
    obtain ⟨k, A2, c2, p, hk, rfl, hpk, h1, h2, h3, h4, hbl⟩ := hrel
    rcases Nat.lt_or_ge k a.da.length with hlt | hge
    · obtain ⟨ad, x, rfl, hx, hal, hcx⟩ := Elems.later D4.out hbl hlt
      have hcall := Lib.hid (HF.out k x hx wr hbl)
      have hyes := Lib.hid (fun e => sel_yes (q := q) hx e)
      have hno := Lib.hid (fun e => sel_no (q := q) hx e)
      obtain ⟨g0, g1, g2⟩ := h1.three
      have gf := h1.frozen
      have gl := h1.lt
      have hsz := hbl.size
      clear hx
      go_wp2_with fail
      refine (hcall.out).mono ?_
      rintro e W ⟨rfl, rfl⟩
      cases hq : q k x
      · have HN := Lib.hid (hno.out hq)
        clear hq
        go_wp2_with fail
        go_roundw
        case rel => exact ⟨k + 1, A2, c2, p, by omega, by go_num, by omega, h1, by rw [HN.out]; exact h2, h3, h4, hbl⟩
        case measure => simp [intOf]; omega
      · have HY := Lib.hid (hyes.out hq)
        clear hq
        go_wp2_with (at_builtin; refine wpList_append_ints _ rfl rfl _ _ rfl (w.heap.size + 3) p _ (sel q (a.da.take k)) rfl (h2.alloc _) (some ⟨wr.heap.size, 0, none⟩) 1 1 [x] rfl (by simp) (elems_new wr x) rfl (by omega) (by simp; omega) ?_; intro A4 c4 w4 hown4 hgrow4 hat4; have b4 := Box.grown (w := wr.alloc _) (h1.alloc _) hgrow4 (h2.ne_box h1 (by decide)); have hc4 := b4.three.2.2; have hf4 := b4.frozen 2)
        go_roundw
        case rel =>
          obtain ⟨r1, r2, r3, r4, r5⟩ := chosen_step (o := .cells #[.int .i64 x] 3) h1 h2 h3 h4 hbl hgrow4 hown4
          exact ⟨k + 1, A4, c4, p + 1, by omega, by go_num, by omega, r1, by rw [HY.out]; exact r2, r3, r4, r5⟩
        case measure => simp [intOf]; omega
    · have hke : k = a.da.length := by omega
      subst hke
      rw [List.take_length] at h2
      obtain ⟨g0, g1, g2⟩ := h1.three
      obtain ⟨z0, z1, z2⟩ := h4.three
      have gf := h1.frozen
      have zf := h4.frozen
      have gl := h1.lt
      have zl := h4.lt
      have hlen := Lib.hid h2.length
      go_wp2_with fail
      refine bodyPost_ret (v := .agg #[.bool a.ch, .slice (some ⟨wr.heap.size, 0, none⟩) 1 1, .slice A2 p c2]) (by simp [results, Tryd.results32, go_sem, zl, z0, z1, z2, g0, g1, g2]) rfl ?_
      have k1 := h2.setCell (p := ⟨w.heap.size + 1 + 1, 1, none⟩) (h2.ne_low (by show w.heap.size + 1 + 1 < w.heap.size + 3; omega)) (.slice (some ⟨wr.heap.size, 0, none⟩) 1 1)
      have gg := grownBy_three (wr.setCell ⟨w.heap.size + 1 + 1, 1, none⟩ (.slice (some ⟨wr.heap.size, 0, none⟩) 1 1)) (w.heap.size + 1) (.bool a.ch) (.slice (some ⟨wr.heap.size, 0, none⟩) 1 1) (.slice A2 p c2)
      have k2 := ((k1.kept gg (.inr (k1.ne_low (by omega)))).alloc (.cells #[.int .i64 p] 3)).isInts
      have bS := Box.new ((((wr.setCell ⟨w.heap.size + 1 + 1, 1, none⟩ (.slice (some ⟨wr.heap.size, 0, none⟩) 1 1)).setCell ⟨w.heap.size + 1, 0, none⟩ (.bool a.ch)).setCell ⟨w.heap.size + 1, 1, none⟩ (.slice (some ⟨wr.heap.size, 0, none⟩) 1 1)).setCell ⟨w.heap.size + 1, 2, none⟩ (.slice A2 p c2)) 3 #[.int .i64 p]
      simp only [World.size_setCell] at bS
      have k3 := bS.isInts (xs := [(p : Int)]) (n := 1) rfl (by omega)
      have hp : ((sel q a.da).length : Int) = (p : Int) := by rw [hlen.out]
      refine ⟨_, rfl, ⟨_, _, rfl, ?_, k2⟩, by have := hbl.size; go_grown⟩
      show IsInts _ _ [((sel q a.da).length : Int)]
      rw [hp]
      exact k3

end Go.Proofs.YtlkeipgpckkhbaaDoor
