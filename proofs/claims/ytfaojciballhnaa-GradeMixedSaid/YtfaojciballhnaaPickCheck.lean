/- The walk of pick.check. Conditions: none. -/
import Derived.Test.YtfaojciballhnaaArrays
import Derived.Test.YtfaojciballhnaaCount
import Derived.Test.YtfaojciballhnaaMake
import Derived.Test.YtfaojciballhnaaHelp
import Derived.Test.YtfaojciballhnaaStoreList
set_option linter.unusedSimpArgs false
set_option linter.unusedVariables false
namespace Go.Proofs.Ytfaojciballhnaa.P
/-- The first array's fault. -/
def allErr : List Arr → Int
  | [] => 0
  | b :: l => if arrErr b ≠ 0 then arrErr b else allErr l
theorem allErr_take {bs : List Arr} {k : Nat} {b : Arr} (hk : bs[k]? = some b) (h : allErr (bs.take k) = 0) : allErr (bs.take (k + 1)) = arrErr b ∧ (arrErr b ≠ 0 → allErr bs = arrErr b) := by
  induction bs generalizing k with
  | nil => simp at hk
  | cons c l ih =>
    match k, hk with
    | 0, hk =>
      simp only [List.getElem?_cons_zero, Option.some.injEq] at hk
      subst hk
      simp only [List.take_succ_cons, List.take_zero, allErr]
      constructor
      · by_cases e : arrErr c ≠ 0
        · rw [if_pos e]
        · rw [if_neg e]; simpa using Eq.symm (by simpa using e)
      · intro e; rw [if_pos e]
    | k + 1, hk =>
      simp only [List.getElem?_cons_succ] at hk
      simp only [List.take_succ_cons, allErr] at h ⊢
      by_cases e : arrErr c ≠ 0
      · rw [if_pos e] at h; exact absurd h e
      · rw [if_neg e] at h ⊢
        rw [if_neg e]
        exact ih hk h
end Go.Proofs.Ytfaojciballhnaa.P
namespace Go.Proofs.Ytfaojciballhnaa
open Go Go.RowKit Go.Proofs.Ytfaojciballhnaa.P

theorem AllCells.append {w : World} {us ws : List Value} {bs cs : List Arr} (h : AllCells w us bs) (h' : AllCells w ws cs) : AllCells w (us ++ ws) (bs ++ cs) := by
  obtain ⟨l1, o1, a1⟩ := h
  obtain ⟨l2, o2, a2⟩ := h'
  refine ⟨by rw [List.length_append, List.length_append, l1, l2, Nat.add_mul], fun u hu => (List.mem_append.1 hu).elim (o1 u) (o2 u), fun k b hk => ?_⟩
  rcases Nat.lt_or_ge k bs.length with hlt | hge
  · rw [List.getElem?_append_left hlt] at hk
    obtain ⟨S, c1, D, c2, e1, e2, e3, e4, e5⟩ := a1 k b hk
    exact ⟨S, c1, D, c2, by rw [List.getElem?_append_left (by omega)]; exact e1, by rw [List.getElem?_append_left (by omega)]; exact e2, by rw [List.getElem?_append_left (by omega)]; exact e3, e4, e5⟩
  · rw [List.getElem?_append_right hge] at hk
    obtain ⟨S, c1, D, c2, e1, e2, e3, e4, e5⟩ := a2 _ b hk
    have hm : (k - bs.length) * 3 = k * 3 - us.length := by rw [l1, Nat.sub_mul]
    refine ⟨S, c1, D, c2, ?_, ?_, ?_, e4, e5⟩
    · rw [List.getElem?_append_right (by omega), ← hm]; exact e1
    · rw [List.getElem?_append_right (by omega), show k * 3 + 1 - us.length = (k - bs.length) * 3 + 1 by omega]; exact e2
    · rw [List.getElem?_append_right (by omega), show k * 3 + 2 - us.length = (k - bs.length) * 3 + 2 by omega]; exact e3
theorem AllCells.one {w : World} {A D : Option Addr} {ca cd : Nat} {a : Arr} (h : IsArr w (.agg #[.bool a.ch, .slice A a.sh.length ca, .slice D a.da.length cd]) a) : AllCells w [.bool a.ch, .slice A a.sh.length ca, .slice D a.da.length cd] [a] := by
  refine ⟨rfl, fun u hu => ?_, fun k b hk => ?_⟩
  · simp only [List.mem_cons, List.not_mem_nil, or_false] at hu
    rcases hu with rfl | rfl | rfl <;> rfl
  · match k, hk with
    | 0, hk =>
      simp only [List.getElem?_cons_zero, Option.some.injEq] at hk
      subst hk
      exact ⟨A, ca, D, cd, rfl, rfl, rfl, by obtain ⟨s, d, e, h1, h2⟩ := h; injection e with e; injection e with e; injection e with _ e; injection e with e1 _; rw [e1]; exact h1, by obtain ⟨s, d, e, h1, h2⟩ := h; injection e with e; injection e with e; injection e with _ e; injection e with _ e; injection e with e2 _; rw [e2]; exact h2⟩
    | k + 1, hk => simp at hk
theorem OwnsA.block {w : World} {B : Nat} {A : Option Addr} {n c : Nat} {us : List Value} (h : OwnsA w B (.slice A n c) n us) (hn : 0 < n) : ∃ g, A = some ⟨g, 0, none⟩ ∧ B ≤ g ∧ g < w.heap.size ∧ n ≤ c ∧ ∀ (j : Nat) (u : Value), us[j]? = some u → w.cell? ⟨g, j, none⟩ = some u := by
  rcases h.2 with ⟨e, h0⟩ | ⟨g, cap, cur, e, hb, hg, hn', hm, hs, ht⟩
  · omega
  · injection e with e1 e2 e3
    subst e1 e3
    refine ⟨g, rfl, hb, (Array.getElem?_eq_some_iff.1 hg).1, hn', fun j u hj => ?_⟩
    have hc := World.ownsRow.cells (g := g) h rfl j u hj
    rwa [addr_zero_add] at hc

set_option maxRecDepth 100000 in
set_option maxHeartbeats 1000000 in
theorem pick_check {va vb vc : Value} {a : Arr} {bs cs : List Arr} {w : World} (ha : IsArr w va a) (hb : IsArrs w vb bs) (hc : IsArrs w vc cs) (hcl : cs.length ≤ 64) :
    Calls Try.prog 28 #[va, vb, vc] w fun e w' => e = .returned (errV (allErr (a :: (bs ++ cs)))) ∧ Below w.heap.size w w' := by
  obtain ⟨A, ca, D, cd, rfl, hs, hd⟩ := ha.open_
  obtain ⟨B, cb, ub, rfl, b1, b2, b3, b4, b5, b6⟩ := id hb
  obtain ⟨C, cc, uc, rfl, c1, c2, c3, c4, c5, c6⟩ := id hc
  have HB4 := Lib.hid b4
  have HB5 := Lib.hid b5
  have HB6 := Lib.hid b6
  have HC4 := Lib.hid c4
  have HC5 := Lib.hid c5
  have HC6 := Lib.hid c6
  have bA0 := (Box.new w 24 #[.bool a.ch, .slice A a.sh.length ca, .slice D a.da.length cd])
  have bL0 := Box.new (w.alloc (.cells #[.bool a.ch, .slice A a.sh.length ca, .slice D a.da.length cd] 24)) 24 #[.bool a.ch, .slice A a.sh.length ca, .slice D a.da.length cd]
  have hb0 := below_two w (.cells #[.bool a.ch, .slice A a.sh.length ca, .slice D a.da.length cd] 24) (.cells #[.bool a.ch, .slice A a.sh.length ca, .slice D a.da.length cd] 24)
  have o0 := OwnsA.one bL0
  rw [World.size_alloc] at o0
  obtain ⟨t0, t1, t2⟩ := bA0.three
  clear b4 b5 b6 c4 c5 c6 hs hd
  go_enter Try.func28, Try.ntmps28
  go_wp2_with (first
    | (at_builtin; refine wpList_append_arrs _ rfl rfl _ _ rfl (w.heap.size + 1) 1 _ _ rfl o0 B bs.length cb ub rfl HB4.out b1 (HB6.out.mono hb0) HB5.out.2.1 HB5.out.1 (by omega) (by simp) ?_; intro A4 k4 w4 own4 grow4 at4)
    | (at_builtin; refine wpList_append_arrs _ rfl rfl _ _ rfl (w.heap.size + 1) (1 + bs.length) _ _ rfl own4 C cs.length cc uc rfl HC4.out c1 (HC6.out.mono (hb0.grown grow4 hb0.size (fun j e => by have := (World.ownsRow.lt o0 j e).1; omega))) HC5.out.2.1 HC5.out.1 (by omega) (by have := grow4.size; simp at this; omega) ?_; intro A5 k5 w5 own5 grow5 at5))
  obtain ⟨g, rfl, hg, hgl, hn5, hcell⟩ := own5.block (by omega)
  have hbw4 := hb0.grown grow4 hb0.size (fun j e => by have := (World.ownsRow.lt o0 j e).1; omega)
  have hbw5 := hbw4.grown grow5 hbw4.size (fun j e => by have := (World.ownsRow.lt own4 j e).1; omega)
  have hall := ((AllCells.one (ha.mono hbw5)).append (HB5.out.mono hbw5)).append (HC5.out.mono hbw5)
  rw [show [a] ++ bs ++ cs = a :: (bs ++ cs) by simp] at hall
  obtain ⟨L, hL⟩ : ∃ L, L = a :: (bs ++ cs) := ⟨_, rfl⟩
  obtain ⟨us, hus⟩ : ∃ us, us = [Value.bool a.ch, .slice A a.sh.length ca, .slice D a.da.length cd] ++ ub ++ uc := ⟨_, rfl⟩
  obtain ⟨N, hN⟩ : ∃ N, N = 1 + bs.length + cs.length := ⟨_, rfl⟩
  rw [← hus] at hcell hall
  rw [← hL] at hall
  rw [show (1 : Int) + (bs.length : Int) + (cs.length : Int) = ((1 + bs.length + cs.length : Nat) : Int) by omega]
  rw [← hN] at hn5 ⊢
  have HLN := Lib.hid (show L.length = N by rw [hL, hN]; simp; omega)
  have hN8 : N ≤ 2513169434916 := by omega
  have HALL := Lib.hid hall
  have HCELL := Lib.hid hcell
  have HN := Lib.hid hN
  have HL := Lib.hid hL
  clear hall hcell hL hus hN own5 own4 grow4 grow5 at4 at5 hbw4 o0 bL0 bA0 t0 t1 t2 hb0
  go_loopw [17] (fun s17 wr => ∃ k : Nat, k ≤ N ∧ s17 = .int .i64 k ∧ allErr (L.take k) = 0 ∧ Below w5.heap.size w5 wr) (fun s17 _ => N - (intOf s17).toNat)
  case atStart => exact ⟨0, Nat.zero_le _, rfl, rfl, Below.refl _ _⟩
  case round =>
    obtain ⟨k, hk, rfl, he, hbl⟩ := hrel
    have HE := Lib.hid he
    clear he
    rcases Nat.lt_or_ge k N with hlt | hge
    · obtain ⟨b, hb⟩ : ∃ b, L[k]? = some b := ⟨_, List.getElem?_eq_getElem (by rw [HLN.out]; exact hlt)⟩
      obtain ⟨S, c1', D1, c2', e1, e2, e3, i1, i2⟩ := HALL.out.2.2 k b hb
      have f0 := (hbl.cell (p := ⟨g, k * 3, none⟩) hgl).trans (HCELL.out _ _ e1)
      have f1 := (hbl.cell (p := ⟨g, k * 3 + 1, none⟩) hgl).trans (HCELL.out _ _ e2)
      have f2 := (hbl.cell (p := ⟨g, k * 3 + 2, none⟩) hgl).trans (HCELL.out _ _ e3)
      have HBK := Lib.hid hb
      have hia : IsArr (wr.alloc (.cells #[.bool b.ch, .slice S b.sh.length c1', .slice D1 b.da.length c2'] 24)) (.agg #[.bool b.ch, .slice S b.sh.length c1', .slice D1 b.da.length c2']) b := ⟨_, _, rfl, (i1.mono hbl).mono (below_one _ _), (i2.mono hbl).mono (below_one _ _)⟩
      have HIA := Lib.hid hia
      clear hb e1 e2 e3 i1 i2 hia
      go_wp2_with fail
      refine (check_any _ b _ HIA.out).mono ?_
      rintro e w6 ⟨rfl, hb6⟩
      have hbl6 := hbl.trans (((below_one wr (.cells #[.bool b.ch, .slice S b.sh.length c1', .slice D1 b.da.length c2'] 24)).trans (hb6.mono (below_one _ _).size)).mono hbl.size)
      obtain ⟨x1, x2⟩ := allErr_take HBK.out HE.out
      have X1 := Lib.hid x1
      have X2 := Lib.hid x2
      clear x1 x2 hb6 f0 f1 f2
      by_cases cz : arrErr b = 0
      · have CZ := Lib.hid cz
        rw [cz, errV_zero]
        clear cz
        go_wp2_with fail
        go_roundw
        case rel => exact ⟨k + 1, by omega, by go_num, by rw [X1.out]; exact CZ.out, hbl6⟩
        case measure => simp [intOf]; omega
      · have CZ := Lib.hid cz
        rw [errV_ne cz]
        clear cz
        go_wp2_with fail
        go_ret
        exact ⟨by rw [← HL.out, X2.out CZ.out, errV_ne CZ.out]; rfl, hbw5.trans (hbl6.mono hbw5.size)⟩
    · have hke : k = N := by omega
      subst hke
      have hall : allErr L = 0 := by have := HE.out; rwa [List.take_of_length_le (by rw [HLN.out]; exact Nat.le_refl _)] at this
      have HA := Lib.hid hall
      clear hall
      go_wp2_with fail
      go_ret
      exact ⟨by rw [← HL.out, HA.out]; rfl, hbw5.trans (hbl.mono hbw5.size)⟩

end Go.Proofs.Ytfaojciballhnaa
