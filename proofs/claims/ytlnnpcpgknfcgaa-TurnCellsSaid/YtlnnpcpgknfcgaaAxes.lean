/- The walk of shape.Axes. Conditions: none. -/
import Derived.Test.YtlnnpcpgknfcgaaCount
import Derived.Test.YtlnnpcpgknfcgaaList
import Derived.Test.YtlnnpcpgknfcgaaFlip
import Derived.Test.YtlnnpcpgknfcgaaIntsAt
import Derived.Deep.QuietTactic
import Derived.BigQuiet
set_option linter.unusedSimpArgs false
set_option linter.unusedVariables false
namespace Go.Proofs.Ytlnnpcpgknfcgaa.P

def axesErr (s p : List Int) : Int := if cntErr s ≠ 0 then cntErr s else if p.length ≠ s.length then 4 else if IsOrder p then 0 else 5
theorem axesErr_zero {s p : List Int} (h : axesErr s p = 0) : ∃ t u, s = ints t ∧ GoodSh t ∧ p = ints u ∧ Perm u ∧ u.length = t.length := by
  unfold axesErr at h
  by_cases h1 : cntErr s ≠ 0
  · rw [if_pos h1] at h; exact absurd h h1
  · rw [if_neg h1] at h
    obtain ⟨t, rfl, ht⟩ := cntErr_zero (by simpa using h1)
    by_cases h2 : p.length ≠ (ints t).length
    · rw [if_pos h2] at h; omega
    · rw [if_neg h2] at h
      by_cases h3 : IsOrder p
      · obtain ⟨u, rfl, hu⟩ := order_open h3
        rw [length_ints, length_ints] at h2
        exact ⟨t, u, rfl, ht, rfl, hu, by omega⟩
      · rw [if_neg h3] at h; omega
theorem axesErr_ok {t u : List Nat} (ht : GoodSh t) (hu : Perm u) (hl : u.length = t.length) : axesErr (ints t) (ints u) = 0 := by
  unfold axesErr
  rw [cntErr_ints ht, if_neg (by simp), if_neg (by rw [length_ints, length_ints]; omega), if_pos (order_ints.2 hu)]

/-- The lengths laid so far. -/
def AxesTo (k : Nat) (u t : List Nat) (S : List Int) : Prop := S.length = t.length ∧ ∀ j, j < k → S[u.getD j 0]? = some ((t.getD j 0 : Nat) : Int)
theorem AxesTo.zero {n : Nat} {t : List Nat} (h : n = t.length) : AxesTo 0 [] t (List.replicate n 0) := ⟨by simpa using h, fun j h => by omega⟩
theorem AxesTo.succ {k m : Nat} {u t : List Nat} {S : List Int} {x : Int} (h : AxesTo k u t S) (hu : u.length = k) (hm : m < t.length) (hn : m ∉ u) (hx : x = ((t.getD k 0 : Nat) : Int)) : AxesTo (k + 1) (u ++ [m]) t (S.set m x) := by
  refine ⟨by rw [List.length_set]; exact h.1, fun j hj => ?_⟩
  by_cases e : j = k
  · subst e
    have : (u ++ [m]).getD j 0 = m := by rw [List.getD_eq_getElem?_getD, List.getElem?_append_right (by omega), hu]; simp
    rw [this, List.getElem?_set_self (by rw [h.1]; exact hm), hx]
  · have hju : j < u.length := by omega
    have e2 : (u ++ [m]).getD j 0 = u.getD j 0 := by rw [List.getD_eq_getElem?_getD, List.getElem?_append_left hju, List.getD_eq_getElem?_getD]
    rw [e2, List.getElem?_set_ne (fun e3 => hn (by rw [e3, getD_lt hju]; exact List.getElem_mem hju))]
    exact h.2 j (by omega)
theorem AxesTo.all {u t : List Nat} {S : List Int} (h : AxesTo t.length u t S) (hu : Perm u) (hl : u.length = t.length) : S = ints (flipSh u t) := by
  apply List.ext_getElem?
  intro m
  rcases Nat.lt_or_ge m t.length with h1 | h1
  · have hm : m < u.length := by omega
    have h2 := h.2 (u.idxOf m) (by rw [← hl]; exact idx_lt hu hm)
    rw [idx_get hu hm] at h2
    have h3 := flipSh_at (t := t) hu (idx_lt hu hm)
    rw [idx_get hu hm] at h3
    have hf : m < (flipSh u t).length := by rw [flipSh_length]; exact hm
    rw [h2, getElem?_ints, List.getElem?_eq_getElem hf, ← getD_lt hf, h3]
    rfl
  · rw [List.getElem?_eq_none (by rw [h.1]; exact h1), List.getElem?_eq_none (by rw [length_ints, flipSh_length]; omega)]

/-- Which axes have been seen. -/
def SeenB (L : List Bool) (u : List Nat) : Prop := L.length = 6 ∧ ∀ i, i < 6 → L[i]? = some (decide (i ∈ u))
theorem SeenB.nil : SeenB (List.replicate 6 false) [] := ⟨by simp, fun i hi => by rw [List.getElem?_replicate, if_pos hi]; simp⟩
theorem SeenB.add {L : List Bool} {u : List Nat} (h : SeenB L u) {m : Nat} (hm : m < 6) : SeenB (L.set m true) (u ++ [m]) := by
  refine ⟨by rw [List.length_set]; exact h.1, fun i hi => ?_⟩
  by_cases e : m = i
  · subst e
    rw [List.getElem?_set_self (by rw [h.1]; exact hm)]
    simp
  · rw [List.getElem?_set_ne e, h.2 i hi]
    congr 1
    rw [decide_eq_decide, List.mem_append, List.mem_singleton]
    constructor
    · exact .inl
    · rintro (h | h)
      · exact h
      · exact absurd h.symm e
theorem take_snoc_ints {p : List Int} {u : List Nat} {k m : Nat} (h : p.take k = ints u) (hx : p[k]? = some (m : Int)) : p.take (k + 1) = ints (u ++ [m]) := by
  rw [List.take_add_one, h, hx]
  simp [ints]

end Go.Proofs.Ytlnnpcpgknfcgaa.P
namespace Go.Proofs.Ytlnnpcpgknfcgaa
open Go Go.RowKit Go.Proofs.Ytlnnpcpgknfcgaa.P

/-- The marks of an array. -/
def Bools (w : World) (g : Nat) (L : List Bool) : Prop := Box w g 62 (L.map Value.bool).toArray
theorem Bools.store {w : World} {g : Nat} {L : List Bool} (h : Bools w g L) (k : Nat) (x : Bool) : Bools (w.setCell ⟨g, k, none⟩ (.bool x)) g (L.set k x) := by
  have := Box.store h k (.bool x)
  unfold Bools
  rw [List.map_set]
  simpa using this
theorem Bools.at_ {w : World} {g : Nat} {L : List Bool} (h : Bools w g L) {k : Nat} {x : Bool} (hk : L[k]? = some x) : w.cell? ⟨g, k, none⟩ = some (.bool x) := by
  rw [Box.cell h]
  simp [hk]

/-- A call tells a list of its own and no error. -/
def GivesOwn (xs : List Int) (w : World) (e : Ending) (w' : World) : Prop := ∃ g, e = .returned (.tuple #[.slice (some ⟨g, 0, none⟩) xs.length xs.length, .nilIface]) ∧ w.heap.size ≤ g ∧ Row w' g xs ∧ Below w.heap.size w w'
def FailsList (k : Int) (w : World) (e : Ending) (w' : World) : Prop := e = .returned (.tuple #[.slice none 0 0, .iface 50 (.int .i64 k)]) ∧ Below w.heap.size w w'

set_option maxRecDepth 100000 in
set_option maxHeartbeats 1000000 in
theorem axes_ok {vs vp : Value} {t u : List Nat} {w : World} (hs : IsInts w vs (ints t)) (hp : IsInts w vp (ints u)) (hg : GoodSh t) (hu : Perm u) (hl : u.length = t.length) :
    Calls Try.prog 22 #[vs, vp] w (GivesOwn (ints (flipSh u t)) w) := by
  obtain ⟨A, ca, rfl, a1, a2, a3, EA, H0⟩ := hs.open_
  obtain ⟨B, cb, rfl, b1, b2, b3, EB, H1⟩ := hp.open_
  have h6 := hg.1
  have hct := count_ok (.slice A (ints t).length ca) t w hs hg
  simp only [length_ints, hl] at a1 a3 H0 b1 b3 H1 hct ⊢
  have hlt : ∀ k, k < t.length → u.getD k 0 < t.length := fun k hk => by rw [← hl]; exact hu.lt (by omega)
  have hne : ∀ k, k < t.length → u.getD k 0 ∉ u.take k := fun k hk hm => by
    obtain ⟨j, hj, e⟩ := List.getElem_of_mem hm
    rw [List.length_take] at hj
    rw [List.getElem_take, ← getD_lt (by omega)] at e
    have := hu.inj (by omega) (by omega) e
    omega
  have HU := Lib.hid hu
  have HL := Lib.hid hl
  have HLT := Lib.hid hlt
  have HNE := Lib.hid hne
  have HG := Lib.hid hg
  have HC := Lib.hid hct
  have hmk := run_make_list t.length (by omega)
  clear hs hp hg hu hl hlt hne hct
  go_enter Try.func22, Try.ntmps22
  go_wp2_with fail
  refine HC.out.mono ?_
  rintro en w1 ⟨rfl, rfl⟩
  have hsb : Bools (w.alloc (.cells #[.bool false, .bool false, .bool false, .bool false, .bool false, .bool false] 62)) w.heap.size (List.replicate 6 false) := Box.new w 62 _
  have hro := Row.made (w.alloc (.cells #[.bool false, .bool false, .bool false, .bool false, .bool false, .bool false] 62)) t.length
  rw [World.size_alloc] at hro
  go_wp2_with fail
  go_loopw [31] (fun i wr => ∃ (k : Nat) (L : List Bool) (S : List Int), k ≤ t.length ∧ i = .int .i64 k ∧ SeenB L (u.take k) ∧ AxesTo k (u.take k) t S ∧ Bools wr w.heap.size L ∧ Row wr (w.heap.size + 1) S ∧ Below w.heap.size w wr) (fun i _ => t.length - (intOf i).toNat)
  case atStart => exact ⟨0, _, _, Nat.zero_le _, rfl, by simpa using SeenB.nil, by simpa using AxesTo.zero rfl, hsb.alloc _, hro, by go_grown⟩
  case round =>
    clear hsb hro
    obtain ⟨k, L, S, hk, rfl, hL, hS, hb1, hb2, hbl⟩ := hrel
    rcases Nat.lt_or_ge k t.length with hlt | hge
    · obtain ⟨ad, x, rfl, hx, hal, hcx⟩ := Elems.later EB hbl (k := k) (by rw [length_ints, HL.out]; exact hlt)
      obtain ⟨rfl, -⟩ := ints_getD hx
      obtain ⟨ae, y, rfl, hy, hae, hcy⟩ := Elems.later EA hbl (k := k) (by rw [length_ints]; exact hlt)
      obtain ⟨rfl, -⟩ := ints_getD hy
      have h1 := HLT.out k hlt
      have h2 := HNE.out k hlt
      have hsn : (u.take (k + 1)) = u.take k ++ [u.getD k 0] := by
        rw [List.take_add_one, List.getElem?_eq_getElem (by rw [HL.out]; exact hlt), ← getD_lt]; rfl
      obtain ⟨m, hm⟩ : ∃ m, m = u.getD k 0 := ⟨_, rfl⟩
      obtain ⟨z, hz⟩ : ∃ z, z = t.getD k 0 := ⟨_, rfl⟩
      rw [← hm] at h1 h2 hcx hsn
      rw [← hz] at hcy
      have h6' : m < 6 := by omega
      have hb0 : wr.cell? ⟨w.heap.size, m, none⟩ = some (.bool false) := hb1.at_ (by rw [hL.2 m h6']; simp [h2])
      have hf0 := Box.frozen hb1 m
      have hf1 := Box.frozen hb2 m
      have hz0 := Box.lt hb1
      have hz1 := Box.lt hb2
      obtain ⟨z1, hz1'⟩ : ∃ z, S[m]? = some z := ⟨_, List.getElem?_eq_getElem (show m < S.length by rw [hS.1]; exact h1)⟩
      have hg1 := hb2.at_ hz1'
      have h1' : decide ((t.length : Nat) ≤ m) = false := by simp; omega
      have h1'' : decide ((t.length : Int) ≤ (m : Int)) = false := by simp; omega
      have hcy' : (wr.setCell ⟨w.heap.size, m, none⟩ (.bool true)).cell? (ae.add k) = some (.int .i64 (z : Nat)) := cellS hcy (by rw [addr_block_add]; simp; omega)
      have H2 := Lib.hid h2
      have HSN := Lib.hid hsn
      have HL' := Lib.hid hL
      have HS' := Lib.hid hS
      have HZ := Lib.hid hz
      clear h2 hsn hL hS hz hx hy hz1' hm
      go_wp2_with fail
      go_roundw
      case rel =>
        refine ⟨k + 1, L.set m true, S.set m (z : Int), by omega, by go_num, ?_, ?_, ?_, ?_, by have := hbl.size; go_grown⟩
        · rw [HSN.out]; exact HL'.out.add h6'
        · rw [HSN.out]; exact HS'.out.succ (by rw [List.length_take, HL.out]; omega) h1 H2.out (by rw [HZ.out])
        · exact (hb1.store m true).far (p := ⟨w.heap.size + 1, m, none⟩) (by simp) _
        · exact Row.store (hb2.far (p := ⟨w.heap.size, m, none⟩) (by simp) _) m z
      case measure => simp [intOf]; omega
    · have hkk : k = t.length := by omega
      subst hkk
      have hfin : S = ints (flipSh u t) := by
        rw [List.take_of_length_le (by rw [HL.out]; exact Nat.le_refl _)] at hS
        exact hS.all HU.out HL.out
      have hsl : S.length = t.length := hS.1
      have HF := Lib.hid hfin
      have HS' := Lib.hid hsl
      clear hfin hsl hS hL
      go_wp2_with fail
      refine bodyPost_ret (v := .tuple #[.slice (some ⟨w.heap.size + 1, 0, none⟩) t.length t.length, .nilIface]) (by simp [results, Try.results22, go_sem]) rfl ?_
      refine ⟨w.heap.size + 1, ?_, by omega, by rw [← HF.out]; exact hb2, hbl⟩
      rw [← HF.out, HS'.out]

theorem twice_not {p : List Int} {t : List Nat} {k m : Nat} (ht : p.take k = ints t) (hx : p[k]? = some (m : Int)) (hm : m ∈ t) : ¬ IsOrder p := fun h => by
  have h1 : (p.take (k + 1)).Nodup := (List.take_sublist _ _).nodup h.1
  rw [List.take_add_one, ht, hx] at h1
  have := (List.nodup_append.1 h1).2.2 (m : Int) (List.mem_map.2 ⟨m, hm, rfl⟩) (m : Int) (by simp)
  exact this rfl

set_option maxRecDepth 100000 in
set_option maxHeartbeats 1000000 in
theorem axes_bad {vs vp : Value} {s p : List Int} {w : World} (hs : IsInts w vs s) (hp : IsInts w vp p) (h : axesErr s p ≠ 0) :
    Calls Try.prog 22 #[vs, vp] w (FailsList (axesErr s p) w) := by
  obtain ⟨A, ca, rfl, a1, a2, a3, EA, H0⟩ := hs.open_
  obtain ⟨B, cb, rfl, b1, b2, b3, EB, H1⟩ := hp.open_
  by_cases c1 : cntErr s ≠ 0
  · have e : axesErr s p = cntErr s := by unfold axesErr; rw [if_pos c1]
    rw [e]
    have HC := Lib.hid (count_bad _ s w hs c1)
    clear c1 h e hs hp
    go_enter Try.func22, Try.ntmps22
    go_wp2_with fail
    refine HC.out.mono ?_
    rintro en w1 ⟨rfl, rfl⟩
    go_wp2_with fail
    go_ret2
    exact ⟨rfl, Below.refl _ _⟩
  · obtain ⟨t, rfl, hg⟩ := cntErr_zero (by simpa using c1)
    have HC := Lib.hid (count_ok _ t w hs hg)
    by_cases c2 : p.length = t.length
    case neg =>
      have e : axesErr (ints t) p = 4 := by unfold axesErr; rw [if_neg c1, if_pos (by rw [length_ints]; exact c2)]
      rw [e]
      have c2' : ((p.length : Int) != ((ints t).length : Int)) = true := by simp [length_ints]; omega
      clear c1 c2 h e hs hp
      go_enter Try.func22, Try.ntmps22
      go_wp2_with fail
      refine HC.out.mono ?_
      rintro en w1 ⟨rfl, rfl⟩
      go_wp2_with fail
      go_ret2
      exact ⟨rfl, Below.refl _ _⟩
    by_cases c3 : IsOrder p
    · exact absurd (by unfold axesErr; rw [if_neg c1, if_neg (by rw [length_ints]; simpa using c2), if_pos c3]) h
    have e : axesErr (ints t) p = 5 := by unfold axesErr; rw [if_neg c1, if_neg (by rw [length_ints]; simpa using c2), if_neg c3]
    rw [e]
    have h6 := hg.1
    simp only [length_ints, c2] at a1 a3 b1 b3 HC ⊢
    have hmk := run_make_list t.length (by omega)
    have C2 := Lib.hid c2
    have C3 := Lib.hid c3
    clear c1 c2 c3 h e hs hp hg H0 H1
    have hsb : Bools (w.alloc (.cells #[.bool false, .bool false, .bool false, .bool false, .bool false, .bool false] 62)) w.heap.size (List.replicate 6 false) := Box.new w 62 _
    have hro := Row.made (w.alloc (.cells #[.bool false, .bool false, .bool false, .bool false, .bool false, .bool false] 62)) t.length
    rw [World.size_alloc] at hro
    go_enter Try.func22, Try.ntmps22
    go_wp2_with fail
    refine HC.out.mono ?_
    rintro en w1 ⟨rfl, rfl⟩
    go_wp2_with fail
    go_loopw [31] (fun i wr => ∃ (k : Nat) (u : List Nat) (L : List Bool) (S : List Int), k ≤ t.length ∧ i = .int .i64 k ∧ p.take k = ints u ∧ u.Nodup ∧ (∀ x ∈ u, x < t.length) ∧ SeenB L u ∧ S.length = t.length ∧ Bools wr w.heap.size L ∧ Row wr (w.heap.size + 1) S ∧ Below w.heap.size w wr) (fun i _ => t.length - (intOf i).toNat)
    case atStart => exact ⟨0, [], _, _, Nat.zero_le _, rfl, by simp [ints], by simp, by simp, SeenB.nil, by simp, hsb.alloc _, hro, by go_grown⟩
    case round =>
      clear hsb hro
      obtain ⟨k, u, L, S, hk, rfl, hu, hn, hr, hL, hS, hb1, hb2, hbl⟩ := hrel
      rcases Nat.lt_or_ge k t.length with hlt | hge
      · obtain ⟨ad, x, rfl, hx, hal, hcx⟩ := Elems.later EB hbl (k := k) (by rw [C2.out]; exact hlt)
        have HU := Lib.hid hu
        have HN := Lib.hid hn
        have HR := Lib.hid hr
        have HL' := Lib.hid hL
        have HS' := Lib.hid hS
        have HX := Lib.hid hx
        clear hu hn hr hL hS hx
        rcases Int.lt_or_le x 0 with h1 | h1
        · have h1' : decide (x < 0) = true := by simpa using h1
          go_wp2_with fail
          go_ret2
          exact ⟨rfl, hbl⟩
        · have h1' : decide (x < 0) = false := by simp; omega
          rcases Int.lt_or_le x t.length with h2 | h2
          case inr =>
            have h2' : decide ((t.length : Int) ≤ x) = true := by simpa using h2
            go_wp2_with fail
            go_ret2
            exact ⟨rfl, hbl⟩
          obtain ⟨m, rfl⟩ : ∃ m : Nat, x = m := ⟨x.toNat, by omega⟩
          have h3 : m < t.length := by omega
          have h2' : decide (t.length ≤ m) = false := by simp; omega
          have h2'' : decide ((t.length : Int) ≤ (m : Int)) = false := by simp; omega
          have h6' : m < 6 := by omega
          have hb0 : wr.cell? ⟨w.heap.size, m, none⟩ = some (.bool (decide (m ∈ u))) := hb1.at_ (HL'.out.2 m h6')
          have hf0 := Box.frozen hb1 m
          have hf1 := Box.frozen hb2 m
          have hz0 := Box.lt hb1
          have hz1 := Box.lt hb2
          by_cases hmem : m ∈ u
          · rw [decide_eq_true hmem] at hb0
            go_wp2_with fail
            go_ret2
            exact ⟨rfl, hbl⟩
          · rw [decide_eq_false hmem] at hb0
            obtain ⟨ae, y, rfl, hy, hae, hcy⟩ := Elems.later EA hbl (k := k) (by rw [length_ints]; exact hlt)
            obtain ⟨z1, hz1'⟩ : ∃ z, S[m]? = some z := ⟨_, List.getElem?_eq_getElem (show m < S.length by rw [HS'.out]; exact h3)⟩
            have hg1 := hb2.at_ hz1'
            have hcy' : (wr.setCell ⟨w.heap.size, m, none⟩ (.bool true)).cell? (ae.add k) = some (.int .i64 y) := cellS hcy (by rw [addr_block_add]; simp; omega)
            have HM := Lib.hid hmem
            clear hmem hy hz1'
            go_wp2_with fail
            go_roundw
            case rel =>
              refine ⟨k + 1, u ++ [m], L.set m true, S.set m y, by omega, by go_num, take_snoc_ints HU.out HX.out, ?_, ?_, HL'.out.add h6', by rw [List.length_set]; exact HS'.out, ?_, ?_, by have := hbl.size; go_grown⟩
              · rw [List.nodup_append]
                exact ⟨HN.out, by simp, fun a ha b hb e => HM.out (by simp at hb; rw [← hb, ← e]; exact ha)⟩
              · intro y hy
                rcases List.mem_append.1 hy with hy | hy
                · exact HR.out y hy
                · simp at hy; omega
              · exact (hb1.store m true).far (p := ⟨w.heap.size + 1, m, none⟩) (by simp) _
              · exact Row.store (hb2.far (p := ⟨w.heap.size, m, none⟩) (by simp) _) m y
            case measure => simp [intOf]; omega
      · exfalso
        have hkk : k = p.length := by rw [C2.out]; omega
        rw [hkk, List.take_length] at hu
        refine C3.out ?_
        rw [hu]
        have hul : u.length = t.length := by have := congrArg List.length hu; rw [length_ints, C2.out] at this; omega
        exact order_ints.2 ⟨hn, fun x hx => by rw [hul]; exact hr x hx⟩

end Go.Proofs.Ytlnnpcpgknfcgaa
