/- The walks of the references AllFlaws and Named: the shape and the places that indices name. Conditions: none. -/
import Derived.Test.YtikjniibfomadaaDoorRefFlaw
import Derived.Test.YtikjniibfomadaaDoorRefAt
import Derived.Test.YtikjniibfomadaaDoorTail
import Derived.Test.YtikjniibfomadaaDoorPickFind
import Derived.Test.YtikjniibfomadaaDoorNamePlain
set_option linter.unusedSimpArgs false
set_option linter.unusedVariables false
namespace Go.Proofs.YtikjniibfomadaaDoor.P
theorem allErr_snoc : ∀ (l : List Arr) (b : Arr), allErr (l ++ [b]) = if allErr l ≠ 0 then allErr l else arrErr b
  | [], b => by
    show (if arrErr b ≠ 0 then arrErr b else 0) = _
    by_cases h : arrErr b = 0
    · simp [allErr, h]
    · simp [allErr, h]
  | c :: l, b => by
    show (if arrErr c ≠ 0 then arrErr c else allErr (l ++ [b])) = if (if arrErr c ≠ 0 then arrErr c else allErr l) ≠ 0 then (if arrErr c ≠ 0 then arrErr c else allErr l) else arrErr b
    by_cases h : arrErr c ≠ 0
    · rw [if_pos h, if_pos h, if_pos h]
    · rw [if_neg h, if_neg h, allErr_snoc l b]
end Go.Proofs.YtikjniibfomadaaDoor.P
namespace Go.Proofs.YtikjniibfomadaaDoor
open Go Go.RowKit Go.Proofs.YtikjniibfomadaaDoor.P

set_option maxRecDepth 100000 in
set_option maxHeartbeats 4000000 in
theorem allflaws_any {va vb : Value} {a : Arr} {bs : List Arr} {w : World} (ha : IsArr w va a) (hb : IsArrs w vb bs) :
    Calls Tryd.prog 33 #[va, vb] w fun e w' => e = .returned (.int .i64 (allErr (a :: bs))) ∧ Below w.heap.size w w' := by
  obtain ⟨A, ca, D, cd, rfl, hs, hd⟩ := ha.open_
  obtain ⟨B, cb, ub, rfl, b1, b2, b3, b4, b5, b6⟩ := id hb
  have HA := Lib.hid ha
  have HB5 := Lib.hid b5
  have HB6_ := Lib.hid b6
  clear ha hb b4 b5 b6 hs hd
  go_enter Tryd.func33, Tryd.ntmps33
  have hb0 := below_one w (.cells #[.bool a.ch, .slice A a.sh.length ca, .slice D a.da.length cd] 24)
  go_wp2_with fail
  refine (flaw_any (HA.out.mono hb0)).mono ?_
  rintro e w1 ⟨rfl, hb1⟩
  have HBW := Lib.hid (hb0.trans (hb1.mono hb0.size))
  clear hb0 hb1
  have HE0 := Lib.hid (show arrErr a = allErr (a :: bs.take 0) by
    show _ = if arrErr a ≠ 0 then arrErr a else 0
    by_cases h : arrErr a = 0
    · simp [h]
    · simp [h])
  go_wp2_with fail
  go_loopw [5, 6] (fun se sk wr => ∃ (k : Nat) (e : Int), k ≤ bs.length ∧ sk = .int .i64 k ∧ se = .int .i64 e ∧ e = allErr (a :: bs.take k) ∧ Below w.heap.size w wr) (fun _ sk _ => bs.length - (intOf sk).toNat)
  case atStart => exact ⟨0, _, Nat.zero_le _, rfl, rfl, HE0.out, HBW.out⟩
  case round =>
    obtain ⟨k, e, hk, rfl, rfl, he, hbl⟩ := hrel
    rcases Nat.lt_or_ge k bs.length with hlt | hge
    · obtain ⟨b, hb⟩ : ∃ b, bs[k]? = some b := ⟨_, List.getElem?_eq_getElem hlt⟩
      obtain ⟨ad, S, c1', D1, c2', rfl, hadl, f0, f1, f2, g1, g2⟩ := arr_later HB5.out HB6_.out hbl hb
      have HN := Lib.hid (show allErr (a :: bs.take (k + 1)) = if e ≠ 0 then e else arrErr b by
        rw [List.take_add_one, hb, he]
        exact allErr_snoc (a :: bs.take k) b)
      have HI := Lib.hid (show IsArr wr (.agg #[.bool b.ch, .slice S b.sh.length c1', .slice D1 b.da.length c2']) b from ⟨_, _, rfl, g1, g2⟩)
      clear he hb g1 g2
      by_cases h : e = 0
      · subst h
        have HN2 := Lib.hid (show allErr (a :: bs.take (k + 1)) = arrErr b by rw [HN.out]; simp)
        go_wp2_with fail
        refine (flaw_any HI.out).mono ?_
        rintro e w2 ⟨rfl, hb2⟩
        have hbl2 := hbl.trans (hb2.mono hbl.size)
        clear f0 f1 f2 hbl hb2
        go_wp2_with fail
        go_roundw
        case rel => exact ⟨k + 1, _, by omega, by go_num, rfl, HN2.out.symm, hbl2⟩
        case measure => simp [intOf]; omega
      · have e1 : (e == 0) = false := by simp [h]
        have HN2 := Lib.hid (show allErr (a :: bs.take (k + 1)) = e by rw [HN.out, if_pos h])
        clear h f0 f1 f2
        go_wp2_with fail
        go_roundw
        case rel => exact ⟨k + 1, e, by omega, by go_num, rfl, HN2.out.symm, hbl⟩
        case measure => simp [intOf]; omega
    · obtain rfl : k = bs.length := by omega
      have HE := Lib.hid (show e = allErr (a :: bs) by rw [he, List.take_length])
      clear he
      go_wp2_with fail
      go_ret
      exact ⟨by rw [← HE.out]; rfl, hbl⟩

theorem IsInts.mid {w : World} {ad : Addr} {n c lo long : Nat} {xs : List Int} (h : IsInts w (.slice (some ad) n c) xs) (hl : lo + long ≤ xs.length) : IsInts w (.slice (some (ad.add lo)) long (c - lo)) ((xs.drop lo).take long) := by
  obtain ⟨A', c', e, h1, h2, h3, h4, h5⟩ := h
  cases e
  have e1 : ((xs.drop lo).take long).length = long := by rw [List.length_take, List.length_drop]; omega
  refine ⟨some (ad.add lo), c - lo, by rw [e1], by omega, by omega, by omega, (fun e => by cases e), fun k x hx => ?_⟩
  rw [List.getElem?_take] at hx
  split at hx
  · rw [List.getElem?_drop] at hx
    obtain ⟨a2, ea, h6, h7⟩ := h5 _ x hx
    cases ea
    refine ⟨ad.add lo, rfl, by rw [addr_block_add]; exact h6, ?_⟩
    rw [show (ad.add lo).add k = ad.add (lo + k) by
      unfold Addr.add
      by_cases h0 : lo = 0
      · subst h0; simp
      · rw [if_neg h0]
        by_cases h8 : k = 0
        · subst h8; simp [h0]
        · rw [if_neg h8, if_neg (by omega)]
          simp [Nat.add_assoc]]
    exact h7
  · cases hx

theorem fillTo_end {X : List Int} {k : Nat} (h : k = X.length) : FillTo X k = X := by subst h; exact fillTo_all X

/-- What the reference Named tells. -/
def NamedR (t : List Nat) (bs : List Arr) (w : World) (e : Ending) (w' : World) : Prop :=
  ∃ rs rp, e = .returned (.tuple #[rs, rp, .int .i64 (pickErr t bs)]) ∧ (pickErr t bs = 0 → IsInts w' rs (catSh bs) ∧ IsInts w' rp (placesOf t bs)) ∧ Below w.heap.size w w'
theorem NamedR.bad {t : List Nat} {bs : List Arr} {w w' : World} {k : Int} {rs rp : Value} (hk : pickErr t bs = k) (h0 : k ≠ 0) (hb : Below w.heap.size w w') : NamedR t bs w (.returned (.tuple #[rs, rp, .int .i64 k])) w' :=
  ⟨rs, rp, by rw [hk], fun h => absurd (hk.symm.trans h) h0, hb⟩

set_option maxRecDepth 100000 in
set_option maxHeartbeats 8000000 in
theorem named_ok {va vb : Value} {a : Arr} {t : List Nat} {bs : List Arr} {w : World} (ha : IsArr w va a) (hb : IsArrs w vb bs) (h : Ok a t) (hg : ∀ b ∈ bs, ∃ s, Ok b s) :
    Calls Tryd.prog 34 #[va, vb] w (NamedR t bs w) := by
  obtain ⟨A, ca, D, cd, rfl, hs, hd⟩ := ha.open_
  obtain ⟨B, cb, ub, rfl, b1, b2, b3, b4, b5, b6⟩ := id hb
  have HB5 := Lib.hid b5
  have HB6_ := Lib.hid b6
  have HG := Lib.hid hg
  have H := Lib.hid h
  have HS := Lib.hid hs
  have HLT := Lib.hid (show a.sh.length = t.length by rw [h.sh, length_ints])
  have hal6 : a.sh.length ≤ 6 := by rw [HLT.out]; exact h.good.1
  have hbA0 := Box.new w 24 #[.bool a.ch, .slice A a.sh.length ca, .slice D a.da.length cd]
  have hb0 := below_one w (.cells #[.bool a.ch, .slice A a.sh.length ca, .slice D a.da.length cd] 24)
  have HBA := Lib.hid hbA0
  have HB0 := Lib.hid hb0
  obtain ⟨t0, t1, t2⟩ := hbA0.three
  clear b4 b5 b6 hg h hs hd hb ha hbA0 hb0
  by_cases hlen : bs.length = a.sh.length
  case neg =>
    have e1 : ((bs.length : Int) != (a.sh.length : Int)) = true := by simp; omega
    have HE := Lib.hid (show pickErr t bs = 3 by unfold pickErr; rw [if_pos (by rw [← HLT.out]; exact hlen)])
    have e2 : ¬ bs.length = a.sh.length := hlen
    clear hlen
    go_enter Tryd.func34, Tryd.ntmps34
    go_wp2_with fail
    refine bodyPost_ret (v := .tuple #[.slice none 0 0, .slice none 0 0, .int .i64 3]) (by simp [results, Tryd.results34, go_sem]) rfl ?_
    exact NamedR.bad HE.out (by decide) HB0.out
  have e1 : ((bs.length : Int) != (a.sh.length : Int)) = false := by rw [hlen]; simp
  have HLEN := Lib.hid (show bs.length = t.length by rw [hlen, HLT.out])
  have hbl6 : bs.length ≤ 6 := by omega
  go_enter Tryd.func34, Tryd.ntmps34
  go_wp2_with fail
  clear t0 t1 t2 e1 hlen
  obtain ⟨wo, hwo⟩ : ∃ W, W = w.alloc (.cells #[.bool a.ch, .slice A a.sh.length ca, .slice D a.da.length cd] 24) := ⟨_, rfl⟩
  rw [← hwo] at HB0 HBA ⊢
  clear hwo
  go_loop [7] (fun sk => ∃ k : Nat, k ≤ bs.length ∧ sk = .int .i64 k ∧ ∀ b ∈ bs.take k, b.ch = false) (fun sk => bs.length - (intOf sk).toNat)
  case atStart => exact ⟨0, Nat.zero_le _, rfl, by simp⟩
  case round =>
    obtain ⟨k, hk, rfl, hch⟩ := hrel
    have HCH := Lib.hid hch
    clear hch
    rcases Nat.lt_or_ge k bs.length with hlt | hge
    · obtain ⟨b, hb⟩ : ∃ b, bs[k]? = some b := ⟨_, List.getElem?_eq_getElem hlt⟩
      obtain ⟨ad, S, c1', D1, c2', rfl, hadl, f0, f1, f2, g1, g2⟩ := arr_later HB5.out HB6_.out HB0.out hb
      have HBK := Lib.hid hb
      clear hb g1 g2
      cases hc : b.ch
      · rw [hc] at f0
        have HC := Lib.hid hc
        clear hc
        go_wp2_with fail
        go_round
        case rel =>
          refine ⟨k + 1, by omega, by go_num, fun x hx => ?_⟩
          rw [List.take_add_one, HBK.out] at hx
          rcases List.mem_append.1 hx with hx | hx
          · exact HCH.out x hx
          · simp at hx; rw [hx]; exact HC.out
        case measure => simp [intOf]; omega
      · rw [hc] at f0
        have HE := Lib.hid (show pickErr t bs = 6 by
          unfold pickErr
          rw [if_neg (fun h => h HLEN.out), if_pos (List.any_eq_true.2 ⟨b, List.mem_of_getElem? HBK.out, hc⟩)])
        clear hc
        go_wp2_with fail
        refine bodyPost_ret (v := .tuple #[.slice none 0 0, .slice none 0 0, .int .i64 6]) (by simp [results, Tryd.results34, go_sem]) rfl ?_
        exact NamedR.bad HE.out (by decide) HB0.out
    · obtain rfl : k = bs.length := by omega
      have HANY := Lib.hid (show bs.any (·.ch) = false by
        have h1 := HCH.out
        rw [List.take_length] at h1
        rw [List.any_eq_false]
        intro b hb
        simp [h1 b hb])
      clear HCH
      go_wp2_with fail
      go_loopw [8, 9] (fun so sk wr => ∃ (k n : Nat) (A2 : Option Addr) (c2 : Nat), k ≤ bs.length ∧ n ≤ k * 6 ∧ sk = .int .i64 k ∧ so = .slice A2 n c2 ∧ Owns wr wo.heap.size so n (catSh (bs.take k)) ∧ Below wo.heap.size wo wr) (fun _ sk _ => bs.length - (intOf sk).toNat)
      case atStart => exact ⟨0, 0, none, 0, Nat.zero_le _, Nat.zero_le _, rfl, rfl, by rw [List.take_zero]; exact Owns.nil _ _, Below.refl _ _⟩
      case round =>
        obtain ⟨k, n, A2, c2, hk, hn6, rfl, rfl, hown, hbl⟩ := hrel
        rcases Nat.lt_or_ge k bs.length with hlt | hge
        · obtain ⟨b, hb⟩ : ∃ b, bs[k]? = some b := ⟨_, List.getElem?_eq_getElem hlt⟩
          have HBK := Lib.hid hb
          obtain ⟨s, hbs⟩ := HG.out b (List.mem_of_getElem? hb)
          have hsl6 : b.sh.length ≤ 6 := by rw [hbs.sh, length_ints]; exact hbs.good.1
          have HOW := Lib.hid hown
          have HBL := Lib.hid hbl
          clear hb hbs hown hbl
          go_wp2_with fail
          obtain ⟨wi, hwi⟩ : ∃ wi : World, wi = wr := ⟨_, rfl⟩
          rw [← hwi] at HOW HBL ⊢
          clear hwi
          go_loopw [8, 10] (fun so si wr => ∃ (i n2 : Nat) (A3 : Option Addr) (c3 : Nat), i ≤ b.sh.length ∧ n2 = n + i ∧ si = .int .i64 i ∧ so = .slice A3 n2 c3 ∧ Owns wr wo.heap.size so n2 (catSh (bs.take k) ++ b.sh.take i) ∧ Below wo.heap.size wo wr) (fun _ si _ => b.sh.length - (intOf si).toNat)
          case atStart => exact ⟨0, n, A2, c2, Nat.zero_le _, rfl, rfl, rfl, by simpa using HOW.out, HBL.out⟩
          case round =>
            obtain ⟨i, n2, A3, c3, hi, hn2, rfl, rfl, ho2, hbl⟩ := hrel
            obtain ⟨ad, S, c1', D1, c2', rfl, hadl, f0, f1, f2, g1, g2⟩ := arr_later HB5.out HB6_.out (HB0.out.trans (hbl.mono HB0.out.size)) HBK.out
            have hsz := hbl.size
            have hn2b : n2 ≤ 4096 := by omega
            have HN2 := Lib.hid hn2
            clear hn2
            rcases Nat.lt_or_ge i b.sh.length with hil | hig
            · obtain ⟨ax, x, rfl, hx, hax, hcx⟩ := Elems.later (IsInts.elems g1) (Below.refl _ _) hil
              have HX := Lib.hid (take_at hx)
              clear hx g1 g2
              go_wp2_with (at_builtin; refine wpList_append_ints _ rfl rfl _ _ rfl wo.heap.size n2 _ (catSh (bs.take k) ++ b.sh.take i) rfl (ho2.alloc _) (some ⟨wr.heap.size, 0, none⟩) 1 1 [x] rfl (by simp) (elems_new wr x) rfl (by omega) (by simp; omega) ?_; intro A4 c4 w4 hown4 hgrow4 hat4)
              go_roundw
              case rel => exact ⟨i + 1, n2 + 1, A4, c4, by omega, by have := HN2.out; omega, by go_num, rfl, by rw [← HX.out, ← List.append_assoc]; exact hown4, (hbl.alloc hbl.size _).grown hgrow4 (by simp; omega) (fun _ e => (ho2.lt e).1)⟩
              case measure => simp [intOf]; omega
            · obtain rfl : i = b.sh.length := by omega
              rw [List.take_length, ← catSh_take HBK.out] at ho2
              clear g1 g2
              go_wp2_with fail
              go_roundw
              case rel => exact ⟨k + 1, n2, A3, c3, by omega, by have := HN2.out; omega, by go_num, rfl, ho2, hbl⟩
              case measure => simp [intOf]; omega
        · obtain rfl : k = bs.length := by omega
          rw [List.take_length] at hown
          have HSI := Lib.hid hown.isInts
          have HBL := Lib.hid hbl
          have hnl := hown.length
          clear hown hbl hn6
          go_wp2_with fail
          refine (fault_any _ (catSh bs) _ HSI.out).mono ?_
          rintro e w1 ⟨rfl, rfl⟩
          by_cases c4 : cntErr (catSh bs) = 0
          case neg =>
            have HE := Lib.hid (show pickErr t bs = cntErr (catSh bs) by
              unfold pickErr
              rw [if_neg (fun h => h HLEN.out), if_neg (by rw [HANY.out]; simp), if_pos c4])
            have HE0 := Lib.hid c4
            obtain ⟨ce, hce⟩ : ∃ ce, ce = cntErr (catSh bs) := ⟨_, rfl⟩
            have e3 : (ce != 0) = true := by rw [hce]; simp [c4]
            rw [← hce] at HE HE0 ⊢
            clear c4 hce
            go_wp2_with fail
            refine bodyPost_ret (v := .tuple #[.slice none 0 0, .slice none 0 0, .int .i64 ce]) (by simp [results, Tryd.results34, go_sem]) rfl ?_
            exact NamedR.bad HE.out HE0.out (HB0.out.trans (HBL.out.mono HB0.out.size))
          have HC4 := Lib.hid c4
          rw [c4]
          clear c4
          obtain ⟨w1, hw1⟩ : ∃ W, W = wr := ⟨_, rfl⟩
          rw [← hw1] at HSI HBL ⊢
          clear hw1
          go_wp2_with fail
          go_loopw [12] (fun sk wr => ∃ k : Nat, k ≤ bs.length ∧ sk = .int .i64 k ∧ IdxTo t bs k ∧ Below w1.heap.size w1 wr) (fun sk _ => bs.length - (intOf sk).toNat)
          case atStart => exact ⟨0, Nat.zero_le _, rfl, IdxTo.zero _ _, Below.refl _ _⟩
          case round =>
            obtain ⟨k, hk, rfl, hix, hbl⟩ := hrel
            have HIX := Lib.hid hix
            have HBX := Lib.hid hbl
            clear hix hbl
            rcases Nat.lt_or_ge k bs.length with hlt | hge
            · obtain ⟨b, hb⟩ : ∃ b, bs[k]? = some b := ⟨_, List.getElem?_eq_getElem hlt⟩
              have HBK := Lib.hid hb
              obtain ⟨s, hbs⟩ := HG.out b (List.mem_of_getElem? hb)
              have hbd4 : b.da.length ≤ 4096 := by rw [hbs.len]; exact hbs.good.2.2
              clear hb hbs
              go_wp2_with fail
              obtain ⟨wi, hwi⟩ : ∃ wi : World, wi = wr := ⟨_, rfl⟩
              rw [← hwi] at HBX ⊢
              clear hwi
              go_loopw [13] (fun si wr => ∃ i : Nat, i ≤ b.da.length ∧ si = .int .i64 i ∧ RowTo (t.getD k 0) b.da i ∧ Below w1.heap.size w1 wr) (fun si _ => b.da.length - (intOf si).toNat)
              case atStart => exact ⟨0, Nat.zero_le _, rfl, RowTo.zero _ _, HBX.out⟩
              case round =>
                obtain ⟨i, hi, rfl, hro, hbl⟩ := hrel
                have hbw := HB0.out.trans ((HBL.out.trans (hbl.mono HBL.out.size)).mono HB0.out.size)
                obtain ⟨ad, S, c1', D1, c2', rfl, hadl, f0, f1, f2, g1, g2⟩ := arr_later HB5.out HB6_.out hbw HBK.out
                have HRO := Lib.hid hro
                clear hro
                rcases Nat.lt_or_ge i b.da.length with hil | hig
                · obtain ⟨ax, x, rfl, hx, hax, hcx⟩ := Elems.later (IsInts.elems g2) (Below.refl _ _) hil
                  have bA := (HBA.out.below HBL.out).below hbl
                  obtain ⟨u0, u1, u2⟩ := bA.three
                  have ul := bA.lt
                  have hkt : k < t.length := by rw [← HLEN.out]; exact hlt
                  have hka : k < a.sh.length := by rw [HLT.out]; exact hkt
                  obtain ⟨as_, y, rfl, hy, has, hcy⟩ := Elems.later (IsInts.elems HS.out) hbw hka
                  obtain ⟨N, hN⟩ : ∃ N, N = t.getD k 0 := ⟨_, rfl⟩
                  have hyN : y = (N : Int) := by rw [H.out.sh, ints_get hkt, ← hN] at hy; injection hy with hy; exact hy.symm
                  subst hyN
                  have HT := Lib.hid (show t[k]? = some N by rw [hN, List.getD_eq_getElem?_getD, List.getElem?_eq_getElem hkt]; rfl)
                  rw [← hN] at HRO
                  have HX := Lib.hid hx
                  have HBB := Lib.hid hbl
                  have HNN := Lib.hid hN
                  clear hx hy g1 g2 hN
                  by_cases hbad : x < 0 ∨ (N : Int) ≤ x
                  · have HE := Lib.hid (show pickErr t bs = 5 by
                      unfold pickErr
                      rw [if_neg (fun h => h HLEN.out), if_neg (by rw [HANY.out]; simp), if_neg (fun h => h HC4.out), if_pos (idxBad_hit HBK.out HT.out HX.out hbad)])
                    rcases Int.lt_or_le x 0 with hx0 | hx0
                    · have d1 : decide (x < 0) = true := by simpa using hx0
                      clear hbad hx0 hbl
                      go_wp2_with fail
                      go_quiet (fail)
                      all_goals go_wp2_with fail
                      refine bodyPost_ret (v := .tuple #[.slice none 0 0, .slice none 0 0, .int .i64 5]) (by simp [results, Tryd.results34, go_sem]) rfl ?_
                      exact NamedR.bad HE.out (by decide) (hbw.trans (below_draws _ _ _))
                    · have d1 : decide (x < 0) = false := by simpa using hx0
                      have d2 : decide ((N : Int) ≤ x) = true := by simp; omega
                      clear hbad hx0 hbl
                      go_wp2_with fail
                      go_quiet (fail)
                      all_goals go_wp2_with fail
                      refine bodyPost_ret (v := .tuple #[.slice none 0 0, .slice none 0 0, .int .i64 5]) (by simp [results, Tryd.results34, go_sem]) rfl ?_
                      exact NamedR.bad HE.out (by decide) (hbw.trans (below_draws _ _ _))
                  · have d1 : decide (x < 0) = false := by simp; omega
                    have d2 : decide ((N : Int) ≤ x) = false := by simp; omega
                    have HR2 := Lib.hid (HRO.out.succ HX.out (by omega) (by omega))
                    clear hbad hbl
                    go_wp2_with fail
                    go_quiet (fail)
                    all_goals go_wp2_with fail
                    go_roundw
                    case rel => exact ⟨i + 1, by omega, by go_num, by rw [← HNN.out]; exact HR2.out, by first | exact HBB.out.trans (below_draws _ _ _) | exact HBB.out⟩
                    case measure => simp [intOf]; omega
                · obtain rfl : i = b.da.length := by omega
                  have hkt : k < t.length := by rw [← HLEN.out]; exact hlt
                  have HIX2 := Lib.hid (HIX.out.succ HBK.out (show t[k]? = some (t.getD k 0) by rw [List.getD_eq_getElem?_getD, List.getElem?_eq_getElem hkt]; rfl) HRO.out)
                  clear g1 g2
                  go_wp2_with fail
                  go_roundw
                  case rel => exact ⟨k + 1, by omega, by go_num, HIX2.out, hbl⟩
                  case measure => simp [intOf]; omega
            · obtain rfl : k = bs.length := by omega
              have HOKX := Lib.hid (HIX.out.ok (Nat.le_refl _))
              have HE := Lib.hid (pick_none HLEN.out HANY.out HC4.out HOKX.out)
              have hval := cat_val HG.out HC4.out
              have hsh := shs_ints HG.out
              have hpr := shs_prod HG.out
              have hgo : GoodSh (shs bs) := by
                have h := HC4.out
                rw [hsh] at h
                obtain ⟨u, hu, hgu⟩ := cntErr_zero h
                rwa [ints_inj hu]
              obtain ⟨T, hT⟩ : ∃ T, T = shs bs := ⟨_, rfl⟩
              rw [← hT] at hsh hpr hgo
              have HTT := Lib.hid hT
              have HSH := Lib.hid hsh
              have HGO := Lib.hid hgo
              obtain ⟨M, hM⟩ : ∃ M, M = prod T := ⟨_, rfl⟩
              have HM := Lib.hid hM
              have hM4 : M ≤ 4096 := by rw [hM]; exact hgo.2.2
              have HPL := Lib.hid (show (placesOf t bs).length = M by rw [← placesTo_all (Nat.le_refl _), placesTo_len HLEN.out (Nat.le_refl _), List.take_length, ← hpr, hM])
              have HNT := Lib.hid (show n = T.length by have h := hnl; rw [hsh, length_ints] at h; omega)
              have HST := Lib.hid (show IsInts wr _ (ints T) from (HSI.out.mono HBX.out).eq' hsh)
              clear hT hsh hgo hM hpr hval hnl
              go_wp2_with fail
              refine (cells_ok _ T _ HST.out HGO.out).mono ?_
              rintro e w2 ⟨rfl, rfl⟩
              rw [← HM.out]
              obtain ⟨w3, hw3⟩ : ∃ W, W = wr := ⟨_, rfl⟩
              rw [← hw3] at HBX HST ⊢
              clear hw3
              have HBW3 := Lib.hid (HB0.out.trans ((HBL.out.trans (HBX.out.mono HBL.out.size)).mono HB0.out.size))
              have HBA3 := Lib.hid ((HBA.out.below HBL.out).below HBX.out)
              go_wp2_with fail
              go_loopw [14, 16] (fun sp si wx => ∃ (i : Nat) (A5 : Option Addr) (c5 : Nat), i ≤ M ∧ si = .int .i64 i ∧ sp = .slice A5 i c5 ∧ Owns wx w3.heap.size sp i ((placesOf t bs).take i) ∧ Below w3.heap.size w3 wx) (fun _ si _ => M - (intOf si).toNat)
              case atStart => exact ⟨0, none, 0, Nat.zero_le _, rfl, rfl, Owns.nil _ _, Below.refl _ _⟩
              case round =>
                obtain ⟨i, A5, c5, hi, rfl, rfl, hop, hbl⟩ := hrel
                rcases Nat.lt_or_ge i M with hil | hig
                · have HIP := Lib.hid (show i < prod T by rw [← HM.out]; exact hil)
                  have HOP := Lib.hid hop
                  have HBI := Lib.hid hbl
                  clear hop hbl
                  go_wp2_with fail
                  refine (coords_ok _ T i _ (HST.out.mono HBI.out) HGO.out.1 HGO.out.2.1 HIP.out (by omega)).mono ?_
                  rintro e w5 ⟨g5, rfl, hg5, hr5, hb5⟩
                  have hmk := run_make_list bs.length (by omega)
                  have hbl5 := HBI.out.trans (hb5.mono HBI.out.size)
                  have HR5 := Lib.hid hr5
                  have HBL5 := Lib.hid hbl5
                  have HOP5 := Lib.hid (HOP.out.below hb5)
                  have hl5 := Box.lt hr5
                  have hz5 := hbl5.size
                  have hws5 := hb5.size
                  clear hr5 hb5 hbl5
                  go_wp2_with fail
                  clear hmk
                  obtain ⟨gf, hgf⟩ : ∃ g, g = w5.heap.size := ⟨_, rfl⟩
                  obtain ⟨w6, hw6⟩ : ∃ W, W = w5.alloc (.cells (madeCells #[.int .i64 0] bs.length) 3) := ⟨_, rfl⟩
                  have HRF := Lib.hid (show Row w6 gf (List.replicate bs.length 0) by rw [hw6, hgf]; exact Row.made _ _)
                  have HB6 := Lib.hid (show Below w5.heap.size w5 w6 by rw [hw6]; exact below_one _ _)
                  have hz6 : w6.heap.size = gf + 1 := by rw [hw6, hgf]; simp
                  have hgf5 : g5 < gf := by omega
                  have hgf3 : w3.heap.size ≤ gf := by omega
                  rw [← hw6, ← hgf]
                  clear hw6
                  have HZ6 := Lib.hid hz6
                  have hz6b : gf < w6.heap.size := by omega
                  have hgw5 : w5.heap.size ≤ gf := by omega
                  have hg53 : w3.heap.size ≤ g5 := by have := HBI.out.size; omega
                  clear hgf hz6
                  obtain ⟨X, hX⟩ : ∃ X, X = frs bs (coords T i) := ⟨_, rfl⟩
                  have HX := Lib.hid hX
                  have HXL := Lib.hid (show X.length = bs.length by rw [hX, frs_length])
                  have HCI := Lib.hid (coords_inside HIP.out)
                  clear hX
                  go_loopw [19, 20] (fun sd sk wx => ∃ (k d : Nat), k ≤ bs.length ∧ sk = .int .i64 k ∧ sd = .int .i64 d ∧ d = (catSh (bs.take k)).length ∧ Row wx gf (FillTo (ints X) k) ∧ Row wx g5 (ints (coords T i)) ∧ Owns wx w3.heap.size (.slice A5 i c5) i ((placesOf t bs).take i) ∧ Below w3.heap.size w3 wx ∧ w6.heap.size ≤ wx.heap.size ∧ ∀ m, (Value.slice A5 i c5).ownBlock = some m → m < w5.heap.size) (fun _ sk _ => bs.length - (intOf sk).toNat)
                  case atStart => exact ⟨0, 0, Nat.zero_le _, rfl, rfl, rfl, by rw [fillTo_zero, length_ints, HXL.out]; exact HRF.out, Box.below HR5.out HB6.out, HOP5.out.below HB6.out, HBL5.out.trans (HB6.out.mono HBL5.out.size), Nat.le_refl _, fun m e => (HOP5.out.lt e).2⟩
                  case round =>
                    obtain ⟨k, d, hk, rfl, rfl, hd, hrf, hr5, hop, hbl, hwx, hom⟩ := hrel
                    rcases Nat.lt_or_ge k bs.length with hlt | hge
                    · obtain ⟨b, hb⟩ : ∃ b, bs[k]? = some b := ⟨_, List.getElem?_eq_getElem hlt⟩
                      obtain ⟨s, hbs⟩ := HG.out b (List.mem_of_getElem? hb)
                      have hbw := HBW3.out.trans (hbl.mono HBW3.out.size)
                      obtain ⟨ad, S, c1', D1, c2', rfl, hadl, f0, f1, f2, g1, g2⟩ := arr_later HB5.out HB6_.out hbw hb
                      have hsl : b.sh.length = s.length := by rw [hbs.sh, length_ints]
                      have hin := chunk_inside HG.out (by rw [← HTT.out]; exact HCI.out) hb
                      have hfa := frs_at (ix := coords T i) hb
                      rw [hbs.nsh_eq] at hin hfa
                      rw [← HX.out] at hfa
                      obtain ⟨ch, hch⟩ : ∃ ch, ch = chunk bs (coords T i) k b := ⟨_, rfl⟩
                      rw [← hch] at hin hfa
                      have hpl := place_lt hin
                      rw [← hbs.len] at hpl
                      obtain ⟨P, hP⟩ : ∃ P, P = place s ch := ⟨_, rfl⟩
                      rw [← hP] at hfa hpl
                      obtain ⟨ax, x, rfl, hx, hax, hcx⟩ := Elems.later (IsInts.elems g2) (Below.refl _ _) hpl
                      have hcl := inside_length hin
                      have hdl : d + b.sh.length ≤ T.length := by
                        have h1 : ch.length = b.sh.length := by rw [hcl, hsl]
                        rw [hch] at h1
                        unfold chunk at h1
                        rw [← hd, List.length_take, List.length_drop, length_coords] at h1
                        by_cases h0 : b.sh.length = 0
                        · have h2 : (catSh bs).length = T.length := by rw [HSH.out, length_ints]
                          have h3 : (catSh (bs.take k)).length ≤ (catSh bs).length := by
                            conv => rhs; rw [← List.take_append_drop k bs]
                            unfold catSh
                            rw [List.flatMap_append, List.length_append]
                            omega
                          omega
                        · omega
                      obtain ⟨PA, hPA⟩ : ∃ PA : Option Addr, PA = if T.length = d then some ⟨g5, 0, none⟩ else some ⟨g5, d, none⟩ := ⟨_, rfl⟩
                      have HPA := Lib.hid hPA
                      have HAT := Lib.hid (show IsInts wr (.slice PA b.sh.length (T.length - d)) (ints ch) by
                        have h0 := hr5.isInts (n := T.length) (by rw [length_ints, length_coords]) (by have := HGO.out.1; omega)
                        have h1 := IsInts.mid h0 (lo := d) (long := b.sh.length) (by rw [length_ints, length_coords]; exact hdl)
                        have e : ints ch = ((ints (coords T i)).drop d).take b.sh.length := by
                          rw [hch]
                          unfold chunk
                          rw [← hd]
                          simp [ints, List.map_drop, List.map_take]
                        rw [e, hPA]
                        by_cases c : T.length = d
                        · rw [if_pos c]
                          have c2 : b.sh.length = 0 := by omega
                          rw [c2, List.take_zero, show T.length - d = 0 by omega]
                          exact ⟨some ⟨g5, 0, none⟩, 0, rfl, by simp, by omega, by simp, (fun e => by cases e), fun k x hx => by simp at hx⟩
                        · rw [if_neg c]
                          have e2 : (⟨g5, 0, none⟩ : Addr).add d = ⟨g5, d, none⟩ := by
                            unfold Addr.add
                            by_cases h0 : d = 0
                            · subst h0; rfl
                            · rw [if_neg h0]; simp
                          rwa [e2] at h1)
                      have HIN := Lib.hid hin
                      have HPP := Lib.hid hP
                      have HG1 := Lib.hid (g1.eq' hbs.sh)
                      have hkt : k < t.length := by rw [← HLEN.out]; exact hlt
                      have hi0 : 0 ≤ x := (idxs_of HOKX.out (k + 1) k b (t.getD k 0) (by omega) hb (by rw [List.getD_eq_getElem?_getD, List.getElem?_eq_getElem hkt]; rfl) x (List.mem_of_getElem? hx)).1
                      have HXK := Lib.hid (show (ints X)[k]? = some x by
                        rw [ints_get (by rw [HXL.out]; exact hlt), hfa, List.getD_eq_getElem?_getD, hx]
                        simp [Int.toNat_of_nonneg hi0])
                      have hs6 : s.length ≤ 6 := hbs.good.1
                      have hsp4 : prod s ≤ 4096 := hbs.good.2.2
                      have hT6 : T.length ≤ 6 := HGO.out.1
                      have hbd4 : b.da.length ≤ 4096 := by rw [hbs.len]; exact hsp4
                      have HD := Lib.hid hd
                      have HBK := Lib.hid hb
                      have HRFX := Lib.hid hrf
                      have HR5X := Lib.hid hr5
                      have HOPX := Lib.hid hop
                      have HBLX := Lib.hid hbl
                      have HOM := Lib.hid hom
                      have HBS := Lib.hid hbs
                      have HCX := Lib.hid (show ∀ wx, Below wr.heap.size wr wx → wx.cell? (ax.add P) = some (.int .i64 x) from fun wx h => (h.cell (p := ax.add P) (by rw [addr_block_add]; exact hax)).trans hcx)
                      have gfk := hrf.at_ (fillTo_at (X := ints X) (k := k) (by rw [length_ints, HXL.out]; exact hlt))
                      have gff := Box.frozen hrf k
                      have gfl := Box.lt hrf
                      have HF2 := Lib.hid (show ∀ wx, Below wr.heap.size wr wx → wx.cell? ⟨(ad.add (k * 3)).block, (ad.add (k * 3)).off + 2, none⟩ = some (.slice (some ax) b.da.length c2') from fun wx h => (h.cell (p := ⟨(ad.add (k * 3)).block, (ad.add (k * 3)).off + 2, none⟩) (by have := hbw.size; rw [addr_block_add]; omega)).trans f2)
                      have HF1 := Lib.hid (show ∀ wx, Below wr.heap.size wr wx → wx.cell? ⟨(ad.add (k * 3)).block, (ad.add (k * 3)).off + 1, none⟩ = some (.slice S b.sh.length c1') from fun wx h => (h.cell (p := ⟨(ad.add (k * 3)).block, (ad.add (k * 3)).off + 1, none⟩) (by have := hbw.size; rw [addr_block_add]; omega)).trans f1)
                      have HDL := Lib.hid hdl
                      have HWR := Lib.hid (show IntKind.i64.wrap ((d : Int) + (b.sh.length : Int)) = (d : Int) + (b.sh.length : Int) from IntWalk.i64_in _ (by omega))
                      clear hb hbs hx hcx hd hrf hr5 hop hbl hom hin hfa hch hP g1 g2 hcl hi0 hsl hPA
                      obtain ⟨wy, rfl⟩ : ∃ W : World, W = wr := ⟨_, rfl⟩
                      go_wp2_with fail
                      refine wp_region_gate 22 0 (fun i v lo hi w' => match i with
                          | 0 => v = .slice (some ⟨gf, 0, none⟩) bs.length bs.length
                          | 1 => v = .int .i64 k
                          | 2 => v = .slice (some ad) bs.length cb
                          | 3 => v = .int .i64 k
                          | 4 => v = .pointer (some (ad.add (k * 3)))
                          | 5 => v = .pointer (some ⟨(ad.add (k * 3)).block, (ad.add (k * 3)).off + 2, none⟩)
                          | 6 => v = .slice (some ax) b.da.length c2'
                          | 7 => v = .slice (some ad) bs.length cb
                          | 8 => v = .int .i64 k
                          | 9 => v = .pointer (some (ad.add (k * 3)))
                          | 10 => v = .pointer (some ⟨(ad.add (k * 3)).block, (ad.add (k * 3)).off + 1, none⟩)
                          | 11 => v = .slice S b.sh.length c1'
                          | 12 => v = .slice (some ⟨g5, 0, none⟩) T.length T.length
                          | 13 => v = .int .i64 d
                          | 14 => v = .int .i64 d
                          | 15 => v = .int .i64 b.sh.length
                          | 16 => v = .int .i64 ((d : Int) + b.sh.length)
                          | 17 => v = .slice PA b.sh.length (T.length - d)
                          | 18 => v = .int .i64 (P : Nat)
                          | 19 => v = .pointer (some (ax.add P))
                          | 20 => v = .int .i64 x
                          | 21 => v = .pointer (some ⟨gf, k, none⟩)
                          | _ => True) (by kernel_rfl) (by kernel_rfl) (by kernel_rfl) ?hV ?step ?last
                      case hV =>
                        intro i v lo hi w1 w2 h hb
                        match i, h with
                        | 0, h => exact h
                        | 1, h => exact h
                        | 2, h => exact h
                        | 3, h => exact h
                        | 4, h => exact h
                        | 5, h => exact h
                        | 6, h => exact h
                        | 7, h => exact h
                        | 8, h => exact h
                        | 9, h => exact h
                        | 10, h => exact h
                        | 11, h => exact h
                        | 12, h => exact h
                        | 13, h => exact h
                        | 14, h => exact h
                        | 15, h => exact h
                        | 16, h => exact h
                        | 17, h => exact h
                        | 18, h => exact h
                        | 19, h => exact h
                        | 20, h => exact h
                        | 21, h => exact h
                        | i + 22, _ => trivial
                      case step =>
                        simp only [List.take_succ_cons, List.take_zero, putAll, Act.put, List.setIfInBounds_toArray, List.set_cons_zero, List.set_cons_succ, Nat.reduceAdd, Nat.zero_add]
                        intro i o ho hi u lo up wr hbr hd hj K hK
                        obtain ⟨hcw, hfw⟩ := bcell hbr
                        match i, ho with
                        | 0, ho =>
                          simp only [List.getElem?_cons_zero, Option.some.injEq] at ho
                          subst ho
                          simp only [Act.put, List.setIfInBounds_toArray, List.set_cons_zero, List.set_cons_succ] at hK
                          first | (simp [Region.binds] at hd; simp only [hd] at hK) | skip
                          refine wpOp_step rfl fun K' hK' => ?_
                          go_simp
                          exact hK' _ _ (hK _ _ (Below.refl _ _) rfl)
                        | 1, ho =>
                          simp only [List.getElem?_cons_succ, List.getElem?_cons_zero, Option.some.injEq] at ho
                          subst ho
                          simp only [Act.put, List.setIfInBounds_toArray, List.set_cons_zero, List.set_cons_succ] at hK
                          first | (simp [Region.binds] at hd; simp only [hd] at hK) | skip
                          refine wpOp_step rfl fun K' hK' => ?_
                          go_simp
                          exact hK' _ _ (hK _ _ (Below.refl _ _) rfl)
                        | 2, ho =>
                          simp only [List.getElem?_cons_succ, List.getElem?_cons_zero, Option.some.injEq] at ho
                          subst ho
                          simp only [Act.put, List.setIfInBounds_toArray, List.set_cons_zero, List.set_cons_succ] at hK
                          first | (simp [Region.binds] at hd; simp only [hd] at hK) | skip
                          refine wpOp_step rfl fun K' hK' => ?_
                          go_simp
                          exact hK' _ _ (hK _ _ (Below.refl _ _) rfl)
                        | 3, ho =>
                          simp only [List.getElem?_cons_succ, List.getElem?_cons_zero, Option.some.injEq] at ho
                          subst ho
                          simp only [Act.put, List.setIfInBounds_toArray, List.set_cons_zero, List.set_cons_succ] at hK
                          first | (simp [Region.binds] at hd; simp only [hd] at hK) | skip
                          refine wpOp_step rfl fun K' hK' => ?_
                          go_simp
                          exact hK' _ _ (hK _ _ (Below.refl _ _) rfl)
                        | 4, ho =>
                          simp only [List.getElem?_cons_succ, List.getElem?_cons_zero, Option.some.injEq] at ho
                          subst ho
                          simp only [Act.put, List.setIfInBounds_toArray, List.set_cons_zero, List.set_cons_succ] at hK
                          first | (simp [Region.binds] at hd; simp only [hd] at hK) | skip
                          refine wpOp_step rfl fun K' hK' => ?_
                          go_simp
                          exact hK' _ _ (hK _ _ (Below.refl _ _) rfl)
                        | 5, ho =>
                          simp only [List.getElem?_cons_succ, List.getElem?_cons_zero, Option.some.injEq] at ho
                          subst ho
                          simp only [Act.put, List.setIfInBounds_toArray, List.set_cons_zero, List.set_cons_succ] at hK
                          first | (simp [Region.binds] at hd; simp only [hd] at hK) | skip
                          refine wpOp_step rfl fun K' hK' => ?_
                          go_simp
                          exact hK' _ _ (hK _ _ (Below.refl _ _) rfl)
                        | 6, ho =>
                          simp only [List.getElem?_cons_succ, List.getElem?_cons_zero, Option.some.injEq] at ho
                          subst ho
                          simp only [Act.put, List.setIfInBounds_toArray, List.set_cons_zero, List.set_cons_succ] at hK
                          have h5 : u 5 = .pointer (some ⟨(ad.add (k * 3)).block, (ad.add (k * 3)).off + 2, none⟩) := hd ⟨5, .data⟩ (by simp) rfl
                          have hcr := HF2.out wr hbr
                          simp only [h5] at hK
                          refine wpOp_step rfl fun K' hK' => ?_
                          go_simp
                          exact hK' _ _ (hK _ _ (Below.refl _ _) rfl)
                        | 7, ho =>
                          simp only [List.getElem?_cons_succ, List.getElem?_cons_zero, Option.some.injEq] at ho
                          subst ho
                          simp only [Act.put, List.setIfInBounds_toArray, List.set_cons_zero, List.set_cons_succ] at hK
                          first | (simp [Region.binds] at hd; simp only [hd] at hK) | skip
                          refine wpOp_step rfl fun K' hK' => ?_
                          go_simp
                          exact hK' _ _ (hK _ _ (Below.refl _ _) rfl)
                        | 8, ho =>
                          simp only [List.getElem?_cons_succ, List.getElem?_cons_zero, Option.some.injEq] at ho
                          subst ho
                          simp only [Act.put, List.setIfInBounds_toArray, List.set_cons_zero, List.set_cons_succ] at hK
                          first | (simp [Region.binds] at hd; simp only [hd] at hK) | skip
                          refine wpOp_step rfl fun K' hK' => ?_
                          go_simp
                          exact hK' _ _ (hK _ _ (Below.refl _ _) rfl)
                        | 9, ho =>
                          simp only [List.getElem?_cons_succ, List.getElem?_cons_zero, Option.some.injEq] at ho
                          subst ho
                          simp only [Act.put, List.setIfInBounds_toArray, List.set_cons_zero, List.set_cons_succ] at hK
                          first | (simp [Region.binds] at hd; simp only [hd] at hK) | skip
                          refine wpOp_step rfl fun K' hK' => ?_
                          go_simp
                          exact hK' _ _ (hK _ _ (Below.refl _ _) rfl)
                        | 10, ho =>
                          simp only [List.getElem?_cons_succ, List.getElem?_cons_zero, Option.some.injEq] at ho
                          subst ho
                          simp only [Act.put, List.setIfInBounds_toArray, List.set_cons_zero, List.set_cons_succ] at hK
                          first | (simp [Region.binds] at hd; simp only [hd] at hK) | skip
                          refine wpOp_step rfl fun K' hK' => ?_
                          go_simp
                          exact hK' _ _ (hK _ _ (Below.refl _ _) rfl)
                        | 11, ho =>
                          simp only [List.getElem?_cons_succ, List.getElem?_cons_zero, Option.some.injEq] at ho
                          subst ho
                          simp only [Act.put, List.setIfInBounds_toArray, List.set_cons_zero, List.set_cons_succ] at hK
                          have h10 : u 10 = .pointer (some ⟨(ad.add (k * 3)).block, (ad.add (k * 3)).off + 1, none⟩) := hd ⟨10, .data⟩ (by simp) rfl
                          have hcr := HF1.out wr hbr
                          simp only [h10] at hK
                          refine wpOp_step rfl fun K' hK' => ?_
                          go_simp
                          exact hK' _ _ (hK _ _ (Below.refl _ _) rfl)
                        | 12, ho =>
                          simp only [List.getElem?_cons_succ, List.getElem?_cons_zero, Option.some.injEq] at ho
                          subst ho
                          simp only [Act.put, List.setIfInBounds_toArray, List.set_cons_zero, List.set_cons_succ] at hK
                          first | (simp [Region.binds] at hd; simp only [hd] at hK) | skip
                          refine wpOp_step rfl fun K' hK' => ?_
                          go_simp
                          exact hK' _ _ (hK _ _ (Below.refl _ _) rfl)
                        | 13, ho =>
                          simp only [List.getElem?_cons_succ, List.getElem?_cons_zero, Option.some.injEq] at ho
                          subst ho
                          simp only [Act.put, List.setIfInBounds_toArray, List.set_cons_zero, List.set_cons_succ] at hK
                          first | (simp [Region.binds] at hd; simp only [hd] at hK) | skip
                          refine wpOp_step rfl fun K' hK' => ?_
                          go_simp
                          exact hK' _ _ (hK _ _ (Below.refl _ _) rfl)
                        | 14, ho =>
                          simp only [List.getElem?_cons_succ, List.getElem?_cons_zero, Option.some.injEq] at ho
                          subst ho
                          simp only [Act.put, List.setIfInBounds_toArray, List.set_cons_zero, List.set_cons_succ] at hK
                          first | (simp [Region.binds] at hd; simp only [hd] at hK) | skip
                          refine wpOp_step rfl fun K' hK' => ?_
                          go_simp
                          exact hK' _ _ (hK _ _ (Below.refl _ _) rfl)
                        | 15, ho =>
                          simp only [List.getElem?_cons_succ, List.getElem?_cons_zero, Option.some.injEq] at ho
                          subst ho
                          simp only [Act.put, List.setIfInBounds_toArray, List.set_cons_zero, List.set_cons_succ] at hK
                          first | (simp [Region.binds] at hd; simp only [hd] at hK) | skip
                          refine wpOp_step rfl fun K' hK' => ?_
                          go_simp
                          exact hK' _ _ (hK _ _ (Below.refl _ _) rfl)
                        | 16, ho =>
                          simp only [List.getElem?_cons_succ, List.getElem?_cons_zero, Option.some.injEq] at ho
                          subst ho
                          simp only [Act.put, List.setIfInBounds_toArray, List.set_cons_zero, List.set_cons_succ] at hK
                          have h14 : u 14 = .int .i64 d := hd ⟨14, .data⟩ (by simp) rfl
                          have h15 : u 15 = .int .i64 b.sh.length := hd ⟨15, .data⟩ (by simp) rfl
                          simp only [h14, h15] at hK
                          refine wpOp_step rfl fun K' hK' => ?_
                          go_simp
                          exact hK' _ _ (hK _ _ (Below.refl _ _) (congrArg _ HWR.out))
                        | 17, ho =>
                          simp only [List.getElem?_cons_succ, List.getElem?_cons_zero, Option.some.injEq] at ho
                          subst ho
                          simp only [Act.put, List.setIfInBounds_toArray, List.set_cons_zero, List.set_cons_succ] at hK
                          have h12 : u 12 = .slice (some ⟨g5, 0, none⟩) T.length T.length := hd ⟨12, .data⟩ (by simp) rfl
                          have h13 : u 13 = .int .i64 d := hd ⟨13, .data⟩ (by simp) rfl
                          have h16 : u 16 = .int .i64 ((d : Int) + b.sh.length) := hd ⟨16, .data⟩ (by simp) rfl
                          simp only [h12, h13, h16] at hK
                          have hdd := HDL.out
                          refine wpOp_step rfl fun K' hK' => ?_
                          go_simp
                          rw [if_pos ⟨by omega, by omega⟩, if_pos (by omega), show ((d : Int) + (b.sh.length : Int)).toNat - d = b.sh.length by omega, ← HPA.out]
                          exact hK' _ _ (hK _ _ (Below.refl _ _) rfl)
                        | 18, ho =>
                          simp only [List.getElem?_cons_succ, List.getElem?_cons_zero, Option.some.injEq] at ho
                          subst ho
                          simp only [Act.put, List.setIfInBounds_toArray, List.set_cons_zero, List.set_cons_succ] at hK
                          have h11 : u 11 = .slice S b.sh.length c1' := hd ⟨11, .data⟩ (by simp) rfl
                          have h17 : u 17 = .slice PA b.sh.length (T.length - d) := hd ⟨17, .data⟩ (by simp) rfl
                          simp only [h11, h17] at hK
                          refine wpOp_step rfl fun K' hK' => ?_
                          go_simp
                          refine (where_ok _ _ s ch _ (HG1.out.mono hbr) (HAT.out.mono hbr) HIN.out hs6 hsp4).mono ?_
                          rintro e w6 ⟨rfl, rfl⟩
                          rw [← HPP.out]
                          exact hK' _ _ (hK _ _ (Below.refl _ _) rfl)
                        | 19, ho =>
                          simp only [List.getElem?_cons_succ, List.getElem?_cons_zero, Option.some.injEq] at ho
                          subst ho
                          simp only [Act.put, List.setIfInBounds_toArray, List.set_cons_zero, List.set_cons_succ] at hK
                          first | (simp [Region.binds] at hd; simp only [hd] at hK) | skip
                          refine wpOp_step rfl fun K' hK' => ?_
                          go_simp
                          exact hK' _ _ (hK _ _ (Below.refl _ _) rfl)
                        | 20, ho =>
                          simp only [List.getElem?_cons_succ, List.getElem?_cons_zero, Option.some.injEq] at ho
                          subst ho
                          simp only [Act.put, List.setIfInBounds_toArray, List.set_cons_zero, List.set_cons_succ] at hK
                          have h19 : u 19 = .pointer (some (ax.add P)) := hd ⟨19, .data⟩ (by simp) rfl
                          have hcr := HCX.out wr hbr
                          simp only [h19] at hK
                          refine wpOp_step rfl fun K' hK' => ?_
                          go_simp
                          exact hK' _ _ (hK _ _ (Below.refl _ _) rfl)
                        | 21, ho =>
                          simp only [List.getElem?_cons_succ, List.getElem?_cons_zero, Option.some.injEq] at ho
                          subst ho
                          simp only [Act.put, List.setIfInBounds_toArray, List.set_cons_zero, List.set_cons_succ] at hK
                          have h0 : u 0 = .slice (some ⟨gf, 0, none⟩) bs.length bs.length := hd ⟨0, .data⟩ (by simp) rfl
                          have h1 : u 1 = .int .i64 k := hd ⟨1, .data⟩ (by simp) rfl
                          simp only [h0, h1] at hK
                          refine wpOp_step rfl fun K' hK' => ?_
                          go_simp
                          exact hK' _ _ (hK _ _ (Below.refl _ _) rfl)
                        | i + 22, ho => omega
                      case last =>
                        simp only [List.take_succ_cons, List.take_zero, putAll, Act.put, List.setIfInBounds_toArray, List.set_cons_zero, List.set_cons_succ, Nat.reduceAdd, Nat.zero_add]
                        intro u wr lo up hbr hv hj
                        have e21 : u 21 = .pointer (some ⟨gf, k, none⟩) := hv 21 (by omega)
                        have e20 : u 20 = .int .i64 x := hv 20 (by omega)
                        simp only [e21, e20]
                        clear hv hj e21 e20
                        have hrf := Box.below HRFX.out hbr
                        have gfk2 := hrf.cell k
                        have gff2 := Box.frozen hrf k
                        have gfl2 := Box.lt hrf
                        have gfk3 : wr.cell? ⟨gf, k, none⟩ = some (.int .i64 0) := Row.at_ hrf (fillTo_at (X := ints X) (k := k) (by rw [length_ints, HXL.out]; exact hlt))
                        clear gfk2
                        unfold tailWp
                        refine wpOp_step rfl fun K' hK' => ?_
                        go_simp
                        refine hK' _ _ ?_
                        clear hK'
                        have hst := Row.store hrf k x
                        rw [fillTo_set HXK.out] at hst
                        have HRF2 := Lib.hid hst
                        have HR52 := Lib.hid (Box.far (Box.below HR5X.out hbr) (p := ⟨gf, k, none⟩) (by simp; omega) (.int .i64 x))
                        have HOP2 := Lib.hid ((HOPX.out.below hbr).setCell (p := ⟨gf, k, none⟩) (fun e => by have := HOM.out _ e; simp at this; omega) (.int .i64 x))
                        have HBL2 := Lib.hid ((HBLX.out.trans (hbr.mono HBLX.out.size)).setCell (p := ⟨gf, k, none⟩) (by simp; omega) (.int .i64 x))
                        have HZ2 := Lib.hid (show wy.heap.size ≤ (wr.setCell ⟨gf, k, none⟩ (.int .i64 x)).heap.size by have := hbr.size; simp; omega)
                        clear hst hrf gff2 gfl2 gfk3
                        go_wp2_with fail
                        go_roundw
                        case rel => exact ⟨k + 1, d + b.sh.length, by omega, by go_num, by go_num, by rw [catSh_take HBK.out, List.length_append, HD.out], HRF2.out, HR52.out, HOP2.out, HBL2.out, by have := HZ2.out; omega, HOM.out⟩
                        case measure => simp [intOf]; omega
                    · obtain rfl : k = bs.length := by omega
                      rw [fillTo_end (by rw [length_ints, HXL.out])] at hrf
                      have HFI := Lib.hid (hrf.isInts (n := bs.length) (by rw [length_ints, HXL.out]) (by omega))
                      have HFN := Lib.hid (show Inside t X by rw [HX.out]; exact frs_inside HLEN.out HG.out HOKX.out (by rw [← HTT.out]; exact HCI.out))
                      have HSA := Lib.hid (((HS.out.mono HBW3.out).mono hbl).eq' H.out.sh)
                      have HPG := Lib.hid (show (placesOf t bs)[i]? = some ((place t X : Nat) : Int) by
                        have h1 := places_get HLEN.out HG.out HOKX.out (i := i) (by rw [← HTT.out]; exact HIP.out)
                        rwa [← HTT.out, ← HX.out] at h1)
                      have bA4 := HBA3.out.below hbl
                      obtain ⟨t0, t1, t2⟩ := bA4.three
                      have lA4 := bA4.lt
                      have hsz := hbl.size
                      have HWO := Lib.hid (where_ok _ _ t X wr HSA.out HFI.out HFN.out H.out.good.1 H.out.good.2.2)
                      obtain ⟨P, hP⟩ : ∃ P, P = place t X := ⟨_, rfl⟩
                      rw [← hP] at HPG HWO
                      clear hP hrf hr5 hd
                      go_wp2_with fail
                      refine HWO.out.mono ?_
                      rintro e w7 ⟨rfl, rfl⟩
                      go_wp2_with (at_builtin; refine wpList_append_ints _ rfl rfl _ _ rfl w3.heap.size i _ ((placesOf t bs).take i) rfl (hop.alloc _) (some ⟨wr.heap.size, 0, none⟩) 1 1 [(P : Int)] rfl (by simp) (elems_new wr P) rfl (by omega) (by simp; omega) ?_; intro A6 c6 w8 hown8 hgrow8 hat8)
                      go_roundw
                      case rel => exact ⟨i + 1, A6, c6, by omega, by go_num, rfl, by rw [← take_at HPG.out]; exact hown8, (hbl.alloc hbl.size _).grown hgrow8 (by simp; omega) (fun _ e => (hop.lt e).1)⟩
                      case measure => simp [intOf]; omega
                · obtain rfl : i = M := by omega
                  rw [List.take_of_length_le (by rw [HPL.out]; exact Nat.le_refl _)] at hop
                  have HSF := Lib.hid (HSI.out.mono (HBX.out.trans (hbl.mono HBX.out.size)))
                  go_wp2_with fail
                  refine bodyPost_ret (v := .tuple #[.slice A2 n c2, .slice A5 i c5, .int .i64 0]) (by simp [results, Tryd.results34, go_sem]) rfl ?_
                  exact ⟨_, _, by rw [HE.out], fun _ => ⟨HSF.out, hop.isInts⟩, HBW3.out.trans (hbl.mono HBW3.out.size)⟩

end Go.Proofs.YtikjniibfomadaaDoor
