/- pick.Put, where it tells and where it does not. Conditions: none. -/
import Derived.Test.YtnjjapfdgddemaaPickPut
namespace Go.Proofs.Ytnjjapfdgddemaa
open Go Go.RowKit Go.Proofs.Ytnjjapfdgddemaa.P

/-- pick.Put, where it tells. -/
theorem put_okN {va vb vv : Value} {a v : Arr} {bs : List Arr} {w : World} (ha : IsArr w va a) (hb : IsArrs w vb bs) (hv : IsArr w vv v) (h : putErr a bs v = 0) : Calls Try.prog 13 #[va, vb, vv] w (GivesOkN (putOf a bs v) w) :=
  (pick_put ha hb hv).mono fun _ _ x => x.ok h
theorem put_ok {va vb vv : Value} {a v : Arr} {bs : List Arr} {w : World} (ha : IsArr w va a) (hb : IsArrs w vb bs) (hv : IsArr w vv v) (h : putErr a bs v = 0) : Calls Try.prog 13 #[va, vb, vv] w (GivesOk (putOf a bs v) w) :=
  (put_okN ha hb hv h).mono fun _ _ x => x.old
theorem put_bad {va vb vv : Value} {a v : Arr} {bs : List Arr} {w : World} (ha : IsArr w va a) (hb : IsArrs w vb bs) (hv : IsArr w vv v) (h : putErr a bs v ≠ 0) : Calls Try.prog 13 #[va, vb, vv] w (Fails zeroArr (putErr a bs v) w) :=
  (pick_put ha hb hv).mono fun _ _ x => x.elim (fun y => absurd y.1 h) (fun y => y.2)
theorem IsInts.eq {w : World} {v : Value} {xs ys : List Int} (h : IsInts w v xs) (e : xs = ys) : IsInts w v ys := e ▸ h

end Go.Proofs.Ytnjjapfdgddemaa
