/- The walk of cut.Keep. Conditions: none. -/
import Derived.Test.YtikjniibfomadaaDoorOnesCut
import Derived.Test.YtikjniibfomadaaDoorMoved
import Derived.Test.YtikjniibfomadaaDoorPair
import Derived.Test.YtikjniibfomadaaDoorStore
import Derived.Test.YtikjniibfomadaaDoorHelp
namespace Go.Proofs.YtikjniibfomadaaDoor.P

def keepErr (m : List Int) (axis : Int) (a : Arr) : Int :=
  if arrErr a ≠ 0 then arrErr a else if axis < 0 ∨ (a.sh.length : Int) ≤ axis then 5 else if (m.length : Int) ≠ a.sh.getD axis.toNat 0 then 4 else if ¬ Mask m then 6 else 0

/-- One more piece. -/
theorem keep_take {a : Arr} {t : List Nat} {k : Nat} {m : List Int} (h : Ok a t) (hk : k < t.length) (hm : m.length = t.getD k 0) {o i : Nat} (ho : o < outerOf t k) (hi : m[i]? = some 1) {P L n : Nat} (hn : n = innerOf t k)
    (hP : P = (o * cnt m m.length + cnt m i) * n) (hL : L = (o * t.getD k 0 + i) * n) :
    (keep m k a).da.take P ++ (a.da.take (L + n)).drop L = (keep m k a).da.take (P + n) := by
  rw [List.drop_take, show L + n - L = n by omega]
  refine take_piece fun r hr => ?_
  rw [hP, hL, hn]
  exact keep_da h hk hm ho hi (r := r) (by rw [← hn]; exact hr)

end Go.Proofs.YtikjniibfomadaaDoor.P
namespace Go.Proofs.YtikjniibfomadaaDoor
open Go Go.RowKit Go.Proofs.YtikjniibfomadaaDoor.P

/-- Some more numbers behind the data of the array that is made. -/
theorem keep_step {W wr w4 : World} {d B : Nat} {g gs n cs : Nat} {v0 : Value} {A2 A4 : Option Addr} {c2 c4 p q : Nat} {xs ys ss : List Int}
    (h1 : Box wr g 24 #[v0, .slice (some ⟨gs, 0, none⟩) n cs, .slice A2 p c2]) (h2 : Owns wr (gs + 1) (.slice A2 p c2) p xs) (h3 : Mine wr gs n cs ss) (hg : g ≠ gs) (h5 : Below B W wr) (hB : B ≤ gs) (hB2 : B ≤ g) (hW : B ≤ wr.heap.size)
    (hgrow : (wr.drewN d).grownBy w4 (Value.slice A2 p c2).ownBlock) (hown : Owns w4 (gs + 1) (.slice A4 (p + q) c4) (p + q) ys) :
    Box (w4.setCell ⟨g, 2, none⟩ (.slice A4 (p + q) c4)) g 24 #[v0, .slice (some ⟨gs, 0, none⟩) n cs, .slice A4 (p + q) c4] ∧ Owns (w4.setCell ⟨g, 2, none⟩ (.slice A4 (p + q) c4)) (gs + 1) (.slice A4 (p + q) c4) (p + q) ys ∧
      Mine (w4.setCell ⟨g, 2, none⟩ (.slice A4 (p + q) c4)) gs n cs ss ∧ Below B W (w4.setCell ⟨g, 2, none⟩ (.slice A4 (p + q) c4)) := by
  have b4 := Box.grown (w := wr.drewN d) (h1.drewN d) hgrow (h2.ne_box h1 (by decide))
  have s := b4.store 2 (.slice A4 (p + q) c4)
  simp only [List.setIfInBounds_toArray, List.set_cons_zero, List.set_cons_succ] at s
  obtain ⟨cc, m1, m2⟩ := h3
  have m4 := (Box.grown (w := wr.drewN d) (m1.drewN d) hgrow (h2.ne_low (by omega))).far (p := ⟨g, 2, none⟩) (by simp; omega) (.slice A4 (p + q) c4)
  exact ⟨s, hown.setCell (p := ⟨g, 2, none⟩) (hown.ne_box b4 (by decide)) _, ⟨cc, m4, m2⟩, ((h5.trans (below_draws _ _ d)).grown hgrow hW (fun j e => by have := (h2.lt e).1; omega)).setCell (p := ⟨g, 2, none⟩) (by simp; omega) _⟩

end Go.Proofs.YtikjniibfomadaaDoor
