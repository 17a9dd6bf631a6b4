/- Small facts on worlds: what is new leaves what was there. Conditions: none. -/
import Derived.Test.YtajcjipabfknhaaDoorMem
set_option linter.unusedSimpArgs false
set_option linter.unusedVariables false
namespace Go.Proofs.YtajcjipabfknhaaDoor
open Go Go.RowKit

theorem below_four (w : World) (o1 o2 o3 o4 : Obj) : Below w.heap.size w ((((w.alloc o1).alloc o2).alloc o3).alloc o4) := (below_three w o1 o2 o3).alloc (by simp; omega) o4
theorem below_five (w : World) (o1 o2 o3 o4 o5 : Obj) : Below w.heap.size w (((((w.alloc o1).alloc o2).alloc o3).alloc o4).alloc o5) := (below_four w o1 o2 o3 o4).alloc (by simp; omega) o5
theorem below_six (w : World) (o1 o2 o3 o4 o5 o6 : Obj) : Below w.heap.size w ((((((w.alloc o1).alloc o2).alloc o3).alloc o4).alloc o5).alloc o6) := (below_five w o1 o2 o3 o4 o5).alloc (by simp; omega) o6

end Go.Proofs.YtajcjipabfknhaaDoor
