/- The walk of ravelinsame.Joined. Conditions: the lists are not too long together. -/
import Derived.Test.YtojeggeimnenbaaDoorGround
set_option linter.unusedSimpArgs false
set_option linter.unusedVariables false
namespace Go.Proofs.YtojeggeimnenbaaDoor
open Go Go.RowKit Go.Proofs.YtojeggeimnenbaaDoor.P

theorem nil_ints (w : World) : IsInts w (.slice none 0 0) [] := (Owns.nil w 0).isInts

end Go.Proofs.YtojeggeimnenbaaDoor
