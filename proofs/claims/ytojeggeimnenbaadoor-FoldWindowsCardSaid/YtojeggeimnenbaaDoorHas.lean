/- The walk of the reference's Has: has an array a cell? Conditions: none. -/
import Derived.Test.YtojeggeimnenbaaDoorGround
import Derived.BigQuiet
import Derived.Deep.QuietTactic
set_option linter.unusedSimpArgs false
set_option linter.unusedVariables false
namespace Go.Proofs.YtojeggeimnenbaaDoor
open Go Go.RowKit Go.Proofs.YtojeggeimnenbaaDoor.P

end Go.Proofs.YtojeggeimnenbaaDoor
