/- The walk of the reference's Has: has an array a cell? Conditions: none. -/
import Derived.Test.YtikjniibfomadaaDoorBase
import Derived.Test.YtikjniibfomadaaDoorMake
import Derived.BigQuiet
import Derived.Deep.QuietTactic
namespace Go.Proofs.YtikjniibfomadaaDoor
open Go Go.RowKit Go.Proofs.YtikjniibfomadaaDoor.P

end Go.Proofs.YtikjniibfomadaaDoor
