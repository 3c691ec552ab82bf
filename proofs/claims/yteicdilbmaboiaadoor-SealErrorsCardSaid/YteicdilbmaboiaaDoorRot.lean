/- The turns of words: the program's (load.Rot32, load.Rot64) and the reference's give rotateLeft. -/
import Derived.Test.YteicdilbmaboiaaDoorGives
import Derived.Test.YteicdilbmaboiaaDoorRotPlain
import Derived.Test.YteicdilbmaboiaaDoorProg
namespace Go.Proofs.YteicdilbmaboiaaDoor
set_option linter.unusedVariables false
set_option linter.unusedSimpArgs false
open Go.RowKit


end Go.Proofs.YteicdilbmaboiaaDoor
