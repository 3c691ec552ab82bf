/- The turns of words: the program's (load.Rot32, load.Rot64) and the reference's give rotateLeft. -/
import Derived.Test.YthjpnkjbkkeoaaaGives
import Derived.Test.YthjpnkjbkkeoaaaRotPlain
import Derived.Test.YthjpnkjbkkeoaaaProg
namespace Go.Proofs.Ythjpnkjbkkeoaaa
set_option linter.unusedVariables false
set_option linter.unusedSimpArgs false
open Go.RowKit


end Go.Proofs.Ythjpnkjbkkeoaaa
