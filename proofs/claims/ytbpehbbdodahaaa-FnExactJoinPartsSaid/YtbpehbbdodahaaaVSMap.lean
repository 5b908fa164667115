/- The laws' helpers for SetMap. No condition but those of each statement. -/
import Derived.Test.YtbpehbbdodahaaaV0
import Derived.Test.YtbpehbbdodahaaaGlV
import Derived.Test.YtbpehbbdodahaaaVSFun
namespace Go.Proofs.Ytbpehbbdodahaaa
open Go Go.GL Go.RowKit Go.Proofs
end Go.Proofs.Ytbpehbbdodahaaa
