/- Transformations, in the program. No condition but those of each statement. -/
import Derived.Test.YtbpehbbdodahaaaG
namespace Go.Proofs.Ytbpehbbdodahaaa
open Go Go.GL Go.RowKit Go.Proofs
end Go.Proofs.Ytbpehbbdodahaaa
