/- Functors and transformations, in the reference. No condition but those of each statement. -/
import Derived.Test.YtbpehbbdodahaaaH
namespace Go.Proofs.Ytbpehbbdodahaaa
open Go Go.GL Go.RowKit Go.Proofs
end Go.Proofs.Ytbpehbbdodahaaa
