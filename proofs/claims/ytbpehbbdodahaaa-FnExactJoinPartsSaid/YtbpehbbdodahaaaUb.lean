/- Parts drawn back along a map. No condition but those of each statement. -/
import Derived.Test.YtbpehbbdodahaaaUa
namespace Go.Proofs.Ytbpehbbdodahaaa
open Go Go.GL Go.RowKit Go.Proofs
end Go.Proofs.Ytbpehbbdodahaaa
