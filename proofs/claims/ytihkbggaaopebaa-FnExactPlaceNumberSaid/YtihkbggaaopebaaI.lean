/- Functors and transformations, in the reference. No condition but those of each statement. -/
import Derived.Test.YtihkbggaaopebaaH
namespace Go.Proofs.Ytihkbggaaopebaa
open Go Go.GL Go.RowKit Go.Proofs
end Go.Proofs.Ytihkbggaaopebaa
