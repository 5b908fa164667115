/- Transformations, in the program. No condition but those of each statement. -/
import Derived.Test.YtihkbggaaopebaaG
namespace Go.Proofs.Ytihkbggaaopebaa
open Go Go.GL Go.RowKit Go.Proofs
end Go.Proofs.Ytihkbggaaopebaa
