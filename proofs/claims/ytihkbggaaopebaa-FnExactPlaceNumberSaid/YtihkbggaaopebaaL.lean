/- Hom sets and inverses. No condition but those of each statement. -/
import Derived.Test.YtihkbggaaopebaaI
import Derived.Test.YtihkbggaaopebaaGlR
namespace Go.Proofs.Ytihkbggaaopebaa
open Go Go.GL Go.RowKit Go.Proofs
end Go.Proofs.Ytihkbggaaopebaa
