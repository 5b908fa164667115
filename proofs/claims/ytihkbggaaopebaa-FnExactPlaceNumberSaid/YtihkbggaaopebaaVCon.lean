/- The laws' helpers for Cone. No condition but those of each statement. -/
import Derived.Test.YtihkbggaaopebaaV0
import Derived.Test.YtihkbggaaopebaaGlV
namespace Go.Proofs.Ytihkbggaaopebaa
open Go Go.GL Go.RowKit Go.Proofs
end Go.Proofs.Ytihkbggaaopebaa
