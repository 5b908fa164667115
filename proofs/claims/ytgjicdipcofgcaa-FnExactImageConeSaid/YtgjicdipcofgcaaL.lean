/- Hom sets and inverses. No condition but those of each statement. -/
import Derived.Test.YtgjicdipcofgcaaI
import Derived.Test.YtgjicdipcofgcaaGlR
namespace Go.Proofs.Ytgjicdipcofgcaa
open Go Go.GL Go.RowKit Go.Proofs
end Go.Proofs.Ytgjicdipcofgcaa
