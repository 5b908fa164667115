/- Transformations, in the program. No condition but those of each statement. -/
import Derived.Test.YtgjicdipcofgcaaG
namespace Go.Proofs.Ytgjicdipcofgcaa
open Go Go.GL Go.RowKit Go.Proofs
end Go.Proofs.Ytgjicdipcofgcaa
