/- Transformations, in the program. No condition but those of each statement. -/
import Derived.Test.YtfffkhjifgkhiaaG
namespace Go.Proofs.Ytfffkhjifgkhiaa
open Go Go.GL Go.RowKit Go.Proofs
end Go.Proofs.Ytfffkhjifgkhiaa
