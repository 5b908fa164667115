/- Functors and transformations, in the reference. No condition but those of each statement. -/
import Derived.Test.YtfffkhjifgkhiaaH
namespace Go.Proofs.Ytfffkhjifgkhiaa
open Go Go.GL Go.RowKit Go.Proofs
end Go.Proofs.Ytfffkhjifgkhiaa
