/- A text as an argument of a law. No condition. -/
import Derived.Test.YtdnjnligclkkgaaDoorZ10
import Derived.ChangeMaps5
namespace Go.GL
open Go.RowKit Go.WideShapes Go.ChangeShapes Go.Deep Go.WideMaps
theorem imp1_str {P : Program} {t : TypeId} (ht : isStringT P t = true) : Imp1 P t (fun _ g => ∃ s, g = .string s) where
  mono _ := id
  imp := by
    intro T enc B w0 ρ H w held base fuel v x hs hB h hv
    obtain ⟨s, rfl⟩ := okWide_string (isStringT_run ht) hv
    exact ⟨ρ, H, _, hs, .refl ρ, .refl H, .flat rfl, s, rfl⟩
end Go.GL
