/- Equal lists, equal categories, in the program and in the reference. No condition but those of each statement. -/
import Derived.Test.YtbpehbbdodahaaaE
namespace Go.Proofs.Ytbpehbbdodahaaa
open Go Go.GL Go.RowKit Go.Proofs
theorem eqss_of_getD {xs ys : List (List Int)} (hl : xs.length = ys.length) (h : ∀ i, i < xs.length → xs.getD i [] = ys.getD i []) : xs = ys := by
  apply List.ext_getElem hl
  intro i h1 h2
  have := h i h1
  simpa [List.getD_eq_getElem?_getD, h1, h2] using this
theorem Cat.eq_iff {c d : Cat} : c = d ↔ c.obj = d.obj ∧ c.src = d.src ∧ c.tgt = d.tgt ∧ c.idn = d.idn ∧ c.comp = d.comp := by
  cases c; cases d; simp
end Go.Proofs.Ytbpehbbdodahaaa
