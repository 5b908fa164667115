/- Parts of set functors. No condition. -/
import Derived.Test.YtbpehbbdodahaaaGlX
namespace Go.GL

def Rising (xs : List Int) : Prop := ∀ i, 1 ≤ i → i < xs.length → xs.getD (i - 1) 0 < xs.getD i 0
/-- The lists are a part of a set functor. -/
structure SFun.Part (f : SFun) (me : List (List Int)) : Prop where
  pl : me.length = f.sz.length
  rs : ∀ x, x < me.length → Rising (me.getD x []) ∧ allIn (me.getD x []) (f.sz.getD x 0) = true
  cl : ∀ a, a < f.ac.length → ∀ i, i < (me.getD (f.sh.src.getD a 0).toNat []).length → (me.getD (f.sh.tgt.getD a 0).toNat []).contains ((f.ac.getD a []).getD ((me.getD (f.sh.src.getD a 0).toNat []).getD i 0).toNat 0) = true
def BelowL (p q : List (List Int)) : Prop := ∀ x, x < p.length → ∀ i, i < (p.getD x []).length → (q.getD x []).contains ((p.getD x []).getD i 0) = true
end Go.GL
