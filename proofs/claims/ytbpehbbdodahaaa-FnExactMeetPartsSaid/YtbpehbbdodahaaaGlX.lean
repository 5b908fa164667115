/- Set functors and their maps: what their laws are. No condition. -/
import Derived.Test.YtbpehbbdodahaaaGlV
import Derived.Test.YtbpehbbdodahaaaGlT
namespace Go.GL

/-- The first pair with a property, or (-1, 0). -/
def first2 (n : Nat) (len : Nat → Nat) (p : Nat → Nat → Bool) : Int × Int :=
  match firstN n fun a => (firstN (len a) (p a)).isSome with
  | some a => ((a : Int), (((firstN (len a) (p a)).getD 0 : Nat) : Int))
  | none => (-1, 0)
theorem first2_some {n a e : Nat} {len : Nat → Nat} {p : Nat → Nat → Bool} (ha : a < n) (he : e < len a) (h : p a e = true) (h1 : ∀ i, i < e → p a i = false) (h2 : ∀ b, b < a → ∀ i, i < len b → p b i = false) : first2 n len p = ((a : Int), (e : Int)) := by
  have e1 : firstN (len a) (p a) = some e := firstN_some he h h1
  have e2 : (firstN n fun a => (firstN (len a) (p a)).isSome) = some a := firstN_some ha (by rw [e1]; rfl) fun b hb => by rw [firstN_none (h2 b hb)]; rfl
  unfold first2
  rw [e2]
  simp only [e1, Option.getD_some]
theorem first2_none {n : Nat} {len : Nat → Nat} {p : Nat → Nat → Bool} (h2 : ∀ b, b < n → ∀ i, i < len b → p b i = false) : first2 n len p = (-1, 0) := by
  have e2 : (firstN n fun a => (firstN (len a) (p a)).isSome) = none := firstN_none fun b hb => by rw [firstN_none (h2 b hb)]; rfl
  unfold first2
  rw [e2]
theorem first2_neg {n : Nat} {len : Nat → Nat} {p : Nat → Nat → Bool} : (first2 n len p).1 < 0 ↔ ∀ b, b < n → ∀ i, i < len b → p b i = false := by
  refine ⟨fun h b hb i hi => ?_, fun h => by rw [first2_none h]; decide⟩
  unfold first2 at h
  split at h
  · simp only at h; omega
  · rename_i e
    unfold firstN at e
    rw [List.find?_range_eq_none] at e
    have := e b hb
    cases hp : p b i with
    | false => rfl
    | true =>
      exfalso
      cases e1 : firstN (len b) (p b) with
      | some x => unfold firstN at e1; rw [e1] at this; cases this
      | none =>
        unfold firstN at e1
        rw [List.find?_range_eq_none] at e1
        have := e1 i hi
        rw [hp] at this
        cases this

/-- The action of arrow a is a map between its sets. -/
def SFun.AcOk (f : SFun) (a : Nat) : Prop :=
  ((f.ac.getD a []).length : Int) = f.sz.getD (f.sh.src.getD a 0).toNat 0 ∧ allIn (f.ac.getD a []) (f.sz.getD (f.sh.tgt.getD a 0).toNat 0) = true
structure SFun.Shape (f : SFun) : Prop where
  c : f.sh.Is
  zl : (f.sz.length : Int) = f.sh.obj
  sz : ∀ i, i < f.sz.length → 0 ≤ f.sz.getD i 0 ∧ f.sz.getD i 0 ≤ 16
  al : f.ac.length = f.sh.src.length
  ac : ∀ a, a < f.ac.length → f.AcOk a
theorem SFun.Shape.act {f : SFun} (h : f.Shape) {a : Nat} (ha : a < f.ac.length) {e : Nat} (he : e < (f.ac.getD a []).length) : 0 ≤ (f.ac.getD a []).getD e 0 ∧ (f.ac.getD a []).getD e 0 < f.sz.getD (f.sh.tgt.getD a 0).toNat 0 := allIn_iff.1 (h.ac a ha).2 e he
/-- Where arrow a goes, and how large its sets are. -/
theorem SFun.Shape.ends {f : SFun} (h : f.Shape) {a : Nat} (ha : a < f.sh.src.length) : 0 ≤ f.sh.src.getD a 0 ∧ f.sh.src.getD a 0 < f.sz.length ∧ 0 ≤ f.sh.tgt.getD a 0 ∧ f.sh.tgt.getD a 0 < f.sz.length ∧ ((f.ac.getD a []).length : Int) = f.sz.getD (f.sh.src.getD a 0).toNat 0 := by
  have hS := h.c.1
  have q1 := hS.src a ha
  have q2 := hS.tgt a (by have := hS.tl; omega)
  have q3 := h.zl
  have q4 := (h.ac a (by have := h.al; omega)).1
  omega
structure SFun.Laws (f : SFun) : Prop where
  ids : ∀ x : Nat, x < f.sh.idn.length → ∀ e : Nat, e < (f.ac.getD (f.sh.idn.getD x 0).toNat []).length → (f.ac.getD (f.sh.idn.getD x 0).toNat []).getD e 0 = e
  th : ∀ a : Nat, a < f.sh.src.length → ∀ b : Nat, b < f.sh.src.length → f.sh.tgt.getD a 0 = f.sh.src.getD b 0 → ∀ e : Nat, e < (f.ac.getD a []).length →
    (f.ac.getD ((f.sh.comp.getD a []).getD b 0).toNat []).getD e 0 = (f.ac.getD b []).getD ((f.ac.getD a []).getD e 0).toNat 0
def SFun.Is (f : SFun) : Prop := f.Shape ∧ f.Laws

def SMap.PaOk (m : SMap) (x : Nat) : Prop := ((m.pa.getD x []).length : Int) = m.s.sz.getD x 0 ∧ allIn (m.pa.getD x []) (m.t.sz.getD x 0) = true
structure SMap.Fits (m : SMap) : Prop where
  pl : m.pa.length = m.s.sz.length
  pa : ∀ x, x < m.pa.length → m.PaOk x
structure SMap.Shape (m : SMap) : Prop where
  s : m.s.Is
  t : m.t.Is
  sh : m.s.sh = m.t.sh
  fits : m.Fits
/-- The square of arrow a and element e does not commute. -/
def SMap.bad (m : SMap) (a e : Nat) : Bool := decide (¬ (m.pa.getD (m.s.sh.tgt.getD a 0).toNat []).getD ((m.s.ac.getD a []).getD e 0).toNat 0 = (m.t.ac.getD a []).getD ((m.pa.getD (m.s.sh.src.getD a 0).toNat []).getD e 0).toNat 0)
def SMap.first (m : SMap) : Int × Int := first2 m.s.ac.length (fun a => (m.s.ac.getD a []).length) m.bad
def SMap.Is (m : SMap) : Prop := m.Shape ∧ ∀ a, a < m.s.ac.length → ∀ e, e < (m.s.ac.getD a []).length → m.bad a e = false
end Go.GL
