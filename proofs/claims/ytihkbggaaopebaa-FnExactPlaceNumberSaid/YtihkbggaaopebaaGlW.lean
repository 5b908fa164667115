/- Cones over functors. No condition. -/
import Derived.Test.YtihkbggaaopebaaGlU
import Derived.Test.YtihkbggaaopebaaGlT
namespace Go.GL

structure Fun.Cone (d : Fun) (p : Con) : Prop where
  ap : 0 ≤ p.ap ∧ p.ap < d.t.obj
  ll : p.lg.length = d.ob.length
  lg : ∀ j, j < p.lg.length → 0 ≤ p.lg.getD j 0 ∧ p.lg.getD j 0 < d.t.src.length
  ends : ∀ j, j < p.lg.length → d.t.src.getD (p.lg.getD j 0).toNat 0 = p.ap ∧ d.t.tgt.getD (p.lg.getD j 0).toNat 0 = d.ob.getD j 0
  tri : ∀ a, a < d.ar.length → d.t.th (p.lg.getD (d.s.src.getD a 0).toNat 0) (d.ar.getD a 0) = p.lg.getD (d.s.tgt.getD a 0).toNat 0
/-- Where arrow a of a functor goes. -/
theorem Fun.Is.arr {f : Fun} (h : f.Is) {a : Nat} (ha : a < f.ar.length) : 0 ≤ f.s.src.getD a 0 ∧ f.s.src.getD a 0 < f.ob.length ∧ 0 ≤ f.s.tgt.getD a 0 ∧ f.s.tgt.getD a 0 < f.ob.length ∧ 0 ≤ f.ar.getD a 0 ∧ f.ar.getD a 0 < f.t.src.length ∧
    f.t.src.getD (f.ar.getD a 0).toNat 0 = f.ob.getD (f.s.src.getD a 0).toNat 0 ∧ f.t.tgt.getD (f.ar.getD a 0).toNat 0 = f.ob.getD (f.s.tgt.getD a 0).toNat 0 := by
  have hS := h.1.1
  have q0 := h.2.2.al
  have q1 := hS.src a (by omega)
  have q2 := hS.tgt a (by have := hS.tl; omega)
  have q3 := h.2.2.ol
  have q4 := h.2.2.ar a ha
  have q5 := h.2.2.ends a ha
  omega
def Fun.image (f : Fun) (p : Con) : Con := ⟨f.ob.getD p.ap.toNat 0, thenL p.lg f.ar⟩
def Con.zero : Con := ⟨0, []⟩
/-- What ImageCone hands back. -/
noncomputable def imageConeR (d : Fun) (p : Con) (f : Fun) : Con := bif B (d.Is ∧ f.Is) then (bif B (d.Cone p ∧ d.t = f.s) then f.image p else Con.zero) else Con.zero
noncomputable def imageConeC (d : Fun) (p : Con) (f : Fun) : Int := bif B (d.Is ∧ f.Is) then (bif B (d.Cone p ∧ d.t = f.s) then 0 else 5) else 1
theorem imageCone_1 {d f : Fun} {m : Con} (h : ¬ (d.Is ∧ f.Is)) : imageConeR d m f = Con.zero ∧ imageConeC d m f = 1 := by
  unfold imageConeR imageConeC; rw [B_false h]; exact ⟨rfl, rfl⟩
theorem imageCone_2 {d f : Fun} {m : Con} (h : d.Is ∧ f.Is) (h' : ¬ (d.Cone m ∧ d.t = f.s)) : imageConeR d m f = Con.zero ∧ imageConeC d m f = 5 := by
  unfold imageConeR imageConeC; rw [B_true h, B_false h']; exact ⟨rfl, rfl⟩
theorem imageCone_3 {d f : Fun} {m : Con} (h : d.Is ∧ f.Is) (h' : d.Cone m ∧ d.t = f.s) : imageConeR d m f = f.image m ∧ imageConeC d m f = 0 := by
  unfold imageConeR imageConeC; rw [B_true h, B_true h']; exact ⟨rfl, rfl⟩
theorem imageConeR_total {d f : Fun} {m : Con} : (imageConeR d m f).total ≤ m.total := by
  unfold imageConeR Fun.image Con.zero Con.total
  cases B (d.Is ∧ f.Is) <;> cases B (d.Cone m ∧ d.t = f.s) <;> simp
theorem imageConeR_small {d f : Fun} {m : Con} (hw : f.Wide) (hs : m.Small) : (imageConeR d m f).Small := by
  have h1 := hw.2.2.1.2 m.ap.toNat
  unfold imageConeR
  cases B (d.Is ∧ f.Is) <;> cases B (d.Cone m ∧ d.t = f.s)
  · exact ⟨⟨by simp [Con.zero], by simp [Con.zero]⟩, by simp [Con.zero]⟩
  · exact ⟨⟨by simp [Con.zero], by simp [Con.zero]⟩, by simp [Con.zero]⟩
  · exact ⟨⟨by simp [Con.zero], by simp [Con.zero]⟩, by simp [Con.zero]⟩
  · exact ⟨h1, by simp only [cond_true, Fun.image, length_thenL]; exact hs.2⟩
end Go.GL
