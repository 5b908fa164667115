/- Classes of composites, the program's way. No condition but those of each statement. -/
import Derived.Test.YtgnfekfdmgnhcaaZ11
namespace Go.Proofs.Ytgnfekfdmgnhcaa
open Go Go.GL Go.RowKit Go.Proofs
set_option maxHeartbeats 4000000 in
theorem classesAt_c {g o' g' o1 b gt : Nat} {m k : Prof} {p q : ProfP} {x z : Int} {H : GHeap} (h : Prof.At H g o' m p) (h' : Prof.At H g' o1 k q) (v : TrAt b H gt (ccL m k x z)) (o : CcOk m k x z) (hL : (ccL m k x z).length ≤ 256) :
    GCalls Try.prog 78 [.pointer (some ⟨g, o', none⟩), .pointer (some ⟨g', o1, none⟩), .int .i64 x, .int .i64 z, .slice (some ⟨gt, 0, none⟩) (ccL m k x z).length (ccL m k x z).length] H (NewInts 2 H (joinL (ccL m k x z).length (ccI m k x z m.t.src.length 0 0))) := by
  obtain ⟨z8, z9⟩ := CtOk.of o.hm o.hk o.x0 o.x1 o.z0 o.z1 o.he
  have hx0 := o.x0
  have hz0 := o.z0
  have hto : m.t.obj ≤ k.sz.length ∧ m.t.obj ≤ (m.sz.getD x.toNat []).length ∧ x.toNat < m.sz.length := ⟨by have := z8.qn; omega, by have := z8.pn; omega, z8.xl⟩
  obtain ⟨ht1, ht2, ht3⟩ := hto
  have htl := o.hm.1.t.1.tl
  have hn40 := o.hm.1.t.1.n40
  have hbl : m.bh.length = m.t.src.length := o.hm.1.z.hl
  have hel : k.be.length = m.t.src.length := by rw [o.he]; exact o.hk.1.z.bl
  have nd : (ccL m k x z).Nodup := ctL_nodup
  have three : ∀ t ∈ ccL m k x z, t.length = 3 := v.three
  have hml := tlE_mem three (k := (ccL m k x z).length) (Nat.le_refl _)
  refine GCalls.body (N := 118) (rs := [.tmp 10]) Try.func78 rfl rfl rfl rfl (fun Qx hret hend => ?_)
  refine .forget (fr' := [(0, some _), (1, some _), (2, some _), (3, some _), (4, some _)]) ⟨rfl, rfl, rfl, rfl, rfl, trivial⟩ ?_
  have hle := GHeap.Le.refl H
  have base_h := h
  have base_h' := h'
  obtain ⟨fs, ft, c10, c11, c12, i2, i3, i4⟩ := h.get
  have hm : MemN _ _ _ _ _ := ⟨rfl, h.1⟩
  have hi := h.2
  have hms : MemN _ _ _ _ _ := ⟨rfl, fs.1⟩
  have his := fs.2
  have hmt : MemN _ _ _ _ _ := ⟨rfl, ft.1⟩
  have hit := ft.2
  obtain ⟨fsb, ftb, c10b, c11b, c12b, i2b, i3b, i4b⟩ := h'.get
  have hmb : MemN _ _ _ _ _ := ⟨rfl, h'.1⟩
  have hib := h'.2
  have hmsb : MemN _ _ _ _ _ := ⟨rfl, fsb.1⟩
  have hisb := fsb.2
  have hmtb : MemN _ _ _ _ _ := ⟨rfl, ftb.1⟩
  have hitb := ftb.2
  obtain ⟨d0, d1, d2, d3, d4, e1, e2, e3, e4⟩ := ft.get
  refine .seq (fun K1 hK1 => ?_)
  refine .region (.m rfl rfl rfl (.assign rfl) (.nil ?_))
  refine hK1 _ _ ?_
  refine .seq (fun K2 hK2 => ?_)
  refine .region (.m rfl rfl rfl (.move rfl) ?_)
  refine .call rfl rfl rfl rfl @Try.call124 rfl (numbered_c v nd (by omega)) ?_
  rintro _ H20 ⟨le20, g20, rfl, at20, ge20⟩
  have nx_H20 := le20.1
  replace hle := hle.trans le20
  have lt_at20 := GHeap.lt_of_get at20
  replace h := base_h.mono hle
  replace h' := base_h'.mono hle
  clear fs ft c10 c11 c12 i2 i3 i4 hm hi hms his hmt hit fsb ftb c10b c11b c12b i2b i3b i4b hmb hib hmsb hisb hmtb hitb d0 d1 d2 d3 d4 e1 e2 e3 e4
  obtain ⟨fs, ft, c10, c11, c12, i2, i3, i4⟩ := h.get
  have hm : MemN _ _ _ _ _ := ⟨rfl, h.1⟩
  have hi := h.2
  have hms : MemN _ _ _ _ _ := ⟨rfl, fs.1⟩
  have his := fs.2
  have hmt : MemN _ _ _ _ _ := ⟨rfl, ft.1⟩
  have hit := ft.2
  obtain ⟨fsb, ftb, c10b, c11b, c12b, i2b, i3b, i4b⟩ := h'.get
  have hmb : MemN _ _ _ _ _ := ⟨rfl, h'.1⟩
  have hib := h'.2
  have hmsb : MemN _ _ _ _ _ := ⟨rfl, fsb.1⟩
  have hisb := fsb.2
  have hmtb : MemN _ _ _ _ _ := ⟨rfl, ftb.1⟩
  have hitb := ftb.2
  obtain ⟨d0, d1, d2, d3, d4, e1, e2, e3, e4⟩ := ft.get
  refine .m rfl rfl rfl (.assign rfl) (.nil ?_)
  refine hK2 _ _ ?_
  refine .seq (fun K3 hK3 => ?_)
  refine .region (.m rfl rfl rfl (.move rfl) (.m rfl rfl rfl (.len sl_103_Ct rfl) ?_))
  refine .call rfl rfl rfl rfl @Try.call93 rfl (joinerOf_c) ?_
  rintro _ H23 ⟨le23, g23, rfl, at23, ge23⟩
  have nx_H23 := le23.1
  replace hle := hle.trans le23
  replace at20 := le23.2 _ _ at20
  have lt_at23 := GHeap.lt_of_get at23
  replace h := base_h.mono hle
  replace h' := base_h'.mono hle
  clear fs ft c10 c11 c12 i2 i3 i4 hm hi hms his hmt hit fsb ftb c10b c11b c12b i2b i3b i4b hmb hib hmsb hisb hmtb hitb d0 d1 d2 d3 d4 e1 e2 e3 e4
  obtain ⟨fs, ft, c10, c11, c12, i2, i3, i4⟩ := h.get
  have hm : MemN _ _ _ _ _ := ⟨rfl, h.1⟩
  have hi := h.2
  have hms : MemN _ _ _ _ _ := ⟨rfl, fs.1⟩
  have his := fs.2
  have hmt : MemN _ _ _ _ _ := ⟨rfl, ft.1⟩
  have hit := ft.2
  obtain ⟨fsb, ftb, c10b, c11b, c12b, i2b, i3b, i4b⟩ := h'.get
  have hmb : MemN _ _ _ _ _ := ⟨rfl, h'.1⟩
  have hib := h'.2
  have hmsb : MemN _ _ _ _ _ := ⟨rfl, fsb.1⟩
  have hisb := fsb.2
  have hmtb : MemN _ _ _ _ _ := ⟨rfl, ftb.1⟩
  have hitb := ftb.2
  obtain ⟨d0, d1, d2, d3, d4, e1, e2, e3, e4⟩ := ft.get
  have i23 := Ints.of_get at23
  refine .m rfl rfl rfl (.assign rfl) (.nil ?_)
  refine hK3 _ _ ?_
  refine .seq (fun K4 hK4 => ?_)
  refine .region (.m rfl rfl rfl (.move rfl) (.m rfl rfl rfl (.nilCheck rfl) (.m rfl rfl rfl (.fieldAddr fo_40_1_VProf rfl) ?_)))
  refine .m rfl rfl rfl (.assign rfl) (.nil ?_)
  refine hK4 _ _ ?_
  refine .seq (fun K5 hK5 => ?_)
  refine .seq (fun K6 hK6 => ?_)
  refine .region (.m rfl rfl rfl (.move rfl) (.m rfl rfl rfl (.nilCheck rfl) (.m rfl rfl rfl (.fieldAddr fo_27_1_B rfl) ?_)))
  refine .m rfl rfl rfl (.load on_22_B rfl (by assumption)) ?_
  refine .m rfl rfl rfl (.len sl_22_A rfl) (.m rfl rfl rfl (.move rfl) (.nil ?_))
  refine hK6 _ _ ?_
  refine .block ?_
  have hnl : (numsL (((ccL m k x z).length : Int).toNat)).length = (ccL m k x z).length := by rw [length_numsL, Int.toNat_natCast]
  refine .loopR (σ := Nat × List Int) [(0, some _), (1, some _), (2, some _), (3, some _), (11, some _), (12, some _), (13, some _), (31, some _)] (fun (b, js) => [(32, some (.int .i64 (b : Int)))]) (fun (b, js) H' => St [g23] H23 H' ∧ H'.get g23 = some (.row (ints js) 2 true) ∧ b ≤ m.t.src.length ∧ RootK js (joinK (ccI m k x z b 0 0)) (numsL (((ccL m k x z).length : Int).toNat)).length) (fun (b, js) => m.t.src.length - b) ((0, numsL (((ccL m k x z).length : Int).toNat))) ⟨rfl, rfl, rfl, rfl, rfl, rfl, rfl, rfl, trivial⟩ ⟨rfl, trivial⟩ ?_ ?_
  ·
   refine ⟨.refl _ _, by first | assumption | exact at23 | simpa using at23, ?_⟩
   exact ⟨by omega, RootK.start rfl fun i hi => numsL_get (by rw [length_numsL] at hi; exact hi)⟩
  rintro ⟨b, js⟩ HL1 ⟨lst1, at_L12, hI⟩ KL1 hKL1
  refine .forget (fr' := [(32, some (.int .i64 (b : Int))), (0, some _), (1, some _), (2, some _), (3, some _), (11, some _), (12, some _), (13, some _), (31, some _)]) ⟨rfl, rfl, rfl, rfl, rfl, rfl, rfl, rfl, rfl, trivial⟩ ?_
  have nx_HL1 := lst1.nx
  replace hle := hle.st lst1 (fun k hk => ⟨by omega, trivial⟩)
  have ne_g20_g23 : g20 ≠ g23 := by omega
  replace at20 := lst1.same _ _ ⟨ne_g20_g23, trivial⟩ at20
  have lt_at_L12 := GHeap.lt_of_get at_L12
  replace h := base_h.mono hle
  replace h' := base_h'.mono hle
  clear fs ft c10 c11 c12 i2 i3 i4 hm hi hms his hmt hit fsb ftb c10b c11b c12b i2b i3b i4b hmb hib hmsb hisb hmtb hitb d0 d1 d2 d3 d4 e1 e2 e3 e4
  obtain ⟨fs, ft, c10, c11, c12, i2, i3, i4⟩ := h.get
  have hm : MemN _ _ _ _ _ := ⟨rfl, h.1⟩
  have hi := h.2
  have hms : MemN _ _ _ _ _ := ⟨rfl, fs.1⟩
  have his := fs.2
  have hmt : MemN _ _ _ _ _ := ⟨rfl, ft.1⟩
  have hit := ft.2
  obtain ⟨fsb, ftb, c10b, c11b, c12b, i2b, i3b, i4b⟩ := h'.get
  have hmb : MemN _ _ _ _ _ := ⟨rfl, h'.1⟩
  have hib := h'.2
  have hmsb : MemN _ _ _ _ _ := ⟨rfl, fsb.1⟩
  have hisb := fsb.2
  have hmtb : MemN _ _ _ _ _ := ⟨rfl, ftb.1⟩
  have hitb := ftb.2
  obtain ⟨d0, d1, d2, d3, d4, e1, e2, e3, e4⟩ := ft.get
  clear i23
  have i23 := Ints.of_get at23
  obtain ⟨hb, hJ⟩ := hI
  refine .seq (fun K7 hK7 => ?_)
  refine .region (.m rfl rfl rfl (.cmp rfl rfl rfl) (.nil ?_))
  refine hK7 _ _ ?_
  refine .seq (fun K8 hK8 => ?_)
  refine .cond rfl (fun h33 => ?_) (fun h33 => ?_)
  ·
   simp only [sps] at h33
   have hbl2 : b < m.t.src.length := by omega
   obtain ⟨a0, a1, a2, a3, a4, a5, a6, a7, a8, a9, a10, a11⟩ := o.arrow hbl2
   have hA1 : (ccA1 m x b : Int) = (m.sz.getD x.toNat []).getD (m.t.src.getD b 0).toNat 0 := by unfold ccA1; omega
   have hA2 : (ccA2 m k z b : Int) = (k.sz.getD (m.t.tgt.getD b 0).toNat []).getD z.toNat 0 := by unfold ccA2; omega
   have hw2 := z8.qe (m.t.tgt.getD b 0).toNat (by omega)
   have u1 := i2.2 x.toNat (by omega)
   have u3 := i2b.2 (m.t.tgt.getD b 0).toNat (by omega)
   have v1 := i4.2 b (by omega)
   have v2 := v1.2 x.toNat (by omega)
   have w1 := i3b.2 b (by omega)
   have w2 := w1.2 z.toNat (by omega)
   refine .skip ?_
   refine hK8 _ _ ?_
   refine .seq (fun K9 hK9 => ?_)
   refine .block ?_
   refine .seq (fun K10 hK10 => ?_)
   refine .region (.m rfl rfl rfl (.move rfl) (.m rfl rfl rfl (.assign rfl) (.nil ?_)))
   refine hK10 _ _ ?_
   refine .seq (fun K11 hK11 => ?_)
   refine .regionD mixed_orders_B (.q 0 (.q 1 (.q 2 (.q 3 (.q 4 (.q 5 (.q 6 (.q 7 (.q 8 (.q 9 (.q 10 (.q 11 (.q 12 (.q 13 (.q 14 (.q 15 (.done))))))))))))))))) (by kernel_rfl) ?_
   refine .m rfl rfl rfl rfl (.refl _) (.move rfl) (.m rfl rfl rfl rfl (.refl _) (.nilCheck rfl) (.m rfl rfl rfl rfl (.refl _) (.fieldAddr fo_27_1_B rfl) ?_))
   refine .m rfl rfl rfl rfl (.refl _) (.load on_22_B rfl (by assumption)) ?_
   refine .m rfl rfl rfl rfl (.refl _) (.move rfl) ?_
   refine .m rfl rfl rfl rfl (.refl _) (.idxN sl_22_A (by assumption) rfl rfl (by omega)) ?_
   refine .m rfl rfl rfl rfl (.refl _) (.loadI on_2_A (by assumption) rfl (by omega)) ?_
   refine .m rfl rfl rfl rfl (.refl _) (.move rfl) (.m rfl rfl rfl rfl (.refl _) (.nilCheck rfl) (.m rfl rfl rfl rfl (.refl _) (.fieldAddr fo_27_2_B rfl) ?_))
   refine .m rfl rfl rfl rfl (.refl _) (.load on_22_B rfl (by assumption)) ?_
   refine .m rfl rfl rfl rfl (.refl _) (.move rfl) ?_
   refine .m rfl rfl rfl rfl (.refl _) (.idxN sl_22_A (by assumption) rfl rfl (by omega)) ?_
   refine .m rfl rfl rfl rfl (.refl _) (.loadI on_2_A (by assumption) rfl (by omega)) ?_
   refine .m rfl rfl rfl rfl (.refl _) (.assign rfl) (.m rfl rfl rfl rfl (.refl _) (.assign rfl) ?_)
   refine .done ?_
   refine hK11 _ _ ?_
   refine .seq (fun K12 hK12 => ?_)
   refine .region (.m rfl rfl rfl (.move rfl) (.m rfl rfl rfl (.nilCheck rfl) (.m rfl rfl rfl (.fieldAddr fo_40_2_VProf rfl) ?_)))
   refine .m rfl rfl rfl (.load on_23_B rfl (by assumption)) ?_
   refine .m rfl rfl rfl (.move rfl) ?_
   refine .m rfl rfl rfl (.idx1 sl_23_B (Intss.sl (by assumption)) rfl rfl (by omega) (by omega)) ?_
   refine .m rfl rfl rfl (.loadR on_22_B (by assumption) rfl (by omega)) ?_
   refine .m rfl rfl rfl (.move rfl) ?_
   refine .m rfl rfl rfl (.idx1 sl_22_A (by assumption) rfl rfl (by omega) (by omega)) ?_
   refine .m rfl rfl rfl (.loadI on_2_A (by assumption) rfl (by omega)) ?_
   refine .m rfl rfl rfl (.move rfl) (.nil ?_)
   refine hK12 _ _ ?_
   refine .block ?_
   refine .loopR (σ := Nat × List Int) [(0, some _), (1, some _), (2, some _), (3, some _), (11, some _), (12, some _), (13, some _), (14, some _), (15, some _), (16, some _), (31, some _), (32, some _), (58, some _)] (fun (e, js2) => [(59, some (.int .i64 (e : Int)))]) (fun (e, js2) H' => St [g23] HL1 H' ∧ H'.get g23 = some (.row (ints js2) 2 true) ∧ e ≤ ccA1 m x b ∧ RootK js2 (joinK (ccI m k x z b e 0)) (numsL (((ccL m k x z).length : Int).toNat)).length) (fun (e, js2) => ccA1 m x b - e) ((0, js)) ⟨rfl, rfl, rfl, rfl, rfl, rfl, rfl, rfl, rfl, rfl, rfl, rfl, rfl, trivial⟩ ⟨rfl, trivial⟩ ?_ ?_
   ·
    refine ⟨.refl _ _, by first | assumption | exact at_L12 | simpa using at_L12, ?_⟩
    exact ⟨by omega, hJ⟩
   rintro ⟨e, js2⟩ HL2 ⟨lst2, at_L12, hI⟩ KL2 hKL2
   refine .forget (fr' := [(59, some (.int .i64 (e : Int))), (0, some _), (1, some _), (2, some _), (3, some _), (11, some _), (12, some _), (13, some _), (14, some _), (15, some _), (16, some _), (31, some _), (32, some _), (58, some _)]) ⟨rfl, rfl, rfl, rfl, rfl, rfl, rfl, rfl, rfl, rfl, rfl, rfl, rfl, rfl, trivial⟩ ?_
   have nx_HL2 := lst2.nx
   replace hle := hle.st lst2 (fun k hk => ⟨by omega, trivial⟩)
   replace lst1 := lst1.st lst2 (fun k hk ho => by simp only [out, and_true] at ho ⊢ <;> first | omega | (first | exact ho | exact ho.1 | exact ho.2 | exact ho.2.1 | exact ho.2.2 | exact ho.2.2.1 | exact ho.2.2.2))
   replace at20 := lst2.same _ _ ⟨ne_g20_g23, trivial⟩ at20
   have lt_at_L12 := GHeap.lt_of_get at_L12
   replace h := base_h.mono hle
   replace h' := base_h'.mono hle
   clear fs ft c10 c11 c12 i2 i3 i4 hm hi hms his hmt hit fsb ftb c10b c11b c12b i2b i3b i4b hmb hib hmsb hisb hmtb hitb d0 d1 d2 d3 d4 e1 e2 e3 e4
   obtain ⟨fs, ft, c10, c11, c12, i2, i3, i4⟩ := h.get
   have hm : MemN _ _ _ _ _ := ⟨rfl, h.1⟩
   have hi := h.2
   have hms : MemN _ _ _ _ _ := ⟨rfl, fs.1⟩
   have his := fs.2
   have hmt : MemN _ _ _ _ _ := ⟨rfl, ft.1⟩
   have hit := ft.2
   obtain ⟨fsb, ftb, c10b, c11b, c12b, i2b, i3b, i4b⟩ := h'.get
   have hmb : MemN _ _ _ _ _ := ⟨rfl, h'.1⟩
   have hib := h'.2
   have hmsb : MemN _ _ _ _ _ := ⟨rfl, fsb.1⟩
   have hisb := fsb.2
   have hmtb : MemN _ _ _ _ _ := ⟨rfl, ftb.1⟩
   have hitb := ftb.2
   obtain ⟨d0, d1, d2, d3, d4, e1, e2, e3, e4⟩ := ft.get
   clear i23
   have i23 := Ints.of_get at23
   clear u1 u3 v1 v2 w1 w2
   have u1 := i2.2 x.toNat (by omega)
   have u3 := i2b.2 (m.t.tgt.getD b 0).toNat (by omega)
   have v1 := i4.2 b (by omega)
   have v2 := v1.2 x.toNat (by omega)
   have w1 := i3b.2 b (by omega)
   have w2 := w1.2 z.toNat (by omega)
   obtain ⟨he2, hJ⟩ := hI
   refine .seq (fun K13 hK13 => ?_)
   refine .region (.m rfl rfl rfl (.cmp rfl rfl rfl) (.nil ?_))
   refine hK13 _ _ ?_
   refine .seq (fun K14 hK14 => ?_)
   refine .cond rfl (fun h60 => ?_) (fun h60 => ?_)
   ·
    simp only [sps] at h60
    have he3 : e < ((m.bh.getD b []).getD x.toNat []).length := by omega
    refine .skip ?_
    refine hK14 _ _ ?_
    refine .seq (fun K15 hK15 => ?_)
    refine .block ?_
    refine .seq (fun K16 hK16 => ?_)
    refine .region (.m rfl rfl rfl (.move rfl) (.m rfl rfl rfl (.assign rfl) (.nil ?_)))
    refine hK16 _ _ ?_
    refine .seq (fun K17 hK17 => ?_)
    refine .region (.m rfl rfl rfl (.move rfl) (.m rfl rfl rfl (.nilCheck rfl) (.m rfl rfl rfl (.fieldAddr fo_40_2_VProf rfl) ?_)))
    refine .m rfl rfl rfl (.load on_23_B rfl (by assumption)) ?_
    refine .m rfl rfl rfl (.move rfl) ?_
    refine .m rfl rfl rfl (.idx1 sl_23_B (Intss.sl (by assumption)) rfl rfl (by omega) (by omega)) ?_
    refine .m rfl rfl rfl (.loadR on_22_B (by assumption) rfl (by omega)) ?_
    refine .m rfl rfl rfl (.move rfl) ?_
    refine .m rfl rfl rfl (.idx1 sl_22_A (by assumption) rfl rfl (by omega) (by omega)) ?_
    refine .m rfl rfl rfl (.loadI on_2_A (by assumption) rfl (by omega)) ?_
    refine .m rfl rfl rfl (.move rfl) (.nil ?_)
    refine hK17 _ _ ?_
    refine .block ?_
    refine .loopR (σ := Nat × List Int) [(0, some _), (1, some _), (2, some _), (3, some _), (11, some _), (12, some _), (13, some _), (14, some _), (15, some _), (16, some _), (17, some _), (31, some _), (32, some _), (58, some _), (59, some _), (71, some _)] (fun (d, js3) => [(72, some (.int .i64 (d : Int)))]) (fun (d, js3) H' => St [g23] HL2 H' ∧ H'.get g23 = some (.row (ints js3) 2 true) ∧ d ≤ ccA2 m k z b ∧ RootK js3 (joinK (ccI m k x z b e d)) (numsL (((ccL m k x z).length : Int).toNat)).length) (fun (d, js3) => ccA2 m k z b - d) ((0, js2)) ⟨rfl, rfl, rfl, rfl, rfl, rfl, rfl, rfl, rfl, rfl, rfl, rfl, rfl, rfl, rfl, rfl, trivial⟩ ⟨rfl, trivial⟩ ?_ ?_
    ·
     refine ⟨.refl _ _, by first | assumption | exact at_L12 | simpa using at_L12, ?_⟩
     exact ⟨by omega, hJ⟩
    rintro ⟨d, js3⟩ HL3 ⟨lst3, at_L12, hI⟩ KL3 hKL3
    refine .forget (fr' := [(72, some (.int .i64 (d : Int))), (0, some _), (1, some _), (2, some _), (3, some _), (11, some _), (12, some _), (13, some _), (14, some _), (15, some _), (16, some _), (17, some _), (31, some _), (32, some _), (58, some _), (59, some _), (71, some _)]) ⟨rfl, rfl, rfl, rfl, rfl, rfl, rfl, rfl, rfl, rfl, rfl, rfl, rfl, rfl, rfl, rfl, rfl, trivial⟩ ?_
    have nx_HL3 := lst3.nx
    replace hle := hle.st lst3 (fun k hk => ⟨by omega, trivial⟩)
    replace lst1 := lst1.st lst3 (fun k hk ho => by simp only [out, and_true] at ho ⊢ <;> first | omega | (first | exact ho | exact ho.1 | exact ho.2 | exact ho.2.1 | exact ho.2.2 | exact ho.2.2.1 | exact ho.2.2.2))
    replace lst2 := lst2.st lst3 (fun k hk ho => by simp only [out, and_true] at ho ⊢ <;> first | omega | (first | exact ho | exact ho.1 | exact ho.2 | exact ho.2.1 | exact ho.2.2 | exact ho.2.2.1 | exact ho.2.2.2))
    replace at20 := lst3.same _ _ ⟨ne_g20_g23, trivial⟩ at20
    have lt_at_L12 := GHeap.lt_of_get at_L12
    replace h := base_h.mono hle
    replace h' := base_h'.mono hle
    clear fs ft c10 c11 c12 i2 i3 i4 hm hi hms his hmt hit fsb ftb c10b c11b c12b i2b i3b i4b hmb hib hmsb hisb hmtb hitb d0 d1 d2 d3 d4 e1 e2 e3 e4
    obtain ⟨fs, ft, c10, c11, c12, i2, i3, i4⟩ := h.get
    have hm : MemN _ _ _ _ _ := ⟨rfl, h.1⟩
    have hi := h.2
    have hms : MemN _ _ _ _ _ := ⟨rfl, fs.1⟩
    have his := fs.2
    have hmt : MemN _ _ _ _ _ := ⟨rfl, ft.1⟩
    have hit := ft.2
    obtain ⟨fsb, ftb, c10b, c11b, c12b, i2b, i3b, i4b⟩ := h'.get
    have hmb : MemN _ _ _ _ _ := ⟨rfl, h'.1⟩
    have hib := h'.2
    have hmsb : MemN _ _ _ _ _ := ⟨rfl, fsb.1⟩
    have hisb := fsb.2
    have hmtb : MemN _ _ _ _ _ := ⟨rfl, ftb.1⟩
    have hitb := ftb.2
    obtain ⟨d0, d1, d2, d3, d4, e1, e2, e3, e4⟩ := ft.get
    clear i23
    have i23 := Ints.of_get at23
    clear u1 u3 v1 v2 w1 w2
    have u1 := i2.2 x.toNat (by omega)
    have u3 := i2b.2 (m.t.tgt.getD b 0).toNat (by omega)
    have v1 := i4.2 b (by omega)
    have v2 := v1.2 x.toNat (by omega)
    have w1 := i3b.2 b (by omega)
    have w2 := w1.2 z.toNat (by omega)
    obtain ⟨hd, hJ⟩ := hI
    refine .seq (fun K18 hK18 => ?_)
    refine .region (.m rfl rfl rfl (.cmp rfl rfl rfl) (.nil ?_))
    refine hK18 _ _ ?_
    refine .seq (fun K19 hK19 => ?_)
    refine .cond rfl (fun h73 => ?_) (fun h73 => ?_)
    ·
     simp only [sps] at h73
     have hd3 : d < ((k.be.getD b []).getD z.toNat []).length := by omega
     have hpp := o.pr hbl2 (show e < ccA1 m x b by omega) (show d < ccA2 m k z b by omega)
     have hp1 := lookT_all nd hpp.mT
     have hp2 := lookT_all nd hpp.mU
     obtain ⟨uu, uu1, _, uu3⟩ := idxLL_mem nd hpp.mT
     obtain ⟨vv, vv1, _, vv3⟩ := idxLL_mem nd hpp.mU
     rw [uu3] at hp1
     rw [vv3] at hp2
     have hpr : ccPr m k x z b e d = ((uu : Int).toNat, (vv : Int).toNat) := by unfold ccPr; rw [uu3, vv3]
     refine .skip ?_
     refine hK19 _ _ ?_
     refine .seq (fun K20 hK20 => ?_)
     refine .block ?_
     refine .seq (fun K21 hK21 => ?_)
     refine .region (.m rfl rfl rfl (.move rfl) (.m rfl rfl rfl (.assign rfl) (.nil ?_)))
     refine hK21 _ _ ?_
     refine .regionD mixed_orders_B (.q 0 (.q 1 (.q 2 (.q 3 (.q 4 (.q 5 (.q 6 (.q 7 (.q 8 (.q 9 (.q 10 (.q 11 (.q 12 (.q 13 (.q 14 (.q 15 (.q 16 (.q 17 (.q 18 (.q 19 (.q 20 (.q 21 (.q 22 (.q 23 (.q 24 (.q 25 (.q 26 (.q 27 (.q 28 (.q 29 (.q 30 (.q 31 (.q 32 (.q 33 (.q 34 (.q 35 (.q 36 (.c 37 0 (.done))))))))))))))))))))))))))))))))))))))) (by kernel_rfl) ?_
     refine .m rfl rfl rfl rfl (.refl _) (.move rfl) (.m rfl rfl rfl rfl (.refl _) (.move rfl) (.m rfl rfl rfl rfl (.refl _) (.move rfl) (.m rfl rfl rfl rfl (.refl _) (.move rfl) ?_)))
     refine .m rfl rfl rfl rfl (.refl _) (.nilCheck rfl) (.m rfl rfl rfl rfl (.refl _) (.fieldAddr fo_40_4_VProf rfl) ?_)
     refine .m rfl rfl rfl rfl (.refl _) (.load on_34_VProf rfl (by assumption)) ?_
     refine .m rfl rfl rfl rfl (.refl _) (.move rfl) ?_
     refine .m rfl rfl rfl rfl (.refl _) (.idxN sl_34_VZ (Intsss.sl (by assumption)) rfl rfl (by omega)) ?_
     refine .m rfl rfl rfl rfl (.refl _) (.loadRR on_23_B (by assumption) rfl (by omega)) ?_
     refine .m rfl rfl rfl rfl (.refl _) (.move rfl) ?_
     refine .m rfl rfl rfl rfl (.refl _) (.idx1 sl_23_B (Intss.sl (by assumption)) rfl rfl (by omega) (by omega)) ?_
     refine .m rfl rfl rfl rfl (.refl _) (.loadR on_22_B (by assumption) rfl (by omega)) ?_
     refine .m rfl rfl rfl rfl (.refl _) (.move rfl) ?_
     refine .m rfl rfl rfl rfl (.refl _) (.idxN sl_22_A (by assumption) rfl rfl (by omega)) ?_
     refine .m rfl rfl rfl rfl (.refl _) (.loadI on_2_A (by assumption) rfl (by omega)) ?_
     refine .m rfl rfl rfl rfl (.refl _) (.move rfl) (.m rfl rfl rfl rfl (.refl _) (.build bt_156_Ct rfl rfl rfl) ?_)
     refine .m rfl rfl rfl rfl (.refl _) (.lookupT mtt_153_Cc keyT3 zv_2_Pb rfl rfl (j := ccT m x b e d) rfl hml (by assumption)) ?_
     refine .m rfl rfl rfl rfl (.refl _) (.move rfl) (.m rfl rfl rfl rfl (.refl _) (.move rfl) (.m rfl rfl rfl rfl (.refl _) (.move rfl) (.m rfl rfl rfl rfl (.refl _) (.move rfl) ?_)))
     refine .m rfl rfl rfl rfl (.refl _) (.nilCheck rfl) (.m rfl rfl rfl rfl (.refl _) (.fieldAddr fo_40_3_VProf rfl) ?_)
     refine .m rfl rfl rfl rfl (.refl _) (.load on_34_VProf rfl (by assumption)) ?_
     refine .m rfl rfl rfl rfl (.refl _) (.move rfl) ?_
     refine .m rfl rfl rfl rfl (.refl _) (.idxN sl_34_VZ (Intsss.sl (by assumption)) rfl rfl (by omega)) ?_
     refine .m rfl rfl rfl rfl (.refl _) (.loadRR on_23_B (by assumption) rfl (by omega)) ?_
     refine .m rfl rfl rfl rfl (.refl _) (.move rfl) ?_
     refine .m rfl rfl rfl rfl (.refl _) (.idx1 sl_23_B (Intss.sl (by assumption)) rfl rfl (by omega) (by omega)) ?_
     refine .m rfl rfl rfl rfl (.refl _) (.loadR on_22_B (by assumption) rfl (by omega)) ?_
     refine .m rfl rfl rfl rfl (.refl _) (.move rfl) ?_
     refine .m rfl rfl rfl rfl (.refl _) (.idxN sl_22_A (by assumption) rfl rfl (by omega)) ?_
     refine .m rfl rfl rfl rfl (.refl _) (.loadI on_2_A (by assumption) rfl (by omega)) ?_
     refine .m rfl rfl rfl rfl (.refl _) (.build bt_156_Ct rfl rfl rfl) ?_
     refine .m rfl rfl rfl rfl (.refl _) (.lookupT mtt_153_Cc keyT3 zv_2_Pb rfl rfl (j := ccU m k z b e d) rfl hml (by assumption)) ?_
     refine .call0 rfl rfl rfl rfl rfl @Try.call95 rfl (join_c (hK := hJ)) ?_
     rintro _ H112 ⟨⟨b112, rfl⟩, st112, js112, at112, hK112⟩
     have nx_H112 := st112.nx
     replace hle := hle.st st112 (fun k hk => ⟨by omega, trivial⟩)
     replace lst1 := lst1.st st112 (fun k hk ho => by simp only [out, and_true] at ho ⊢ <;> first | omega | (first | exact ho | exact ho.1 | exact ho.2 | exact ho.2.1 | exact ho.2.2 | exact ho.2.2.1 | exact ho.2.2.2))
     replace lst2 := lst2.st st112 (fun k hk ho => by simp only [out, and_true] at ho ⊢ <;> first | omega | (first | exact ho | exact ho.1 | exact ho.2 | exact ho.2.1 | exact ho.2.2 | exact ho.2.2.1 | exact ho.2.2.2))
     replace lst3 := lst3.st st112 (fun k hk ho => by simp only [out, and_true] at ho ⊢ <;> first | omega | (first | exact ho | exact ho.1 | exact ho.2 | exact ho.2.1 | exact ho.2.2 | exact ho.2.2.1 | exact ho.2.2.2))
     replace at20 := st112.same _ _ ⟨ne_g20_g23, trivial⟩ at20
     have lt_at112 := GHeap.lt_of_get at112
     replace h := base_h.mono hle
     replace h' := base_h'.mono hle
     clear fs ft c10 c11 c12 i2 i3 i4 hm hi hms his hmt hit fsb ftb c10b c11b c12b i2b i3b i4b hmb hib hmsb hisb hmtb hitb d0 d1 d2 d3 d4 e1 e2 e3 e4
     obtain ⟨fs, ft, c10, c11, c12, i2, i3, i4⟩ := h.get
     have hm : MemN _ _ _ _ _ := ⟨rfl, h.1⟩
     have hi := h.2
     have hms : MemN _ _ _ _ _ := ⟨rfl, fs.1⟩
     have his := fs.2
     have hmt : MemN _ _ _ _ _ := ⟨rfl, ft.1⟩
     have hit := ft.2
     obtain ⟨fsb, ftb, c10b, c11b, c12b, i2b, i3b, i4b⟩ := h'.get
     have hmb : MemN _ _ _ _ _ := ⟨rfl, h'.1⟩
     have hib := h'.2
     have hmsb : MemN _ _ _ _ _ := ⟨rfl, fsb.1⟩
     have hisb := fsb.2
     have hmtb : MemN _ _ _ _ _ := ⟨rfl, ftb.1⟩
     have hitb := ftb.2
     obtain ⟨d0, d1, d2, d3, d4, e1, e2, e3, e4⟩ := ft.get
     clear i23
     have i23 := Ints.of_get at23
     clear u1 u3 v1 v2 w1 w2
     have u1 := i2.2 x.toNat (by omega)
     have u3 := i2b.2 (m.t.tgt.getD b 0).toNat (by omega)
     have v1 := i4.2 b (by omega)
     have v2 := v1.2 x.toNat (by omega)
     have w1 := i3b.2 b (by omega)
     have w2 := w1.2 z.toNat (by omega)
     refine .done ?_
     refine hK20 _ _ ?_
     refine .region ?_
     refine .m rfl rfl rfl (.add rfl rfl rfl (by omega) (by omega)) ?_
     refine .m rfl rfl rfl (.move rfl) (.nil ?_)
     refine hKL3 ((d + 1, js112)) _ _ ?_ ?_ ⟨rfl, rfl, rfl, rfl, rfl, rfl, rfl, rfl, rfl, rfl, rfl, rfl, rfl, rfl, rfl, rfl, rfl, trivial⟩
     ·
      refine ⟨lst3, by assumption, ?_⟩
      exact ⟨by omega, by rw [hp1, hp2] at hK112; rw [ccI_snoc, joinK_snoc, hpr]; exact hK112⟩
     (dsimp only; omega)
    try simp only [sps] at h73
    refine .exit ?_
    refine hK15 _ _ ?_
    refine .region ?_
    refine .m rfl rfl rfl (.add rfl rfl rfl (by omega) (by omega)) ?_
    refine .m rfl rfl rfl (.move rfl) (.nil ?_)
    obtain rfl : d = ccA2 m k z b := by omega
    refine hKL2 ((e + 1, js3)) _ _ ?_ ?_ ⟨rfl, rfl, rfl, rfl, rfl, rfl, rfl, rfl, rfl, rfl, rfl, rfl, rfl, rfl, trivial⟩
    ·
     refine ⟨lst2, by assumption, ?_⟩
     exact ⟨by omega, by rw [ccI_next2]; exact hJ⟩
    (dsimp only; omega)
   try simp only [sps] at h60
   refine .exit ?_
   refine hK9 _ _ ?_
   refine .region ?_
   refine .m rfl rfl rfl (.add rfl rfl rfl (by omega) (by omega)) ?_
   refine .m rfl rfl rfl (.move rfl) (.nil ?_)
   obtain rfl : e = ccA1 m x b := by omega
   refine hKL1 ((b + 1, js2)) _ _ ?_ ?_ ⟨rfl, rfl, rfl, rfl, rfl, rfl, rfl, rfl, rfl, trivial⟩
   ·
    refine ⟨lst1, by assumption, ?_⟩
    exact ⟨by omega, by rw [ccI_next1]; exact hJ⟩
   (dsimp only; omega)
  try simp only [sps] at h33
  refine .exit ?_
  refine hK5 _ _ ?_
  refine .seq (fun K22 hK22 => ?_)
  refine .region (.m rfl rfl rfl (.move rfl) ?_)
  refine .call rfl rfl rfl rfl @Try.call97 rfl (partition_c (hK := hJ)) ?_
  rintro _ H117 ⟨g117, rfl, st117, ge117, at117⟩
  have nx_H117 := st117.nx
  replace hle := hle.st st117 (fun k hk => ⟨by omega, trivial⟩)
  replace lst1 := lst1.st st117 (fun k hk ho => by simp only [out, and_true] at ho ⊢ <;> first | omega | (first | exact ho | exact ho.1 | exact ho.2 | exact ho.2.1 | exact ho.2.2 | exact ho.2.2.1 | exact ho.2.2.2))
  replace at20 := st117.same _ _ ⟨ne_g20_g23, trivial⟩ at20
  have lt_at117 := GHeap.lt_of_get at117
  replace h := base_h.mono hle
  replace h' := base_h'.mono hle
  clear fs ft c10 c11 c12 i2 i3 i4 hm hi hms his hmt hit fsb ftb c10b c11b c12b i2b i3b i4b hmb hib hmsb hisb hmtb hitb d0 d1 d2 d3 d4 e1 e2 e3 e4
  obtain ⟨fs, ft, c10, c11, c12, i2, i3, i4⟩ := h.get
  have hm : MemN _ _ _ _ _ := ⟨rfl, h.1⟩
  have hi := h.2
  have hms : MemN _ _ _ _ _ := ⟨rfl, fs.1⟩
  have his := fs.2
  have hmt : MemN _ _ _ _ _ := ⟨rfl, ft.1⟩
  have hit := ft.2
  obtain ⟨fsb, ftb, c10b, c11b, c12b, i2b, i3b, i4b⟩ := h'.get
  have hmb : MemN _ _ _ _ _ := ⟨rfl, h'.1⟩
  have hib := h'.2
  have hmsb : MemN _ _ _ _ _ := ⟨rfl, fsb.1⟩
  have hisb := fsb.2
  have hmtb : MemN _ _ _ _ _ := ⟨rfl, ftb.1⟩
  have hitb := ftb.2
  obtain ⟨d0, d1, d2, d3, d4, e1, e2, e3, e4⟩ := ft.get
  clear i23
  have i23 := Ints.of_get at23
  refine .m rfl rfl rfl (.assign rfl) (.nil ?_)
  refine hK22 _ _ ?_
  refine .ret ?_
  refine hret _ _ ?_
  refine ⟨_, rfl, ?_⟩
  obtain rfl : b = m.t.src.length := by omega
  rw [hnl] at at117
  exact ⟨hle, _, by rw [length_joinL, hnl], at117, by omega⟩
end Go.Proofs.Ytgnfekfdmgnhcaa
/- Classes of composites, both sides. No condition but those of each statement. -/
namespace Go.Proofs.Ytgnfekfdmgnhcaa
open Go Go.GL Go.RowKit Go.Proofs
theorem specCompositeClasses_c {m k : Prof} {p q : ProfP} {x z : Int} {H : GHeap} (hin : m.In H p := by assumption) (hin1 : k.In H q := by assumption) (hs : m.Small := by assumption) (hs1 : k.Small := by assumption) :
    GCalls Try.prog 27 [.agg (m.cells p).toArray, .agg (k.cells q).toArray, .int .i64 x, .int .i64 z] H (fun v H' => H.Le H' ∧ ∃ a, v = .tuple #[.slice a (ccR m k x z).length (ccR m k x z).length, .int .i64 (ccC m k x z)] ∧ IntsR H.next H' a (ccR m k x z)) := by
  refine GCalls.body (N := 34) (rs := [.tmp 8, .tmp 9]) Try.func27 rfl rfl rfl rfl (fun Qx hret hend => ?_)
  refine .forget (fr' := [(0, some _), (1, some _), (2, some _), (3, some _)]) ⟨rfl, rfl, rfl, rfl, trivial⟩ ?_
  have hle := GHeap.Le.refl H
  have base_hin := hin
  have base_hin1 := hin1
  refine .seq (fun K1 hK1 => ?_)
  refine .region ?_
  refine .r rfl rfl rfl (.boxR rfl sz_40_VProf rfl) ?_
  rintro _ H4 ⟨g4, rfl, le4, ge4, at4⟩
  have nx_H4 := le4.1
  replace hle := hle.trans le4
  have lt_at4 := GHeap.lt_of_get at4
  replace hin := base_hin.mono hle
  replace hin1 := base_hin1.mono hle
  have hb4 : Prof.At _ g4 0 m p := ⟨Mem.of_get at4, hin⟩
  obtain ⟨fs4, ft4, c104, c114, c124, i24, i34, i44⟩ := hb4.get
  have hm4 : MemN _ _ _ _ _ := ⟨rfl, hb4.1⟩
  have hi4 := hb4.2
  have hms4 : MemN _ _ _ _ _ := ⟨rfl, fs4.1⟩
  have his4 := fs4.2
  have hmt4 : MemN _ _ _ _ _ := ⟨rfl, ft4.1⟩
  have hit4 := ft4.2
  refine .r rfl rfl rfl (.boxR rfl sz_40_VProf rfl) ?_
  rintro _ H5 ⟨g5, rfl, le5, ge5, at5⟩
  have nx_H5 := le5.1
  replace hle := hle.trans le5
  replace at4 := le5.2 _ _ at4
  have lt_at5 := GHeap.lt_of_get at5
  replace hin := base_hin.mono hle
  replace hin1 := base_hin1.mono hle
  clear hb4 fs4 ft4 c104 c114 c124 i24 i34 i44 hm4 hi4 hms4 his4 hmt4 hit4
  have hb4 : Prof.At _ g4 0 m p := ⟨Mem.of_get at4, hin⟩
  obtain ⟨fs4, ft4, c104, c114, c124, i24, i34, i44⟩ := hb4.get
  have hm4 : MemN _ _ _ _ _ := ⟨rfl, hb4.1⟩
  have hi4 := hb4.2
  have hms4 : MemN _ _ _ _ _ := ⟨rfl, fs4.1⟩
  have his4 := fs4.2
  have hmt4 : MemN _ _ _ _ _ := ⟨rfl, ft4.1⟩
  have hit4 := ft4.2
  have hb5 : Prof.At _ g5 0 k q := ⟨Mem.of_get at5, hin1⟩
  obtain ⟨fs5, ft5, c105, c115, c125, i25, i35, i45⟩ := hb5.get
  have hm5 : MemN _ _ _ _ _ := ⟨rfl, hb5.1⟩
  have hi5 := hb5.2
  have hms5 : MemN _ _ _ _ _ := ⟨rfl, fs5.1⟩
  have his5 := fs5.2
  have hmt5 : MemN _ _ _ _ _ := ⟨rfl, ft5.1⟩
  have hit5 := ft5.2
  refine .m rfl rfl rfl (.assign rfl) (.m rfl rfl rfl (.assign rfl) (.nil ?_))
  refine hK1 _ _ ?_
  refine .seq (fun K2 hK2 => ?_)
  refine .seq (fun K3 hK3 => ?_)
  refine .region ?_
  refine .m rfl rfl rfl (.loadM ag_40_VProf rfl ⟨rfl, Mem.of_get at4⟩) ?_
  refine .m rfl rfl rfl (.loadM ag_40_VProf rfl ⟨rfl, Mem.of_get at5⟩) ?_
  refine .m rfl rfl rfl (.move rfl) (.m rfl rfl rfl (.move rfl) ?_)
  refine .callQ rfl rfl rfl rfl @Try.call74 rfl (l32Place_c) ?_
  refine .m rfl rfl rfl (.assign rfl) (.nil ?_)
  refine hK3 _ _ ?_
  refine .seq (fun K4 hK4 => ?_)
  refine .region (.m rfl rfl rfl (.move rfl) (.m rfl rfl rfl (.cmp rfl rfl rfl) (.nil ?_)))
  refine hK4 _ _ ?_
  refine .cond rfl (fun h18 => ?_) (fun h18 => ?_)
  ·
   simp only [sps] at h18
   refine .seq (fun K5 hK5 => ?_)
   refine .region (.m rfl rfl rfl (.move rfl) (.m rfl rfl rfl (.assign rfl) (.m rfl rfl rfl (.assign rfl) ?_)))
   refine .nil ?_
   refine hK5 _ _ ?_
   refine .ret ?_
   refine hret _ _ ?_
   refine ⟨_, _, rfl, rfl, ?_⟩
   obtain ⟨e1, e2⟩ := cc_1 h18
   rw [e1, e2]
   exact ⟨hle, none, rfl, .inl ⟨rfl, rfl⟩⟩
  simp only [sps] at h18
  refine .skip ?_
  refine hK2 _ _ ?_
  refine .seq (fun K6 hK6 => ?_)
  refine .region ?_
  obtain ⟨z1, z2, z3, z4, z5, z6, z7⟩ := ctCode_0 h18
  obtain ⟨z8, z9⟩ := CtOk.of z1 z2 z3 z4 z5 z6 z7
  have o := CcOk.of h18
  refine .m rfl rfl rfl (.loadM ag_40_VProf rfl ⟨rfl, Mem.of_get at4⟩) ?_
  refine .m rfl rfl rfl (.loadM ag_40_VProf rfl ⟨rfl, Mem.of_get at5⟩) ?_
  refine .m rfl rfl rfl (.move rfl) (.m rfl rfl rfl (.move rfl) ?_)
  refine .call rfl rfl rfl rfl @Try.call75 rfl (l32Triples_c (hc := z8) (ho := z9)) ?_
  rintro _ H24 ⟨le24, a24, r24, rfl, v24⟩
  have nx_H24 := le24.1
  replace hle := hle.trans le24
  replace at4 := le24.2 _ _ at4
  replace at5 := le24.2 _ _ at5
  have bs_v24 := v24
  have lv_v24 : Keep H5.next H24 H24 := fun _ _ _ h => h
  replace hin := base_hin.mono hle
  replace hin1 := base_hin1.mono hle
  clear hb4 fs4 ft4 c104 c114 c124 i24 i34 i44 hm4 hi4 hms4 his4 hmt4 hit4
  have hb4 : Prof.At _ g4 0 m p := ⟨Mem.of_get at4, hin⟩
  obtain ⟨fs4, ft4, c104, c114, c124, i24, i34, i44⟩ := hb4.get
  have hm4 : MemN _ _ _ _ _ := ⟨rfl, hb4.1⟩
  have hi4 := hb4.2
  have hms4 : MemN _ _ _ _ _ := ⟨rfl, fs4.1⟩
  have his4 := fs4.2
  have hmt4 : MemN _ _ _ _ _ := ⟨rfl, ft4.1⟩
  have hit4 := ft4.2
  clear hb5 fs5 ft5 c105 c115 c125 i25 i35 i45 hm5 hi5 hms5 his5 hmt5 hit5
  have hb5 : Prof.At _ g5 0 k q := ⟨Mem.of_get at5, hin1⟩
  obtain ⟨fs5, ft5, c105, c115, c125, i25, i35, i45⟩ := hb5.get
  have hm5 : MemN _ _ _ _ _ := ⟨rfl, hb5.1⟩
  have hi5 := hb5.2
  have hms5 : MemN _ _ _ _ _ := ⟨rfl, fs5.1⟩
  have his5 := fs5.2
  have hmt5 : MemN _ _ _ _ _ := ⟨rfl, ft5.1⟩
  have hit5 := ft5.2
  have i24 := v24.intss
  refine .m rfl rfl rfl (.assign rfl) (.nil ?_)
  refine hK6 _ _ ?_
  refine .seq (fun K7 hK7 => ?_)
  refine .seq (fun K8 hK8 => ?_)
  refine .region (.m rfl rfl rfl (.move rfl) (.m rfl rfl rfl (.len sl_23_B rfl) (.m rfl rfl rfl (.cmp rfl rfl rfl) ?_)))
  refine .nil ?_
  refine hK8 _ _ ?_
  refine .cond rfl (fun h27 => ?_) (fun h27 => ?_)
  ·
   simp only [sps] at h27
   refine .seq (fun K9 hK9 => ?_)
   refine .region (.m rfl rfl rfl (.assign rfl) (.m rfl rfl rfl (.assign rfl) (.nil ?_)))
   refine hK9 _ _ ?_
   refine .ret ?_
   refine hret _ _ ?_
   refine ⟨_, _, rfl, rfl, ?_⟩
   obtain ⟨e1, e2⟩ := cc_2 h18 (show ¬ (ctL m k x z m.t.obj.toNat 0 0).length ≤ 256 by omega)
   rw [e1, e2]
   exact ⟨hle, none, rfl, .inl ⟨rfl, rfl⟩⟩
  simp only [sps] at h27
  have hL : (ccL m k x z).length ≤ 256 := by show (ctL m k x z m.t.obj.toNat 0 0).length ≤ 256; omega
  refine .skip ?_
  refine hK7 _ _ ?_
  refine .seq (fun K10 hK10 => ?_)
  refine .region ?_
  refine .m rfl rfl rfl (.loadM ag_40_VProf rfl ⟨rfl, Mem.of_get at4⟩) ?_
  refine .m rfl rfl rfl (.loadM ag_40_VProf rfl ⟨rfl, Mem.of_get at5⟩) ?_
  refine .m rfl rfl rfl (.move rfl) (.m rfl rfl rfl (.move rfl) (.m rfl rfl rfl (.move rfl) ?_))
  refine .call rfl rfl rfl rfl @Try.call76 rfl (l32Classes_c hin hin1 i24 o hL) ?_
  rintro _ H33 ⟨le33, g33, rfl, at33, ge33⟩
  have nx_H33 := le33.1
  replace hle := hle.trans le33
  replace at4 := le33.2 _ _ at4
  replace at5 := le33.2 _ _ at5
  replace lv_v24 := Keep.le lv_v24 le33
  replace v24 := bs_v24.keep lv_v24 (Nat.le_refl _)
  have lt_at33 := GHeap.lt_of_get at33
  replace hin := base_hin.mono hle
  replace hin1 := base_hin1.mono hle
  clear hb4 fs4 ft4 c104 c114 c124 i24 i34 i44 hm4 hi4 hms4 his4 hmt4 hit4
  have hb4 : Prof.At _ g4 0 m p := ⟨Mem.of_get at4, hin⟩
  obtain ⟨fs4, ft4, c104, c114, c124, i24, i34, i44⟩ := hb4.get
  have hm4 : MemN _ _ _ _ _ := ⟨rfl, hb4.1⟩
  have hi4 := hb4.2
  have hms4 : MemN _ _ _ _ _ := ⟨rfl, fs4.1⟩
  have his4 := fs4.2
  have hmt4 : MemN _ _ _ _ _ := ⟨rfl, ft4.1⟩
  have hit4 := ft4.2
  clear hb5 fs5 ft5 c105 c115 c125 i25 i35 i45 hm5 hi5 hms5 his5 hmt5 hit5
  have hb5 : Prof.At _ g5 0 k q := ⟨Mem.of_get at5, hin1⟩
  obtain ⟨fs5, ft5, c105, c115, c125, i25, i35, i45⟩ := hb5.get
  have hm5 : MemN _ _ _ _ _ := ⟨rfl, hb5.1⟩
  have hi5 := hb5.2
  have hms5 : MemN _ _ _ _ _ := ⟨rfl, fs5.1⟩
  have his5 := fs5.2
  have hmt5 : MemN _ _ _ _ _ := ⟨rfl, ft5.1⟩
  have hit5 := ft5.2
  clear i24
  have i24 := v24.intss
  have i33 := Ints.of_get at33
  refine .m rfl rfl rfl (.assign rfl) (.m rfl rfl rfl (.assign rfl) (.nil ?_))
  refine hK10 _ _ ?_
  refine .ret ?_
  refine hret _ _ ?_
  refine ⟨_, _, rfl, rfl, ?_⟩
  obtain ⟨e1, e2⟩ := cc_3 h18 hL
  rw [e1, e2]
  exact ⟨hle, _, by rw [length_joinL], IntsR.of_at at33 (by omega)⟩
theorem implCc0_c {m k : Prof} {p q : ProfP} {x z : Int} {H : GHeap} (hin : m.In H p := by assumption) (hin1 : k.In H q := by assumption) (hs : m.Small := by assumption) (hs1 : k.Small := by assumption) (hz : ctCode m k x z = 0) :
    GCalls Try.prog 28 [.agg (m.cells p).toArray, .agg (k.cells q).toArray, .int .i64 x, .int .i64 z] H (fun v H' => H.Le H' ∧ ∃ a, v = .tuple #[.slice a (ccR m k x z).length (ccR m k x z).length, .int .i64 (ccC m k x z)] ∧ IntsR H.next H' a (ccR m k x z)) := by
  have o := CcOk.of hz
  refine GCalls.body (N := 28) (rs := [.tmp 8, .tmp 9]) Try.func28 rfl rfl rfl rfl (fun Qx hret hend => ?_)
  refine .forget (fr' := [(0, some _), (1, some _), (2, some _), (3, some _)]) ⟨rfl, rfl, rfl, rfl, trivial⟩ ?_
  have hle := GHeap.Le.refl H
  have base_hin := hin
  have base_hin1 := hin1
  refine .seq (fun K1 hK1 => ?_)
  refine .region ?_
  refine .r rfl rfl rfl (.boxR rfl sz_40_VProf rfl) ?_
  rintro _ H4 ⟨g4, rfl, le4, ge4, at4⟩
  have nx_H4 := le4.1
  replace hle := hle.trans le4
  have lt_at4 := GHeap.lt_of_get at4
  replace hin := base_hin.mono hle
  replace hin1 := base_hin1.mono hle
  have hb4 : Prof.At _ g4 0 m p := ⟨Mem.of_get at4, hin⟩
  obtain ⟨fs4, ft4, c104, c114, c124, i24, i34, i44⟩ := hb4.get
  have hm4 : MemN _ _ _ _ _ := ⟨rfl, hb4.1⟩
  have hi4 := hb4.2
  have hms4 : MemN _ _ _ _ _ := ⟨rfl, fs4.1⟩
  have his4 := fs4.2
  have hmt4 : MemN _ _ _ _ _ := ⟨rfl, ft4.1⟩
  have hit4 := ft4.2
  refine .r rfl rfl rfl (.boxR rfl sz_40_VProf rfl) ?_
  rintro _ H5 ⟨g5, rfl, le5, ge5, at5⟩
  have nx_H5 := le5.1
  replace hle := hle.trans le5
  replace at4 := le5.2 _ _ at4
  have lt_at5 := GHeap.lt_of_get at5
  replace hin := base_hin.mono hle
  replace hin1 := base_hin1.mono hle
  clear hb4 fs4 ft4 c104 c114 c124 i24 i34 i44 hm4 hi4 hms4 his4 hmt4 hit4
  have hb4 : Prof.At _ g4 0 m p := ⟨Mem.of_get at4, hin⟩
  obtain ⟨fs4, ft4, c104, c114, c124, i24, i34, i44⟩ := hb4.get
  have hm4 : MemN _ _ _ _ _ := ⟨rfl, hb4.1⟩
  have hi4 := hb4.2
  have hms4 : MemN _ _ _ _ _ := ⟨rfl, fs4.1⟩
  have his4 := fs4.2
  have hmt4 : MemN _ _ _ _ _ := ⟨rfl, ft4.1⟩
  have hit4 := ft4.2
  have hb5 : Prof.At _ g5 0 k q := ⟨Mem.of_get at5, hin1⟩
  obtain ⟨fs5, ft5, c105, c115, c125, i25, i35, i45⟩ := hb5.get
  have hm5 : MemN _ _ _ _ _ := ⟨rfl, hb5.1⟩
  have hi5 := hb5.2
  have hms5 : MemN _ _ _ _ _ := ⟨rfl, fs5.1⟩
  have his5 := fs5.2
  have hmt5 : MemN _ _ _ _ _ := ⟨rfl, ft5.1⟩
  have hit5 := ft5.2
  refine .m rfl rfl rfl (.assign rfl) (.m rfl rfl rfl (.assign rfl) (.nil ?_))
  refine hK1 _ _ ?_
  refine .seq (fun K2 hK2 => ?_)
  refine .region (.m rfl rfl rfl (.move rfl) (.m rfl rfl rfl (.move rfl) ?_))
  refine .call rfl rfl rfl rfl @Try.call77 rfl (triplesCode0_c) ?_
  rintro _ H15 ⟨le15, g15, rfl, v15⟩
  have nx_H15 := le15.1
  replace hle := hle.trans le15
  replace at4 := le15.2 _ _ at4
  replace at5 := le15.2 _ _ at5
  have bs_v15 := v15
  have lv_v15 : Keep H5.next H15 H15 := fun _ _ _ h => h
  replace hin := base_hin.mono hle
  replace hin1 := base_hin1.mono hle
  clear hb4 fs4 ft4 c104 c114 c124 i24 i34 i44 hm4 hi4 hms4 his4 hmt4 hit4
  have hb4 : Prof.At _ g4 0 m p := ⟨Mem.of_get at4, hin⟩
  obtain ⟨fs4, ft4, c104, c114, c124, i24, i34, i44⟩ := hb4.get
  have hm4 : MemN _ _ _ _ _ := ⟨rfl, hb4.1⟩
  have hi4 := hb4.2
  have hms4 : MemN _ _ _ _ _ := ⟨rfl, fs4.1⟩
  have his4 := fs4.2
  have hmt4 : MemN _ _ _ _ _ := ⟨rfl, ft4.1⟩
  have hit4 := ft4.2
  clear hb5 fs5 ft5 c105 c115 c125 i25 i35 i45 hm5 hi5 hms5 his5 hmt5 hit5
  have hb5 : Prof.At _ g5 0 k q := ⟨Mem.of_get at5, hin1⟩
  obtain ⟨fs5, ft5, c105, c115, c125, i25, i35, i45⟩ := hb5.get
  have hm5 : MemN _ _ _ _ _ := ⟨rfl, hb5.1⟩
  have hi5 := hb5.2
  have hms5 : MemN _ _ _ _ _ := ⟨rfl, fs5.1⟩
  have his5 := fs5.2
  have hmt5 : MemN _ _ _ _ _ := ⟨rfl, ft5.1⟩
  have hit5 := ft5.2
  have i15 := v15.sl
  refine .m rfl rfl rfl (.move rfl) (.m rfl rfl rfl (.extract rfl rfl) (.m rfl rfl rfl (.extract rfl rfl) (.m rfl rfl rfl (.assign rfl) ?_)))
  refine .m rfl rfl rfl (.assign rfl) (.nil ?_)
  refine hK2 _ _ ?_
  refine .seq (fun K3 hK3 => ?_)
  refine .seq (fun K4 hK4 => ?_)
  refine .region (.m rfl rfl rfl (.move rfl) (.m rfl rfl rfl (.cmp rfl rfl rfl) (.nil ?_)))
  refine hK4 _ _ ?_
  refine .cond rfl (fun h19 => ?_) (fun h19 => ?_)
  ·
   simp at h19
  try simp only [sps] at h19
  refine .skip ?_
  refine hK3 _ _ ?_
  refine .seq (fun K5 hK5 => ?_)
  refine .seq (fun K6 hK6 => ?_)
  refine .region (.m rfl rfl rfl (.move rfl) (.m rfl rfl rfl (.len sl_103_Ct rfl) (.m rfl rfl rfl (.cmp rfl rfl rfl) ?_)))
  refine .nil ?_
  refine hK6 _ _ ?_
  refine .cond rfl (fun h23 => ?_) (fun h23 => ?_)
  ·
   simp only [sps] at h23
   refine .seq (fun K7 hK7 => ?_)
   refine .region (.m rfl rfl rfl (.assign rfl) (.m rfl rfl rfl (.assign rfl) (.nil ?_)))
   refine hK7 _ _ ?_
   refine .ret ?_
   refine hret _ _ ?_
   refine ⟨_, _, rfl, rfl, ?_⟩
   obtain ⟨e1, e2⟩ := cc_2 hz (show ¬ (ctL m k x z m.t.obj.toNat 0 0).length ≤ 256 by omega)
   rw [e1, e2]
   exact ⟨hle, none, rfl, .inl ⟨rfl, rfl⟩⟩
  simp only [sps] at h23
  have hL : (ccL m k x z).length ≤ 256 := by show (ctL m k x z m.t.obj.toNat 0 0).length ≤ 256; omega
  refine .skip ?_
  refine hK5 _ _ ?_
  refine .seq (fun K8 hK8 => ?_)
  refine .region (.m rfl rfl rfl (.move rfl) (.m rfl rfl rfl (.move rfl) (.m rfl rfl rfl (.move rfl) ?_)))
  refine .call rfl rfl rfl rfl @Try.call78 rfl (classesAt_c hb4 hb5 v15 o hL) ?_
  rintro _ H27 ⟨le27, g27, rfl, at27, ge27⟩
  have nx_H27 := le27.1
  replace hle := hle.trans le27
  replace at4 := le27.2 _ _ at4
  replace at5 := le27.2 _ _ at5
  replace lv_v15 := Keep.le lv_v15 le27
  replace v15 := bs_v15.keep lv_v15 (Nat.le_refl _)
  have lt_at27 := GHeap.lt_of_get at27
  replace hin := base_hin.mono hle
  replace hin1 := base_hin1.mono hle
  clear hb4 fs4 ft4 c104 c114 c124 i24 i34 i44 hm4 hi4 hms4 his4 hmt4 hit4
  have hb4 : Prof.At _ g4 0 m p := ⟨Mem.of_get at4, hin⟩
  obtain ⟨fs4, ft4, c104, c114, c124, i24, i34, i44⟩ := hb4.get
  have hm4 : MemN _ _ _ _ _ := ⟨rfl, hb4.1⟩
  have hi4 := hb4.2
  have hms4 : MemN _ _ _ _ _ := ⟨rfl, fs4.1⟩
  have his4 := fs4.2
  have hmt4 : MemN _ _ _ _ _ := ⟨rfl, ft4.1⟩
  have hit4 := ft4.2
  clear hb5 fs5 ft5 c105 c115 c125 i25 i35 i45 hm5 hi5 hms5 his5 hmt5 hit5
  have hb5 : Prof.At _ g5 0 k q := ⟨Mem.of_get at5, hin1⟩
  obtain ⟨fs5, ft5, c105, c115, c125, i25, i35, i45⟩ := hb5.get
  have hm5 : MemN _ _ _ _ _ := ⟨rfl, hb5.1⟩
  have hi5 := hb5.2
  have hms5 : MemN _ _ _ _ _ := ⟨rfl, fs5.1⟩
  have his5 := fs5.2
  have hmt5 : MemN _ _ _ _ _ := ⟨rfl, ft5.1⟩
  have hit5 := ft5.2
  clear i15
  have i15 := v15.sl
  have i27 := Ints.of_get at27
  refine .m rfl rfl rfl (.assign rfl) (.m rfl rfl rfl (.assign rfl) (.nil ?_))
  refine hK8 _ _ ?_
  refine .ret ?_
  refine hret _ _ ?_
  refine ⟨_, _, rfl, rfl, ?_⟩
  obtain ⟨e1, e2⟩ := cc_3 hz hL
  rw [e1, e2]
  exact ⟨hle, _, by rw [length_joinL], IntsR.of_at at27 (by omega)⟩
theorem implCc1_c {m k : Prof} {p q : ProfP} {x z : Int} {H : GHeap} (hin : m.In H p := by assumption) (hin1 : k.In H q := by assumption) (hs : m.Small := by assumption) (hs1 : k.Small := by assumption) (hz : ¬ ctCode m k x z = 0) :
    GCalls Try.prog 28 [.agg (m.cells p).toArray, .agg (k.cells q).toArray, .int .i64 x, .int .i64 z] H (Ret (.tuple #[.slice none 0 0, .int .i64 (ctCode m k x z)]) H) := by
  refine GCalls.ret rfl ?_
  refine GCalls.body (N := 28) (rs := [.tmp 8, .tmp 9]) Try.func28 rfl rfl rfl rfl (fun Qx hret hend => ?_)
  refine .forget (fr' := [(0, some _), (1, some _), (2, some _), (3, some _)]) ⟨rfl, rfl, rfl, rfl, trivial⟩ ?_
  have hle := GHeap.Le.refl H
  have base_hin := hin
  have base_hin1 := hin1
  refine .seq (fun K1 hK1 => ?_)
  refine .region ?_
  refine .r rfl rfl rfl (.boxR rfl sz_40_VProf rfl) ?_
  rintro _ H4 ⟨g4, rfl, le4, ge4, at4⟩
  have nx_H4 := le4.1
  replace hle := hle.trans le4
  have lt_at4 := GHeap.lt_of_get at4
  replace hin := base_hin.mono hle
  replace hin1 := base_hin1.mono hle
  have hb4 : Prof.At _ g4 0 m p := ⟨Mem.of_get at4, hin⟩
  obtain ⟨fs4, ft4, c104, c114, c124, i24, i34, i44⟩ := hb4.get
  have hm4 : MemN _ _ _ _ _ := ⟨rfl, hb4.1⟩
  have hi4 := hb4.2
  have hms4 : MemN _ _ _ _ _ := ⟨rfl, fs4.1⟩
  have his4 := fs4.2
  have hmt4 : MemN _ _ _ _ _ := ⟨rfl, ft4.1⟩
  have hit4 := ft4.2
  refine .r rfl rfl rfl (.boxR rfl sz_40_VProf rfl) ?_
  rintro _ H5 ⟨g5, rfl, le5, ge5, at5⟩
  have nx_H5 := le5.1
  replace hle := hle.trans le5
  replace at4 := le5.2 _ _ at4
  have lt_at5 := GHeap.lt_of_get at5
  replace hin := base_hin.mono hle
  replace hin1 := base_hin1.mono hle
  clear hb4 fs4 ft4 c104 c114 c124 i24 i34 i44 hm4 hi4 hms4 his4 hmt4 hit4
  have hb4 : Prof.At _ g4 0 m p := ⟨Mem.of_get at4, hin⟩
  obtain ⟨fs4, ft4, c104, c114, c124, i24, i34, i44⟩ := hb4.get
  have hm4 : MemN _ _ _ _ _ := ⟨rfl, hb4.1⟩
  have hi4 := hb4.2
  have hms4 : MemN _ _ _ _ _ := ⟨rfl, fs4.1⟩
  have his4 := fs4.2
  have hmt4 : MemN _ _ _ _ _ := ⟨rfl, ft4.1⟩
  have hit4 := ft4.2
  have hb5 : Prof.At _ g5 0 k q := ⟨Mem.of_get at5, hin1⟩
  obtain ⟨fs5, ft5, c105, c115, c125, i25, i35, i45⟩ := hb5.get
  have hm5 : MemN _ _ _ _ _ := ⟨rfl, hb5.1⟩
  have hi5 := hb5.2
  have hms5 : MemN _ _ _ _ _ := ⟨rfl, fs5.1⟩
  have his5 := fs5.2
  have hmt5 : MemN _ _ _ _ _ := ⟨rfl, ft5.1⟩
  have hit5 := ft5.2
  refine .m rfl rfl rfl (.assign rfl) (.m rfl rfl rfl (.assign rfl) (.nil ?_))
  refine hK1 _ _ ?_
  refine .seq (fun K2 hK2 => ?_)
  refine .region (.m rfl rfl rfl (.move rfl) (.m rfl rfl rfl (.move rfl) ?_))
  refine .callQ rfl rfl rfl rfl @Try.call77 rfl (triplesCode1_c) ?_
  refine .m rfl rfl rfl (.move rfl) (.m rfl rfl rfl (.extract rfl rfl) (.m rfl rfl rfl (.extract rfl rfl) (.m rfl rfl rfl (.assign rfl) ?_)))
  refine .m rfl rfl rfl (.assign rfl) (.nil ?_)
  refine hK2 _ _ ?_
  refine .seq (fun K3 hK3 => ?_)
  refine .seq (fun K4 hK4 => ?_)
  refine .region (.m rfl rfl rfl (.move rfl) (.m rfl rfl rfl (.cmp rfl rfl rfl) (.nil ?_)))
  refine hK4 _ _ ?_
  refine .cond rfl (fun h19 => ?_) (fun h19 => ?_)
  ·
   simp only [sps] at h19
   refine .seq (fun K5 hK5 => ?_)
   refine .region (.m rfl rfl rfl (.move rfl) (.m rfl rfl rfl (.assign rfl) (.m rfl rfl rfl (.assign rfl) ?_)))
   refine .nil ?_
   refine hK5 _ _ ?_
   refine .ret ?_
   refine hret _ _ ?_
   refine ⟨_, _, rfl, rfl, ?_⟩
   exact ⟨rfl, hle⟩
  exact absurd (by simpa only [sps] using h19) hz
theorem implCompositeClasses_c {m k : Prof} {p q : ProfP} {x z : Int} {H : GHeap} (hin : m.In H p := by assumption) (hin1 : k.In H q := by assumption) (hs : m.Small := by assumption) (hs1 : k.Small := by assumption) :
    GCalls Try.prog 28 [.agg (m.cells p).toArray, .agg (k.cells q).toArray, .int .i64 x, .int .i64 z] H (fun v H' => H.Le H' ∧ ∃ a, v = .tuple #[.slice a (ccR m k x z).length (ccR m k x z).length, .int .i64 (ccC m k x z)] ∧ IntsR H.next H' a (ccR m k x z)) := by
  by_cases hz : ctCode m k x z = 0
  · exact implCc0_c (hz := hz)
  · obtain ⟨e1, e2⟩ := cc_1 hz
    rw [e1, e2]
    refine (implCc1_c (hz := hz)).mono fun v H' h => ?_
    obtain ⟨rfl, rfl⟩ := h
    exact ⟨.refl _, none, rfl, .inl ⟨rfl, rfl⟩⟩
end Go.Proofs.Ytgnfekfdmgnhcaa
/- The laws' helpers for SetFunctor. No condition but those of each statement. -/
namespace Go.Proofs.Ytgnfekfdmgnhcaa
open Go Go.GL Go.RowKit Go.Proofs
end Go.Proofs.Ytgnfekfdmgnhcaa
/- The laws' helpers for SetMap. No condition but those of each statement. -/
namespace Go.Proofs.Ytgnfekfdmgnhcaa
open Go Go.GL Go.RowKit Go.Proofs
end Go.Proofs.Ytgnfekfdmgnhcaa
/- Maps of set functors. No condition but those of each statement. -/
namespace Go.Proofs.Ytgnfekfdmgnhcaa
open Go Go.GL Go.RowKit Go.Proofs
end Go.Proofs.Ytgnfekfdmgnhcaa
/- The laws' helpers for Part. No condition but those of each statement. -/
namespace Go.Proofs.Ytgnfekfdmgnhcaa
open Go Go.GL Go.RowKit Go.Proofs
end Go.Proofs.Ytgnfekfdmgnhcaa
/- Parts of set functors. No condition but those of each statement. -/
namespace Go.Proofs.Ytgnfekfdmgnhcaa
open Go Go.GL Go.RowKit Go.Proofs
end Go.Proofs.Ytgnfekfdmgnhcaa
/- Marks on set functors, their maps and parts. No condition but those of each statement. -/
namespace Go.Proofs.Ytgnfekfdmgnhcaa
open Go Go.GL Go.RowKit Go.Proofs
end Go.Proofs.Ytgnfekfdmgnhcaa
/- Marks on profunctors. No condition. -/
namespace Go.GL
def sumL3 : List (List (List Int)) → Nat
  | [] => 0
  | xs :: r => sumL xs + sumL3 r
theorem sumL3_take_succ {x : List (List (List Int))} {k : Nat} (h : k < x.length) : sumL3 (x.take (k + 1)) = sumL3 (x.take k) + sumL (x.getD k []) := by
  induction x generalizing k with
  | nil => simp at h
  | cons y r ih =>
    cases k with
    | zero => simp [sumL3]
    | succ k =>
      have := ih (k := k) (by simpa using h)
      simp only [List.take_succ_cons, sumL3, List.getD_cons_succ]
      omega
theorem sumL3_take_le {x : List (List (List Int))} {k : Nat} : sumL3 (x.take k) ≤ sumL3 x := by
  induction x generalizing k with
  | nil => simp
  | cons y r ih =>
    cases k with
    | zero => simp [sumL3]
    | succ k => simp only [List.take_succ_cons, sumL3]; have := ih (k := k); omega
theorem sumL3_le {m : Nat} : ∀ {x : List (List (List Int))}, (∀ i, sumL (x.getD i []) ≤ m) → sumL3 x ≤ x.length * m
  | [], _ => by simp [sumL3]
  | y :: r, h => by
    have h0 := h 0
    have := sumL3_le (x := r) fun i => by simpa using h (i + 1)
    simp only [sumL3, List.length_cons, Nat.add_mul]
    simp at h0
    omega
theorem sumL3_tot {x : List (List (List Int))} (h : Sm3 x) : sumL3 x ≤ 1048576 * (1048576 * 1048576) := by
  have := sumL3_le (m := 1048576 * 1048576) (x := x) fun i => sumL_tot (h.2 i).1 (h.2 i).2
  exact Nat.le_trans this (Nat.mul_le_mul_right _ h.1)
def rows3L (r : Nat → Nat → Option Addr) (x : List (List (List Int))) (n : Nat) : List Leaf := (List.range n).flatMap fun i => rowsL (r i) (x.getD i []) (x.getD i []).length
theorem rows3L_succ (r : Nat → Nat → Option Addr) (x : List (List (List Int))) (n : Nat) : rows3L r x (n + 1) = rows3L r x n ++ rowsL (r n) (x.getD n []) (x.getD n []).length := by simp [rows3L, List.range_succ]
theorem lvSum_rowsL_all (r : Nat → Option Addr) (xss : List (List Int)) : lvSum (rowsL r xss xss.length) = sumL xss := by rw [lvSum_rowsL r xss _ (Nat.le_refl _), List.take_length]
theorem lvSum_rows3L (r : Nat → Nat → Option Addr) (x : List (List (List Int))) : ∀ n, n ≤ x.length → lvSum (rows3L r x n) = sumL3 (x.take n)
  | 0, _ => by simp [rows3L, lvSum, sumL3]
  | n + 1, h => by rw [rows3L_succ, lvSum_append, lvSum_rows3L r x n (by omega), sumL3_take_succ (by omega), lvSum_rowsL_all]
def IntsssW (lo hi : Nat) (H : GHeap) (a : Option Addr) (x : List (List (List Int))) (r : Nat → Option Addr) (s : Nat → Nat → Option Addr) : Prop :=
  SlA H a x.length (fun i => .slice (r i) (x.getD i []).length (x.getD i []).length) ∧ (∀ i, i < x.length → IntssW lo hi H (r i) (x.getD i []) (s i)) ∧ HdGe lo a x.length
theorem IntsssW.stm {lo hi : Nat} {H H' : GHeap} {a : Option Addr} {x : List (List (List Int))} {r : Nat → Option Addr} {q : Nat → Nat → Option Addr} (h : IntsssW lo hi H a x r q) (s : StM lo hi H H') : IntsssW lo hi H' a x r q :=
  ⟨h.1.stm s fun i m e => (by cases e), fun i hi => (h.2.1 i hi).stm s, h.2.2⟩
theorem IntsssW.keep {lo lo' hi : Nat} {H H' : GHeap} {a : Option Addr} {x : List (List (List Int))} {r : Nat → Option Addr} {q : Nat → Nat → Option Addr} (h : IntsssW lo hi H a x r q) (k : Keep lo' H H') (hb : lo' ≤ lo) : IntsssW lo hi H' a x r q := ⟨h.1.keep h.2.2 k hb, fun i hi => (h.2.1 i hi).keep k hb, h.2.2⟩
theorem IntsssW.of_at {b : Nat} {H0 H : GHeap} {a : Option Addr} {x : List (List (List Int))} {r : Nat → Option Addr} {q : Nat → Nat → Option Addr} (h : IntsssAt b H0 a x r q) (k : Keep b H0 H) : IntsssW b H0.next H a x r q :=
  ⟨(h.keep k (Nat.le_refl _)).intsss.1, fun i hi => by obtain ⟨g, e, cs, _, _, _, _, _, h6⟩ := h; exact .of_at (h6 i hi) k, by obtain ⟨g, e, cs, h1, h2, _⟩ := h; exact .inr ⟨g, 0, h1, h2⟩⟩
def Prof.total (f : Prof) : Nat := f.s.total + (f.t.total + (sumL f.sz + (sumL3 f.be + sumL3 f.bh)))
def ProfW (lo hi : Nat) (H : GHeap) (f : Prof) (p : ProfP) : Prop := CatW lo hi H f.s p.s ∧ CatW lo hi H f.t p.t ∧ IntssW lo hi H p.a2 f.sz p.r2 ∧ IntsssW lo hi H p.a3 f.be p.r3 p.s3 ∧ IntsssW lo hi H p.a4 f.bh p.r4 p.s4
theorem ProfW.stm {lo hi : Nat} {H H' : GHeap} {c : Prof} {p : ProfP} (h : ProfW lo hi H c p) (s : StM lo hi H H') : ProfW lo hi H' c p := ⟨h.1.stm s, h.2.1.stm s, h.2.2.1.stm s, h.2.2.2.1.stm s, h.2.2.2.2.stm s⟩
theorem ProfW.keep {lo lo' hi : Nat} {H H' : GHeap} {c : Prof} {p : ProfP} (h : ProfW lo hi H c p) (k : Keep lo' H H') (hb : lo' ≤ lo) : ProfW lo hi H' c p := ⟨h.1.keep k hb, h.2.1.keep k hb, h.2.2.1.keep k hb, h.2.2.2.1.keep k hb, h.2.2.2.2.keep k hb⟩
theorem ProfW.of_at {b : Nat} {H0 H : GHeap} {c : Prof} {p : ProfP} (h : ProfAt b H0 c p) (k : Keep b H0 H) : ProfW b H0.next H c p := ⟨.of_at h.1 k, .of_at h.2.1 k, .of_at h.2.2.1 k, .of_at h.2.2.2.1 k, .of_at h.2.2.2.2 k⟩
def Prof.leaves (f : Prof) (p : ProfP) : List Leaf := f.s.leaves p.s ++ (f.t.leaves p.t ++ (rowsL p.r2 f.sz f.sz.length ++ (rows3L p.s3 f.be f.be.length ++ rows3L p.s4 f.bh f.bh.length)))
theorem Prof.Small.tot {c : Prof} (h : c.Small) : c.total ≤ 8 * 1048576 + 4 * 1048576 * 1048576 + 2 * (1048576 * (1048576 * 1048576)) := by
  obtain ⟨h1, h2, h3, h4, h5⟩ := h
  have := h1.tot
  have := h2.tot
  have := sumL_tot h3.1 h3.2
  have := sumL3_tot h4
  have := sumL3_tot h5
  unfold Prof.total
  omega
end Go.GL
/- Marks on profunctors. No condition but those of each statement. -/
namespace Go.Proofs.Ytgnfekfdmgnhcaa
open Go Go.GL Go.RowKit Go.Proofs
theorem markInt64SSS_c {a : Option Addr} {x : List (List (List Int))} {r : Nat → Option Addr} {s : Nat → Nat → Option Addr} {lo hi : Nat} {k : Int} {H : GHeap} (h : IntsssW lo hi H a x r s := by assumption) (hm : Sm3 x := by assumption) (hk : 0 ≤ k := by omega) (hk' : k + sumL3 x ≤ 9223372036854775000 := by omega) :
    GCalls Try.prog 68 [.slice a x.length x.length, .int .i64 k] H (fun v H' => v = .int .i64 (k + sumL3 x) ∧ Marked lo hi H H' (rows3L s x x.length) k) := by
  obtain ⟨hl, hm2⟩ := hm
  refine GCalls.body (N := 19) (rs := [.tmp 4]) Try.func68 rfl rfl rfl rfl (fun Qx hret hend => ?_)
  refine .forget (fr' := [(0, some _), (1, some _)]) ⟨rfl, rfl, trivial⟩ ?_
  refine .seq (fun K1 hK1 => ?_)
  refine .region (.m rfl rfl rfl (.assign rfl) (.nil ?_))
  refine hK1 _ _ ?_
  refine .seq (fun K2 hK2 => ?_)
  refine .seq (fun K3 hK3 => ?_)
  refine .region (.m rfl rfl rfl (.assign rfl) (.nil ?_))
  refine hK3 _ _ ?_
  refine .block ?_
  refine .loopR (σ := Nat × Int) [(0, some _)] (fun (i, q) => [(5, some (.int .i64 (i : Int))), (1, some (.int .i64 q))]) (fun (i, q) H' => i ≤ x.length ∧ q = k + sumL3 (x.take i) ∧ Marked lo hi H H' (rows3L s x i) k) (fun (i, q) => x.length - i) ((0, k)) ⟨rfl, trivial⟩ ⟨rfl, rfl, trivial⟩ ?_ ?_
  ·
   exact ⟨by omega, by simp [sumL3], .nil _ _ _ _⟩
  rintro ⟨i, q⟩ H' hI KL1 hKL1
  refine .forget (fr' := [(5, some (.int .i64 (i : Int))), (1, some (.int .i64 q)), (0, some _)]) ⟨rfl, rfl, rfl, trivial⟩ ?_
  obtain ⟨hi', hq, hmk⟩ := hI
  have hw := h.stm hmk.stm
  have hsl := hw.1
  have hle1 := sumL3_take_le (x := x) (k := i + 1)
  refine .seq (fun K4 hK4 => ?_)
  refine .seq (fun K5 hK5 => ?_)
  refine .region (.m rfl rfl rfl (.move rfl) (.m rfl rfl rfl (.move rfl) (.m rfl rfl rfl (.len sl_34_VZ rfl) ?_)))
  refine .m rfl rfl rfl (.cmp rfl rfl rfl) (.nil ?_)
  refine hK5 _ _ ?_
  refine .cond rfl (fun h9 => ?_) (fun h9 => ?_)
  ·
   simp only [sps] at h9
   have hts := sumL3_take_succ (x := x) (k := i) (by omega)
   refine .skip ?_
   refine hK4 _ _ ?_
   refine .seq (fun K6 hK6 => ?_)
   refine .block ?_
   refine .region (.m rfl rfl rfl (.move rfl) (.m rfl rfl rfl (.move rfl) ?_))
   refine .m rfl rfl rfl (.idxN sl_34_VZ hsl rfl rfl (by omega)) ?_
   refine .m rfl rfl rfl (.loadE on_23_B hsl rfl (by omega)) ?_
   refine .m rfl rfl rfl (.move rfl) ?_
   refine .call rfl rfl rfl rfl @Try.call25 rfl (markInt64SS_c (hw.2.1 i (by omega)) (by omega) (by omega) (hm2 i).1) ?_
   rintro _ H17 ⟨rfl, mk17⟩
   refine .m rfl rfl rfl (.assign rfl) (.nil ?_)
   refine hK6 _ _ ?_
   refine .region (.m rfl rfl rfl (.move rfl) ?_)
   refine .m rfl rfl rfl (.add rfl rfl rfl (by omega) (by omega)) ?_
   refine .m rfl rfl rfl (.assign rfl) (.nil ?_)
   refine hKL1 ((i + 1, _)) _ _ ?_ ?_ ⟨rfl, rfl, rfl, trivial⟩
   ·
    exact ⟨by omega, by rw [sumL3_take_succ (by omega)]; omega, by rw [rows3L_succ]; exact hmk.app' mk17 (by rw [lvSum_rows3L _ _ _ (by omega)]; omega)⟩
   (dsimp only; omega)
  try simp only [sps] at h9
  refine .exit ?_
  refine hK2 _ _ ?_
  refine .seq (fun K7 hK7 => ?_)
  refine .region (.m rfl rfl rfl (.move rfl) (.m rfl rfl rfl (.assign rfl) (.nil ?_)))
  refine hK7 _ _ ?_
  refine .ret ?_
  refine hret _ _ ?_
  refine ⟨_, rfl, ?_⟩
  obtain rfl : i = x.length := by omega
  exact ⟨by rw [hq, List.take_length], hmk⟩
theorem markProfunctor_c {c : Prof} {p : ProfP} {lo hi : Nat} {k : Int} {H : GHeap} (w : ProfW lo hi H c p := by assumption) (hs : c.Small := by assumption) (hk : 0 ≤ k := by omega) (hk' : k + c.total ≤ 9223372036854775000 := by omega) (hhi : hi ≤ H.next := by omega) :
    GCalls Try.prog 21 [.agg (c.cells p).toArray, .int .i64 k] H (fun v H' => v = .int .i64 (k + c.total) ∧ Marked lo hi H H' (c.leaves p) k) := by
  obtain ⟨w1, w2, w3, w4, w5⟩ := w
  have ht : c.total = c.s.total + (c.t.total + (sumL c.sz + (sumL3 c.be + sumL3 c.bh))) := rfl
  obtain ⟨s1, s2, s3, s4, s5⟩ := hs
  obtain ⟨s31, s32⟩ := s3
  refine GCalls.body (N := 26) (rs := [.tmp 4]) Try.func21 rfl rfl rfl rfl (fun Qx hret hend => ?_)
  refine .forget (fr' := [(0, some _), (1, some _)]) ⟨rfl, rfl, trivial⟩ ?_
  refine .seq (fun K1 hK1 => ?_)
  refine .region ?_
  refine .r rfl rfl rfl (.boxR rfl sz_40_VProf rfl) ?_
  rintro _ H2 ⟨g2, rfl, le2, ge2, at2⟩
  have nx_H2 := le2.1
  have lt_at2 := GHeap.lt_of_get at2
  have mm2 : MemN _ _ _ _ _ := ⟨rfl, Mem.of_get at2⟩
  replace w1 := w1.stm (.of_le le2)
  replace w2 := w2.stm (.of_le le2)
  replace w3 := w3.stm (.of_le le2)
  replace w4 := w4.stm (.of_le le2)
  replace w5 := w5.stm (.of_le le2)
  refine .m rfl rfl rfl (.assign rfl) (.nil ?_)
  refine hK1 _ _ ?_
  refine .seq (fun K2 hK2 => ?_)
  refine .region ?_
  have hx : Mem H2 g2 0 (c.s.cells p.s ++ (c.t.cells p.t ++ [.slice p.a2 c.sz.length c.sz.length, .slice p.a3 c.be.length c.be.length, .slice p.a4 c.bh.length c.bh.length])) := Mem.of_get at2
  have m1 : MemN H2 g2 (0 + 0) 5 (c.s.cells p.s) := ⟨rfl, hx.left⟩
  refine .m rfl rfl rfl (.fieldAddr fo_40_0_VProf rfl) ?_
  refine .m rfl rfl rfl (.loadM ag_27_D rfl (by assumption)) ?_
  refine .m rfl rfl rfl (.move rfl) ?_
  refine .call rfl rfl rfl rfl @Try.call14 rfl (markCategory_c) ?_
  rintro _ H8 ⟨rfl, mk8⟩
  have sm8 := mk8.stm
  have nx_H8 := sm8.nx
  replace at2 := sm8.same _ _ (by omega) at2
  replace w1 := w1.stm sm8
  replace w2 := w2.stm sm8
  replace w3 := w3.stm sm8
  replace w4 := w4.stm sm8
  replace w5 := w5.stm sm8
  clear mm2
  have mm2 : MemN _ _ _ _ _ := ⟨rfl, Mem.of_get at2⟩
  refine .m rfl rfl rfl (.assign rfl) (.nil ?_)
  refine hK2 _ _ ?_
  refine .seq (fun K3 hK3 => ?_)
  refine .region ?_
  have hx : Mem H8 g2 0 (c.s.cells p.s ++ (c.t.cells p.t ++ [.slice p.a2 c.sz.length c.sz.length, .slice p.a3 c.be.length c.be.length, .slice p.a4 c.bh.length c.bh.length])) := Mem.of_get at2
  have m2 : MemN H8 g2 (0 + 5) 5 (c.t.cells p.t) := ⟨rfl, (hx.right (n := 5) rfl).left⟩
  refine .m rfl rfl rfl (.fieldAddr fo_40_1_VProf rfl) ?_
  refine .m rfl rfl rfl (.loadM ag_27_D rfl (by assumption)) ?_
  refine .m rfl rfl rfl (.move rfl) ?_
  refine .call rfl rfl rfl rfl @Try.call14 rfl (markCategory_c) ?_
  rintro _ H12 ⟨rfl, mk12⟩
  have sm12 := mk12.stm
  have nx_H12 := sm12.nx
  replace at2 := sm12.same _ _ (by omega) at2
  replace w1 := w1.stm sm12
  replace w2 := w2.stm sm12
  replace w3 := w3.stm sm12
  replace w4 := w4.stm sm12
  replace w5 := w5.stm sm12
  clear mm2
  have mm2 : MemN _ _ _ _ _ := ⟨rfl, Mem.of_get at2⟩
  refine .m rfl rfl rfl (.assign rfl) (.nil ?_)
  refine hK3 _ _ ?_
  refine .seq (fun K4 hK4 => ?_)
  refine .region ?_
  have c1 : H12.cell g2 (0 + 10) = some (.slice p.a2 c.sz.length c.sz.length) := Mem.of_get at2 10 _ rfl
  refine .m rfl rfl rfl (.fieldAddr fo_40_2_VProf rfl) ?_
  refine .m rfl rfl rfl (.load on_23_B rfl (by first | assumption | exact Mem.of_get at2 10 _ rfl)) ?_
  refine .m rfl rfl rfl (.move rfl) ?_
  refine .call rfl rfl rfl rfl @Try.call25 rfl (markInt64SS_c) ?_
  rintro _ H16 ⟨rfl, mk16⟩
  have sm16 := mk16.stm
  have nx_H16 := sm16.nx
  replace at2 := sm16.same _ _ (by omega) at2
  replace w1 := w1.stm sm16
  replace w2 := w2.stm sm16
  replace w3 := w3.stm sm16
  replace w4 := w4.stm sm16
  replace w5 := w5.stm sm16
  clear mm2
  have mm2 : MemN _ _ _ _ _ := ⟨rfl, Mem.of_get at2⟩
  refine .m rfl rfl rfl (.assign rfl) (.nil ?_)
  refine hK4 _ _ ?_
  refine .seq (fun K5 hK5 => ?_)
  refine .region ?_
  have c1 : H16.cell g2 (0 + 11) = some (.slice p.a3 c.be.length c.be.length) := Mem.of_get at2 11 _ rfl
  refine .m rfl rfl rfl (.fieldAddr fo_40_3_VProf rfl) ?_
  refine .m rfl rfl rfl (.load on_34_VProf rfl (by first | assumption | exact Mem.of_get at2 11 _ rfl)) ?_
  refine .m rfl rfl rfl (.move rfl) ?_
  refine .call rfl rfl rfl rfl @Try.call68 rfl (markInt64SSS_c) ?_
  rintro _ H20 ⟨rfl, mk20⟩
  have sm20 := mk20.stm
  have nx_H20 := sm20.nx
  replace at2 := sm20.same _ _ (by omega) at2
  replace w1 := w1.stm sm20
  replace w2 := w2.stm sm20
  replace w3 := w3.stm sm20
  replace w4 := w4.stm sm20
  replace w5 := w5.stm sm20
  clear mm2
  have mm2 : MemN _ _ _ _ _ := ⟨rfl, Mem.of_get at2⟩
  refine .m rfl rfl rfl (.assign rfl) (.nil ?_)
  refine hK5 _ _ ?_
  refine .seq (fun K6 hK6 => ?_)
  refine .region ?_
  have c1 : H20.cell g2 (0 + 12) = some (.slice p.a4 c.bh.length c.bh.length) := Mem.of_get at2 12 _ rfl
  refine .m rfl rfl rfl (.fieldAddr fo_40_4_VProf rfl) ?_
  refine .m rfl rfl rfl (.load on_34_VProf rfl (by first | assumption | exact Mem.of_get at2 12 _ rfl)) ?_
  refine .m rfl rfl rfl (.move rfl) ?_
  refine .call rfl rfl rfl rfl @Try.call68 rfl (markInt64SSS_c) ?_
  rintro _ H24 ⟨rfl, mk24⟩
  have sm24 := mk24.stm
  have nx_H24 := sm24.nx
  replace at2 := sm24.same _ _ (by omega) at2
  replace w1 := w1.stm sm24
  replace w2 := w2.stm sm24
  replace w3 := w3.stm sm24
  replace w4 := w4.stm sm24
  replace w5 := w5.stm sm24
  clear mm2
  have mm2 : MemN _ _ _ _ _ := ⟨rfl, Mem.of_get at2⟩
  refine .m rfl rfl rfl (.assign rfl) (.nil ?_)
  refine hK6 _ _ ?_
  refine .seq (fun K7 hK7 => ?_)
  refine .region (.m rfl rfl rfl (.move rfl) (.m rfl rfl rfl (.assign rfl) (.nil ?_)))
  refine hK7 _ _ ?_
  refine .ret ?_
  refine hret _ _ ?_
  refine ⟨_, rfl, ?_⟩
  refine ⟨by rw [ht]; congr 1; omega, .le_left le2 (mk8.app' (mk12.app' (mk16.app' (mk20.app' mk24 ?_) ?_) ?_) ?_)⟩
  · rw [lvSum_rows3L _ _ _ (Nat.le_refl _), List.take_length]
  · rw [lvSum_rowsL_all]
  · rw [Cat.lvSum_leaves]
  · rw [Cat.lvSum_leaves]
end Go.Proofs.Ytgnfekfdmgnhcaa
/- The law of CompositeClasses. No condition but those of each statement. -/
namespace Go.Proofs.Ytgnfekfdmgnhcaa
open Go Go.GL Go.RowKit Go.Proofs
theorem ag_36_LCompositeClasses : aggT Try.prog 36 = some 13 := by kernel_rfl
set_option maxHeartbeats 40000000 in
theorem lawCompositeClasses_c {m : Prof} {p : ProfP} {k : Prof} {q : ProfP} {x : Int} {z : Int} {H : GHeap} (h0 : m.In H p) (w0 : m.Wide) (h1 : k.In H q) (w1 : k.Wide) (w2 : I64 x) (w3 : I64 z) :
    GCalls Try.prog 6 [.agg (m.cells p).toArray, .agg (k.cells q).toArray, .int .i64 x, .int .i64 z] H (fun v _ => v = .bool true) := by
  refine GCalls.body (N := 129) (rs := [.tmp 8]) Try.func6 rfl rfl rfl rfl (fun Qx hret hend => ?_)
  refine .forget (fr' := [(0, some _), (1, some _), (2, some _), (3, some _)]) ⟨rfl, rfl, rfl, rfl, trivial⟩ ?_
  have hle := GHeap.Le.refl H
  have base_h0 := h0
  have base_h1 := h1
  refine .seq (fun K1 hK1 => ?_)
  refine .region ?_
  refine .r rfl rfl rfl (.boxR rfl sz_36_VProf rfl) ?_
  rintro _ H4 ⟨g4, rfl, le4, ge4, at4⟩
  have nx_H4 := le4.1
  replace hle := hle.trans le4
  have lt_at4 := GHeap.lt_of_get at4
  replace h0 := base_h0.mono hle
  replace h1 := base_h1.mono hle
  have hb4 : Prof.At _ g4 0 m p := ⟨Mem.of_get at4, h0⟩
  obtain ⟨fs4, ft4, c104, c114, c124, i24, i34, i44⟩ := hb4.get
  have hm4 : MemN _ _ _ _ _ := ⟨rfl, hb4.1⟩
  have hi4 := hb4.2
  have hms4 : MemN _ _ _ _ _ := ⟨rfl, fs4.1⟩
  have his4 := fs4.2
  have hmt4 : MemN _ _ _ _ _ := ⟨rfl, ft4.1⟩
  have hit4 := ft4.2
  refine .r rfl rfl rfl (.boxR rfl sz_36_VProf rfl) ?_
  rintro _ H5 ⟨g5, rfl, le5, ge5, at5⟩
  have nx_H5 := le5.1
  replace hle := hle.trans le5
  replace at4 := le5.2 _ _ at4
  have lt_at5 := GHeap.lt_of_get at5
  replace h0 := base_h0.mono hle
  replace h1 := base_h1.mono hle
  clear hb4 fs4 ft4 c104 c114 c124 i24 i34 i44 hm4 hi4 hms4 his4 hmt4 hit4
  have hb4 : Prof.At _ g4 0 m p := ⟨Mem.of_get at4, h0⟩
  obtain ⟨fs4, ft4, c104, c114, c124, i24, i34, i44⟩ := hb4.get
  have hm4 : MemN _ _ _ _ _ := ⟨rfl, hb4.1⟩
  have hi4 := hb4.2
  have hms4 : MemN _ _ _ _ _ := ⟨rfl, fs4.1⟩
  have his4 := fs4.2
  have hmt4 : MemN _ _ _ _ _ := ⟨rfl, ft4.1⟩
  have hit4 := ft4.2
  have hb5 : Prof.At _ g5 0 k q := ⟨Mem.of_get at5, h1⟩
  obtain ⟨fs5, ft5, c105, c115, c125, i25, i35, i45⟩ := hb5.get
  have hm5 : MemN _ _ _ _ _ := ⟨rfl, hb5.1⟩
  have hi5 := hb5.2
  have hms5 : MemN _ _ _ _ _ := ⟨rfl, fs5.1⟩
  have his5 := fs5.2
  have hmt5 : MemN _ _ _ _ _ := ⟨rfl, ft5.1⟩
  have hit5 := ft5.2
  refine .m rfl rfl rfl (.assign rfl) (.nil ?_)
  refine hK1 _ _ ?_
  refine .seq (fun K2 hK2 => ?_)
  refine .region (.m rfl rfl rfl (.assign rfl) (.nil ?_))
  refine hK2 _ _ ?_
  refine .seq (fun K3 hK3 => ?_)
  refine .region ?_
  refine .m rfl rfl rfl (.loadM ag_36_LCompositeClasses rfl ⟨rfl, Mem.of_get at4⟩) ?_
  refine .m rfl rfl rfl (.move rfl) ?_
  refine .call rfl rfl rfl rfl @Try.call16 rfl (szProfunctor_c) ?_
  rintro _ _ ⟨heq, lf23, rfl, z123, z223, z323⟩
  obtain rfl := heq.symm
  refine .m rfl rfl rfl (.assign rfl) (.nil ?_)
  refine hK3 _ _ ?_
  refine .seq (fun K4 hK4 => ?_)
  refine .seq (fun K5 hK5 => ?_)
  refine .region (.m rfl rfl rfl (.move rfl) (.m rfl rfl rfl (.cmp rfl rfl rfl) (.nil ?_)))
  refine hK5 _ _ ?_
  refine .cond rfl (fun h25 => ?_) (fun h25 => ?_)
  ·
   try simp only [sps] at h25
   refine .seq (fun K6 hK6 => ?_)
   refine .region (.m rfl rfl rfl (.assign rfl) (.nil ?_))
   refine hK6 _ _ ?_
   refine .ret ?_
   refine hret _ _ ?_
   refine ⟨_, rfl, ?_⟩
   first
   | exact rfl
   | exact absurd trivial (by assumption)
   | contradiction
   | (exfalso; omega)
  try simp only [sps] at h25
  have hsm23 := z323 (by omega)
  have tb23 := hsm23.tot
  refine .skip ?_
  refine hK4 _ _ ?_
  refine .seq (fun K7 hK7 => ?_)
  refine .region ?_
  refine .m rfl rfl rfl (.loadM ag_36_LCompositeClasses rfl ⟨rfl, Mem.of_get at5⟩) ?_
  refine .m rfl rfl rfl (.move rfl) ?_
  refine .call rfl rfl rfl rfl @Try.call16 rfl (szProfunctor_c) ?_
  rintro _ _ ⟨heq, lf28, rfl, z128, z228, z328⟩
  obtain rfl := heq.symm
  refine .m rfl rfl rfl (.assign rfl) (.nil ?_)
  refine hK7 _ _ ?_
  refine .seq (fun K8 hK8 => ?_)
  refine .seq (fun K9 hK9 => ?_)
  refine .region (.m rfl rfl rfl (.move rfl) (.m rfl rfl rfl (.cmp rfl rfl rfl) (.nil ?_)))
  refine hK9 _ _ ?_
  refine .cond rfl (fun h30 => ?_) (fun h30 => ?_)
  ·
   try simp only [sps] at h30
   refine .seq (fun K10 hK10 => ?_)
   refine .region (.m rfl rfl rfl (.assign rfl) (.nil ?_))
   refine hK10 _ _ ?_
   refine .ret ?_
   refine hret _ _ ?_
   refine ⟨_, rfl, ?_⟩
   first
   | exact rfl
   | exact absurd trivial (by assumption)
   | contradiction
   | (exfalso; omega)
  simp only [sps] at h30
  have hcl := ccR_len m k x z
  have hsm28 := z328 (by omega)
  have tb28 := hsm28.tot
  refine .skip ?_
  refine hK8 _ _ ?_
  refine .seq (fun K11 hK11 => ?_)
  refine .regionD mixed_orders_B (.q 0 (.q 2 (.q 4 (.q 5 (.c 1 1 (.c 3 1 (.c 6 0 (.q 7 (.q 8 (.q 9 (.q 10 (.q 11 (.done))))))))))))) (by kernel_rfl) ?_
  refine .m rfl rfl rfl rfl (.refl _) (.loadM ag_36_LCompositeClasses rfl ⟨rfl, Mem.of_get at4⟩) ?_
  refine .m rfl rfl rfl rfl (.refl _) (.loadM ag_36_LCompositeClasses rfl ⟨rfl, Mem.of_get at5⟩) ?_
  refine .m rfl rfl rfl rfl (.refl _) (.move rfl) (.m rfl rfl rfl rfl (.refl _) (.move rfl) ?_)
  refine .call1 rfl rfl rfl rfl rfl @Try.call18 rfl (toProfunctor_c) ?_
  rintro _ H33 ⟨le33, p33, rfl, v33⟩
  have hbl := le33
  refine ⟨hbl, ?_⟩
  have nx_H33 := le33.1
  replace hle := hle.trans le33
  replace at4 := le33.2 _ _ at4
  replace at5 := le33.2 _ _ at5
  have bs_v33 := v33
  have lv_v33 : Keep H5.next H33 H33 := fun _ _ _ h => h
  replace h0 := base_h0.mono hle
  replace h1 := base_h1.mono hle
  clear hb4 fs4 ft4 c104 c114 c124 i24 i34 i44 hm4 hi4 hms4 his4 hmt4 hit4
  have hb4 : Prof.At _ g4 0 m p := ⟨Mem.of_get at4, h0⟩
  obtain ⟨fs4, ft4, c104, c114, c124, i24, i34, i44⟩ := hb4.get
  have hm4 : MemN _ _ _ _ _ := ⟨rfl, hb4.1⟩
  have hi4 := hb4.2
  have hms4 : MemN _ _ _ _ _ := ⟨rfl, fs4.1⟩
  have his4 := fs4.2
  have hmt4 : MemN _ _ _ _ _ := ⟨rfl, ft4.1⟩
  have hit4 := ft4.2
  clear hb5 fs5 ft5 c105 c115 c125 i25 i35 i45 hm5 hi5 hms5 his5 hmt5 hit5
  have hb5 : Prof.At _ g5 0 k q := ⟨Mem.of_get at5, h1⟩
  obtain ⟨fs5, ft5, c105, c115, c125, i25, i35, i45⟩ := hb5.get
  have hm5 : MemN _ _ _ _ _ := ⟨rfl, hb5.1⟩
  have hi5 := hb5.2
  have hms5 : MemN _ _ _ _ _ := ⟨rfl, fs5.1⟩
  have his5 := fs5.2
  have hmt5 : MemN _ _ _ _ _ := ⟨rfl, ft5.1⟩
  have hit5 := ft5.2
  have i33 := v33.inn
  refine .call1 rfl rfl rfl rfl rfl @Try.call18 rfl (toProfunctor_c) ?_
  rintro _ H35 ⟨le35, p35, rfl, v35⟩
  replace hbl := hbl.trans le35
  refine ⟨hbl, ?_⟩
  have nx_H35 := le35.1
  replace hle := hle.trans le35
  replace at4 := le35.2 _ _ at4
  replace at5 := le35.2 _ _ at5
  replace lv_v33 := Keep.le lv_v33 le35
  replace v33 := bs_v33.keep lv_v33 (Nat.le_refl _)
  have bs_v35 := v35
  have lv_v35 : Keep H33.next H35 H35 := fun _ _ _ h => h
  replace h0 := base_h0.mono hle
  replace h1 := base_h1.mono hle
  clear hb4 fs4 ft4 c104 c114 c124 i24 i34 i44 hm4 hi4 hms4 his4 hmt4 hit4
  have hb4 : Prof.At _ g4 0 m p := ⟨Mem.of_get at4, h0⟩
  obtain ⟨fs4, ft4, c104, c114, c124, i24, i34, i44⟩ := hb4.get
  have hm4 : MemN _ _ _ _ _ := ⟨rfl, hb4.1⟩
  have hi4 := hb4.2
  have hms4 : MemN _ _ _ _ _ := ⟨rfl, fs4.1⟩
  have his4 := fs4.2
  have hmt4 : MemN _ _ _ _ _ := ⟨rfl, ft4.1⟩
  have hit4 := ft4.2
  clear hb5 fs5 ft5 c105 c115 c125 i25 i35 i45 hm5 hi5 hms5 his5 hmt5 hit5
  have hb5 : Prof.At _ g5 0 k q := ⟨Mem.of_get at5, h1⟩
  obtain ⟨fs5, ft5, c105, c115, c125, i25, i35, i45⟩ := hb5.get
  have hm5 : MemN _ _ _ _ _ := ⟨rfl, hb5.1⟩
  have hi5 := hb5.2
  have hms5 : MemN _ _ _ _ _ := ⟨rfl, fs5.1⟩
  have his5 := fs5.2
  have hmt5 : MemN _ _ _ _ _ := ⟨rfl, ft5.1⟩
  have hit5 := ft5.2
  clear i33
  have i33 := v33.inn
  have i35 := v35.inn
  refine .call0 rfl rfl rfl rfl rfl @Try.call27 rfl (specCompositeClasses_c) ?_
  rintro _ H38 ⟨le38, a38, rfl, v38⟩
  have nx_H38 := le38.1
  replace hle := hle.trans le38
  replace at4 := le38.2 _ _ at4
  replace at5 := le38.2 _ _ at5
  replace lv_v33 := Keep.le lv_v33 le38
  replace v33 := bs_v33.keep lv_v33 (Nat.le_refl _)
  replace lv_v35 := Keep.le lv_v35 le38
  replace v35 := bs_v35.keep lv_v35 (Nat.le_refl _)
  have bs_v38 := v38
  have lv_v38 : Keep H35.next H38 H38 := fun _ _ _ h => h
  replace h0 := base_h0.mono hle
  replace h1 := base_h1.mono hle
  clear hb4 fs4 ft4 c104 c114 c124 i24 i34 i44 hm4 hi4 hms4 his4 hmt4 hit4
  have hb4 : Prof.At _ g4 0 m p := ⟨Mem.of_get at4, h0⟩
  obtain ⟨fs4, ft4, c104, c114, c124, i24, i34, i44⟩ := hb4.get
  have hm4 : MemN _ _ _ _ _ := ⟨rfl, hb4.1⟩
  have hi4 := hb4.2
  have hms4 : MemN _ _ _ _ _ := ⟨rfl, fs4.1⟩
  have his4 := fs4.2
  have hmt4 : MemN _ _ _ _ _ := ⟨rfl, ft4.1⟩
  have hit4 := ft4.2
  clear hb5 fs5 ft5 c105 c115 c125 i25 i35 i45 hm5 hi5 hms5 his5 hmt5 hit5
  have hb5 : Prof.At _ g5 0 k q := ⟨Mem.of_get at5, h1⟩
  obtain ⟨fs5, ft5, c105, c115, c125, i25, i35, i45⟩ := hb5.get
  have hm5 : MemN _ _ _ _ _ := ⟨rfl, hb5.1⟩
  have hi5 := hb5.2
  have hms5 : MemN _ _ _ _ _ := ⟨rfl, fs5.1⟩
  have his5 := fs5.2
  have hmt5 : MemN _ _ _ _ _ := ⟨rfl, ft5.1⟩
  have hit5 := ft5.2
  clear i33
  have i33 := v33.inn
  clear i35
  have i35 := v35.inn
  have i38 := v38.ints
  refine .m rfl rfl rfl rfl (.refl _) (.move rfl) (.m rfl rfl rfl rfl (.refl _) (.extract rfl rfl) (.m rfl rfl rfl rfl (.refl _) (.extract rfl rfl) (.m rfl rfl rfl rfl (.refl _) (.assign rfl) ?_)))
  refine .m rfl rfl rfl rfl (.refl _) (.assign rfl) ?_
  refine .done ?_
  refine hK11 _ _ ?_
  refine .seq (fun K12 hK12 => ?_)
  refine .region ?_
  refine .m rfl rfl rfl (.loadM ag_36_LCompositeClasses rfl ⟨rfl, Mem.of_get at4⟩) ?_
  refine .call rfl rfl rfl rfl @Try.call18 rfl (toProfunctor_c) ?_
  rintro _ H42 ⟨le42, p42, rfl, v42⟩
  have nx_H42 := le42.1
  replace hle := hle.trans le42
  replace at4 := le42.2 _ _ at4
  replace at5 := le42.2 _ _ at5
  replace lv_v33 := Keep.le lv_v33 le42
  replace v33 := bs_v33.keep lv_v33 (Nat.le_refl _)
  replace lv_v35 := Keep.le lv_v35 le42
  replace v35 := bs_v35.keep lv_v35 (Nat.le_refl _)
  replace lv_v38 := Keep.le lv_v38 le42
  replace v38 := bs_v38.keep lv_v38 (Nat.le_refl _)
  have bs_v42 := v42
  have lv_v42 : Keep H38.next H42 H42 := fun _ _ _ h => h
  replace h0 := base_h0.mono hle
  replace h1 := base_h1.mono hle
  clear hb4 fs4 ft4 c104 c114 c124 i24 i34 i44 hm4 hi4 hms4 his4 hmt4 hit4
  have hb4 : Prof.At _ g4 0 m p := ⟨Mem.of_get at4, h0⟩
  obtain ⟨fs4, ft4, c104, c114, c124, i24, i34, i44⟩ := hb4.get
  have hm4 : MemN _ _ _ _ _ := ⟨rfl, hb4.1⟩
  have hi4 := hb4.2
  have hms4 : MemN _ _ _ _ _ := ⟨rfl, fs4.1⟩
  have his4 := fs4.2
  have hmt4 : MemN _ _ _ _ _ := ⟨rfl, ft4.1⟩
  have hit4 := ft4.2
  clear hb5 fs5 ft5 c105 c115 c125 i25 i35 i45 hm5 hi5 hms5 his5 hmt5 hit5
  have hb5 : Prof.At _ g5 0 k q := ⟨Mem.of_get at5, h1⟩
  obtain ⟨fs5, ft5, c105, c115, c125, i25, i35, i45⟩ := hb5.get
  have hm5 : MemN _ _ _ _ _ := ⟨rfl, hb5.1⟩
  have hi5 := hb5.2
  have hms5 : MemN _ _ _ _ _ := ⟨rfl, fs5.1⟩
  have his5 := fs5.2
  have hmt5 : MemN _ _ _ _ _ := ⟨rfl, ft5.1⟩
  have hit5 := ft5.2
  clear i33
  have i33 := v33.inn
  clear i35
  have i35 := v35.inn
  clear i38
  have i38 := v38.ints
  have i42 := v42.inn
  refine .r rfl rfl rfl (.allocR rfl ze_40_VProf rfl) ?_
  rintro _ H12 ⟨g12, rfl, le12, ge12, at12⟩
  have nx_H12 := le12.1
  replace hle := hle.trans le12
  replace at4 := le12.2 _ _ at4
  replace at5 := le12.2 _ _ at5
  replace lv_v33 := Keep.le lv_v33 le12
  replace v33 := bs_v33.keep lv_v33 (Nat.le_refl _)
  replace lv_v35 := Keep.le lv_v35 le12
  replace v35 := bs_v35.keep lv_v35 (Nat.le_refl _)
  replace lv_v38 := Keep.le lv_v38 le12
  replace v38 := bs_v38.keep lv_v38 (Nat.le_refl _)
  replace lv_v42 := Keep.le lv_v42 le12
  replace v42 := bs_v42.keep lv_v42 (Nat.le_refl _)
  have lt_at12 := GHeap.lt_of_get at12
  replace h0 := base_h0.mono hle
  replace h1 := base_h1.mono hle
  clear hb4 fs4 ft4 c104 c114 c124 i24 i34 i44 hm4 hi4 hms4 his4 hmt4 hit4
  have hb4 : Prof.At _ g4 0 m p := ⟨Mem.of_get at4, h0⟩
  obtain ⟨fs4, ft4, c104, c114, c124, i24, i34, i44⟩ := hb4.get
  have hm4 : MemN _ _ _ _ _ := ⟨rfl, hb4.1⟩
  have hi4 := hb4.2
  have hms4 : MemN _ _ _ _ _ := ⟨rfl, fs4.1⟩
  have his4 := fs4.2
  have hmt4 : MemN _ _ _ _ _ := ⟨rfl, ft4.1⟩
  have hit4 := ft4.2
  clear hb5 fs5 ft5 c105 c115 c125 i25 i35 i45 hm5 hi5 hms5 his5 hmt5 hit5
  have hb5 : Prof.At _ g5 0 k q := ⟨Mem.of_get at5, h1⟩
  obtain ⟨fs5, ft5, c105, c115, c125, i25, i35, i45⟩ := hb5.get
  have hm5 : MemN _ _ _ _ _ := ⟨rfl, hb5.1⟩
  have hi5 := hb5.2
  have hms5 : MemN _ _ _ _ _ := ⟨rfl, fs5.1⟩
  have his5 := fs5.2
  have hmt5 : MemN _ _ _ _ _ := ⟨rfl, ft5.1⟩
  have hit5 := ft5.2
  clear i33
  have i33 := v33.inn
  clear i35
  have i35 := v35.inn
  clear i38
  have i38 := v38.ints
  clear i42
  have i42 := v42.inn
  refine .r0 rfl rfl (.fillR rfl sz_40_VProf rfl rfl rfl rfl (by assumption) (by first | rfl | exact Nat.le_of_ble_eq_true rfl | simp)) ?_
  rintro _ H9003 ⟨rfl, st9003, at9003⟩
  have nx_H9003 := st9003.nx
  replace hle := hle.st st9003 (fun k hk => ⟨by omega, trivial⟩)
  have ne_g4_g12 : g4 ≠ g12 := by omega
  replace at4 := st9003.same _ _ ⟨ne_g4_g12, trivial⟩ at4
  have ne_g5_g12 : g5 ≠ g12 := by omega
  replace at5 := st9003.same _ _ ⟨ne_g5_g12, trivial⟩ at5
  replace lv_v33 := Keep.st lv_v33 st9003 (fun k hb hk => ⟨by omega, trivial⟩)
  replace v33 := bs_v33.keep lv_v33 (Nat.le_refl _)
  replace lv_v35 := Keep.st lv_v35 st9003 (fun k hb hk => ⟨by omega, trivial⟩)
  replace v35 := bs_v35.keep lv_v35 (Nat.le_refl _)
  replace lv_v38 := Keep.st lv_v38 st9003 (fun k hb hk => ⟨by omega, trivial⟩)
  replace v38 := bs_v38.keep lv_v38 (Nat.le_refl _)
  replace lv_v42 := Keep.st lv_v42 st9003 (fun k hb hk => ⟨by omega, trivial⟩)
  replace v42 := bs_v42.keep lv_v42 (Nat.le_refl _)
  have lt_at9003 := GHeap.lt_of_get at9003
  replace h0 := base_h0.mono hle
  replace h1 := base_h1.mono hle
  clear hb4 fs4 ft4 c104 c114 c124 i24 i34 i44 hm4 hi4 hms4 his4 hmt4 hit4
  have hb4 : Prof.At _ g4 0 m p := ⟨Mem.of_get at4, h0⟩
  obtain ⟨fs4, ft4, c104, c114, c124, i24, i34, i44⟩ := hb4.get
  have hm4 : MemN _ _ _ _ _ := ⟨rfl, hb4.1⟩
  have hi4 := hb4.2
  have hms4 : MemN _ _ _ _ _ := ⟨rfl, fs4.1⟩
  have his4 := fs4.2
  have hmt4 : MemN _ _ _ _ _ := ⟨rfl, ft4.1⟩
  have hit4 := ft4.2
  clear hb5 fs5 ft5 c105 c115 c125 i25 i35 i45 hm5 hi5 hms5 his5 hmt5 hit5
  have hb5 : Prof.At _ g5 0 k q := ⟨Mem.of_get at5, h1⟩
  obtain ⟨fs5, ft5, c105, c115, c125, i25, i35, i45⟩ := hb5.get
  have hm5 : MemN _ _ _ _ _ := ⟨rfl, hb5.1⟩
  have hi5 := hb5.2
  have hms5 : MemN _ _ _ _ _ := ⟨rfl, fs5.1⟩
  have his5 := fs5.2
  have hmt5 : MemN _ _ _ _ _ := ⟨rfl, ft5.1⟩
  have hit5 := ft5.2
  clear i33
  have i33 := v33.inn
  clear i35
  have i35 := v35.inn
  clear i38
  have i38 := v38.ints
  clear i42
  have i42 := v42.inn
  have mm9003 : MemN _ _ _ _ _ := ⟨rfl, Mem.of_get at9003⟩
  refine .nil ?_
  refine hK12 _ _ ?_
  refine .seq (fun K13 hK13 => ?_)
  refine .region ?_
  refine .m rfl rfl rfl (.loadM ag_36_LCompositeClasses rfl ⟨rfl, Mem.of_get at5⟩) ?_
  refine .call rfl rfl rfl rfl @Try.call18 rfl (toProfunctor_c) ?_
  rintro _ H44 ⟨le44, p44, rfl, v44⟩
  have nx_H44 := le44.1
  replace hle := hle.trans le44
  replace at4 := le44.2 _ _ at4
  replace at5 := le44.2 _ _ at5
  replace at9003 := le44.2 _ _ at9003
  replace lv_v33 := Keep.le lv_v33 le44
  replace v33 := bs_v33.keep lv_v33 (Nat.le_refl _)
  replace lv_v35 := Keep.le lv_v35 le44
  replace v35 := bs_v35.keep lv_v35 (Nat.le_refl _)
  replace lv_v38 := Keep.le lv_v38 le44
  replace v38 := bs_v38.keep lv_v38 (Nat.le_refl _)
  replace lv_v42 := Keep.le lv_v42 le44
  replace v42 := bs_v42.keep lv_v42 (Nat.le_refl _)
  have bs_v44 := v44
  have lv_v44 : Keep H9003.next H44 H44 := fun _ _ _ h => h
  replace h0 := base_h0.mono hle
  replace h1 := base_h1.mono hle
  clear hb4 fs4 ft4 c104 c114 c124 i24 i34 i44 hm4 hi4 hms4 his4 hmt4 hit4
  have hb4 : Prof.At _ g4 0 m p := ⟨Mem.of_get at4, h0⟩
  obtain ⟨fs4, ft4, c104, c114, c124, i24, i34, i44⟩ := hb4.get
  have hm4 : MemN _ _ _ _ _ := ⟨rfl, hb4.1⟩
  have hi4 := hb4.2
  have hms4 : MemN _ _ _ _ _ := ⟨rfl, fs4.1⟩
  have his4 := fs4.2
  have hmt4 : MemN _ _ _ _ _ := ⟨rfl, ft4.1⟩
  have hit4 := ft4.2
  clear hb5 fs5 ft5 c105 c115 c125 i25 i35 i45 hm5 hi5 hms5 his5 hmt5 hit5
  have hb5 : Prof.At _ g5 0 k q := ⟨Mem.of_get at5, h1⟩
  obtain ⟨fs5, ft5, c105, c115, c125, i25, i35, i45⟩ := hb5.get
  have hm5 : MemN _ _ _ _ _ := ⟨rfl, hb5.1⟩
  have hi5 := hb5.2
  have hms5 : MemN _ _ _ _ _ := ⟨rfl, fs5.1⟩
  have his5 := fs5.2
  have hmt5 : MemN _ _ _ _ _ := ⟨rfl, ft5.1⟩
  have hit5 := ft5.2
  clear i33
  have i33 := v33.inn
  clear i35
  have i35 := v35.inn
  clear i38
  have i38 := v38.ints
  clear i42
  have i42 := v42.inn
  clear mm9003
  have mm9003 : MemN _ _ _ _ _ := ⟨rfl, Mem.of_get at9003⟩
  have i44 := v44.inn
  refine .r rfl rfl rfl (.allocR rfl ze_40_VProf rfl) ?_
  rintro _ H13 ⟨g13, rfl, le13, ge13, at13⟩
  have nx_H13 := le13.1
  replace hle := hle.trans le13
  replace at4 := le13.2 _ _ at4
  replace at5 := le13.2 _ _ at5
  replace at9003 := le13.2 _ _ at9003
  replace lv_v33 := Keep.le lv_v33 le13
  replace v33 := bs_v33.keep lv_v33 (Nat.le_refl _)
  replace lv_v35 := Keep.le lv_v35 le13
  replace v35 := bs_v35.keep lv_v35 (Nat.le_refl _)
  replace lv_v38 := Keep.le lv_v38 le13
  replace v38 := bs_v38.keep lv_v38 (Nat.le_refl _)
  replace lv_v42 := Keep.le lv_v42 le13
  replace v42 := bs_v42.keep lv_v42 (Nat.le_refl _)
  replace lv_v44 := Keep.le lv_v44 le13
  replace v44 := bs_v44.keep lv_v44 (Nat.le_refl _)
  have lt_at13 := GHeap.lt_of_get at13
  replace h0 := base_h0.mono hle
  replace h1 := base_h1.mono hle
  clear hb4 fs4 ft4 c104 c114 c124 i24 i34 i44 hm4 hi4 hms4 his4 hmt4 hit4
  have hb4 : Prof.At _ g4 0 m p := ⟨Mem.of_get at4, h0⟩
  obtain ⟨fs4, ft4, c104, c114, c124, i24, i34, i44⟩ := hb4.get
  have hm4 : MemN _ _ _ _ _ := ⟨rfl, hb4.1⟩
  have hi4 := hb4.2
  have hms4 : MemN _ _ _ _ _ := ⟨rfl, fs4.1⟩
  have his4 := fs4.2
  have hmt4 : MemN _ _ _ _ _ := ⟨rfl, ft4.1⟩
  have hit4 := ft4.2
  clear hb5 fs5 ft5 c105 c115 c125 i25 i35 i45 hm5 hi5 hms5 his5 hmt5 hit5
  have hb5 : Prof.At _ g5 0 k q := ⟨Mem.of_get at5, h1⟩
  obtain ⟨fs5, ft5, c105, c115, c125, i25, i35, i45⟩ := hb5.get
  have hm5 : MemN _ _ _ _ _ := ⟨rfl, hb5.1⟩
  have hi5 := hb5.2
  have hms5 : MemN _ _ _ _ _ := ⟨rfl, fs5.1⟩
  have his5 := fs5.2
  have hmt5 : MemN _ _ _ _ _ := ⟨rfl, ft5.1⟩
  have hit5 := ft5.2
  clear i33
  have i33 := v33.inn
  clear i35
  have i35 := v35.inn
  clear i38
  have i38 := v38.ints
  clear i42
  have i42 := v42.inn
  clear mm9003
  have mm9003 : MemN _ _ _ _ _ := ⟨rfl, Mem.of_get at9003⟩
  clear i44
  have i44 := v44.inn
  refine .r0 rfl rfl (.fillR rfl sz_40_VProf rfl rfl rfl rfl (by assumption) (by first | rfl | exact Nat.le_of_ble_eq_true rfl | simp)) ?_
  rintro _ H10003 ⟨rfl, st10003, at10003⟩
  have nx_H10003 := st10003.nx
  replace hle := hle.st st10003 (fun k hk => ⟨by omega, trivial⟩)
  have ne_g4_g13 : g4 ≠ g13 := by omega
  replace at4 := st10003.same _ _ ⟨ne_g4_g13, trivial⟩ at4
  have ne_g5_g13 : g5 ≠ g13 := by omega
  replace at5 := st10003.same _ _ ⟨ne_g5_g13, trivial⟩ at5
  have ne_g12_g13 : g12 ≠ g13 := by omega
  replace at9003 := st10003.same _ _ ⟨ne_g12_g13, trivial⟩ at9003
  replace lv_v33 := Keep.st lv_v33 st10003 (fun k hb hk => ⟨by omega, trivial⟩)
  replace v33 := bs_v33.keep lv_v33 (Nat.le_refl _)
  replace lv_v35 := Keep.st lv_v35 st10003 (fun k hb hk => ⟨by omega, trivial⟩)
  replace v35 := bs_v35.keep lv_v35 (Nat.le_refl _)
  replace lv_v38 := Keep.st lv_v38 st10003 (fun k hb hk => ⟨by omega, trivial⟩)
  replace v38 := bs_v38.keep lv_v38 (Nat.le_refl _)
  replace lv_v42 := Keep.st lv_v42 st10003 (fun k hb hk => ⟨by omega, trivial⟩)
  replace v42 := bs_v42.keep lv_v42 (Nat.le_refl _)
  replace lv_v44 := Keep.st lv_v44 st10003 (fun k hb hk => ⟨by omega, trivial⟩)
  replace v44 := bs_v44.keep lv_v44 (Nat.le_refl _)
  have lt_at10003 := GHeap.lt_of_get at10003
  replace h0 := base_h0.mono hle
  replace h1 := base_h1.mono hle
  clear hb4 fs4 ft4 c104 c114 c124 i24 i34 i44 hm4 hi4 hms4 his4 hmt4 hit4
  have hb4 : Prof.At _ g4 0 m p := ⟨Mem.of_get at4, h0⟩
  obtain ⟨fs4, ft4, c104, c114, c124, i24, i34, i44⟩ := hb4.get
  have hm4 : MemN _ _ _ _ _ := ⟨rfl, hb4.1⟩
  have hi4 := hb4.2
  have hms4 : MemN _ _ _ _ _ := ⟨rfl, fs4.1⟩
  have his4 := fs4.2
  have hmt4 : MemN _ _ _ _ _ := ⟨rfl, ft4.1⟩
  have hit4 := ft4.2
  clear hb5 fs5 ft5 c105 c115 c125 i25 i35 i45 hm5 hi5 hms5 his5 hmt5 hit5
  have hb5 : Prof.At _ g5 0 k q := ⟨Mem.of_get at5, h1⟩
  obtain ⟨fs5, ft5, c105, c115, c125, i25, i35, i45⟩ := hb5.get
  have hm5 : MemN _ _ _ _ _ := ⟨rfl, hb5.1⟩
  have hi5 := hb5.2
  have hms5 : MemN _ _ _ _ _ := ⟨rfl, fs5.1⟩
  have his5 := fs5.2
  have hmt5 : MemN _ _ _ _ _ := ⟨rfl, ft5.1⟩
  have hit5 := ft5.2
  clear i33
  have i33 := v33.inn
  clear i35
  have i35 := v35.inn
  clear i38
  have i38 := v38.ints
  clear i42
  have i42 := v42.inn
  clear mm9003
  have mm9003 : MemN _ _ _ _ _ := ⟨rfl, Mem.of_get at9003⟩
  clear i44
  have i44 := v44.inn
  have mm10003 : MemN _ _ _ _ _ := ⟨rfl, Mem.of_get at10003⟩
  refine .nil ?_
  refine hK13 _ _ ?_
  refine .seq (fun K14 hK14 => ?_)
  refine .region ?_
  refine .m rfl rfl rfl (.loadM ag_40_VProf rfl ⟨rfl, Mem.of_get at9003⟩) ?_
  refine .m rfl rfl rfl (.loadM ag_40_VProf rfl ⟨rfl, Mem.of_get at10003⟩) ?_
  refine .m rfl rfl rfl (.move rfl) (.m rfl rfl rfl (.move rfl) ?_)
  refine .call rfl rfl rfl rfl @Try.call28 rfl (implCompositeClasses_c) ?_
  rintro _ H50 ⟨le50, a50, rfl, v50⟩
  have nx_H50 := le50.1
  replace hle := hle.trans le50
  replace at4 := le50.2 _ _ at4
  replace at5 := le50.2 _ _ at5
  replace at9003 := le50.2 _ _ at9003
  replace at10003 := le50.2 _ _ at10003
  replace lv_v33 := Keep.le lv_v33 le50
  replace v33 := bs_v33.keep lv_v33 (Nat.le_refl _)
  replace lv_v35 := Keep.le lv_v35 le50
  replace v35 := bs_v35.keep lv_v35 (Nat.le_refl _)
  replace lv_v38 := Keep.le lv_v38 le50
  replace v38 := bs_v38.keep lv_v38 (Nat.le_refl _)
  replace lv_v42 := Keep.le lv_v42 le50
  replace v42 := bs_v42.keep lv_v42 (Nat.le_refl _)
  replace lv_v44 := Keep.le lv_v44 le50
  replace v44 := bs_v44.keep lv_v44 (Nat.le_refl _)
  have bs_v50 := v50
  have lv_v50 : Keep H10003.next H50 H50 := fun _ _ _ h => h
  replace h0 := base_h0.mono hle
  replace h1 := base_h1.mono hle
  clear hb4 fs4 ft4 c104 c114 c124 i24 i34 i44 hm4 hi4 hms4 his4 hmt4 hit4
  have hb4 : Prof.At _ g4 0 m p := ⟨Mem.of_get at4, h0⟩
  obtain ⟨fs4, ft4, c104, c114, c124, i24, i34, i44⟩ := hb4.get
  have hm4 : MemN _ _ _ _ _ := ⟨rfl, hb4.1⟩
  have hi4 := hb4.2
  have hms4 : MemN _ _ _ _ _ := ⟨rfl, fs4.1⟩
  have his4 := fs4.2
  have hmt4 : MemN _ _ _ _ _ := ⟨rfl, ft4.1⟩
  have hit4 := ft4.2
  clear hb5 fs5 ft5 c105 c115 c125 i25 i35 i45 hm5 hi5 hms5 his5 hmt5 hit5
  have hb5 : Prof.At _ g5 0 k q := ⟨Mem.of_get at5, h1⟩
  obtain ⟨fs5, ft5, c105, c115, c125, i25, i35, i45⟩ := hb5.get
  have hm5 : MemN _ _ _ _ _ := ⟨rfl, hb5.1⟩
  have hi5 := hb5.2
  have hms5 : MemN _ _ _ _ _ := ⟨rfl, fs5.1⟩
  have his5 := fs5.2
  have hmt5 : MemN _ _ _ _ _ := ⟨rfl, ft5.1⟩
  have hit5 := ft5.2
  clear i33
  have i33 := v33.inn
  clear i35
  have i35 := v35.inn
  clear i38
  have i38 := v38.ints
  clear i42
  have i42 := v42.inn
  clear mm9003
  have mm9003 : MemN _ _ _ _ _ := ⟨rfl, Mem.of_get at9003⟩
  clear i44
  have i44 := v44.inn
  clear mm10003
  have mm10003 : MemN _ _ _ _ _ := ⟨rfl, Mem.of_get at10003⟩
  have i50 := v50.ints
  refine .m rfl rfl rfl (.move rfl) (.m rfl rfl rfl (.extract rfl rfl) (.m rfl rfl rfl (.extract rfl rfl) (.m rfl rfl rfl (.assign rfl) ?_)))
  refine .m rfl rfl rfl (.assign rfl) (.nil ?_)
  refine hK14 _ _ ?_
  refine .seq (fun K15 hK15 => ?_)
  refine .seq (fun K16 hK16 => ?_)
  refine .region (.m rfl rfl rfl (.move rfl) (.m rfl rfl rfl (.move rfl) ?_))
  refine .callQ rfl rfl rfl rfl @Try.call29 rfl (eqInt64S_c) ?_
  refine .m rfl rfl rfl (.not rfl) (.m rfl rfl rfl (.move rfl) ?_)
  refine .split (fun h57 => ?_) (fun h57 => ?_)
  ·
   try simp only [sps] at h57
   refine .sg rfl rfl rfl rfl rfl (.sg rfl rfl rfl rfl rfl (.sg rfl rfl rfl rfl rfl (.m rfl rfl rfl (.pickT rfl rfl) ?_)))
   refine .nil ?_
   refine hK16 _ _ ?_
   refine .condT rfl ?_
   refine .seq (fun K17 hK17 => ?_)
   refine .region (.m rfl rfl rfl (.assign rfl) (.nil ?_))
   refine hK17 _ _ ?_
   refine .ret ?_
   refine hret _ _ ?_
   refine ⟨_, rfl, ?_⟩
   first
   | exact rfl
   | exact absurd trivial (by assumption)
   | contradiction
   | (exfalso; omega)
  try simp only [sps] at h57
  refine .mg rfl rfl rfl rfl rfl (.move rfl) (.mg rfl rfl rfl rfl rfl (.move rfl) (.mg rfl rfl rfl rfl rfl (.cmp rfl rfl rfl) (.m rfl rfl rfl (.pickF rfl rfl) ?_)))
  refine .nil ?_
  refine hK16 _ _ ?_
  refine .cond rfl (fun h61 => ?_) (fun h61 => ?_)
  ·
   try simp only [sps] at h61
   refine .seq (fun K18 hK18 => ?_)
   refine .region (.m rfl rfl rfl (.assign rfl) (.nil ?_))
   refine hK18 _ _ ?_
   refine .ret ?_
   refine hret _ _ ?_
   refine ⟨_, rfl, ?_⟩
   first
   | exact rfl
   | exact absurd trivial (by assumption)
   | contradiction
   | (exfalso; omega)
  try simp only [sps] at h61
  refine .skip ?_
  refine hK15 _ _ ?_
  refine .seq (fun K19 hK19 => ?_)
  refine .seq (fun K20 hK20 => ?_)
  refine .regionD mixed_orders_B (.q 0 (.q 1 (.c 2 1 (.c 3 0 (.q 4 (.done)))))) (by kernel_rfl) ?_
  refine .m rfl rfl rfl rfl (.refl _) (.loadM ag_40_VProf rfl ⟨rfl, Mem.of_get at9003⟩) ?_
  refine .m rfl rfl rfl rfl (.refl _) (.loadM ag_36_LCompositeClasses rfl ⟨rfl, Mem.of_get at4⟩) ?_
  refine .call1 rfl rfl rfl rfl rfl @Try.call18 rfl (toProfunctor_c) ?_
  rintro _ H64 ⟨le64, p64, rfl, v64⟩
  have hbl := le64
  refine ⟨hbl, ?_⟩
  have nx_H64 := le64.1
  replace hle := hle.trans le64
  replace at4 := le64.2 _ _ at4
  replace at5 := le64.2 _ _ at5
  replace at9003 := le64.2 _ _ at9003
  replace at10003 := le64.2 _ _ at10003
  replace lv_v33 := Keep.le lv_v33 le64
  replace v33 := bs_v33.keep lv_v33 (Nat.le_refl _)
  replace lv_v35 := Keep.le lv_v35 le64
  replace v35 := bs_v35.keep lv_v35 (Nat.le_refl _)
  replace lv_v38 := Keep.le lv_v38 le64
  replace v38 := bs_v38.keep lv_v38 (Nat.le_refl _)
  replace lv_v42 := Keep.le lv_v42 le64
  replace v42 := bs_v42.keep lv_v42 (Nat.le_refl _)
  replace lv_v44 := Keep.le lv_v44 le64
  replace v44 := bs_v44.keep lv_v44 (Nat.le_refl _)
  replace lv_v50 := Keep.le lv_v50 le64
  replace v50 := bs_v50.keep lv_v50 (Nat.le_refl _)
  have bs_v64 := v64
  have lv_v64 : Keep H50.next H64 H64 := fun _ _ _ h => h
  replace h0 := base_h0.mono hle
  replace h1 := base_h1.mono hle
  clear hb4 fs4 ft4 c104 c114 c124 i24 i34 i44 hm4 hi4 hms4 his4 hmt4 hit4
  have hb4 : Prof.At _ g4 0 m p := ⟨Mem.of_get at4, h0⟩
  obtain ⟨fs4, ft4, c104, c114, c124, i24, i34, i44⟩ := hb4.get
  have hm4 : MemN _ _ _ _ _ := ⟨rfl, hb4.1⟩
  have hi4 := hb4.2
  have hms4 : MemN _ _ _ _ _ := ⟨rfl, fs4.1⟩
  have his4 := fs4.2
  have hmt4 : MemN _ _ _ _ _ := ⟨rfl, ft4.1⟩
  have hit4 := ft4.2
  clear hb5 fs5 ft5 c105 c115 c125 i25 i35 i45 hm5 hi5 hms5 his5 hmt5 hit5
  have hb5 : Prof.At _ g5 0 k q := ⟨Mem.of_get at5, h1⟩
  obtain ⟨fs5, ft5, c105, c115, c125, i25, i35, i45⟩ := hb5.get
  have hm5 : MemN _ _ _ _ _ := ⟨rfl, hb5.1⟩
  have hi5 := hb5.2
  have hms5 : MemN _ _ _ _ _ := ⟨rfl, fs5.1⟩
  have his5 := fs5.2
  have hmt5 : MemN _ _ _ _ _ := ⟨rfl, ft5.1⟩
  have hit5 := ft5.2
  clear i33
  have i33 := v33.inn
  clear i35
  have i35 := v35.inn
  clear i38
  have i38 := v38.ints
  clear i42
  have i42 := v42.inn
  clear mm9003
  have mm9003 : MemN _ _ _ _ _ := ⟨rfl, Mem.of_get at9003⟩
  clear i44
  have i44 := v44.inn
  clear mm10003
  have mm10003 : MemN _ _ _ _ _ := ⟨rfl, Mem.of_get at10003⟩
  clear i50
  have i50 := v50.ints
  have i64 := v64.inn
  refine .callQ0 rfl rfl rfl rfl rfl @Try.call20 rfl (eqProfunctor_c) ?_
  refine .m rfl rfl rfl rfl (.refl _) (.not rfl) ?_
  refine .done ?_
  refine hK20 _ _ ?_
  refine .cond rfl (fun h66 => ?_) (fun h66 => ?_)
  ·
   try simp only [sps] at h66
   refine .seq (fun K21 hK21 => ?_)
   refine .region (.m rfl rfl rfl (.assign rfl) (.nil ?_))
   refine hK21 _ _ ?_
   refine .ret ?_
   refine hret _ _ ?_
   refine ⟨_, rfl, ?_⟩
   first
   | exact rfl
   | exact absurd trivial (by assumption)
   | contradiction
   | (exfalso; omega)
  try simp only [sps] at h66
  refine .skip ?_
  refine hK19 _ _ ?_
  refine .seq (fun K22 hK22 => ?_)
  refine .seq (fun K23 hK23 => ?_)
  refine .regionD mixed_orders_B (.q 0 (.q 1 (.c 2 1 (.c 3 0 (.q 4 (.done)))))) (by kernel_rfl) ?_
  refine .m rfl rfl rfl rfl (.refl _) (.loadM ag_40_VProf rfl ⟨rfl, Mem.of_get at10003⟩) ?_
  refine .m rfl rfl rfl rfl (.refl _) (.loadM ag_36_LCompositeClasses rfl ⟨rfl, Mem.of_get at5⟩) ?_
  refine .call1 rfl rfl rfl rfl rfl @Try.call18 rfl (toProfunctor_c) ?_
  rintro _ H69 ⟨le69, p69, rfl, v69⟩
  have hbl := le69
  refine ⟨hbl, ?_⟩
  have nx_H69 := le69.1
  replace hle := hle.trans le69
  replace at4 := le69.2 _ _ at4
  replace at5 := le69.2 _ _ at5
  replace at9003 := le69.2 _ _ at9003
  replace at10003 := le69.2 _ _ at10003
  replace lv_v33 := Keep.le lv_v33 le69
  replace v33 := bs_v33.keep lv_v33 (Nat.le_refl _)
  replace lv_v35 := Keep.le lv_v35 le69
  replace v35 := bs_v35.keep lv_v35 (Nat.le_refl _)
  replace lv_v38 := Keep.le lv_v38 le69
  replace v38 := bs_v38.keep lv_v38 (Nat.le_refl _)
  replace lv_v42 := Keep.le lv_v42 le69
  replace v42 := bs_v42.keep lv_v42 (Nat.le_refl _)
  replace lv_v44 := Keep.le lv_v44 le69
  replace v44 := bs_v44.keep lv_v44 (Nat.le_refl _)
  replace lv_v50 := Keep.le lv_v50 le69
  replace v50 := bs_v50.keep lv_v50 (Nat.le_refl _)
  replace lv_v64 := Keep.le lv_v64 le69
  replace v64 := bs_v64.keep lv_v64 (Nat.le_refl _)
  have bs_v69 := v69
  have lv_v69 : Keep H64.next H69 H69 := fun _ _ _ h => h
  replace h0 := base_h0.mono hle
  replace h1 := base_h1.mono hle
  clear hb4 fs4 ft4 c104 c114 c124 i24 i34 i44 hm4 hi4 hms4 his4 hmt4 hit4
  have hb4 : Prof.At _ g4 0 m p := ⟨Mem.of_get at4, h0⟩
  obtain ⟨fs4, ft4, c104, c114, c124, i24, i34, i44⟩ := hb4.get
  have hm4 : MemN _ _ _ _ _ := ⟨rfl, hb4.1⟩
  have hi4 := hb4.2
  have hms4 : MemN _ _ _ _ _ := ⟨rfl, fs4.1⟩
  have his4 := fs4.2
  have hmt4 : MemN _ _ _ _ _ := ⟨rfl, ft4.1⟩
  have hit4 := ft4.2
  clear hb5 fs5 ft5 c105 c115 c125 i25 i35 i45 hm5 hi5 hms5 his5 hmt5 hit5
  have hb5 : Prof.At _ g5 0 k q := ⟨Mem.of_get at5, h1⟩
  obtain ⟨fs5, ft5, c105, c115, c125, i25, i35, i45⟩ := hb5.get
  have hm5 : MemN _ _ _ _ _ := ⟨rfl, hb5.1⟩
  have hi5 := hb5.2
  have hms5 : MemN _ _ _ _ _ := ⟨rfl, fs5.1⟩
  have his5 := fs5.2
  have hmt5 : MemN _ _ _ _ _ := ⟨rfl, ft5.1⟩
  have hit5 := ft5.2
  clear i33
  have i33 := v33.inn
  clear i35
  have i35 := v35.inn
  clear i38
  have i38 := v38.ints
  clear i42
  have i42 := v42.inn
  clear mm9003
  have mm9003 : MemN _ _ _ _ _ := ⟨rfl, Mem.of_get at9003⟩
  clear i44
  have i44 := v44.inn
  clear mm10003
  have mm10003 : MemN _ _ _ _ _ := ⟨rfl, Mem.of_get at10003⟩
  clear i50
  have i50 := v50.ints
  clear i64
  have i64 := v64.inn
  have i69 := v69.inn
  refine .callQ0 rfl rfl rfl rfl rfl @Try.call20 rfl (eqProfunctor_c) ?_
  refine .m rfl rfl rfl rfl (.refl _) (.not rfl) ?_
  refine .done ?_
  refine hK23 _ _ ?_
  refine .cond rfl (fun h71 => ?_) (fun h71 => ?_)
  ·
   try simp only [sps] at h71
   refine .seq (fun K24 hK24 => ?_)
   refine .region (.m rfl rfl rfl (.assign rfl) (.nil ?_))
   refine hK24 _ _ ?_
   refine .ret ?_
   refine hret _ _ ?_
   refine ⟨_, rfl, ?_⟩
   first
   | exact rfl
   | exact absurd trivial (by assumption)
   | contradiction
   | (exfalso; omega)
  try simp only [sps] at h71
  refine .skip ?_
  refine hK22 _ _ ?_
  refine .seq (fun K25 hK25 => ?_)
  refine .region (.m rfl rfl rfl (.assign rfl) (.nil ?_))
  refine hK25 _ _ ?_
  refine .seq (fun K26 hK26 => ?_)
  refine .region ?_
  refine .m rfl rfl rfl (.loadM ag_40_VProf rfl ⟨rfl, Mem.of_get at9003⟩) ?_
  refine .m rfl rfl rfl (.move rfl) ?_
  have w_v42 := ProfW.of_at bs_v42 lv_v42
  refine .call rfl rfl rfl rfl @Try.call21 rfl (markProfunctor_c) ?_
  rintro _ H74 ⟨rfl, mk74⟩
  have sm74 := mk74.stm
  have nx_H74 := sm74.nx
  replace hle := StM.le_left hle sm74 (by omega)
  replace at4 := sm74.same _ _ (by omega) at4
  replace at5 := sm74.same _ _ (by omega) at5
  replace at9003 := sm74.same _ _ (by omega) at9003
  replace at10003 := sm74.same _ _ (by omega) at10003
  replace lv_v33 := Keep.stM lv_v33 sm74 (fun k hb hk => by omega)
  replace v33 := bs_v33.keep lv_v33 (Nat.le_refl _)
  replace lv_v35 := Keep.stM lv_v35 sm74 (fun k hb hk => by omega)
  replace v35 := bs_v35.keep lv_v35 (Nat.le_refl _)
  replace lv_v38 := Keep.stM lv_v38 sm74 (fun k hb hk => by omega)
  replace v38 := bs_v38.keep lv_v38 (Nat.le_refl _)
  replace lv_v44 := Keep.stM lv_v44 sm74 (fun k hb hk => by omega)
  replace v44 := bs_v44.keep lv_v44 (Nat.le_refl _)
  replace lv_v50 := Keep.stM lv_v50 sm74 (fun k hb hk => by omega)
  replace v50 := bs_v50.keep lv_v50 (Nat.le_refl _)
  replace lv_v64 := Keep.stM lv_v64 sm74 (fun k hb hk => by omega)
  replace v64 := bs_v64.keep lv_v64 (Nat.le_refl _)
  replace lv_v69 := Keep.stM lv_v69 sm74 (fun k hb hk => by omega)
  replace v69 := bs_v69.keep lv_v69 (Nat.le_refl _)
  replace h0 := base_h0.mono hle
  replace h1 := base_h1.mono hle
  clear hb4 fs4 ft4 c104 c114 c124 i24 i34 i44 hm4 hi4 hms4 his4 hmt4 hit4
  have hb4 : Prof.At _ g4 0 m p := ⟨Mem.of_get at4, h0⟩
  obtain ⟨fs4, ft4, c104, c114, c124, i24, i34, i44⟩ := hb4.get
  have hm4 : MemN _ _ _ _ _ := ⟨rfl, hb4.1⟩
  have hi4 := hb4.2
  have hms4 : MemN _ _ _ _ _ := ⟨rfl, fs4.1⟩
  have his4 := fs4.2
  have hmt4 : MemN _ _ _ _ _ := ⟨rfl, ft4.1⟩
  have hit4 := ft4.2
  clear hb5 fs5 ft5 c105 c115 c125 i25 i35 i45 hm5 hi5 hms5 his5 hmt5 hit5
  have hb5 : Prof.At _ g5 0 k q := ⟨Mem.of_get at5, h1⟩
  obtain ⟨fs5, ft5, c105, c115, c125, i25, i35, i45⟩ := hb5.get
  have hm5 : MemN _ _ _ _ _ := ⟨rfl, hb5.1⟩
  have hi5 := hb5.2
  have hms5 : MemN _ _ _ _ _ := ⟨rfl, fs5.1⟩
  have his5 := fs5.2
  have hmt5 : MemN _ _ _ _ _ := ⟨rfl, ft5.1⟩
  have hit5 := ft5.2
  clear i33
  have i33 := v33.inn
  clear i35
  have i35 := v35.inn
  clear i38
  have i38 := v38.ints
  clear mm9003
  have mm9003 : MemN _ _ _ _ _ := ⟨rfl, Mem.of_get at9003⟩
  clear i44
  have i44 := v44.inn
  clear mm10003
  have mm10003 : MemN _ _ _ _ _ := ⟨rfl, Mem.of_get at10003⟩
  clear i50
  have i50 := v50.ints
  clear i64
  have i64 := v64.inn
  clear i69
  have i69 := v69.inn
  refine .m rfl rfl rfl (.assign rfl) (.nil ?_)
  refine hK26 _ _ ?_
  refine .seq (fun K27 hK27 => ?_)
  refine .region ?_
  refine .m rfl rfl rfl (.loadM ag_40_VProf rfl ⟨rfl, Mem.of_get at10003⟩) ?_
  refine .m rfl rfl rfl (.move rfl) ?_
  have w_v44 := ProfW.of_at bs_v44 lv_v44
  refine .call rfl rfl rfl rfl @Try.call21 rfl (markProfunctor_c) ?_
  rintro _ H77 ⟨rfl, mk77⟩
  have sm77 := mk77.stm
  have nx_H77 := sm77.nx
  replace hle := StM.le_left hle sm77 (by omega)
  replace at4 := sm77.same _ _ (by omega) at4
  replace at5 := sm77.same _ _ (by omega) at5
  replace at9003 := sm77.same _ _ (by omega) at9003
  replace at10003 := sm77.same _ _ (by omega) at10003
  replace lv_v33 := Keep.stM lv_v33 sm77 (fun k hb hk => by omega)
  replace v33 := bs_v33.keep lv_v33 (Nat.le_refl _)
  replace lv_v35 := Keep.stM lv_v35 sm77 (fun k hb hk => by omega)
  replace v35 := bs_v35.keep lv_v35 (Nat.le_refl _)
  replace lv_v38 := Keep.stM lv_v38 sm77 (fun k hb hk => by omega)
  replace v38 := bs_v38.keep lv_v38 (Nat.le_refl _)
  replace lv_v50 := Keep.stM lv_v50 sm77 (fun k hb hk => by omega)
  replace v50 := bs_v50.keep lv_v50 (Nat.le_refl _)
  replace lv_v64 := Keep.stM lv_v64 sm77 (fun k hb hk => by omega)
  replace v64 := bs_v64.keep lv_v64 (Nat.le_refl _)
  replace lv_v69 := Keep.stM lv_v69 sm77 (fun k hb hk => by omega)
  replace v69 := bs_v69.keep lv_v69 (Nat.le_refl _)
  replace h0 := base_h0.mono hle
  replace h1 := base_h1.mono hle
  clear hb4 fs4 ft4 c104 c114 c124 i24 i34 i44 hm4 hi4 hms4 his4 hmt4 hit4
  have hb4 : Prof.At _ g4 0 m p := ⟨Mem.of_get at4, h0⟩
  obtain ⟨fs4, ft4, c104, c114, c124, i24, i34, i44⟩ := hb4.get
  have hm4 : MemN _ _ _ _ _ := ⟨rfl, hb4.1⟩
  have hi4 := hb4.2
  have hms4 : MemN _ _ _ _ _ := ⟨rfl, fs4.1⟩
  have his4 := fs4.2
  have hmt4 : MemN _ _ _ _ _ := ⟨rfl, ft4.1⟩
  have hit4 := ft4.2
  clear hb5 fs5 ft5 c105 c115 c125 i25 i35 i45 hm5 hi5 hms5 his5 hmt5 hit5
  have hb5 : Prof.At _ g5 0 k q := ⟨Mem.of_get at5, h1⟩
  obtain ⟨fs5, ft5, c105, c115, c125, i25, i35, i45⟩ := hb5.get
  have hm5 : MemN _ _ _ _ _ := ⟨rfl, hb5.1⟩
  have hi5 := hb5.2
  have hms5 : MemN _ _ _ _ _ := ⟨rfl, fs5.1⟩
  have his5 := fs5.2
  have hmt5 : MemN _ _ _ _ _ := ⟨rfl, ft5.1⟩
  have hit5 := ft5.2
  clear i33
  have i33 := v33.inn
  clear i35
  have i35 := v35.inn
  clear i38
  have i38 := v38.ints
  clear mm9003
  have mm9003 : MemN _ _ _ _ _ := ⟨rfl, Mem.of_get at9003⟩
  clear mm10003
  have mm10003 : MemN _ _ _ _ _ := ⟨rfl, Mem.of_get at10003⟩
  clear i50
  have i50 := v50.ints
  clear i64
  have i64 := v64.inn
  clear i69
  have i69 := v69.inn
  refine .m rfl rfl rfl (.assign rfl) (.nil ?_)
  refine hK27 _ _ ?_
  refine .seq (fun K28 hK28 => ?_)
  refine .seq (fun K29 hK29 => ?_)
  refine .region (.m rfl rfl rfl (.move rfl) (.m rfl rfl rfl (.cmp rfl rfl rfl) (.m rfl rfl rfl (.move rfl) ?_)))
  refine .split (fun h80 => ?_) (fun h80 => ?_)
  ·
   try simp only [sps] at h80
   refine .sg rfl rfl rfl rfl rfl (.sg rfl rfl rfl rfl rfl (.sg rfl rfl rfl rfl rfl (.sg rfl rfl rfl rfl rfl ?_)))
   refine .m rfl rfl rfl (.pickT rfl rfl) (.m rfl rfl rfl (.move rfl) (.sg rfl rfl rfl rfl rfl (.sg rfl rfl rfl rfl rfl ?_)))
   refine .sg rfl rfl rfl rfl rfl (.m rfl rfl rfl (.pickT rfl rfl) (.nil ?_))
   refine hK29 _ _ ?_
   refine .condT rfl ?_
   refine .seq (fun K30 hK30 => ?_)
   refine .region (.m rfl rfl rfl (.assign rfl) (.nil ?_))
   refine hK30 _ _ ?_
   refine .ret ?_
   refine hret _ _ ?_
   refine ⟨_, rfl, ?_⟩
   first
   | exact rfl
   | exact absurd trivial (by assumption)
   | contradiction
   | (exfalso; omega)
  try simp only [sps] at h80
  refine .mg rfl rfl rfl rfl rfl (.move rfl) (.mg rfl rfl rfl rfl rfl (.move rfl) ?_)
  refine .callQg rfl rfl rfl rfl rfl rfl @Try.call29 rfl (eqInt64S_c) ?_
  refine .mg rfl rfl rfl rfl rfl (.not rfl) (.m rfl rfl rfl (.pickF rfl rfl) (.m rfl rfl rfl (.move rfl) ?_))
  refine .split (fun h86 => ?_) (fun h86 => ?_)
  ·
   try simp only [sps] at h86
   refine .sg rfl rfl rfl rfl rfl (.sg rfl rfl rfl rfl rfl (.sg rfl rfl rfl rfl rfl (.m rfl rfl rfl (.pickT rfl rfl) ?_)))
   refine .nil ?_
   refine hK29 _ _ ?_
   refine .condT rfl ?_
   refine .seq (fun K31 hK31 => ?_)
   refine .region (.m rfl rfl rfl (.assign rfl) (.nil ?_))
   refine hK31 _ _ ?_
   refine .ret ?_
   refine hret _ _ ?_
   refine ⟨_, rfl, ?_⟩
   first
   | exact rfl
   | exact absurd trivial (by assumption)
   | contradiction
   | (exfalso; omega)
  try simp only [sps] at h86
  refine .mg rfl rfl rfl rfl rfl (.move rfl) (.mg rfl rfl rfl rfl rfl (.move rfl) (.mg rfl rfl rfl rfl rfl (.cmp rfl rfl rfl) (.m rfl rfl rfl (.pickF rfl rfl) ?_)))
  refine .nil ?_
  refine hK29 _ _ ?_
  refine .cond rfl (fun h90 => ?_) (fun h90 => ?_)
  ·
   try simp only [sps] at h90
   refine .seq (fun K32 hK32 => ?_)
   refine .region (.m rfl rfl rfl (.assign rfl) (.nil ?_))
   refine hK32 _ _ ?_
   refine .ret ?_
   refine hret _ _ ?_
   refine ⟨_, rfl, ?_⟩
   first
   | exact rfl
   | exact absurd trivial (by assumption)
   | contradiction
   | (exfalso; omega)
  try simp only [sps] at h90
  refine .skip ?_
  refine hK28 _ _ ?_
  refine .seq (fun K33 hK33 => ?_)
  refine .region (.m rfl rfl rfl (.assign rfl) (.nil ?_))
  refine hK33 _ _ ?_
  refine .seq (fun K34 hK34 => ?_)
  refine .region (.m rfl rfl rfl (.move rfl) (.m rfl rfl rfl (.move rfl) ?_))
  have w_v50 := IntsW.of_r bs_v50 lv_v50
  refine .call rfl rfl rfl rfl @Try.call30 rfl (markInt64S_c) ?_
  rintro _ H93 ⟨rfl, mk93⟩
  have sm93 := mk93.stm
  have nx_H93 := sm93.nx
  replace hle := StM.le_left hle sm93 (by omega)
  replace at4 := sm93.same _ _ (by omega) at4
  replace at5 := sm93.same _ _ (by omega) at5
  replace at9003 := sm93.same _ _ (by omega) at9003
  replace at10003 := sm93.same _ _ (by omega) at10003
  replace lv_v33 := Keep.stM lv_v33 sm93 (fun k hb hk => by omega)
  replace v33 := bs_v33.keep lv_v33 (Nat.le_refl _)
  replace lv_v35 := Keep.stM lv_v35 sm93 (fun k hb hk => by omega)
  replace v35 := bs_v35.keep lv_v35 (Nat.le_refl _)
  replace lv_v38 := Keep.stM lv_v38 sm93 (fun k hb hk => by omega)
  replace v38 := bs_v38.keep lv_v38 (Nat.le_refl _)
  replace lv_v64 := Keep.stM lv_v64 sm93 (fun k hb hk => by omega)
  replace v64 := bs_v64.keep lv_v64 (Nat.le_refl _)
  replace lv_v69 := Keep.stM lv_v69 sm93 (fun k hb hk => by omega)
  replace v69 := bs_v69.keep lv_v69 (Nat.le_refl _)
  replace h0 := base_h0.mono hle
  replace h1 := base_h1.mono hle
  clear hb4 fs4 ft4 c104 c114 c124 i24 i34 i44 hm4 hi4 hms4 his4 hmt4 hit4
  have hb4 : Prof.At _ g4 0 m p := ⟨Mem.of_get at4, h0⟩
  obtain ⟨fs4, ft4, c104, c114, c124, i24, i34, i44⟩ := hb4.get
  have hm4 : MemN _ _ _ _ _ := ⟨rfl, hb4.1⟩
  have hi4 := hb4.2
  have hms4 : MemN _ _ _ _ _ := ⟨rfl, fs4.1⟩
  have his4 := fs4.2
  have hmt4 : MemN _ _ _ _ _ := ⟨rfl, ft4.1⟩
  have hit4 := ft4.2
  clear hb5 fs5 ft5 c105 c115 c125 i25 i35 i45 hm5 hi5 hms5 his5 hmt5 hit5
  have hb5 : Prof.At _ g5 0 k q := ⟨Mem.of_get at5, h1⟩
  obtain ⟨fs5, ft5, c105, c115, c125, i25, i35, i45⟩ := hb5.get
  have hm5 : MemN _ _ _ _ _ := ⟨rfl, hb5.1⟩
  have hi5 := hb5.2
  have hms5 : MemN _ _ _ _ _ := ⟨rfl, fs5.1⟩
  have his5 := fs5.2
  have hmt5 : MemN _ _ _ _ _ := ⟨rfl, ft5.1⟩
  have hit5 := ft5.2
  clear i33
  have i33 := v33.inn
  clear i35
  have i35 := v35.inn
  clear i38
  have i38 := v38.ints
  clear mm9003
  have mm9003 : MemN _ _ _ _ _ := ⟨rfl, Mem.of_get at9003⟩
  clear mm10003
  have mm10003 : MemN _ _ _ _ _ := ⟨rfl, Mem.of_get at10003⟩
  clear i64
  have i64 := v64.inn
  clear i69
  have i69 := v69.inn
  have hd93 := mk93.held (IntsR.nodup)
  have wd93 := w_v50.stm sm93
  have bs_hd93 := hd93
  have lv_hd93 : Keep H10003.next H93 H93 := fun _ _ _ h => h
  have bs_wd93 := wd93
  have lv_wd93 : Keep H10003.next H93 H93 := fun _ _ _ h => h
  refine .m rfl rfl rfl (.assign rfl) (.nil ?_)
  refine hK34 _ _ ?_
  refine .seq (fun K35 hK35 => ?_)
  refine .region (.m rfl rfl rfl (.assign rfl) (.nil ?_))
  refine hK35 _ _ ?_
  refine .seq (fun K36 hK36 => ?_)
  refine .region (.m rfl rfl rfl (.move rfl) (.m rfl rfl rfl (.move rfl) ?_))
  refine .callQ rfl rfl rfl rfl @Try.call31 rfl (heldInt64S_c) ?_
  refine .m rfl rfl rfl (.assign rfl) (.nil ?_)
  refine hK36 _ _ ?_
  refine .seq (fun K37 hK37 => ?_)
  refine .seq (fun K38 hK38 => ?_)
  refine .region (.m rfl rfl rfl (.move rfl) (.m rfl rfl rfl (.cmp rfl rfl rfl) (.nil ?_)))
  refine hK38 _ _ ?_
  refine .cond rfl (fun h98 => ?_) (fun h98 => ?_)
  ·
   try simp only [sps] at h98
   refine .seq (fun K39 hK39 => ?_)
   refine .region (.m rfl rfl rfl (.assign rfl) (.nil ?_))
   refine hK39 _ _ ?_
   refine .ret ?_
   refine hret _ _ ?_
   refine ⟨_, rfl, ?_⟩
   first
   | exact rfl
   | exact absurd trivial (by assumption)
   | contradiction
   | (exfalso; omega)
  try simp only [sps] at h98
  refine .skip ?_
  refine hK37 _ _ ?_
  refine .seq (fun K40 hK40 => ?_)
  refine .seq (fun K41 hK41 => ?_)
  refine .region (.m rfl rfl rfl (.move rfl) (.m rfl rfl rfl (.move rfl) (.m rfl rfl rfl (.cmp rfl rfl rfl) ?_)))
  refine .nil ?_
  refine hK41 _ _ ?_
  refine .cond rfl (fun h101 => ?_) (fun h101 => ?_)
  ·
   try simp only [sps] at h101
   refine .seq (fun K42 hK42 => ?_)
   refine .region (.m rfl rfl rfl (.assign rfl) (.nil ?_))
   refine hK42 _ _ ?_
   refine .ret ?_
   refine hret _ _ ?_
   refine ⟨_, rfl, ?_⟩
   first
   | exact rfl
   | exact absurd trivial (by assumption)
   | contradiction
   | (exfalso; omega)
  try simp only [sps] at h101
  refine .skip ?_
  refine hK40 _ _ ?_
  refine .seq (fun K43 hK43 => ?_)
  refine .regionD mixed_orders_B (.q 0 (.q 2 (.q 4 (.q 5 (.c 1 1 (.c 3 1 (.c 6 0 (.q 7 (.q 8 (.q 9 (.q 10 (.q 11 (.done))))))))))))) (by kernel_rfl) ?_
  refine .m rfl rfl rfl rfl (.refl _) (.loadM ag_36_LCompositeClasses rfl ⟨rfl, Mem.of_get at4⟩) ?_
  refine .m rfl rfl rfl rfl (.refl _) (.loadM ag_36_LCompositeClasses rfl ⟨rfl, Mem.of_get at5⟩) ?_
  refine .m rfl rfl rfl rfl (.refl _) (.move rfl) (.m rfl rfl rfl rfl (.refl _) (.move rfl) ?_)
  refine .call1 rfl rfl rfl rfl rfl @Try.call18 rfl (toProfunctor_c) ?_
  rintro _ H104 ⟨le104, p104, rfl, v104⟩
  have hbl := le104
  refine ⟨hbl, ?_⟩
  have nx_H104 := le104.1
  replace hle := hle.trans le104
  replace at4 := le104.2 _ _ at4
  replace at5 := le104.2 _ _ at5
  replace at9003 := le104.2 _ _ at9003
  replace at10003 := le104.2 _ _ at10003
  replace lv_v33 := Keep.le lv_v33 le104
  replace v33 := bs_v33.keep lv_v33 (Nat.le_refl _)
  replace lv_v35 := Keep.le lv_v35 le104
  replace v35 := bs_v35.keep lv_v35 (Nat.le_refl _)
  replace lv_v38 := Keep.le lv_v38 le104
  replace v38 := bs_v38.keep lv_v38 (Nat.le_refl _)
  replace lv_v64 := Keep.le lv_v64 le104
  replace v64 := bs_v64.keep lv_v64 (Nat.le_refl _)
  replace lv_v69 := Keep.le lv_v69 le104
  replace v69 := bs_v69.keep lv_v69 (Nat.le_refl _)
  replace lv_hd93 := Keep.le lv_hd93 le104
  replace hd93 := bs_hd93.keep lv_hd93 (Nat.le_refl _)
  replace lv_wd93 := Keep.le lv_wd93 le104
  replace wd93 := bs_wd93.keep lv_wd93 (Nat.le_refl _)
  have bs_v104 := v104
  have lv_v104 : Keep H93.next H104 H104 := fun _ _ _ h => h
  replace h0 := base_h0.mono hle
  replace h1 := base_h1.mono hle
  clear hb4 fs4 ft4 c104 c114 c124 i24 i34 i44 hm4 hi4 hms4 his4 hmt4 hit4
  have hb4 : Prof.At _ g4 0 m p := ⟨Mem.of_get at4, h0⟩
  obtain ⟨fs4, ft4, c104, c114, c124, i24, i34, i44⟩ := hb4.get
  have hm4 : MemN _ _ _ _ _ := ⟨rfl, hb4.1⟩
  have hi4 := hb4.2
  have hms4 : MemN _ _ _ _ _ := ⟨rfl, fs4.1⟩
  have his4 := fs4.2
  have hmt4 : MemN _ _ _ _ _ := ⟨rfl, ft4.1⟩
  have hit4 := ft4.2
  clear hb5 fs5 ft5 c105 c115 c125 i25 i35 i45 hm5 hi5 hms5 his5 hmt5 hit5
  have hb5 : Prof.At _ g5 0 k q := ⟨Mem.of_get at5, h1⟩
  obtain ⟨fs5, ft5, c105, c115, c125, i25, i35, i45⟩ := hb5.get
  have hm5 : MemN _ _ _ _ _ := ⟨rfl, hb5.1⟩
  have hi5 := hb5.2
  have hms5 : MemN _ _ _ _ _ := ⟨rfl, fs5.1⟩
  have his5 := fs5.2
  have hmt5 : MemN _ _ _ _ _ := ⟨rfl, ft5.1⟩
  have hit5 := ft5.2
  clear i33
  have i33 := v33.inn
  clear i35
  have i35 := v35.inn
  clear i38
  have i38 := v38.ints
  clear mm9003
  have mm9003 : MemN _ _ _ _ _ := ⟨rfl, Mem.of_get at9003⟩
  clear mm10003
  have mm10003 : MemN _ _ _ _ _ := ⟨rfl, Mem.of_get at10003⟩
  clear i64
  have i64 := v64.inn
  clear i69
  have i69 := v69.inn
  have i104 := v104.inn
  refine .call1 rfl rfl rfl rfl rfl @Try.call18 rfl (toProfunctor_c) ?_
  rintro _ H106 ⟨le106, p106, rfl, v106⟩
  replace hbl := hbl.trans le106
  refine ⟨hbl, ?_⟩
  have nx_H106 := le106.1
  replace hle := hle.trans le106
  replace at4 := le106.2 _ _ at4
  replace at5 := le106.2 _ _ at5
  replace at9003 := le106.2 _ _ at9003
  replace at10003 := le106.2 _ _ at10003
  replace lv_v33 := Keep.le lv_v33 le106
  replace v33 := bs_v33.keep lv_v33 (Nat.le_refl _)
  replace lv_v35 := Keep.le lv_v35 le106
  replace v35 := bs_v35.keep lv_v35 (Nat.le_refl _)
  replace lv_v38 := Keep.le lv_v38 le106
  replace v38 := bs_v38.keep lv_v38 (Nat.le_refl _)
  replace lv_v64 := Keep.le lv_v64 le106
  replace v64 := bs_v64.keep lv_v64 (Nat.le_refl _)
  replace lv_v69 := Keep.le lv_v69 le106
  replace v69 := bs_v69.keep lv_v69 (Nat.le_refl _)
  replace lv_hd93 := Keep.le lv_hd93 le106
  replace hd93 := bs_hd93.keep lv_hd93 (Nat.le_refl _)
  replace lv_wd93 := Keep.le lv_wd93 le106
  replace wd93 := bs_wd93.keep lv_wd93 (Nat.le_refl _)
  replace lv_v104 := Keep.le lv_v104 le106
  replace v104 := bs_v104.keep lv_v104 (Nat.le_refl _)
  have bs_v106 := v106
  have lv_v106 : Keep H104.next H106 H106 := fun _ _ _ h => h
  replace h0 := base_h0.mono hle
  replace h1 := base_h1.mono hle
  clear hb4 fs4 ft4 c104 c114 c124 i24 i34 i44 hm4 hi4 hms4 his4 hmt4 hit4
  have hb4 : Prof.At _ g4 0 m p := ⟨Mem.of_get at4, h0⟩
  obtain ⟨fs4, ft4, c104, c114, c124, i24, i34, i44⟩ := hb4.get
  have hm4 : MemN _ _ _ _ _ := ⟨rfl, hb4.1⟩
  have hi4 := hb4.2
  have hms4 : MemN _ _ _ _ _ := ⟨rfl, fs4.1⟩
  have his4 := fs4.2
  have hmt4 : MemN _ _ _ _ _ := ⟨rfl, ft4.1⟩
  have hit4 := ft4.2
  clear hb5 fs5 ft5 c105 c115 c125 i25 i35 i45 hm5 hi5 hms5 his5 hmt5 hit5
  have hb5 : Prof.At _ g5 0 k q := ⟨Mem.of_get at5, h1⟩
  obtain ⟨fs5, ft5, c105, c115, c125, i25, i35, i45⟩ := hb5.get
  have hm5 : MemN _ _ _ _ _ := ⟨rfl, hb5.1⟩
  have hi5 := hb5.2
  have hms5 : MemN _ _ _ _ _ := ⟨rfl, fs5.1⟩
  have his5 := fs5.2
  have hmt5 : MemN _ _ _ _ _ := ⟨rfl, ft5.1⟩
  have hit5 := ft5.2
  clear i33
  have i33 := v33.inn
  clear i35
  have i35 := v35.inn
  clear i38
  have i38 := v38.ints
  clear mm9003
  have mm9003 : MemN _ _ _ _ _ := ⟨rfl, Mem.of_get at9003⟩
  clear mm10003
  have mm10003 : MemN _ _ _ _ _ := ⟨rfl, Mem.of_get at10003⟩
  clear i64
  have i64 := v64.inn
  clear i69
  have i69 := v69.inn
  clear i104
  have i104 := v104.inn
  have i106 := v106.inn
  refine .call0 rfl rfl rfl rfl rfl @Try.call28 rfl (implCompositeClasses_c) ?_
  rintro _ H109 ⟨le109, a109, rfl, v109⟩
  have nx_H109 := le109.1
  replace hle := hle.trans le109
  replace at4 := le109.2 _ _ at4
  replace at5 := le109.2 _ _ at5
  replace at9003 := le109.2 _ _ at9003
  replace at10003 := le109.2 _ _ at10003
  replace lv_v33 := Keep.le lv_v33 le109
  replace v33 := bs_v33.keep lv_v33 (Nat.le_refl _)
  replace lv_v35 := Keep.le lv_v35 le109
  replace v35 := bs_v35.keep lv_v35 (Nat.le_refl _)
  replace lv_v38 := Keep.le lv_v38 le109
  replace v38 := bs_v38.keep lv_v38 (Nat.le_refl _)
  replace lv_v64 := Keep.le lv_v64 le109
  replace v64 := bs_v64.keep lv_v64 (Nat.le_refl _)
  replace lv_v69 := Keep.le lv_v69 le109
  replace v69 := bs_v69.keep lv_v69 (Nat.le_refl _)
  replace lv_hd93 := Keep.le lv_hd93 le109
  replace hd93 := bs_hd93.keep lv_hd93 (Nat.le_refl _)
  replace lv_wd93 := Keep.le lv_wd93 le109
  replace wd93 := bs_wd93.keep lv_wd93 (Nat.le_refl _)
  replace lv_v104 := Keep.le lv_v104 le109
  replace v104 := bs_v104.keep lv_v104 (Nat.le_refl _)
  replace lv_v106 := Keep.le lv_v106 le109
  replace v106 := bs_v106.keep lv_v106 (Nat.le_refl _)
  have bs_v109 := v109
  have lv_v109 : Keep H106.next H109 H109 := fun _ _ _ h => h
  replace h0 := base_h0.mono hle
  replace h1 := base_h1.mono hle
  clear hb4 fs4 ft4 c104 c114 c124 i24 i34 i44 hm4 hi4 hms4 his4 hmt4 hit4
  have hb4 : Prof.At _ g4 0 m p := ⟨Mem.of_get at4, h0⟩
  obtain ⟨fs4, ft4, c104, c114, c124, i24, i34, i44⟩ := hb4.get
  have hm4 : MemN _ _ _ _ _ := ⟨rfl, hb4.1⟩
  have hi4 := hb4.2
  have hms4 : MemN _ _ _ _ _ := ⟨rfl, fs4.1⟩
  have his4 := fs4.2
  have hmt4 : MemN _ _ _ _ _ := ⟨rfl, ft4.1⟩
  have hit4 := ft4.2
  clear hb5 fs5 ft5 c105 c115 c125 i25 i35 i45 hm5 hi5 hms5 his5 hmt5 hit5
  have hb5 : Prof.At _ g5 0 k q := ⟨Mem.of_get at5, h1⟩
  obtain ⟨fs5, ft5, c105, c115, c125, i25, i35, i45⟩ := hb5.get
  have hm5 : MemN _ _ _ _ _ := ⟨rfl, hb5.1⟩
  have hi5 := hb5.2
  have hms5 : MemN _ _ _ _ _ := ⟨rfl, fs5.1⟩
  have his5 := fs5.2
  have hmt5 : MemN _ _ _ _ _ := ⟨rfl, ft5.1⟩
  have hit5 := ft5.2
  clear i33
  have i33 := v33.inn
  clear i35
  have i35 := v35.inn
  clear i38
  have i38 := v38.ints
  clear mm9003
  have mm9003 : MemN _ _ _ _ _ := ⟨rfl, Mem.of_get at9003⟩
  clear mm10003
  have mm10003 : MemN _ _ _ _ _ := ⟨rfl, Mem.of_get at10003⟩
  clear i64
  have i64 := v64.inn
  clear i69
  have i69 := v69.inn
  clear i104
  have i104 := v104.inn
  clear i106
  have i106 := v106.inn
  have i109 := v109.ints
  refine .m rfl rfl rfl rfl (.refl _) (.move rfl) (.m rfl rfl rfl rfl (.refl _) (.extract rfl rfl) (.m rfl rfl rfl rfl (.refl _) (.extract rfl rfl) (.m rfl rfl rfl rfl (.refl _) (.assign rfl) ?_)))
  refine .m rfl rfl rfl rfl (.refl _) (.assign rfl) ?_
  refine .done ?_
  refine hK43 _ _ ?_
  refine .seq (fun K44 hK44 => ?_)
  refine .seq (fun K45 hK45 => ?_)
  refine .region (.m rfl rfl rfl (.move rfl) (.m rfl rfl rfl (.move rfl) ?_))
  refine .callQ rfl rfl rfl rfl @Try.call29 rfl (eqInt64S_c) ?_
  refine .m rfl rfl rfl (.not rfl) (.m rfl rfl rfl (.move rfl) ?_)
  refine .split (fun h116 => ?_) (fun h116 => ?_)
  ·
   try simp only [sps] at h116
   refine .sg rfl rfl rfl rfl rfl (.sg rfl rfl rfl rfl rfl (.sg rfl rfl rfl rfl rfl (.m rfl rfl rfl (.pickT rfl rfl) ?_)))
   refine .nil ?_
   refine hK45 _ _ ?_
   refine .condT rfl ?_
   refine .seq (fun K46 hK46 => ?_)
   refine .region (.m rfl rfl rfl (.assign rfl) (.nil ?_))
   refine hK46 _ _ ?_
   refine .ret ?_
   refine hret _ _ ?_
   refine ⟨_, rfl, ?_⟩
   first
   | exact rfl
   | exact absurd trivial (by assumption)
   | contradiction
   | (exfalso; omega)
  try simp only [sps] at h116
  refine .mg rfl rfl rfl rfl rfl (.move rfl) (.mg rfl rfl rfl rfl rfl (.move rfl) (.mg rfl rfl rfl rfl rfl (.cmp rfl rfl rfl) (.m rfl rfl rfl (.pickF rfl rfl) ?_)))
  refine .nil ?_
  refine hK45 _ _ ?_
  refine .cond rfl (fun h120 => ?_) (fun h120 => ?_)
  ·
   try simp only [sps] at h120
   refine .seq (fun K47 hK47 => ?_)
   refine .region (.m rfl rfl rfl (.assign rfl) (.nil ?_))
   refine hK47 _ _ ?_
   refine .ret ?_
   refine hret _ _ ?_
   refine ⟨_, rfl, ?_⟩
   first
   | exact rfl
   | exact absurd trivial (by assumption)
   | contradiction
   | (exfalso; omega)
  try simp only [sps] at h120
  refine .skip ?_
  refine hK44 _ _ ?_
  refine .seq (fun K48 hK48 => ?_)
  refine .region (.m rfl rfl rfl (.assign rfl) (.nil ?_))
  refine hK48 _ _ ?_
  refine .seq (fun K49 hK49 => ?_)
  refine .region (.m rfl rfl rfl (.move rfl) (.m rfl rfl rfl (.move rfl) ?_))
  refine .callQ rfl rfl rfl rfl @Try.call31 rfl (heldInt64S_c) ?_
  refine .m rfl rfl rfl (.assign rfl) (.nil ?_)
  refine hK49 _ _ ?_
  refine .seq (fun K50 hK50 => ?_)
  refine .seq (fun K51 hK51 => ?_)
  refine .region (.m rfl rfl rfl (.move rfl) (.m rfl rfl rfl (.cmp rfl rfl rfl) (.nil ?_)))
  refine hK51 _ _ ?_
  refine .cond rfl (fun h125 => ?_) (fun h125 => ?_)
  ·
   try simp only [sps] at h125
   refine .seq (fun K52 hK52 => ?_)
   refine .region (.m rfl rfl rfl (.assign rfl) (.nil ?_))
   refine hK52 _ _ ?_
   refine .ret ?_
   refine hret _ _ ?_
   refine ⟨_, rfl, ?_⟩
   first
   | exact rfl
   | exact absurd trivial (by assumption)
   | contradiction
   | (exfalso; omega)
  try simp only [sps] at h125
  refine .skip ?_
  refine hK50 _ _ ?_
  refine .seq (fun K53 hK53 => ?_)
  refine .seq (fun K54 hK54 => ?_)
  refine .region (.m rfl rfl rfl (.move rfl) (.m rfl rfl rfl (.move rfl) (.m rfl rfl rfl (.cmp rfl rfl rfl) ?_)))
  refine .nil ?_
  refine hK54 _ _ ?_
  refine .cond rfl (fun h128 => ?_) (fun h128 => ?_)
  ·
   try simp only [sps] at h128
   refine .seq (fun K55 hK55 => ?_)
   refine .region (.m rfl rfl rfl (.assign rfl) (.nil ?_))
   refine hK55 _ _ ?_
   refine .ret ?_
   refine hret _ _ ?_
   refine ⟨_, rfl, ?_⟩
   first
   | exact rfl
   | exact absurd trivial (by assumption)
   | contradiction
   | (exfalso; omega)
  try simp only [sps] at h128
  refine .skip ?_
  refine hK53 _ _ ?_
  refine .seq (fun K56 hK56 => ?_)
  refine .region (.m rfl rfl rfl (.assign rfl) (.nil ?_))
  refine hK56 _ _ ?_
  refine .ret ?_
  refine hret _ _ ?_
  refine ⟨_, rfl, ?_⟩
  first
  | exact rfl
  | exact absurd trivial (by assumption)
  | contradiction
  | (exfalso; omega)
end Go.Proofs.Ytgnfekfdmgnhcaa
/- The call of a law, whatever it takes: the arguments brought in one by one. No condition. -/
namespace Go.GL
open Go.RowKit Go.WideShapes Go.ChangeShapes Go.Deep

/-- An argument of type t may be brought in so that R holds of what stands for it. -/
structure Imp1 (P : Program) (t : TypeId) (R : GHeap → Value → Prop) : Prop where
  mono : ∀ {H H' : GHeap} {g : Value}, H.Le H' → R H g → R H' g
  imp : ∀ {T : Type} {enc : TypeId × Value → T} {B : Nat} {w0 : World} {ρ : Place} {H : GHeap} {w : World} {held : Bool} {base fuel : Nat} {v : Value} {x : DataW T × List MemPlace}, Sim P B w0 ρ H w → w.heap.size ≤ B →
    DataW.trod enc P w 0 (fun _ => true) held fuel t v.cells.toList = some x → Value.okWide P w .any base t v → ∃ ρ' H' g, Sim P B w0 ρ' H' w ∧ Ext ρ ρ' ∧ H.Le H' ∧ VRel ρ' g v ∧ R H' g

def structT (P : Program) (t : TypeId) : Bool := match P.underlying t with | some (.struct _) => true | _ => false
theorem imp1_struct {P : Program} {t : TypeId} {α β : Type} {cells : α → β → List Value} {I : GHeap → α → β → Prop} {W : α → Prop} (hm : ∀ {H H' : GHeap} {c : α} {p : β}, I H c p → H.Le H' → I H' c p)
    (hI : Imports P t (fun ρ H cs => ∃ (c : α) (p : β), LRel ρ (cells c p) cs ∧ I H c p ∧ W c)) (hst : structT P t = true) : Imp1 P t (fun H g => ∃ (c : α) (p : β), g = .agg (cells c p).toArray ∧ I H c p ∧ W c) where
  mono h := fun ⟨c, p, h1, h2, h3⟩ => ⟨c, p, h1, hm h2 h, h3⟩
  imp := by
    intro T enc B w0 ρ H w held base fuel v x hs hB h hv
    have hagg : ∃ cs, v = .agg cs := by
      unfold Value.okWide at hv
      unfold structT at hst
      split at hst
      · rename_i fs hu
        rw [hu] at hv
        obtain ⟨cs, h, _⟩ := hv
        exact ⟨cs, h⟩
      · cases hst
    obtain ⟨cs, rfl⟩ := hagg
    obtain ⟨ρ', H', h1, h2, h3, c, p, h4, h5, h6⟩ := hI hs hB h
    exact ⟨ρ', H', _, h1, h2, h3, by have := VRel.agg_of h4; simpa [Value.cells] using this, c, p, rfl, h5, h6⟩
theorem imp1_int {P : Program} {t : TypeId} (ht : i64T P t = true) : Imp1 P t (fun _ g => ∃ n, g = .int .i64 n ∧ I64 n) where
  mono _ := id
  imp := by
    intro T enc B w0 ρ H w held base fuel v x hs hB h hv
    obtain ⟨n, rfl⟩ := okWide_int (i64T_run ht) hv
    obtain ⟨ρ', H', h1, h2, h3, m, h4, h5⟩ := import_int ht hs hB h
    have : n = m := by simpa [Value.cells] using h4
    subst this
    exact ⟨ρ', H', _, h1, h2, h3, .int _ _, n, rfl, h5⟩
/-- Arguments of types ts may be brought in so that R holds of what stands for them. -/
structure ImpAll (P : Program) (ts : List TypeId) (R : GHeap → List Value → Prop) : Prop where
  imp : ∀ {T : Type} {enc : TypeId × Value → T} {B : Nat} {w0 : World} {ρ : Place} {H : GHeap} {w : World} {base : Nat} {vs : List Value} {ds : List (DataW T)} {ps : List MemPlace}, Sim P B w0 ρ H w → w.heap.size ≤ B →
    DataW.TrodAll enc P w 0 (fun _ => true) true ts vs ds ps → (∀ (j : Nat) t v, ts[j]? = some t → vs[j]? = some v → Value.okWide P w .any base t v) → ds.length = ts.length ∧ ∃ ρ' H' gs, Sim P B w0 ρ' H' w ∧ Ext ρ ρ' ∧ H.Le H' ∧ LRel ρ' gs vs ∧ R H' gs
theorem ImpAll.nil {P : Program} : ImpAll P [] (fun _ gs => gs = []) where
  imp := by
    intro T enc B w0 ρ H w base vs ds ps hs hB h hv
    obtain ⟨rfl, rfl, rfl⟩ := trodAll_nil h
    exact ⟨rfl, ρ, H, [], hs, .refl ρ, .refl H, .nil ρ, rfl⟩
theorem ImpAll.cons {P : Program} {t : TypeId} {ts : List TypeId} {R1 : GHeap → Value → Prop} {R : GHeap → List Value → Prop} (h1 : Imp1 P t R1) (h2 : ImpAll P ts R) : ImpAll P (t :: ts) (fun H gs => ∃ g r, gs = g :: r ∧ R1 H g ∧ R H r) where
  imp := by
    intro T enc B w0 ρ H w base vs ds ps hs hB h hv
    obtain ⟨v, vs, d, ds, p, q, rfl, rfl, rfl, ⟨fuel, k1⟩, k2⟩ := trodAll_cons h
    obtain ⟨ρ1, H1, g, s1, e1, l1, v1, r1⟩ := h1.imp hs hB k1 (hv 0 t v rfl rfl)
    obtain ⟨hl, ρ2, H2, gs, s2, e2, l2, v2, r2⟩ := h2.imp s1 hB k2 (fun j t v ht hj => hv (j + 1) t v (by simpa using ht) (by simpa using hj))
    exact ⟨by simp [hl], ρ2, H2, g :: gs, s2, e1.trans e2, l1.trans l2, .cons (v1.mono e2) v2, g, gs, rfl, h1.mono l2 r1, r2⟩

/-- The call of a law. -/
theorem law_calls {P : Program} {f : FuncId} {fn : Func} {ts : List TypeId} {tb : TypeId} {R : GHeap → List Value → Prop} (hI : ImpAll P ts R) (hp : fn.params = ts.toArray)
    (hc : ∀ H gs, R H gs → GCalls P f gs H fun v _ => v = .bool true)
    {T : Type} {enc : TypeId × Value → T} {W : World} {base : Nat} {args : Array Value} {s : ChangeSpec} {apart fresh handsOn again : Bool} {ds gs : List (DataW T)} {before : List MemPlace}
    (hval : ∀ (j : Nat) t v, fn.params[j]? = some t → args[j]? = some v → Value.okWide P W .any base t v)
    (hW : DataW.Whole enc P fn.params.toList s.vars apart W args.toList ds gs before)
    (hl : laidOutB P = true) (hr : readB P fn.params.toList = true) (hv : s.vars = []) (hrt : fn.resultTypes = #[tb]) (htb : P.underlying tb = some .bool)
    (hs : ∀ ds : List (DataW T), ds.length = ts.length → (s.fn T ds).results = [.lit (.bool true)] ∧ (s.fn T ds).args = ds ∧ (s.fn T ds).vars = []) :
    Calls P f args W fun e W' => ∃ v, e = .returned v ∧ s.post enc P fn apart fresh handsOn again W args v W' := by
  have hWW := hW
  obtain ⟨p, q, hA, _⟩ := hW
  rw [hp] at hA
  obtain ⟨hlen, ρ, H, gs', hs', _, _, hrel, hR⟩ := hI.imp (base := base) (Sim.start P W) (Nat.le_refl _) (by simpa using hA) (fun j t v ht hj => hval j t v (by rw [hp]; simpa using ht) (by simpa using hj))
  have := (hc H gs' hR) _ _ ρ args.toList W hs' hrel
  rw [Array.toArray_toList] at this
  refine this.mono fun e W' ⟨v, c, ρ', H', he, hv', _, hsim, hrv⟩ => ?_
  subst hv'
  cases hrv
  exact ⟨_, he, law_post hl hr hv hrt htb hWW (hs ds hlen).1 (hs ds hlen).2.1 (hs ds hlen).2.2 hsim.below⟩
end Go.GL
