/- Glued generators. No condition but those of each statement. -/
import Derived.Test.YtgnfekfdmgnhcaaZ9
namespace Go.Proofs.Ytgnfekfdmgnhcaa
open Go Go.GL Go.RowKit Go.Proofs
set_option maxHeartbeats 4000000 in
theorem elementPairs_c {g o : Nat} {f : SFun} {p : SFunP} {H : GHeap} (h : SFun.At H g o f p := by assumption) (hf : f.Is) :
    GCalls Try.prog 135 [.pointer (some ⟨g, o, none⟩)] H (NewIntssR H (elE f)) := by
  obtain ⟨l1, l2, l3, l4, l5⟩ := hf.nums
  refine GCalls.body (N := 31) (rs := [.tmp 2]) Try.func135 rfl rfl rfl rfl (fun Qx hret hend => ?_)
  refine .forget (fr' := [(0, some _)]) ⟨rfl, trivial⟩ ?_
  have hle := GHeap.Le.refl H
  have base_h := h
  obtain ⟨fshb, c5b, c6b, i1b, i2b⟩ := h.get
  have hmb : MemN _ _ _ _ _ := ⟨rfl, h.1⟩
  have hib := h.2
  have hmshb : MemN _ _ _ _ _ := ⟨rfl, fshb.1⟩
  have hishb := fshb.2
  refine .seq (fun K1 hK1 => ?_)
  refine .region (.m rfl rfl rfl (.assign rfl) (.nil ?_))
  refine hK1 _ _ ?_
  refine .seq (fun K2 hK2 => ?_)
  refine .region ?_
  refine .r rfl rfl rfl (.litR rfl sl_23_B ze_22_E rfl rfl (by omega) (by omega) rfl rfl) ?_
  rintro _ H7 ⟨g7, rfl, le7, ge7, at7⟩
  have nx_H7 := le7.1
  replace hle := hle.trans le7
  have lt_at7 := GHeap.lt_of_get at7
  replace h := base_h.mono hle
  clear fshb c5b c6b i1b i2b hmb hib hmshb hishb
  obtain ⟨fshb, c5b, c6b, i1b, i2b⟩ := h.get
  have hmb : MemN _ _ _ _ _ := ⟨rfl, h.1⟩
  have hib := h.2
  have hmshb : MemN _ _ _ _ _ := ⟨rfl, fshb.1⟩
  have hishb := fshb.2
  refine .m rfl rfl rfl (.assign rfl) (.nil ?_)
  refine hK2 _ _ ?_
  refine .seq (fun K3 hK3 => ?_)
  refine .seq (fun K4 hK4 => ?_)
  refine .region (.m rfl rfl rfl (.move rfl) (.m rfl rfl rfl (.nilCheck rfl) (.m rfl rfl rfl (.fieldAddr fo_65_1_P rfl) ?_)))
  refine .m rfl rfl rfl (.load on_22_B rfl (by assumption)) ?_
  refine .m rfl rfl rfl (.len sl_22_A rfl) (.m rfl rfl rfl (.move rfl) (.nil ?_))
  refine hK4 _ _ ?_
  refine .block ?_
  refine .loopR (σ := Nat × (Nat → Option Addr) × Nat × Nat) [(11, some _), (12, some _)] (fun (x, rr, gL3, nL3) => [(13, some (.int .i64 (x : Int))), (3, some (.slice (some ⟨gL3, 0, none⟩) nL3 nL3))]) (fun (x, rr, gL3, nL3) H' => St [g7] H7 H' ∧ H'.get gL3 = some (.row ((slsL rr (elP f x 0))) 22 true) ∧ (gL3 = g7 ∨ H7.next ≤ gL3) ∧ nL3 = (slsL rr (elP f x 0)).length ∧ x ≤ f.sz.length ∧ OwnL H.next H' 2 rr (elP f x 0)) (fun (x, rr, gL3, nL3) => f.sz.length - x) ((0, fun _ => none, _, _)) ⟨rfl, rfl, trivial⟩ ⟨rfl, rfl, trivial⟩ ?_ ?_
  ·
   refine ⟨.refl _ _, by first | assumption | exact at7 | simpa using at7, .inl rfl, by first | rfl | assumption | simp | omega, ?_⟩
   exact ⟨by omega, .nil _ _ _ _⟩
  rintro ⟨x, rr, gL3, nL3⟩ HL1 ⟨lst1, at_L3, pl_L3, ln_L3, hI⟩ KL1 hKL1
  refine .forget (fr' := [(13, some (.int .i64 (x : Int))), (3, some (.slice (some ⟨gL3, 0, none⟩) nL3 nL3)), (11, some _), (12, some _)]) ⟨rfl, rfl, rfl, rfl, trivial⟩ ?_
  have ge_L3 : H.next ≤ gL3 := by omega
  have nx_HL1 := lst1.nx
  replace hle := hle.st lst1 (fun k hk => ⟨by omega, trivial⟩)
  have lt_at_L3 := GHeap.lt_of_get at_L3
  replace h := base_h.mono hle
  clear fshb c5b c6b i1b i2b hmb hib hmshb hishb
  obtain ⟨fshb, c5b, c6b, i1b, i2b⟩ := h.get
  have hmb : MemN _ _ _ _ _ := ⟨rfl, h.1⟩
  have hib := h.2
  have hmshb : MemN _ _ _ _ _ := ⟨rfl, fshb.1⟩
  have hishb := fshb.2
  obtain ⟨hx, hR⟩ := hI
  refine .seq (fun K5 hK5 => ?_)
  refine .region (.m rfl rfl rfl (.cmp rfl rfl rfl) (.nil ?_))
  refine hK5 _ _ ?_
  refine .seq (fun K6 hK6 => ?_)
  refine .cond rfl (fun h14 => ?_) (fun h14 => ?_)
  ·
   simp only [sps] at h14
   have hz := hf.1.sz x (by omega)
   refine .skip ?_
   refine hK6 _ _ ?_
   refine .seq (fun K7 hK7 => ?_)
   refine .block ?_
   refine .seq (fun K8 hK8 => ?_)
   refine .region (.m rfl rfl rfl (.move rfl) ?_)
   refine .m rfl rfl rfl (.idxN sl_22_A (by assumption) rfl rfl (by omega)) ?_
   refine .m rfl rfl rfl (.loadI on_2_A (by assumption) rfl (by omega)) ?_
   refine .m rfl rfl rfl (.assign rfl) (.m rfl rfl rfl (.assign rfl) (.nil ?_))
   refine hK8 _ _ ?_
   refine .seq (fun K9 hK9 => ?_)
   refine .region (.m rfl rfl rfl (.assign rfl) (.nil ?_))
   refine hK9 _ _ ?_
   refine .block ?_
   refine .loopR (σ := Nat × (Nat → Option Addr) × Nat × Nat) [(4, some _), (5, some _), (11, some _), (12, some _), (13, some _)] (fun (e, r2, gL3v2, nL3v2) => [(6, some (.int .i64 (e : Int))), (3, some (.slice (some ⟨gL3v2, 0, none⟩) nL3v2 nL3v2))]) (fun (e, r2, gL3v2, nL3v2) H' => St [gL3] HL1 H' ∧ H'.get gL3v2 = some (.row ((slsL r2 (elP f x e))) 22 true) ∧ (gL3v2 = gL3 ∨ HL1.next ≤ gL3v2) ∧ nL3v2 = (slsL r2 (elP f x e)).length ∧ e ≤ (f.sz.getD x 0).toNat ∧ OwnL H.next H' 2 r2 (elP f x e)) (fun (e, r2, gL3v2, nL3v2) => (f.sz.getD x 0).toNat - e) ((0, rr, _, _)) ⟨rfl, rfl, rfl, rfl, rfl, trivial⟩ ⟨rfl, rfl, trivial⟩ ?_ ?_
   ·
    refine ⟨.refl _ _, by first | assumption | exact at_L3 | simpa using at_L3, .inl rfl, by first | rfl | assumption | simp | omega, ?_⟩
    exact ⟨by omega, hR⟩
   rintro ⟨e, r2, gL3v2, nL3v2⟩ HL2 ⟨lst2, at_L3v2, pl_L3v2, ln_L3v2, hI⟩ KL2 hKL2
   refine .forget (fr' := [(6, some (.int .i64 (e : Int))), (3, some (.slice (some ⟨gL3v2, 0, none⟩) nL3v2 nL3v2)), (4, some _), (5, some _), (11, some _), (12, some _), (13, some _)]) ⟨rfl, rfl, rfl, rfl, rfl, rfl, rfl, trivial⟩ ?_
   have ge_L3v2 : H.next ≤ gL3v2 := by omega
   have nx_HL2 := lst2.nx
   replace hle := hle.st lst2 (fun k hk => ⟨by omega, trivial⟩)
   replace lst1 := lst1.st lst2 (fun k hk ho => by simp only [out, and_true] at ho ⊢ <;> first | exact ho | exact ho.1 | exact ho.2 | exact ho.2.1 | exact ho.2.2 | exact ho.2.2.1 | exact ho.2.2.2 | omega)
   have lt_at_L3v2 := GHeap.lt_of_get at_L3v2
   replace h := base_h.mono hle
   clear fshb c5b c6b i1b i2b hmb hib hmshb hishb
   obtain ⟨fshb, c5b, c6b, i1b, i2b⟩ := h.get
   have hmb : MemN _ _ _ _ _ := ⟨rfl, h.1⟩
   have hib := h.2
   have hmshb : MemN _ _ _ _ _ := ⟨rfl, fshb.1⟩
   have hishb := fshb.2
   have rk := St.refl [gL3v2] HL2
   obtain ⟨he, hR⟩ := hI
   have hat3 := at_L3v2
   have hln := elP_le hf (x := x) (e := e) (by omega) he
   have hfl : (slsL r2 (elP f x e)).length = (elP f x e).length := length_slsL _ _
   have hsn : elP f x (e + 1) = elP f x e ++ [[(x : Int), (e : Int)]] := nestL_snoc
   refine .seq (fun K10 hK10 => ?_)
   refine .seq (fun K11 hK11 => ?_)
   refine .region (.m rfl rfl rfl (.move rfl) (.m rfl rfl rfl (.move rfl) (.m rfl rfl rfl (.cmp rfl rfl rfl) ?_)))
   refine .nil ?_
   refine hK11 _ _ ?_
   refine .cond rfl (fun h20 => ?_) (fun h20 => ?_)
   ·
    simp only [sps] at h20
    refine .skip ?_
    refine hK10 _ _ ?_
    refine .seq (fun K12 hK12 => ?_)
    refine .block ?_
    refine .region (.m rfl rfl rfl (.move rfl) (.m rfl rfl rfl (.move rfl) (.m rfl rfl rfl (.move rfl) ?_)))
    refine .r rfl rfl rfl (.litR rfl sl_22_A ze_2_E rfl rfl (by omega) (by omega) rfl rfl) ?_
    rintro _ H26 ⟨g26, rfl, le26, ge26, at26⟩
    have nx_H26 := le26.1
    replace hle := hle.trans le26
    replace lst1 := lst1.le le26
    replace lst2 := lst2.le le26
    replace rk := rk.le le26
    replace at_L3v2 := le26.2 _ _ at_L3v2
    have lt_at26 := GHeap.lt_of_get at26
    replace h := base_h.mono hle
    clear fshb c5b c6b i1b i2b hmb hib hmshb hishb
    obtain ⟨fshb, c5b, c6b, i1b, i2b⟩ := h.get
    have hmb : MemN _ _ _ _ _ := ⟨rfl, h.1⟩
    have hib := h.2
    have hmshb : MemN _ _ _ _ _ := ⟨rfl, fshb.1⟩
    have hishb := fshb.2
    refine .r rfl rfl rfl (.litR rfl sl_23_B ze_22_E rfl rfl (by omega) (by omega) rfl rfl) ?_
    rintro _ H27 ⟨g27, rfl, le27, ge27, at27⟩
    have nx_H27 := le27.1
    replace hle := hle.trans le27
    replace lst1 := lst1.le le27
    replace lst2 := lst2.le le27
    replace rk := rk.le le27
    replace at_L3v2 := le27.2 _ _ at_L3v2
    replace at26 := le27.2 _ _ at26
    have lt_at27 := GHeap.lt_of_get at27
    replace h := base_h.mono hle
    clear fshb c5b c6b i1b i2b hmb hib hmshb hishb
    obtain ⟨fshb, c5b, c6b, i1b, i2b⟩ := h.get
    have hmb : MemN _ _ _ _ _ := ⟨rfl, h.1⟩
    have hib := h.2
    have hmshb : MemN _ _ _ _ _ := ⟨rfl, fshb.1⟩
    have hishb := fshb.2
    refine .r rfl rfl rfl (.appendV rfl sl_23_B ze_22_E rfl by_22_E sl_23_B rfl rfl (by assumption) (by assumption) (by first | omega | (simp <;> omega)) rfl rfl (by omega) (by omega)) ?_
    rintro _ H28 ⟨g28, rfl, st28, ge28, at28⟩
    have nx_H28 := st28.nx
    replace hle := hle.st st28 (fun k hk => ⟨by omega, trivial⟩)
    replace lst1 := lst1.st st28 (fun k hk ho => by simp only [out, and_true] at ho ⊢ <;> first | exact ho | exact ho.1 | exact ho.2 | exact ho.2.1 | exact ho.2.2 | exact ho.2.2.1 | exact ho.2.2.2 | omega)
    replace lst2 := lst2.st st28 (fun k hk ho => by simp only [out, and_true] at ho ⊢ <;> first | exact ho | exact ho.1 | exact ho.2 | exact ho.2.1 | exact ho.2.2 | exact ho.2.2.1 | exact ho.2.2.2 | omega)
    replace rk := rk.st st28 (fun k hk ho => by simp only [out, and_true] at ho ⊢ <;> first | exact ho | exact ho.1 | exact ho.2 | exact ho.2.1 | exact ho.2.2 | exact ho.2.2.1 | exact ho.2.2.2 | omega)
    have ne_g26_gL3v2 : g26 ≠ gL3v2 := by omega
    replace at26 := st28.same _ _ ⟨ne_g26_gL3v2, trivial⟩ at26
    have ne_g27_gL3v2 : g27 ≠ gL3v2 := by omega
    replace at27 := st28.same _ _ ⟨ne_g27_gL3v2, trivial⟩ at27
    have lt_at28 := GHeap.lt_of_get at28
    replace h := base_h.mono hle
    clear fshb c5b c6b i1b i2b hmb hib hmshb hishb
    obtain ⟨fshb, c5b, c6b, i1b, i2b⟩ := h.get
    have hmb : MemN _ _ _ _ _ := ⟨rfl, h.1⟩
    have hib := h.2
    have hmshb : MemN _ _ _ _ _ := ⟨rfl, fshb.1⟩
    have hishb := fshb.2
    refine .m rfl rfl rfl (.assign rfl) (.nil ?_)
    refine hK12 _ _ ?_
    refine .region (.m rfl rfl rfl (.move rfl) ?_)
    refine .m rfl rfl rfl (.add rfl rfl rfl (by omega) (by omega)) ?_
    refine .m rfl rfl rfl (.assign rfl) (.nil ?_)
    refine hKL2 ((e + 1, upd r2 (elP f x e).length (some ⟨g26, 0, none⟩), _, _)) _ _ ?_ ?_ ⟨rfl, rfl, rfl, rfl, rfl, rfl, rfl, trivial⟩
    ·
     refine ⟨lst2, by first | assumption | (rw [hsn, slsL_snoc]; assumption), by omega, by first | omega | (simp only [List.length_append, List.length_cons, List.length_nil] <;> omega) | (rw [hsn, slsL_snoc] <;> (first | omega | (simp only [List.length_append, List.length_cons, List.length_nil] <;> omega))), ?_⟩
     exact ⟨by omega, by rw [hsn]; exact hR.snoc (x := [(x : Int), (e : Int)]) (rk.lasts1 hat3 rfl) (by assumption) (by omega) (by omega)⟩
    (dsimp only; omega)
   try simp only [sps] at h20
   refine .exit ?_
   refine hK7 _ _ ?_
   refine .region ?_
   refine .m rfl rfl rfl (.add rfl rfl rfl (by omega) (by omega)) ?_
   refine .m rfl rfl rfl (.move rfl) (.nil ?_)
   obtain rfl : e = (f.sz.getD x 0).toNat := by omega
   have hnx : elP f (x + 1) 0 = elP f x (f.sz.getD x 0).toNat := nestL_next
   refine hKL1 ((x + 1, r2, _, _)) _ _ ?_ ?_ ⟨rfl, rfl, rfl, rfl, trivial⟩
   ·
    refine ⟨lst1, by first | assumption | (rw [hnx]; assumption), by omega, by first | omega | (simp only [List.length_append, List.length_cons, List.length_nil] <;> omega) | (rw [hnx] <;> (first | omega | (simp only [List.length_append, List.length_cons, List.length_nil] <;> omega))), ?_⟩
    exact ⟨by omega, by rw [hnx]; exact hR⟩
   (dsimp only; omega)
  try simp only [sps] at h14
  refine .exit ?_
  refine hK3 _ _ ?_
  refine .seq (fun K13 hK13 => ?_)
  refine .region (.m rfl rfl rfl (.move rfl) (.m rfl rfl rfl (.assign rfl) (.nil ?_)))
  refine hK13 _ _ ?_
  refine .ret ?_
  refine hret _ _ ?_
  refine ⟨_, rfl, ?_⟩
  obtain rfl : x = f.sz.length := by omega
  exact ⟨hle, _, rr, by rw [ln_L3]; simp [elE], hR.done at_L3 (by omega)⟩
set_option maxHeartbeats 4000000 in
theorem generators_c {g o : Nat} {f : SFun} {p : SFunP} {y : Int} {H : GHeap} (h : SFun.At H g o f p := by assumption) (hf : f.Is) :
    GCalls Try.prog 91 [.pointer (some ⟨g, o, none⟩), .int .i64 y] H (NewIntssR H (glE f y)) := by
  obtain ⟨l1, l2, l3, l4, l5⟩ := hf.nums
  have hS := hf.1.c.1
  have hel := elE_le hf
  refine GCalls.body (N := 45) (rs := [.tmp 4]) Try.func91 rfl rfl rfl rfl (fun Qx hret hend => ?_)
  refine .forget (fr' := [(0, some _), (1, some _)]) ⟨rfl, rfl, trivial⟩ ?_
  have hle := GHeap.Le.refl H
  have base_h := h
  obtain ⟨fshb, c5b, c6b, i1b, i2b⟩ := h.get
  have hmb : MemN _ _ _ _ _ := ⟨rfl, h.1⟩
  have hib := h.2
  have hmshb : MemN _ _ _ _ _ := ⟨rfl, fshb.1⟩
  have hishb := fshb.2
  refine .seq (fun K1 hK1 => ?_)
  refine .region (.m rfl rfl rfl (.assign rfl) (.nil ?_))
  refine hK1 _ _ ?_
  refine .seq (fun K2 hK2 => ?_)
  refine .region ?_
  refine .r rfl rfl rfl (.litR rfl sl_23_B ze_22_E rfl rfl (by omega) (by omega) rfl rfl) ?_
  rintro _ H10 ⟨g10, rfl, le10, ge10, at10⟩
  have nx_H10 := le10.1
  replace hle := hle.trans le10
  have lt_at10 := GHeap.lt_of_get at10
  replace h := base_h.mono hle
  clear fshb c5b c6b i1b i2b hmb hib hmshb hishb
  obtain ⟨fshb, c5b, c6b, i1b, i2b⟩ := h.get
  have hmb : MemN _ _ _ _ _ := ⟨rfl, h.1⟩
  have hib := h.2
  have hmshb : MemN _ _ _ _ _ := ⟨rfl, fshb.1⟩
  have hishb := fshb.2
  refine .m rfl rfl rfl (.assign rfl) (.nil ?_)
  refine hK2 _ _ ?_
  refine .seq (fun K3 hK3 => ?_)
  refine .seq (fun K4 hK4 => ?_)
  refine .region (.m rfl rfl rfl (.move rfl) ?_)
  refine .call rfl rfl rfl rfl @Try.call135 rfl (elementPairs_c (hf := hf)) ?_
  rintro _ H12 ⟨le12, a12, r12, rfl, v12⟩
  have nx_H12 := le12.1
  replace hle := hle.trans le12
  replace at10 := le12.2 _ _ at10
  have bs_v12 := v12
  have lv_v12 : Keep H10.next H12 H12 := fun _ _ _ h => h
  replace h := base_h.mono hle
  clear fshb c5b c6b i1b i2b hmb hib hmshb hishb
  obtain ⟨fshb, c5b, c6b, i1b, i2b⟩ := h.get
  have hmb : MemN _ _ _ _ _ := ⟨rfl, h.1⟩
  have hib := h.2
  have hmshb : MemN _ _ _ _ _ := ⟨rfl, fshb.1⟩
  have hishb := fshb.2
  have i12 := v12.intss
  refine .m rfl rfl rfl (.len sl_23_B rfl) (.m rfl rfl rfl (.move rfl) (.nil ?_))
  refine hK4 _ _ ?_
  refine .block ?_
  have hz0 : (slsL (fun _ => none) (gnL f y 0 0)).length = 0 := by rw [gnL_zero]; rfl
  refine .loopR (σ := Nat × (Nat → Option Addr) × Nat × Nat) [(0, some _), (1, some _), (12, some _), (13, some _)] (fun (q, rr, gL5, nL5) => [(14, some (.int .i64 (q : Int))), (5, some (.slice (some ⟨gL5, 0, none⟩) nL5 nL5))]) (fun (q, rr, gL5, nL5) H' => St [g10] H12 H' ∧ H'.get gL5 = some (.row ((slsL rr (gnL f y q 0))) 22 true) ∧ (gL5 = g10 ∨ H12.next ≤ gL5) ∧ nL5 = (slsL rr (gnL f y q 0)).length ∧ q ≤ (elE f).length ∧ OwnL H.next H' 2 rr (gnL f y q 0)) (fun (q, rr, gL5, nL5) => (elE f).length - q) ((0, fun _ => none, _, _)) ⟨rfl, rfl, rfl, rfl, trivial⟩ ⟨rfl, rfl, trivial⟩ ?_ ?_
  ·
   refine ⟨.refl _ _, by (rw [gnL_zero]; first | exact at10 | simpa [slsL] using at10), .inl rfl, by first | rfl | assumption | simp | omega, ?_⟩
   rw [gnL_zero]
   exact ⟨by omega, .nil _ _ _ _⟩
  rintro ⟨q, rr, gL5, nL5⟩ HL1 ⟨lst1, at_L5, pl_L5, ln_L5, hI⟩ KL1 hKL1
  refine .forget (fr' := [(14, some (.int .i64 (q : Int))), (5, some (.slice (some ⟨gL5, 0, none⟩) nL5 nL5)), (0, some _), (1, some _), (12, some _), (13, some _)]) ⟨rfl, rfl, rfl, rfl, rfl, rfl, trivial⟩ ?_
  have ge_L5 : H.next ≤ gL5 := by omega
  have nx_HL1 := lst1.nx
  replace hle := hle.st lst1 (fun k hk => ⟨by omega, trivial⟩)
  replace lv_v12 := Keep.st lv_v12 lst1 (fun k hb hk => ⟨by omega, trivial⟩)
  replace v12 := bs_v12.keep lv_v12 (Nat.le_refl _)
  have lt_at_L5 := GHeap.lt_of_get at_L5
  replace h := base_h.mono hle
  clear fshb c5b c6b i1b i2b hmb hib hmshb hishb
  obtain ⟨fshb, c5b, c6b, i1b, i2b⟩ := h.get
  have hmb : MemN _ _ _ _ _ := ⟨rfl, h.1⟩
  have hib := h.2
  have hmshb : MemN _ _ _ _ _ := ⟨rfl, fshb.1⟩
  have hishb := fshb.2
  clear i12
  have i12 := v12.intss
  obtain ⟨hq, hR⟩ := hI
  refine .seq (fun K5 hK5 => ?_)
  refine .region (.m rfl rfl rfl (.cmp rfl rfl rfl) (.nil ?_))
  refine hK5 _ _ ?_
  refine .seq (fun K6 hK6 => ?_)
  refine .cond rfl (fun h15 => ?_) (fun h15 => ?_)
  ·
   simp only [sps] at h15
   obtain ⟨xx, ee, x1, x2, x3⟩ := elE_get (f := f) (p := q) (by omega)
   have hx2 : ((elE f).getD q []).length = 2 := by rw [x3]; rfl
   have hlh := f.sh.hom_le (((elE f).getD q []).getD 0 0) y
   have u1 := i12.2 q (by omega)
   refine .skip ?_
   refine hK6 _ _ ?_
   refine .seq (fun K7 hK7 => ?_)
   refine .block ?_
   refine .seq (fun K8 hK8 => ?_)
   refine .region ?_
   refine .m rfl rfl rfl (.idxN sl_23_B (Intss.sl (by assumption)) rfl rfl (by omega)) ?_
   refine .m rfl rfl rfl (.loadR on_22_B (by assumption) rfl (by omega)) ?_
   refine .m rfl rfl rfl (.assign rfl) (.nil ?_)
   refine hK8 _ _ ?_
   refine .seq (fun K9 hK9 => ?_)
   refine .regionD mixed_orders_B (.q 0 (.q 1 (.q 2 (.q 3 (.q 4 (.q 5 (.q 6 (.q 9 (.c 7 1 (.q 8 (.done))))))))))) (by kernel_rfl) ?_
   refine .m rfl rfl rfl rfl (.refl _) (.move rfl) (.m rfl rfl rfl rfl (.refl _) (.nilCheck rfl) (.m rfl rfl rfl rfl (.refl _) (.fieldAddr fo_65_0_P rfl) (.m rfl rfl rfl rfl (.refl _) (.move rfl) ?_)))
   refine .m rfl rfl rfl rfl (.refl _) (.idxN (j := 0) sl_22_A (by assumption) rfl rfl (by omega)) ?_
   refine .m rfl rfl rfl rfl (.refl _) (.loadI on_2_A (by assumption) rfl (by omega)) ?_
   refine .m rfl rfl rfl rfl (.refl _) (.move rfl) (.m rfl rfl rfl rfl (.refl _) (.move rfl) ?_)
   refine .call1 rfl rfl rfl rfl rfl @Try.call94 rfl (hom_c) ?_
   rintro _ H25 ⟨le25, g25, rfl, at25, ge25⟩
   have hbl := le25
   refine ⟨hbl, ?_⟩
   have nx_H25 := le25.1
   replace hle := hle.trans le25
   replace lst1 := lst1.le le25
   replace at_L5 := le25.2 _ _ at_L5
   replace lv_v12 := Keep.le lv_v12 le25
   replace v12 := bs_v12.keep lv_v12 (Nat.le_refl _)
   have lt_at25 := GHeap.lt_of_get at25
   replace h := base_h.mono hle
   clear fshb c5b c6b i1b i2b hmb hib hmshb hishb
   obtain ⟨fshb, c5b, c6b, i1b, i2b⟩ := h.get
   have hmb : MemN _ _ _ _ _ := ⟨rfl, h.1⟩
   have hib := h.2
   have hmshb : MemN _ _ _ _ _ := ⟨rfl, fshb.1⟩
   have hishb := fshb.2
   clear i12
   have i12 := v12.intss
   clear u1
   have u1 := i12.2 q (by omega)
   have i25 := Ints.of_get at25
   refine .m rfl rfl rfl rfl hbl (.len sl_22_A rfl) ?_
   refine .done ?_
   refine hK9 _ _ ?_
   refine .block ?_
   refine .loopR (σ := Nat × (Nat → Option Addr) × Nat × Nat) [(0, some _), (1, some _), (7, some _), (12, some _), (13, some _), (14, some _), (25, some _), (26, some _)] (fun (i, r2, gL5v2, nL5v2) => [(27, some (.int .i64 (i : Int))), (5, some (.slice (some ⟨gL5v2, 0, none⟩) nL5v2 nL5v2))]) (fun (i, r2, gL5v2, nL5v2) H' => St [gL5] H25 H' ∧ H'.get gL5v2 = some (.row ((slsL r2 (gnL f y q i))) 22 true) ∧ (gL5v2 = gL5 ∨ H25.next ≤ gL5v2) ∧ nL5v2 = (slsL r2 (gnL f y q i)).length ∧ i ≤ (f.sh.hom (((elE f).getD q []).getD 0 0) y).length ∧ OwnL H.next H' 2 r2 (gnL f y q i)) (fun (i, r2, gL5v2, nL5v2) => (f.sh.hom (((elE f).getD q []).getD 0 0) y).length - i) ((0, rr, _, _)) ⟨rfl, rfl, rfl, rfl, rfl, rfl, rfl, rfl, trivial⟩ ⟨rfl, rfl, trivial⟩ ?_ ?_
   ·
    refine ⟨.refl _ _, by first | assumption | exact at_L5 | simpa using at_L5, .inl rfl, by first | rfl | assumption | simp | omega, ?_⟩
    exact ⟨by omega, hR.keep (.of_le le25)⟩
   rintro ⟨i, r2, gL5v2, nL5v2⟩ HL2 ⟨lst2, at_L5v2, pl_L5v2, ln_L5v2, hI⟩ KL2 hKL2
   refine .forget (fr' := [(27, some (.int .i64 (i : Int))), (5, some (.slice (some ⟨gL5v2, 0, none⟩) nL5v2 nL5v2)), (0, some _), (1, some _), (7, some _), (12, some _), (13, some _), (14, some _), (25, some _), (26, some _)]) ⟨rfl, rfl, rfl, rfl, rfl, rfl, rfl, rfl, rfl, rfl, trivial⟩ ?_
   have ge_L5v2 : H.next ≤ gL5v2 := by omega
   have nx_HL2 := lst2.nx
   replace hle := hle.st lst2 (fun k hk => ⟨by omega, trivial⟩)
   replace lst1 := lst1.st lst2 (fun k hk ho => by simp only [out, and_true] at ho ⊢ <;> first | exact ho | exact ho.1 | exact ho.2 | exact ho.2.1 | exact ho.2.2 | exact ho.2.2.1 | exact ho.2.2.2 | omega)
   have ne_g25_gL5 : g25 ≠ gL5 := by omega
   replace at25 := lst2.same _ _ ⟨ne_g25_gL5, trivial⟩ at25
   replace lv_v12 := Keep.st lv_v12 lst2 (fun k hb hk => ⟨by omega, trivial⟩)
   replace v12 := bs_v12.keep lv_v12 (Nat.le_refl _)
   have lt_at_L5v2 := GHeap.lt_of_get at_L5v2
   replace h := base_h.mono hle
   clear fshb c5b c6b i1b i2b hmb hib hmshb hishb
   obtain ⟨fshb, c5b, c6b, i1b, i2b⟩ := h.get
   have hmb : MemN _ _ _ _ _ := ⟨rfl, h.1⟩
   have hib := h.2
   have hmshb : MemN _ _ _ _ _ := ⟨rfl, fshb.1⟩
   have hishb := fshb.2
   clear i12
   have i12 := v12.intss
   clear u1
   have u1 := i12.2 q (by omega)
   clear i25
   have i25 := Ints.of_get at25
   have rk := St.refl [gL5v2] HL2
   obtain ⟨hi2, hR⟩ := hI
   have hat5 := at_L5v2
   have hln := gnL_le (y := y) hf (p := q) (i := i) hi2
   have hfl : (slsL r2 (gnL f y q i)).length = (gnL f y q i).length := length_slsL _ _
   refine .seq (fun K10 hK10 => ?_)
   refine .region (.m rfl rfl rfl (.cmp rfl rfl rfl) (.nil ?_))
   refine hK10 _ _ ?_
   refine .seq (fun K11 hK11 => ?_)
   refine .cond rfl (fun h28 => ?_) (fun h28 => ?_)
   ·
    simp only [sps] at h28
    refine .skip ?_
    refine hK11 _ _ ?_
    refine .seq (fun K12 hK12 => ?_)
    refine .block ?_
    refine .seq (fun K13 hK13 => ?_)
    refine .region ?_
    refine .m rfl rfl rfl (.idxN sl_22_A (by first | assumption | exact SlA.of_row at25 (by first | rfl | (simp; done) | (simp <;> omega))) rfl rfl (by omega)) ?_
    refine .m rfl rfl rfl (.loadI on_2_A (by first | assumption | exact Ints.of_get at25) rfl (by omega)) ?_
    refine .m rfl rfl rfl (.assign rfl) (.nil ?_)
    refine hK13 _ _ ?_
    refine .regionD mixed_orders_B (.q 0 (.q 1 (.q 2 (.q 3 (.q 4 (.q 5 (.q 6 (.q 7 (.c 8 1 (.c 9 1 (.c 10 0 (.c 11 0 (.done))))))))))))) (by kernel_rfl) ?_
    refine .m rfl rfl rfl rfl (.refl _) (.move rfl) (.m rfl rfl rfl rfl (.refl _) (.move rfl) ?_)
    refine .m rfl rfl rfl rfl (.refl _) (.idxN (j := 0) sl_22_A (by assumption) rfl rfl (by omega)) ?_
    refine .m rfl rfl rfl rfl (.refl _) (.loadI on_2_A (by assumption) rfl (by omega)) ?_
    refine .m rfl rfl rfl rfl (.refl _) (.move rfl) ?_
    refine .m rfl rfl rfl rfl (.refl _) (.idxN (j := 1) sl_22_A (by assumption) rfl rfl (by omega)) ?_
    refine .m rfl rfl rfl rfl (.refl _) (.loadI on_2_A (by assumption) rfl (by omega)) ?_
    refine .m rfl rfl rfl rfl (.refl _) (.move rfl) ?_
    refine .c1 rfl rfl rfl rfl (.litR rfl sl_22_A ze_2_E rfl rfl (by omega) (by omega) rfl rfl) ?_
    rintro _ H39 ⟨g39, rfl, le39, ge39, at39⟩
    have hbl := le39
    refine ⟨hbl, ?_⟩
    have nx_H39 := le39.1
    replace hle := hle.trans le39
    replace lst1 := lst1.le le39
    replace lst2 := lst2.le le39
    replace rk := rk.le le39
    replace at25 := le39.2 _ _ at25
    replace at_L5v2 := le39.2 _ _ at_L5v2
    replace lv_v12 := Keep.le lv_v12 le39
    replace v12 := bs_v12.keep lv_v12 (Nat.le_refl _)
    have lt_at39 := GHeap.lt_of_get at39
    replace h := base_h.mono hle
    clear fshb c5b c6b i1b i2b hmb hib hmshb hishb
    obtain ⟨fshb, c5b, c6b, i1b, i2b⟩ := h.get
    have hmb : MemN _ _ _ _ _ := ⟨rfl, h.1⟩
    have hib := h.2
    have hmshb : MemN _ _ _ _ _ := ⟨rfl, fshb.1⟩
    have hishb := fshb.2
    clear i12
    have i12 := v12.intss
    clear u1
    have u1 := i12.2 q (by omega)
    clear i25
    have i25 := Ints.of_get at25
    refine .c1 rfl rfl rfl rfl (.litR rfl sl_23_B ze_22_E rfl rfl (by omega) (by omega) rfl rfl) ?_
    rintro _ H40 ⟨g40, rfl, le40, ge40, at40⟩
    replace hbl := hbl.trans le40
    refine ⟨hbl, ?_⟩
    have nx_H40 := le40.1
    replace hle := hle.trans le40
    replace lst1 := lst1.le le40
    replace lst2 := lst2.le le40
    replace rk := rk.le le40
    replace at25 := le40.2 _ _ at25
    replace at_L5v2 := le40.2 _ _ at_L5v2
    replace at39 := le40.2 _ _ at39
    replace lv_v12 := Keep.le lv_v12 le40
    replace v12 := bs_v12.keep lv_v12 (Nat.le_refl _)
    have lt_at40 := GHeap.lt_of_get at40
    replace h := base_h.mono hle
    clear fshb c5b c6b i1b i2b hmb hib hmshb hishb
    obtain ⟨fshb, c5b, c6b, i1b, i2b⟩ := h.get
    have hmb : MemN _ _ _ _ _ := ⟨rfl, h.1⟩
    have hib := h.2
    have hmshb : MemN _ _ _ _ _ := ⟨rfl, fshb.1⟩
    have hishb := fshb.2
    clear i12
    have i12 := v12.intss
    clear u1
    have u1 := i12.2 q (by omega)
    clear i25
    have i25 := Ints.of_get at25
    refine .c0 rfl rfl rfl rfl (.appendV rfl sl_23_B ze_22_E rfl by_22_E sl_23_B rfl rfl (by assumption) (by assumption) (by first | omega | (simp <;> omega)) rfl rfl (by omega) (by omega)) ?_
    rintro _ H41 ⟨g41, rfl, st41, ge41, at41⟩
    have nx_H41 := st41.nx
    replace hle := hle.st st41 (fun k hk => ⟨by omega, trivial⟩)
    replace lst1 := lst1.st st41 (fun k hk ho => by simp only [out, and_true] at ho ⊢ <;> first | exact ho | exact ho.1 | exact ho.2 | exact ho.2.1 | exact ho.2.2 | exact ho.2.2.1 | exact ho.2.2.2 | omega)
    replace lst2 := lst2.st st41 (fun k hk ho => by simp only [out, and_true] at ho ⊢ <;> first | exact ho | exact ho.1 | exact ho.2 | exact ho.2.1 | exact ho.2.2 | exact ho.2.2.1 | exact ho.2.2.2 | omega)
    replace rk := rk.st st41 (fun k hk ho => by simp only [out, and_true] at ho ⊢ <;> first | exact ho | exact ho.1 | exact ho.2 | exact ho.2.1 | exact ho.2.2 | exact ho.2.2.1 | exact ho.2.2.2 | omega)
    have ne_g25_gL5v2 : g25 ≠ gL5v2 := by omega
    replace at25 := st41.same _ _ ⟨ne_g25_gL5v2, trivial⟩ at25
    have ne_g39_gL5v2 : g39 ≠ gL5v2 := by omega
    replace at39 := st41.same _ _ ⟨ne_g39_gL5v2, trivial⟩ at39
    have ne_g40_gL5v2 : g40 ≠ gL5v2 := by omega
    replace at40 := st41.same _ _ ⟨ne_g40_gL5v2, trivial⟩ at40
    replace lv_v12 := Keep.st lv_v12 st41 (fun k hb hk => ⟨by omega, trivial⟩)
    replace v12 := bs_v12.keep lv_v12 (Nat.le_refl _)
    have lt_at41 := GHeap.lt_of_get at41
    replace h := base_h.mono hle
    clear fshb c5b c6b i1b i2b hmb hib hmshb hishb
    obtain ⟨fshb, c5b, c6b, i1b, i2b⟩ := h.get
    have hmb : MemN _ _ _ _ _ := ⟨rfl, h.1⟩
    have hib := h.2
    have hmshb : MemN _ _ _ _ _ := ⟨rfl, fshb.1⟩
    have hishb := fshb.2
    clear i12
    have i12 := v12.intss
    clear u1
    have u1 := i12.2 q (by omega)
    clear i25
    have i25 := Ints.of_get at25
    refine .d0 rfl rfl rfl rfl (.quiet (.assign rfl) CIs.mk) ?_
    refine .done ?_
    refine hK12 _ _ ?_
    refine .region ?_
    refine .m rfl rfl rfl (.add rfl rfl rfl (by omega) (by omega)) ?_
    refine .m rfl rfl rfl (.move rfl) (.nil ?_)
    refine hKL2 ((i + 1, upd r2 (gnL f y q i).length (some ⟨g39, 0, none⟩), _, _)) _ _ ?_ ?_ ⟨rfl, rfl, rfl, rfl, rfl, rfl, rfl, rfl, rfl, rfl, trivial⟩
    ·
     refine ⟨lst2, by first | assumption | (rw [gnL_snoc, slsL_snoc]; assumption), by omega, by first | omega | (simp only [List.length_append, List.length_cons, List.length_nil] <;> omega) | (rw [gnL_snoc, slsL_snoc] <;> (first | omega | (simp only [List.length_append, List.length_cons, List.length_nil] <;> omega))), ?_⟩
     exact ⟨by omega, by rw [gnL_snoc]; exact hR.snoc (rk.lasts1 hat5 rfl) (by assumption) (by omega) (by omega)⟩
    (dsimp only; omega)
   try simp only [sps] at h28
   refine .exit ?_
   refine hK7 _ _ ?_
   refine .region ?_
   refine .m rfl rfl rfl (.add rfl rfl rfl (by omega) (by omega)) ?_
   refine .m rfl rfl rfl (.move rfl) (.nil ?_)
   obtain rfl : i = (f.sh.hom (((elE f).getD q []).getD 0 0) y).length := by omega
   refine hKL1 ((q + 1, r2, _, _)) _ _ ?_ ?_ ⟨rfl, rfl, rfl, rfl, rfl, rfl, trivial⟩
   ·
    refine ⟨lst1, by first | assumption | (rw [gnL_next (by omega)]; assumption), by omega, by first | omega | (simp only [List.length_append, List.length_cons, List.length_nil] <;> omega) | (rw [gnL_next (by omega)] <;> (first | omega | (simp only [List.length_append, List.length_cons, List.length_nil] <;> omega))), ?_⟩
    exact ⟨by omega, by rw [gnL_next (by omega)]; exact hR⟩
   (dsimp only; omega)
  try simp only [sps] at h15
  refine .exit ?_
  refine hK3 _ _ ?_
  refine .seq (fun K14 hK14 => ?_)
  refine .region (.m rfl rfl rfl (.move rfl) (.m rfl rfl rfl (.assign rfl) (.nil ?_)))
  refine hK14 _ _ ?_
  refine .ret ?_
  refine hret _ _ ?_
  refine ⟨_, rfl, ?_⟩
  obtain rfl : q = (elE f).length := by omega
  rw [gnL_all] at at_L5 ln_L5 hR
  exact ⟨hle, _, rr, by rw [ln_L5]; simp, hR.done at_L5 (by omega)⟩
theorem l05Place_c {a b : Option Addr} {xss : List (List Int)} {r : Nat → Option Addr} {t : List Int} {H : GHeap} (h : Intss H a xss r := by assumption) (ht : Ints H b t := by assumption) (hl : xss.length ≤ 1048576 := by omega) (hl2 : ∀ i, (xss.getD i []).length ≤ 1048576) (htl : t.length ≤ 1048576 := by omega) :
    GCalls Try.prog 87 [.slice a xss.length xss.length, .slice b t.length t.length] H (Ret (.int .i64 (idxLL xss t)) H) := by
  refine GCalls.ret rfl ?_
  refine GCalls.body (N := 19) (rs := [.tmp 4]) Try.func87 rfl rfl rfl rfl (fun Qx hret hend => ?_)
  refine .forget (fr' := [(0, some _), (1, some _)]) ⟨rfl, rfl, trivial⟩ ?_
  have hle := GHeap.Le.refl H
  have base_h := h
  have base_ht := ht
  refine .seq (fun K1 hK1 => ?_)
  refine .region (.m rfl rfl rfl (.assign rfl) (.nil ?_))
  refine hK1 _ _ ?_
  refine .seq (fun K2 hK2 => ?_)
  refine .seq (fun K3 hK3 => ?_)
  refine .region (.m rfl rfl rfl (.assign rfl) (.nil ?_))
  refine hK3 _ _ ?_
  refine .block ?_
  refine .loopR (σ := Nat) [(0, some _), (1, some _)] (fun k => [(5, some (.int .i64 (k : Int)))]) (fun k H' => St [] H H' ∧ k ≤ xss.length ∧ ∀ j, j < k → ¬ xss.getD j [] = t) (fun k => xss.length - k) (0) ⟨rfl, rfl, trivial⟩ ⟨rfl, trivial⟩ ?_ ?_
  ·
   refine ⟨.refl _ _, ?_⟩
   exact ⟨by omega, fun _ _ => by omega⟩
  rintro k HL1 ⟨lst1, hI⟩ KL1 hKL1
  refine .forget (fr' := [(5, some (.int .i64 (k : Int))), (0, some _), (1, some _)]) ⟨rfl, rfl, rfl, trivial⟩ ?_
  have nx_HL1 := lst1.nx
  replace hle := hle.st lst1 (fun k hk => trivial)
  replace h := base_h.mono hle
  replace ht := base_ht.mono hle
  obtain ⟨hi, ha⟩ := hI
  refine .seq (fun K4 hK4 => ?_)
  refine .seq (fun K5 hK5 => ?_)
  refine .region (.m rfl rfl rfl (.move rfl) (.m rfl rfl rfl (.move rfl) (.m rfl rfl rfl (.len sl_23_B rfl) ?_)))
  refine .m rfl rfl rfl (.cmp rfl rfl rfl) (.nil ?_)
  refine hK5 _ _ ?_
  refine .cond rfl (fun h9 => ?_) (fun h9 => ?_)
  ·
   simp only [sps] at h9
   have q1 := hl2 k
   have u1 := h.2 k (by omega)
   refine .skip ?_
   refine hK4 _ _ ?_
   refine .seq (fun K6 hK6 => ?_)
   refine .block ?_
   refine .seq (fun K7 hK7 => ?_)
   refine .region (.m rfl rfl rfl (.move rfl) (.m rfl rfl rfl (.move rfl) ?_))
   refine .m rfl rfl rfl (.idxN sl_23_B (Intss.sl (by assumption)) rfl rfl (by omega)) ?_
   refine .m rfl rfl rfl (.loadR on_22_B (by assumption) rfl (by omega)) ?_
   refine .m rfl rfl rfl (.move rfl) ?_
   refine .callQ rfl rfl rfl rfl @Try.call131 rfl (l01Same_c) ?_
   refine .nil ?_
   refine hK7 _ _ ?_
   refine .cond rfl (fun h17 => ?_) (fun h17 => ?_)
   ·
    simp only [sps] at h17
    refine .seq (fun K8 hK8 => ?_)
    refine .region (.m rfl rfl rfl (.move rfl) (.m rfl rfl rfl (.assign rfl) (.nil ?_)))
    refine hK8 _ _ ?_
    refine .ret ?_
    refine hret _ _ ?_
    refine ⟨_, rfl, ?_⟩
    exact ⟨by rw [idxLL_some (by omega) h17 ha], hle⟩
   simp only [sps] at h17
   refine .skip ?_
   refine hK6 _ _ ?_
   refine .region (.m rfl rfl rfl (.move rfl) ?_)
   refine .m rfl rfl rfl (.add rfl rfl rfl (by omega) (by omega)) ?_
   refine .m rfl rfl rfl (.assign rfl) (.nil ?_)
   refine hKL1 (k + 1) _ _ ?_ ?_ ⟨rfl, rfl, rfl, trivial⟩
   ·
    refine ⟨lst1, ?_⟩
    refine ⟨by omega, fun j hj => ?_⟩
    by_cases e : j < k
    · exact ha j e
    · obtain rfl : j = k := by omega
      exact h17
   omega
  try simp only [sps] at h9
  refine .exit ?_
  refine hK2 _ _ ?_
  refine .seq (fun K9 hK9 => ?_)
  refine .region (.m rfl rfl rfl (.assign rfl) (.nil ?_))
  refine hK9 _ _ ?_
  refine .ret ?_
  refine hret _ _ ?_
  refine ⟨_, rfl, ?_⟩
  obtain rfl : k = xss.length := by omega
  exact ⟨by rw [idxLL_none ha], hle⟩
set_option maxHeartbeats 4000000 in
theorem specGluedGenerators_c {f : SFun} {p : SFunP} {y : Int} {H : GHeap} (hin : f.In H p := by assumption) (hs : f.Small := by assumption) :
    GCalls Try.prog 42 [.agg (f.cells p).toArray, .int .i64 y] H (fun v H' => H.Le H' ∧ ∃ a r b, v = .tuple #[.slice a (glR f y).length (glR f y).length, .slice b (glQ f y).length (glQ f y).length, .int .i64 (glC f y)] ∧ IntssR H.next H' a (glR f y) r ∧ IntsR H.next H' b (glQ f y)) := by
  have hc := hin.1
  refine GCalls.body (N := 155) (rs := [.tmp 4, .tmp 5, .tmp 6]) Try.func42 rfl rfl rfl rfl (fun Qx hret hend => ?_)
  refine .forget (fr' := [(0, some _), (1, some _)]) ⟨rfl, rfl, trivial⟩ ?_
  have hle := GHeap.Le.refl H
  have base_hin := hin
  have base_hc := hc
  refine .seq (fun K1 hK1 => ?_)
  refine .region ?_
  refine .r rfl rfl rfl (.boxR rfl sz_65_VSFun rfl) ?_
  rintro _ H2 ⟨g2, rfl, le2, ge2, at2⟩
  have nx_H2 := le2.1
  replace hle := hle.trans le2
  have lt_at2 := GHeap.lt_of_get at2
  replace hin := base_hin.mono hle
  replace hc := base_hc.mono hle
  have hb2 : SFun.At _ g2 0 f p := ⟨Mem.of_get at2, hin⟩
  obtain ⟨fsh2, c52, c62, i12, i22⟩ := hb2.get
  have hm2 : MemN _ _ _ _ _ := ⟨rfl, hb2.1⟩
  have hi2 := hb2.2
  have hmsh2 : MemN _ _ _ _ _ := ⟨rfl, fsh2.1⟩
  have hish2 := fsh2.2
  refine .m rfl rfl rfl (.assign rfl) (.m rfl rfl rfl (.assign rfl) (.m rfl rfl rfl (.assign rfl) (.nil ?_)))
  refine hK1 _ _ ?_
  refine .seq (fun K2 hK2 => ?_)
  refine .seq (fun K3 hK3 => ?_)
  refine .region ?_
  refine .m rfl rfl rfl (.loadM ag_65_VSFun rfl ⟨rfl, Mem.of_get at2⟩) ?_
  refine .callQ rfl rfl rfl rfl @Try.call84 rfl (l19Is_c) ?_
  refine .m rfl rfl rfl (.not rfl) (.nil ?_)
  refine hK3 _ _ ?_
  refine .cond rfl (fun h22 => ?_) (fun h22 => ?_)
  ·
   simp only [sps] at h22
   refine .seq (fun K4 hK4 => ?_)
   refine .region (.m rfl rfl rfl (.assign rfl) (.m rfl rfl rfl (.assign rfl) (.m rfl rfl rfl (.assign rfl) ?_)))
   refine .nil ?_
   refine hK4 _ _ ?_
   refine .ret ?_
   refine hret _ _ ?_
   refine ⟨_, _, _, rfl, rfl, rfl, ?_⟩
   obtain ⟨e1, e2, e3⟩ := gl_1 (y := y) h22
   rw [e1, e2, e3]
   exact ⟨hle, none, fun _ => none, none, rfl, .nil _ _ _, .inl ⟨rfl, rfl⟩⟩
  simp only [sps] at h22
  have hf := h22
  obtain ⟨l1, l2, l3, l4, l5⟩ := hf.nums
  have hS := hf.1.c.1
  refine .skip ?_
  refine hK2 _ _ ?_
  refine .seq (fun K5 hK5 => ?_)
  refine .region (.m rfl rfl rfl (.fieldAddr fo_65_0_P rfl) ?_)
  refine .m rfl rfl rfl (.loadM ag_27_D rfl (by assumption)) ?_
  refine .r rfl rfl rfl (.allocR rfl ze_27_E rfl) ?_
  rintro _ H7 ⟨g7, rfl, le7, ge7, at7⟩
  have nx_H7 := le7.1
  replace hle := hle.trans le7
  replace at2 := le7.2 _ _ at2
  have lt_at7 := GHeap.lt_of_get at7
  replace hin := base_hin.mono hle
  replace hc := base_hc.mono hle
  clear hb2 fsh2 c52 c62 i12 i22 hm2 hi2 hmsh2 hish2
  have hb2 : SFun.At _ g2 0 f p := ⟨Mem.of_get at2, hin⟩
  obtain ⟨fsh2, c52, c62, i12, i22⟩ := hb2.get
  have hm2 : MemN _ _ _ _ _ := ⟨rfl, hb2.1⟩
  have hi2 := hb2.2
  have hmsh2 : MemN _ _ _ _ _ := ⟨rfl, fsh2.1⟩
  have hish2 := fsh2.2
  refine .r0 rfl rfl (.fillR rfl sz_27_D rfl rfl rfl rfl (by assumption) (by first | rfl | exact Nat.le_of_ble_eq_true rfl | simp)) ?_
  rintro _ H3003 ⟨rfl, st3003, at3003⟩
  have nx_H3003 := st3003.nx
  replace hle := hle.st st3003 (fun k hk => ⟨by omega, trivial⟩)
  have ne_g2_g7 : g2 ≠ g7 := by omega
  replace at2 := st3003.same _ _ ⟨ne_g2_g7, trivial⟩ at2
  have lt_at3003 := GHeap.lt_of_get at3003
  replace hin := base_hin.mono hle
  replace hc := base_hc.mono hle
  clear hb2 fsh2 c52 c62 i12 i22 hm2 hi2 hmsh2 hish2
  have hb2 : SFun.At _ g2 0 f p := ⟨Mem.of_get at2, hin⟩
  obtain ⟨fsh2, c52, c62, i12, i22⟩ := hb2.get
  have hm2 : MemN _ _ _ _ _ := ⟨rfl, hb2.1⟩
  have hi2 := hb2.2
  have hmsh2 : MemN _ _ _ _ _ := ⟨rfl, fsh2.1⟩
  have hish2 := fsh2.2
  have mm3003 : MemN _ _ _ _ _ := ⟨rfl, Mem.of_get at3003⟩
  have hb7 : Cat.At _ g7 0 f.sh p.sh := ⟨Mem.of_get at3003, hc⟩
  obtain ⟨c07, c17, c27, c37, c47, i17, i27, i37, i47⟩ := hb7.get
  have hm7 : MemN _ _ _ _ _ := ⟨rfl, hb7.1⟩
  have hi7 := hb7.2
  refine .nil ?_
  refine hK5 _ _ ?_
  refine .seq (fun K6 hK6 => ?_)
  refine .seq (fun K7 hK7 => ?_)
  refine .region ?_
  refine .m rfl rfl rfl (.loadM ag_27_D rfl ⟨rfl, Mem.of_get at3003⟩) ?_
  refine .m rfl rfl rfl (.move rfl) ?_
  refine .callQ rfl rfl rfl rfl @Try.call85 rfl (l02Object_c) ?_
  refine .m rfl rfl rfl (.not rfl) (.nil ?_)
  refine hK7 _ _ ?_
  refine .cond rfl (fun h28 => ?_) (fun h28 => ?_)
  ·
   simp only [sps] at h28
   refine .seq (fun K8 hK8 => ?_)
   refine .region (.m rfl rfl rfl (.assign rfl) (.m rfl rfl rfl (.assign rfl) (.m rfl rfl rfl (.assign rfl) ?_)))
   refine .nil ?_
   refine hK8 _ _ ?_
   refine .ret ?_
   refine hret _ _ ?_
   refine ⟨_, _, _, rfl, rfl, rfl, ?_⟩
   obtain ⟨e1, e2, e3⟩ := gl_2 (y := y) hf (by omega)
   rw [e1, e2, e3]
   exact ⟨hle, none, fun _ => none, none, rfl, .nil _ _ _, .inl ⟨rfl, rfl⟩⟩
  simp only [sps] at h28
  refine .skip ?_
  refine hK6 _ _ ?_
  refine .seq (fun K9 hK9 => ?_)
  refine .region ?_
  refine .r rfl rfl rfl (.litR rfl sl_23_B ze_22_E rfl rfl (by omega) (by omega) rfl rfl) ?_
  rintro _ H29 ⟨g29, rfl, le29, ge29, at29⟩
  have nx_H29 := le29.1
  replace hle := hle.trans le29
  replace at2 := le29.2 _ _ at2
  replace at3003 := le29.2 _ _ at3003
  have lt_at29 := GHeap.lt_of_get at29
  replace hin := base_hin.mono hle
  replace hc := base_hc.mono hle
  clear hb2 fsh2 c52 c62 i12 i22 hm2 hi2 hmsh2 hish2
  have hb2 : SFun.At _ g2 0 f p := ⟨Mem.of_get at2, hin⟩
  obtain ⟨fsh2, c52, c62, i12, i22⟩ := hb2.get
  have hm2 : MemN _ _ _ _ _ := ⟨rfl, hb2.1⟩
  have hi2 := hb2.2
  have hmsh2 : MemN _ _ _ _ _ := ⟨rfl, fsh2.1⟩
  have hish2 := fsh2.2
  clear mm3003
  have mm3003 : MemN _ _ _ _ _ := ⟨rfl, Mem.of_get at3003⟩
  clear hb7 c07 c17 c27 c37 c47 i17 i27 i37 i47 hm7 hi7
  have hb7 : Cat.At _ g7 0 f.sh p.sh := ⟨Mem.of_get at3003, hc⟩
  obtain ⟨c07, c17, c27, c37, c47, i17, i27, i37, i47⟩ := hb7.get
  have hm7 : MemN _ _ _ _ _ := ⟨rfl, hb7.1⟩
  have hi7 := hb7.2
  refine .m rfl rfl rfl (.assign rfl) (.nil ?_)
  refine hK9 _ _ ?_
  refine .seq (fun K10 hK10 => ?_)
  refine .seq (fun K11 hK11 => ?_)
  refine .region (.m rfl rfl rfl (.assign rfl) (.nil ?_))
  refine hK11 _ _ ?_
  refine .block ?_
  refine .loopR (σ := Nat × (Nat → Option Addr) × Nat × Nat) [(1, some _), (2, some _), (7, some _)] (fun (x, rr, gL8, nL8) => [(9, some (.int .i64 (x : Int))), (8, some (.slice (some ⟨gL8, 0, none⟩) nL8 nL8))]) (fun (x, rr, gL8, nL8) H' => St [g29] H29 H' ∧ H'.get gL8 = some (.row ((slsL rr (glL f y x 0 0))) 22 true) ∧ PL gL8 g29 H29.next ∧ nL8 = (slsL rr (glL f y x 0 0)).length ∧ x ≤ f.sz.length ∧ OwnL H.next H' 2 rr (glL f y x 0 0)) (fun (x, rr, gL8, nL8) => f.sz.length - x) ((0, fun _ => none, _, _)) ⟨rfl, rfl, rfl, trivial⟩ ⟨rfl, rfl, trivial⟩ ?_ ?_
  ·
   refine ⟨.refl _ _, by first | assumption | exact at29 | simpa using at29, ⟨.inl rfl⟩, by first | rfl | assumption | simp | omega, ?_⟩
   exact ⟨by omega, .nil _ _ _ _⟩
  rintro ⟨x, rr, gL8, nL8⟩ HL1 ⟨lst1, at_L8, pl_L8, ln_L8, hI⟩ KL1 hKL1
  refine .forget (fr' := [(9, some (.int .i64 (x : Int))), (8, some (.slice (some ⟨gL8, 0, none⟩) nL8 nL8)), (1, some _), (2, some _), (7, some _)]) ⟨rfl, rfl, rfl, rfl, rfl, trivial⟩ ?_
  have ge_L8 : H.next ≤ gL8 := pl_L8.ge (by omega) (by omega)
  have nx_HL1 := lst1.nx
  replace hle := hle.st lst1 (fun k hk => ⟨by omega, trivial⟩)
  have ne_g2_g29 : g2 ≠ g29 := by omega
  replace at2 := lst1.same _ _ ⟨ne_g2_g29, trivial⟩ at2
  have ne_g7_g29 : g7 ≠ g29 := by omega
  replace at3003 := lst1.same _ _ ⟨ne_g7_g29, trivial⟩ at3003
  have lt_at_L8 := GHeap.lt_of_get at_L8
  replace hin := base_hin.mono hle
  replace hc := base_hc.mono hle
  clear hb2 fsh2 c52 c62 i12 i22 hm2 hi2 hmsh2 hish2
  have hb2 : SFun.At _ g2 0 f p := ⟨Mem.of_get at2, hin⟩
  obtain ⟨fsh2, c52, c62, i12, i22⟩ := hb2.get
  have hm2 : MemN _ _ _ _ _ := ⟨rfl, hb2.1⟩
  have hi2 := hb2.2
  have hmsh2 : MemN _ _ _ _ _ := ⟨rfl, fsh2.1⟩
  have hish2 := fsh2.2
  clear mm3003
  have mm3003 : MemN _ _ _ _ _ := ⟨rfl, Mem.of_get at3003⟩
  clear hb7 c07 c17 c27 c37 c47 i17 i27 i37 i47 hm7 hi7
  have hb7 : Cat.At _ g7 0 f.sh p.sh := ⟨Mem.of_get at3003, hc⟩
  obtain ⟨c07, c17, c27, c37, c47, i17, i27, i37, i47⟩ := hb7.get
  have hm7 : MemN _ _ _ _ _ := ⟨rfl, hb7.1⟩
  have hi7 := hb7.2
  obtain ⟨hx, hR⟩ := hI
  refine .seq (fun K12 hK12 => ?_)
  refine .seq (fun K13 hK13 => ?_)
  refine .region (.m rfl rfl rfl (.move rfl) (.m rfl rfl rfl (.fieldAddr fo_27_0_B rfl) ?_))
  refine .m rfl rfl rfl (.load on_2_A rfl (by first | assumption | exact Mem.of_get at3003 0 _ rfl)) ?_
  refine .m rfl rfl rfl (.cmp rfl rfl rfl) (.nil ?_)
  refine hK13 _ _ ?_
  refine .cond rfl (fun h33 => ?_) (fun h33 => ?_)
  ·
   simp only [sps] at h33
   have hz := hf.1.sz x (by omega)
   have hlh := f.sh.hom_le (x : Int) y
   refine .skip ?_
   refine hK12 _ _ ?_
   refine .seq (fun K14 hK14 => ?_)
   refine .block ?_
   refine .seq (fun K15 hK15 => ?_)
   refine .region ?_
   refine .m rfl rfl rfl (.loadM ag_27_D rfl ⟨rfl, Mem.of_get at3003⟩) ?_
   refine .m rfl rfl rfl (.move rfl) (.m rfl rfl rfl (.move rfl) ?_)
   refine .call rfl rfl rfl rfl @Try.call86 rfl (l02Hom_c) ?_
   rintro _ H39 ⟨le39, g39, rfl, at39, ge39⟩
   have nx_H39 := le39.1
   replace hle := hle.trans le39
   replace lst1 := lst1.le le39
   replace at2 := le39.2 _ _ at2
   replace at3003 := le39.2 _ _ at3003
   replace at_L8 := le39.2 _ _ at_L8
   have lt_at39 := GHeap.lt_of_get at39
   replace hin := base_hin.mono hle
   replace hc := base_hc.mono hle
   clear hb2 fsh2 c52 c62 i12 i22 hm2 hi2 hmsh2 hish2
   have hb2 : SFun.At _ g2 0 f p := ⟨Mem.of_get at2, hin⟩
   obtain ⟨fsh2, c52, c62, i12, i22⟩ := hb2.get
   have hm2 : MemN _ _ _ _ _ := ⟨rfl, hb2.1⟩
   have hi2 := hb2.2
   have hmsh2 : MemN _ _ _ _ _ := ⟨rfl, fsh2.1⟩
   have hish2 := fsh2.2
   clear mm3003
   have mm3003 : MemN _ _ _ _ _ := ⟨rfl, Mem.of_get at3003⟩
   clear hb7 c07 c17 c27 c37 c47 i17 i27 i37 i47 hm7 hi7
   have hb7 : Cat.At _ g7 0 f.sh p.sh := ⟨Mem.of_get at3003, hc⟩
   obtain ⟨c07, c17, c27, c37, c47, i17, i27, i37, i47⟩ := hb7.get
   have hm7 : MemN _ _ _ _ _ := ⟨rfl, hb7.1⟩
   have hi7 := hb7.2
   have i39 := Ints.of_get at39
   refine .m rfl rfl rfl (.assign rfl) (.nil ?_)
   refine hK15 _ _ ?_
   refine .seq (fun K16 hK16 => ?_)
   refine .region (.m rfl rfl rfl (.assign rfl) (.nil ?_))
   refine hK16 _ _ ?_
   refine .block ?_
   refine .loopR (σ := Nat × (Nat → Option Addr) × Nat × Nat) [(1, some _), (2, some _), (7, some _), (9, some _), (10, some _)] (fun (e, r2, gL8v2, nL8v2) => [(11, some (.int .i64 (e : Int))), (8, some (.slice (some ⟨gL8v2, 0, none⟩) nL8v2 nL8v2))]) (fun (e, r2, gL8v2, nL8v2) H' => St [gL8] H39 H' ∧ H'.get gL8v2 = some (.row ((slsL r2 (glL f y x e 0))) 22 true) ∧ PL gL8v2 gL8 H39.next ∧ nL8v2 = (slsL r2 (glL f y x e 0)).length ∧ e ≤ (f.sz.getD x 0).toNat ∧ OwnL H.next H' 2 r2 (glL f y x e 0)) (fun (e, r2, gL8v2, nL8v2) => (f.sz.getD x 0).toNat - e) ((0, rr, _, _)) ⟨rfl, rfl, rfl, rfl, rfl, trivial⟩ ⟨rfl, rfl, trivial⟩ ?_ ?_
   ·
    refine ⟨.refl _ _, by first | assumption | exact at_L8 | simpa using at_L8, ⟨.inl rfl⟩, by first | rfl | assumption | simp | omega, ?_⟩
    exact ⟨by omega, hR.keep (.of_le le39)⟩
   rintro ⟨e, r2, gL8v2, nL8v2⟩ HL2 ⟨lst2, at_L8v2, pl_L8v2, ln_L8v2, hI⟩ KL2 hKL2
   refine .forget (fr' := [(11, some (.int .i64 (e : Int))), (8, some (.slice (some ⟨gL8v2, 0, none⟩) nL8v2 nL8v2)), (1, some _), (2, some _), (7, some _), (9, some _), (10, some _)]) ⟨rfl, rfl, rfl, rfl, rfl, rfl, rfl, trivial⟩ ?_
   have ge_L8v2 : H.next ≤ gL8v2 := pl_L8v2.ge (by omega) (by omega)
   have nx_HL2 := lst2.nx
   replace hle := hle.st lst2 (fun k hk => ⟨by omega, trivial⟩)
   replace lst1 := lst1.st lst2 (fun k hk ho => by simp only [out, and_true] at ho ⊢ <;> first | omega | (first | exact ho | exact ho.1 | exact ho.2 | exact ho.2.1 | exact ho.2.2 | exact ho.2.2.1 | exact ho.2.2.2 | exact pl_L8.ne (by first | omega | (first | exact ho | exact ho.1 | exact ho.2 | exact ho.2.1 | exact ho.2.2 | exact ho.2.2.1 | exact ho.2.2.2)) (by omega)))
   have ne_g2_gL8 : g2 ≠ gL8 := pl_L8.ne ne_g2_g29 (by omega)
   replace at2 := lst2.same _ _ ⟨ne_g2_gL8, trivial⟩ at2
   have ne_g7_gL8 : g7 ≠ gL8 := pl_L8.ne ne_g7_g29 (by omega)
   replace at3003 := lst2.same _ _ ⟨ne_g7_gL8, trivial⟩ at3003
   have ne_g39_gL8 : g39 ≠ gL8 := by omega
   replace at39 := lst2.same _ _ ⟨ne_g39_gL8, trivial⟩ at39
   have lt_at_L8v2 := GHeap.lt_of_get at_L8v2
   replace hin := base_hin.mono hle
   replace hc := base_hc.mono hle
   clear hb2 fsh2 c52 c62 i12 i22 hm2 hi2 hmsh2 hish2
   have hb2 : SFun.At _ g2 0 f p := ⟨Mem.of_get at2, hin⟩
   obtain ⟨fsh2, c52, c62, i12, i22⟩ := hb2.get
   have hm2 : MemN _ _ _ _ _ := ⟨rfl, hb2.1⟩
   have hi2 := hb2.2
   have hmsh2 : MemN _ _ _ _ _ := ⟨rfl, fsh2.1⟩
   have hish2 := fsh2.2
   clear mm3003
   have mm3003 : MemN _ _ _ _ _ := ⟨rfl, Mem.of_get at3003⟩
   clear hb7 c07 c17 c27 c37 c47 i17 i27 i37 i47 hm7 hi7
   have hb7 : Cat.At _ g7 0 f.sh p.sh := ⟨Mem.of_get at3003, hc⟩
   obtain ⟨c07, c17, c27, c37, c47, i17, i27, i37, i47⟩ := hb7.get
   have hm7 : MemN _ _ _ _ _ := ⟨rfl, hb7.1⟩
   have hi7 := hb7.2
   clear i39
   have i39 := Ints.of_get at39
   obtain ⟨he, hR⟩ := hI
   refine .seq (fun K17 hK17 => ?_)
   refine .seq (fun K18 hK18 => ?_)
   refine .region (.m rfl rfl rfl (.move rfl) (.m rfl rfl rfl (.fieldAddr fo_65_1_P rfl) ?_))
   refine .m rfl rfl rfl (.load on_22_B rfl (by first | assumption | exact Mem.of_get at2 5 _ rfl)) ?_
   refine .m rfl rfl rfl (.move rfl) ?_
   refine .m rfl rfl rfl (.idxN sl_22_A (by assumption) rfl rfl (by omega)) ?_
   refine .m rfl rfl rfl (.loadI on_2_A (by assumption) rfl (by omega)) ?_
   refine .m rfl rfl rfl (.cmp rfl rfl rfl) (.nil ?_)
   refine hK18 _ _ ?_
   refine .cond rfl (fun h46 => ?_) (fun h46 => ?_)
   ·
    simp only [sps] at h46
    refine .skip ?_
    refine hK17 _ _ ?_
    refine .seq (fun K19 hK19 => ?_)
    refine .block ?_
    refine .seq (fun K20 hK20 => ?_)
    refine .region (.m rfl rfl rfl (.assign rfl) (.nil ?_))
    refine hK20 _ _ ?_
    refine .block ?_
    refine .loopR (σ := Nat × (Nat → Option Addr) × Nat × Nat) [(1, some _), (2, some _), (7, some _), (9, some _), (10, some _), (11, some _)] (fun (i, r3, gL8v3, nL8v3) => [(12, some (.int .i64 (i : Int))), (8, some (.slice (some ⟨gL8v3, 0, none⟩) nL8v3 nL8v3))]) (fun (i, r3, gL8v3, nL8v3) H' => St [gL8v2] HL2 H' ∧ H'.get gL8v3 = some (.row ((slsL r3 (glL f y x e i))) 22 true) ∧ PL gL8v3 gL8v2 HL2.next ∧ nL8v3 = (slsL r3 (glL f y x e i)).length ∧ i ≤ (f.sh.hom (x : Int) y).length ∧ OwnL H.next H' 2 r3 (glL f y x e i)) (fun (i, r3, gL8v3, nL8v3) => (f.sh.hom (x : Int) y).length - i) ((0, r2, _, _)) ⟨rfl, rfl, rfl, rfl, rfl, rfl, trivial⟩ ⟨rfl, rfl, trivial⟩ ?_ ?_
    ·
     refine ⟨.refl _ _, by first | assumption | exact at_L8v2 | simpa using at_L8v2, ⟨.inl rfl⟩, by first | rfl | assumption | simp | omega, ?_⟩
     exact ⟨by omega, hR⟩
    rintro ⟨i, r3, gL8v3, nL8v3⟩ HL3 ⟨lst3, at_L8v3, pl_L8v3, ln_L8v3, hI⟩ KL3 hKL3
    refine .forget (fr' := [(12, some (.int .i64 (i : Int))), (8, some (.slice (some ⟨gL8v3, 0, none⟩) nL8v3 nL8v3)), (1, some _), (2, some _), (7, some _), (9, some _), (10, some _), (11, some _)]) ⟨rfl, rfl, rfl, rfl, rfl, rfl, rfl, rfl, trivial⟩ ?_
    have ge_L8v3 : H.next ≤ gL8v3 := pl_L8v3.ge (by omega) (by omega)
    have nx_HL3 := lst3.nx
    replace hle := hle.st lst3 (fun k hk => ⟨by omega, trivial⟩)
    replace lst1 := lst1.st lst3 (fun k hk ho => by simp only [out, and_true] at ho ⊢ <;> first | omega | (first | exact ho | exact ho.1 | exact ho.2 | exact ho.2.1 | exact ho.2.2 | exact ho.2.2.1 | exact ho.2.2.2 | exact pl_L8v2.ne (by first | omega | (first | exact ho | exact ho.1 | exact ho.2 | exact ho.2.1 | exact ho.2.2 | exact ho.2.2.1 | exact ho.2.2.2 | exact pl_L8.ne (by first | omega | (first | exact ho | exact ho.1 | exact ho.2 | exact ho.2.1 | exact ho.2.2 | exact ho.2.2.1 | exact ho.2.2.2)) (by omega))) (by omega)))
    replace lst2 := lst2.st lst3 (fun k hk ho => by simp only [out, and_true] at ho ⊢ <;> first | omega | (first | exact ho | exact ho.1 | exact ho.2 | exact ho.2.1 | exact ho.2.2 | exact ho.2.2.1 | exact ho.2.2.2 | exact pl_L8v2.ne (by first | omega | (first | exact ho | exact ho.1 | exact ho.2 | exact ho.2.1 | exact ho.2.2 | exact ho.2.2.1 | exact ho.2.2.2 | exact pl_L8.ne (by first | omega | (first | exact ho | exact ho.1 | exact ho.2 | exact ho.2.1 | exact ho.2.2 | exact ho.2.2.1 | exact ho.2.2.2)) (by omega))) (by omega)))
    have ne_g2_gL8v2 : g2 ≠ gL8v2 := pl_L8v2.ne ne_g2_gL8 (by omega)
    replace at2 := lst3.same _ _ ⟨ne_g2_gL8v2, trivial⟩ at2
    have ne_g7_gL8v2 : g7 ≠ gL8v2 := pl_L8v2.ne ne_g7_gL8 (by omega)
    replace at3003 := lst3.same _ _ ⟨ne_g7_gL8v2, trivial⟩ at3003
    have ne_g39_gL8v2 : g39 ≠ gL8v2 := pl_L8v2.ne ne_g39_gL8 (by omega)
    replace at39 := lst3.same _ _ ⟨ne_g39_gL8v2, trivial⟩ at39
    have lt_at_L8v3 := GHeap.lt_of_get at_L8v3
    replace hin := base_hin.mono hle
    replace hc := base_hc.mono hle
    clear hb2 fsh2 c52 c62 i12 i22 hm2 hi2 hmsh2 hish2
    have hb2 : SFun.At _ g2 0 f p := ⟨Mem.of_get at2, hin⟩
    obtain ⟨fsh2, c52, c62, i12, i22⟩ := hb2.get
    have hm2 : MemN _ _ _ _ _ := ⟨rfl, hb2.1⟩
    have hi2 := hb2.2
    have hmsh2 : MemN _ _ _ _ _ := ⟨rfl, fsh2.1⟩
    have hish2 := fsh2.2
    clear mm3003
    have mm3003 : MemN _ _ _ _ _ := ⟨rfl, Mem.of_get at3003⟩
    clear hb7 c07 c17 c27 c37 c47 i17 i27 i37 i47 hm7 hi7
    have hb7 : Cat.At _ g7 0 f.sh p.sh := ⟨Mem.of_get at3003, hc⟩
    obtain ⟨c07, c17, c27, c37, c47, i17, i27, i37, i47⟩ := hb7.get
    have hm7 : MemN _ _ _ _ _ := ⟨rfl, hb7.1⟩
    have hi7 := hb7.2
    clear i39
    have i39 := Ints.of_get at39
    have rk := St.refl [gL8v3] HL3
    obtain ⟨hi2, hR⟩ := hI
    have hat8 := at_L8v3
    have hln := glL_le (y := y) hf (x := x) (e := e) (i := i) (by omega) (by omega) hi2
    have hfl : (slsL r3 (glL f y x e i)).length = (glL f y x e i).length := length_slsL _ _
    refine .seq (fun K21 hK21 => ?_)
    refine .seq (fun K22 hK22 => ?_)
    refine .region (.m rfl rfl rfl (.move rfl) (.m rfl rfl rfl (.move rfl) (.m rfl rfl rfl (.len sl_22_A rfl) ?_)))
    refine .m rfl rfl rfl (.cmp rfl rfl rfl) (.nil ?_)
    refine hK22 _ _ ?_
    refine .cond rfl (fun h52 => ?_) (fun h52 => ?_)
    ·
     simp only [sps] at h52
     refine .skip ?_
     refine hK21 _ _ ?_
     refine .seq (fun K23 hK23 => ?_)
     refine .block ?_
     refine .region (.m rfl rfl rfl (.move rfl) (.m rfl rfl rfl (.move rfl) (.m rfl rfl rfl (.move rfl) ?_)))
     refine .m rfl rfl rfl (.move rfl) (.m rfl rfl rfl (.move rfl) ?_)
     refine .m rfl rfl rfl (.idxN sl_22_A (by first | assumption | exact SlA.of_row at39 (by first | rfl | (simp; done) | (simp <;> omega))) rfl rfl (by omega)) ?_
     refine .m rfl rfl rfl (.loadI on_2_A (by first | assumption | exact Ints.of_get at39) rfl (by omega)) ?_
     refine .r rfl rfl rfl (.litR rfl sl_22_A ze_2_E rfl rfl (by omega) (by omega) rfl rfl) ?_
     rintro _ H62 ⟨g62, rfl, le62, ge62, at62⟩
     have nx_H62 := le62.1
     replace hle := hle.trans le62
     replace lst1 := lst1.le le62
     replace lst2 := lst2.le le62
     replace lst3 := lst3.le le62
     replace rk := rk.le le62
     replace at2 := le62.2 _ _ at2
     replace at3003 := le62.2 _ _ at3003
     replace at39 := le62.2 _ _ at39
     replace at_L8v3 := le62.2 _ _ at_L8v3
     have lt_at62 := GHeap.lt_of_get at62
     replace hin := base_hin.mono hle
     replace hc := base_hc.mono hle
     clear hb2 fsh2 c52 c62 i12 i22 hm2 hi2 hmsh2 hish2
     have hb2 : SFun.At _ g2 0 f p := ⟨Mem.of_get at2, hin⟩
     obtain ⟨fsh2, c52, c62, i12, i22⟩ := hb2.get
     have hm2 : MemN _ _ _ _ _ := ⟨rfl, hb2.1⟩
     have hi2 := hb2.2
     have hmsh2 : MemN _ _ _ _ _ := ⟨rfl, fsh2.1⟩
     have hish2 := fsh2.2
     clear mm3003
     have mm3003 : MemN _ _ _ _ _ := ⟨rfl, Mem.of_get at3003⟩
     clear hb7 c07 c17 c27 c37 c47 i17 i27 i37 i47 hm7 hi7
     have hb7 : Cat.At _ g7 0 f.sh p.sh := ⟨Mem.of_get at3003, hc⟩
     obtain ⟨c07, c17, c27, c37, c47, i17, i27, i37, i47⟩ := hb7.get
     have hm7 : MemN _ _ _ _ _ := ⟨rfl, hb7.1⟩
     have hi7 := hb7.2
     clear i39
     have i39 := Ints.of_get at39
     refine .r rfl rfl rfl (.litR rfl sl_23_B ze_22_E rfl rfl (by omega) (by omega) rfl rfl) ?_
     rintro _ H63 ⟨g63, rfl, le63, ge63, at63⟩
     have nx_H63 := le63.1
     replace hle := hle.trans le63
     replace lst1 := lst1.le le63
     replace lst2 := lst2.le le63
     replace lst3 := lst3.le le63
     replace rk := rk.le le63
     replace at2 := le63.2 _ _ at2
     replace at3003 := le63.2 _ _ at3003
     replace at39 := le63.2 _ _ at39
     replace at_L8v3 := le63.2 _ _ at_L8v3
     replace at62 := le63.2 _ _ at62
     have lt_at63 := GHeap.lt_of_get at63
     replace hin := base_hin.mono hle
     replace hc := base_hc.mono hle
     clear hb2 fsh2 c52 c62 i12 i22 hm2 hi2 hmsh2 hish2
     have hb2 : SFun.At _ g2 0 f p := ⟨Mem.of_get at2, hin⟩
     obtain ⟨fsh2, c52, c62, i12, i22⟩ := hb2.get
     have hm2 : MemN _ _ _ _ _ := ⟨rfl, hb2.1⟩
     have hi2 := hb2.2
     have hmsh2 : MemN _ _ _ _ _ := ⟨rfl, fsh2.1⟩
     have hish2 := fsh2.2
     clear mm3003
     have mm3003 : MemN _ _ _ _ _ := ⟨rfl, Mem.of_get at3003⟩
     clear hb7 c07 c17 c27 c37 c47 i17 i27 i37 i47 hm7 hi7
     have hb7 : Cat.At _ g7 0 f.sh p.sh := ⟨Mem.of_get at3003, hc⟩
     obtain ⟨c07, c17, c27, c37, c47, i17, i27, i37, i47⟩ := hb7.get
     have hm7 : MemN _ _ _ _ _ := ⟨rfl, hb7.1⟩
     have hi7 := hb7.2
     clear i39
     have i39 := Ints.of_get at39
     refine .r rfl rfl rfl (.appendV rfl sl_23_B ze_22_E rfl by_22_E sl_23_B rfl rfl (by assumption) (by assumption) (by first | omega | (simp <;> omega)) rfl rfl (by omega) (by omega)) ?_
     rintro _ H64 ⟨g64, rfl, st64, ge64, at64⟩
     have nx_H64 := st64.nx
     replace hle := hle.st st64 (fun k hk => ⟨by omega, trivial⟩)
     replace lst1 := lst1.st st64 (fun k hk ho => by simp only [out, and_true] at ho ⊢ <;> first | omega | (first | exact ho | exact ho.1 | exact ho.2 | exact ho.2.1 | exact ho.2.2 | exact ho.2.2.1 | exact ho.2.2.2 | exact pl_L8v3.ne (by first | omega | (first | exact ho | exact ho.1 | exact ho.2 | exact ho.2.1 | exact ho.2.2 | exact ho.2.2.1 | exact ho.2.2.2 | exact pl_L8v2.ne (by first | omega | (first | exact ho | exact ho.1 | exact ho.2 | exact ho.2.1 | exact ho.2.2 | exact ho.2.2.1 | exact ho.2.2.2 | exact pl_L8.ne (by first | omega | (first | exact ho | exact ho.1 | exact ho.2 | exact ho.2.1 | exact ho.2.2 | exact ho.2.2.1 | exact ho.2.2.2)) (by omega))) (by omega))) (by omega)))
     replace lst2 := lst2.st st64 (fun k hk ho => by simp only [out, and_true] at ho ⊢ <;> first | omega | (first | exact ho | exact ho.1 | exact ho.2 | exact ho.2.1 | exact ho.2.2 | exact ho.2.2.1 | exact ho.2.2.2 | exact pl_L8v3.ne (by first | omega | (first | exact ho | exact ho.1 | exact ho.2 | exact ho.2.1 | exact ho.2.2 | exact ho.2.2.1 | exact ho.2.2.2 | exact pl_L8v2.ne (by first | omega | (first | exact ho | exact ho.1 | exact ho.2 | exact ho.2.1 | exact ho.2.2 | exact ho.2.2.1 | exact ho.2.2.2 | exact pl_L8.ne (by first | omega | (first | exact ho | exact ho.1 | exact ho.2 | exact ho.2.1 | exact ho.2.2 | exact ho.2.2.1 | exact ho.2.2.2)) (by omega))) (by omega))) (by omega)))
     replace lst3 := lst3.st st64 (fun k hk ho => by simp only [out, and_true] at ho ⊢ <;> first | omega | (first | exact ho | exact ho.1 | exact ho.2 | exact ho.2.1 | exact ho.2.2 | exact ho.2.2.1 | exact ho.2.2.2 | exact pl_L8v3.ne (by first | omega | (first | exact ho | exact ho.1 | exact ho.2 | exact ho.2.1 | exact ho.2.2 | exact ho.2.2.1 | exact ho.2.2.2 | exact pl_L8v2.ne (by first | omega | (first | exact ho | exact ho.1 | exact ho.2 | exact ho.2.1 | exact ho.2.2 | exact ho.2.2.1 | exact ho.2.2.2 | exact pl_L8.ne (by first | omega | (first | exact ho | exact ho.1 | exact ho.2 | exact ho.2.1 | exact ho.2.2 | exact ho.2.2.1 | exact ho.2.2.2)) (by omega))) (by omega))) (by omega)))
     replace rk := rk.st st64 (fun k hk ho => by simp only [out, and_true] at ho ⊢ <;> first | omega | (first | exact ho | exact ho.1 | exact ho.2 | exact ho.2.1 | exact ho.2.2 | exact ho.2.2.1 | exact ho.2.2.2 | exact pl_L8v3.ne (by first | omega | (first | exact ho | exact ho.1 | exact ho.2 | exact ho.2.1 | exact ho.2.2 | exact ho.2.2.1 | exact ho.2.2.2 | exact pl_L8v2.ne (by first | omega | (first | exact ho | exact ho.1 | exact ho.2 | exact ho.2.1 | exact ho.2.2 | exact ho.2.2.1 | exact ho.2.2.2 | exact pl_L8.ne (by first | omega | (first | exact ho | exact ho.1 | exact ho.2 | exact ho.2.1 | exact ho.2.2 | exact ho.2.2.1 | exact ho.2.2.2)) (by omega))) (by omega))) (by omega)))
     have ne_g2_gL8v3 : g2 ≠ gL8v3 := pl_L8v3.ne ne_g2_gL8v2 (by omega)
     replace at2 := st64.same _ _ ⟨ne_g2_gL8v3, trivial⟩ at2
     have ne_g7_gL8v3 : g7 ≠ gL8v3 := pl_L8v3.ne ne_g7_gL8v2 (by omega)
     replace at3003 := st64.same _ _ ⟨ne_g7_gL8v3, trivial⟩ at3003
     have ne_g39_gL8v3 : g39 ≠ gL8v3 := pl_L8v3.ne ne_g39_gL8v2 (by omega)
     replace at39 := st64.same _ _ ⟨ne_g39_gL8v3, trivial⟩ at39
     have ne_g62_gL8v3 : g62 ≠ gL8v3 := by omega
     replace at62 := st64.same _ _ ⟨ne_g62_gL8v3, trivial⟩ at62
     have ne_g63_gL8v3 : g63 ≠ gL8v3 := by omega
     replace at63 := st64.same _ _ ⟨ne_g63_gL8v3, trivial⟩ at63
     have lt_at64 := GHeap.lt_of_get at64
     replace hin := base_hin.mono hle
     replace hc := base_hc.mono hle
     clear hb2 fsh2 c52 c62 i12 i22 hm2 hi2 hmsh2 hish2
     have hb2 : SFun.At _ g2 0 f p := ⟨Mem.of_get at2, hin⟩
     obtain ⟨fsh2, c52, c62, i12, i22⟩ := hb2.get
     have hm2 : MemN _ _ _ _ _ := ⟨rfl, hb2.1⟩
     have hi2 := hb2.2
     have hmsh2 : MemN _ _ _ _ _ := ⟨rfl, fsh2.1⟩
     have hish2 := fsh2.2
     clear mm3003
     have mm3003 : MemN _ _ _ _ _ := ⟨rfl, Mem.of_get at3003⟩
     clear hb7 c07 c17 c27 c37 c47 i17 i27 i37 i47 hm7 hi7
     have hb7 : Cat.At _ g7 0 f.sh p.sh := ⟨Mem.of_get at3003, hc⟩
     obtain ⟨c07, c17, c27, c37, c47, i17, i27, i37, i47⟩ := hb7.get
     have hm7 : MemN _ _ _ _ _ := ⟨rfl, hb7.1⟩
     have hi7 := hb7.2
     clear i39
     have i39 := Ints.of_get at39
     refine .m rfl rfl rfl (.assign rfl) (.nil ?_)
     refine hK23 _ _ ?_
     refine .region (.m rfl rfl rfl (.move rfl) ?_)
     refine .m rfl rfl rfl (.add rfl rfl rfl (by omega) (by omega)) ?_
     refine .m rfl rfl rfl (.assign rfl) (.nil ?_)
     refine hKL3 ((i + 1, upd r3 (glL f y x e i).length (some ⟨g62, 0, none⟩), _, _)) _ _ ?_ ?_ ⟨rfl, rfl, rfl, rfl, rfl, rfl, rfl, rfl, trivial⟩
     ·
      refine ⟨lst3, by first | assumption | (rw [glL_snoc, slsL_snoc]; assumption), by first | assumption | exact ⟨.inr (by omega)⟩ | exact ⟨.inl rfl⟩, by first | omega | (simp only [List.length_append, List.length_cons, List.length_nil] <;> omega) | (rw [glL_snoc, slsL_snoc] <;> (first | omega | (simp only [List.length_append, List.length_cons, List.length_nil] <;> omega))), ?_⟩
      exact ⟨by omega, by rw [glL_snoc]; exact hR.snoc (rk.lasts1 hat8 rfl) (by assumption) (by omega) (by omega)⟩
     (dsimp only; omega)
    try simp only [sps] at h52
    refine .exit ?_
    refine hK19 _ _ ?_
    refine .region (.m rfl rfl rfl (.move rfl) ?_)
    refine .m rfl rfl rfl (.add rfl rfl rfl (by omega) (by omega)) ?_
    refine .m rfl rfl rfl (.assign rfl) (.nil ?_)
    obtain rfl : i = (f.sh.hom (x : Int) y).length := by omega
    refine hKL2 ((e + 1, r3, _, _)) _ _ ?_ ?_ ⟨rfl, rfl, rfl, rfl, rfl, rfl, rfl, trivial⟩
    ·
     refine ⟨lst2, by first | assumption | (rw [glL_next2]; assumption), by first | assumption | exact pl_L8v3.trans pl_L8v2 (by omega) | exact ⟨.inr (by omega)⟩ | exact ⟨.inl rfl⟩, by first | omega | (simp only [List.length_append, List.length_cons, List.length_nil] <;> omega) | (rw [glL_next2] <;> (first | omega | (simp only [List.length_append, List.length_cons, List.length_nil] <;> omega))), ?_⟩
     exact ⟨by omega, by rw [glL_next2]; exact hR⟩
    (dsimp only; omega)
   try simp only [sps] at h46
   refine .exit ?_
   refine hK14 _ _ ?_
   refine .region (.m rfl rfl rfl (.move rfl) ?_)
   refine .m rfl rfl rfl (.add rfl rfl rfl (by omega) (by omega)) ?_
   refine .m rfl rfl rfl (.assign rfl) (.nil ?_)
   obtain rfl : e = (f.sz.getD x 0).toNat := by omega
   refine hKL1 ((x + 1, r2, _, _)) _ _ ?_ ?_ ⟨rfl, rfl, rfl, rfl, rfl, trivial⟩
   ·
    refine ⟨lst1, by first | assumption | (rw [glL_next1]; assumption), by first | assumption | exact pl_L8v2.trans pl_L8 (by omega) | exact ⟨.inr (by omega)⟩ | exact ⟨.inl rfl⟩, by first | omega | (simp only [List.length_append, List.length_cons, List.length_nil] <;> omega) | (rw [glL_next1] <;> (first | omega | (simp only [List.length_append, List.length_cons, List.length_nil] <;> omega))), ?_⟩
    exact ⟨by omega, by rw [glL_next1]; exact hR⟩
   (dsimp only; omega)
  try simp only [sps] at h33
  refine .exit ?_
  refine hK10 _ _ ?_
  refine .seq (fun K24 hK24 => ?_)
  refine .seq (fun K25 hK25 => ?_)
  refine .region ?_
  obtain rfl : x = f.sz.length := by omega
  have v8 : IntssR H.next HL1 (some ⟨gL8, 0, none⟩) (glE f y) rr := hR.done at_L8 ge_L8
  have hn8 : nL8 = (glE f y).length := by rw [ln_L8, length_slsL]; rfl
  subst hn8
  have hK := glE_keys (y := y) hf
  have hl3 : ∀ i, ((glE f y).getD i []).length ≤ 3 := fun i => by
    by_cases hi : i < (glE f y).length
    · have := (hK.ok _ (getD_mem_list (d := []) hi)).1; omega
    · rw [List.getD_eq_getElem?_getD, List.getElem?_eq_none (by omega)]; simp
  refine .m rfl rfl rfl (.move rfl) ?_
  have bs_v8 := v8
  have lv_v8 : Keep H.next HL1 HL1 := fun _ _ _ h => h
  have i8 := v8.intss
  refine .m rfl rfl rfl (.len sl_23_B rfl) (.m rfl rfl rfl (.cmp rfl rfl rfl) (.nil ?_))
  refine hK25 _ _ ?_
  refine .cond rfl (fun h67 => ?_) (fun h67 => ?_)
  ·
   simp only [sps] at h67
   refine .seq (fun K26 hK26 => ?_)
   refine .region (.m rfl rfl rfl (.assign rfl) (.m rfl rfl rfl (.assign rfl) (.m rfl rfl rfl (.assign rfl) ?_)))
   refine .nil ?_
   refine hK26 _ _ ?_
   refine .ret ?_
   refine hret _ _ ?_
   refine ⟨_, _, _, rfl, rfl, rfl, ?_⟩
   obtain ⟨e1, e2, e3⟩ := gl_3 (y := y) hf h28 (by omega)
   rw [e1, e2, e3]
   exact ⟨hle, none, fun _ => none, none, rfl, .nil _ _ _, .inl ⟨rfl, rfl⟩⟩
  simp only [sps] at h67
  have hL : (glE f y).length ≤ 256 := by omega
  refine .skip ?_
  refine hK24 _ _ ?_
  refine .seq (fun K27 hK27 => ?_)
  refine .region ?_
  refine .r rfl rfl rfl (.litR rfl sl_23_B ze_22_E rfl rfl (by omega) (by omega) rfl rfl) ?_
  rintro _ H68 ⟨g68, rfl, le68, ge68, at68⟩
  have nx_H68 := le68.1
  replace hle := hle.trans le68
  replace lst1 := lst1.le le68
  replace at2 := le68.2 _ _ at2
  replace at3003 := le68.2 _ _ at3003
  replace at_L8 := le68.2 _ _ at_L8
  replace lv_v8 := Keep.le lv_v8 le68
  replace v8 := bs_v8.keep lv_v8 (Nat.le_refl _)
  have lt_at68 := GHeap.lt_of_get at68
  replace hin := base_hin.mono hle
  replace hc := base_hc.mono hle
  clear hb2 fsh2 c52 c62 i12 i22 hm2 hi2 hmsh2 hish2
  have hb2 : SFun.At _ g2 0 f p := ⟨Mem.of_get at2, hin⟩
  obtain ⟨fsh2, c52, c62, i12, i22⟩ := hb2.get
  have hm2 : MemN _ _ _ _ _ := ⟨rfl, hb2.1⟩
  have hi2 := hb2.2
  have hmsh2 : MemN _ _ _ _ _ := ⟨rfl, fsh2.1⟩
  have hish2 := fsh2.2
  clear mm3003
  have mm3003 : MemN _ _ _ _ _ := ⟨rfl, Mem.of_get at3003⟩
  clear hb7 c07 c17 c27 c37 c47 i17 i27 i37 i47 hm7 hi7
  have hb7 : Cat.At _ g7 0 f.sh p.sh := ⟨Mem.of_get at3003, hc⟩
  obtain ⟨c07, c17, c27, c37, c47, i17, i27, i37, i47⟩ := hb7.get
  have hm7 : MemN _ _ _ _ _ := ⟨rfl, hb7.1⟩
  have hi7 := hb7.2
  clear i8
  have i8 := v8.intss
  refine .m rfl rfl rfl (.assign rfl) (.nil ?_)
  refine hK27 _ _ ?_
  refine .seq (fun K28 hK28 => ?_)
  refine .seq (fun K29 hK29 => ?_)
  refine .region (.m rfl rfl rfl (.assign rfl) (.nil ?_))
  refine hK29 _ _ ?_
  refine .block ?_
  refine .loopR (σ := Nat × (Nat → Option Addr) × Nat × Nat) [(2, some _), (7, some _), (8, some _)] (fun (j, r4, gL13, nL13) => [(14, some (.int .i64 (j : Int))), (13, some (.slice (some ⟨gL13, 0, none⟩) nL13 nL13))]) (fun (j, r4, gL13, nL13) H' => St [g68] H68 H' ∧ H'.get gL13 = some (.row ((slsL r4 (glS f y j 0 0))) 22 true) ∧ PL gL13 g68 H68.next ∧ nL13 = (slsL r4 (glS f y j 0 0)).length ∧ j ≤ (glE f y).length ∧ OwnL H.next H' 2 r4 (glS f y j 0 0)) (fun (j, r4, gL13, nL13) => (glE f y).length - j) ((0, fun _ => none, _, _)) ⟨rfl, rfl, rfl, trivial⟩ ⟨rfl, rfl, trivial⟩ ?_ ?_
  ·
   refine ⟨.refl _ _, by first | assumption | exact at68 | simpa using at68, ⟨.inl rfl⟩, by first | rfl | assumption | simp | omega, ?_⟩
   exact ⟨by omega, .nil _ _ _ _⟩
  rintro ⟨j, r4, gL13, nL13⟩ HL4 ⟨lst4, at_L13, pl_L13, ln_L13, hI⟩ KL4 hKL4
  refine .forget (fr' := [(14, some (.int .i64 (j : Int))), (13, some (.slice (some ⟨gL13, 0, none⟩) nL13 nL13)), (2, some _), (7, some _), (8, some _)]) ⟨rfl, rfl, rfl, rfl, rfl, trivial⟩ ?_
  have ge_L13 : H.next ≤ gL13 := pl_L13.ge (by omega) (by omega)
  have nx_HL4 := lst4.nx
  replace hle := hle.st lst4 (fun k hk => ⟨by omega, trivial⟩)
  replace lst1 := lst1.st lst4 (fun k hk ho => by simp only [out, and_true] at ho ⊢ <;> first | omega | (first | exact ho | exact ho.1 | exact ho.2 | exact ho.2.1 | exact ho.2.2 | exact ho.2.2.1 | exact ho.2.2.2))
  have ne_g2_g68 : g2 ≠ g68 := by omega
  replace at2 := lst4.same _ _ ⟨ne_g2_g68, trivial⟩ at2
  have ne_g7_g68 : g7 ≠ g68 := by omega
  replace at3003 := lst4.same _ _ ⟨ne_g7_g68, trivial⟩ at3003
  have ne_gL8_g68 : gL8 ≠ g68 := by omega
  replace at_L8 := lst4.same _ _ ⟨ne_gL8_g68, trivial⟩ at_L8
  replace lv_v8 := Keep.st lv_v8 lst4 (fun k hb hk => ⟨(by omega), trivial⟩)
  replace v8 := bs_v8.keep lv_v8 (Nat.le_refl _)
  have lt_at_L13 := GHeap.lt_of_get at_L13
  replace hin := base_hin.mono hle
  replace hc := base_hc.mono hle
  clear hb2 fsh2 c52 c62 i12 i22 hm2 hi2 hmsh2 hish2
  have hb2 : SFun.At _ g2 0 f p := ⟨Mem.of_get at2, hin⟩
  obtain ⟨fsh2, c52, c62, i12, i22⟩ := hb2.get
  have hm2 : MemN _ _ _ _ _ := ⟨rfl, hb2.1⟩
  have hi2 := hb2.2
  have hmsh2 : MemN _ _ _ _ _ := ⟨rfl, fsh2.1⟩
  have hish2 := fsh2.2
  clear mm3003
  have mm3003 : MemN _ _ _ _ _ := ⟨rfl, Mem.of_get at3003⟩
  clear hb7 c07 c17 c27 c37 c47 i17 i27 i37 i47 hm7 hi7
  have hb7 : Cat.At _ g7 0 f.sh p.sh := ⟨Mem.of_get at3003, hc⟩
  obtain ⟨c07, c17, c27, c37, c47, i17, i27, i37, i47⟩ := hb7.get
  have hm7 : MemN _ _ _ _ _ := ⟨rfl, hb7.1⟩
  have hi7 := hb7.2
  clear i8
  have i8 := v8.intss
  obtain ⟨hj, hR4⟩ := hI
  refine .seq (fun K30 hK30 => ?_)
  refine .seq (fun K31 hK31 => ?_)
  refine .region (.m rfl rfl rfl (.move rfl) (.m rfl rfl rfl (.move rfl) (.m rfl rfl rfl (.len sl_23_B rfl) ?_)))
  refine .m rfl rfl rfl (.cmp rfl rfl rfl) (.nil ?_)
  refine hK31 _ _ ?_
  refine .cond rfl (fun h72 => ?_) (fun h72 => ?_)
  ·
   simp only [sps] at h72
   have hE3 := (hK.ok _ (getD_mem_list (d := []) (show j < (glE f y).length by omega))).1
   have hE4 := (hK.ok _ (getD_mem_list (d := []) (show j < (glE f y).length by omega))).2
   have hx0 := hE4 0 (by omega)
   have hx1 := hE4 2 (by omega)
   obtain ⟨xx, dd, hh, x1, x2, x3, x4⟩ := glE_get (show j < (glE f y).length by omega)
   have hx1e : ((glE f y).getD j []).getD 2 0 = hh := by rw [x4]; rfl
   have u1 := i8.2 j (by omega)
   refine .skip ?_
   refine hK30 _ _ ?_
   refine .seq (fun K32 hK32 => ?_)
   refine .block ?_
   refine .seq (fun K33 hK33 => ?_)
   refine .regionD mixed_orders_B (.q 0 (.q 1 (.q 2 (.q 3 (.q 4 (.q 5 (.q 6 (.q 7 (.q 8 (.q 9 (.q 10 (.q 11 (.q 12 (.q 13 (.q 14 (.q 15 (.q 16 (.q 17 (.q 18 (.q 19 (.q 20 (.done)))))))))))))))))))))) (by kernel_rfl) ?_
   refine .m rfl rfl rfl rfl (.refl _) (.move rfl) (.m rfl rfl rfl rfl (.refl _) (.move rfl) ?_)
   refine .m rfl rfl rfl rfl (.refl _) (.idxN sl_23_B (by first | exact (Intss.sl (by assumption)) | exact SlA.of_row at_L8 (by first | rfl | (simp; done) | (simp <;> omega))) rfl rfl (by omega)) ?_
   refine .m rfl rfl rfl rfl (.refl _) (.loadR on_22_B (by assumption) rfl (by omega)) ?_
   refine .m rfl rfl rfl rfl (.refl _) (.idxN (j := 0) sl_22_A (by assumption) rfl rfl (by omega)) ?_
   refine .m rfl rfl rfl rfl (.refl _) (.loadI on_2_A (by assumption) rfl (by omega)) ?_
   refine .m rfl rfl rfl rfl (.refl _) (.move rfl) (.m rfl rfl rfl rfl (.refl _) (.move rfl) ?_)
   refine .m rfl rfl rfl rfl (.refl _) (.idxN sl_23_B (by first | exact (Intss.sl (by assumption)) | exact SlA.of_row at_L8 (by first | rfl | (simp; done) | (simp <;> omega))) rfl rfl (by omega)) ?_
   refine .m rfl rfl rfl rfl (.refl _) (.loadR on_22_B (by assumption) rfl (by omega)) ?_
   refine .m rfl rfl rfl rfl (.refl _) (.idxN (j := 1) sl_22_A (by assumption) rfl rfl (by omega)) ?_
   refine .m rfl rfl rfl rfl (.refl _) (.loadI on_2_A (by assumption) rfl (by omega)) ?_
   refine .m rfl rfl rfl rfl (.refl _) (.move rfl) (.m rfl rfl rfl rfl (.refl _) (.move rfl) ?_)
   refine .m rfl rfl rfl rfl (.refl _) (.idxN sl_23_B (by first | exact (Intss.sl (by assumption)) | exact SlA.of_row at_L8 (by first | rfl | (simp; done) | (simp <;> omega))) rfl rfl (by omega)) ?_
   refine .m rfl rfl rfl rfl (.refl _) (.loadR on_22_B (by assumption) rfl (by omega)) ?_
   refine .m rfl rfl rfl rfl (.refl _) (.idxN (j := 2) sl_22_A (by assumption) rfl rfl (by omega)) ?_
   refine .m rfl rfl rfl rfl (.refl _) (.loadI on_2_A (by assumption) rfl (by omega)) ?_
   refine .m rfl rfl rfl rfl (.refl _) (.assign rfl) (.m rfl rfl rfl rfl (.refl _) (.assign rfl) (.m rfl rfl rfl rfl (.refl _) (.assign rfl) ?_))
   refine .done ?_
   refine hK33 _ _ ?_
   refine .seq (fun K34 hK34 => ?_)
   refine .region (.m rfl rfl rfl (.assign rfl) (.nil ?_))
   refine hK34 _ _ ?_
   refine .block ?_
   refine .loopR (σ := Nat × (Nat → Option Addr) × Nat × Nat) [(2, some _), (7, some _), (8, some _), (14, some _), (15, some _), (16, some _), (17, some _)] (fun (a, r5, gL13v5, nL13v5) => [(18, some (.int .i64 (a : Int))), (13, some (.slice (some ⟨gL13v5, 0, none⟩) nL13v5 nL13v5))]) (fun (a, r5, gL13v5, nL13v5) H' => St [gL13] HL4 H' ∧ H'.get gL13v5 = some (.row ((slsL r5 (glS f y j a 0))) 22 true) ∧ PL gL13v5 gL13 HL4.next ∧ nL13v5 = (slsL r5 (glS f y j a 0)).length ∧ a ≤ f.sh.src.length ∧ OwnL H.next H' 2 r5 (glS f y j a 0)) (fun (a, r5, gL13v5, nL13v5) => f.sh.src.length - a) ((0, r4, _, _)) ⟨rfl, rfl, rfl, rfl, rfl, rfl, rfl, trivial⟩ ⟨rfl, rfl, trivial⟩ ?_ ?_
   ·
    refine ⟨.refl _ _, by first | assumption | exact at_L13 | simpa using at_L13, ⟨.inl rfl⟩, by first | rfl | assumption | simp | omega, ?_⟩
    exact ⟨by omega, hR4⟩
   rintro ⟨a, r5, gL13v5, nL13v5⟩ HL5 ⟨lst5, at_L13v5, pl_L13v5, ln_L13v5, hI⟩ KL5 hKL5
   refine .forget (fr' := [(18, some (.int .i64 (a : Int))), (13, some (.slice (some ⟨gL13v5, 0, none⟩) nL13v5 nL13v5)), (2, some _), (7, some _), (8, some _), (14, some _), (15, some _), (16, some _), (17, some _)]) ⟨rfl, rfl, rfl, rfl, rfl, rfl, rfl, rfl, rfl, trivial⟩ ?_
   have ge_L13v5 : H.next ≤ gL13v5 := pl_L13v5.ge (by omega) (by omega)
   have nx_HL5 := lst5.nx
   replace hle := hle.st lst5 (fun k hk => ⟨by omega, trivial⟩)
   replace lst1 := lst1.st lst5 (fun k hk ho => by simp only [out, and_true] at ho ⊢ <;> first | omega | (first | exact ho | exact ho.1 | exact ho.2 | exact ho.2.1 | exact ho.2.2 | exact ho.2.2.1 | exact ho.2.2.2 | exact pl_L13.ne (by first | omega | (first | exact ho | exact ho.1 | exact ho.2 | exact ho.2.1 | exact ho.2.2 | exact ho.2.2.1 | exact ho.2.2.2)) (by omega)))
   replace lst4 := lst4.st lst5 (fun k hk ho => by simp only [out, and_true] at ho ⊢ <;> first | omega | (first | exact ho | exact ho.1 | exact ho.2 | exact ho.2.1 | exact ho.2.2 | exact ho.2.2.1 | exact ho.2.2.2 | exact pl_L13.ne (by first | omega | (first | exact ho | exact ho.1 | exact ho.2 | exact ho.2.1 | exact ho.2.2 | exact ho.2.2.1 | exact ho.2.2.2)) (by omega)))
   have ne_g2_gL13 : g2 ≠ gL13 := pl_L13.ne ne_g2_g68 (by omega)
   replace at2 := lst5.same _ _ ⟨ne_g2_gL13, trivial⟩ at2
   have ne_g7_gL13 : g7 ≠ gL13 := pl_L13.ne ne_g7_g68 (by omega)
   replace at3003 := lst5.same _ _ ⟨ne_g7_gL13, trivial⟩ at3003
   have ne_gL8_gL13 : gL8 ≠ gL13 := pl_L13.ne ne_gL8_g68 (by omega)
   replace at_L8 := lst5.same _ _ ⟨ne_gL8_gL13, trivial⟩ at_L8
   replace lv_v8 := Keep.st lv_v8 lst5 (fun k hb hk => ⟨(by first | omega | exact pl_L13.ne (by omega) (by omega)), trivial⟩)
   replace v8 := bs_v8.keep lv_v8 (Nat.le_refl _)
   have lt_at_L13v5 := GHeap.lt_of_get at_L13v5
   replace hin := base_hin.mono hle
   replace hc := base_hc.mono hle
   clear hb2 fsh2 c52 c62 i12 i22 hm2 hi2 hmsh2 hish2
   have hb2 : SFun.At _ g2 0 f p := ⟨Mem.of_get at2, hin⟩
   obtain ⟨fsh2, c52, c62, i12, i22⟩ := hb2.get
   have hm2 : MemN _ _ _ _ _ := ⟨rfl, hb2.1⟩
   have hi2 := hb2.2
   have hmsh2 : MemN _ _ _ _ _ := ⟨rfl, fsh2.1⟩
   have hish2 := fsh2.2
   clear mm3003
   have mm3003 : MemN _ _ _ _ _ := ⟨rfl, Mem.of_get at3003⟩
   clear hb7 c07 c17 c27 c37 c47 i17 i27 i37 i47 hm7 hi7
   have hb7 : Cat.At _ g7 0 f.sh p.sh := ⟨Mem.of_get at3003, hc⟩
   obtain ⟨c07, c17, c27, c37, c47, i17, i27, i37, i47⟩ := hb7.get
   have hm7 : MemN _ _ _ _ _ := ⟨rfl, hb7.1⟩
   have hi7 := hb7.2
   clear i8
   have i8 := v8.intss
   clear u1
   have u1 := i8.2 j (by omega)
   obtain ⟨ha, hR5⟩ := hI
   refine .seq (fun K35 hK35 => ?_)
   refine .seq (fun K36 hK36 => ?_)
   refine .region (.m rfl rfl rfl (.move rfl) (.m rfl rfl rfl (.fieldAddr fo_27_1_B rfl) ?_))
   refine .m rfl rfl rfl (.load on_22_B rfl (by first | assumption | exact Mem.of_get at3003 1 _ rfl)) ?_
   refine .m rfl rfl rfl (.len sl_22_A rfl) (.m rfl rfl rfl (.cmp rfl rfl rfl) (.nil ?_))
   refine hK36 _ _ ?_
   refine .cond rfl (fun h97 => ?_) (fun h97 => ?_)
   ·
    simp only [sps] at h97
    have hal : a < f.sh.src.length := by omega
    obtain ⟨a0, a1, a2, a3, a4, a5, a6, a9⟩ := hf.arrow (y := y) hal
    refine .skip ?_
    refine hK35 _ _ ?_
    refine .seq (fun K37 hK37 => ?_)
    refine .block ?_
    refine .seq (fun K38 hK38 => ?_)
    refine .region (.m rfl rfl rfl (.assign rfl) (.nil ?_))
    refine hK38 _ _ ?_
    refine .block ?_
    refine .loopR (σ := Nat × (Nat → Option Addr) × Nat × Nat) [(2, some _), (7, some _), (8, some _), (14, some _), (15, some _), (16, some _), (17, some _), (18, some _)] (fun (e, r6, gL13v6, nL13v6) => [(19, some (.int .i64 (e : Int))), (13, some (.slice (some ⟨gL13v6, 0, none⟩) nL13v6 nL13v6))]) (fun (e, r6, gL13v6, nL13v6) H' => St [gL13v5] HL5 H' ∧ H'.get gL13v6 = some (.row ((slsL r6 (glS f y j a e))) 22 true) ∧ PL gL13v6 gL13v5 HL5.next ∧ nL13v6 = (slsL r6 (glS f y j a e)).length ∧ e ≤ glSz f y j a ∧ OwnL H.next H' 2 r6 (glS f y j a e)) (fun (e, r6, gL13v6, nL13v6) => glSz f y j a - e) ((0, r5, _, _)) ⟨rfl, rfl, rfl, rfl, rfl, rfl, rfl, rfl, trivial⟩ ⟨rfl, rfl, trivial⟩ ?_ ?_
    ·
     refine ⟨.refl _ _, by first | assumption | exact at_L13v5 | simpa using at_L13v5, ⟨.inl rfl⟩, by first | rfl | assumption | simp | omega, ?_⟩
     exact ⟨by omega, hR5⟩
    rintro ⟨e, r6, gL13v6, nL13v6⟩ HL6 ⟨lst6, at_L13v6, pl_L13v6, ln_L13v6, hI⟩ KL6 hKL6
    refine .forget (fr' := [(19, some (.int .i64 (e : Int))), (13, some (.slice (some ⟨gL13v6, 0, none⟩) nL13v6 nL13v6)), (2, some _), (7, some _), (8, some _), (14, some _), (15, some _), (16, some _), (17, some _), (18, some _)]) ⟨rfl, rfl, rfl, rfl, rfl, rfl, rfl, rfl, rfl, rfl, trivial⟩ ?_
    have ge_L13v6 : H.next ≤ gL13v6 := pl_L13v6.ge (by omega) (by omega)
    have nx_HL6 := lst6.nx
    replace hle := hle.st lst6 (fun k hk => ⟨by omega, trivial⟩)
    replace lst1 := lst1.st lst6 (fun k hk ho => by simp only [out, and_true] at ho ⊢ <;> first | omega | (first | exact ho | exact ho.1 | exact ho.2 | exact ho.2.1 | exact ho.2.2 | exact ho.2.2.1 | exact ho.2.2.2 | exact pl_L13v5.ne (by first | omega | (first | exact ho | exact ho.1 | exact ho.2 | exact ho.2.1 | exact ho.2.2 | exact ho.2.2.1 | exact ho.2.2.2 | exact pl_L13.ne (by first | omega | (first | exact ho | exact ho.1 | exact ho.2 | exact ho.2.1 | exact ho.2.2 | exact ho.2.2.1 | exact ho.2.2.2)) (by omega))) (by omega)))
    replace lst4 := lst4.st lst6 (fun k hk ho => by simp only [out, and_true] at ho ⊢ <;> first | omega | (first | exact ho | exact ho.1 | exact ho.2 | exact ho.2.1 | exact ho.2.2 | exact ho.2.2.1 | exact ho.2.2.2 | exact pl_L13v5.ne (by first | omega | (first | exact ho | exact ho.1 | exact ho.2 | exact ho.2.1 | exact ho.2.2 | exact ho.2.2.1 | exact ho.2.2.2 | exact pl_L13.ne (by first | omega | (first | exact ho | exact ho.1 | exact ho.2 | exact ho.2.1 | exact ho.2.2 | exact ho.2.2.1 | exact ho.2.2.2)) (by omega))) (by omega)))
    replace lst5 := lst5.st lst6 (fun k hk ho => by simp only [out, and_true] at ho ⊢ <;> first | omega | (first | exact ho | exact ho.1 | exact ho.2 | exact ho.2.1 | exact ho.2.2 | exact ho.2.2.1 | exact ho.2.2.2 | exact pl_L13v5.ne (by first | omega | (first | exact ho | exact ho.1 | exact ho.2 | exact ho.2.1 | exact ho.2.2 | exact ho.2.2.1 | exact ho.2.2.2 | exact pl_L13.ne (by first | omega | (first | exact ho | exact ho.1 | exact ho.2 | exact ho.2.1 | exact ho.2.2 | exact ho.2.2.1 | exact ho.2.2.2)) (by omega))) (by omega)))
    have ne_g2_gL13v5 : g2 ≠ gL13v5 := pl_L13v5.ne ne_g2_gL13 (by omega)
    replace at2 := lst6.same _ _ ⟨ne_g2_gL13v5, trivial⟩ at2
    have ne_g7_gL13v5 : g7 ≠ gL13v5 := pl_L13v5.ne ne_g7_gL13 (by omega)
    replace at3003 := lst6.same _ _ ⟨ne_g7_gL13v5, trivial⟩ at3003
    have ne_gL8_gL13v5 : gL8 ≠ gL13v5 := pl_L13v5.ne ne_gL8_gL13 (by omega)
    replace at_L8 := lst6.same _ _ ⟨ne_gL8_gL13v5, trivial⟩ at_L8
    replace lv_v8 := Keep.st lv_v8 lst6 (fun k hb hk => ⟨(by first | omega | exact pl_L13v5.ne (by first | omega | exact pl_L13.ne (by omega) (by omega)) (by omega)), trivial⟩)
    replace v8 := bs_v8.keep lv_v8 (Nat.le_refl _)
    have lt_at_L13v6 := GHeap.lt_of_get at_L13v6
    replace hin := base_hin.mono hle
    replace hc := base_hc.mono hle
    clear hb2 fsh2 c52 c62 i12 i22 hm2 hi2 hmsh2 hish2
    have hb2 : SFun.At _ g2 0 f p := ⟨Mem.of_get at2, hin⟩
    obtain ⟨fsh2, c52, c62, i12, i22⟩ := hb2.get
    have hm2 : MemN _ _ _ _ _ := ⟨rfl, hb2.1⟩
    have hi2 := hb2.2
    have hmsh2 : MemN _ _ _ _ _ := ⟨rfl, fsh2.1⟩
    have hish2 := fsh2.2
    clear mm3003
    have mm3003 : MemN _ _ _ _ _ := ⟨rfl, Mem.of_get at3003⟩
    clear hb7 c07 c17 c27 c37 c47 i17 i27 i37 i47 hm7 hi7
    have hb7 : Cat.At _ g7 0 f.sh p.sh := ⟨Mem.of_get at3003, hc⟩
    obtain ⟨c07, c17, c27, c37, c47, i17, i27, i37, i47⟩ := hb7.get
    have hm7 : MemN _ _ _ _ _ := ⟨rfl, hb7.1⟩
    have hi7 := hb7.2
    clear i8
    have i8 := v8.intss
    clear u1
    have u1 := i8.2 j (by omega)
    have rk := St.refl [gL13v6] HL6
    obtain ⟨he, hR6⟩ := hI
    have hat13 := at_L13v6
    have hln := glS_le (y := y) hf hL (j := j) (a := a) (e := e) (by omega) (by omega) he
    have hfl : (slsL r6 (glS f y j a e)).length = (glS f y j a e).length := length_slsL _ _
    refine .seq (fun K39 hK39 => ?_)
    refine .seq (fun K40 hK40 => ?_)
    refine .regionD mixed_orders_B (.q 0 (.q 1 (.q 2 (.q 3 (.q 4 (.q 5 (.q 6 (.q 7 (.q 8 (.q 9 (.q 10 (.q 11 (.q 12 (.q 13 (.q 14 (.q 15 (.q 16 (.q 17 (.q 18 (.q 19 (.done))))))))))))))))))))) (by kernel_rfl) ?_
    refine .m rfl rfl rfl rfl (.refl _) (.fieldAddr fo_27_2_B rfl) ?_
    refine .m rfl rfl rfl rfl (.refl _) (.load on_22_B rfl (by first | assumption | exact Mem.of_get at3003 2 _ rfl)) ?_
    refine .m rfl rfl rfl rfl (.refl _) (.move rfl) ?_
    refine .m rfl rfl rfl rfl (.refl _) (.idxN sl_22_A (by assumption) rfl rfl (by omega)) ?_
    refine .m rfl rfl rfl rfl (.refl _) (.loadI on_2_A (by assumption) rfl (by omega)) ?_
    refine .m rfl rfl rfl rfl (.refl _) (.move rfl) (.m rfl rfl rfl rfl (.refl _) (.cmp rfl rfl rfl) (.m rfl rfl rfl rfl (.refl _) (.move rfl) ?_))
    refine .split (fun h107 => ?_) (fun h107 => ?_)
    ·
     simp only [sps] at h107
     have hsz : glSz f y j a = (f.sz.getD (f.sh.src.getD a 0).toNat 0).toNat := if_pos h107
     refine .mg rfl rfl rfl rfl rfl rfl (.refl _) (.move rfl) (.mg rfl rfl rfl rfl rfl rfl (.refl _) (.fieldAddr fo_65_1_P rfl) ?_)
     refine .mg rfl rfl rfl rfl rfl rfl (.refl _) (.load on_22_B rfl (by first | assumption | exact Mem.of_get at2 5 _ rfl)) ?_
     refine .mg rfl rfl rfl rfl rfl rfl (.refl _) (.fieldAddr fo_27_1_B rfl) ?_
     refine .mg rfl rfl rfl rfl rfl rfl (.refl _) (.load on_22_B rfl (by first | assumption | exact Mem.of_get at3003 1 _ rfl)) ?_
     refine .mg rfl rfl rfl rfl rfl rfl (.refl _) (.move rfl) ?_
     refine .mg rfl rfl rfl rfl rfl rfl (.refl _) (.idxN sl_22_A (by assumption) rfl rfl (by omega)) ?_
     refine .mg rfl rfl rfl rfl rfl rfl (.refl _) (.loadI on_2_A (by assumption) rfl (by omega)) ?_
     refine .mg rfl rfl rfl rfl rfl rfl (.refl _) (.idx1 sl_22_A (by assumption) rfl rfl (by omega) (by omega)) ?_
     refine .mg rfl rfl rfl rfl rfl rfl (.refl _) (.loadI on_2_A (by assumption) rfl (by omega)) ?_
     refine .mg rfl rfl rfl rfl rfl rfl (.refl _) (.cmp rfl rfl rfl) (.m rfl rfl rfl rfl (.refl _) (.pickT rfl rfl) ?_)
     refine .done ?_
     refine hK40 _ _ ?_
     refine .cond rfl (fun h119 => ?_) (fun h119 => ?_)
     ·
      simp only [sps] at h119
      have hth := a9 hh (by rw [h107, x4]; exact x2)
      have he2 : e < (f.ac.getD a []).length := by omega
      have a10 := a6 e he2
      have u2 := i22.2 a (by omega)
      refine .skip ?_
      refine hK39 _ _ ?_
      refine .seq (fun K41 hK41 => ?_)
      refine .block ?_
      refine .seq (fun K42 hK42 => ?_)
      refine .region (.m rfl rfl rfl (.fieldAddr fo_65_2_P rfl) ?_)
      refine .m rfl rfl rfl (.load on_23_B rfl (by first | assumption | exact Mem.of_get at2 6 _ rfl)) ?_
      refine .m rfl rfl rfl (.move rfl) ?_
      refine .m rfl rfl rfl (.idxN sl_23_B (Intss.sl (by assumption)) rfl rfl (by omega)) ?_
      refine .m rfl rfl rfl (.loadR on_22_B (by assumption) rfl (by omega)) ?_
      refine .m rfl rfl rfl (.move rfl) ?_
      refine .m rfl rfl rfl (.idxN sl_22_A (by assumption) rfl rfl (by omega)) ?_
      refine .m rfl rfl rfl (.loadI on_2_A (by assumption) rfl (by omega)) ?_
      refine .m rfl rfl rfl (.move rfl) (.m rfl rfl rfl (.cmp rfl rfl rfl) (.nil ?_))
      refine hK42 _ _ ?_
      refine .cond rfl (fun h131 => ?_) (fun h131 => ?_)
      ·
       simp only [sps] at h131
       refine .regionD mixed_orders_B (.q 0 (.q 1 (.q 2 (.q 3 (.q 4 (.q 5 (.q 6 (.q 7 (.q 8 (.q 9 (.q 10 (.q 14 (.c 11 1 (.c 12 1 (.c 13 1 (.c 15 1 (.c 16 1 (.c 17 0 (.c 18 0 (.done)))))))))))))))))))) (by kernel_rfl) ?_
       refine .m rfl rfl rfl rfl (.refl _) (.move rfl) (.m rfl rfl rfl rfl (.refl _) (.move rfl) (.m rfl rfl rfl rfl (.refl _) (.fieldAddr fo_27_1_B rfl) ?_))
       refine .m rfl rfl rfl rfl (.refl _) (.load on_22_B rfl (by first | assumption | exact Mem.of_get at3003 1 _ rfl)) ?_
       refine .m rfl rfl rfl rfl (.refl _) (.move rfl) ?_
       refine .m rfl rfl rfl rfl (.refl _) (.idxN sl_22_A (by assumption) rfl rfl (by omega)) ?_
       refine .m rfl rfl rfl rfl (.refl _) (.loadI on_2_A (by assumption) rfl (by omega)) ?_
       refine .m rfl rfl rfl rfl (.refl _) (.move rfl) ?_
       refine .m rfl rfl rfl rfl (.refl _) (.loadM ag_27_D rfl ⟨rfl, Mem.of_get at3003⟩) ?_
       refine .m rfl rfl rfl rfl (.refl _) (.move rfl) (.m rfl rfl rfl rfl (.refl _) (.move rfl) (.m rfl rfl rfl rfl (.refl _) (.move rfl) ?_))
       refine .callQ1 rfl rfl rfl rfl rfl @Try.call88 rfl (l02Then_c) (.refl _) ?_
       refine .c1 rfl rfl rfl rfl (.litR rfl sl_22_A ze_2_E rfl rfl (by omega) (by omega) rfl rfl) ?_
       rintro _ H144 ⟨g144, rfl, le144, ge144, at144⟩
       have hbl := le144
       refine ⟨hbl, ?_⟩
       have nx_H144 := le144.1
       replace hle := hle.trans le144
       replace lst1 := lst1.le le144
       replace lst4 := lst4.le le144
       replace lst5 := lst5.le le144
       replace lst6 := lst6.le le144
       replace rk := rk.le le144
       replace at2 := le144.2 _ _ at2
       replace at3003 := le144.2 _ _ at3003
       replace at_L8 := le144.2 _ _ at_L8
       replace at_L13v6 := le144.2 _ _ at_L13v6
       replace lv_v8 := Keep.le lv_v8 le144
       replace v8 := bs_v8.keep lv_v8 (Nat.le_refl _)
       have lt_at144 := GHeap.lt_of_get at144
       replace hin := base_hin.mono hle
       replace hc := base_hc.mono hle
       clear hb2 fsh2 c52 c62 i12 i22 hm2 hi2 hmsh2 hish2
       have hb2 : SFun.At _ g2 0 f p := ⟨Mem.of_get at2, hin⟩
       obtain ⟨fsh2, c52, c62, i12, i22⟩ := hb2.get
       have hm2 : MemN _ _ _ _ _ := ⟨rfl, hb2.1⟩
       have hi2 := hb2.2
       have hmsh2 : MemN _ _ _ _ _ := ⟨rfl, fsh2.1⟩
       have hish2 := fsh2.2
       clear mm3003
       have mm3003 : MemN _ _ _ _ _ := ⟨rfl, Mem.of_get at3003⟩
       clear hb7 c07 c17 c27 c37 c47 i17 i27 i37 i47 hm7 hi7
       have hb7 : Cat.At _ g7 0 f.sh p.sh := ⟨Mem.of_get at3003, hc⟩
       obtain ⟨c07, c17, c27, c37, c47, i17, i27, i37, i47⟩ := hb7.get
       have hm7 : MemN _ _ _ _ _ := ⟨rfl, hb7.1⟩
       have hi7 := hb7.2
       clear i8
       have i8 := v8.intss
       clear u1
       have u1 := i8.2 j (by omega)
       clear u2
       have u2 := i22.2 a (by omega)
       refine .callQ1 rfl rfl rfl rfl rfl @Try.call87 rfl (l05Place_c i8 (Ints.of_get (xs := glT f a e (((glE f y).getD j []).getD 2 0)) at144) (by omega) (fun i => by have := hl3 i; omega) (by show 3 ≤ 1048576; omega)) hbl ?_
       refine .c1 rfl rfl rfl rfl (.litR rfl sl_22_A ze_2_E rfl rfl (by omega) (by omega) rfl rfl) ?_
       rintro _ H147 ⟨g147, rfl, le147, ge147, at147⟩
       replace hbl := hbl.trans le147
       refine ⟨hbl, ?_⟩
       have nx_H147 := le147.1
       replace hle := hle.trans le147
       replace lst1 := lst1.le le147
       replace lst4 := lst4.le le147
       replace lst5 := lst5.le le147
       replace lst6 := lst6.le le147
       replace rk := rk.le le147
       replace at2 := le147.2 _ _ at2
       replace at3003 := le147.2 _ _ at3003
       replace at_L8 := le147.2 _ _ at_L8
       replace at_L13v6 := le147.2 _ _ at_L13v6
       replace at144 := le147.2 _ _ at144
       replace lv_v8 := Keep.le lv_v8 le147
       replace v8 := bs_v8.keep lv_v8 (Nat.le_refl _)
       have lt_at147 := GHeap.lt_of_get at147
       replace hin := base_hin.mono hle
       replace hc := base_hc.mono hle
       clear hb2 fsh2 c52 c62 i12 i22 hm2 hi2 hmsh2 hish2
       have hb2 : SFun.At _ g2 0 f p := ⟨Mem.of_get at2, hin⟩
       obtain ⟨fsh2, c52, c62, i12, i22⟩ := hb2.get
       have hm2 : MemN _ _ _ _ _ := ⟨rfl, hb2.1⟩
       have hi2 := hb2.2
       have hmsh2 : MemN _ _ _ _ _ := ⟨rfl, fsh2.1⟩
       have hish2 := fsh2.2
       clear mm3003
       have mm3003 : MemN _ _ _ _ _ := ⟨rfl, Mem.of_get at3003⟩
       clear hb7 c07 c17 c27 c37 c47 i17 i27 i37 i47 hm7 hi7
       have hb7 : Cat.At _ g7 0 f.sh p.sh := ⟨Mem.of_get at3003, hc⟩
       obtain ⟨c07, c17, c27, c37, c47, i17, i27, i37, i47⟩ := hb7.get
       have hm7 : MemN _ _ _ _ _ := ⟨rfl, hb7.1⟩
       have hi7 := hb7.2
       clear i8
       have i8 := v8.intss
       clear u1
       have u1 := i8.2 j (by omega)
       clear u2
       have u2 := i22.2 a (by omega)
       refine .c1 rfl rfl rfl rfl (.litR rfl sl_23_B ze_22_E rfl rfl (by omega) (by omega) rfl rfl) ?_
       rintro _ H148 ⟨g148, rfl, le148, ge148, at148⟩
       replace hbl := hbl.trans le148
       refine ⟨hbl, ?_⟩
       have nx_H148 := le148.1
       replace hle := hle.trans le148
       replace lst1 := lst1.le le148
       replace lst4 := lst4.le le148
       replace lst5 := lst5.le le148
       replace lst6 := lst6.le le148
       replace rk := rk.le le148
       replace at2 := le148.2 _ _ at2
       replace at3003 := le148.2 _ _ at3003
       replace at_L8 := le148.2 _ _ at_L8
       replace at_L13v6 := le148.2 _ _ at_L13v6
       replace at144 := le148.2 _ _ at144
       replace at147 := le148.2 _ _ at147
       replace lv_v8 := Keep.le lv_v8 le148
       replace v8 := bs_v8.keep lv_v8 (Nat.le_refl _)
       have lt_at148 := GHeap.lt_of_get at148
       replace hin := base_hin.mono hle
       replace hc := base_hc.mono hle
       clear hb2 fsh2 c52 c62 i12 i22 hm2 hi2 hmsh2 hish2
       have hb2 : SFun.At _ g2 0 f p := ⟨Mem.of_get at2, hin⟩
       obtain ⟨fsh2, c52, c62, i12, i22⟩ := hb2.get
       have hm2 : MemN _ _ _ _ _ := ⟨rfl, hb2.1⟩
       have hi2 := hb2.2
       have hmsh2 : MemN _ _ _ _ _ := ⟨rfl, fsh2.1⟩
       have hish2 := fsh2.2
       clear mm3003
       have mm3003 : MemN _ _ _ _ _ := ⟨rfl, Mem.of_get at3003⟩
       clear hb7 c07 c17 c27 c37 c47 i17 i27 i37 i47 hm7 hi7
       have hb7 : Cat.At _ g7 0 f.sh p.sh := ⟨Mem.of_get at3003, hc⟩
       obtain ⟨c07, c17, c27, c37, c47, i17, i27, i37, i47⟩ := hb7.get
       have hm7 : MemN _ _ _ _ _ := ⟨rfl, hb7.1⟩
       have hi7 := hb7.2
       clear i8
       have i8 := v8.intss
       clear u1
       have u1 := i8.2 j (by omega)
       clear u2
       have u2 := i22.2 a (by omega)
       refine .c0 rfl rfl rfl rfl (.appendV rfl sl_23_B ze_22_E rfl by_22_E sl_23_B rfl rfl (by assumption) (by assumption) (by first | omega | (simp <;> omega)) rfl rfl (by omega) (by omega)) ?_
       rintro _ H149 ⟨g149, rfl, st149, ge149, at149⟩
       have nx_H149 := st149.nx
       replace hle := hle.st st149 (fun k hk => ⟨by omega, trivial⟩)
       replace lst1 := lst1.st st149 (fun k hk ho => by simp only [out, and_true] at ho ⊢ <;> first | omega | (first | exact ho | exact ho.1 | exact ho.2 | exact ho.2.1 | exact ho.2.2 | exact ho.2.2.1 | exact ho.2.2.2 | exact pl_L13v6.ne (by first | omega | (first | exact ho | exact ho.1 | exact ho.2 | exact ho.2.1 | exact ho.2.2 | exact ho.2.2.1 | exact ho.2.2.2 | exact pl_L13v5.ne (by first | omega | (first | exact ho | exact ho.1 | exact ho.2 | exact ho.2.1 | exact ho.2.2 | exact ho.2.2.1 | exact ho.2.2.2 | exact pl_L13.ne (by first | omega | (first | exact ho | exact ho.1 | exact ho.2 | exact ho.2.1 | exact ho.2.2 | exact ho.2.2.1 | exact ho.2.2.2)) (by omega))) (by omega))) (by omega)))
       replace lst4 := lst4.st st149 (fun k hk ho => by simp only [out, and_true] at ho ⊢ <;> first | omega | (first | exact ho | exact ho.1 | exact ho.2 | exact ho.2.1 | exact ho.2.2 | exact ho.2.2.1 | exact ho.2.2.2 | exact pl_L13v6.ne (by first | omega | (first | exact ho | exact ho.1 | exact ho.2 | exact ho.2.1 | exact ho.2.2 | exact ho.2.2.1 | exact ho.2.2.2 | exact pl_L13v5.ne (by first | omega | (first | exact ho | exact ho.1 | exact ho.2 | exact ho.2.1 | exact ho.2.2 | exact ho.2.2.1 | exact ho.2.2.2 | exact pl_L13.ne (by first | omega | (first | exact ho | exact ho.1 | exact ho.2 | exact ho.2.1 | exact ho.2.2 | exact ho.2.2.1 | exact ho.2.2.2)) (by omega))) (by omega))) (by omega)))
       replace lst5 := lst5.st st149 (fun k hk ho => by simp only [out, and_true] at ho ⊢ <;> first | omega | (first | exact ho | exact ho.1 | exact ho.2 | exact ho.2.1 | exact ho.2.2 | exact ho.2.2.1 | exact ho.2.2.2 | exact pl_L13v6.ne (by first | omega | (first | exact ho | exact ho.1 | exact ho.2 | exact ho.2.1 | exact ho.2.2 | exact ho.2.2.1 | exact ho.2.2.2 | exact pl_L13v5.ne (by first | omega | (first | exact ho | exact ho.1 | exact ho.2 | exact ho.2.1 | exact ho.2.2 | exact ho.2.2.1 | exact ho.2.2.2 | exact pl_L13.ne (by first | omega | (first | exact ho | exact ho.1 | exact ho.2 | exact ho.2.1 | exact ho.2.2 | exact ho.2.2.1 | exact ho.2.2.2)) (by omega))) (by omega))) (by omega)))
       replace lst6 := lst6.st st149 (fun k hk ho => by simp only [out, and_true] at ho ⊢ <;> first | omega | (first | exact ho | exact ho.1 | exact ho.2 | exact ho.2.1 | exact ho.2.2 | exact ho.2.2.1 | exact ho.2.2.2 | exact pl_L13v6.ne (by first | omega | (first | exact ho | exact ho.1 | exact ho.2 | exact ho.2.1 | exact ho.2.2 | exact ho.2.2.1 | exact ho.2.2.2 | exact pl_L13v5.ne (by first | omega | (first | exact ho | exact ho.1 | exact ho.2 | exact ho.2.1 | exact ho.2.2 | exact ho.2.2.1 | exact ho.2.2.2 | exact pl_L13.ne (by first | omega | (first | exact ho | exact ho.1 | exact ho.2 | exact ho.2.1 | exact ho.2.2 | exact ho.2.2.1 | exact ho.2.2.2)) (by omega))) (by omega))) (by omega)))
       replace rk := rk.st st149 (fun k hk ho => by simp only [out, and_true] at ho ⊢ <;> first | omega | (first | exact ho | exact ho.1 | exact ho.2 | exact ho.2.1 | exact ho.2.2 | exact ho.2.2.1 | exact ho.2.2.2 | exact pl_L13v6.ne (by first | omega | (first | exact ho | exact ho.1 | exact ho.2 | exact ho.2.1 | exact ho.2.2 | exact ho.2.2.1 | exact ho.2.2.2 | exact pl_L13v5.ne (by first | omega | (first | exact ho | exact ho.1 | exact ho.2 | exact ho.2.1 | exact ho.2.2 | exact ho.2.2.1 | exact ho.2.2.2 | exact pl_L13.ne (by first | omega | (first | exact ho | exact ho.1 | exact ho.2 | exact ho.2.1 | exact ho.2.2 | exact ho.2.2.1 | exact ho.2.2.2)) (by omega))) (by omega))) (by omega)))
       have ne_g2_gL13v6 : g2 ≠ gL13v6 := pl_L13v6.ne ne_g2_gL13v5 (by omega)
       replace at2 := st149.same _ _ ⟨ne_g2_gL13v6, trivial⟩ at2
       have ne_g7_gL13v6 : g7 ≠ gL13v6 := pl_L13v6.ne ne_g7_gL13v5 (by omega)
       replace at3003 := st149.same _ _ ⟨ne_g7_gL13v6, trivial⟩ at3003
       have ne_gL8_gL13v6 : gL8 ≠ gL13v6 := pl_L13v6.ne ne_gL8_gL13v5 (by omega)
       replace at_L8 := st149.same _ _ ⟨ne_gL8_gL13v6, trivial⟩ at_L8
       have ne_g144_gL13v6 : g144 ≠ gL13v6 := by omega
       replace at144 := st149.same _ _ ⟨ne_g144_gL13v6, trivial⟩ at144
       have ne_g147_gL13v6 : g147 ≠ gL13v6 := by omega
       replace at147 := st149.same _ _ ⟨ne_g147_gL13v6, trivial⟩ at147
       have ne_g148_gL13v6 : g148 ≠ gL13v6 := by omega
       replace at148 := st149.same _ _ ⟨ne_g148_gL13v6, trivial⟩ at148
       replace lv_v8 := Keep.st lv_v8 st149 (fun k hb hk => ⟨(by first | omega | exact pl_L13v6.ne (by first | omega | exact pl_L13v5.ne (by first | omega | exact pl_L13.ne (by omega) (by omega)) (by omega)) (by omega)), trivial⟩)
       replace v8 := bs_v8.keep lv_v8 (Nat.le_refl _)
       have lt_at149 := GHeap.lt_of_get at149
       replace hin := base_hin.mono hle
       replace hc := base_hc.mono hle
       clear hb2 fsh2 c52 c62 i12 i22 hm2 hi2 hmsh2 hish2
       have hb2 : SFun.At _ g2 0 f p := ⟨Mem.of_get at2, hin⟩
       obtain ⟨fsh2, c52, c62, i12, i22⟩ := hb2.get
       have hm2 : MemN _ _ _ _ _ := ⟨rfl, hb2.1⟩
       have hi2 := hb2.2
       have hmsh2 : MemN _ _ _ _ _ := ⟨rfl, fsh2.1⟩
       have hish2 := fsh2.2
       clear mm3003
       have mm3003 : MemN _ _ _ _ _ := ⟨rfl, Mem.of_get at3003⟩
       clear hb7 c07 c17 c27 c37 c47 i17 i27 i37 i47 hm7 hi7
       have hb7 : Cat.At _ g7 0 f.sh p.sh := ⟨Mem.of_get at3003, hc⟩
       obtain ⟨c07, c17, c27, c37, c47, i17, i27, i37, i47⟩ := hb7.get
       have hm7 : MemN _ _ _ _ _ := ⟨rfl, hb7.1⟩
       have hi7 := hb7.2
       clear i8
       have i8 := v8.intss
       clear u1
       have u1 := i8.2 j (by omega)
       clear u2
       have u2 := i22.2 a (by omega)
       refine .d0 rfl rfl rfl rfl (.quiet (.assign rfl) CIs.mk) ?_
       refine .done ?_
       refine hK41 _ _ ?_
       refine .region (.m rfl rfl rfl (.move rfl) ?_)
       refine .m rfl rfl rfl (.add rfl rfl rfl (by omega) (by omega)) ?_
       refine .m rfl rfl rfl (.assign rfl) (.nil ?_)
       refine hKL6 ((e + 1, by first | exact (upd r6 (glS f y j a e).length (some ⟨g147, 0, none⟩)) | exact r6, _, _)) _ _ ?_ ?_ ⟨rfl, rfl, rfl, rfl, rfl, rfl, rfl, rfl, rfl, rfl, trivial⟩
       ·
        refine ⟨lst6, by first | assumption | (rw [glS_T h131, slsL_snoc]; assumption) | (rw [glS_F h131]; assumption), by first | assumption | exact ⟨.inr (by omega)⟩ | exact ⟨.inl rfl⟩, by first | omega | (simp only [List.length_append, List.length_cons, List.length_nil] <;> omega) | (rw [glS_T h131, slsL_snoc] <;> (first | omega | (simp only [List.length_append, List.length_cons, List.length_nil] <;> omega))) | (rw [glS_F h131] <;> (first | omega | (simp only [List.length_append, List.length_cons, List.length_nil] <;> omega))), ?_⟩
        exact ⟨by omega, by first | (rw [glS_T h131]; exact hR6.snoc (rk.lasts1 hat13 rfl) (by assumption) (by omega) (by omega)) | (rw [glS_F h131]; exact hR6)⟩
       (dsimp only; omega)
      simp only [sps] at h131
      refine .skip ?_
      refine hK41 _ _ ?_
      refine .region (.m rfl rfl rfl (.move rfl) ?_)
      refine .m rfl rfl rfl (.add rfl rfl rfl (by omega) (by omega)) ?_
      refine .m rfl rfl rfl (.assign rfl) (.nil ?_)
      refine hKL6 ((e + 1, by first | exact (upd r6 (glS f y j a e).length (some ⟨g147, 0, none⟩)) | exact r6, _, _)) _ _ ?_ ?_ ⟨rfl, rfl, rfl, rfl, rfl, rfl, rfl, rfl, rfl, rfl, trivial⟩
      ·
       refine ⟨lst6, by first | assumption | (rw [glS_T h131, slsL_snoc]; assumption) | (rw [glS_F h131]; assumption), by first | assumption | exact ⟨.inr (by omega)⟩ | exact ⟨.inl rfl⟩, by first | omega | (simp only [List.length_append, List.length_cons, List.length_nil] <;> omega) | (rw [glS_T h131, slsL_snoc] <;> (first | omega | (simp only [List.length_append, List.length_cons, List.length_nil] <;> omega))) | (rw [glS_F h131] <;> (first | omega | (simp only [List.length_append, List.length_cons, List.length_nil] <;> omega))), ?_⟩
       exact ⟨by omega, by first | (rw [glS_T h131]; exact hR6.snoc (rk.lasts1 hat13 rfl) (by assumption) (by omega) (by omega)) | (rw [glS_F h131]; exact hR6)⟩
      (dsimp only; omega)
     simp only [sps] at h119
     refine .exit ?_
     refine hK37 _ _ ?_
     refine .region (.m rfl rfl rfl (.move rfl) ?_)
     refine .m rfl rfl rfl (.add rfl rfl rfl (by omega) (by omega)) ?_
     refine .m rfl rfl rfl (.assign rfl) (.nil ?_)
     obtain rfl : e = glSz f y j a := by omega
     refine hKL5 ((a + 1, r6, _, _)) _ _ ?_ ?_ ⟨rfl, rfl, rfl, rfl, rfl, rfl, rfl, rfl, rfl, trivial⟩
     ·
      refine ⟨lst5, by first | assumption | (rw [glS_next2]; assumption), by first | assumption | exact pl_L13v6.trans pl_L13v5 (by omega) | exact ⟨.inr (by omega)⟩ | exact ⟨.inl rfl⟩, by first | omega | (simp only [List.length_append, List.length_cons, List.length_nil] <;> omega) | (rw [glS_next2] <;> (first | omega | (simp only [List.length_append, List.length_cons, List.length_nil] <;> omega))), ?_⟩
      exact ⟨by omega, by rw [glS_next2]; exact hR6⟩
     (dsimp only; omega)
    simp only [sps] at h107
    have hsz : glSz f y j a = 0 := if_neg h107
    refine .sg rfl rfl rfl rfl rfl rfl (.sg rfl rfl rfl rfl rfl rfl (.sg rfl rfl rfl rfl rfl rfl (.sg rfl rfl rfl rfl rfl rfl ?_)))
    refine .sg rfl rfl rfl rfl rfl rfl (.sg rfl rfl rfl rfl rfl rfl (.sg rfl rfl rfl rfl rfl rfl (.sg rfl rfl rfl rfl rfl rfl ?_)))
    refine .sg rfl rfl rfl rfl rfl rfl (.sg rfl rfl rfl rfl rfl rfl (.sg rfl rfl rfl rfl rfl rfl (.m rfl rfl rfl rfl (.refl _) (.pickF rfl rfl) ?_)))
    refine .done ?_
    refine hK40 _ _ ?_
    refine .condF rfl ?_
    refine .exit ?_
    refine hK37 _ _ ?_
    refine .region (.m rfl rfl rfl (.move rfl) ?_)
    refine .m rfl rfl rfl (.add rfl rfl rfl (by omega) (by omega)) ?_
    refine .m rfl rfl rfl (.assign rfl) (.nil ?_)
    obtain rfl : e = glSz f y j a := by omega
    refine hKL5 ((a + 1, r6, _, _)) _ _ ?_ ?_ ⟨rfl, rfl, rfl, rfl, rfl, rfl, rfl, rfl, rfl, trivial⟩
    ·
     refine ⟨lst5, by first | assumption | (rw [glS_next2]; assumption), by first | assumption | exact pl_L13v6.trans pl_L13v5 (by omega) | exact ⟨.inr (by omega)⟩ | exact ⟨.inl rfl⟩, by first | omega | (simp only [List.length_append, List.length_cons, List.length_nil] <;> omega) | (rw [glS_next2] <;> (first | omega | (simp only [List.length_append, List.length_cons, List.length_nil] <;> omega))), ?_⟩
     exact ⟨by omega, by rw [glS_next2]; exact hR6⟩
    (dsimp only; omega)
   try simp only [sps] at h97
   refine .exit ?_
   refine hK32 _ _ ?_
   refine .region (.m rfl rfl rfl (.move rfl) ?_)
   refine .m rfl rfl rfl (.add rfl rfl rfl (by omega) (by omega)) ?_
   refine .m rfl rfl rfl (.assign rfl) (.nil ?_)
   obtain rfl : a = f.sh.src.length := by omega
   refine hKL4 ((j + 1, r5, _, _)) _ _ ?_ ?_ ⟨rfl, rfl, rfl, rfl, rfl, trivial⟩
   ·
    refine ⟨lst4, by first | assumption | (rw [glS_next1]; assumption), by first | assumption | exact pl_L13v5.trans pl_L13 (by omega) | exact ⟨.inr (by omega)⟩ | exact ⟨.inl rfl⟩, by first | omega | (simp only [List.length_append, List.length_cons, List.length_nil] <;> omega) | (rw [glS_next1] <;> (first | omega | (simp only [List.length_append, List.length_cons, List.length_nil] <;> omega))), ?_⟩
    exact ⟨by omega, by rw [glS_next1]; exact hR5⟩
   (dsimp only; omega)
  try simp only [sps] at h72
  refine .exit ?_
  refine hK28 _ _ ?_
  refine .seq (fun K43 hK43 => ?_)
  refine .region (.m rfl rfl rfl (.move rfl) (.m rfl rfl rfl (.move rfl) (.m rfl rfl rfl (.len sl_23_B rfl) ?_)))
  refine .m rfl rfl rfl (.move rfl) ?_
  obtain rfl : j = (glE f y).length := by omega
  have hiss := hR4.intss at_L13 ge_L13
  have hln := glS_all (y := y) hf hL (Nat.le_refl _)
  have hfl : (slsL r4 (glS f y (glE f y).length 0 0)).length = (glS f y (glE f y).length 0 0).length := length_slsL _ _
  refine .call rfl rfl rfl rfl @Try.call89 rfl ((l01JoinM_c (n := (glE f y).length) (cs := joinL (glE f y).length (glI f y f.sh.src.length 0 0)) (gl_same hf) rfl (by omega) hiss (by omega) (by omega) (fun i hi => by obtain ⟨j, a, e, h1, h2, h3, h4, h5, e1⟩ := glS_mem.1 (getD_mem_list (d := []) hi); rw [e1]; exact gl_ok hf h1 h2 h3 h4))) ?_
  rintro _ H154 ⟨le154, g154, rfl, at154, ge154⟩
  have nx_H154 := le154.1
  replace hle := hle.trans le154
  replace lst1 := lst1.le le154
  replace at2 := le154.2 _ _ at2
  replace at3003 := le154.2 _ _ at3003
  replace at_L8 := le154.2 _ _ at_L8
  replace at_L13 := le154.2 _ _ at_L13
  replace lv_v8 := Keep.le lv_v8 le154
  replace v8 := bs_v8.keep lv_v8 (Nat.le_refl _)
  have lt_at154 := GHeap.lt_of_get at154
  replace hin := base_hin.mono hle
  replace hc := base_hc.mono hle
  clear hb2 fsh2 c52 c62 i12 i22 hm2 hi2 hmsh2 hish2
  have hb2 : SFun.At _ g2 0 f p := ⟨Mem.of_get at2, hin⟩
  obtain ⟨fsh2, c52, c62, i12, i22⟩ := hb2.get
  have hm2 : MemN _ _ _ _ _ := ⟨rfl, hb2.1⟩
  have hi2 := hb2.2
  have hmsh2 : MemN _ _ _ _ _ := ⟨rfl, fsh2.1⟩
  have hish2 := fsh2.2
  clear mm3003
  have mm3003 : MemN _ _ _ _ _ := ⟨rfl, Mem.of_get at3003⟩
  clear hb7 c07 c17 c27 c37 c47 i17 i27 i37 i47 hm7 hi7
  have hb7 : Cat.At _ g7 0 f.sh p.sh := ⟨Mem.of_get at3003, hc⟩
  obtain ⟨c07, c17, c27, c37, c47, i17, i27, i37, i47⟩ := hb7.get
  have hm7 : MemN _ _ _ _ _ := ⟨rfl, hb7.1⟩
  have hi7 := hb7.2
  clear i8
  have i8 := v8.intss
  have i154 := Ints.of_get at154
  refine .m rfl rfl rfl (.assign rfl) (.m rfl rfl rfl (.assign rfl) (.m rfl rfl rfl (.assign rfl) (.nil ?_)))
  refine hK43 _ _ ?_
  refine .ret ?_
  refine hret _ _ ?_
  refine ⟨_, _, _, rfl, rfl, rfl, ?_⟩
  obtain ⟨e1, e2, e3⟩ := gl_4 (y := y) hf h28 hL
  rw [e1, e2, e3]
  exact ⟨hle, _, rr, _, rfl, v8.keep (.of_le (.refl _)) (by omega), IntsR.of_at at154 (by omega)⟩
set_option maxHeartbeats 4000000 in
theorem implGluedGenerators_c {f : SFun} {p : SFunP} {y : Int} {H : GHeap} (hin : f.In H p := by assumption) (hs : f.Small := by assumption) :
    GCalls Try.prog 43 [.agg (f.cells p).toArray, .int .i64 y] H (fun v H' => H.Le H' ∧ ∃ a r b, v = .tuple #[.slice a (glR f y).length (glR f y).length, .slice b (glQ f y).length (glQ f y).length, .int .i64 (glC f y)] ∧ Two H.next H' a r (glR f y) b (glQ f y)) := by
  have hs0 := hs.1
  refine GCalls.body (N := 107) (rs := [.tmp 4, .tmp 5, .tmp 6]) Try.func43 rfl rfl rfl rfl (fun Qx hret hend => ?_)
  refine .forget (fr' := [(0, some _), (1, some _)]) ⟨rfl, rfl, trivial⟩ ?_
  have hle := GHeap.Le.refl H
  have base_hin := hin
  refine .seq (fun K1 hK1 => ?_)
  refine .region ?_
  refine .r rfl rfl rfl (.boxR rfl sz_65_VSFun rfl) ?_
  rintro _ H2 ⟨g2, rfl, le2, ge2, at2⟩
  have nx_H2 := le2.1
  replace hle := hle.trans le2
  have lt_at2 := GHeap.lt_of_get at2
  replace hin := base_hin.mono hle
  have hb2 : SFun.At _ g2 0 f p := ⟨Mem.of_get at2, hin⟩
  obtain ⟨fsh2, c52, c62, i12, i22⟩ := hb2.get
  have hm2 : MemN _ _ _ _ _ := ⟨rfl, hb2.1⟩
  have hi2 := hb2.2
  have hmsh2 : MemN _ _ _ _ _ := ⟨rfl, fsh2.1⟩
  have hish2 := fsh2.2
  refine .m rfl rfl rfl (.assign rfl) (.m rfl rfl rfl (.assign rfl) (.m rfl rfl rfl (.assign rfl) (.nil ?_)))
  refine hK1 _ _ ?_
  refine .seq (fun K2 hK2 => ?_)
  refine .seq (fun K3 hK3 => ?_)
  refine .region ?_
  refine .callQ rfl rfl rfl rfl @Try.call90 rfl (isSetFunctor_c) ?_
  refine .m rfl rfl rfl (.not rfl) (.nil ?_)
  refine hK3 _ _ ?_
  refine .cond rfl (fun h18 => ?_) (fun h18 => ?_)
  ·
   simp only [sps] at h18
   refine .seq (fun K4 hK4 => ?_)
   refine .region (.m rfl rfl rfl (.assign rfl) (.m rfl rfl rfl (.assign rfl) (.m rfl rfl rfl (.assign rfl) ?_)))
   refine .nil ?_
   refine hK4 _ _ ?_
   refine .ret ?_
   refine hret _ _ ?_
   refine ⟨_, _, _, rfl, rfl, rfl, ?_⟩
   obtain ⟨e1, e2, e3⟩ := gl_1 (y := y) h18
   rw [e1, e2, e3]
   exact ⟨hle, none, fun _ => none, none, rfl, .nil _ _⟩
  simp only [sps] at h18
  have hf := h18
  obtain ⟨l1, l2, l3, l4, l5⟩ := hf.nums
  have hS := hf.1.c.1
  have b3 := hS.n40
  obtain ⟨-, s1, s2, -, -, si1, si2, -, -⟩ := fsh2.get
  refine .skip ?_
  refine hK2 _ _ ?_
  refine .seq (fun K5 hK5 => ?_)
  refine .region (.m rfl rfl rfl (.fieldAddr fo_65_0_P rfl) (.m rfl rfl rfl (.assign rfl) (.nil ?_)))
  refine hK5 _ _ ?_
  refine .seq (fun K6 hK6 => ?_)
  refine .seq (fun K7 hK7 => ?_)
  refine .region (.m rfl rfl rfl (.move rfl) (.m rfl rfl rfl (.move rfl) (.m rfl rfl rfl (.nilCheck rfl) ?_)))
  refine .m rfl rfl rfl (.fieldAddr fo_27_0_B rfl) ?_
  refine .m rfl rfl rfl (.load on_2_A rfl (by first | assumption | exact Mem.of_get at2 0 _ rfl)) ?_
  refine .m rfl rfl rfl (.sub rfl rfl rfl (by omega) (by omega)) ?_
  refine .callQ rfl rfl rfl rfl @Try.call66 rfl (inRange_c) ?_
  refine .m rfl rfl rfl (.not rfl) (.nil ?_)
  refine hK7 _ _ ?_
  refine .cond rfl (fun h27 => ?_) (fun h27 => ?_)
  ·
   have hy : ¬ (0 ≤ y ∧ y < f.sh.obj) := fun hh => by rw [inR_iff.2 ⟨hh.1, by omega⟩] at h27; simp at h27
   refine .seq (fun K8 hK8 => ?_)
   refine .region (.m rfl rfl rfl (.assign rfl) (.m rfl rfl rfl (.assign rfl) (.m rfl rfl rfl (.assign rfl) ?_)))
   refine .nil ?_
   refine hK8 _ _ ?_
   refine .ret ?_
   refine hret _ _ ?_
   refine ⟨_, _, _, rfl, rfl, rfl, ?_⟩
   obtain ⟨e1, e2, e3⟩ := gl_2 hf hy
   rw [e1, e2, e3]
   exact ⟨hle, none, fun _ => none, none, rfl, .nil _ _⟩
  have hy : 0 ≤ y ∧ y < f.sh.obj := by have := inR_iff.1 (by simpa using h27); omega
  refine .skip ?_
  refine hK6 _ _ ?_
  refine .seq (fun K9 hK9 => ?_)
  refine .region (.m rfl rfl rfl (.move rfl) ?_)
  refine .call rfl rfl rfl rfl @Try.call91 rfl (generators_c (hf := hf)) ?_
  rintro _ H29 ⟨le29, a29, r29, rfl, v29⟩
  have nx_H29 := le29.1
  replace hle := hle.trans le29
  replace at2 := le29.2 _ _ at2
  have bs_v29 := v29
  have lv_v29 : Keep H2.next H29 H29 := fun _ _ _ h => h
  replace hin := base_hin.mono hle
  clear hb2 fsh2 c52 c62 i12 i22 hm2 hi2 hmsh2 hish2
  have hb2 : SFun.At _ g2 0 f p := ⟨Mem.of_get at2, hin⟩
  obtain ⟨fsh2, c52, c62, i12, i22⟩ := hb2.get
  have hm2 : MemN _ _ _ _ _ := ⟨rfl, hb2.1⟩
  have hi2 := hb2.2
  have hmsh2 : MemN _ _ _ _ _ := ⟨rfl, fsh2.1⟩
  have hish2 := fsh2.2
  clear s1 s2 si1 si2
  obtain ⟨-, s1, s2, -, -, si1, si2, -, -⟩ := fsh2.get
  have i29 := v29.intss
  refine .m rfl rfl rfl (.assign rfl) (.nil ?_)
  refine hK9 _ _ ?_
  refine .seq (fun K10 hK10 => ?_)
  refine .seq (fun K11 hK11 => ?_)
  refine .region (.m rfl rfl rfl (.move rfl) (.m rfl rfl rfl (.len sl_23_B rfl) (.m rfl rfl rfl (.cmp rfl rfl rfl) ?_)))
  refine .nil ?_
  refine hK11 _ _ ?_
  refine .cond rfl (fun h32 => ?_) (fun h32 => ?_)
  ·
   simp only [sps] at h32
   refine .seq (fun K12 hK12 => ?_)
   refine .region (.m rfl rfl rfl (.assign rfl) (.m rfl rfl rfl (.assign rfl) (.m rfl rfl rfl (.assign rfl) ?_)))
   refine .nil ?_
   refine hK12 _ _ ?_
   refine .ret ?_
   refine hret _ _ ?_
   refine ⟨_, _, _, rfl, rfl, rfl, ?_⟩
   obtain ⟨e1, e2, e3⟩ := gl_3 hf hy (by omega)
   rw [e1, e2, e3]
   exact ⟨hle, none, fun _ => none, none, rfl, .nil _ _⟩
  simp only [sps] at h32
  have hL : (glE f y).length ≤ 256 := by omega
  have hK := glE_keys (y := y) hf
  refine .skip ?_
  refine hK10 _ _ ?_
  refine .seq (fun K13 hK13 => ?_)
  refine .region (.m rfl rfl rfl (.move rfl) ?_)
  refine .call rfl rfl rfl rfl @Try.call92 rfl (places_c i29 hK (by omega) (by omega)) ?_
  rintro _ H34 ⟨le34, g34, rfl, at34, ge34⟩
  have nx_H34 := le34.1
  replace hle := hle.trans le34
  replace at2 := le34.2 _ _ at2
  replace lv_v29 := Keep.le lv_v29 le34
  replace v29 := bs_v29.keep lv_v29 (Nat.le_refl _)
  have lt_at34 := GHeap.lt_of_get at34
  replace hin := base_hin.mono hle
  clear hb2 fsh2 c52 c62 i12 i22 hm2 hi2 hmsh2 hish2
  have hb2 : SFun.At _ g2 0 f p := ⟨Mem.of_get at2, hin⟩
  obtain ⟨fsh2, c52, c62, i12, i22⟩ := hb2.get
  have hm2 : MemN _ _ _ _ _ := ⟨rfl, hb2.1⟩
  have hi2 := hb2.2
  have hmsh2 : MemN _ _ _ _ _ := ⟨rfl, fsh2.1⟩
  have hish2 := fsh2.2
  clear s1 s2 si1 si2
  obtain ⟨-, s1, s2, -, -, si1, si2, -, -⟩ := fsh2.get
  clear i29
  have i29 := v29.intss
  refine .m rfl rfl rfl (.assign rfl) (.nil ?_)
  refine hK13 _ _ ?_
  refine .seq (fun K14 hK14 => ?_)
  refine .region (.m rfl rfl rfl (.move rfl) (.m rfl rfl rfl (.len sl_23_B rfl) ?_))
  refine .call rfl rfl rfl rfl @Try.call93 rfl (joinerOf_c) ?_
  rintro _ H37 ⟨le37, g37, rfl, at37, ge37⟩
  have nx_H37 := le37.1
  replace hle := hle.trans le37
  replace at2 := le37.2 _ _ at2
  replace at34 := le37.2 _ _ at34
  replace lv_v29 := Keep.le lv_v29 le37
  replace v29 := bs_v29.keep lv_v29 (Nat.le_refl _)
  have lt_at37 := GHeap.lt_of_get at37
  replace hin := base_hin.mono hle
  clear hb2 fsh2 c52 c62 i12 i22 hm2 hi2 hmsh2 hish2
  have hb2 : SFun.At _ g2 0 f p := ⟨Mem.of_get at2, hin⟩
  obtain ⟨fsh2, c52, c62, i12, i22⟩ := hb2.get
  have hm2 : MemN _ _ _ _ _ := ⟨rfl, hb2.1⟩
  have hi2 := hb2.2
  have hmsh2 : MemN _ _ _ _ _ := ⟨rfl, fsh2.1⟩
  have hish2 := fsh2.2
  clear s1 s2 si1 si2
  obtain ⟨-, s1, s2, -, -, si1, si2, -, -⟩ := fsh2.get
  clear i29
  have i29 := v29.intss
  have i37 := Ints.of_get at37
  refine .m rfl rfl rfl (.assign rfl) (.nil ?_)
  refine hK14 _ _ ?_
  refine .seq (fun K15 hK15 => ?_)
  refine .seq (fun K16 hK16 => ?_)
  refine .region (.m rfl rfl rfl (.fieldAddr fo_65_2_P rfl) ?_)
  refine .m rfl rfl rfl (.load on_23_B rfl (by first | assumption | exact Mem.of_get at2 6 _ rfl)) ?_
  refine .m rfl rfl rfl (.len sl_23_B rfl) (.m rfl rfl rfl (.move rfl) (.nil ?_))
  refine hK16 _ _ ?_
  refine .block ?_
  have hnl : (numsL (((glE f y).length : Int).toNat)).length = (glE f y).length := by rw [length_numsL, Int.toNat_natCast]
  refine .loopR (σ := Nat × List Int) [(1, some _), (7, some _), (8, some _), (9, some _), (10, some _), (39, some _), (40, some _)] (fun (a, js) => [(41, some (.int .i64 (a : Int)))]) (fun (a, js) H' => St [g37] H37 H' ∧ H'.get g37 = some (.row (ints js) 2 true) ∧ a ≤ f.sh.src.length ∧ RootK js (joinK (glI f y a 0 0)) (numsL (((glE f y).length : Int).toNat)).length) (fun (a, js) => f.sh.src.length - a) ((0, numsL (((glE f y).length : Int).toNat))) ⟨rfl, rfl, rfl, rfl, rfl, rfl, rfl, trivial⟩ ⟨rfl, trivial⟩ ?_ ?_
  ·
   refine ⟨.refl _ _, by first | assumption | exact at37 | simpa using at37, ?_⟩
   exact ⟨by omega, RootK.start rfl fun i hi => numsL_get (by rw [length_numsL] at hi; exact hi)⟩
  rintro ⟨a, js⟩ HL1 ⟨lst1, at_L10, hI⟩ KL1 hKL1
  refine .forget (fr' := [(41, some (.int .i64 (a : Int))), (1, some _), (7, some _), (8, some _), (9, some _), (10, some _), (39, some _), (40, some _)]) ⟨rfl, rfl, rfl, rfl, rfl, rfl, rfl, rfl, trivial⟩ ?_
  have nx_HL1 := lst1.nx
  replace hle := hle.st lst1 (fun k hk => ⟨by omega, trivial⟩)
  have ne_g2_g37 : g2 ≠ g37 := by omega
  replace at2 := lst1.same _ _ ⟨ne_g2_g37, trivial⟩ at2
  have ne_g34_g37 : g34 ≠ g37 := by omega
  replace at34 := lst1.same _ _ ⟨ne_g34_g37, trivial⟩ at34
  replace lv_v29 := Keep.st lv_v29 lst1 (fun k hb hk => ⟨(by omega), trivial⟩)
  replace v29 := bs_v29.keep lv_v29 (Nat.le_refl _)
  have lt_at_L10 := GHeap.lt_of_get at_L10
  replace hin := base_hin.mono hle
  clear hb2 fsh2 c52 c62 i12 i22 hm2 hi2 hmsh2 hish2
  have hb2 : SFun.At _ g2 0 f p := ⟨Mem.of_get at2, hin⟩
  obtain ⟨fsh2, c52, c62, i12, i22⟩ := hb2.get
  have hm2 : MemN _ _ _ _ _ := ⟨rfl, hb2.1⟩
  have hi2 := hb2.2
  have hmsh2 : MemN _ _ _ _ _ := ⟨rfl, fsh2.1⟩
  have hish2 := fsh2.2
  clear s1 s2 si1 si2
  obtain ⟨-, s1, s2, -, -, si1, si2, -, -⟩ := fsh2.get
  clear i29
  have i29 := v29.intss
  clear i37
  have i37 := Ints.of_get at37
  obtain ⟨ha, hJ⟩ := hI
  refine .seq (fun K17 hK17 => ?_)
  refine .region (.m rfl rfl rfl (.cmp rfl rfl rfl) (.nil ?_))
  refine hK17 _ _ ?_
  refine .seq (fun K18 hK18 => ?_)
  refine .cond rfl (fun h42 => ?_) (fun h42 => ?_)
  ·
   simp only [sps] at h42
   have hal : a < f.sh.src.length := by omega
   obtain ⟨a0, a1, a2, a3, a4, a5, a6, a9⟩ := hf.arrow (y := y) hal
   have hlh := f.sh.hom_le (f.sh.tgt.getD a 0) y
   have u2 := i22.2 a (by omega)
   refine .skip ?_
   refine hK18 _ _ ?_
   refine .seq (fun K19 hK19 => ?_)
   refine .block ?_
   refine .seq (fun K20 hK20 => ?_)
   refine .region (.m rfl rfl rfl (.move rfl) ?_)
   refine .m rfl rfl rfl (.idxN sl_23_B (Intss.sl (by assumption)) rfl rfl (by omega)) ?_
   refine .m rfl rfl rfl (.loadR on_22_B (by assumption) rfl (by omega)) ?_
   refine .m rfl rfl rfl (.assign rfl) (.m rfl rfl rfl (.assign rfl) (.nil ?_))
   refine hK20 _ _ ?_
   refine .seq (fun K21 hK21 => ?_)
   refine .region (.m rfl rfl rfl (.move rfl) (.m rfl rfl rfl (.len sl_22_A rfl) (.m rfl rfl rfl (.move rfl) ?_)))
   refine .nil ?_
   refine hK21 _ _ ?_
   refine .block ?_
   refine .loopR (σ := Nat × List Int) [(1, some _), (7, some _), (8, some _), (9, some _), (10, some _), (11, some _), (39, some _), (40, some _), (41, some _), (46, some _), (47, some _)] (fun (e, js2) => [(48, some (.int .i64 (e : Int)))]) (fun (e, js2) H' => St [g37] HL1 H' ∧ H'.get g37 = some (.row (ints js2) 2 true) ∧ e ≤ (f.ac.getD a []).length ∧ RootK js2 (joinK (glI f y a e 0)) (numsL (((glE f y).length : Int).toNat)).length) (fun (e, js2) => (f.ac.getD a []).length - e) ((0, js)) ⟨rfl, rfl, rfl, rfl, rfl, rfl, rfl, rfl, rfl, rfl, rfl, trivial⟩ ⟨rfl, trivial⟩ ?_ ?_
   ·
    refine ⟨.refl _ _, by first | assumption | exact at_L10 | simpa using at_L10, ?_⟩
    exact ⟨by omega, hJ⟩
   rintro ⟨e, js2⟩ HL2 ⟨lst2, at_L10, hI⟩ KL2 hKL2
   refine .forget (fr' := [(48, some (.int .i64 (e : Int))), (1, some _), (7, some _), (8, some _), (9, some _), (10, some _), (11, some _), (39, some _), (40, some _), (41, some _), (46, some _), (47, some _)]) ⟨rfl, rfl, rfl, rfl, rfl, rfl, rfl, rfl, rfl, rfl, rfl, rfl, trivial⟩ ?_
   have nx_HL2 := lst2.nx
   replace hle := hle.st lst2 (fun k hk => ⟨by omega, trivial⟩)
   replace lst1 := lst1.st lst2 (fun k hk ho => by simp only [out, and_true] at ho ⊢ <;> first | omega | (first | exact ho | exact ho.1 | exact ho.2 | exact ho.2.1 | exact ho.2.2 | exact ho.2.2.1 | exact ho.2.2.2))
   replace at2 := lst2.same _ _ ⟨ne_g2_g37, trivial⟩ at2
   replace at34 := lst2.same _ _ ⟨ne_g34_g37, trivial⟩ at34
   replace lv_v29 := Keep.st lv_v29 lst2 (fun k hb hk => ⟨(by omega), trivial⟩)
   replace v29 := bs_v29.keep lv_v29 (Nat.le_refl _)
   have lt_at_L10 := GHeap.lt_of_get at_L10
   replace hin := base_hin.mono hle
   clear hb2 fsh2 c52 c62 i12 i22 hm2 hi2 hmsh2 hish2
   have hb2 : SFun.At _ g2 0 f p := ⟨Mem.of_get at2, hin⟩
   obtain ⟨fsh2, c52, c62, i12, i22⟩ := hb2.get
   have hm2 : MemN _ _ _ _ _ := ⟨rfl, hb2.1⟩
   have hi2 := hb2.2
   have hmsh2 : MemN _ _ _ _ _ := ⟨rfl, fsh2.1⟩
   have hish2 := fsh2.2
   clear s1 s2 si1 si2
   obtain ⟨-, s1, s2, -, -, si1, si2, -, -⟩ := fsh2.get
   clear i29
   have i29 := v29.intss
   clear i37
   have i37 := Ints.of_get at37
   clear u2
   have u2 := i22.2 a (by omega)
   obtain ⟨he, hJ⟩ := hI
   refine .seq (fun K22 hK22 => ?_)
   refine .region (.m rfl rfl rfl (.cmp rfl rfl rfl) (.nil ?_))
   refine hK22 _ _ ?_
   refine .seq (fun K23 hK23 => ?_)
   refine .cond rfl (fun h49 => ?_) (fun h49 => ?_)
   ·
    simp only [sps] at h49
    have a10 := a6 e (by omega)
    refine .skip ?_
    refine hK23 _ _ ?_
    refine .seq (fun K24 hK24 => ?_)
    refine .block ?_
    refine .seq (fun K25 hK25 => ?_)
    refine .region (.m rfl rfl rfl (.move rfl) ?_)
    refine .m rfl rfl rfl (.idxN sl_22_A (by assumption) rfl rfl (by omega)) ?_
    refine .m rfl rfl rfl (.loadI on_2_A (by assumption) rfl (by omega)) ?_
    refine .m rfl rfl rfl (.assign rfl) (.m rfl rfl rfl (.assign rfl) (.nil ?_))
    refine hK25 _ _ ?_
    refine .seq (fun K26 hK26 => ?_)
    refine .region (.m rfl rfl rfl (.move rfl) (.m rfl rfl rfl (.move rfl) (.m rfl rfl rfl (.nilCheck rfl) ?_)))
    refine .m rfl rfl rfl (.fieldAddr fo_27_2_B rfl) ?_
    refine .m rfl rfl rfl (.load on_22_B rfl (by first | assumption | exact Mem.of_get at2 2 _ rfl)) ?_
    refine .m rfl rfl rfl (.move rfl) ?_
    refine .m rfl rfl rfl (.idxN sl_22_A (by assumption) rfl rfl (by omega)) ?_
    refine .m rfl rfl rfl (.loadI on_2_A (by assumption) rfl (by omega)) ?_
    refine .m rfl rfl rfl (.move rfl) ?_
    refine .call rfl rfl rfl rfl @Try.call94 rfl (hom_c) ?_
    rintro _ H62 ⟨le62, g62, rfl, at62, ge62⟩
    have nx_H62 := le62.1
    replace hle := hle.trans le62
    replace lst1 := lst1.le le62
    replace lst2 := lst2.le le62
    replace at2 := le62.2 _ _ at2
    replace at34 := le62.2 _ _ at34
    replace at_L10 := le62.2 _ _ at_L10
    replace lv_v29 := Keep.le lv_v29 le62
    replace v29 := bs_v29.keep lv_v29 (Nat.le_refl _)
    have lt_at62 := GHeap.lt_of_get at62
    replace hin := base_hin.mono hle
    clear hb2 fsh2 c52 c62 i12 i22 hm2 hi2 hmsh2 hish2
    have hb2 : SFun.At _ g2 0 f p := ⟨Mem.of_get at2, hin⟩
    obtain ⟨fsh2, c52, c62, i12, i22⟩ := hb2.get
    have hm2 : MemN _ _ _ _ _ := ⟨rfl, hb2.1⟩
    have hi2 := hb2.2
    have hmsh2 : MemN _ _ _ _ _ := ⟨rfl, fsh2.1⟩
    have hish2 := fsh2.2
    clear s1 s2 si1 si2
    obtain ⟨-, s1, s2, -, -, si1, si2, -, -⟩ := fsh2.get
    clear i29
    have i29 := v29.intss
    clear i37
    have i37 := Ints.of_get at37
    clear u2
    have u2 := i22.2 a (by omega)
    have i62 := Ints.of_get at62
    refine .m rfl rfl rfl (.len sl_22_A rfl) (.m rfl rfl rfl (.move rfl) (.nil ?_))
    refine hK26 _ _ ?_
    refine .block ?_
    refine .loopR (σ := Nat × List Int) [(1, some _), (7, some _), (8, some _), (9, some _), (10, some _), (11, some _), (13, some _), (14, some _), (39, some _), (40, some _), (41, some _), (46, some _), (47, some _), (48, some _), (62, some _), (63, some _)] (fun (i, js3) => [(64, some (.int .i64 (i : Int)))]) (fun (i, js3) H' => St [g37] H62 H' ∧ H'.get g37 = some (.row (ints js3) 2 true) ∧ i ≤ (f.sh.hom (f.sh.tgt.getD a 0) y).length ∧ RootK js3 (joinK (glI f y a e i)) (numsL (((glE f y).length : Int).toNat)).length) (fun (i, js3) => (f.sh.hom (f.sh.tgt.getD a 0) y).length - i) ((0, js2)) ⟨rfl, rfl, rfl, rfl, rfl, rfl, rfl, rfl, rfl, rfl, rfl, rfl, rfl, rfl, rfl, rfl, trivial⟩ ⟨rfl, trivial⟩ ?_ ?_
    ·
     refine ⟨.refl _ _, by first | assumption | exact at_L10 | simpa using at_L10, ?_⟩
     exact ⟨by omega, hJ⟩
    rintro ⟨i, js3⟩ HL3 ⟨lst3, at_L10, hI⟩ KL3 hKL3
    refine .forget (fr' := [(64, some (.int .i64 (i : Int))), (1, some _), (7, some _), (8, some _), (9, some _), (10, some _), (11, some _), (13, some _), (14, some _), (39, some _), (40, some _), (41, some _), (46, some _), (47, some _), (48, some _), (62, some _), (63, some _)]) ⟨rfl, rfl, rfl, rfl, rfl, rfl, rfl, rfl, rfl, rfl, rfl, rfl, rfl, rfl, rfl, rfl, rfl, trivial⟩ ?_
    have nx_HL3 := lst3.nx
    replace hle := hle.st lst3 (fun k hk => ⟨by omega, trivial⟩)
    replace lst1 := lst1.st lst3 (fun k hk ho => by simp only [out, and_true] at ho ⊢ <;> first | omega | (first | exact ho | exact ho.1 | exact ho.2 | exact ho.2.1 | exact ho.2.2 | exact ho.2.2.1 | exact ho.2.2.2))
    replace lst2 := lst2.st lst3 (fun k hk ho => by simp only [out, and_true] at ho ⊢ <;> first | omega | (first | exact ho | exact ho.1 | exact ho.2 | exact ho.2.1 | exact ho.2.2 | exact ho.2.2.1 | exact ho.2.2.2))
    replace at2 := lst3.same _ _ ⟨ne_g2_g37, trivial⟩ at2
    replace at34 := lst3.same _ _ ⟨ne_g34_g37, trivial⟩ at34
    have ne_g62_g37 : g62 ≠ g37 := by omega
    replace at62 := lst3.same _ _ ⟨ne_g62_g37, trivial⟩ at62
    replace lv_v29 := Keep.st lv_v29 lst3 (fun k hb hk => ⟨(by omega), trivial⟩)
    replace v29 := bs_v29.keep lv_v29 (Nat.le_refl _)
    have lt_at_L10 := GHeap.lt_of_get at_L10
    replace hin := base_hin.mono hle
    clear hb2 fsh2 c52 c62 i12 i22 hm2 hi2 hmsh2 hish2
    have hb2 : SFun.At _ g2 0 f p := ⟨Mem.of_get at2, hin⟩
    obtain ⟨fsh2, c52, c62, i12, i22⟩ := hb2.get
    have hm2 : MemN _ _ _ _ _ := ⟨rfl, hb2.1⟩
    have hi2 := hb2.2
    have hmsh2 : MemN _ _ _ _ _ := ⟨rfl, fsh2.1⟩
    have hish2 := fsh2.2
    clear s1 s2 si1 si2
    obtain ⟨-, s1, s2, -, -, si1, si2, -, -⟩ := fsh2.get
    clear i29
    have i29 := v29.intss
    clear i37
    have i37 := Ints.of_get at37
    clear u2
    have u2 := i22.2 a (by omega)
    clear i62
    have i62 := Ints.of_get at62
    obtain ⟨hi2, hJ⟩ := hI
    refine .seq (fun K27 hK27 => ?_)
    refine .region (.m rfl rfl rfl (.cmp rfl rfl rfl) (.nil ?_))
    refine hK27 _ _ ?_
    refine .seq (fun K28 hK28 => ?_)
    refine .cond rfl (fun h65 => ?_) (fun h65 => ?_)
    ·
     simp only [sps] at h65
     have hhm : (f.sh.hom (f.sh.tgt.getD a 0) y).getD i 0 ∈ f.sh.hom (f.sh.tgt.getD a 0) y := getD_mem (by omega)
     have hb9 := (a9 _ hhm).1
     obtain ⟨m1, m2⟩ := hf.two hal hhm (show e < (f.ac.getD a []).length by omega)
     have kb1 := hK.ok _ m1
     have kb2 := hK.ok _ m2
     have hp1 := lookS_all hK m1
     have hp2 := lookS_all hK m2
     obtain ⟨uu, uu1, _, uu3⟩ := idxLL_mem hK.nd m1
     obtain ⟨vv, vv1, _, vv3⟩ := idxLL_mem hK.nd m2
     rw [uu3] at hp1
     rw [vv3] at hp2
     have hpr : glPq f y a e i = ((uu : Int).toNat, (vv : Int).toNat) := by unfold glPq; rw [uu3, vv3]
     refine .skip ?_
     refine hK28 _ _ ?_
     refine .seq (fun K29 hK29 => ?_)
     refine .block ?_
     refine .seq (fun K30 hK30 => ?_)
     refine .region ?_
     refine .m rfl rfl rfl (.idxN sl_22_A (by first | assumption | exact SlA.of_row at62 (by first | rfl | (simp; done) | (simp <;> omega))) rfl rfl (by omega)) ?_
     refine .m rfl rfl rfl (.loadI on_2_A (by first | assumption | exact Ints.of_get at62) rfl (by omega)) ?_
     refine .m rfl rfl rfl (.assign rfl) (.nil ?_)
     refine hK30 _ _ ?_
     refine .regionD mixed_orders_B (.q 0 (.q 1 (.q 2 (.q 3 (.q 4 (.q 5 (.q 6 (.q 7 (.q 8 (.q 9 (.q 10 (.q 11 (.q 12 (.q 18 (.q 19 (.q 20 (.q 21 (.q 22 (.q 23 (.q 24 (.q 25 (.q 26 (.q 27 (.or (.c 13 1 (.or (.c 14 1 (.or (.c 15 1 (.or (.c 16 1 (.q 17 (.c 28 1 (.c 29 1 (.c 30 1 (.q 31 (.c 32 0 (.done)))))))) (.c 28 1 (.or (.c 16 1 (.q 17 (.c 29 1 (.c 30 1 (.q 31 (.c 32 0 (.done))))))) (.c 29 1 (.c 16 1 (.q 17 (.c 30 1 (.q 31 (.c 32 0 (.done))))))))))) (.c 28 1 (.or (.c 15 1 (.or (.c 16 1 (.q 17 (.c 29 1 (.c 30 1 (.q 31 (.c 32 0 (.done))))))) (.c 29 1 (.c 16 1 (.q 17 (.c 30 1 (.q 31 (.c 32 0 (.done))))))))) (.c 29 1 (.c 15 1 (.c 16 1 (.q 17 (.c 30 1 (.q 31 (.c 32 0 (.done)))))))))))) (.c 28 1 (.or (.c 14 1 (.or (.c 15 1 (.or (.c 16 1 (.q 17 (.c 29 1 (.c 30 1 (.q 31 (.c 32 0 (.done))))))) (.c 29 1 (.c 16 1 (.q 17 (.c 30 1 (.q 31 (.c 32 0 (.done))))))))) (.c 29 1 (.c 15 1 (.c 16 1 (.q 17 (.c 30 1 (.q 31 (.c 32 0 (.done)))))))))) (.c 29 1 (.c 14 1 (.c 15 1 (.c 16 1 (.q 17 (.c 30 1 (.q 31 (.c 32 0 (.done))))))))))))) (.c 28 1 (.or (.c 13 1 (.or (.c 14 1 (.or (.c 15 1 (.or (.c 16 1 (.q 17 (.c 29 1 (.c 30 1 (.q 31 (.c 32 0 (.done))))))) (.c 29 1 (.c 16 1 (.q 17 (.c 30 1 (.q 31 (.c 32 0 (.done))))))))) (.c 29 1 (.c 15 1 (.c 16 1 (.q 17 (.c 30 1 (.q 31 (.c 32 0 (.done)))))))))) (.c 29 1 (.c 14 1 (.c 15 1 (.c 16 1 (.q 17 (.c 30 1 (.q 31 (.c 32 0 (.done))))))))))) (.c 29 1 (.c 13 1 (.c 14 1 (.c 15 1 (.c 16 1 (.q 17 (.c 30 1 (.q 31 (.c 32 0 (.done)))))))))))))))))))))))))))))))))))) (by kernel_rfl) ?_
     refine .cut [(1, some _), (7, some _), (8, some _), (9, some _), (10, some _), (11, some _), (13, some _), (14, some _), (16, some _), (39, some _), (40, some _), (41, some _), (46, some _), (47, some _), (48, some _), (62, some _), (63, some _), (64, some _), (65, some _), (66, some _), (67, some _)] ⟨rfl, rfl, rfl, rfl, rfl, rfl, rfl, rfl, rfl, rfl, rfl, rfl, rfl, rfl, rfl, rfl, rfl, rfl, rfl, rfl, rfl, trivial⟩ (fun rest fr' H' => ∃ (js' : List Int), Sub rest fr' ∧ St [g37] HL3 H' ∧ H'.get g37 = some (.row (ints js') 2 true) ∧ RootK js' (stepK (joinK (glI f y a e i)) (uu : Int).toNat (vv : Int).toNat) (numsL (((glE f y).length : Int).toNat)).length) ?_ ?_
     ·
      have hf0 := St.refl [g37] HL3
      refine .mB rfl rfl rfl rfl (.refl _) (.move rfl) ?_
      refine .mB rfl rfl rfl rfl (.refl _) (.move rfl) ?_
      refine .mB rfl rfl rfl rfl (.refl _) (.move rfl) ?_
      refine .m rfl rfl rfl rfl (.refl _) (.nilCheck rfl) (.m rfl rfl rfl rfl (.refl _) (.fieldAddr fo_27_1_B rfl) ?_)
      refine .m rfl rfl rfl rfl (.refl _) (.load on_22_B rfl (by first | assumption | exact Mem.of_get at2 1 _ rfl)) ?_
      refine .mB rfl rfl rfl rfl (.refl _) (.move rfl) ?_
      refine .m rfl rfl rfl rfl (.refl _) (.idxN sl_22_A (by assumption) rfl rfl (by omega)) ?_
      refine .m rfl rfl rfl rfl (.refl _) (.loadI on_2_A (by assumption) rfl (by omega)) ?_
      refine .mB rfl rfl rfl rfl (.refl _) (.move rfl) ?_
      refine .mB rfl rfl rfl rfl (.refl _) (.move rfl) ?_
      refine .mB rfl rfl rfl rfl (.refl _) (.move rfl) ?_
      refine .mB rfl rfl rfl rfl (.refl _) (.move rfl) ?_
      refine .mB rfl rfl rfl rfl (.refl _) (.move rfl) ?_
      refine .mB rfl rfl rfl rfl (.refl _) (.move rfl) ?_
      refine .m rfl rfl rfl rfl (.refl _) (.nilCheck rfl) (.m rfl rfl rfl rfl (.refl _) (.fieldAddr fo_27_2_B rfl) ?_)
      refine .m rfl rfl rfl rfl (.refl _) (.load on_22_B rfl (by first | assumption | exact Mem.of_get at2 2 _ rfl)) ?_
      refine .mB rfl rfl rfl rfl (.refl _) (.move rfl) ?_
      refine .m rfl rfl rfl rfl (.refl _) (.idxN sl_22_A (by assumption) rfl rfl (by omega)) ?_
      refine .m rfl rfl rfl rfl (.refl _) (.loadI on_2_A (by assumption) rfl (by omega)) ?_
      refine .mB rfl rfl rfl rfl (.refl _) (.move rfl) ?_
      refine .mB rfl rfl rfl rfl (.refl _) (.move rfl) ?_
      refine .orI ?_ ?_
      ·
       refine .callQ1 rfl rfl rfl rfl rfl @Try.call65 rfl (then_s) (.refl _) ?_
       refine .orI ?_ ?_
       ·
        refine .c1 rfl rfl rfl rfl (.litR rfl sl_22_A ze_2_E rfl rfl (by omega) (by omega) rfl rfl) ?_
        rintro _ H82 ⟨g82, rfl, le82, ge82, at82⟩
        have hbl := le82
        refine ⟨hbl, ?_⟩
        have nx_H82 := le82.1
        replace hle := hle.trans le82
        replace lst1 := lst1.le le82
        replace lst2 := lst2.le le82
        replace lst3 := lst3.le le82
        replace hf0 := hf0.le le82
        replace at2 := le82.2 _ _ at2
        replace at34 := le82.2 _ _ at34
        replace at62 := le82.2 _ _ at62
        replace at_L10 := le82.2 _ _ at_L10
        replace lv_v29 := Keep.le lv_v29 le82
        replace v29 := bs_v29.keep lv_v29 (Nat.le_refl _)
        have lt_at82 := GHeap.lt_of_get at82
        replace hin := base_hin.mono hle
        clear hb2 fsh2 c52 c62 i12 i22 hm2 hi2 hmsh2 hish2
        have hb2 : SFun.At _ g2 0 f p := ⟨Mem.of_get at2, hin⟩
        obtain ⟨fsh2, c52, c62, i12, i22⟩ := hb2.get
        have hm2 : MemN _ _ _ _ _ := ⟨rfl, hb2.1⟩
        have hi2 := hb2.2
        have hmsh2 : MemN _ _ _ _ _ := ⟨rfl, fsh2.1⟩
        have hish2 := fsh2.2
        clear s1 s2 si1 si2
        obtain ⟨-, s1, s2, -, -, si1, si2, -, -⟩ := fsh2.get
        clear i29
        have i29 := v29.intss
        clear i37
        have i37 := Ints.of_get at37
        clear u2
        have u2 := i22.2 a (by omega)
        clear i62
        have i62 := Ints.of_get at62
        refine .orI ?_ ?_
        ·
         refine .c1 rfl rfl rfl rfl (.litR rfl sl_23_B ze_22_E rfl rfl (by omega) (by omega) rfl rfl) ?_
         rintro _ H83 ⟨g83, rfl, le83, ge83, at83⟩
         replace hbl := hbl.trans le83
         refine ⟨hbl, ?_⟩
         have nx_H83 := le83.1
         replace hle := hle.trans le83
         replace lst1 := lst1.le le83
         replace lst2 := lst2.le le83
         replace lst3 := lst3.le le83
         replace hf0 := hf0.le le83
         replace at2 := le83.2 _ _ at2
         replace at34 := le83.2 _ _ at34
         replace at62 := le83.2 _ _ at62
         replace at_L10 := le83.2 _ _ at_L10
         replace at82 := le83.2 _ _ at82
         replace lv_v29 := Keep.le lv_v29 le83
         replace v29 := bs_v29.keep lv_v29 (Nat.le_refl _)
         have lt_at83 := GHeap.lt_of_get at83
         replace hin := base_hin.mono hle
         clear hb2 fsh2 c52 c62 i12 i22 hm2 hi2 hmsh2 hish2
         have hb2 : SFun.At _ g2 0 f p := ⟨Mem.of_get at2, hin⟩
         obtain ⟨fsh2, c52, c62, i12, i22⟩ := hb2.get
         have hm2 : MemN _ _ _ _ _ := ⟨rfl, hb2.1⟩
         have hi2 := hb2.2
         have hmsh2 : MemN _ _ _ _ _ := ⟨rfl, fsh2.1⟩
         have hish2 := fsh2.2
         clear s1 s2 si1 si2
         obtain ⟨-, s1, s2, -, -, si1, si2, -, -⟩ := fsh2.get
         clear i29
         have i29 := v29.intss
         clear i37
         have i37 := Ints.of_get at37
         clear u2
         have u2 := i22.2 a (by omega)
         clear i62
         have i62 := Ints.of_get at62
         refine .orI ?_ ?_
         ·
          refine .callQ1 rfl rfl rfl rfl rfl @Try.call96 rfl (key_c (xs := glT f a e ((f.sh.hom (f.sh.tgt.getD a 0) y).getD i 0)) (by assumption) (Ints.of_get (xs := glT f a e ((f.sh.hom (f.sh.tgt.getD a 0) y).getD i 0)) (by assumption)) rfl (fun j hj => kb1.2 j hj) (by show 3 ≤ 1000; omega)) hbl ?_
          refine .m rfl rfl rfl rfl hbl (.lookupS mps_117_Ke zv_2_Pb rfl rfl (by assumption)) ?_
          refine .c1 rfl rfl rfl rfl (.litR rfl sl_22_A ze_2_E rfl rfl (by omega) (by omega) rfl rfl) ?_
          rintro _ H96 ⟨g96, rfl, le96, ge96, at96⟩
          have hbl := le96
          refine ⟨hbl, ?_⟩
          have nx_H96 := le96.1
          replace hle := hle.trans le96
          replace lst1 := lst1.le le96
          replace lst2 := lst2.le le96
          replace lst3 := lst3.le le96
          replace hf0 := hf0.le le96
          replace at2 := le96.2 _ _ at2
          replace at34 := le96.2 _ _ at34
          replace at62 := le96.2 _ _ at62
          replace at_L10 := le96.2 _ _ at_L10
          replace at82 := le96.2 _ _ at82
          replace at83 := le96.2 _ _ at83
          replace lv_v29 := Keep.le lv_v29 le96
          replace v29 := bs_v29.keep lv_v29 (Nat.le_refl _)
          have lt_at96 := GHeap.lt_of_get at96
          replace hin := base_hin.mono hle
          clear hb2 fsh2 c52 c62 i12 i22 hm2 hi2 hmsh2 hish2
          have hb2 : SFun.At _ g2 0 f p := ⟨Mem.of_get at2, hin⟩
          obtain ⟨fsh2, c52, c62, i12, i22⟩ := hb2.get
          have hm2 : MemN _ _ _ _ _ := ⟨rfl, hb2.1⟩
          have hi2 := hb2.2
          have hmsh2 : MemN _ _ _ _ _ := ⟨rfl, fsh2.1⟩
          have hish2 := fsh2.2
          clear s1 s2 si1 si2
          obtain ⟨-, s1, s2, -, -, si1, si2, -, -⟩ := fsh2.get
          clear i29
          have i29 := v29.intss
          clear i37
          have i37 := Ints.of_get at37
          clear u2
          have u2 := i22.2 a (by omega)
          clear i62
          have i62 := Ints.of_get at62
          refine .c1 rfl rfl rfl rfl (.litR rfl sl_23_B ze_22_E rfl rfl (by omega) (by omega) rfl rfl) ?_
          rintro _ H97 ⟨g97, rfl, le97, ge97, at97⟩
          replace hbl := hbl.trans le97
          refine ⟨hbl, ?_⟩
          have nx_H97 := le97.1
          replace hle := hle.trans le97
          replace lst1 := lst1.le le97
          replace lst2 := lst2.le le97
          replace lst3 := lst3.le le97
          replace hf0 := hf0.le le97
          replace at2 := le97.2 _ _ at2
          replace at34 := le97.2 _ _ at34
          replace at62 := le97.2 _ _ at62
          replace at_L10 := le97.2 _ _ at_L10
          replace at82 := le97.2 _ _ at82
          replace at83 := le97.2 _ _ at83
          replace at96 := le97.2 _ _ at96
          replace lv_v29 := Keep.le lv_v29 le97
          replace v29 := bs_v29.keep lv_v29 (Nat.le_refl _)
          have lt_at97 := GHeap.lt_of_get at97
          replace hin := base_hin.mono hle
          clear hb2 fsh2 c52 c62 i12 i22 hm2 hi2 hmsh2 hish2
          have hb2 : SFun.At _ g2 0 f p := ⟨Mem.of_get at2, hin⟩
          obtain ⟨fsh2, c52, c62, i12, i22⟩ := hb2.get
          have hm2 : MemN _ _ _ _ _ := ⟨rfl, hb2.1⟩
          have hi2 := hb2.2
          have hmsh2 : MemN _ _ _ _ _ := ⟨rfl, fsh2.1⟩
          have hish2 := fsh2.2
          clear s1 s2 si1 si2
          obtain ⟨-, s1, s2, -, -, si1, si2, -, -⟩ := fsh2.get
          clear i29
          have i29 := v29.intss
          clear i37
          have i37 := Ints.of_get at37
          clear u2
          have u2 := i22.2 a (by omega)
          clear i62
          have i62 := Ints.of_get at62
          refine .callQ1 rfl rfl rfl rfl rfl @Try.call96 rfl (key_c (xs := glU f a e ((f.sh.hom (f.sh.tgt.getD a 0) y).getD i 0)) (by assumption) (Ints.of_get (xs := glU f a e ((f.sh.hom (f.sh.tgt.getD a 0) y).getD i 0)) (by assumption)) rfl (fun j hj => kb2.2 j hj) (by show 3 ≤ 1000; omega)) hbl ?_
          refine .m rfl rfl rfl rfl hbl (.lookupS mps_117_Ke zv_2_Pb rfl rfl (by assumption)) ?_
          refine .call0 rfl rfl rfl rfl rfl @Try.call95 rfl (join_c (hK := hJ)) ?_
          rintro _ H100 ⟨⟨b100, rfl⟩, st100, js100, at100, hK100⟩
          have nx_H100 := st100.nx
          replace hle := hle.st st100 (fun k hk => ⟨by omega, trivial⟩)
          replace lst1 := lst1.st st100 (fun k hk ho => by simp only [out, and_true] at ho ⊢ <;> first | omega | (first | exact ho | exact ho.1 | exact ho.2 | exact ho.2.1 | exact ho.2.2 | exact ho.2.2.1 | exact ho.2.2.2))
          replace lst2 := lst2.st st100 (fun k hk ho => by simp only [out, and_true] at ho ⊢ <;> first | omega | (first | exact ho | exact ho.1 | exact ho.2 | exact ho.2.1 | exact ho.2.2 | exact ho.2.2.1 | exact ho.2.2.2))
          replace lst3 := lst3.st st100 (fun k hk ho => by simp only [out, and_true] at ho ⊢ <;> first | omega | (first | exact ho | exact ho.1 | exact ho.2 | exact ho.2.1 | exact ho.2.2 | exact ho.2.2.1 | exact ho.2.2.2))
          replace hf0 := hf0.st st100 (fun k hk ho => by simp only [out, and_true] at ho ⊢ <;> first | omega | (first | exact ho | exact ho.1 | exact ho.2 | exact ho.2.1 | exact ho.2.2 | exact ho.2.2.1 | exact ho.2.2.2))
          replace at2 := st100.same _ _ ⟨ne_g2_g37, trivial⟩ at2
          replace at34 := st100.same _ _ ⟨ne_g34_g37, trivial⟩ at34
          replace at62 := st100.same _ _ ⟨ne_g62_g37, trivial⟩ at62
          have ne_g82_g37 : g82 ≠ g37 := by omega
          replace at82 := st100.same _ _ ⟨ne_g82_g37, trivial⟩ at82
          have ne_g83_g37 : g83 ≠ g37 := by omega
          replace at83 := st100.same _ _ ⟨ne_g83_g37, trivial⟩ at83
          have ne_g96_g37 : g96 ≠ g37 := by omega
          replace at96 := st100.same _ _ ⟨ne_g96_g37, trivial⟩ at96
          have ne_g97_g37 : g97 ≠ g37 := by omega
          replace at97 := st100.same _ _ ⟨ne_g97_g37, trivial⟩ at97
          replace lv_v29 := Keep.st lv_v29 st100 (fun k hb hk => ⟨(by omega), trivial⟩)
          replace v29 := bs_v29.keep lv_v29 (Nat.le_refl _)
          have lt_at100 := GHeap.lt_of_get at100
          replace hin := base_hin.mono hle
          clear hb2 fsh2 c52 c62 i12 i22 hm2 hi2 hmsh2 hish2
          have hb2 : SFun.At _ g2 0 f p := ⟨Mem.of_get at2, hin⟩
          obtain ⟨fsh2, c52, c62, i12, i22⟩ := hb2.get
          have hm2 : MemN _ _ _ _ _ := ⟨rfl, hb2.1⟩
          have hi2 := hb2.2
          have hmsh2 : MemN _ _ _ _ _ := ⟨rfl, fsh2.1⟩
          have hish2 := fsh2.2
          clear s1 s2 si1 si2
          obtain ⟨-, s1, s2, -, -, si1, si2, -, -⟩ := fsh2.get
          clear i29
          have i29 := v29.intss
          clear i37
          have i37 := Ints.of_get at37
          clear u2
          have u2 := i22.2 a (by omega)
          clear i62
          have i62 := Ints.of_get at62
          refine .done ?_
          exact ⟨_, ⟨rfl, rfl, rfl, rfl, rfl, rfl, rfl, rfl, rfl, rfl, rfl, rfl, rfl, rfl, rfl, rfl, rfl, rfl, rfl, rfl, rfl, trivial⟩, hf0, at100, (by rw [hp1, hp2] at hK100; exact hK100)⟩
         refine .c1 rfl rfl rfl rfl (.litR rfl sl_22_A ze_2_E rfl rfl (by omega) (by omega) rfl rfl) ?_
         rintro _ H96x2 ⟨g96x2, rfl, le96x2, ge96x2, at96x2⟩
         replace hbl := hbl.trans le96x2
         refine ⟨hbl, ?_⟩
         have nx_H96x2 := le96x2.1
         replace hle := hle.trans le96x2
         replace lst1 := lst1.le le96x2
         replace lst2 := lst2.le le96x2
         replace lst3 := lst3.le le96x2
         replace hf0 := hf0.le le96x2
         replace at2 := le96x2.2 _ _ at2
         replace at34 := le96x2.2 _ _ at34
         replace at62 := le96x2.2 _ _ at62
         replace at_L10 := le96x2.2 _ _ at_L10
         replace at82 := le96x2.2 _ _ at82
         replace at83 := le96x2.2 _ _ at83
         replace lv_v29 := Keep.le lv_v29 le96x2
         replace v29 := bs_v29.keep lv_v29 (Nat.le_refl _)
         have lt_at96x2 := GHeap.lt_of_get at96x2
         replace hin := base_hin.mono hle
         clear hb2 fsh2 c52 c62 i12 i22 hm2 hi2 hmsh2 hish2
         have hb2 : SFun.At _ g2 0 f p := ⟨Mem.of_get at2, hin⟩
         obtain ⟨fsh2, c52, c62, i12, i22⟩ := hb2.get
         have hm2 : MemN _ _ _ _ _ := ⟨rfl, hb2.1⟩
         have hi2 := hb2.2
         have hmsh2 : MemN _ _ _ _ _ := ⟨rfl, fsh2.1⟩
         have hish2 := fsh2.2
         clear s1 s2 si1 si2
         obtain ⟨-, s1, s2, -, -, si1, si2, -, -⟩ := fsh2.get
         clear i29
         have i29 := v29.intss
         clear i37
         have i37 := Ints.of_get at37
         clear u2
         have u2 := i22.2 a (by omega)
         clear i62
         have i62 := Ints.of_get at62
         refine .orI ?_ ?_
         ·
          refine .callQ1 rfl rfl rfl rfl rfl @Try.call96 rfl (key_c (xs := glT f a e ((f.sh.hom (f.sh.tgt.getD a 0) y).getD i 0)) (by assumption) (Ints.of_get (xs := glT f a e ((f.sh.hom (f.sh.tgt.getD a 0) y).getD i 0)) (by assumption)) rfl (fun j hj => kb1.2 j hj) (by show 3 ≤ 1000; omega)) hbl ?_
          refine .m rfl rfl rfl rfl hbl (.lookupS mps_117_Ke zv_2_Pb rfl rfl (by assumption)) ?_
          refine .c1 rfl rfl rfl rfl (.litR rfl sl_23_B ze_22_E rfl rfl (by omega) (by omega) rfl rfl) ?_
          rintro _ H97x2 ⟨g97x2, rfl, le97x2, ge97x2, at97x2⟩
          have hbl := le97x2
          refine ⟨hbl, ?_⟩
          have nx_H97x2 := le97x2.1
          replace hle := hle.trans le97x2
          replace lst1 := lst1.le le97x2
          replace lst2 := lst2.le le97x2
          replace lst3 := lst3.le le97x2
          replace hf0 := hf0.le le97x2
          replace at2 := le97x2.2 _ _ at2
          replace at34 := le97x2.2 _ _ at34
          replace at62 := le97x2.2 _ _ at62
          replace at_L10 := le97x2.2 _ _ at_L10
          replace at82 := le97x2.2 _ _ at82
          replace at83 := le97x2.2 _ _ at83
          replace at96x2 := le97x2.2 _ _ at96x2
          replace lv_v29 := Keep.le lv_v29 le97x2
          replace v29 := bs_v29.keep lv_v29 (Nat.le_refl _)
          have lt_at97x2 := GHeap.lt_of_get at97x2
          replace hin := base_hin.mono hle
          clear hb2 fsh2 c52 c62 i12 i22 hm2 hi2 hmsh2 hish2
          have hb2 : SFun.At _ g2 0 f p := ⟨Mem.of_get at2, hin⟩
          obtain ⟨fsh2, c52, c62, i12, i22⟩ := hb2.get
          have hm2 : MemN _ _ _ _ _ := ⟨rfl, hb2.1⟩
          have hi2 := hb2.2
          have hmsh2 : MemN _ _ _ _ _ := ⟨rfl, fsh2.1⟩
          have hish2 := fsh2.2
          clear s1 s2 si1 si2
          obtain ⟨-, s1, s2, -, -, si1, si2, -, -⟩ := fsh2.get
          clear i29
          have i29 := v29.intss
          clear i37
          have i37 := Ints.of_get at37
          clear u2
          have u2 := i22.2 a (by omega)
          clear i62
          have i62 := Ints.of_get at62
          refine .callQ1 rfl rfl rfl rfl rfl @Try.call96 rfl (key_c (xs := glU f a e ((f.sh.hom (f.sh.tgt.getD a 0) y).getD i 0)) (by assumption) (Ints.of_get (xs := glU f a e ((f.sh.hom (f.sh.tgt.getD a 0) y).getD i 0)) (by assumption)) rfl (fun j hj => kb2.2 j hj) (by show 3 ≤ 1000; omega)) hbl ?_
          refine .m rfl rfl rfl rfl hbl (.lookupS mps_117_Ke zv_2_Pb rfl rfl (by assumption)) ?_
          refine .call0 rfl rfl rfl rfl rfl @Try.call95 rfl (join_c (hK := hJ)) ?_
          rintro _ H100x2 ⟨⟨b100x2, rfl⟩, st100x2, js100x2, at100x2, hK100x2⟩
          have nx_H100x2 := st100x2.nx
          replace hle := hle.st st100x2 (fun k hk => ⟨by omega, trivial⟩)
          replace lst1 := lst1.st st100x2 (fun k hk ho => by simp only [out, and_true] at ho ⊢ <;> first | omega | (first | exact ho | exact ho.1 | exact ho.2 | exact ho.2.1 | exact ho.2.2 | exact ho.2.2.1 | exact ho.2.2.2))
          replace lst2 := lst2.st st100x2 (fun k hk ho => by simp only [out, and_true] at ho ⊢ <;> first | omega | (first | exact ho | exact ho.1 | exact ho.2 | exact ho.2.1 | exact ho.2.2 | exact ho.2.2.1 | exact ho.2.2.2))
          replace lst3 := lst3.st st100x2 (fun k hk ho => by simp only [out, and_true] at ho ⊢ <;> first | omega | (first | exact ho | exact ho.1 | exact ho.2 | exact ho.2.1 | exact ho.2.2 | exact ho.2.2.1 | exact ho.2.2.2))
          replace hf0 := hf0.st st100x2 (fun k hk ho => by simp only [out, and_true] at ho ⊢ <;> first | omega | (first | exact ho | exact ho.1 | exact ho.2 | exact ho.2.1 | exact ho.2.2 | exact ho.2.2.1 | exact ho.2.2.2))
          replace at2 := st100x2.same _ _ ⟨ne_g2_g37, trivial⟩ at2
          replace at34 := st100x2.same _ _ ⟨ne_g34_g37, trivial⟩ at34
          replace at62 := st100x2.same _ _ ⟨ne_g62_g37, trivial⟩ at62
          have ne_g82_g37 : g82 ≠ g37 := by omega
          replace at82 := st100x2.same _ _ ⟨ne_g82_g37, trivial⟩ at82
          have ne_g83_g37 : g83 ≠ g37 := by omega
          replace at83 := st100x2.same _ _ ⟨ne_g83_g37, trivial⟩ at83
          have ne_g96x2_g37 : g96x2 ≠ g37 := by omega
          replace at96x2 := st100x2.same _ _ ⟨ne_g96x2_g37, trivial⟩ at96x2
          have ne_g97x2_g37 : g97x2 ≠ g37 := by omega
          replace at97x2 := st100x2.same _ _ ⟨ne_g97x2_g37, trivial⟩ at97x2
          replace lv_v29 := Keep.st lv_v29 st100x2 (fun k hb hk => ⟨(by omega), trivial⟩)
          replace v29 := bs_v29.keep lv_v29 (Nat.le_refl _)
          have lt_at100x2 := GHeap.lt_of_get at100x2
          replace hin := base_hin.mono hle
          clear hb2 fsh2 c52 c62 i12 i22 hm2 hi2 hmsh2 hish2
          have hb2 : SFun.At _ g2 0 f p := ⟨Mem.of_get at2, hin⟩
          obtain ⟨fsh2, c52, c62, i12, i22⟩ := hb2.get
          have hm2 : MemN _ _ _ _ _ := ⟨rfl, hb2.1⟩
          have hi2 := hb2.2
          have hmsh2 : MemN _ _ _ _ _ := ⟨rfl, fsh2.1⟩
          have hish2 := fsh2.2
          clear s1 s2 si1 si2
          obtain ⟨-, s1, s2, -, -, si1, si2, -, -⟩ := fsh2.get
          clear i29
          have i29 := v29.intss
          clear i37
          have i37 := Ints.of_get at37
          clear u2
          have u2 := i22.2 a (by omega)
          clear i62
          have i62 := Ints.of_get at62
          refine .done ?_
          exact ⟨_, ⟨rfl, rfl, rfl, rfl, rfl, rfl, rfl, rfl, rfl, rfl, rfl, rfl, rfl, rfl, rfl, rfl, rfl, rfl, rfl, rfl, rfl, trivial⟩, hf0, at100x2, (by rw [hp1, hp2] at hK100x2; exact hK100x2)⟩
         refine .c1 rfl rfl rfl rfl (.litR rfl sl_23_B ze_22_E rfl rfl (by omega) (by omega) rfl rfl) ?_
         rintro _ H97x3 ⟨g97x3, rfl, le97x3, ge97x3, at97x3⟩
         replace hbl := hbl.trans le97x3
         refine ⟨hbl, ?_⟩
         have nx_H97x3 := le97x3.1
         replace hle := hle.trans le97x3
         replace lst1 := lst1.le le97x3
         replace lst2 := lst2.le le97x3
         replace lst3 := lst3.le le97x3
         replace hf0 := hf0.le le97x3
         replace at2 := le97x3.2 _ _ at2
         replace at34 := le97x3.2 _ _ at34
         replace at62 := le97x3.2 _ _ at62
         replace at_L10 := le97x3.2 _ _ at_L10
         replace at82 := le97x3.2 _ _ at82
         replace at83 := le97x3.2 _ _ at83
         replace at96x2 := le97x3.2 _ _ at96x2
         replace lv_v29 := Keep.le lv_v29 le97x3
         replace v29 := bs_v29.keep lv_v29 (Nat.le_refl _)
         have lt_at97x3 := GHeap.lt_of_get at97x3
         replace hin := base_hin.mono hle
         clear hb2 fsh2 c52 c62 i12 i22 hm2 hi2 hmsh2 hish2
         have hb2 : SFun.At _ g2 0 f p := ⟨Mem.of_get at2, hin⟩
         obtain ⟨fsh2, c52, c62, i12, i22⟩ := hb2.get
         have hm2 : MemN _ _ _ _ _ := ⟨rfl, hb2.1⟩
         have hi2 := hb2.2
         have hmsh2 : MemN _ _ _ _ _ := ⟨rfl, fsh2.1⟩
         have hish2 := fsh2.2
         clear s1 s2 si1 si2
         obtain ⟨-, s1, s2, -, -, si1, si2, -, -⟩ := fsh2.get
         clear i29
         have i29 := v29.intss
         clear i37
         have i37 := Ints.of_get at37
         clear u2
         have u2 := i22.2 a (by omega)
         clear i62
         have i62 := Ints.of_get at62
         refine .callQ1 rfl rfl rfl rfl rfl @Try.call96 rfl (key_c (xs := glT f a e ((f.sh.hom (f.sh.tgt.getD a 0) y).getD i 0)) (by assumption) (Ints.of_get (xs := glT f a e ((f.sh.hom (f.sh.tgt.getD a 0) y).getD i 0)) (by assumption)) rfl (fun j hj => kb1.2 j hj) (by show 3 ≤ 1000; omega)) hbl ?_
         refine .m rfl rfl rfl rfl hbl (.lookupS mps_117_Ke zv_2_Pb rfl rfl (by assumption)) ?_
         refine .callQ1 rfl rfl rfl rfl rfl @Try.call96 rfl (key_c (xs := glU f a e ((f.sh.hom (f.sh.tgt.getD a 0) y).getD i 0)) (by assumption) (Ints.of_get (xs := glU f a e ((f.sh.hom (f.sh.tgt.getD a 0) y).getD i 0)) (by assumption)) rfl (fun j hj => kb2.2 j hj) (by show 3 ≤ 1000; omega)) (.refl _) ?_
         refine .m rfl rfl rfl rfl (.refl _) (.lookupS mps_117_Ke zv_2_Pb rfl rfl (by assumption)) ?_
         refine .call0 rfl rfl rfl rfl rfl @Try.call95 rfl (join_c (hK := hJ)) ?_
         rintro _ H100x3 ⟨⟨b100x3, rfl⟩, st100x3, js100x3, at100x3, hK100x3⟩
         have nx_H100x3 := st100x3.nx
         replace hle := hle.st st100x3 (fun k hk => ⟨by omega, trivial⟩)
         replace lst1 := lst1.st st100x3 (fun k hk ho => by simp only [out, and_true] at ho ⊢ <;> first | omega | (first | exact ho | exact ho.1 | exact ho.2 | exact ho.2.1 | exact ho.2.2 | exact ho.2.2.1 | exact ho.2.2.2))
         replace lst2 := lst2.st st100x3 (fun k hk ho => by simp only [out, and_true] at ho ⊢ <;> first | omega | (first | exact ho | exact ho.1 | exact ho.2 | exact ho.2.1 | exact ho.2.2 | exact ho.2.2.1 | exact ho.2.2.2))
         replace lst3 := lst3.st st100x3 (fun k hk ho => by simp only [out, and_true] at ho ⊢ <;> first | omega | (first | exact ho | exact ho.1 | exact ho.2 | exact ho.2.1 | exact ho.2.2 | exact ho.2.2.1 | exact ho.2.2.2))
         replace hf0 := hf0.st st100x3 (fun k hk ho => by simp only [out, and_true] at ho ⊢ <;> first | omega | (first | exact ho | exact ho.1 | exact ho.2 | exact ho.2.1 | exact ho.2.2 | exact ho.2.2.1 | exact ho.2.2.2))
         replace at2 := st100x3.same _ _ ⟨ne_g2_g37, trivial⟩ at2
         replace at34 := st100x3.same _ _ ⟨ne_g34_g37, trivial⟩ at34
         replace at62 := st100x3.same _ _ ⟨ne_g62_g37, trivial⟩ at62
         have ne_g82_g37 : g82 ≠ g37 := by omega
         replace at82 := st100x3.same _ _ ⟨ne_g82_g37, trivial⟩ at82
         have ne_g83_g37 : g83 ≠ g37 := by omega
         replace at83 := st100x3.same _ _ ⟨ne_g83_g37, trivial⟩ at83
         have ne_g96x2_g37 : g96x2 ≠ g37 := by omega
         replace at96x2 := st100x3.same _ _ ⟨ne_g96x2_g37, trivial⟩ at96x2
         have ne_g97x3_g37 : g97x3 ≠ g37 := by omega
         replace at97x3 := st100x3.same _ _ ⟨ne_g97x3_g37, trivial⟩ at97x3
         replace lv_v29 := Keep.st lv_v29 st100x3 (fun k hb hk => ⟨(by omega), trivial⟩)
         replace v29 := bs_v29.keep lv_v29 (Nat.le_refl _)
         have lt_at100x3 := GHeap.lt_of_get at100x3
         replace hin := base_hin.mono hle
         clear hb2 fsh2 c52 c62 i12 i22 hm2 hi2 hmsh2 hish2
         have hb2 : SFun.At _ g2 0 f p := ⟨Mem.of_get at2, hin⟩
         obtain ⟨fsh2, c52, c62, i12, i22⟩ := hb2.get
         have hm2 : MemN _ _ _ _ _ := ⟨rfl, hb2.1⟩
         have hi2 := hb2.2
         have hmsh2 : MemN _ _ _ _ _ := ⟨rfl, fsh2.1⟩
         have hish2 := fsh2.2
         clear s1 s2 si1 si2
         obtain ⟨-, s1, s2, -, -, si1, si2, -, -⟩ := fsh2.get
         clear i29
         have i29 := v29.intss
         clear i37
         have i37 := Ints.of_get at37
         clear u2
         have u2 := i22.2 a (by omega)
         clear i62
         have i62 := Ints.of_get at62
         refine .done ?_
         exact ⟨_, ⟨rfl, rfl, rfl, rfl, rfl, rfl, rfl, rfl, rfl, rfl, rfl, rfl, rfl, rfl, rfl, rfl, rfl, rfl, rfl, rfl, rfl, trivial⟩, hf0, at100x3, (by rw [hp1, hp2] at hK100x3; exact hK100x3)⟩
        refine .c1 rfl rfl rfl rfl (.litR rfl sl_22_A ze_2_E rfl rfl (by omega) (by omega) rfl rfl) ?_
        rintro _ H96x3 ⟨g96x3, rfl, le96x3, ge96x3, at96x3⟩
        replace hbl := hbl.trans le96x3
        refine ⟨hbl, ?_⟩
        have nx_H96x3 := le96x3.1
        replace hle := hle.trans le96x3
        replace lst1 := lst1.le le96x3
        replace lst2 := lst2.le le96x3
        replace lst3 := lst3.le le96x3
        replace hf0 := hf0.le le96x3
        replace at2 := le96x3.2 _ _ at2
        replace at34 := le96x3.2 _ _ at34
        replace at62 := le96x3.2 _ _ at62
        replace at_L10 := le96x3.2 _ _ at_L10
        replace at82 := le96x3.2 _ _ at82
        replace lv_v29 := Keep.le lv_v29 le96x3
        replace v29 := bs_v29.keep lv_v29 (Nat.le_refl _)
        have lt_at96x3 := GHeap.lt_of_get at96x3
        replace hin := base_hin.mono hle
        clear hb2 fsh2 c52 c62 i12 i22 hm2 hi2 hmsh2 hish2
        have hb2 : SFun.At _ g2 0 f p := ⟨Mem.of_get at2, hin⟩
        obtain ⟨fsh2, c52, c62, i12, i22⟩ := hb2.get
        have hm2 : MemN _ _ _ _ _ := ⟨rfl, hb2.1⟩
        have hi2 := hb2.2
        have hmsh2 : MemN _ _ _ _ _ := ⟨rfl, fsh2.1⟩
        have hish2 := fsh2.2
        clear s1 s2 si1 si2
        obtain ⟨-, s1, s2, -, -, si1, si2, -, -⟩ := fsh2.get
        clear i29
        have i29 := v29.intss
        clear i37
        have i37 := Ints.of_get at37
        clear u2
        have u2 := i22.2 a (by omega)
        clear i62
        have i62 := Ints.of_get at62
        refine .orI ?_ ?_
        ·
         refine .c1 rfl rfl rfl rfl (.litR rfl sl_23_B ze_22_E rfl rfl (by omega) (by omega) rfl rfl) ?_
         rintro _ H83x2 ⟨g83x2, rfl, le83x2, ge83x2, at83x2⟩
         replace hbl := hbl.trans le83x2
         refine ⟨hbl, ?_⟩
         have nx_H83x2 := le83x2.1
         replace hle := hle.trans le83x2
         replace lst1 := lst1.le le83x2
         replace lst2 := lst2.le le83x2
         replace lst3 := lst3.le le83x2
         replace hf0 := hf0.le le83x2
         replace at2 := le83x2.2 _ _ at2
         replace at34 := le83x2.2 _ _ at34
         replace at62 := le83x2.2 _ _ at62
         replace at_L10 := le83x2.2 _ _ at_L10
         replace at82 := le83x2.2 _ _ at82
         replace at96x3 := le83x2.2 _ _ at96x3
         replace lv_v29 := Keep.le lv_v29 le83x2
         replace v29 := bs_v29.keep lv_v29 (Nat.le_refl _)
         have lt_at83x2 := GHeap.lt_of_get at83x2
         replace hin := base_hin.mono hle
         clear hb2 fsh2 c52 c62 i12 i22 hm2 hi2 hmsh2 hish2
         have hb2 : SFun.At _ g2 0 f p := ⟨Mem.of_get at2, hin⟩
         obtain ⟨fsh2, c52, c62, i12, i22⟩ := hb2.get
         have hm2 : MemN _ _ _ _ _ := ⟨rfl, hb2.1⟩
         have hi2 := hb2.2
         have hmsh2 : MemN _ _ _ _ _ := ⟨rfl, fsh2.1⟩
         have hish2 := fsh2.2
         clear s1 s2 si1 si2
         obtain ⟨-, s1, s2, -, -, si1, si2, -, -⟩ := fsh2.get
         clear i29
         have i29 := v29.intss
         clear i37
         have i37 := Ints.of_get at37
         clear u2
         have u2 := i22.2 a (by omega)
         clear i62
         have i62 := Ints.of_get at62
         refine .orI ?_ ?_
         ·
          refine .callQ1 rfl rfl rfl rfl rfl @Try.call96 rfl (key_c (xs := glT f a e ((f.sh.hom (f.sh.tgt.getD a 0) y).getD i 0)) (by assumption) (Ints.of_get (xs := glT f a e ((f.sh.hom (f.sh.tgt.getD a 0) y).getD i 0)) (by assumption)) rfl (fun j hj => kb1.2 j hj) (by show 3 ≤ 1000; omega)) hbl ?_
          refine .m rfl rfl rfl rfl hbl (.lookupS mps_117_Ke zv_2_Pb rfl rfl (by assumption)) ?_
          refine .c1 rfl rfl rfl rfl (.litR rfl sl_23_B ze_22_E rfl rfl (by omega) (by omega) rfl rfl) ?_
          rintro _ H97x4 ⟨g97x4, rfl, le97x4, ge97x4, at97x4⟩
          have hbl := le97x4
          refine ⟨hbl, ?_⟩
          have nx_H97x4 := le97x4.1
          replace hle := hle.trans le97x4
          replace lst1 := lst1.le le97x4
          replace lst2 := lst2.le le97x4
          replace lst3 := lst3.le le97x4
          replace hf0 := hf0.le le97x4
          replace at2 := le97x4.2 _ _ at2
          replace at34 := le97x4.2 _ _ at34
          replace at62 := le97x4.2 _ _ at62
          replace at_L10 := le97x4.2 _ _ at_L10
          replace at82 := le97x4.2 _ _ at82
          replace at96x3 := le97x4.2 _ _ at96x3
          replace at83x2 := le97x4.2 _ _ at83x2
          replace lv_v29 := Keep.le lv_v29 le97x4
          replace v29 := bs_v29.keep lv_v29 (Nat.le_refl _)
          have lt_at97x4 := GHeap.lt_of_get at97x4
          replace hin := base_hin.mono hle
          clear hb2 fsh2 c52 c62 i12 i22 hm2 hi2 hmsh2 hish2
          have hb2 : SFun.At _ g2 0 f p := ⟨Mem.of_get at2, hin⟩
          obtain ⟨fsh2, c52, c62, i12, i22⟩ := hb2.get
          have hm2 : MemN _ _ _ _ _ := ⟨rfl, hb2.1⟩
          have hi2 := hb2.2
          have hmsh2 : MemN _ _ _ _ _ := ⟨rfl, fsh2.1⟩
          have hish2 := fsh2.2
          clear s1 s2 si1 si2
          obtain ⟨-, s1, s2, -, -, si1, si2, -, -⟩ := fsh2.get
          clear i29
          have i29 := v29.intss
          clear i37
          have i37 := Ints.of_get at37
          clear u2
          have u2 := i22.2 a (by omega)
          clear i62
          have i62 := Ints.of_get at62
          refine .callQ1 rfl rfl rfl rfl rfl @Try.call96 rfl (key_c (xs := glU f a e ((f.sh.hom (f.sh.tgt.getD a 0) y).getD i 0)) (by assumption) (Ints.of_get (xs := glU f a e ((f.sh.hom (f.sh.tgt.getD a 0) y).getD i 0)) (by assumption)) rfl (fun j hj => kb2.2 j hj) (by show 3 ≤ 1000; omega)) hbl ?_
          refine .m rfl rfl rfl rfl hbl (.lookupS mps_117_Ke zv_2_Pb rfl rfl (by assumption)) ?_
          refine .call0 rfl rfl rfl rfl rfl @Try.call95 rfl (join_c (hK := hJ)) ?_
          rintro _ H100x4 ⟨⟨b100x4, rfl⟩, st100x4, js100x4, at100x4, hK100x4⟩
          have nx_H100x4 := st100x4.nx
          replace hle := hle.st st100x4 (fun k hk => ⟨by omega, trivial⟩)
          replace lst1 := lst1.st st100x4 (fun k hk ho => by simp only [out, and_true] at ho ⊢ <;> first | omega | (first | exact ho | exact ho.1 | exact ho.2 | exact ho.2.1 | exact ho.2.2 | exact ho.2.2.1 | exact ho.2.2.2))
          replace lst2 := lst2.st st100x4 (fun k hk ho => by simp only [out, and_true] at ho ⊢ <;> first | omega | (first | exact ho | exact ho.1 | exact ho.2 | exact ho.2.1 | exact ho.2.2 | exact ho.2.2.1 | exact ho.2.2.2))
          replace lst3 := lst3.st st100x4 (fun k hk ho => by simp only [out, and_true] at ho ⊢ <;> first | omega | (first | exact ho | exact ho.1 | exact ho.2 | exact ho.2.1 | exact ho.2.2 | exact ho.2.2.1 | exact ho.2.2.2))
          replace hf0 := hf0.st st100x4 (fun k hk ho => by simp only [out, and_true] at ho ⊢ <;> first | omega | (first | exact ho | exact ho.1 | exact ho.2 | exact ho.2.1 | exact ho.2.2 | exact ho.2.2.1 | exact ho.2.2.2))
          replace at2 := st100x4.same _ _ ⟨ne_g2_g37, trivial⟩ at2
          replace at34 := st100x4.same _ _ ⟨ne_g34_g37, trivial⟩ at34
          replace at62 := st100x4.same _ _ ⟨ne_g62_g37, trivial⟩ at62
          have ne_g82_g37 : g82 ≠ g37 := by omega
          replace at82 := st100x4.same _ _ ⟨ne_g82_g37, trivial⟩ at82
          have ne_g96x3_g37 : g96x3 ≠ g37 := by omega
          replace at96x3 := st100x4.same _ _ ⟨ne_g96x3_g37, trivial⟩ at96x3
          have ne_g83x2_g37 : g83x2 ≠ g37 := by omega
          replace at83x2 := st100x4.same _ _ ⟨ne_g83x2_g37, trivial⟩ at83x2
          have ne_g97x4_g37 : g97x4 ≠ g37 := by omega
          replace at97x4 := st100x4.same _ _ ⟨ne_g97x4_g37, trivial⟩ at97x4
          replace lv_v29 := Keep.st lv_v29 st100x4 (fun k hb hk => ⟨(by omega), trivial⟩)
          replace v29 := bs_v29.keep lv_v29 (Nat.le_refl _)
          have lt_at100x4 := GHeap.lt_of_get at100x4
          replace hin := base_hin.mono hle
          clear hb2 fsh2 c52 c62 i12 i22 hm2 hi2 hmsh2 hish2
          have hb2 : SFun.At _ g2 0 f p := ⟨Mem.of_get at2, hin⟩
          obtain ⟨fsh2, c52, c62, i12, i22⟩ := hb2.get
          have hm2 : MemN _ _ _ _ _ := ⟨rfl, hb2.1⟩
          have hi2 := hb2.2
          have hmsh2 : MemN _ _ _ _ _ := ⟨rfl, fsh2.1⟩
          have hish2 := fsh2.2
          clear s1 s2 si1 si2
          obtain ⟨-, s1, s2, -, -, si1, si2, -, -⟩ := fsh2.get
          clear i29
          have i29 := v29.intss
          clear i37
          have i37 := Ints.of_get at37
          clear u2
          have u2 := i22.2 a (by omega)
          clear i62
          have i62 := Ints.of_get at62
          refine .done ?_
          exact ⟨_, ⟨rfl, rfl, rfl, rfl, rfl, rfl, rfl, rfl, rfl, rfl, rfl, rfl, rfl, rfl, rfl, rfl, rfl, rfl, rfl, rfl, rfl, trivial⟩, hf0, at100x4, (by rw [hp1, hp2] at hK100x4; exact hK100x4)⟩
         refine .c1 rfl rfl rfl rfl (.litR rfl sl_23_B ze_22_E rfl rfl (by omega) (by omega) rfl rfl) ?_
         rintro _ H97x5 ⟨g97x5, rfl, le97x5, ge97x5, at97x5⟩
         replace hbl := hbl.trans le97x5
         refine ⟨hbl, ?_⟩
         have nx_H97x5 := le97x5.1
         replace hle := hle.trans le97x5
         replace lst1 := lst1.le le97x5
         replace lst2 := lst2.le le97x5
         replace lst3 := lst3.le le97x5
         replace hf0 := hf0.le le97x5
         replace at2 := le97x5.2 _ _ at2
         replace at34 := le97x5.2 _ _ at34
         replace at62 := le97x5.2 _ _ at62
         replace at_L10 := le97x5.2 _ _ at_L10
         replace at82 := le97x5.2 _ _ at82
         replace at96x3 := le97x5.2 _ _ at96x3
         replace at83x2 := le97x5.2 _ _ at83x2
         replace lv_v29 := Keep.le lv_v29 le97x5
         replace v29 := bs_v29.keep lv_v29 (Nat.le_refl _)
         have lt_at97x5 := GHeap.lt_of_get at97x5
         replace hin := base_hin.mono hle
         clear hb2 fsh2 c52 c62 i12 i22 hm2 hi2 hmsh2 hish2
         have hb2 : SFun.At _ g2 0 f p := ⟨Mem.of_get at2, hin⟩
         obtain ⟨fsh2, c52, c62, i12, i22⟩ := hb2.get
         have hm2 : MemN _ _ _ _ _ := ⟨rfl, hb2.1⟩
         have hi2 := hb2.2
         have hmsh2 : MemN _ _ _ _ _ := ⟨rfl, fsh2.1⟩
         have hish2 := fsh2.2
         clear s1 s2 si1 si2
         obtain ⟨-, s1, s2, -, -, si1, si2, -, -⟩ := fsh2.get
         clear i29
         have i29 := v29.intss
         clear i37
         have i37 := Ints.of_get at37
         clear u2
         have u2 := i22.2 a (by omega)
         clear i62
         have i62 := Ints.of_get at62
         refine .callQ1 rfl rfl rfl rfl rfl @Try.call96 rfl (key_c (xs := glT f a e ((f.sh.hom (f.sh.tgt.getD a 0) y).getD i 0)) (by assumption) (Ints.of_get (xs := glT f a e ((f.sh.hom (f.sh.tgt.getD a 0) y).getD i 0)) (by assumption)) rfl (fun j hj => kb1.2 j hj) (by show 3 ≤ 1000; omega)) hbl ?_
         refine .m rfl rfl rfl rfl hbl (.lookupS mps_117_Ke zv_2_Pb rfl rfl (by assumption)) ?_
         refine .callQ1 rfl rfl rfl rfl rfl @Try.call96 rfl (key_c (xs := glU f a e ((f.sh.hom (f.sh.tgt.getD a 0) y).getD i 0)) (by assumption) (Ints.of_get (xs := glU f a e ((f.sh.hom (f.sh.tgt.getD a 0) y).getD i 0)) (by assumption)) rfl (fun j hj => kb2.2 j hj) (by show 3 ≤ 1000; omega)) (.refl _) ?_
         refine .m rfl rfl rfl rfl (.refl _) (.lookupS mps_117_Ke zv_2_Pb rfl rfl (by assumption)) ?_
         refine .call0 rfl rfl rfl rfl rfl @Try.call95 rfl (join_c (hK := hJ)) ?_
         rintro _ H100x5 ⟨⟨b100x5, rfl⟩, st100x5, js100x5, at100x5, hK100x5⟩
         have nx_H100x5 := st100x5.nx
         replace hle := hle.st st100x5 (fun k hk => ⟨by omega, trivial⟩)
         replace lst1 := lst1.st st100x5 (fun k hk ho => by simp only [out, and_true] at ho ⊢ <;> first | omega | (first | exact ho | exact ho.1 | exact ho.2 | exact ho.2.1 | exact ho.2.2 | exact ho.2.2.1 | exact ho.2.2.2))
         replace lst2 := lst2.st st100x5 (fun k hk ho => by simp only [out, and_true] at ho ⊢ <;> first | omega | (first | exact ho | exact ho.1 | exact ho.2 | exact ho.2.1 | exact ho.2.2 | exact ho.2.2.1 | exact ho.2.2.2))
         replace lst3 := lst3.st st100x5 (fun k hk ho => by simp only [out, and_true] at ho ⊢ <;> first | omega | (first | exact ho | exact ho.1 | exact ho.2 | exact ho.2.1 | exact ho.2.2 | exact ho.2.2.1 | exact ho.2.2.2))
         replace hf0 := hf0.st st100x5 (fun k hk ho => by simp only [out, and_true] at ho ⊢ <;> first | omega | (first | exact ho | exact ho.1 | exact ho.2 | exact ho.2.1 | exact ho.2.2 | exact ho.2.2.1 | exact ho.2.2.2))
         replace at2 := st100x5.same _ _ ⟨ne_g2_g37, trivial⟩ at2
         replace at34 := st100x5.same _ _ ⟨ne_g34_g37, trivial⟩ at34
         replace at62 := st100x5.same _ _ ⟨ne_g62_g37, trivial⟩ at62
         have ne_g82_g37 : g82 ≠ g37 := by omega
         replace at82 := st100x5.same _ _ ⟨ne_g82_g37, trivial⟩ at82
         have ne_g96x3_g37 : g96x3 ≠ g37 := by omega
         replace at96x3 := st100x5.same _ _ ⟨ne_g96x3_g37, trivial⟩ at96x3
         have ne_g83x2_g37 : g83x2 ≠ g37 := by omega
         replace at83x2 := st100x5.same _ _ ⟨ne_g83x2_g37, trivial⟩ at83x2
         have ne_g97x5_g37 : g97x5 ≠ g37 := by omega
         replace at97x5 := st100x5.same _ _ ⟨ne_g97x5_g37, trivial⟩ at97x5
         replace lv_v29 := Keep.st lv_v29 st100x5 (fun k hb hk => ⟨(by omega), trivial⟩)
         replace v29 := bs_v29.keep lv_v29 (Nat.le_refl _)
         have lt_at100x5 := GHeap.lt_of_get at100x5
         replace hin := base_hin.mono hle
         clear hb2 fsh2 c52 c62 i12 i22 hm2 hi2 hmsh2 hish2
         have hb2 : SFun.At _ g2 0 f p := ⟨Mem.of_get at2, hin⟩
         obtain ⟨fsh2, c52, c62, i12, i22⟩ := hb2.get
         have hm2 : MemN _ _ _ _ _ := ⟨rfl, hb2.1⟩
         have hi2 := hb2.2
         have hmsh2 : MemN _ _ _ _ _ := ⟨rfl, fsh2.1⟩
         have hish2 := fsh2.2
         clear s1 s2 si1 si2
         obtain ⟨-, s1, s2, -, -, si1, si2, -, -⟩ := fsh2.get
         clear i29
         have i29 := v29.intss
         clear i37
         have i37 := Ints.of_get at37
         clear u2
         have u2 := i22.2 a (by omega)
         clear i62
         have i62 := Ints.of_get at62
         refine .done ?_
         exact ⟨_, ⟨rfl, rfl, rfl, rfl, rfl, rfl, rfl, rfl, rfl, rfl, rfl, rfl, rfl, rfl, rfl, rfl, rfl, rfl, rfl, rfl, rfl, trivial⟩, hf0, at100x5, (by rw [hp1, hp2] at hK100x5; exact hK100x5)⟩
        refine .c1 rfl rfl rfl rfl (.litR rfl sl_23_B ze_22_E rfl rfl (by omega) (by omega) rfl rfl) ?_
        rintro _ H97x6 ⟨g97x6, rfl, le97x6, ge97x6, at97x6⟩
        replace hbl := hbl.trans le97x6
        refine ⟨hbl, ?_⟩
        have nx_H97x6 := le97x6.1
        replace hle := hle.trans le97x6
        replace lst1 := lst1.le le97x6
        replace lst2 := lst2.le le97x6
        replace lst3 := lst3.le le97x6
        replace hf0 := hf0.le le97x6
        replace at2 := le97x6.2 _ _ at2
        replace at34 := le97x6.2 _ _ at34
        replace at62 := le97x6.2 _ _ at62
        replace at_L10 := le97x6.2 _ _ at_L10
        replace at82 := le97x6.2 _ _ at82
        replace at96x3 := le97x6.2 _ _ at96x3
        replace lv_v29 := Keep.le lv_v29 le97x6
        replace v29 := bs_v29.keep lv_v29 (Nat.le_refl _)
        have lt_at97x6 := GHeap.lt_of_get at97x6
        replace hin := base_hin.mono hle
        clear hb2 fsh2 c52 c62 i12 i22 hm2 hi2 hmsh2 hish2
        have hb2 : SFun.At _ g2 0 f p := ⟨Mem.of_get at2, hin⟩
        obtain ⟨fsh2, c52, c62, i12, i22⟩ := hb2.get
        have hm2 : MemN _ _ _ _ _ := ⟨rfl, hb2.1⟩
        have hi2 := hb2.2
        have hmsh2 : MemN _ _ _ _ _ := ⟨rfl, fsh2.1⟩
        have hish2 := fsh2.2
        clear s1 s2 si1 si2
        obtain ⟨-, s1, s2, -, -, si1, si2, -, -⟩ := fsh2.get
        clear i29
        have i29 := v29.intss
        clear i37
        have i37 := Ints.of_get at37
        clear u2
        have u2 := i22.2 a (by omega)
        clear i62
        have i62 := Ints.of_get at62
        refine .c1 rfl rfl rfl rfl (.litR rfl sl_23_B ze_22_E rfl rfl (by omega) (by omega) rfl rfl) ?_
        rintro _ H83x3 ⟨g83x3, rfl, le83x3, ge83x3, at83x3⟩
        replace hbl := hbl.trans le83x3
        refine ⟨hbl, ?_⟩
        have nx_H83x3 := le83x3.1
        replace hle := hle.trans le83x3
        replace lst1 := lst1.le le83x3
        replace lst2 := lst2.le le83x3
        replace lst3 := lst3.le le83x3
        replace hf0 := hf0.le le83x3
        replace at2 := le83x3.2 _ _ at2
        replace at34 := le83x3.2 _ _ at34
        replace at62 := le83x3.2 _ _ at62
        replace at_L10 := le83x3.2 _ _ at_L10
        replace at82 := le83x3.2 _ _ at82
        replace at96x3 := le83x3.2 _ _ at96x3
        replace at97x6 := le83x3.2 _ _ at97x6
        replace lv_v29 := Keep.le lv_v29 le83x3
        replace v29 := bs_v29.keep lv_v29 (Nat.le_refl _)
        have lt_at83x3 := GHeap.lt_of_get at83x3
        replace hin := base_hin.mono hle
        clear hb2 fsh2 c52 c62 i12 i22 hm2 hi2 hmsh2 hish2
        have hb2 : SFun.At _ g2 0 f p := ⟨Mem.of_get at2, hin⟩
        obtain ⟨fsh2, c52, c62, i12, i22⟩ := hb2.get
        have hm2 : MemN _ _ _ _ _ := ⟨rfl, hb2.1⟩
        have hi2 := hb2.2
        have hmsh2 : MemN _ _ _ _ _ := ⟨rfl, fsh2.1⟩
        have hish2 := fsh2.2
        clear s1 s2 si1 si2
        obtain ⟨-, s1, s2, -, -, si1, si2, -, -⟩ := fsh2.get
        clear i29
        have i29 := v29.intss
        clear i37
        have i37 := Ints.of_get at37
        clear u2
        have u2 := i22.2 a (by omega)
        clear i62
        have i62 := Ints.of_get at62
        refine .callQ1 rfl rfl rfl rfl rfl @Try.call96 rfl (key_c (xs := glT f a e ((f.sh.hom (f.sh.tgt.getD a 0) y).getD i 0)) (by assumption) (Ints.of_get (xs := glT f a e ((f.sh.hom (f.sh.tgt.getD a 0) y).getD i 0)) (by assumption)) rfl (fun j hj => kb1.2 j hj) (by show 3 ≤ 1000; omega)) hbl ?_
        refine .m rfl rfl rfl rfl hbl (.lookupS mps_117_Ke zv_2_Pb rfl rfl (by assumption)) ?_
        refine .callQ1 rfl rfl rfl rfl rfl @Try.call96 rfl (key_c (xs := glU f a e ((f.sh.hom (f.sh.tgt.getD a 0) y).getD i 0)) (by assumption) (Ints.of_get (xs := glU f a e ((f.sh.hom (f.sh.tgt.getD a 0) y).getD i 0)) (by assumption)) rfl (fun j hj => kb2.2 j hj) (by show 3 ≤ 1000; omega)) (.refl _) ?_
        refine .m rfl rfl rfl rfl (.refl _) (.lookupS mps_117_Ke zv_2_Pb rfl rfl (by assumption)) ?_
        refine .call0 rfl rfl rfl rfl rfl @Try.call95 rfl (join_c (hK := hJ)) ?_
        rintro _ H100x6 ⟨⟨b100x6, rfl⟩, st100x6, js100x6, at100x6, hK100x6⟩
        have nx_H100x6 := st100x6.nx
        replace hle := hle.st st100x6 (fun k hk => ⟨by omega, trivial⟩)
        replace lst1 := lst1.st st100x6 (fun k hk ho => by simp only [out, and_true] at ho ⊢ <;> first | omega | (first | exact ho | exact ho.1 | exact ho.2 | exact ho.2.1 | exact ho.2.2 | exact ho.2.2.1 | exact ho.2.2.2))
        replace lst2 := lst2.st st100x6 (fun k hk ho => by simp only [out, and_true] at ho ⊢ <;> first | omega | (first | exact ho | exact ho.1 | exact ho.2 | exact ho.2.1 | exact ho.2.2 | exact ho.2.2.1 | exact ho.2.2.2))
        replace lst3 := lst3.st st100x6 (fun k hk ho => by simp only [out, and_true] at ho ⊢ <;> first | omega | (first | exact ho | exact ho.1 | exact ho.2 | exact ho.2.1 | exact ho.2.2 | exact ho.2.2.1 | exact ho.2.2.2))
        replace hf0 := hf0.st st100x6 (fun k hk ho => by simp only [out, and_true] at ho ⊢ <;> first | omega | (first | exact ho | exact ho.1 | exact ho.2 | exact ho.2.1 | exact ho.2.2 | exact ho.2.2.1 | exact ho.2.2.2))
        replace at2 := st100x6.same _ _ ⟨ne_g2_g37, trivial⟩ at2
        replace at34 := st100x6.same _ _ ⟨ne_g34_g37, trivial⟩ at34
        replace at62 := st100x6.same _ _ ⟨ne_g62_g37, trivial⟩ at62
        have ne_g82_g37 : g82 ≠ g37 := by omega
        replace at82 := st100x6.same _ _ ⟨ne_g82_g37, trivial⟩ at82
        have ne_g96x3_g37 : g96x3 ≠ g37 := by omega
        replace at96x3 := st100x6.same _ _ ⟨ne_g96x3_g37, trivial⟩ at96x3
        have ne_g97x6_g37 : g97x6 ≠ g37 := by omega
        replace at97x6 := st100x6.same _ _ ⟨ne_g97x6_g37, trivial⟩ at97x6
        have ne_g83x3_g37 : g83x3 ≠ g37 := by omega
        replace at83x3 := st100x6.same _ _ ⟨ne_g83x3_g37, trivial⟩ at83x3
        replace lv_v29 := Keep.st lv_v29 st100x6 (fun k hb hk => ⟨(by omega), trivial⟩)
        replace v29 := bs_v29.keep lv_v29 (Nat.le_refl _)
        have lt_at100x6 := GHeap.lt_of_get at100x6
        replace hin := base_hin.mono hle
        clear hb2 fsh2 c52 c62 i12 i22 hm2 hi2 hmsh2 hish2
        have hb2 : SFun.At _ g2 0 f p := ⟨Mem.of_get at2, hin⟩
        obtain ⟨fsh2, c52, c62, i12, i22⟩ := hb2.get
        have hm2 : MemN _ _ _ _ _ := ⟨rfl, hb2.1⟩
        have hi2 := hb2.2
        have hmsh2 : MemN _ _ _ _ _ := ⟨rfl, fsh2.1⟩
        have hish2 := fsh2.2
        clear s1 s2 si1 si2
        obtain ⟨-, s1, s2, -, -, si1, si2, -, -⟩ := fsh2.get
        clear i29
        have i29 := v29.intss
        clear i37
        have i37 := Ints.of_get at37
        clear u2
        have u2 := i22.2 a (by omega)
        clear i62
        have i62 := Ints.of_get at62
        refine .done ?_
        exact ⟨_, ⟨rfl, rfl, rfl, rfl, rfl, rfl, rfl, rfl, rfl, rfl, rfl, rfl, rfl, rfl, rfl, rfl, rfl, rfl, rfl, rfl, rfl, trivial⟩, hf0, at100x6, (by rw [hp1, hp2] at hK100x6; exact hK100x6)⟩
       refine .c1 rfl rfl rfl rfl (.litR rfl sl_22_A ze_2_E rfl rfl (by omega) (by omega) rfl rfl) ?_
       rintro _ H96x4 ⟨g96x4, rfl, le96x4, ge96x4, at96x4⟩
       have hbl := le96x4
       refine ⟨hbl, ?_⟩
       have nx_H96x4 := le96x4.1
       replace hle := hle.trans le96x4
       replace lst1 := lst1.le le96x4
       replace lst2 := lst2.le le96x4
       replace lst3 := lst3.le le96x4
       replace hf0 := hf0.le le96x4
       replace at2 := le96x4.2 _ _ at2
       replace at34 := le96x4.2 _ _ at34
       replace at62 := le96x4.2 _ _ at62
       replace at_L10 := le96x4.2 _ _ at_L10
       replace lv_v29 := Keep.le lv_v29 le96x4
       replace v29 := bs_v29.keep lv_v29 (Nat.le_refl _)
       have lt_at96x4 := GHeap.lt_of_get at96x4
       replace hin := base_hin.mono hle
       clear hb2 fsh2 c52 c62 i12 i22 hm2 hi2 hmsh2 hish2
       have hb2 : SFun.At _ g2 0 f p := ⟨Mem.of_get at2, hin⟩
       obtain ⟨fsh2, c52, c62, i12, i22⟩ := hb2.get
       have hm2 : MemN _ _ _ _ _ := ⟨rfl, hb2.1⟩
       have hi2 := hb2.2
       have hmsh2 : MemN _ _ _ _ _ := ⟨rfl, fsh2.1⟩
       have hish2 := fsh2.2
       clear s1 s2 si1 si2
       obtain ⟨-, s1, s2, -, -, si1, si2, -, -⟩ := fsh2.get
       clear i29
       have i29 := v29.intss
       clear i37
       have i37 := Ints.of_get at37
       clear u2
       have u2 := i22.2 a (by omega)
       clear i62
       have i62 := Ints.of_get at62
       refine .orI ?_ ?_
       ·
        refine .c1 rfl rfl rfl rfl (.litR rfl sl_22_A ze_2_E rfl rfl (by omega) (by omega) rfl rfl) ?_
        rintro _ H82x2 ⟨g82x2, rfl, le82x2, ge82x2, at82x2⟩
        replace hbl := hbl.trans le82x2
        refine ⟨hbl, ?_⟩
        have nx_H82x2 := le82x2.1
        replace hle := hle.trans le82x2
        replace lst1 := lst1.le le82x2
        replace lst2 := lst2.le le82x2
        replace lst3 := lst3.le le82x2
        replace hf0 := hf0.le le82x2
        replace at2 := le82x2.2 _ _ at2
        replace at34 := le82x2.2 _ _ at34
        replace at62 := le82x2.2 _ _ at62
        replace at_L10 := le82x2.2 _ _ at_L10
        replace at96x4 := le82x2.2 _ _ at96x4
        replace lv_v29 := Keep.le lv_v29 le82x2
        replace v29 := bs_v29.keep lv_v29 (Nat.le_refl _)
        have lt_at82x2 := GHeap.lt_of_get at82x2
        replace hin := base_hin.mono hle
        clear hb2 fsh2 c52 c62 i12 i22 hm2 hi2 hmsh2 hish2
        have hb2 : SFun.At _ g2 0 f p := ⟨Mem.of_get at2, hin⟩
        obtain ⟨fsh2, c52, c62, i12, i22⟩ := hb2.get
        have hm2 : MemN _ _ _ _ _ := ⟨rfl, hb2.1⟩
        have hi2 := hb2.2
        have hmsh2 : MemN _ _ _ _ _ := ⟨rfl, fsh2.1⟩
        have hish2 := fsh2.2
        clear s1 s2 si1 si2
        obtain ⟨-, s1, s2, -, -, si1, si2, -, -⟩ := fsh2.get
        clear i29
        have i29 := v29.intss
        clear i37
        have i37 := Ints.of_get at37
        clear u2
        have u2 := i22.2 a (by omega)
        clear i62
        have i62 := Ints.of_get at62
        refine .orI ?_ ?_
        ·
         refine .c1 rfl rfl rfl rfl (.litR rfl sl_23_B ze_22_E rfl rfl (by omega) (by omega) rfl rfl) ?_
         rintro _ H83x4 ⟨g83x4, rfl, le83x4, ge83x4, at83x4⟩
         replace hbl := hbl.trans le83x4
         refine ⟨hbl, ?_⟩
         have nx_H83x4 := le83x4.1
         replace hle := hle.trans le83x4
         replace lst1 := lst1.le le83x4
         replace lst2 := lst2.le le83x4
         replace lst3 := lst3.le le83x4
         replace hf0 := hf0.le le83x4
         replace at2 := le83x4.2 _ _ at2
         replace at34 := le83x4.2 _ _ at34
         replace at62 := le83x4.2 _ _ at62
         replace at_L10 := le83x4.2 _ _ at_L10
         replace at96x4 := le83x4.2 _ _ at96x4
         replace at82x2 := le83x4.2 _ _ at82x2
         replace lv_v29 := Keep.le lv_v29 le83x4
         replace v29 := bs_v29.keep lv_v29 (Nat.le_refl _)
         have lt_at83x4 := GHeap.lt_of_get at83x4
         replace hin := base_hin.mono hle
         clear hb2 fsh2 c52 c62 i12 i22 hm2 hi2 hmsh2 hish2
         have hb2 : SFun.At _ g2 0 f p := ⟨Mem.of_get at2, hin⟩
         obtain ⟨fsh2, c52, c62, i12, i22⟩ := hb2.get
         have hm2 : MemN _ _ _ _ _ := ⟨rfl, hb2.1⟩
         have hi2 := hb2.2
         have hmsh2 : MemN _ _ _ _ _ := ⟨rfl, fsh2.1⟩
         have hish2 := fsh2.2
         clear s1 s2 si1 si2
         obtain ⟨-, s1, s2, -, -, si1, si2, -, -⟩ := fsh2.get
         clear i29
         have i29 := v29.intss
         clear i37
         have i37 := Ints.of_get at37
         clear u2
         have u2 := i22.2 a (by omega)
         clear i62
         have i62 := Ints.of_get at62
         refine .orI ?_ ?_
         ·
          refine .callQ1 rfl rfl rfl rfl rfl @Try.call96 rfl (key_c (xs := glT f a e ((f.sh.hom (f.sh.tgt.getD a 0) y).getD i 0)) (by assumption) (Ints.of_get (xs := glT f a e ((f.sh.hom (f.sh.tgt.getD a 0) y).getD i 0)) (by assumption)) rfl (fun j hj => kb1.2 j hj) (by show 3 ≤ 1000; omega)) hbl ?_
          refine .m rfl rfl rfl rfl hbl (.lookupS mps_117_Ke zv_2_Pb rfl rfl (by assumption)) ?_
          refine .c1 rfl rfl rfl rfl (.litR rfl sl_23_B ze_22_E rfl rfl (by omega) (by omega) rfl rfl) ?_
          rintro _ H97x7 ⟨g97x7, rfl, le97x7, ge97x7, at97x7⟩
          have hbl := le97x7
          refine ⟨hbl, ?_⟩
          have nx_H97x7 := le97x7.1
          replace hle := hle.trans le97x7
          replace lst1 := lst1.le le97x7
          replace lst2 := lst2.le le97x7
          replace lst3 := lst3.le le97x7
          replace hf0 := hf0.le le97x7
          replace at2 := le97x7.2 _ _ at2
          replace at34 := le97x7.2 _ _ at34
          replace at62 := le97x7.2 _ _ at62
          replace at_L10 := le97x7.2 _ _ at_L10
          replace at96x4 := le97x7.2 _ _ at96x4
          replace at82x2 := le97x7.2 _ _ at82x2
          replace at83x4 := le97x7.2 _ _ at83x4
          replace lv_v29 := Keep.le lv_v29 le97x7
          replace v29 := bs_v29.keep lv_v29 (Nat.le_refl _)
          have lt_at97x7 := GHeap.lt_of_get at97x7
          replace hin := base_hin.mono hle
          clear hb2 fsh2 c52 c62 i12 i22 hm2 hi2 hmsh2 hish2
          have hb2 : SFun.At _ g2 0 f p := ⟨Mem.of_get at2, hin⟩
          obtain ⟨fsh2, c52, c62, i12, i22⟩ := hb2.get
          have hm2 : MemN _ _ _ _ _ := ⟨rfl, hb2.1⟩
          have hi2 := hb2.2
          have hmsh2 : MemN _ _ _ _ _ := ⟨rfl, fsh2.1⟩
          have hish2 := fsh2.2
          clear s1 s2 si1 si2
          obtain ⟨-, s1, s2, -, -, si1, si2, -, -⟩ := fsh2.get
          clear i29
          have i29 := v29.intss
          clear i37
          have i37 := Ints.of_get at37
          clear u2
          have u2 := i22.2 a (by omega)
          clear i62
          have i62 := Ints.of_get at62
          refine .callQ1 rfl rfl rfl rfl rfl @Try.call96 rfl (key_c (xs := glU f a e ((f.sh.hom (f.sh.tgt.getD a 0) y).getD i 0)) (by assumption) (Ints.of_get (xs := glU f a e ((f.sh.hom (f.sh.tgt.getD a 0) y).getD i 0)) (by assumption)) rfl (fun j hj => kb2.2 j hj) (by show 3 ≤ 1000; omega)) hbl ?_
          refine .m rfl rfl rfl rfl hbl (.lookupS mps_117_Ke zv_2_Pb rfl rfl (by assumption)) ?_
          refine .call0 rfl rfl rfl rfl rfl @Try.call95 rfl (join_c (hK := hJ)) ?_
          rintro _ H100x7 ⟨⟨b100x7, rfl⟩, st100x7, js100x7, at100x7, hK100x7⟩
          have nx_H100x7 := st100x7.nx
          replace hle := hle.st st100x7 (fun k hk => ⟨by omega, trivial⟩)
          replace lst1 := lst1.st st100x7 (fun k hk ho => by simp only [out, and_true] at ho ⊢ <;> first | omega | (first | exact ho | exact ho.1 | exact ho.2 | exact ho.2.1 | exact ho.2.2 | exact ho.2.2.1 | exact ho.2.2.2))
          replace lst2 := lst2.st st100x7 (fun k hk ho => by simp only [out, and_true] at ho ⊢ <;> first | omega | (first | exact ho | exact ho.1 | exact ho.2 | exact ho.2.1 | exact ho.2.2 | exact ho.2.2.1 | exact ho.2.2.2))
          replace lst3 := lst3.st st100x7 (fun k hk ho => by simp only [out, and_true] at ho ⊢ <;> first | omega | (first | exact ho | exact ho.1 | exact ho.2 | exact ho.2.1 | exact ho.2.2 | exact ho.2.2.1 | exact ho.2.2.2))
          replace hf0 := hf0.st st100x7 (fun k hk ho => by simp only [out, and_true] at ho ⊢ <;> first | omega | (first | exact ho | exact ho.1 | exact ho.2 | exact ho.2.1 | exact ho.2.2 | exact ho.2.2.1 | exact ho.2.2.2))
          replace at2 := st100x7.same _ _ ⟨ne_g2_g37, trivial⟩ at2
          replace at34 := st100x7.same _ _ ⟨ne_g34_g37, trivial⟩ at34
          replace at62 := st100x7.same _ _ ⟨ne_g62_g37, trivial⟩ at62
          have ne_g96x4_g37 : g96x4 ≠ g37 := by omega
          replace at96x4 := st100x7.same _ _ ⟨ne_g96x4_g37, trivial⟩ at96x4
          have ne_g82x2_g37 : g82x2 ≠ g37 := by omega
          replace at82x2 := st100x7.same _ _ ⟨ne_g82x2_g37, trivial⟩ at82x2
          have ne_g83x4_g37 : g83x4 ≠ g37 := by omega
          replace at83x4 := st100x7.same _ _ ⟨ne_g83x4_g37, trivial⟩ at83x4
          have ne_g97x7_g37 : g97x7 ≠ g37 := by omega
          replace at97x7 := st100x7.same _ _ ⟨ne_g97x7_g37, trivial⟩ at97x7
          replace lv_v29 := Keep.st lv_v29 st100x7 (fun k hb hk => ⟨(by omega), trivial⟩)
          replace v29 := bs_v29.keep lv_v29 (Nat.le_refl _)
          have lt_at100x7 := GHeap.lt_of_get at100x7
          replace hin := base_hin.mono hle
          clear hb2 fsh2 c52 c62 i12 i22 hm2 hi2 hmsh2 hish2
          have hb2 : SFun.At _ g2 0 f p := ⟨Mem.of_get at2, hin⟩
          obtain ⟨fsh2, c52, c62, i12, i22⟩ := hb2.get
          have hm2 : MemN _ _ _ _ _ := ⟨rfl, hb2.1⟩
          have hi2 := hb2.2
          have hmsh2 : MemN _ _ _ _ _ := ⟨rfl, fsh2.1⟩
          have hish2 := fsh2.2
          clear s1 s2 si1 si2
          obtain ⟨-, s1, s2, -, -, si1, si2, -, -⟩ := fsh2.get
          clear i29
          have i29 := v29.intss
          clear i37
          have i37 := Ints.of_get at37
          clear u2
          have u2 := i22.2 a (by omega)
          clear i62
          have i62 := Ints.of_get at62
          refine .done ?_
          exact ⟨_, ⟨rfl, rfl, rfl, rfl, rfl, rfl, rfl, rfl, rfl, rfl, rfl, rfl, rfl, rfl, rfl, rfl, rfl, rfl, rfl, rfl, rfl, trivial⟩, hf0, at100x7, (by rw [hp1, hp2] at hK100x7; exact hK100x7)⟩
         refine .c1 rfl rfl rfl rfl (.litR rfl sl_23_B ze_22_E rfl rfl (by omega) (by omega) rfl rfl) ?_
         rintro _ H97x8 ⟨g97x8, rfl, le97x8, ge97x8, at97x8⟩
         replace hbl := hbl.trans le97x8
         refine ⟨hbl, ?_⟩
         have nx_H97x8 := le97x8.1
         replace hle := hle.trans le97x8
         replace lst1 := lst1.le le97x8
         replace lst2 := lst2.le le97x8
         replace lst3 := lst3.le le97x8
         replace hf0 := hf0.le le97x8
         replace at2 := le97x8.2 _ _ at2
         replace at34 := le97x8.2 _ _ at34
         replace at62 := le97x8.2 _ _ at62
         replace at_L10 := le97x8.2 _ _ at_L10
         replace at96x4 := le97x8.2 _ _ at96x4
         replace at82x2 := le97x8.2 _ _ at82x2
         replace at83x4 := le97x8.2 _ _ at83x4
         replace lv_v29 := Keep.le lv_v29 le97x8
         replace v29 := bs_v29.keep lv_v29 (Nat.le_refl _)
         have lt_at97x8 := GHeap.lt_of_get at97x8
         replace hin := base_hin.mono hle
         clear hb2 fsh2 c52 c62 i12 i22 hm2 hi2 hmsh2 hish2
         have hb2 : SFun.At _ g2 0 f p := ⟨Mem.of_get at2, hin⟩
         obtain ⟨fsh2, c52, c62, i12, i22⟩ := hb2.get
         have hm2 : MemN _ _ _ _ _ := ⟨rfl, hb2.1⟩
         have hi2 := hb2.2
         have hmsh2 : MemN _ _ _ _ _ := ⟨rfl, fsh2.1⟩
         have hish2 := fsh2.2
         clear s1 s2 si1 si2
         obtain ⟨-, s1, s2, -, -, si1, si2, -, -⟩ := fsh2.get
         clear i29
         have i29 := v29.intss
         clear i37
         have i37 := Ints.of_get at37
         clear u2
         have u2 := i22.2 a (by omega)
         clear i62
         have i62 := Ints.of_get at62
         refine .callQ1 rfl rfl rfl rfl rfl @Try.call96 rfl (key_c (xs := glT f a e ((f.sh.hom (f.sh.tgt.getD a 0) y).getD i 0)) (by assumption) (Ints.of_get (xs := glT f a e ((f.sh.hom (f.sh.tgt.getD a 0) y).getD i 0)) (by assumption)) rfl (fun j hj => kb1.2 j hj) (by show 3 ≤ 1000; omega)) hbl ?_
         refine .m rfl rfl rfl rfl hbl (.lookupS mps_117_Ke zv_2_Pb rfl rfl (by assumption)) ?_
         refine .callQ1 rfl rfl rfl rfl rfl @Try.call96 rfl (key_c (xs := glU f a e ((f.sh.hom (f.sh.tgt.getD a 0) y).getD i 0)) (by assumption) (Ints.of_get (xs := glU f a e ((f.sh.hom (f.sh.tgt.getD a 0) y).getD i 0)) (by assumption)) rfl (fun j hj => kb2.2 j hj) (by show 3 ≤ 1000; omega)) (.refl _) ?_
         refine .m rfl rfl rfl rfl (.refl _) (.lookupS mps_117_Ke zv_2_Pb rfl rfl (by assumption)) ?_
         refine .call0 rfl rfl rfl rfl rfl @Try.call95 rfl (join_c (hK := hJ)) ?_
         rintro _ H100x8 ⟨⟨b100x8, rfl⟩, st100x8, js100x8, at100x8, hK100x8⟩
         have nx_H100x8 := st100x8.nx
         replace hle := hle.st st100x8 (fun k hk => ⟨by omega, trivial⟩)
         replace lst1 := lst1.st st100x8 (fun k hk ho => by simp only [out, and_true] at ho ⊢ <;> first | omega | (first | exact ho | exact ho.1 | exact ho.2 | exact ho.2.1 | exact ho.2.2 | exact ho.2.2.1 | exact ho.2.2.2))
         replace lst2 := lst2.st st100x8 (fun k hk ho => by simp only [out, and_true] at ho ⊢ <;> first | omega | (first | exact ho | exact ho.1 | exact ho.2 | exact ho.2.1 | exact ho.2.2 | exact ho.2.2.1 | exact ho.2.2.2))
         replace lst3 := lst3.st st100x8 (fun k hk ho => by simp only [out, and_true] at ho ⊢ <;> first | omega | (first | exact ho | exact ho.1 | exact ho.2 | exact ho.2.1 | exact ho.2.2 | exact ho.2.2.1 | exact ho.2.2.2))
         replace hf0 := hf0.st st100x8 (fun k hk ho => by simp only [out, and_true] at ho ⊢ <;> first | omega | (first | exact ho | exact ho.1 | exact ho.2 | exact ho.2.1 | exact ho.2.2 | exact ho.2.2.1 | exact ho.2.2.2))
         replace at2 := st100x8.same _ _ ⟨ne_g2_g37, trivial⟩ at2
         replace at34 := st100x8.same _ _ ⟨ne_g34_g37, trivial⟩ at34
         replace at62 := st100x8.same _ _ ⟨ne_g62_g37, trivial⟩ at62
         have ne_g96x4_g37 : g96x4 ≠ g37 := by omega
         replace at96x4 := st100x8.same _ _ ⟨ne_g96x4_g37, trivial⟩ at96x4
         have ne_g82x2_g37 : g82x2 ≠ g37 := by omega
         replace at82x2 := st100x8.same _ _ ⟨ne_g82x2_g37, trivial⟩ at82x2
         have ne_g83x4_g37 : g83x4 ≠ g37 := by omega
         replace at83x4 := st100x8.same _ _ ⟨ne_g83x4_g37, trivial⟩ at83x4
         have ne_g97x8_g37 : g97x8 ≠ g37 := by omega
         replace at97x8 := st100x8.same _ _ ⟨ne_g97x8_g37, trivial⟩ at97x8
         replace lv_v29 := Keep.st lv_v29 st100x8 (fun k hb hk => ⟨(by omega), trivial⟩)
         replace v29 := bs_v29.keep lv_v29 (Nat.le_refl _)
         have lt_at100x8 := GHeap.lt_of_get at100x8
         replace hin := base_hin.mono hle
         clear hb2 fsh2 c52 c62 i12 i22 hm2 hi2 hmsh2 hish2
         have hb2 : SFun.At _ g2 0 f p := ⟨Mem.of_get at2, hin⟩
         obtain ⟨fsh2, c52, c62, i12, i22⟩ := hb2.get
         have hm2 : MemN _ _ _ _ _ := ⟨rfl, hb2.1⟩
         have hi2 := hb2.2
         have hmsh2 : MemN _ _ _ _ _ := ⟨rfl, fsh2.1⟩
         have hish2 := fsh2.2
         clear s1 s2 si1 si2
         obtain ⟨-, s1, s2, -, -, si1, si2, -, -⟩ := fsh2.get
         clear i29
         have i29 := v29.intss
         clear i37
         have i37 := Ints.of_get at37
         clear u2
         have u2 := i22.2 a (by omega)
         clear i62
         have i62 := Ints.of_get at62
         refine .done ?_
         exact ⟨_, ⟨rfl, rfl, rfl, rfl, rfl, rfl, rfl, rfl, rfl, rfl, rfl, rfl, rfl, rfl, rfl, rfl, rfl, rfl, rfl, rfl, rfl, trivial⟩, hf0, at100x8, (by rw [hp1, hp2] at hK100x8; exact hK100x8)⟩
        refine .c1 rfl rfl rfl rfl (.litR rfl sl_23_B ze_22_E rfl rfl (by omega) (by omega) rfl rfl) ?_
        rintro _ H97x9 ⟨g97x9, rfl, le97x9, ge97x9, at97x9⟩
        replace hbl := hbl.trans le97x9
        refine ⟨hbl, ?_⟩
        have nx_H97x9 := le97x9.1
        replace hle := hle.trans le97x9
        replace lst1 := lst1.le le97x9
        replace lst2 := lst2.le le97x9
        replace lst3 := lst3.le le97x9
        replace hf0 := hf0.le le97x9
        replace at2 := le97x9.2 _ _ at2
        replace at34 := le97x9.2 _ _ at34
        replace at62 := le97x9.2 _ _ at62
        replace at_L10 := le97x9.2 _ _ at_L10
        replace at96x4 := le97x9.2 _ _ at96x4
        replace at82x2 := le97x9.2 _ _ at82x2
        replace lv_v29 := Keep.le lv_v29 le97x9
        replace v29 := bs_v29.keep lv_v29 (Nat.le_refl _)
        have lt_at97x9 := GHeap.lt_of_get at97x9
        replace hin := base_hin.mono hle
        clear hb2 fsh2 c52 c62 i12 i22 hm2 hi2 hmsh2 hish2
        have hb2 : SFun.At _ g2 0 f p := ⟨Mem.of_get at2, hin⟩
        obtain ⟨fsh2, c52, c62, i12, i22⟩ := hb2.get
        have hm2 : MemN _ _ _ _ _ := ⟨rfl, hb2.1⟩
        have hi2 := hb2.2
        have hmsh2 : MemN _ _ _ _ _ := ⟨rfl, fsh2.1⟩
        have hish2 := fsh2.2
        clear s1 s2 si1 si2
        obtain ⟨-, s1, s2, -, -, si1, si2, -, -⟩ := fsh2.get
        clear i29
        have i29 := v29.intss
        clear i37
        have i37 := Ints.of_get at37
        clear u2
        have u2 := i22.2 a (by omega)
        clear i62
        have i62 := Ints.of_get at62
        refine .c1 rfl rfl rfl rfl (.litR rfl sl_23_B ze_22_E rfl rfl (by omega) (by omega) rfl rfl) ?_
        rintro _ H83x5 ⟨g83x5, rfl, le83x5, ge83x5, at83x5⟩
        replace hbl := hbl.trans le83x5
        refine ⟨hbl, ?_⟩
        have nx_H83x5 := le83x5.1
        replace hle := hle.trans le83x5
        replace lst1 := lst1.le le83x5
        replace lst2 := lst2.le le83x5
        replace lst3 := lst3.le le83x5
        replace hf0 := hf0.le le83x5
        replace at2 := le83x5.2 _ _ at2
        replace at34 := le83x5.2 _ _ at34
        replace at62 := le83x5.2 _ _ at62
        replace at_L10 := le83x5.2 _ _ at_L10
        replace at96x4 := le83x5.2 _ _ at96x4
        replace at82x2 := le83x5.2 _ _ at82x2
        replace at97x9 := le83x5.2 _ _ at97x9
        replace lv_v29 := Keep.le lv_v29 le83x5
        replace v29 := bs_v29.keep lv_v29 (Nat.le_refl _)
        have lt_at83x5 := GHeap.lt_of_get at83x5
        replace hin := base_hin.mono hle
        clear hb2 fsh2 c52 c62 i12 i22 hm2 hi2 hmsh2 hish2
        have hb2 : SFun.At _ g2 0 f p := ⟨Mem.of_get at2, hin⟩
        obtain ⟨fsh2, c52, c62, i12, i22⟩ := hb2.get
        have hm2 : MemN _ _ _ _ _ := ⟨rfl, hb2.1⟩
        have hi2 := hb2.2
        have hmsh2 : MemN _ _ _ _ _ := ⟨rfl, fsh2.1⟩
        have hish2 := fsh2.2
        clear s1 s2 si1 si2
        obtain ⟨-, s1, s2, -, -, si1, si2, -, -⟩ := fsh2.get
        clear i29
        have i29 := v29.intss
        clear i37
        have i37 := Ints.of_get at37
        clear u2
        have u2 := i22.2 a (by omega)
        clear i62
        have i62 := Ints.of_get at62
        refine .callQ1 rfl rfl rfl rfl rfl @Try.call96 rfl (key_c (xs := glT f a e ((f.sh.hom (f.sh.tgt.getD a 0) y).getD i 0)) (by assumption) (Ints.of_get (xs := glT f a e ((f.sh.hom (f.sh.tgt.getD a 0) y).getD i 0)) (by assumption)) rfl (fun j hj => kb1.2 j hj) (by show 3 ≤ 1000; omega)) hbl ?_
        refine .m rfl rfl rfl rfl hbl (.lookupS mps_117_Ke zv_2_Pb rfl rfl (by assumption)) ?_
        refine .callQ1 rfl rfl rfl rfl rfl @Try.call96 rfl (key_c (xs := glU f a e ((f.sh.hom (f.sh.tgt.getD a 0) y).getD i 0)) (by assumption) (Ints.of_get (xs := glU f a e ((f.sh.hom (f.sh.tgt.getD a 0) y).getD i 0)) (by assumption)) rfl (fun j hj => kb2.2 j hj) (by show 3 ≤ 1000; omega)) (.refl _) ?_
        refine .m rfl rfl rfl rfl (.refl _) (.lookupS mps_117_Ke zv_2_Pb rfl rfl (by assumption)) ?_
        refine .call0 rfl rfl rfl rfl rfl @Try.call95 rfl (join_c (hK := hJ)) ?_
        rintro _ H100x9 ⟨⟨b100x9, rfl⟩, st100x9, js100x9, at100x9, hK100x9⟩
        have nx_H100x9 := st100x9.nx
        replace hle := hle.st st100x9 (fun k hk => ⟨by omega, trivial⟩)
        replace lst1 := lst1.st st100x9 (fun k hk ho => by simp only [out, and_true] at ho ⊢ <;> first | omega | (first | exact ho | exact ho.1 | exact ho.2 | exact ho.2.1 | exact ho.2.2 | exact ho.2.2.1 | exact ho.2.2.2))
        replace lst2 := lst2.st st100x9 (fun k hk ho => by simp only [out, and_true] at ho ⊢ <;> first | omega | (first | exact ho | exact ho.1 | exact ho.2 | exact ho.2.1 | exact ho.2.2 | exact ho.2.2.1 | exact ho.2.2.2))
        replace lst3 := lst3.st st100x9 (fun k hk ho => by simp only [out, and_true] at ho ⊢ <;> first | omega | (first | exact ho | exact ho.1 | exact ho.2 | exact ho.2.1 | exact ho.2.2 | exact ho.2.2.1 | exact ho.2.2.2))
        replace hf0 := hf0.st st100x9 (fun k hk ho => by simp only [out, and_true] at ho ⊢ <;> first | omega | (first | exact ho | exact ho.1 | exact ho.2 | exact ho.2.1 | exact ho.2.2 | exact ho.2.2.1 | exact ho.2.2.2))
        replace at2 := st100x9.same _ _ ⟨ne_g2_g37, trivial⟩ at2
        replace at34 := st100x9.same _ _ ⟨ne_g34_g37, trivial⟩ at34
        replace at62 := st100x9.same _ _ ⟨ne_g62_g37, trivial⟩ at62
        have ne_g96x4_g37 : g96x4 ≠ g37 := by omega
        replace at96x4 := st100x9.same _ _ ⟨ne_g96x4_g37, trivial⟩ at96x4
        have ne_g82x2_g37 : g82x2 ≠ g37 := by omega
        replace at82x2 := st100x9.same _ _ ⟨ne_g82x2_g37, trivial⟩ at82x2
        have ne_g97x9_g37 : g97x9 ≠ g37 := by omega
        replace at97x9 := st100x9.same _ _ ⟨ne_g97x9_g37, trivial⟩ at97x9
        have ne_g83x5_g37 : g83x5 ≠ g37 := by omega
        replace at83x5 := st100x9.same _ _ ⟨ne_g83x5_g37, trivial⟩ at83x5
        replace lv_v29 := Keep.st lv_v29 st100x9 (fun k hb hk => ⟨(by omega), trivial⟩)
        replace v29 := bs_v29.keep lv_v29 (Nat.le_refl _)
        have lt_at100x9 := GHeap.lt_of_get at100x9
        replace hin := base_hin.mono hle
        clear hb2 fsh2 c52 c62 i12 i22 hm2 hi2 hmsh2 hish2
        have hb2 : SFun.At _ g2 0 f p := ⟨Mem.of_get at2, hin⟩
        obtain ⟨fsh2, c52, c62, i12, i22⟩ := hb2.get
        have hm2 : MemN _ _ _ _ _ := ⟨rfl, hb2.1⟩
        have hi2 := hb2.2
        have hmsh2 : MemN _ _ _ _ _ := ⟨rfl, fsh2.1⟩
        have hish2 := fsh2.2
        clear s1 s2 si1 si2
        obtain ⟨-, s1, s2, -, -, si1, si2, -, -⟩ := fsh2.get
        clear i29
        have i29 := v29.intss
        clear i37
        have i37 := Ints.of_get at37
        clear u2
        have u2 := i22.2 a (by omega)
        clear i62
        have i62 := Ints.of_get at62
        refine .done ?_
        exact ⟨_, ⟨rfl, rfl, rfl, rfl, rfl, rfl, rfl, rfl, rfl, rfl, rfl, rfl, rfl, rfl, rfl, rfl, rfl, rfl, rfl, rfl, rfl, trivial⟩, hf0, at100x9, (by rw [hp1, hp2] at hK100x9; exact hK100x9)⟩
       refine .c1 rfl rfl rfl rfl (.litR rfl sl_23_B ze_22_E rfl rfl (by omega) (by omega) rfl rfl) ?_
       rintro _ H97x10 ⟨g97x10, rfl, le97x10, ge97x10, at97x10⟩
       replace hbl := hbl.trans le97x10
       refine ⟨hbl, ?_⟩
       have nx_H97x10 := le97x10.1
       replace hle := hle.trans le97x10
       replace lst1 := lst1.le le97x10
       replace lst2 := lst2.le le97x10
       replace lst3 := lst3.le le97x10
       replace hf0 := hf0.le le97x10
       replace at2 := le97x10.2 _ _ at2
       replace at34 := le97x10.2 _ _ at34
       replace at62 := le97x10.2 _ _ at62
       replace at_L10 := le97x10.2 _ _ at_L10
       replace at96x4 := le97x10.2 _ _ at96x4
       replace lv_v29 := Keep.le lv_v29 le97x10
       replace v29 := bs_v29.keep lv_v29 (Nat.le_refl _)
       have lt_at97x10 := GHeap.lt_of_get at97x10
       replace hin := base_hin.mono hle
       clear hb2 fsh2 c52 c62 i12 i22 hm2 hi2 hmsh2 hish2
       have hb2 : SFun.At _ g2 0 f p := ⟨Mem.of_get at2, hin⟩
       obtain ⟨fsh2, c52, c62, i12, i22⟩ := hb2.get
       have hm2 : MemN _ _ _ _ _ := ⟨rfl, hb2.1⟩
       have hi2 := hb2.2
       have hmsh2 : MemN _ _ _ _ _ := ⟨rfl, fsh2.1⟩
       have hish2 := fsh2.2
       clear s1 s2 si1 si2
       obtain ⟨-, s1, s2, -, -, si1, si2, -, -⟩ := fsh2.get
       clear i29
       have i29 := v29.intss
       clear i37
       have i37 := Ints.of_get at37
       clear u2
       have u2 := i22.2 a (by omega)
       clear i62
       have i62 := Ints.of_get at62
       refine .c1 rfl rfl rfl rfl (.litR rfl sl_22_A ze_2_E rfl rfl (by omega) (by omega) rfl rfl) ?_
       rintro _ H82x3 ⟨g82x3, rfl, le82x3, ge82x3, at82x3⟩
       replace hbl := hbl.trans le82x3
       refine ⟨hbl, ?_⟩
       have nx_H82x3 := le82x3.1
       replace hle := hle.trans le82x3
       replace lst1 := lst1.le le82x3
       replace lst2 := lst2.le le82x3
       replace lst3 := lst3.le le82x3
       replace hf0 := hf0.le le82x3
       replace at2 := le82x3.2 _ _ at2
       replace at34 := le82x3.2 _ _ at34
       replace at62 := le82x3.2 _ _ at62
       replace at_L10 := le82x3.2 _ _ at_L10
       replace at96x4 := le82x3.2 _ _ at96x4
       replace at97x10 := le82x3.2 _ _ at97x10
       replace lv_v29 := Keep.le lv_v29 le82x3
       replace v29 := bs_v29.keep lv_v29 (Nat.le_refl _)
       have lt_at82x3 := GHeap.lt_of_get at82x3
       replace hin := base_hin.mono hle
       clear hb2 fsh2 c52 c62 i12 i22 hm2 hi2 hmsh2 hish2
       have hb2 : SFun.At _ g2 0 f p := ⟨Mem.of_get at2, hin⟩
       obtain ⟨fsh2, c52, c62, i12, i22⟩ := hb2.get
       have hm2 : MemN _ _ _ _ _ := ⟨rfl, hb2.1⟩
       have hi2 := hb2.2
       have hmsh2 : MemN _ _ _ _ _ := ⟨rfl, fsh2.1⟩
       have hish2 := fsh2.2
       clear s1 s2 si1 si2
       obtain ⟨-, s1, s2, -, -, si1, si2, -, -⟩ := fsh2.get
       clear i29
       have i29 := v29.intss
       clear i37
       have i37 := Ints.of_get at37
       clear u2
       have u2 := i22.2 a (by omega)
       clear i62
       have i62 := Ints.of_get at62
       refine .c1 rfl rfl rfl rfl (.litR rfl sl_23_B ze_22_E rfl rfl (by omega) (by omega) rfl rfl) ?_
       rintro _ H83x6 ⟨g83x6, rfl, le83x6, ge83x6, at83x6⟩
       replace hbl := hbl.trans le83x6
       refine ⟨hbl, ?_⟩
       have nx_H83x6 := le83x6.1
       replace hle := hle.trans le83x6
       replace lst1 := lst1.le le83x6
       replace lst2 := lst2.le le83x6
       replace lst3 := lst3.le le83x6
       replace hf0 := hf0.le le83x6
       replace at2 := le83x6.2 _ _ at2
       replace at34 := le83x6.2 _ _ at34
       replace at62 := le83x6.2 _ _ at62
       replace at_L10 := le83x6.2 _ _ at_L10
       replace at96x4 := le83x6.2 _ _ at96x4
       replace at97x10 := le83x6.2 _ _ at97x10
       replace at82x3 := le83x6.2 _ _ at82x3
       replace lv_v29 := Keep.le lv_v29 le83x6
       replace v29 := bs_v29.keep lv_v29 (Nat.le_refl _)
       have lt_at83x6 := GHeap.lt_of_get at83x6
       replace hin := base_hin.mono hle
       clear hb2 fsh2 c52 c62 i12 i22 hm2 hi2 hmsh2 hish2
       have hb2 : SFun.At _ g2 0 f p := ⟨Mem.of_get at2, hin⟩
       obtain ⟨fsh2, c52, c62, i12, i22⟩ := hb2.get
       have hm2 : MemN _ _ _ _ _ := ⟨rfl, hb2.1⟩
       have hi2 := hb2.2
       have hmsh2 : MemN _ _ _ _ _ := ⟨rfl, fsh2.1⟩
       have hish2 := fsh2.2
       clear s1 s2 si1 si2
       obtain ⟨-, s1, s2, -, -, si1, si2, -, -⟩ := fsh2.get
       clear i29
       have i29 := v29.intss
       clear i37
       have i37 := Ints.of_get at37
       clear u2
       have u2 := i22.2 a (by omega)
       clear i62
       have i62 := Ints.of_get at62
       refine .callQ1 rfl rfl rfl rfl rfl @Try.call96 rfl (key_c (xs := glT f a e ((f.sh.hom (f.sh.tgt.getD a 0) y).getD i 0)) (by assumption) (Ints.of_get (xs := glT f a e ((f.sh.hom (f.sh.tgt.getD a 0) y).getD i 0)) (by assumption)) rfl (fun j hj => kb1.2 j hj) (by show 3 ≤ 1000; omega)) hbl ?_
       refine .m rfl rfl rfl rfl hbl (.lookupS mps_117_Ke zv_2_Pb rfl rfl (by assumption)) ?_
       refine .callQ1 rfl rfl rfl rfl rfl @Try.call96 rfl (key_c (xs := glU f a e ((f.sh.hom (f.sh.tgt.getD a 0) y).getD i 0)) (by assumption) (Ints.of_get (xs := glU f a e ((f.sh.hom (f.sh.tgt.getD a 0) y).getD i 0)) (by assumption)) rfl (fun j hj => kb2.2 j hj) (by show 3 ≤ 1000; omega)) (.refl _) ?_
       refine .m rfl rfl rfl rfl (.refl _) (.lookupS mps_117_Ke zv_2_Pb rfl rfl (by assumption)) ?_
       refine .call0 rfl rfl rfl rfl rfl @Try.call95 rfl (join_c (hK := hJ)) ?_
       rintro _ H100x10 ⟨⟨b100x10, rfl⟩, st100x10, js100x10, at100x10, hK100x10⟩
       have nx_H100x10 := st100x10.nx
       replace hle := hle.st st100x10 (fun k hk => ⟨by omega, trivial⟩)
       replace lst1 := lst1.st st100x10 (fun k hk ho => by simp only [out, and_true] at ho ⊢ <;> first | omega | (first | exact ho | exact ho.1 | exact ho.2 | exact ho.2.1 | exact ho.2.2 | exact ho.2.2.1 | exact ho.2.2.2))
       replace lst2 := lst2.st st100x10 (fun k hk ho => by simp only [out, and_true] at ho ⊢ <;> first | omega | (first | exact ho | exact ho.1 | exact ho.2 | exact ho.2.1 | exact ho.2.2 | exact ho.2.2.1 | exact ho.2.2.2))
       replace lst3 := lst3.st st100x10 (fun k hk ho => by simp only [out, and_true] at ho ⊢ <;> first | omega | (first | exact ho | exact ho.1 | exact ho.2 | exact ho.2.1 | exact ho.2.2 | exact ho.2.2.1 | exact ho.2.2.2))
       replace hf0 := hf0.st st100x10 (fun k hk ho => by simp only [out, and_true] at ho ⊢ <;> first | omega | (first | exact ho | exact ho.1 | exact ho.2 | exact ho.2.1 | exact ho.2.2 | exact ho.2.2.1 | exact ho.2.2.2))
       replace at2 := st100x10.same _ _ ⟨ne_g2_g37, trivial⟩ at2
       replace at34 := st100x10.same _ _ ⟨ne_g34_g37, trivial⟩ at34
       replace at62 := st100x10.same _ _ ⟨ne_g62_g37, trivial⟩ at62
       have ne_g96x4_g37 : g96x4 ≠ g37 := by omega
       replace at96x4 := st100x10.same _ _ ⟨ne_g96x4_g37, trivial⟩ at96x4
       have ne_g97x10_g37 : g97x10 ≠ g37 := by omega
       replace at97x10 := st100x10.same _ _ ⟨ne_g97x10_g37, trivial⟩ at97x10
       have ne_g82x3_g37 : g82x3 ≠ g37 := by omega
       replace at82x3 := st100x10.same _ _ ⟨ne_g82x3_g37, trivial⟩ at82x3
       have ne_g83x6_g37 : g83x6 ≠ g37 := by omega
       replace at83x6 := st100x10.same _ _ ⟨ne_g83x6_g37, trivial⟩ at83x6
       replace lv_v29 := Keep.st lv_v29 st100x10 (fun k hb hk => ⟨(by omega), trivial⟩)
       replace v29 := bs_v29.keep lv_v29 (Nat.le_refl _)
       have lt_at100x10 := GHeap.lt_of_get at100x10
       replace hin := base_hin.mono hle
       clear hb2 fsh2 c52 c62 i12 i22 hm2 hi2 hmsh2 hish2
       have hb2 : SFun.At _ g2 0 f p := ⟨Mem.of_get at2, hin⟩
       obtain ⟨fsh2, c52, c62, i12, i22⟩ := hb2.get
       have hm2 : MemN _ _ _ _ _ := ⟨rfl, hb2.1⟩
       have hi2 := hb2.2
       have hmsh2 : MemN _ _ _ _ _ := ⟨rfl, fsh2.1⟩
       have hish2 := fsh2.2
       clear s1 s2 si1 si2
       obtain ⟨-, s1, s2, -, -, si1, si2, -, -⟩ := fsh2.get
       clear i29
       have i29 := v29.intss
       clear i37
       have i37 := Ints.of_get at37
       clear u2
       have u2 := i22.2 a (by omega)
       clear i62
       have i62 := Ints.of_get at62
       refine .done ?_
       exact ⟨_, ⟨rfl, rfl, rfl, rfl, rfl, rfl, rfl, rfl, rfl, rfl, rfl, rfl, rfl, rfl, rfl, rfl, rfl, rfl, rfl, rfl, rfl, trivial⟩, hf0, at100x10, (by rw [hp1, hp2] at hK100x10; exact hK100x10)⟩
      refine .c1 rfl rfl rfl rfl (.litR rfl sl_22_A ze_2_E rfl rfl (by omega) (by omega) rfl rfl) ?_
      rintro _ H96x5 ⟨g96x5, rfl, le96x5, ge96x5, at96x5⟩
      have hbl := le96x5
      refine ⟨hbl, ?_⟩
      have nx_H96x5 := le96x5.1
      replace hle := hle.trans le96x5
      replace lst1 := lst1.le le96x5
      replace lst2 := lst2.le le96x5
      replace lst3 := lst3.le le96x5
      replace hf0 := hf0.le le96x5
      replace at2 := le96x5.2 _ _ at2
      replace at34 := le96x5.2 _ _ at34
      replace at62 := le96x5.2 _ _ at62
      replace at_L10 := le96x5.2 _ _ at_L10
      replace lv_v29 := Keep.le lv_v29 le96x5
      replace v29 := bs_v29.keep lv_v29 (Nat.le_refl _)
      have lt_at96x5 := GHeap.lt_of_get at96x5
      replace hin := base_hin.mono hle
      clear hb2 fsh2 c52 c62 i12 i22 hm2 hi2 hmsh2 hish2
      have hb2 : SFun.At _ g2 0 f p := ⟨Mem.of_get at2, hin⟩
      obtain ⟨fsh2, c52, c62, i12, i22⟩ := hb2.get
      have hm2 : MemN _ _ _ _ _ := ⟨rfl, hb2.1⟩
      have hi2 := hb2.2
      have hmsh2 : MemN _ _ _ _ _ := ⟨rfl, fsh2.1⟩
      have hish2 := fsh2.2
      clear s1 s2 si1 si2
      obtain ⟨-, s1, s2, -, -, si1, si2, -, -⟩ := fsh2.get
      clear i29
      have i29 := v29.intss
      clear i37
      have i37 := Ints.of_get at37
      clear u2
      have u2 := i22.2 a (by omega)
      clear i62
      have i62 := Ints.of_get at62
      refine .orI ?_ ?_
      ·
       refine .callQ1 rfl rfl rfl rfl rfl @Try.call65 rfl (then_s) hbl ?_
       refine .orI ?_ ?_
       ·
        refine .c1 rfl rfl rfl rfl (.litR rfl sl_22_A ze_2_E rfl rfl (by omega) (by omega) rfl rfl) ?_
        rintro _ H82x4 ⟨g82x4, rfl, le82x4, ge82x4, at82x4⟩
        replace hbl := hbl.trans le82x4
        refine ⟨hbl, ?_⟩
        have nx_H82x4 := le82x4.1
        replace hle := hle.trans le82x4
        replace lst1 := lst1.le le82x4
        replace lst2 := lst2.le le82x4
        replace lst3 := lst3.le le82x4
        replace hf0 := hf0.le le82x4
        replace at2 := le82x4.2 _ _ at2
        replace at34 := le82x4.2 _ _ at34
        replace at62 := le82x4.2 _ _ at62
        replace at_L10 := le82x4.2 _ _ at_L10
        replace at96x5 := le82x4.2 _ _ at96x5
        replace lv_v29 := Keep.le lv_v29 le82x4
        replace v29 := bs_v29.keep lv_v29 (Nat.le_refl _)
        have lt_at82x4 := GHeap.lt_of_get at82x4
        replace hin := base_hin.mono hle
        clear hb2 fsh2 c52 c62 i12 i22 hm2 hi2 hmsh2 hish2
        have hb2 : SFun.At _ g2 0 f p := ⟨Mem.of_get at2, hin⟩
        obtain ⟨fsh2, c52, c62, i12, i22⟩ := hb2.get
        have hm2 : MemN _ _ _ _ _ := ⟨rfl, hb2.1⟩
        have hi2 := hb2.2
        have hmsh2 : MemN _ _ _ _ _ := ⟨rfl, fsh2.1⟩
        have hish2 := fsh2.2
        clear s1 s2 si1 si2
        obtain ⟨-, s1, s2, -, -, si1, si2, -, -⟩ := fsh2.get
        clear i29
        have i29 := v29.intss
        clear i37
        have i37 := Ints.of_get at37
        clear u2
        have u2 := i22.2 a (by omega)
        clear i62
        have i62 := Ints.of_get at62
        refine .orI ?_ ?_
        ·
         refine .c1 rfl rfl rfl rfl (.litR rfl sl_23_B ze_22_E rfl rfl (by omega) (by omega) rfl rfl) ?_
         rintro _ H83x7 ⟨g83x7, rfl, le83x7, ge83x7, at83x7⟩
         replace hbl := hbl.trans le83x7
         refine ⟨hbl, ?_⟩
         have nx_H83x7 := le83x7.1
         replace hle := hle.trans le83x7
         replace lst1 := lst1.le le83x7
         replace lst2 := lst2.le le83x7
         replace lst3 := lst3.le le83x7
         replace hf0 := hf0.le le83x7
         replace at2 := le83x7.2 _ _ at2
         replace at34 := le83x7.2 _ _ at34
         replace at62 := le83x7.2 _ _ at62
         replace at_L10 := le83x7.2 _ _ at_L10
         replace at96x5 := le83x7.2 _ _ at96x5
         replace at82x4 := le83x7.2 _ _ at82x4
         replace lv_v29 := Keep.le lv_v29 le83x7
         replace v29 := bs_v29.keep lv_v29 (Nat.le_refl _)
         have lt_at83x7 := GHeap.lt_of_get at83x7
         replace hin := base_hin.mono hle
         clear hb2 fsh2 c52 c62 i12 i22 hm2 hi2 hmsh2 hish2
         have hb2 : SFun.At _ g2 0 f p := ⟨Mem.of_get at2, hin⟩
         obtain ⟨fsh2, c52, c62, i12, i22⟩ := hb2.get
         have hm2 : MemN _ _ _ _ _ := ⟨rfl, hb2.1⟩
         have hi2 := hb2.2
         have hmsh2 : MemN _ _ _ _ _ := ⟨rfl, fsh2.1⟩
         have hish2 := fsh2.2
         clear s1 s2 si1 si2
         obtain ⟨-, s1, s2, -, -, si1, si2, -, -⟩ := fsh2.get
         clear i29
         have i29 := v29.intss
         clear i37
         have i37 := Ints.of_get at37
         clear u2
         have u2 := i22.2 a (by omega)
         clear i62
         have i62 := Ints.of_get at62
         refine .orI ?_ ?_
         ·
          refine .callQ1 rfl rfl rfl rfl rfl @Try.call96 rfl (key_c (xs := glT f a e ((f.sh.hom (f.sh.tgt.getD a 0) y).getD i 0)) (by assumption) (Ints.of_get (xs := glT f a e ((f.sh.hom (f.sh.tgt.getD a 0) y).getD i 0)) (by assumption)) rfl (fun j hj => kb1.2 j hj) (by show 3 ≤ 1000; omega)) hbl ?_
          refine .m rfl rfl rfl rfl hbl (.lookupS mps_117_Ke zv_2_Pb rfl rfl (by assumption)) ?_
          refine .c1 rfl rfl rfl rfl (.litR rfl sl_23_B ze_22_E rfl rfl (by omega) (by omega) rfl rfl) ?_
          rintro _ H97x11 ⟨g97x11, rfl, le97x11, ge97x11, at97x11⟩
          have hbl := le97x11
          refine ⟨hbl, ?_⟩
          have nx_H97x11 := le97x11.1
          replace hle := hle.trans le97x11
          replace lst1 := lst1.le le97x11
          replace lst2 := lst2.le le97x11
          replace lst3 := lst3.le le97x11
          replace hf0 := hf0.le le97x11
          replace at2 := le97x11.2 _ _ at2
          replace at34 := le97x11.2 _ _ at34
          replace at62 := le97x11.2 _ _ at62
          replace at_L10 := le97x11.2 _ _ at_L10
          replace at96x5 := le97x11.2 _ _ at96x5
          replace at82x4 := le97x11.2 _ _ at82x4
          replace at83x7 := le97x11.2 _ _ at83x7
          replace lv_v29 := Keep.le lv_v29 le97x11
          replace v29 := bs_v29.keep lv_v29 (Nat.le_refl _)
          have lt_at97x11 := GHeap.lt_of_get at97x11
          replace hin := base_hin.mono hle
          clear hb2 fsh2 c52 c62 i12 i22 hm2 hi2 hmsh2 hish2
          have hb2 : SFun.At _ g2 0 f p := ⟨Mem.of_get at2, hin⟩
          obtain ⟨fsh2, c52, c62, i12, i22⟩ := hb2.get
          have hm2 : MemN _ _ _ _ _ := ⟨rfl, hb2.1⟩
          have hi2 := hb2.2
          have hmsh2 : MemN _ _ _ _ _ := ⟨rfl, fsh2.1⟩
          have hish2 := fsh2.2
          clear s1 s2 si1 si2
          obtain ⟨-, s1, s2, -, -, si1, si2, -, -⟩ := fsh2.get
          clear i29
          have i29 := v29.intss
          clear i37
          have i37 := Ints.of_get at37
          clear u2
          have u2 := i22.2 a (by omega)
          clear i62
          have i62 := Ints.of_get at62
          refine .callQ1 rfl rfl rfl rfl rfl @Try.call96 rfl (key_c (xs := glU f a e ((f.sh.hom (f.sh.tgt.getD a 0) y).getD i 0)) (by assumption) (Ints.of_get (xs := glU f a e ((f.sh.hom (f.sh.tgt.getD a 0) y).getD i 0)) (by assumption)) rfl (fun j hj => kb2.2 j hj) (by show 3 ≤ 1000; omega)) hbl ?_
          refine .m rfl rfl rfl rfl hbl (.lookupS mps_117_Ke zv_2_Pb rfl rfl (by assumption)) ?_
          refine .call0 rfl rfl rfl rfl rfl @Try.call95 rfl (join_c (hK := hJ)) ?_
          rintro _ H100x11 ⟨⟨b100x11, rfl⟩, st100x11, js100x11, at100x11, hK100x11⟩
          have nx_H100x11 := st100x11.nx
          replace hle := hle.st st100x11 (fun k hk => ⟨by omega, trivial⟩)
          replace lst1 := lst1.st st100x11 (fun k hk ho => by simp only [out, and_true] at ho ⊢ <;> first | omega | (first | exact ho | exact ho.1 | exact ho.2 | exact ho.2.1 | exact ho.2.2 | exact ho.2.2.1 | exact ho.2.2.2))
          replace lst2 := lst2.st st100x11 (fun k hk ho => by simp only [out, and_true] at ho ⊢ <;> first | omega | (first | exact ho | exact ho.1 | exact ho.2 | exact ho.2.1 | exact ho.2.2 | exact ho.2.2.1 | exact ho.2.2.2))
          replace lst3 := lst3.st st100x11 (fun k hk ho => by simp only [out, and_true] at ho ⊢ <;> first | omega | (first | exact ho | exact ho.1 | exact ho.2 | exact ho.2.1 | exact ho.2.2 | exact ho.2.2.1 | exact ho.2.2.2))
          replace hf0 := hf0.st st100x11 (fun k hk ho => by simp only [out, and_true] at ho ⊢ <;> first | omega | (first | exact ho | exact ho.1 | exact ho.2 | exact ho.2.1 | exact ho.2.2 | exact ho.2.2.1 | exact ho.2.2.2))
          replace at2 := st100x11.same _ _ ⟨ne_g2_g37, trivial⟩ at2
          replace at34 := st100x11.same _ _ ⟨ne_g34_g37, trivial⟩ at34
          replace at62 := st100x11.same _ _ ⟨ne_g62_g37, trivial⟩ at62
          have ne_g96x5_g37 : g96x5 ≠ g37 := by omega
          replace at96x5 := st100x11.same _ _ ⟨ne_g96x5_g37, trivial⟩ at96x5
          have ne_g82x4_g37 : g82x4 ≠ g37 := by omega
          replace at82x4 := st100x11.same _ _ ⟨ne_g82x4_g37, trivial⟩ at82x4
          have ne_g83x7_g37 : g83x7 ≠ g37 := by omega
          replace at83x7 := st100x11.same _ _ ⟨ne_g83x7_g37, trivial⟩ at83x7
          have ne_g97x11_g37 : g97x11 ≠ g37 := by omega
          replace at97x11 := st100x11.same _ _ ⟨ne_g97x11_g37, trivial⟩ at97x11
          replace lv_v29 := Keep.st lv_v29 st100x11 (fun k hb hk => ⟨(by omega), trivial⟩)
          replace v29 := bs_v29.keep lv_v29 (Nat.le_refl _)
          have lt_at100x11 := GHeap.lt_of_get at100x11
          replace hin := base_hin.mono hle
          clear hb2 fsh2 c52 c62 i12 i22 hm2 hi2 hmsh2 hish2
          have hb2 : SFun.At _ g2 0 f p := ⟨Mem.of_get at2, hin⟩
          obtain ⟨fsh2, c52, c62, i12, i22⟩ := hb2.get
          have hm2 : MemN _ _ _ _ _ := ⟨rfl, hb2.1⟩
          have hi2 := hb2.2
          have hmsh2 : MemN _ _ _ _ _ := ⟨rfl, fsh2.1⟩
          have hish2 := fsh2.2
          clear s1 s2 si1 si2
          obtain ⟨-, s1, s2, -, -, si1, si2, -, -⟩ := fsh2.get
          clear i29
          have i29 := v29.intss
          clear i37
          have i37 := Ints.of_get at37
          clear u2
          have u2 := i22.2 a (by omega)
          clear i62
          have i62 := Ints.of_get at62
          refine .done ?_
          exact ⟨_, ⟨rfl, rfl, rfl, rfl, rfl, rfl, rfl, rfl, rfl, rfl, rfl, rfl, rfl, rfl, rfl, rfl, rfl, rfl, rfl, rfl, rfl, trivial⟩, hf0, at100x11, (by rw [hp1, hp2] at hK100x11; exact hK100x11)⟩
         refine .c1 rfl rfl rfl rfl (.litR rfl sl_23_B ze_22_E rfl rfl (by omega) (by omega) rfl rfl) ?_
         rintro _ H97x12 ⟨g97x12, rfl, le97x12, ge97x12, at97x12⟩
         replace hbl := hbl.trans le97x12
         refine ⟨hbl, ?_⟩
         have nx_H97x12 := le97x12.1
         replace hle := hle.trans le97x12
         replace lst1 := lst1.le le97x12
         replace lst2 := lst2.le le97x12
         replace lst3 := lst3.le le97x12
         replace hf0 := hf0.le le97x12
         replace at2 := le97x12.2 _ _ at2
         replace at34 := le97x12.2 _ _ at34
         replace at62 := le97x12.2 _ _ at62
         replace at_L10 := le97x12.2 _ _ at_L10
         replace at96x5 := le97x12.2 _ _ at96x5
         replace at82x4 := le97x12.2 _ _ at82x4
         replace at83x7 := le97x12.2 _ _ at83x7
         replace lv_v29 := Keep.le lv_v29 le97x12
         replace v29 := bs_v29.keep lv_v29 (Nat.le_refl _)
         have lt_at97x12 := GHeap.lt_of_get at97x12
         replace hin := base_hin.mono hle
         clear hb2 fsh2 c52 c62 i12 i22 hm2 hi2 hmsh2 hish2
         have hb2 : SFun.At _ g2 0 f p := ⟨Mem.of_get at2, hin⟩
         obtain ⟨fsh2, c52, c62, i12, i22⟩ := hb2.get
         have hm2 : MemN _ _ _ _ _ := ⟨rfl, hb2.1⟩
         have hi2 := hb2.2
         have hmsh2 : MemN _ _ _ _ _ := ⟨rfl, fsh2.1⟩
         have hish2 := fsh2.2
         clear s1 s2 si1 si2
         obtain ⟨-, s1, s2, -, -, si1, si2, -, -⟩ := fsh2.get
         clear i29
         have i29 := v29.intss
         clear i37
         have i37 := Ints.of_get at37
         clear u2
         have u2 := i22.2 a (by omega)
         clear i62
         have i62 := Ints.of_get at62
         refine .callQ1 rfl rfl rfl rfl rfl @Try.call96 rfl (key_c (xs := glT f a e ((f.sh.hom (f.sh.tgt.getD a 0) y).getD i 0)) (by assumption) (Ints.of_get (xs := glT f a e ((f.sh.hom (f.sh.tgt.getD a 0) y).getD i 0)) (by assumption)) rfl (fun j hj => kb1.2 j hj) (by show 3 ≤ 1000; omega)) hbl ?_
         refine .m rfl rfl rfl rfl hbl (.lookupS mps_117_Ke zv_2_Pb rfl rfl (by assumption)) ?_
         refine .callQ1 rfl rfl rfl rfl rfl @Try.call96 rfl (key_c (xs := glU f a e ((f.sh.hom (f.sh.tgt.getD a 0) y).getD i 0)) (by assumption) (Ints.of_get (xs := glU f a e ((f.sh.hom (f.sh.tgt.getD a 0) y).getD i 0)) (by assumption)) rfl (fun j hj => kb2.2 j hj) (by show 3 ≤ 1000; omega)) (.refl _) ?_
         refine .m rfl rfl rfl rfl (.refl _) (.lookupS mps_117_Ke zv_2_Pb rfl rfl (by assumption)) ?_
         refine .call0 rfl rfl rfl rfl rfl @Try.call95 rfl (join_c (hK := hJ)) ?_
         rintro _ H100x12 ⟨⟨b100x12, rfl⟩, st100x12, js100x12, at100x12, hK100x12⟩
         have nx_H100x12 := st100x12.nx
         replace hle := hle.st st100x12 (fun k hk => ⟨by omega, trivial⟩)
         replace lst1 := lst1.st st100x12 (fun k hk ho => by simp only [out, and_true] at ho ⊢ <;> first | omega | (first | exact ho | exact ho.1 | exact ho.2 | exact ho.2.1 | exact ho.2.2 | exact ho.2.2.1 | exact ho.2.2.2))
         replace lst2 := lst2.st st100x12 (fun k hk ho => by simp only [out, and_true] at ho ⊢ <;> first | omega | (first | exact ho | exact ho.1 | exact ho.2 | exact ho.2.1 | exact ho.2.2 | exact ho.2.2.1 | exact ho.2.2.2))
         replace lst3 := lst3.st st100x12 (fun k hk ho => by simp only [out, and_true] at ho ⊢ <;> first | omega | (first | exact ho | exact ho.1 | exact ho.2 | exact ho.2.1 | exact ho.2.2 | exact ho.2.2.1 | exact ho.2.2.2))
         replace hf0 := hf0.st st100x12 (fun k hk ho => by simp only [out, and_true] at ho ⊢ <;> first | omega | (first | exact ho | exact ho.1 | exact ho.2 | exact ho.2.1 | exact ho.2.2 | exact ho.2.2.1 | exact ho.2.2.2))
         replace at2 := st100x12.same _ _ ⟨ne_g2_g37, trivial⟩ at2
         replace at34 := st100x12.same _ _ ⟨ne_g34_g37, trivial⟩ at34
         replace at62 := st100x12.same _ _ ⟨ne_g62_g37, trivial⟩ at62
         have ne_g96x5_g37 : g96x5 ≠ g37 := by omega
         replace at96x5 := st100x12.same _ _ ⟨ne_g96x5_g37, trivial⟩ at96x5
         have ne_g82x4_g37 : g82x4 ≠ g37 := by omega
         replace at82x4 := st100x12.same _ _ ⟨ne_g82x4_g37, trivial⟩ at82x4
         have ne_g83x7_g37 : g83x7 ≠ g37 := by omega
         replace at83x7 := st100x12.same _ _ ⟨ne_g83x7_g37, trivial⟩ at83x7
         have ne_g97x12_g37 : g97x12 ≠ g37 := by omega
         replace at97x12 := st100x12.same _ _ ⟨ne_g97x12_g37, trivial⟩ at97x12
         replace lv_v29 := Keep.st lv_v29 st100x12 (fun k hb hk => ⟨(by omega), trivial⟩)
         replace v29 := bs_v29.keep lv_v29 (Nat.le_refl _)
         have lt_at100x12 := GHeap.lt_of_get at100x12
         replace hin := base_hin.mono hle
         clear hb2 fsh2 c52 c62 i12 i22 hm2 hi2 hmsh2 hish2
         have hb2 : SFun.At _ g2 0 f p := ⟨Mem.of_get at2, hin⟩
         obtain ⟨fsh2, c52, c62, i12, i22⟩ := hb2.get
         have hm2 : MemN _ _ _ _ _ := ⟨rfl, hb2.1⟩
         have hi2 := hb2.2
         have hmsh2 : MemN _ _ _ _ _ := ⟨rfl, fsh2.1⟩
         have hish2 := fsh2.2
         clear s1 s2 si1 si2
         obtain ⟨-, s1, s2, -, -, si1, si2, -, -⟩ := fsh2.get
         clear i29
         have i29 := v29.intss
         clear i37
         have i37 := Ints.of_get at37
         clear u2
         have u2 := i22.2 a (by omega)
         clear i62
         have i62 := Ints.of_get at62
         refine .done ?_
         exact ⟨_, ⟨rfl, rfl, rfl, rfl, rfl, rfl, rfl, rfl, rfl, rfl, rfl, rfl, rfl, rfl, rfl, rfl, rfl, rfl, rfl, rfl, rfl, trivial⟩, hf0, at100x12, (by rw [hp1, hp2] at hK100x12; exact hK100x12)⟩
        refine .c1 rfl rfl rfl rfl (.litR rfl sl_23_B ze_22_E rfl rfl (by omega) (by omega) rfl rfl) ?_
        rintro _ H97x13 ⟨g97x13, rfl, le97x13, ge97x13, at97x13⟩
        replace hbl := hbl.trans le97x13
        refine ⟨hbl, ?_⟩
        have nx_H97x13 := le97x13.1
        replace hle := hle.trans le97x13
        replace lst1 := lst1.le le97x13
        replace lst2 := lst2.le le97x13
        replace lst3 := lst3.le le97x13
        replace hf0 := hf0.le le97x13
        replace at2 := le97x13.2 _ _ at2
        replace at34 := le97x13.2 _ _ at34
        replace at62 := le97x13.2 _ _ at62
        replace at_L10 := le97x13.2 _ _ at_L10
        replace at96x5 := le97x13.2 _ _ at96x5
        replace at82x4 := le97x13.2 _ _ at82x4
        replace lv_v29 := Keep.le lv_v29 le97x13
        replace v29 := bs_v29.keep lv_v29 (Nat.le_refl _)
        have lt_at97x13 := GHeap.lt_of_get at97x13
        replace hin := base_hin.mono hle
        clear hb2 fsh2 c52 c62 i12 i22 hm2 hi2 hmsh2 hish2
        have hb2 : SFun.At _ g2 0 f p := ⟨Mem.of_get at2, hin⟩
        obtain ⟨fsh2, c52, c62, i12, i22⟩ := hb2.get
        have hm2 : MemN _ _ _ _ _ := ⟨rfl, hb2.1⟩
        have hi2 := hb2.2
        have hmsh2 : MemN _ _ _ _ _ := ⟨rfl, fsh2.1⟩
        have hish2 := fsh2.2
        clear s1 s2 si1 si2
        obtain ⟨-, s1, s2, -, -, si1, si2, -, -⟩ := fsh2.get
        clear i29
        have i29 := v29.intss
        clear i37
        have i37 := Ints.of_get at37
        clear u2
        have u2 := i22.2 a (by omega)
        clear i62
        have i62 := Ints.of_get at62
        refine .c1 rfl rfl rfl rfl (.litR rfl sl_23_B ze_22_E rfl rfl (by omega) (by omega) rfl rfl) ?_
        rintro _ H83x8 ⟨g83x8, rfl, le83x8, ge83x8, at83x8⟩
        replace hbl := hbl.trans le83x8
        refine ⟨hbl, ?_⟩
        have nx_H83x8 := le83x8.1
        replace hle := hle.trans le83x8
        replace lst1 := lst1.le le83x8
        replace lst2 := lst2.le le83x8
        replace lst3 := lst3.le le83x8
        replace hf0 := hf0.le le83x8
        replace at2 := le83x8.2 _ _ at2
        replace at34 := le83x8.2 _ _ at34
        replace at62 := le83x8.2 _ _ at62
        replace at_L10 := le83x8.2 _ _ at_L10
        replace at96x5 := le83x8.2 _ _ at96x5
        replace at82x4 := le83x8.2 _ _ at82x4
        replace at97x13 := le83x8.2 _ _ at97x13
        replace lv_v29 := Keep.le lv_v29 le83x8
        replace v29 := bs_v29.keep lv_v29 (Nat.le_refl _)
        have lt_at83x8 := GHeap.lt_of_get at83x8
        replace hin := base_hin.mono hle
        clear hb2 fsh2 c52 c62 i12 i22 hm2 hi2 hmsh2 hish2
        have hb2 : SFun.At _ g2 0 f p := ⟨Mem.of_get at2, hin⟩
        obtain ⟨fsh2, c52, c62, i12, i22⟩ := hb2.get
        have hm2 : MemN _ _ _ _ _ := ⟨rfl, hb2.1⟩
        have hi2 := hb2.2
        have hmsh2 : MemN _ _ _ _ _ := ⟨rfl, fsh2.1⟩
        have hish2 := fsh2.2
        clear s1 s2 si1 si2
        obtain ⟨-, s1, s2, -, -, si1, si2, -, -⟩ := fsh2.get
        clear i29
        have i29 := v29.intss
        clear i37
        have i37 := Ints.of_get at37
        clear u2
        have u2 := i22.2 a (by omega)
        clear i62
        have i62 := Ints.of_get at62
        refine .callQ1 rfl rfl rfl rfl rfl @Try.call96 rfl (key_c (xs := glT f a e ((f.sh.hom (f.sh.tgt.getD a 0) y).getD i 0)) (by assumption) (Ints.of_get (xs := glT f a e ((f.sh.hom (f.sh.tgt.getD a 0) y).getD i 0)) (by assumption)) rfl (fun j hj => kb1.2 j hj) (by show 3 ≤ 1000; omega)) hbl ?_
        refine .m rfl rfl rfl rfl hbl (.lookupS mps_117_Ke zv_2_Pb rfl rfl (by assumption)) ?_
        refine .callQ1 rfl rfl rfl rfl rfl @Try.call96 rfl (key_c (xs := glU f a e ((f.sh.hom (f.sh.tgt.getD a 0) y).getD i 0)) (by assumption) (Ints.of_get (xs := glU f a e ((f.sh.hom (f.sh.tgt.getD a 0) y).getD i 0)) (by assumption)) rfl (fun j hj => kb2.2 j hj) (by show 3 ≤ 1000; omega)) (.refl _) ?_
        refine .m rfl rfl rfl rfl (.refl _) (.lookupS mps_117_Ke zv_2_Pb rfl rfl (by assumption)) ?_
        refine .call0 rfl rfl rfl rfl rfl @Try.call95 rfl (join_c (hK := hJ)) ?_
        rintro _ H100x13 ⟨⟨b100x13, rfl⟩, st100x13, js100x13, at100x13, hK100x13⟩
        have nx_H100x13 := st100x13.nx
        replace hle := hle.st st100x13 (fun k hk => ⟨by omega, trivial⟩)
        replace lst1 := lst1.st st100x13 (fun k hk ho => by simp only [out, and_true] at ho ⊢ <;> first | omega | (first | exact ho | exact ho.1 | exact ho.2 | exact ho.2.1 | exact ho.2.2 | exact ho.2.2.1 | exact ho.2.2.2))
        replace lst2 := lst2.st st100x13 (fun k hk ho => by simp only [out, and_true] at ho ⊢ <;> first | omega | (first | exact ho | exact ho.1 | exact ho.2 | exact ho.2.1 | exact ho.2.2 | exact ho.2.2.1 | exact ho.2.2.2))
        replace lst3 := lst3.st st100x13 (fun k hk ho => by simp only [out, and_true] at ho ⊢ <;> first | omega | (first | exact ho | exact ho.1 | exact ho.2 | exact ho.2.1 | exact ho.2.2 | exact ho.2.2.1 | exact ho.2.2.2))
        replace hf0 := hf0.st st100x13 (fun k hk ho => by simp only [out, and_true] at ho ⊢ <;> first | omega | (first | exact ho | exact ho.1 | exact ho.2 | exact ho.2.1 | exact ho.2.2 | exact ho.2.2.1 | exact ho.2.2.2))
        replace at2 := st100x13.same _ _ ⟨ne_g2_g37, trivial⟩ at2
        replace at34 := st100x13.same _ _ ⟨ne_g34_g37, trivial⟩ at34
        replace at62 := st100x13.same _ _ ⟨ne_g62_g37, trivial⟩ at62
        have ne_g96x5_g37 : g96x5 ≠ g37 := by omega
        replace at96x5 := st100x13.same _ _ ⟨ne_g96x5_g37, trivial⟩ at96x5
        have ne_g82x4_g37 : g82x4 ≠ g37 := by omega
        replace at82x4 := st100x13.same _ _ ⟨ne_g82x4_g37, trivial⟩ at82x4
        have ne_g97x13_g37 : g97x13 ≠ g37 := by omega
        replace at97x13 := st100x13.same _ _ ⟨ne_g97x13_g37, trivial⟩ at97x13
        have ne_g83x8_g37 : g83x8 ≠ g37 := by omega
        replace at83x8 := st100x13.same _ _ ⟨ne_g83x8_g37, trivial⟩ at83x8
        replace lv_v29 := Keep.st lv_v29 st100x13 (fun k hb hk => ⟨(by omega), trivial⟩)
        replace v29 := bs_v29.keep lv_v29 (Nat.le_refl _)
        have lt_at100x13 := GHeap.lt_of_get at100x13
        replace hin := base_hin.mono hle
        clear hb2 fsh2 c52 c62 i12 i22 hm2 hi2 hmsh2 hish2
        have hb2 : SFun.At _ g2 0 f p := ⟨Mem.of_get at2, hin⟩
        obtain ⟨fsh2, c52, c62, i12, i22⟩ := hb2.get
        have hm2 : MemN _ _ _ _ _ := ⟨rfl, hb2.1⟩
        have hi2 := hb2.2
        have hmsh2 : MemN _ _ _ _ _ := ⟨rfl, fsh2.1⟩
        have hish2 := fsh2.2
        clear s1 s2 si1 si2
        obtain ⟨-, s1, s2, -, -, si1, si2, -, -⟩ := fsh2.get
        clear i29
        have i29 := v29.intss
        clear i37
        have i37 := Ints.of_get at37
        clear u2
        have u2 := i22.2 a (by omega)
        clear i62
        have i62 := Ints.of_get at62
        refine .done ?_
        exact ⟨_, ⟨rfl, rfl, rfl, rfl, rfl, rfl, rfl, rfl, rfl, rfl, rfl, rfl, rfl, rfl, rfl, rfl, rfl, rfl, rfl, rfl, rfl, trivial⟩, hf0, at100x13, (by rw [hp1, hp2] at hK100x13; exact hK100x13)⟩
       refine .c1 rfl rfl rfl rfl (.litR rfl sl_23_B ze_22_E rfl rfl (by omega) (by omega) rfl rfl) ?_
       rintro _ H97x14 ⟨g97x14, rfl, le97x14, ge97x14, at97x14⟩
       replace hbl := hbl.trans le97x14
       refine ⟨hbl, ?_⟩
       have nx_H97x14 := le97x14.1
       replace hle := hle.trans le97x14
       replace lst1 := lst1.le le97x14
       replace lst2 := lst2.le le97x14
       replace lst3 := lst3.le le97x14
       replace hf0 := hf0.le le97x14
       replace at2 := le97x14.2 _ _ at2
       replace at34 := le97x14.2 _ _ at34
       replace at62 := le97x14.2 _ _ at62
       replace at_L10 := le97x14.2 _ _ at_L10
       replace at96x5 := le97x14.2 _ _ at96x5
       replace lv_v29 := Keep.le lv_v29 le97x14
       replace v29 := bs_v29.keep lv_v29 (Nat.le_refl _)
       have lt_at97x14 := GHeap.lt_of_get at97x14
       replace hin := base_hin.mono hle
       clear hb2 fsh2 c52 c62 i12 i22 hm2 hi2 hmsh2 hish2
       have hb2 : SFun.At _ g2 0 f p := ⟨Mem.of_get at2, hin⟩
       obtain ⟨fsh2, c52, c62, i12, i22⟩ := hb2.get
       have hm2 : MemN _ _ _ _ _ := ⟨rfl, hb2.1⟩
       have hi2 := hb2.2
       have hmsh2 : MemN _ _ _ _ _ := ⟨rfl, fsh2.1⟩
       have hish2 := fsh2.2
       clear s1 s2 si1 si2
       obtain ⟨-, s1, s2, -, -, si1, si2, -, -⟩ := fsh2.get
       clear i29
       have i29 := v29.intss
       clear i37
       have i37 := Ints.of_get at37
       clear u2
       have u2 := i22.2 a (by omega)
       clear i62
       have i62 := Ints.of_get at62
       refine .c1 rfl rfl rfl rfl (.litR rfl sl_22_A ze_2_E rfl rfl (by omega) (by omega) rfl rfl) ?_
       rintro _ H82x5 ⟨g82x5, rfl, le82x5, ge82x5, at82x5⟩
       replace hbl := hbl.trans le82x5
       refine ⟨hbl, ?_⟩
       have nx_H82x5 := le82x5.1
       replace hle := hle.trans le82x5
       replace lst1 := lst1.le le82x5
       replace lst2 := lst2.le le82x5
       replace lst3 := lst3.le le82x5
       replace hf0 := hf0.le le82x5
       replace at2 := le82x5.2 _ _ at2
       replace at34 := le82x5.2 _ _ at34
       replace at62 := le82x5.2 _ _ at62
       replace at_L10 := le82x5.2 _ _ at_L10
       replace at96x5 := le82x5.2 _ _ at96x5
       replace at97x14 := le82x5.2 _ _ at97x14
       replace lv_v29 := Keep.le lv_v29 le82x5
       replace v29 := bs_v29.keep lv_v29 (Nat.le_refl _)
       have lt_at82x5 := GHeap.lt_of_get at82x5
       replace hin := base_hin.mono hle
       clear hb2 fsh2 c52 c62 i12 i22 hm2 hi2 hmsh2 hish2
       have hb2 : SFun.At _ g2 0 f p := ⟨Mem.of_get at2, hin⟩
       obtain ⟨fsh2, c52, c62, i12, i22⟩ := hb2.get
       have hm2 : MemN _ _ _ _ _ := ⟨rfl, hb2.1⟩
       have hi2 := hb2.2
       have hmsh2 : MemN _ _ _ _ _ := ⟨rfl, fsh2.1⟩
       have hish2 := fsh2.2
       clear s1 s2 si1 si2
       obtain ⟨-, s1, s2, -, -, si1, si2, -, -⟩ := fsh2.get
       clear i29
       have i29 := v29.intss
       clear i37
       have i37 := Ints.of_get at37
       clear u2
       have u2 := i22.2 a (by omega)
       clear i62
       have i62 := Ints.of_get at62
       refine .c1 rfl rfl rfl rfl (.litR rfl sl_23_B ze_22_E rfl rfl (by omega) (by omega) rfl rfl) ?_
       rintro _ H83x9 ⟨g83x9, rfl, le83x9, ge83x9, at83x9⟩
       replace hbl := hbl.trans le83x9
       refine ⟨hbl, ?_⟩
       have nx_H83x9 := le83x9.1
       replace hle := hle.trans le83x9
       replace lst1 := lst1.le le83x9
       replace lst2 := lst2.le le83x9
       replace lst3 := lst3.le le83x9
       replace hf0 := hf0.le le83x9
       replace at2 := le83x9.2 _ _ at2
       replace at34 := le83x9.2 _ _ at34
       replace at62 := le83x9.2 _ _ at62
       replace at_L10 := le83x9.2 _ _ at_L10
       replace at96x5 := le83x9.2 _ _ at96x5
       replace at97x14 := le83x9.2 _ _ at97x14
       replace at82x5 := le83x9.2 _ _ at82x5
       replace lv_v29 := Keep.le lv_v29 le83x9
       replace v29 := bs_v29.keep lv_v29 (Nat.le_refl _)
       have lt_at83x9 := GHeap.lt_of_get at83x9
       replace hin := base_hin.mono hle
       clear hb2 fsh2 c52 c62 i12 i22 hm2 hi2 hmsh2 hish2
       have hb2 : SFun.At _ g2 0 f p := ⟨Mem.of_get at2, hin⟩
       obtain ⟨fsh2, c52, c62, i12, i22⟩ := hb2.get
       have hm2 : MemN _ _ _ _ _ := ⟨rfl, hb2.1⟩
       have hi2 := hb2.2
       have hmsh2 : MemN _ _ _ _ _ := ⟨rfl, fsh2.1⟩
       have hish2 := fsh2.2
       clear s1 s2 si1 si2
       obtain ⟨-, s1, s2, -, -, si1, si2, -, -⟩ := fsh2.get
       clear i29
       have i29 := v29.intss
       clear i37
       have i37 := Ints.of_get at37
       clear u2
       have u2 := i22.2 a (by omega)
       clear i62
       have i62 := Ints.of_get at62
       refine .callQ1 rfl rfl rfl rfl rfl @Try.call96 rfl (key_c (xs := glT f a e ((f.sh.hom (f.sh.tgt.getD a 0) y).getD i 0)) (by assumption) (Ints.of_get (xs := glT f a e ((f.sh.hom (f.sh.tgt.getD a 0) y).getD i 0)) (by assumption)) rfl (fun j hj => kb1.2 j hj) (by show 3 ≤ 1000; omega)) hbl ?_
       refine .m rfl rfl rfl rfl hbl (.lookupS mps_117_Ke zv_2_Pb rfl rfl (by assumption)) ?_
       refine .callQ1 rfl rfl rfl rfl rfl @Try.call96 rfl (key_c (xs := glU f a e ((f.sh.hom (f.sh.tgt.getD a 0) y).getD i 0)) (by assumption) (Ints.of_get (xs := glU f a e ((f.sh.hom (f.sh.tgt.getD a 0) y).getD i 0)) (by assumption)) rfl (fun j hj => kb2.2 j hj) (by show 3 ≤ 1000; omega)) (.refl _) ?_
       refine .m rfl rfl rfl rfl (.refl _) (.lookupS mps_117_Ke zv_2_Pb rfl rfl (by assumption)) ?_
       refine .call0 rfl rfl rfl rfl rfl @Try.call95 rfl (join_c (hK := hJ)) ?_
       rintro _ H100x14 ⟨⟨b100x14, rfl⟩, st100x14, js100x14, at100x14, hK100x14⟩
       have nx_H100x14 := st100x14.nx
       replace hle := hle.st st100x14 (fun k hk => ⟨by omega, trivial⟩)
       replace lst1 := lst1.st st100x14 (fun k hk ho => by simp only [out, and_true] at ho ⊢ <;> first | omega | (first | exact ho | exact ho.1 | exact ho.2 | exact ho.2.1 | exact ho.2.2 | exact ho.2.2.1 | exact ho.2.2.2))
       replace lst2 := lst2.st st100x14 (fun k hk ho => by simp only [out, and_true] at ho ⊢ <;> first | omega | (first | exact ho | exact ho.1 | exact ho.2 | exact ho.2.1 | exact ho.2.2 | exact ho.2.2.1 | exact ho.2.2.2))
       replace lst3 := lst3.st st100x14 (fun k hk ho => by simp only [out, and_true] at ho ⊢ <;> first | omega | (first | exact ho | exact ho.1 | exact ho.2 | exact ho.2.1 | exact ho.2.2 | exact ho.2.2.1 | exact ho.2.2.2))
       replace hf0 := hf0.st st100x14 (fun k hk ho => by simp only [out, and_true] at ho ⊢ <;> first | omega | (first | exact ho | exact ho.1 | exact ho.2 | exact ho.2.1 | exact ho.2.2 | exact ho.2.2.1 | exact ho.2.2.2))
       replace at2 := st100x14.same _ _ ⟨ne_g2_g37, trivial⟩ at2
       replace at34 := st100x14.same _ _ ⟨ne_g34_g37, trivial⟩ at34
       replace at62 := st100x14.same _ _ ⟨ne_g62_g37, trivial⟩ at62
       have ne_g96x5_g37 : g96x5 ≠ g37 := by omega
       replace at96x5 := st100x14.same _ _ ⟨ne_g96x5_g37, trivial⟩ at96x5
       have ne_g97x14_g37 : g97x14 ≠ g37 := by omega
       replace at97x14 := st100x14.same _ _ ⟨ne_g97x14_g37, trivial⟩ at97x14
       have ne_g82x5_g37 : g82x5 ≠ g37 := by omega
       replace at82x5 := st100x14.same _ _ ⟨ne_g82x5_g37, trivial⟩ at82x5
       have ne_g83x9_g37 : g83x9 ≠ g37 := by omega
       replace at83x9 := st100x14.same _ _ ⟨ne_g83x9_g37, trivial⟩ at83x9
       replace lv_v29 := Keep.st lv_v29 st100x14 (fun k hb hk => ⟨(by omega), trivial⟩)
       replace v29 := bs_v29.keep lv_v29 (Nat.le_refl _)
       have lt_at100x14 := GHeap.lt_of_get at100x14
       replace hin := base_hin.mono hle
       clear hb2 fsh2 c52 c62 i12 i22 hm2 hi2 hmsh2 hish2
       have hb2 : SFun.At _ g2 0 f p := ⟨Mem.of_get at2, hin⟩
       obtain ⟨fsh2, c52, c62, i12, i22⟩ := hb2.get
       have hm2 : MemN _ _ _ _ _ := ⟨rfl, hb2.1⟩
       have hi2 := hb2.2
       have hmsh2 : MemN _ _ _ _ _ := ⟨rfl, fsh2.1⟩
       have hish2 := fsh2.2
       clear s1 s2 si1 si2
       obtain ⟨-, s1, s2, -, -, si1, si2, -, -⟩ := fsh2.get
       clear i29
       have i29 := v29.intss
       clear i37
       have i37 := Ints.of_get at37
       clear u2
       have u2 := i22.2 a (by omega)
       clear i62
       have i62 := Ints.of_get at62
       refine .done ?_
       exact ⟨_, ⟨rfl, rfl, rfl, rfl, rfl, rfl, rfl, rfl, rfl, rfl, rfl, rfl, rfl, rfl, rfl, rfl, rfl, rfl, rfl, rfl, rfl, trivial⟩, hf0, at100x14, (by rw [hp1, hp2] at hK100x14; exact hK100x14)⟩
      refine .c1 rfl rfl rfl rfl (.litR rfl sl_23_B ze_22_E rfl rfl (by omega) (by omega) rfl rfl) ?_
      rintro _ H97x15 ⟨g97x15, rfl, le97x15, ge97x15, at97x15⟩
      replace hbl := hbl.trans le97x15
      refine ⟨hbl, ?_⟩
      have nx_H97x15 := le97x15.1
      replace hle := hle.trans le97x15
      replace lst1 := lst1.le le97x15
      replace lst2 := lst2.le le97x15
      replace lst3 := lst3.le le97x15
      replace hf0 := hf0.le le97x15
      replace at2 := le97x15.2 _ _ at2
      replace at34 := le97x15.2 _ _ at34
      replace at62 := le97x15.2 _ _ at62
      replace at_L10 := le97x15.2 _ _ at_L10
      replace at96x5 := le97x15.2 _ _ at96x5
      replace lv_v29 := Keep.le lv_v29 le97x15
      replace v29 := bs_v29.keep lv_v29 (Nat.le_refl _)
      have lt_at97x15 := GHeap.lt_of_get at97x15
      replace hin := base_hin.mono hle
      clear hb2 fsh2 c52 c62 i12 i22 hm2 hi2 hmsh2 hish2
      have hb2 : SFun.At _ g2 0 f p := ⟨Mem.of_get at2, hin⟩
      obtain ⟨fsh2, c52, c62, i12, i22⟩ := hb2.get
      have hm2 : MemN _ _ _ _ _ := ⟨rfl, hb2.1⟩
      have hi2 := hb2.2
      have hmsh2 : MemN _ _ _ _ _ := ⟨rfl, fsh2.1⟩
      have hish2 := fsh2.2
      clear s1 s2 si1 si2
      obtain ⟨-, s1, s2, -, -, si1, si2, -, -⟩ := fsh2.get
      clear i29
      have i29 := v29.intss
      clear i37
      have i37 := Ints.of_get at37
      clear u2
      have u2 := i22.2 a (by omega)
      clear i62
      have i62 := Ints.of_get at62
      refine .callQ1 rfl rfl rfl rfl rfl @Try.call65 rfl (then_s) hbl ?_
      refine .c1 rfl rfl rfl rfl (.litR rfl sl_22_A ze_2_E rfl rfl (by omega) (by omega) rfl rfl) ?_
      rintro _ H82x6 ⟨g82x6, rfl, le82x6, ge82x6, at82x6⟩
      replace hbl := hbl.trans le82x6
      refine ⟨hbl, ?_⟩
      have nx_H82x6 := le82x6.1
      replace hle := hle.trans le82x6
      replace lst1 := lst1.le le82x6
      replace lst2 := lst2.le le82x6
      replace lst3 := lst3.le le82x6
      replace hf0 := hf0.le le82x6
      replace at2 := le82x6.2 _ _ at2
      replace at34 := le82x6.2 _ _ at34
      replace at62 := le82x6.2 _ _ at62
      replace at_L10 := le82x6.2 _ _ at_L10
      replace at96x5 := le82x6.2 _ _ at96x5
      replace at97x15 := le82x6.2 _ _ at97x15
      replace lv_v29 := Keep.le lv_v29 le82x6
      replace v29 := bs_v29.keep lv_v29 (Nat.le_refl _)
      have lt_at82x6 := GHeap.lt_of_get at82x6
      replace hin := base_hin.mono hle
      clear hb2 fsh2 c52 c62 i12 i22 hm2 hi2 hmsh2 hish2
      have hb2 : SFun.At _ g2 0 f p := ⟨Mem.of_get at2, hin⟩
      obtain ⟨fsh2, c52, c62, i12, i22⟩ := hb2.get
      have hm2 : MemN _ _ _ _ _ := ⟨rfl, hb2.1⟩
      have hi2 := hb2.2
      have hmsh2 : MemN _ _ _ _ _ := ⟨rfl, fsh2.1⟩
      have hish2 := fsh2.2
      clear s1 s2 si1 si2
      obtain ⟨-, s1, s2, -, -, si1, si2, -, -⟩ := fsh2.get
      clear i29
      have i29 := v29.intss
      clear i37
      have i37 := Ints.of_get at37
      clear u2
      have u2 := i22.2 a (by omega)
      clear i62
      have i62 := Ints.of_get at62
      refine .c1 rfl rfl rfl rfl (.litR rfl sl_23_B ze_22_E rfl rfl (by omega) (by omega) rfl rfl) ?_
      rintro _ H83x10 ⟨g83x10, rfl, le83x10, ge83x10, at83x10⟩
      replace hbl := hbl.trans le83x10
      refine ⟨hbl, ?_⟩
      have nx_H83x10 := le83x10.1
      replace hle := hle.trans le83x10
      replace lst1 := lst1.le le83x10
      replace lst2 := lst2.le le83x10
      replace lst3 := lst3.le le83x10
      replace hf0 := hf0.le le83x10
      replace at2 := le83x10.2 _ _ at2
      replace at34 := le83x10.2 _ _ at34
      replace at62 := le83x10.2 _ _ at62
      replace at_L10 := le83x10.2 _ _ at_L10
      replace at96x5 := le83x10.2 _ _ at96x5
      replace at97x15 := le83x10.2 _ _ at97x15
      replace at82x6 := le83x10.2 _ _ at82x6
      replace lv_v29 := Keep.le lv_v29 le83x10
      replace v29 := bs_v29.keep lv_v29 (Nat.le_refl _)
      have lt_at83x10 := GHeap.lt_of_get at83x10
      replace hin := base_hin.mono hle
      clear hb2 fsh2 c52 c62 i12 i22 hm2 hi2 hmsh2 hish2
      have hb2 : SFun.At _ g2 0 f p := ⟨Mem.of_get at2, hin⟩
      obtain ⟨fsh2, c52, c62, i12, i22⟩ := hb2.get
      have hm2 : MemN _ _ _ _ _ := ⟨rfl, hb2.1⟩
      have hi2 := hb2.2
      have hmsh2 : MemN _ _ _ _ _ := ⟨rfl, fsh2.1⟩
      have hish2 := fsh2.2
      clear s1 s2 si1 si2
      obtain ⟨-, s1, s2, -, -, si1, si2, -, -⟩ := fsh2.get
      clear i29
      have i29 := v29.intss
      clear i37
      have i37 := Ints.of_get at37
      clear u2
      have u2 := i22.2 a (by omega)
      clear i62
      have i62 := Ints.of_get at62
      refine .callQ1 rfl rfl rfl rfl rfl @Try.call96 rfl (key_c (xs := glT f a e ((f.sh.hom (f.sh.tgt.getD a 0) y).getD i 0)) (by assumption) (Ints.of_get (xs := glT f a e ((f.sh.hom (f.sh.tgt.getD a 0) y).getD i 0)) (by assumption)) rfl (fun j hj => kb1.2 j hj) (by show 3 ≤ 1000; omega)) hbl ?_
      refine .m rfl rfl rfl rfl hbl (.lookupS mps_117_Ke zv_2_Pb rfl rfl (by assumption)) ?_
      refine .callQ1 rfl rfl rfl rfl rfl @Try.call96 rfl (key_c (xs := glU f a e ((f.sh.hom (f.sh.tgt.getD a 0) y).getD i 0)) (by assumption) (Ints.of_get (xs := glU f a e ((f.sh.hom (f.sh.tgt.getD a 0) y).getD i 0)) (by assumption)) rfl (fun j hj => kb2.2 j hj) (by show 3 ≤ 1000; omega)) (.refl _) ?_
      refine .m rfl rfl rfl rfl (.refl _) (.lookupS mps_117_Ke zv_2_Pb rfl rfl (by assumption)) ?_
      refine .call0 rfl rfl rfl rfl rfl @Try.call95 rfl (join_c (hK := hJ)) ?_
      rintro _ H100x15 ⟨⟨b100x15, rfl⟩, st100x15, js100x15, at100x15, hK100x15⟩
      have nx_H100x15 := st100x15.nx
      replace hle := hle.st st100x15 (fun k hk => ⟨by omega, trivial⟩)
      replace lst1 := lst1.st st100x15 (fun k hk ho => by simp only [out, and_true] at ho ⊢ <;> first | omega | (first | exact ho | exact ho.1 | exact ho.2 | exact ho.2.1 | exact ho.2.2 | exact ho.2.2.1 | exact ho.2.2.2))
      replace lst2 := lst2.st st100x15 (fun k hk ho => by simp only [out, and_true] at ho ⊢ <;> first | omega | (first | exact ho | exact ho.1 | exact ho.2 | exact ho.2.1 | exact ho.2.2 | exact ho.2.2.1 | exact ho.2.2.2))
      replace lst3 := lst3.st st100x15 (fun k hk ho => by simp only [out, and_true] at ho ⊢ <;> first | omega | (first | exact ho | exact ho.1 | exact ho.2 | exact ho.2.1 | exact ho.2.2 | exact ho.2.2.1 | exact ho.2.2.2))
      replace hf0 := hf0.st st100x15 (fun k hk ho => by simp only [out, and_true] at ho ⊢ <;> first | omega | (first | exact ho | exact ho.1 | exact ho.2 | exact ho.2.1 | exact ho.2.2 | exact ho.2.2.1 | exact ho.2.2.2))
      replace at2 := st100x15.same _ _ ⟨ne_g2_g37, trivial⟩ at2
      replace at34 := st100x15.same _ _ ⟨ne_g34_g37, trivial⟩ at34
      replace at62 := st100x15.same _ _ ⟨ne_g62_g37, trivial⟩ at62
      have ne_g96x5_g37 : g96x5 ≠ g37 := by omega
      replace at96x5 := st100x15.same _ _ ⟨ne_g96x5_g37, trivial⟩ at96x5
      have ne_g97x15_g37 : g97x15 ≠ g37 := by omega
      replace at97x15 := st100x15.same _ _ ⟨ne_g97x15_g37, trivial⟩ at97x15
      have ne_g82x6_g37 : g82x6 ≠ g37 := by omega
      replace at82x6 := st100x15.same _ _ ⟨ne_g82x6_g37, trivial⟩ at82x6
      have ne_g83x10_g37 : g83x10 ≠ g37 := by omega
      replace at83x10 := st100x15.same _ _ ⟨ne_g83x10_g37, trivial⟩ at83x10
      replace lv_v29 := Keep.st lv_v29 st100x15 (fun k hb hk => ⟨(by omega), trivial⟩)
      replace v29 := bs_v29.keep lv_v29 (Nat.le_refl _)
      have lt_at100x15 := GHeap.lt_of_get at100x15
      replace hin := base_hin.mono hle
      clear hb2 fsh2 c52 c62 i12 i22 hm2 hi2 hmsh2 hish2
      have hb2 : SFun.At _ g2 0 f p := ⟨Mem.of_get at2, hin⟩
      obtain ⟨fsh2, c52, c62, i12, i22⟩ := hb2.get
      have hm2 : MemN _ _ _ _ _ := ⟨rfl, hb2.1⟩
      have hi2 := hb2.2
      have hmsh2 : MemN _ _ _ _ _ := ⟨rfl, fsh2.1⟩
      have hish2 := fsh2.2
      clear s1 s2 si1 si2
      obtain ⟨-, s1, s2, -, -, si1, si2, -, -⟩ := fsh2.get
      clear i29
      have i29 := v29.intss
      clear i37
      have i37 := Ints.of_get at37
      clear u2
      have u2 := i22.2 a (by omega)
      clear i62
      have i62 := Ints.of_get at62
      refine .done ?_
      exact ⟨_, ⟨rfl, rfl, rfl, rfl, rfl, rfl, rfl, rfl, rfl, rfl, rfl, rfl, rfl, rfl, rfl, rfl, rfl, rfl, rfl, rfl, rfl, trivial⟩, hf0, at100x15, (by rw [hp1, hp2] at hK100x15; exact hK100x15)⟩
     rintro fr920 H920 ⟨js920, hsub920, st920, at920, hK920⟩
     have nx_H920 := st920.nx
     replace hle := hle.st st920 (fun k hk => ⟨by omega, trivial⟩)
     replace lst1 := lst1.st st920 (fun k hk ho => by simp only [out, and_true] at ho ⊢ <;> first | omega | (first | exact ho | exact ho.1 | exact ho.2 | exact ho.2.1 | exact ho.2.2 | exact ho.2.2.1 | exact ho.2.2.2))
     replace lst2 := lst2.st st920 (fun k hk ho => by simp only [out, and_true] at ho ⊢ <;> first | omega | (first | exact ho | exact ho.1 | exact ho.2 | exact ho.2.1 | exact ho.2.2 | exact ho.2.2.1 | exact ho.2.2.2))
     replace lst3 := lst3.st st920 (fun k hk ho => by simp only [out, and_true] at ho ⊢ <;> first | omega | (first | exact ho | exact ho.1 | exact ho.2 | exact ho.2.1 | exact ho.2.2 | exact ho.2.2.1 | exact ho.2.2.2))
     replace at2 := st920.same _ _ ⟨ne_g2_g37, trivial⟩ at2
     replace at34 := st920.same _ _ ⟨ne_g34_g37, trivial⟩ at34
     replace at62 := st920.same _ _ ⟨ne_g62_g37, trivial⟩ at62
     replace lv_v29 := Keep.st lv_v29 st920 (fun k hb hk => ⟨(by omega), trivial⟩)
     replace v29 := bs_v29.keep lv_v29 (Nat.le_refl _)
     have lt_at920 := GHeap.lt_of_get at920
     replace hin := base_hin.mono hle
     clear hb2 fsh2 c52 c62 i12 i22 hm2 hi2 hmsh2 hish2
     have hb2 : SFun.At _ g2 0 f p := ⟨Mem.of_get at2, hin⟩
     obtain ⟨fsh2, c52, c62, i12, i22⟩ := hb2.get
     have hm2 : MemN _ _ _ _ _ := ⟨rfl, hb2.1⟩
     have hi2 := hb2.2
     have hmsh2 : MemN _ _ _ _ _ := ⟨rfl, fsh2.1⟩
     have hish2 := fsh2.2
     clear s1 s2 si1 si2
     obtain ⟨-, s1, s2, -, -, si1, si2, -, -⟩ := fsh2.get
     clear i29
     have i29 := v29.intss
     clear i37
     have i37 := Ints.of_get at37
     clear u2
     have u2 := i22.2 a (by omega)
     clear i62
     have i62 := Ints.of_get at62
     refine hK29 _ _ ?_
     refine .forget hsub920 ?_
     refine .region ?_
     refine .m rfl rfl rfl (.add rfl rfl rfl (by omega) (by omega)) ?_
     refine .m rfl rfl rfl (.move rfl) (.nil ?_)
     refine hKL3 ((i + 1, js920)) _ _ ?_ ?_ ⟨rfl, rfl, rfl, rfl, rfl, rfl, rfl, rfl, rfl, rfl, rfl, rfl, rfl, rfl, rfl, rfl, rfl, trivial⟩
     ·
      refine ⟨lst3, by assumption, ?_⟩
      exact ⟨by omega, by rw [glI_snoc, joinK_snoc, hpr]; exact hK920⟩
     (dsimp only; omega)
    try simp only [sps] at h65
    refine .exit ?_
    refine hK24 _ _ ?_
    refine .region ?_
    refine .m rfl rfl rfl (.add rfl rfl rfl (by omega) (by omega)) ?_
    refine .m rfl rfl rfl (.move rfl) (.nil ?_)
    obtain rfl : i = (f.sh.hom (f.sh.tgt.getD a 0) y).length := by omega
    refine hKL2 ((e + 1, js3)) _ _ ?_ ?_ ⟨rfl, rfl, rfl, rfl, rfl, rfl, rfl, rfl, rfl, rfl, rfl, rfl, trivial⟩
    ·
     refine ⟨lst2, by assumption, ?_⟩
     exact ⟨by omega, by rw [glI_next2]; exact hJ⟩
    (dsimp only; omega)
   try simp only [sps] at h49
   refine .exit ?_
   refine hK19 _ _ ?_
   refine .region ?_
   refine .m rfl rfl rfl (.add rfl rfl rfl (by omega) (by omega)) ?_
   refine .m rfl rfl rfl (.move rfl) (.nil ?_)
   obtain rfl : e = (f.ac.getD a []).length := by omega
   refine hKL1 ((a + 1, js2)) _ _ ?_ ?_ ⟨rfl, rfl, rfl, rfl, rfl, rfl, rfl, rfl, trivial⟩
   ·
    refine ⟨lst1, by assumption, ?_⟩
    exact ⟨by omega, by rw [glI_next1]; exact hJ⟩
   (dsimp only; omega)
  try simp only [sps] at h42
  refine .exit ?_
  refine hK15 _ _ ?_
  refine .seq (fun K31 hK31 => ?_)
  refine .region (.m rfl rfl rfl (.move rfl) (.m rfl rfl rfl (.move rfl) ?_))
  refine .call rfl rfl rfl rfl @Try.call97 rfl (partition_c (hK := hJ)) ?_
  rintro _ H106 ⟨g106, rfl, st106, ge106, at106⟩
  have nx_H106 := st106.nx
  replace hle := hle.st st106 (fun k hk => ⟨by omega, trivial⟩)
  replace lst1 := lst1.st st106 (fun k hk ho => by simp only [out, and_true] at ho ⊢ <;> first | omega | (first | exact ho | exact ho.1 | exact ho.2 | exact ho.2.1 | exact ho.2.2 | exact ho.2.2.1 | exact ho.2.2.2))
  replace at2 := st106.same _ _ ⟨ne_g2_g37, trivial⟩ at2
  replace at34 := st106.same _ _ ⟨ne_g34_g37, trivial⟩ at34
  replace lv_v29 := Keep.st lv_v29 st106 (fun k hb hk => ⟨(by omega), trivial⟩)
  replace v29 := bs_v29.keep lv_v29 (Nat.le_refl _)
  have lt_at106 := GHeap.lt_of_get at106
  replace hin := base_hin.mono hle
  clear hb2 fsh2 c52 c62 i12 i22 hm2 hi2 hmsh2 hish2
  have hb2 : SFun.At _ g2 0 f p := ⟨Mem.of_get at2, hin⟩
  obtain ⟨fsh2, c52, c62, i12, i22⟩ := hb2.get
  have hm2 : MemN _ _ _ _ _ := ⟨rfl, hb2.1⟩
  have hi2 := hb2.2
  have hmsh2 : MemN _ _ _ _ _ := ⟨rfl, fsh2.1⟩
  have hish2 := fsh2.2
  clear s1 s2 si1 si2
  obtain ⟨-, s1, s2, -, -, si1, si2, -, -⟩ := fsh2.get
  clear i29
  have i29 := v29.intss
  clear i37
  have i37 := Ints.of_get at37
  refine .m rfl rfl rfl (.assign rfl) (.m rfl rfl rfl (.assign rfl) (.m rfl rfl rfl (.assign rfl) (.nil ?_)))
  refine hK31 _ _ ?_
  refine .ret ?_
  refine hret _ _ ?_
  refine ⟨_, _, _, rfl, rfl, rfl, ?_⟩
  obtain rfl : a = f.sh.src.length := by omega
  rw [hnl] at at106
  obtain ⟨e1, e2, e3⟩ := gl_4 hf hy hL
  rw [e1, e2, e3]
  exact ⟨hle, _, r29, _, by rw [length_joinL, hnl], Two.mk' (H0 := H29) (bs_v29.keep (.of_le (.refl _)) (by omega)) (v29.keep (.of_le (.refl _)) (by omega)) at106 (by omega) (by omega)⟩
end Go.Proofs.Ytgnfekfdmgnhcaa
