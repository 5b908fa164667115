/- Parts that connectives and maps make. No condition but those of each statement. -/
import Derived.Test.YtbpehbbdodahaaaUc
import Derived.Test.YtbpehbbdodahaaaGlUb
namespace Go.Proofs.Ytbpehbbdodahaaa
open Go Go.GL Go.RowKit Go.Proofs
theorem sl_88_Ue : sliceT Try.prog 88 = some (90, 1) := by kernel_rfl
theorem ze_90_Ue : zeroT Try.prog 90 = some ([.slice none 0 0], 1) := by kernel_rfl
theorem sl_90_Ue : sliceT Try.prog 90 = some (4, 1) := by kernel_rfl
theorem ze_4_Ue : zeroT Try.prog 4 = some ([.bool false], 1) := by kernel_rfl
theorem by_4_Ue : (Try.prog.info? 4).map (·.bytes) = some 1 := by kernel_rfl
theorem sz_4_Ue : (Try.prog.info? 4).map (·.size) = some 1 := by kernel_rfl
theorem by_90_Ue : (Try.prog.info? 90).map (·.bytes) = some 24 := by kernel_rfl
theorem on_90_Ue : oneT Try.prog 90 = true := by kernel_rfl
theorem on_4_Ue : oneT Try.prog 4 = true := by kernel_rfl
set_option maxHeartbeats 4000000 in
theorem l26Marks_c {f : SFun} {p : SFunP} {a : Option Addr} {me : List (List Int)} {r : Nat → Option Addr} {H : GHeap} (hin : f.In H p := by assumption) (hm : Intss H a me r := by assumption) (hs : f.Small := by assumption)
    (hz : ∀ i, i < f.sz.length → 0 ≤ f.sz.getD i 0 ∧ f.sz.getD i 0 ≤ 16) (hml : me.length = f.sz.length) (hme : ∀ x, x < me.length → (me.getD x []).length ≤ 1048576 ∧ allIn (me.getD x []) (f.sz.getD x 0) = true) :
    GCalls Try.prog 71 [.agg (f.cells p).toArray, .slice a me.length me.length] H (NewBMat 90 4 H (fun x => (f.sz.getD x 0).toNat) (hasL me) f.sz.length) := by
  obtain ⟨s1, s2, s3, s4⟩ := hs
  refine GCalls.body (N := 46) (rs := [.tmp 4]) Try.func71 rfl rfl rfl rfl (fun Qx hret hend => ?_)
  refine .forget (fr' := [(0, some _), (1, some _)]) ⟨rfl, rfl, trivial⟩ ?_
  have hle := GHeap.Le.refl H
  have base_hin := hin
  have base_hm := hm
  refine .seq (fun K1 hK1 => ?_)
  refine .region ?_
  refine .r rfl rfl rfl (.boxR rfl sz_39_VSFun rfl) ?_
  rintro _ H2 ⟨g2, rfl, le2, ge2, at2⟩
  have nx_H2 := le2.1
  replace hle := hle.trans le2
  have lt_at2 := GHeap.lt_of_get at2
  replace hin := base_hin.mono hle
  replace hm := base_hm.mono hle
  have hb2 : SFun.At _ g2 0 f p := ⟨Mem.of_get at2, hin⟩
  obtain ⟨fsh2, c52, c62, i12, i22⟩ := hb2.get
  have hm2 : MemN _ _ _ _ _ := ⟨rfl, hb2.1⟩
  have hi2 := hb2.2
  have hmsh2 : MemN _ _ _ _ _ := ⟨rfl, fsh2.1⟩
  have hish2 := fsh2.2
  refine .m rfl rfl rfl (.assign rfl) ?_
  refine .nil ?_
  refine hK1 _ _ ?_
  refine .seq (fun K2 hK2 => ?_)
  refine .region ?_
  refine .r rfl rfl rfl (.litR rfl sl_88_Ue ze_90_Ue rfl rfl (by omega) (by omega) rfl rfl) ?_
  rintro _ H9 ⟨g9, rfl, le9, ge9, at9⟩
  have nx_H9 := le9.1
  replace hle := hle.trans le9
  replace at2 := le9.2 _ _ at2
  have lt_at9 := GHeap.lt_of_get at9
  replace hin := base_hin.mono hle
  replace hm := base_hm.mono hle
  clear hb2 fsh2 c52 c62 i12 i22 hm2 hi2 hmsh2 hish2
  have hb2 : SFun.At _ g2 0 f p := ⟨Mem.of_get at2, hin⟩
  obtain ⟨fsh2, c52, c62, i12, i22⟩ := hb2.get
  have hm2 : MemN _ _ _ _ _ := ⟨rfl, hb2.1⟩
  have hi2 := hb2.2
  have hmsh2 : MemN _ _ _ _ _ := ⟨rfl, fsh2.1⟩
  have hish2 := fsh2.2
  refine .m rfl rfl rfl (.assign rfl) ?_
  refine .nil ?_
  refine hK2 _ _ ?_
  refine .seq (fun K3 hK3 => ?_)
  refine .seq (fun K4 hK4 => ?_)
  refine .region ?_
  refine .m rfl rfl rfl (.assign rfl) ?_
  refine .nil ?_
  refine hK4 _ _ ?_
  refine .block ?_
  refine .loopR (σ := Nat × (Nat → Nat) × Nat × Nat) [(1, some _), (2, some _)] (fun (k, rr, gL5, nL5) => [(6, some (.int .i64 (k : Int))), (5, some (.slice (some ⟨gL5, 0, none⟩) nL5 nL5))]) (fun (k, rr, gL5, nL5) H' => St [g9] H9 H' ∧ H'.get gL5 = some (.row ((slsN rr (fun x => (f.sz.getD x 0).toNat) k)) 90 true) ∧ (gL5 = g9 ∨ H9.next ≤ gL5) ∧ nL5 = (slsN rr (fun x => (f.sz.getD x 0).toNat) k).length ∧ k ≤ f.sz.length ∧ OwnB H.next H' 4 rr (fun x => (f.sz.getD x 0).toNat) (hasL me) k) (fun (k, rr, gL5, nL5) => f.sz.length - k) ((0, fun _ => 0, _, _)) ⟨rfl, rfl, trivial⟩ ⟨rfl, rfl, trivial⟩ ?_ ?_
  ·
   refine ⟨.refl _ _, by first | assumption | exact at9 | simpa using at9, .inl rfl, by first | rfl | simp | omega, ?_⟩
   exact ⟨by omega, .zero _ _ _ _ _ _⟩
  ·
   rintro ⟨k, rr, gL5, nL5⟩ HL1 ⟨lst1, at_L5, pl_L5, ln_L5, hI⟩ KL1 hKL1
   refine .forget (fr' := [(6, some (.int .i64 (k : Int))), (5, some (.slice (some ⟨gL5, 0, none⟩) nL5 nL5)), (1, some _), (2, some _)]) ⟨rfl, rfl, rfl, rfl, trivial⟩ ?_
   have ge_L5 : H.next ≤ gL5 := by omega
   have nx_HL1 := lst1.nx
   replace hle := hle.st lst1 (fun k hk => ⟨by omega, trivial⟩)
   replace at2 := lst1.same _ _ ⟨by omega, trivial⟩ at2
   have lt_at_L5 := GHeap.lt_of_get at_L5
   replace hin := base_hin.mono hle
   replace hm := base_hm.mono hle
   clear hb2 fsh2 c52 c62 i12 i22 hm2 hi2 hmsh2 hish2
   have hb2 : SFun.At _ g2 0 f p := ⟨Mem.of_get at2, hin⟩
   obtain ⟨fsh2, c52, c62, i12, i22⟩ := hb2.get
   have hm2 : MemN _ _ _ _ _ := ⟨rfl, hb2.1⟩
   have hi2 := hb2.2
   have hmsh2 : MemN _ _ _ _ _ := ⟨rfl, fsh2.1⟩
   have hish2 := fsh2.2
   have rk := St.refl [gL5] HL1
   obtain ⟨hk, hR⟩ := hI
   have hat5 := at_L5
   have hfl : (slsN rr (fun x => (f.sz.getD x 0).toNat) k).length = k := length_slsN _ _ _
   refine .seq (fun K5 hK5 => ?_)
   refine .seq (fun K6 hK6 => ?_)
   refine .region ?_
   refine .m rfl rfl rfl (.move rfl) ?_
   refine .m rfl rfl rfl (.fieldAddr fo_39_1_P rfl) ?_
   refine .m rfl rfl rfl (.load on_22_B rfl (by assumption)) ?_
   refine .m rfl rfl rfl (.len sl_22_A rfl) ?_
   refine .m rfl rfl rfl (.cmp rfl rfl rfl) ?_
   refine .nil ?_
   refine hK6 _ _ ?_
   refine .cond rfl (fun h14 => ?_) (fun h14 => ?_)
   ·
    simp only [sps] at h14
    have r2 := hz k (by omega)
    have r3 := hme k (by omega)
    have r4 := allIn_iff.1 r3.2
    have r1 := hm.2 k (by omega)
    refine .skip ?_
    refine hK5 _ _ ?_
    refine .seq (fun K7 hK7 => ?_)
    refine .block ?_
    refine .seq (fun K8 hK8 => ?_)
    refine .region ?_
    refine .m rfl rfl rfl (.fieldAddr fo_39_1_P rfl) ?_
    refine .m rfl rfl rfl (.load on_22_B rfl (by assumption)) ?_
    refine .m rfl rfl rfl (.move rfl) ?_
    refine .m rfl rfl rfl (.idxN sl_22_A (by assumption) rfl rfl (by omega)) ?_
    refine .m rfl rfl rfl (.loadI on_2_A (by assumption) rfl (by omega)) ?_
    refine .r rfl rfl rfl (.makeB rfl sl_90_Ue ze_4_Ue by_4_Ue rfl rfl (by omega) (by omega) (by omega) (by omega)) ?_
    rintro _ H22 ⟨g22, rfl, le22, ge22, at22⟩
    have nx_H22 := le22.1
    replace hle := hle.trans le22
    replace lst1 := lst1.le le22
    replace rk := rk.le le22
    replace at2 := le22.2 _ _ at2
    replace at_L5 := le22.2 _ _ at_L5
    have lt_at22 := GHeap.lt_of_get at22
    replace hin := base_hin.mono hle
    replace hm := base_hm.mono hle
    clear hb2 fsh2 c52 c62 i12 i22 hm2 hi2 hmsh2 hish2
    have hb2 : SFun.At _ g2 0 f p := ⟨Mem.of_get at2, hin⟩
    obtain ⟨fsh2, c52, c62, i12, i22⟩ := hb2.get
    have hm2 : MemN _ _ _ _ _ := ⟨rfl, hb2.1⟩
    have hi2 := hb2.2
    have hmsh2 : MemN _ _ _ _ _ := ⟨rfl, fsh2.1⟩
    have hish2 := fsh2.2
    clear r1
    have r1 := hm.2 k (by omega)
    refine .m rfl rfl rfl (.assign rfl) ?_
    refine .nil ?_
    refine hK8 _ _ ?_
    refine .seq (fun K9 hK9 => ?_)
    refine .seq (fun K10 hK10 => ?_)
    refine .region ?_
    refine .m rfl rfl rfl (.assign rfl) ?_
    refine .nil ?_
    refine hK10 _ _ ?_
    refine .block ?_
    refine .loopR (σ := Nat) [(1, some _), (2, some _), (5, some _), (6, some _), (7, some _)] (fun e => [(8, some (.int .i64 (e : Int)))]) (fun e H' => St [g22] H22 H' ∧ H'.get g22 = some (.row (bools (tabB (f.sz.getD k 0).toNat (markP (me.getD k []) e))) 4 true) ∧ e ≤ (me.getD k []).length) (fun e => (me.getD k []).length - e) (0) ⟨rfl, rfl, rfl, rfl, rfl, trivial⟩ ⟨rfl, trivial⟩ ?_ ?_
    ·
     refine ⟨.refl _ _, by (rw [markP_zero, ← tabB_false]; assumption), ?_⟩
     omega
    ·
     rintro e HL2 ⟨lst2, at_L7, hI⟩ KL2 hKL2
     refine .forget (fr' := [(8, some (.int .i64 (e : Int))), (1, some _), (2, some _), (5, some _), (6, some _), (7, some _)]) ⟨rfl, rfl, rfl, rfl, rfl, rfl, trivial⟩ ?_
     have nx_HL2 := lst2.nx
     replace hle := hle.st lst2 (fun k hk => ⟨by omega, trivial⟩)
     replace lst1 := lst1.st lst2 (fun k hk ho => by simp only [out, and_true] at ho ⊢ <;> omega)
     replace rk := rk.st lst2 (fun k hk ho => by simp only [out, and_true] at ho ⊢ <;> omega)
     replace at2 := lst2.same _ _ ⟨by omega, trivial⟩ at2
     replace at_L5 := lst2.same _ _ ⟨by omega, trivial⟩ at_L5
     have lt_at_L7 := GHeap.lt_of_get at_L7
     replace hin := base_hin.mono hle
     replace hm := base_hm.mono hle
     clear hb2 fsh2 c52 c62 i12 i22 hm2 hi2 hmsh2 hish2
     have hb2 : SFun.At _ g2 0 f p := ⟨Mem.of_get at2, hin⟩
     obtain ⟨fsh2, c52, c62, i12, i22⟩ := hb2.get
     have hm2 : MemN _ _ _ _ _ := ⟨rfl, hb2.1⟩
     have hi2 := hb2.2
     have hmsh2 : MemN _ _ _ _ _ := ⟨rfl, fsh2.1⟩
     have hish2 := fsh2.2
     clear r1
     have r1 := hm.2 k (by omega)
     have b7 := (Bools.of_get at_L7).tabS
     have hlb : (tabB (f.sz.getD k 0).toNat (markP (me.getD k []) e)).length = (f.sz.getD k 0).toNat := length_tabB _ _
     refine .seq (fun K11 hK11 => ?_)
     refine .seq (fun K12 hK12 => ?_)
     refine .region ?_
     refine .m rfl rfl rfl (.move rfl) ?_
     refine .m rfl rfl rfl (.move rfl) ?_
     refine .m rfl rfl rfl (.move rfl) ?_
     refine .m rfl rfl rfl (.idxN sl_23_B (Intss.sl (by assumption)) rfl rfl (by omega)) ?_
     refine .m rfl rfl rfl (.loadR on_22_B (by assumption) rfl (by omega)) ?_
     refine .m rfl rfl rfl (.len sl_22_A rfl) ?_
     refine .m rfl rfl rfl (.cmp rfl rfl rfl) ?_
     refine .nil ?_
     refine hK12 _ _ ?_
     refine .cond rfl (fun h29 => ?_) (fun h29 => ?_)
     ·
      simp only [sps] at h29
      have r5 := r4 e (by omega)
      refine .skip ?_
      refine hK11 _ _ ?_
      refine .seq (fun K13 hK13 => ?_)
      refine .block ?_
      refine .region ?_
      refine .m rfl rfl rfl (.move rfl) ?_
      refine .m rfl rfl rfl (.move rfl) ?_
      refine .m rfl rfl rfl (.move rfl) ?_
      refine .m rfl rfl rfl (.idxN sl_23_B (Intss.sl (by assumption)) rfl rfl (by omega)) ?_
      refine .m rfl rfl rfl (.loadR on_22_B (by assumption) rfl (by omega)) ?_
      refine .m rfl rfl rfl (.move rfl) ?_
      refine .m rfl rfl rfl (.idxN sl_22_A (by assumption) rfl rfl (by omega)) ?_
      refine .m rfl rfl rfl (.loadI on_2_A (by assumption) rfl (by omega)) ?_
      refine .m rfl rfl rfl (.idx1 sl_90_Ue (by assumption) rfl rfl (by omega) (by omega)) ?_
      refine .r0 rfl rfl (.storeB rfl sz_4_Ue rfl rfl (by assumption) (by first | omega | (simp <;> omega))) ?_
      rintro _ H9009 ⟨rfl, st9009, at9009⟩
      have nx_H9009 := st9009.nx
      replace hle := hle.st st9009 (fun k hk => ⟨by omega, trivial⟩)
      replace lst1 := lst1.st st9009 (fun k hk ho => by simp only [out, and_true] at ho ⊢ <;> omega)
      replace rk := rk.st st9009 (fun k hk ho => by simp only [out, and_true] at ho ⊢ <;> omega)
      replace lst2 := lst2.st st9009 (fun k hk ho => by simp only [out, and_true] at ho ⊢ <;> omega)
      replace at2 := st9009.same _ _ ⟨by omega, trivial⟩ at2
      replace at_L5 := st9009.same _ _ ⟨by omega, trivial⟩ at_L5
      have lt_at9009 := GHeap.lt_of_get at9009
      replace hin := base_hin.mono hle
      replace hm := base_hm.mono hle
      clear hb2 fsh2 c52 c62 i12 i22 hm2 hi2 hmsh2 hish2
      have hb2 : SFun.At _ g2 0 f p := ⟨Mem.of_get at2, hin⟩
      obtain ⟨fsh2, c52, c62, i12, i22⟩ := hb2.get
      have hm2 : MemN _ _ _ _ _ := ⟨rfl, hb2.1⟩
      have hi2 := hb2.2
      have hmsh2 : MemN _ _ _ _ _ := ⟨rfl, fsh2.1⟩
      have hish2 := fsh2.2
      clear r1
      have r1 := hm.2 k (by omega)
      refine .nil ?_
      refine hK13 _ _ ?_
      refine .region ?_
      refine .m rfl rfl rfl (.move rfl) ?_
      refine .m rfl rfl rfl (.add rfl rfl rfl (by omega) (by omega)) ?_
      refine .m rfl rfl rfl (.assign rfl) ?_
      refine .nil ?_
      refine hKL2 (e + 1) _ _ ?_ ?_ ⟨rfl, rfl, rfl, rfl, rfl, rfl, trivial⟩
      ·
       refine ⟨lst2, by (rw [markP_succ (by omega) (by omega)]; simpa using at9009), ?_⟩
       omega
      ·
       omega
     ·
      try simp only [sps] at h29
      refine .exit ?_
      refine hK9 _ _ ?_
      refine .region ?_
      obtain rfl : e = (me.getD k []).length := by omega
      refine .m rfl rfl rfl (.move rfl) ?_
      refine .m rfl rfl rfl (.move rfl) ?_
      refine .r rfl rfl rfl (.litR rfl sl_88_Ue ze_90_Ue rfl rfl (by omega) (by omega) rfl rfl) ?_
      rintro _ H43 ⟨g43, rfl, le43, ge43, at43⟩
      have nx_H43 := le43.1
      replace hle := hle.trans le43
      replace lst1 := lst1.le le43
      replace rk := rk.le le43
      replace at2 := le43.2 _ _ at2
      replace at_L5 := le43.2 _ _ at_L5
      replace at_L7 := le43.2 _ _ at_L7
      have lt_at43 := GHeap.lt_of_get at43
      replace hin := base_hin.mono hle
      replace hm := base_hm.mono hle
      clear hb2 fsh2 c52 c62 i12 i22 hm2 hi2 hmsh2 hish2
      have hb2 : SFun.At _ g2 0 f p := ⟨Mem.of_get at2, hin⟩
      obtain ⟨fsh2, c52, c62, i12, i22⟩ := hb2.get
      have hm2 : MemN _ _ _ _ _ := ⟨rfl, hb2.1⟩
      have hi2 := hb2.2
      have hmsh2 : MemN _ _ _ _ _ := ⟨rfl, fsh2.1⟩
      have hish2 := fsh2.2
      clear r1
      have r1 := hm.2 k (by omega)
      refine .r rfl rfl rfl (.appendV rfl sl_88_Ue ze_90_Ue rfl by_90_Ue sl_88_Ue rfl rfl (by assumption) (by assumption) (by first | omega | (simp <;> omega)) rfl rfl (by omega) (by omega)) ?_
      rintro _ H44 ⟨g44, rfl, st44, ge44, at44⟩
      have nx_H44 := st44.nx
      replace hle := hle.st st44 (fun k hk => ⟨by omega, trivial⟩)
      replace lst1 := lst1.st st44 (fun k hk ho => by simp only [out, and_true] at ho ⊢ <;> omega)
      replace rk := rk.st st44 (fun k hk ho => by simp only [out, and_true] at ho ⊢ <;> omega)
      replace at2 := st44.same _ _ ⟨by omega, trivial⟩ at2
      replace at_L7 := st44.same _ _ ⟨by omega, trivial⟩ at_L7
      replace at43 := st44.same _ _ ⟨by omega, trivial⟩ at43
      have lt_at44 := GHeap.lt_of_get at44
      replace hin := base_hin.mono hle
      replace hm := base_hm.mono hle
      clear hb2 fsh2 c52 c62 i12 i22 hm2 hi2 hmsh2 hish2
      have hb2 : SFun.At _ g2 0 f p := ⟨Mem.of_get at2, hin⟩
      obtain ⟨fsh2, c52, c62, i12, i22⟩ := hb2.get
      have hm2 : MemN _ _ _ _ _ := ⟨rfl, hb2.1⟩
      have hi2 := hb2.2
      have hmsh2 : MemN _ _ _ _ _ := ⟨rfl, fsh2.1⟩
      have hish2 := fsh2.2
      clear r1
      have r1 := hm.2 k (by omega)
      refine .m rfl rfl rfl (.assign rfl) ?_
      refine .nil ?_
      refine hK7 _ _ ?_
      refine .region ?_
      refine .m rfl rfl rfl (.move rfl) ?_
      refine .m rfl rfl rfl (.add rfl rfl rfl (by omega) (by omega)) ?_
      refine .m rfl rfl rfl (.assign rfl) ?_
      refine .nil ?_
      refine hKL1 ((k + 1, updN rr k g22, _, _)) _ _ ?_ ?_ ⟨rfl, rfl, rfl, rfl, trivial⟩
      ·
       refine ⟨lst1, by first | assumption | (rw [slsN_succ]; assumption), by omega, by first | omega | (simp only [List.length_append, List.length_cons, List.length_nil] <;> omega) | (rw [slsN_succ] <;> (first | omega | (simp only [List.length_append, List.length_cons, List.length_nil] <;> omega))), ?_⟩
       exact ⟨by omega, hR.succ (rk.lastsV1 hat5 rfl) (by rw [← markP_has]; assumption) (by omega) (by omega)⟩
      ·
       (dsimp only; omega)
   ·
    try simp only [sps] at h14
    refine .exit ?_
    refine hK3 _ _ ?_
    refine .seq (fun K14 hK14 => ?_)
    refine .region ?_
    refine .m rfl rfl rfl (.move rfl) ?_
    refine .m rfl rfl rfl (.assign rfl) ?_
    refine .nil ?_
    refine hK14 _ _ ?_
    refine .ret ?_
    -- leaf e1
    refine hret _ _ ?_
    refine ⟨_, rfl, ?_⟩
    obtain rfl : k = f.sz.length := by omega
    exact ⟨hle, _, rr, by rw [ln_L5]; simp, at_L5, by omega, hR⟩
set_option maxHeartbeats 4000000 in
theorem l26Marked_c {b g n : Nat} {r L : Nat → Nat} {M : Nat → Nat → Bool} {H : GHeap} (h : BMat b H g 90 4 r L M n := by assumption) (hn : n ≤ 1048576 := by omega) (hL : ∀ i, i < n → L i ≤ 1048576) :
    GCalls Try.prog 72 [.slice (some ⟨g, 0, none⟩) n n] H (NewIntssR H (rowsOf (fun x => filtN (L x) (M x)) n)) := by
  refine GCalls.body (N := 40) (rs := [.tmp 2]) Try.func72 rfl rfl rfl rfl (fun Qx hret hend => ?_)
  refine .forget (fr' := [(0, some _)]) ⟨rfl, trivial⟩ ?_
  have hle := GHeap.Le.refl H
  have base_h := h
  have hsl := h.sl
  refine .seq (fun K1 hK1 => ?_)
  refine .region ?_
  refine .m rfl rfl rfl (.assign rfl) ?_
  refine .nil ?_
  refine hK1 _ _ ?_
  refine .seq (fun K2 hK2 => ?_)
  refine .region ?_
  refine .r rfl rfl rfl (.litR rfl sl_23_B ze_22_E rfl rfl (by omega) (by omega) rfl rfl) ?_
  rintro _ H7 ⟨g7, rfl, le7, ge7, at7⟩
  have nx_H7 := le7.1
  replace hle := hle.trans le7
  have lt_at7 := GHeap.lt_of_get at7
  replace h := base_h.mono hle
  clear hsl
  have hsl := h.sl
  refine .m rfl rfl rfl (.assign rfl) ?_
  refine .nil ?_
  refine hK2 _ _ ?_
  refine .seq (fun K3 hK3 => ?_)
  refine .seq (fun K4 hK4 => ?_)
  refine .region ?_
  refine .m rfl rfl rfl (.assign rfl) ?_
  refine .nil ?_
  refine hK4 _ _ ?_
  refine .block ?_
  refine .loopR (σ := Nat × (Nat → Option Addr) × Nat × Nat) [(0, some _)] (fun (k, rr, gL3, nL3) => [(4, some (.int .i64 (k : Int))), (3, some (.slice (some ⟨gL3, 0, none⟩) nL3 nL3))]) (fun (k, rr, gL3, nL3) H' => St [g7] H7 H' ∧ H'.get gL3 = some (.row ((slsOf rr (fun x => filtN (L x) (M x)) k)) 22 true) ∧ (gL3 = g7 ∨ H7.next ≤ gL3) ∧ nL3 = (slsOf rr (fun x => filtN (L x) (M x)) k).length ∧ k ≤ n ∧ OwnRows H.next H' 2 rr (fun x => filtN (L x) (M x)) k) (fun (k, rr, gL3, nL3) => n - k) ((0, fun _ => none, _, _)) ⟨rfl, trivial⟩ ⟨rfl, rfl, trivial⟩ ?_ ?_
  ·
   refine ⟨.refl _ _, by first | assumption | exact at7 | simpa using at7, .inl rfl, by first | rfl | simp | omega, ?_⟩
   exact ⟨by omega, .zero _ _ _ _ _⟩
  ·
   rintro ⟨k, rr, gL3, nL3⟩ HL1 ⟨lst1, at_L3, pl_L3, ln_L3, hI⟩ KL1 hKL1
   refine .forget (fr' := [(4, some (.int .i64 (k : Int))), (3, some (.slice (some ⟨gL3, 0, none⟩) nL3 nL3)), (0, some _)]) ⟨rfl, rfl, rfl, trivial⟩ ?_
   have ge_L3 : H.next ≤ gL3 := by omega
   have nx_HL1 := lst1.nx
   replace hle := hle.st lst1 (fun k hk => ⟨by omega, trivial⟩)
   have lt_at_L3 := GHeap.lt_of_get at_L3
   replace h := base_h.mono hle
   clear hsl
   have hsl := h.sl
   have rk := St.refl [gL3] HL1
   obtain ⟨hk, hR⟩ := hI
   have hat3 := at_L3
   have hfl : (slsOf rr (fun x => filtN (L x) (M x)) k).length = k := length_slsOf _ _ _
   refine .seq (fun K5 hK5 => ?_)
   refine .seq (fun K6 hK6 => ?_)
   refine .region ?_
   refine .m rfl rfl rfl (.move rfl) ?_
   refine .m rfl rfl rfl (.move rfl) ?_
   refine .m rfl rfl rfl (.len sl_88_Ue rfl) ?_
   refine .m rfl rfl rfl (.cmp rfl rfl rfl) ?_
   refine .nil ?_
   refine hK6 _ _ ?_
   refine .cond rfl (fun h11 => ?_) (fun h11 => ?_)
   ·
    simp only [sps] at h11
    have r2 := hL k (by omega)
    have r1 := h.row (i := k) (by omega)
    have r3 := r1.tabS
    refine .skip ?_
    refine hK5 _ _ ?_
    refine .seq (fun K7 hK7 => ?_)
    refine .block ?_
    refine .seq (fun K8 hK8 => ?_)
    refine .region ?_
    refine .r rfl rfl rfl (.litR rfl sl_22_A ze_2_E rfl rfl (by omega) (by omega) rfl rfl) ?_
    rintro _ H14 ⟨g14, rfl, le14, ge14, at14⟩
    have nx_H14 := le14.1
    replace hle := hle.trans le14
    replace lst1 := lst1.le le14
    replace rk := rk.le le14
    replace at_L3 := le14.2 _ _ at_L3
    have lt_at14 := GHeap.lt_of_get at14
    replace h := base_h.mono hle
    clear hsl
    have hsl := h.sl
    clear r1 r3
    have r1 := h.row (i := k) (by omega)
    have r3 := r1.tabS
    replace at14 : GHeap.get H14 g14 = some (.row (ints []) 2 true) := at14
    refine .m rfl rfl rfl (.assign rfl) ?_
    refine .nil ?_
    refine hK8 _ _ ?_
    refine .seq (fun K9 hK9 => ?_)
    refine .seq (fun K10 hK10 => ?_)
    refine .region ?_
    refine .m rfl rfl rfl (.assign rfl) ?_
    refine .nil ?_
    refine hK10 _ _ ?_
    refine .block ?_
    refine .loopR (σ := Nat × Nat × Nat) [(0, some _), (3, some _), (4, some _)] (fun (e, gL5, nL5) => [(6, some (.int .i64 (e : Int))), (5, some (.slice (some ⟨gL5, 0, none⟩) nL5 nL5))]) (fun (e, gL5, nL5) H' => St [g14] H14 H' ∧ H'.get gL5 = some (.row (ints (filtN e (M k))) 2 true) ∧ (gL5 = g14 ∨ H14.next ≤ gL5) ∧ nL5 = (filtN e (M k)).length ∧ e ≤ L k) (fun (e, gL5, nL5) => L k - e) ((0, _, _)) ⟨rfl, rfl, rfl, trivial⟩ ⟨rfl, rfl, trivial⟩ ?_ ?_
    ·
     refine ⟨.refl _ _, by first | assumption | exact at14 | simpa using at14, .inl rfl, by first | rfl | simp | omega, ?_⟩
     omega
    ·
     rintro ⟨e, gL5, nL5⟩ HL2 ⟨lst2, at_L5, pl_L5, ln_L5, hI⟩ KL2 hKL2
     refine .forget (fr' := [(6, some (.int .i64 (e : Int))), (5, some (.slice (some ⟨gL5, 0, none⟩) nL5 nL5)), (0, some _), (3, some _), (4, some _)]) ⟨rfl, rfl, rfl, rfl, rfl, trivial⟩ ?_
     have ge_L5 : H.next ≤ gL5 := by omega
     have nx_HL2 := lst2.nx
     replace hle := hle.st lst2 (fun k hk => ⟨by omega, trivial⟩)
     replace lst1 := lst1.st lst2 (fun k hk ho => by simp only [out, and_true] at ho ⊢ <;> omega)
     replace rk := rk.st lst2 (fun k hk ho => by simp only [out, and_true] at ho ⊢ <;> omega)
     replace at_L3 := lst2.same _ _ ⟨by omega, trivial⟩ at_L3
     have lt_at_L5 := GHeap.lt_of_get at_L5
     replace h := base_h.mono hle
     clear hsl
     have hsl := h.sl
     clear r1 r3
     have r1 := h.row (i := k) (by omega)
     have r3 := r1.tabS
     have hfl2 := filtN_le e (M k)
     refine .seq (fun K11 hK11 => ?_)
     refine .seq (fun K12 hK12 => ?_)
     refine .region ?_
     refine .m rfl rfl rfl (.move rfl) ?_
     refine .m rfl rfl rfl (.move rfl) ?_
     refine .m rfl rfl rfl (.move rfl) ?_
     refine .m rfl rfl rfl (.idxN sl_88_Ue (by assumption) rfl rfl (by omega)) ?_
     refine .m rfl rfl rfl (.loadE on_90_Ue (by assumption) rfl (by omega)) ?_
     refine .m rfl rfl rfl (.len sl_90_Ue rfl) ?_
     refine .m rfl rfl rfl (.cmp rfl rfl rfl) ?_
     refine .nil ?_
     refine hK12 _ _ ?_
     refine .cond rfl (fun h21 => ?_) (fun h21 => ?_)
     ·
      simp only [sps] at h21
      have hlb : (tabB (L k) (M k)).length = L k := length_tabB _ _
      refine .skip ?_
      refine hK11 _ _ ?_
      refine .seq (fun K13 hK13 => ?_)
      refine .block ?_
      refine .seq (fun K14 hK14 => ?_)
      refine .region ?_
      refine .m rfl rfl rfl (.move rfl) ?_
      refine .m rfl rfl rfl (.move rfl) ?_
      refine .m rfl rfl rfl (.idxN sl_88_Ue (by assumption) rfl rfl (by omega)) ?_
      refine .m rfl rfl rfl (.loadE on_90_Ue (by assumption) rfl (by omega)) ?_
      refine .m rfl rfl rfl (.move rfl) ?_
      refine .m rfl rfl rfl (.idxN sl_90_Ue (by assumption) rfl rfl (by omega)) ?_
      refine .m rfl rfl rfl (.loadB on_4_Ue (by assumption) rfl (by omega)) ?_
      refine .nil ?_
      refine hK14 _ _ ?_
      refine .cond rfl (fun h30 => ?_) (fun h30 => ?_)
      ·
       rw [tabB_get (by omega)] at h30
       refine .region ?_
       refine .m rfl rfl rfl (.move rfl) ?_
       refine .m rfl rfl rfl (.move rfl) ?_
       refine .r rfl rfl rfl (.litR rfl sl_22_A ze_2_E rfl rfl (by omega) (by omega) rfl rfl) ?_
       rintro _ H33 ⟨g33, rfl, le33, ge33, at33⟩
       have nx_H33 := le33.1
       replace hle := hle.trans le33
       replace lst1 := lst1.le le33
       replace rk := rk.le le33
       replace lst2 := lst2.le le33
       replace at_L3 := le33.2 _ _ at_L3
       replace at_L5 := le33.2 _ _ at_L5
       have lt_at33 := GHeap.lt_of_get at33
       replace h := base_h.mono hle
       clear hsl
       have hsl := h.sl
       clear r1 r3
       have r1 := h.row (i := k) (by omega)
       have r3 := r1.tabS
       refine .r rfl rfl rfl (.appendI rfl sl_22_A ze_2_E rfl by_2_E sl_22_A rfl rfl (by assumption) (by assumption) (by first | omega | (simp <;> omega)) (by omega) (by omega)) ?_
       rintro _ H34 ⟨g34, rfl, st34, ge34, at34⟩
       have nx_H34 := st34.nx
       replace hle := hle.st st34 (fun k hk => ⟨by omega, trivial⟩)
       replace lst1 := lst1.st st34 (fun k hk ho => by simp only [out, and_true] at ho ⊢ <;> omega)
       replace rk := rk.st st34 (fun k hk ho => by simp only [out, and_true] at ho ⊢ <;> omega)
       replace lst2 := lst2.st st34 (fun k hk ho => by simp only [out, and_true] at ho ⊢ <;> omega)
       replace at_L3 := st34.same _ _ ⟨by omega, trivial⟩ at_L3
       replace at33 := st34.same _ _ ⟨by omega, trivial⟩ at33
       have lt_at34 := GHeap.lt_of_get at34
       replace h := base_h.mono hle
       clear hsl
       have hsl := h.sl
       clear r1 r3
       have r1 := h.row (i := k) (by omega)
       have r3 := r1.tabS
       refine .m rfl rfl rfl (.assign rfl) ?_
       refine .nil ?_
       refine hK13 _ _ ?_
       refine .region ?_
       refine .m rfl rfl rfl (.move rfl) ?_
       refine .m rfl rfl rfl (.add rfl rfl rfl (by omega) (by omega)) ?_
       refine .m rfl rfl rfl (.assign rfl) ?_
       refine .nil ?_
       refine hKL2 ((e + 1, _, _)) _ _ ?_ ?_ ⟨rfl, rfl, rfl, rfl, rfl, trivial⟩
       ·
        refine ⟨lst2, by first | assumption | (rw [filtN_T h30]; assumption) | (rw [filtN_F h30]; assumption), by omega, by first | omega | (simp only [List.length_append, List.length_cons, List.length_nil] <;> omega) | (rw [filtN_T h30] <;> (first | omega | (simp only [List.length_append, List.length_cons, List.length_nil] <;> omega))) | (rw [filtN_F h30] <;> (first | omega | (simp only [List.length_append, List.length_cons, List.length_nil] <;> omega))), ?_⟩
        omega
       ·
        (dsimp only; omega)
      ·
       rw [tabB_get (by omega)] at h30
       refine .skip ?_
       refine hK13 _ _ ?_
       refine .region ?_
       refine .m rfl rfl rfl (.move rfl) ?_
       refine .m rfl rfl rfl (.add rfl rfl rfl (by omega) (by omega)) ?_
       refine .m rfl rfl rfl (.assign rfl) ?_
       refine .nil ?_
       refine hKL2 ((e + 1, _, _)) _ _ ?_ ?_ ⟨rfl, rfl, rfl, rfl, rfl, trivial⟩
       ·
        refine ⟨lst2, by first | assumption | (rw [filtN_T h30]; assumption) | (rw [filtN_F h30]; assumption), by omega, by first | omega | (simp only [List.length_append, List.length_cons, List.length_nil] <;> omega) | (rw [filtN_T h30] <;> (first | omega | (simp only [List.length_append, List.length_cons, List.length_nil] <;> omega))) | (rw [filtN_F h30] <;> (first | omega | (simp only [List.length_append, List.length_cons, List.length_nil] <;> omega))), ?_⟩
        omega
       ·
        (dsimp only; omega)
     ·
      try simp only [sps] at h21
      refine .exit ?_
      refine hK9 _ _ ?_
      refine .region ?_
      obtain rfl : e = L k := by omega
      obtain rfl := ln_L5
      refine .m rfl rfl rfl (.move rfl) ?_
      refine .m rfl rfl rfl (.move rfl) ?_
      refine .r rfl rfl rfl (.litR rfl sl_23_B ze_22_E rfl rfl (by omega) (by omega) rfl rfl) ?_
      rintro _ H37 ⟨g37, rfl, le37, ge37, at37⟩
      have nx_H37 := le37.1
      replace hle := hle.trans le37
      replace lst1 := lst1.le le37
      replace rk := rk.le le37
      replace at_L3 := le37.2 _ _ at_L3
      replace at_L5 := le37.2 _ _ at_L5
      have lt_at37 := GHeap.lt_of_get at37
      replace h := base_h.mono hle
      clear hsl
      have hsl := h.sl
      clear r1 r3
      have r1 := h.row (i := k) (by omega)
      have r3 := r1.tabS
      refine .r rfl rfl rfl (.appendV rfl sl_23_B ze_22_E rfl by_22_E sl_23_B rfl rfl (by assumption) (by assumption) (by first | omega | (simp <;> omega)) rfl rfl (by omega) (by omega)) ?_
      rintro _ H38 ⟨g38, rfl, st38, ge38, at38⟩
      have nx_H38 := st38.nx
      replace hle := hle.st st38 (fun k hk => ⟨by omega, trivial⟩)
      replace lst1 := lst1.st st38 (fun k hk ho => by simp only [out, and_true] at ho ⊢ <;> omega)
      replace rk := rk.st st38 (fun k hk ho => by simp only [out, and_true] at ho ⊢ <;> omega)
      replace at_L5 := st38.same _ _ ⟨by omega, trivial⟩ at_L5
      replace at37 := st38.same _ _ ⟨by omega, trivial⟩ at37
      have lt_at38 := GHeap.lt_of_get at38
      replace h := base_h.mono hle
      clear hsl
      have hsl := h.sl
      clear r1 r3
      have r1 := h.row (i := k) (by omega)
      have r3 := r1.tabS
      refine .m rfl rfl rfl (.assign rfl) ?_
      refine .nil ?_
      refine hK7 _ _ ?_
      refine .region ?_
      refine .m rfl rfl rfl (.move rfl) ?_
      refine .m rfl rfl rfl (.add rfl rfl rfl (by omega) (by omega)) ?_
      refine .m rfl rfl rfl (.assign rfl) ?_
      refine .nil ?_
      refine hKL1 ((k + 1, upd rr k (some ⟨gL5, 0, none⟩), _, _)) _ _ ?_ ?_ ⟨rfl, rfl, rfl, trivial⟩
      ·
       refine ⟨lst1, by first | assumption | (rw [slsOf_succ]; assumption), by omega, by first | omega | (simp only [List.length_append, List.length_cons, List.length_nil] <;> omega) | (rw [slsOf_succ] <;> (first | omega | (simp only [List.length_append, List.length_cons, List.length_nil] <;> omega))), ?_⟩
       exact ⟨by omega, hR.succ rk hat3 rfl (by assumption) (by omega) (by omega)⟩
      ·
       (dsimp only; omega)
   ·
    try simp only [sps] at h11
    refine .exit ?_
    refine hK3 _ _ ?_
    refine .seq (fun K15 hK15 => ?_)
    refine .region ?_
    refine .m rfl rfl rfl (.move rfl) ?_
    refine .m rfl rfl rfl (.assign rfl) ?_
    refine .nil ?_
    refine hK15 _ _ ?_
    refine .ret ?_
    -- leaf e1
    refine hret _ _ ?_
    refine ⟨_, rfl, ?_⟩
    obtain rfl : k = n := by omega
    exact ⟨hle, _, rr, by rw [ln_L3]; simp, hR.done at_L3 (by omega)⟩
end Go.Proofs.Ytbpehbbdodahaaa
