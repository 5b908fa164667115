/- Cones and their images. No condition but those of each statement. -/
import Derived.Test.YtgjicdipcofgcaaN
import Derived.Test.YtgjicdipcofgcaaU
import Derived.Test.YtgjicdipcofgcaaVCon
import Derived.Test.YtgjicdipcofgcaaGlW
namespace Go.Proofs.Ytgjicdipcofgcaa
open Go Go.GL Go.RowKit Go.Proofs
theorem bt_32_W : buildT Try.prog 32 = some ([.int .i64 0, .slice none 0 0], [(0, 1), (1, 1)]) := by kernel_rfl
theorem ze_54_W : zeroT Try.prog 54 = some ([.pointer none], 1) := by kernel_rfl
theorem l02Object_c {c : Cat} {p : CatP} {x : Int} {H : GHeap} (hin : c.In H p := by assumption) : GCalls Try.prog 35 [.agg (c.cells p).toArray, .int .i64 x] H (Ret (.bool (B (0 ≤ x ∧ x < c.obj))) H) := by
  refine GCalls.ret rfl ?_
  refine GCalls.body (N := 13) (rs := [.tmp 4]) Try.func35 rfl rfl rfl rfl (fun Qx hret hend => ?_)
  refine .forget (fr' := [(0, some _), (1, some _)]) ⟨rfl, rfl, trivial⟩ ?_
  have hle := GHeap.Le.refl H
  have base_hin := hin
  refine .seq (fun K1 hK1 => ?_)
  refine .region ?_
  refine .r rfl rfl rfl (.boxR rfl sz_35_D rfl) ?_
  rintro _ H2 ⟨g2, rfl, le2, ge2, at2⟩
  have nx_H2 := le2.1
  replace hle := hle.trans le2
  have lt_at2 := GHeap.lt_of_get at2
  replace hin := base_hin.mono hle
  have hb2 : Cat.At _ g2 0 c p := ⟨Mem.of_get at2, hin⟩
  obtain ⟨c02, c12, c22, c32, c42, i12, i22, i32, i42⟩ := hb2.get
  have hm2 : MemN _ _ _ _ _ := ⟨rfl, hb2.1⟩
  have hi2 := hb2.2
  refine .m rfl rfl rfl (.assign rfl) ?_
  refine .nil ?_
  refine hK1 _ _ ?_
  refine .seq (fun K2 hK2 => ?_)
  refine .region ?_
  refine .m rfl rfl rfl (.move rfl) ?_
  refine .m rfl rfl rfl (.cmp rfl rfl rfl) ?_
  refine .m rfl rfl rfl (.move rfl) ?_
  refine .split (fun h7 => ?_) (fun h7 => ?_)
  ·
   try simp only [sps] at h7
   refine .mg rfl rfl rfl rfl rfl (.move rfl) ?_
   refine .mg rfl rfl rfl rfl rfl (.fieldAddr fo_35_0_B rfl) ?_
   refine .mg rfl rfl rfl rfl rfl (.load on_2_A rfl (by assumption)) ?_
   refine .mg rfl rfl rfl rfl rfl (.cmp rfl rfl rfl) ?_
   refine .m rfl rfl rfl (.pickT rfl rfl) ?_
   refine .m rfl rfl rfl (.assign rfl) ?_
   refine .nil ?_
   refine hK2 _ _ ?_
   refine .ret ?_
   -- leaf e1
   refine hret _ _ ?_
   refine ⟨_, rfl, ?_⟩
   first
   | exact ⟨congrArg _ (B_false fun hh => by omega), hle⟩
   | exact ⟨congrArg _ (by rw [Bool.eq_iff_iff, B_iff, decide_eq_true_eq]; omega), hle⟩
  ·
   try simp only [sps] at h7
   refine .sg rfl rfl rfl rfl rfl ?_
   refine .sg rfl rfl rfl rfl rfl ?_
   refine .sg rfl rfl rfl rfl rfl ?_
   refine .sg rfl rfl rfl rfl rfl ?_
   refine .m rfl rfl rfl (.pickF rfl rfl) ?_
   refine .m rfl rfl rfl (.assign rfl) ?_
   refine .nil ?_
   refine hK2 _ _ ?_
   refine .ret ?_
   -- leaf e2
   refine hret _ _ ?_
   refine ⟨_, rfl, ?_⟩
   first
   | exact ⟨congrArg _ (B_false fun hh => by omega), hle⟩
   | exact ⟨congrArg _ (by rw [Bool.eq_iff_iff, B_iff, decide_eq_true_eq]; omega), hle⟩
theorem isCone_c {g o : Nat} {d : Fun} {p : FunP} {m : Con} {q : ConP} {H : GHeap} (h : Fun.At H g o d p := by assumption) (hin : m.In H q := by assumption) (hI : d.Is := by assumption) (hs : m.Small := by assumption) :
    GCalls Try.prog 24 [.pointer (some ⟨g, o, none⟩), .agg (m.cells q).toArray] H (Ret (.bool (B (d.Cone m))) H) := by
  refine GCalls.ret rfl ?_
  have hS := hI.2.1.1
  have hSs := hI.1.1
  refine GCalls.body (N := 103) (rs := [.tmp 4]) Try.func24 rfl rfl rfl rfl (fun Qx hret hend => ?_)
  refine .forget (fr' := [(0, some _), (1, some _)]) ⟨rfl, rfl, trivial⟩ ?_
  have hle := GHeap.Le.refl H
  have base_h := h
  have base_hin := hin
  obtain ⟨fs, ft, c10, c11, j1, j2⟩ := h.get
  have hm : MemN _ _ _ _ _ := ⟨rfl, h.1⟩
  have hi := h.2
  have hms : MemN _ _ _ _ _ := ⟨rfl, fs.1⟩
  have his := fs.2
  have hmt : MemN _ _ _ _ _ := ⟨rfl, ft.1⟩
  have hit := ft.2
  obtain ⟨t0, t1, t2, t3, t4, ti1, ti2, ti3, ti4⟩ := ft.get
  obtain ⟨s0, s1, s2, s3, s4, si1, si2, si3, si4⟩ := fs.get
  obtain ⟨⟨w0, w1⟩, w2⟩ := hs
  have q1 := hS.tl
  have q2 := hS.n40
  have q3 := hS.obj
  have q4 := hS.cl
  have q5 := hI.2.2.al
  have q6 := hSs.n40
  have q7 := hSs.tl
  refine .seq (fun K1 hK1 => ?_)
  refine .region ?_
  refine .r rfl rfl rfl (.boxR rfl sz_32_U rfl) ?_
  rintro _ H3 ⟨g3, rfl, le3, ge3, at3⟩
  have nx_H3 := le3.1
  replace hle := hle.trans le3
  have lt_at3 := GHeap.lt_of_get at3
  replace h := base_h.mono hle
  replace hin := base_hin.mono hle
  clear fs ft c10 c11 j1 j2 hm hi hms his hmt hit t0 t1 t2 t3 t4 ti1 ti2 ti3 ti4 s0 s1 s2 s3 s4 si1 si2 si3 si4
  obtain ⟨fs, ft, c10, c11, j1, j2⟩ := h.get
  have hm : MemN _ _ _ _ _ := ⟨rfl, h.1⟩
  have hi := h.2
  have hms : MemN _ _ _ _ _ := ⟨rfl, fs.1⟩
  have his := fs.2
  have hmt : MemN _ _ _ _ _ := ⟨rfl, ft.1⟩
  have hit := ft.2
  obtain ⟨t0, t1, t2, t3, t4, ti1, ti2, ti3, ti4⟩ := ft.get
  obtain ⟨s0, s1, s2, s3, s4, si1, si2, si3, si4⟩ := fs.get
  have hb3 : Con.At _ g3 0 m q := ⟨Mem.of_get at3, hin⟩
  obtain ⟨c03, c13, i13⟩ := hb3.get
  have hm3 : MemN _ _ _ _ _ := ⟨rfl, hb3.1⟩
  have hi3 := hb3.2
  refine .m rfl rfl rfl (.assign rfl) ?_
  refine .nil ?_
  refine hK1 _ _ ?_
  refine .seq (fun K2 hK2 => ?_)
  refine .region ?_
  refine .m rfl rfl rfl (.move rfl) ?_
  refine .m rfl rfl rfl (.nilCheck rfl) ?_
  refine .m rfl rfl rfl (.fieldAddr fo_37_1_E rfl) ?_
  refine .m rfl rfl rfl (.assign rfl) ?_
  refine .nil ?_
  refine hK2 _ _ ?_
  refine .seq (fun K3 hK3 => ?_)
  refine .seq (fun K4 hK4 => ?_)
  refine .regionD mixed_orders_B (.q 0 (.q 1 (.q 2 (.q 3 (.q 4 (.q 5 (.q 6 (.c 7 0 (.q 8 (.q 9 (.q 10 (.q 11 (.q 12 (.q 13 (.q 14 (.q 15 (.q 16 (.q 17 (.q 18 (.q 19 (.q 20 (.q 21 (.q 22 (.q 23 (.c 24 1 (.c 25 0 (.q 26 (.q 27 (.done))))))))))))))))))))))))))))) (by kernel_rfl) ?_
  refine .m rfl rfl rfl rfl (.refl _) (.fieldAddr fo_32_0_VCon rfl) ?_
  refine .m rfl rfl rfl rfl (.refl _) (.load on_2_A rfl (by assumption)) ?_
  refine .m rfl rfl rfl rfl (.refl _) (.move rfl) ?_
  refine .m rfl rfl rfl rfl (.refl _) (.nilCheck rfl) ?_
  refine .m rfl rfl rfl rfl (.refl _) (.fieldAddr fo_35_0_B rfl) ?_
  refine .m rfl rfl rfl rfl (.refl _) (.load on_2_A rfl (by assumption)) ?_
  refine .m rfl rfl rfl rfl (.refl _) (.sub rfl rfl rfl (by omega) (by omega)) ?_
  refine .callQ0 rfl rfl rfl rfl rfl @Try.call41 rfl (inRange_c) ?_
  refine .m rfl rfl rfl rfl (.refl _) (.not rfl) ?_
  refine .m rfl rfl rfl rfl (.refl _) (.move rfl) ?_
  refine .split (fun h22 => ?_) (fun h22 => ?_)
  ·
   try simp only [sps] at h22
   refine .sg rfl rfl rfl rfl rfl rfl ?_
   refine .sg rfl rfl rfl rfl rfl rfl ?_
   refine .sg rfl rfl rfl rfl rfl rfl ?_
   refine .sg rfl rfl rfl rfl rfl rfl ?_
   refine .sg rfl rfl rfl rfl rfl rfl ?_
   refine .sg rfl rfl rfl rfl rfl rfl ?_
   refine .sg rfl rfl rfl rfl rfl rfl ?_
   refine .sg rfl rfl rfl rfl rfl rfl ?_
   refine .sg rfl rfl rfl rfl rfl rfl ?_
   refine .m rfl rfl rfl rfl (.refl _) (.pickT rfl rfl) ?_
   refine .m rfl rfl rfl rfl (.refl _) (.move rfl) ?_
   refine .sg rfl rfl rfl rfl rfl rfl ?_
   refine .sg rfl rfl rfl rfl rfl rfl ?_
   refine .sg rfl rfl rfl rfl rfl rfl ?_
   refine .sgc rfl rfl rfl rfl rfl rfl ?_
   refine .sgc rfl rfl rfl rfl rfl rfl ?_
   refine .sg rfl rfl rfl rfl rfl rfl ?_
   refine .m rfl rfl rfl rfl (.refl _) (.pickT rfl rfl) ?_
   refine .done ?_
   refine hK4 _ _ ?_
   refine .condT rfl ?_
   refine .seq (fun K5 hK5 => ?_)
   refine .region ?_
   refine .m rfl rfl rfl (.assign rfl) ?_
   refine .nil ?_
   refine hK5 _ _ ?_
   refine .ret ?_
   -- leaf e1
   refine hret _ _ ?_
   refine ⟨_, rfl, ?_⟩
   exact ⟨congrArg _ (B_false fun hh => by have := hh.ap; omega), hle⟩
  ·
   simp only [inR_iff, Bool.not_eq_false'] at h22
   refine .mg rfl rfl rfl rfl rfl rfl (.refl _) (.fieldAddr fo_32_1_U rfl) ?_
   refine .mg rfl rfl rfl rfl rfl rfl (.refl _) (.load on_22_B rfl (by assumption)) ?_
   refine .mg rfl rfl rfl rfl rfl rfl (.refl _) (.len sl_22_A rfl) ?_
   refine .mg rfl rfl rfl rfl rfl rfl (.refl _) (.move rfl) ?_
   refine .mg rfl rfl rfl rfl rfl rfl (.refl _) (.nilCheck rfl) ?_
   refine .mg rfl rfl rfl rfl rfl rfl (.refl _) (.fieldAddr fo_37_2_E rfl) ?_
   refine .mg rfl rfl rfl rfl rfl rfl (.refl _) (.load on_22_B rfl (by assumption)) ?_
   refine .mg rfl rfl rfl rfl rfl rfl (.refl _) (.len sl_22_A rfl) ?_
   refine .mg rfl rfl rfl rfl rfl rfl (.refl _) (.cmp rfl rfl rfl) ?_
   refine .m rfl rfl rfl rfl (.refl _) (.pickF rfl rfl) ?_
   refine .m rfl rfl rfl rfl (.refl _) (.move rfl) ?_
   refine .split (fun h33 => ?_) (fun h33 => ?_)
   ·
    try simp only [sps] at h33
    refine .sg rfl rfl rfl rfl rfl rfl ?_
    refine .sg rfl rfl rfl rfl rfl rfl ?_
    refine .sg rfl rfl rfl rfl rfl rfl ?_
    refine .sgc rfl rfl rfl rfl rfl rfl ?_
    refine .sgc rfl rfl rfl rfl rfl rfl ?_
    refine .sg rfl rfl rfl rfl rfl rfl ?_
    refine .m rfl rfl rfl rfl (.refl _) (.pickT rfl rfl) ?_
    refine .done ?_
    refine hK4 _ _ ?_
    refine .condT rfl ?_
    refine .seq (fun K6 hK6 => ?_)
    refine .region ?_
    refine .m rfl rfl rfl (.assign rfl) ?_
    refine .nil ?_
    refine hK6 _ _ ?_
    refine .ret ?_
    -- leaf e2
    refine hret _ _ ?_
    refine ⟨_, rfl, ?_⟩
    exact ⟨congrArg _ (B_false fun hh => by have := hh.ll; omega), hle⟩
   ·
    simp only [sps] at h33
    refine .mg rfl rfl rfl rfl rfl rfl (.refl _) (.fieldAddr fo_32_1_U rfl) ?_
    refine .mg rfl rfl rfl rfl rfl rfl (.refl _) (.load on_22_B rfl (by assumption)) ?_
    refine .mg rfl rfl rfl rfl rfl rfl (.refl _) (.move rfl) ?_
    refine .callQ1g rfl rfl rfl rfl rfl rfl rfl @Try.call43 rfl (arrows_c) (.refl _) ?_
    refine .callQ0g rfl rfl rfl rfl rfl rfl rfl @Try.call42 rfl (within_c) ?_
    refine .mg rfl rfl rfl rfl rfl rfl (.refl _) (.not rfl) ?_
    refine .m rfl rfl rfl rfl (.refl _) (.pickF rfl rfl) ?_
    refine .done ?_
    refine hK4 _ _ ?_
    refine .cond rfl (fun h40 => ?_) (fun h40 => ?_)
    ·
     try simp only [sps] at h40
     refine .seq (fun K7 hK7 => ?_)
     refine .region ?_
     refine .m rfl rfl rfl (.assign rfl) ?_
     refine .nil ?_
     refine hK7 _ _ ?_
     refine .ret ?_
     -- leaf e3
     refine hret _ _ ?_
     refine ⟨_, rfl, ?_⟩
     exact ⟨congrArg _ (B_false fun hh => by rw [allIn_iff.2 hh.lg] at h40; cases h40), hle⟩
    ·
     simp only [sps] at h40
     refine .skip ?_
     refine hK3 _ _ ?_
     refine .seq (fun K8 hK8 => ?_)
     refine .seq (fun K9 hK9 => ?_)
     refine .region ?_
     refine .m rfl rfl rfl (.fieldAddr fo_32_1_U rfl) ?_
     refine .m rfl rfl rfl (.load on_22_B rfl (by assumption)) ?_
     refine .m rfl rfl rfl (.len sl_22_A rfl) ?_
     refine .m rfl rfl rfl (.move rfl) ?_
     refine .nil ?_
     refine hK9 _ _ ?_
     refine .block ?_
     refine .loopR (σ := Nat) [(0, some _), (3, some _), (5, some _), (42, some _), (43, some _)] (fun k => [(44, some (.int .i64 (k : Int)))]) (fun k H' => H3 = H' ∧ (k : Int) ≤ m.lg.length ∧ ∀ j, j < k → d.t.src.getD (m.lg.getD j 0).toNat 0 = m.ap ∧ d.t.tgt.getD (m.lg.getD j 0).toNat 0 = d.ob.getD j 0) (fun k => (m.lg.length - k : Int).toNat) (0) ⟨rfl, rfl, rfl, rfl, rfl, trivial⟩ ⟨rfl, trivial⟩ ?_ ?_
     ·
      refine ⟨rfl, ?_⟩
      exact ⟨by omega, fun _ _ => by omega⟩
     ·
      rintro k _ ⟨rfl, hI⟩ KL1 hKL1
      refine .forget (fr' := [(44, some (.int .i64 (k : Int))), (0, some _), (3, some _), (5, some _), (42, some _), (43, some _)]) ⟨rfl, rfl, rfl, rfl, rfl, rfl, trivial⟩ ?_
      obtain ⟨hk1, ha1⟩ := hI
      refine .seq (fun K10 hK10 => ?_)
      refine .region ?_
      refine .m rfl rfl rfl (.cmp rfl rfl rfl) ?_
      refine .nil ?_
      refine hK10 _ _ ?_
      refine .seq (fun K11 hK11 => ?_)
      refine .cond rfl (fun h45 => ?_) (fun h45 => ?_)
      ·
       simp only [sps] at h45
       have r1 := h40 k (by omega)
       refine .skip ?_
       refine hK11 _ _ ?_
       refine .seq (fun K12 hK12 => ?_)
       refine .block ?_
       refine .seq (fun K13 hK13 => ?_)
       refine .region ?_
       refine .m rfl rfl rfl (.move rfl) ?_
       refine .m rfl rfl rfl (.idxN sl_22_A (by assumption) rfl rfl (by omega)) ?_
       refine .m rfl rfl rfl (.loadI on_2_A (by assumption) rfl (by omega)) ?_
       refine .m rfl rfl rfl (.assign rfl) ?_
       refine .m rfl rfl rfl (.assign rfl) ?_
       refine .nil ?_
       refine hK13 _ _ ?_
       refine .seq (fun K14 hK14 => ?_)
       refine .regionD mixed_orders_B (.q 0 (.q 1 (.q 3 (.q 4 (.q 5 (.q 6 (.q 7 (.q 8 (.q 9 (.q 10 (.q 11 (.q 12 (.c 2 1 (.q 13 (.done))))))))))))))) (by kernel_rfl) ?_
       refine .m rfl rfl rfl rfl (.refl _) (.move rfl) ?_
       refine .m rfl rfl rfl rfl (.refl _) (.move rfl) ?_
       refine .m rfl rfl rfl rfl (.refl _) (.fieldAddr fo_32_0_VCon rfl) ?_
       refine .m rfl rfl rfl rfl (.refl _) (.load on_2_A rfl (by assumption)) ?_
       refine .m rfl rfl rfl rfl (.refl _) (.move rfl) ?_
       refine .m rfl rfl rfl rfl (.refl _) (.nilCheck rfl) ?_
       refine .m rfl rfl rfl rfl (.refl _) (.fieldAddr fo_37_2_E rfl) ?_
       refine .m rfl rfl rfl rfl (.refl _) (.load on_22_B rfl (by assumption)) ?_
       refine .m rfl rfl rfl rfl (.refl _) (.move rfl) ?_
       refine .m rfl rfl rfl rfl (.refl _) (.idxN sl_22_A (by assumption) rfl rfl (by omega)) ?_
       refine .m rfl rfl rfl rfl (.refl _) (.loadI on_2_A (by assumption) rfl (by omega)) ?_
       refine .m rfl rfl rfl rfl (.refl _) (.build bt_74_B rfl rfl rfl) ?_
       refine .callQ1 rfl rfl rfl rfl rfl @Try.call44 rfl (ends_c) (.refl _) ?_
       refine .m rfl rfl rfl rfl (.refl _) (.aggNe eg_74_B rfl rfl rfl rfl (aggEq_74 _ _ _ _)) ?_
       refine .done ?_
       refine hK14 _ _ ?_
       refine .cond rfl (fun h62 => ?_) (fun h62 => ?_)
       ·
        try simp only [sps] at h62
        refine .seq (fun K15 hK15 => ?_)
        refine .region ?_
        refine .m rfl rfl rfl (.assign rfl) ?_
        refine .nil ?_
        refine hK15 _ _ ?_
        refine .ret ?_
        -- leaf e4
        refine hret _ _ ?_
        refine ⟨_, rfl, ?_⟩
        exact ⟨congrArg _ (B_false fun hh => by have := hh.ends k (by omega); omega), hle⟩
       ·
        try simp only [sps] at h62
        refine .skip ?_
        refine hK12 _ _ ?_
        refine .region ?_
        refine .m rfl rfl rfl (.add rfl rfl rfl (by omega) (by omega)) ?_
        refine .m rfl rfl rfl (.move rfl) ?_
        refine .nil ?_
        refine hKL1 (k + 1) _ _ ?_ ?_ ⟨rfl, rfl, rfl, rfl, rfl, rfl, trivial⟩
        ·
         refine ⟨rfl, ?_⟩
         refine ⟨by omega, fun j hx => ?_⟩
         by_cases hltq : j < k
         · exact ha1 j hltq
         · obtain rfl : j = k := by omega
           omega
        ·
         omega
      ·
       try simp only [sps] at h45
       refine .exit ?_
       refine hK8 _ _ ?_
       refine .seq (fun K16 hK16 => ?_)
       refine .seq (fun K17 hK17 => ?_)
       refine .region ?_
       refine .m rfl rfl rfl (.move rfl) ?_
       refine .m rfl rfl rfl (.nilCheck rfl) ?_
       refine .m rfl rfl rfl (.fieldAddr fo_37_3_E rfl) ?_
       refine .m rfl rfl rfl (.load on_22_B rfl (by assumption)) ?_
       refine .m rfl rfl rfl (.len sl_22_A rfl) ?_
       refine .m rfl rfl rfl (.move rfl) ?_
       refine .nil ?_
       refine hK17 _ _ ?_
       refine .block ?_
       refine .loopR (σ := Nat) [(0, some _), (3, some _), (5, some _), (67, some _), (68, some _)] (fun a => [(69, some (.int .i64 (a : Int)))]) (fun a H' => H3 = H' ∧ (a : Int) ≤ d.ar.length ∧ ∀ a', a' < a → d.t.th (m.lg.getD (d.s.src.getD a' 0).toNat 0) (d.ar.getD a' 0) = m.lg.getD (d.s.tgt.getD a' 0).toNat 0) (fun a => (d.ar.length - a : Int).toNat) (0) ⟨rfl, rfl, rfl, rfl, rfl, trivial⟩ ⟨rfl, trivial⟩ ?_ ?_
       ·
        refine ⟨rfl, ?_⟩
        exact ⟨by omega, fun _ _ => by omega⟩
       ·
        rintro a _ ⟨rfl, hI⟩ KL2 hKL2
        refine .forget (fr' := [(69, some (.int .i64 (a : Int))), (0, some _), (3, some _), (5, some _), (67, some _), (68, some _)]) ⟨rfl, rfl, rfl, rfl, rfl, rfl, trivial⟩ ?_
        obtain ⟨hk2, ha2⟩ := hI
        refine .seq (fun K18 hK18 => ?_)
        refine .region ?_
        refine .m rfl rfl rfl (.cmp rfl rfl rfl) ?_
        refine .nil ?_
        refine hK18 _ _ ?_
        refine .seq (fun K19 hK19 => ?_)
        refine .cond rfl (fun h70 => ?_) (fun h70 => ?_)
        ·
         simp only [sps] at h70
         have r1 := hI.arr (a := a) (by omega)
         have r2 := h40 (d.s.src.getD a 0).toNat (by omega)
         have r3 := h40 (d.s.tgt.getD a 0).toNat (by omega)
         refine .skip ?_
         refine hK19 _ _ ?_
         refine .seq (fun K20 hK20 => ?_)
         refine .block ?_
         refine .seq (fun K21 hK21 => ?_)
         refine .region ?_
         refine .m rfl rfl rfl (.move rfl) ?_
         refine .m rfl rfl rfl (.idxN sl_22_A (by assumption) rfl rfl (by omega)) ?_
         refine .m rfl rfl rfl (.loadI on_2_A (by assumption) rfl (by omega)) ?_
         refine .m rfl rfl rfl (.assign rfl) ?_
         refine .m rfl rfl rfl (.assign rfl) ?_
         refine .nil ?_
         refine hK21 _ _ ?_
         refine .seq (fun K22 hK22 => ?_)
         refine .regionD mixed_orders_B (.q 0 (.q 1 (.q 2 (.q 3 (.q 4 (.q 5 (.q 6 (.q 7 (.q 8 (.q 9 (.q 10 (.q 11 (.q 12 (.q 13 (.q 15 (.q 16 (.q 17 (.q 18 (.q 19 (.q 20 (.q 21 (.q 22 (.q 23 (.q 24 (.q 25 (.q 26 (.c 14 1 (.q 27 (.done))))))))))))))))))))))))))))) (by kernel_rfl) ?_
         refine .m rfl rfl rfl rfl (.refl _) (.move rfl) ?_
         refine .m rfl rfl rfl rfl (.refl _) (.fieldAddr fo_32_1_U rfl) ?_
         refine .m rfl rfl rfl rfl (.refl _) (.load on_22_B rfl (by assumption)) ?_
         refine .m rfl rfl rfl rfl (.refl _) (.move rfl) ?_
         refine .m rfl rfl rfl rfl (.refl _) (.nilCheck rfl) ?_
         refine .m rfl rfl rfl rfl (.refl _) (.fieldAddr fo_37_0_E rfl) ?_
         refine .m rfl rfl rfl rfl (.refl _) (.fieldAddr fo_35_1_B rfl) ?_
         refine .m rfl rfl rfl rfl (.refl _) (.load on_22_B rfl (by assumption)) ?_
         refine .m rfl rfl rfl rfl (.refl _) (.move rfl) ?_
         refine .m rfl rfl rfl rfl (.refl _) (.idxN sl_22_A (by assumption) rfl rfl (by omega)) ?_
         refine .m rfl rfl rfl rfl (.refl _) (.loadI on_2_A (by assumption) rfl (by omega)) ?_
         refine .m rfl rfl rfl rfl (.refl _) (.idx1 sl_22_A (by assumption) rfl rfl (by omega) (by omega)) ?_
         refine .m rfl rfl rfl rfl (.refl _) (.loadI on_2_A (by assumption) rfl (by omega)) ?_
         refine .m rfl rfl rfl rfl (.refl _) (.move rfl) ?_
         refine .m rfl rfl rfl rfl (.refl _) (.fieldAddr fo_32_1_U rfl) ?_
         refine .m rfl rfl rfl rfl (.refl _) (.load on_22_B rfl (by assumption)) ?_
         refine .m rfl rfl rfl rfl (.refl _) (.move rfl) ?_
         refine .m rfl rfl rfl rfl (.refl _) (.nilCheck rfl) ?_
         refine .m rfl rfl rfl rfl (.refl _) (.fieldAddr fo_37_0_E rfl) ?_
         refine .m rfl rfl rfl rfl (.refl _) (.fieldAddr fo_35_2_B rfl) ?_
         refine .m rfl rfl rfl rfl (.refl _) (.load on_22_B rfl (by assumption)) ?_
         refine .m rfl rfl rfl rfl (.refl _) (.move rfl) ?_
         refine .m rfl rfl rfl rfl (.refl _) (.idxN sl_22_A (by assumption) rfl rfl (by omega)) ?_
         refine .m rfl rfl rfl rfl (.refl _) (.loadI on_2_A (by assumption) rfl (by omega)) ?_
         refine .m rfl rfl rfl rfl (.refl _) (.idx1 sl_22_A (by assumption) rfl rfl (by omega) (by omega)) ?_
         refine .m rfl rfl rfl rfl (.refl _) (.loadI on_2_A (by assumption) rfl (by omega)) ?_
         refine .callQ1 rfl rfl rfl rfl rfl @Try.call45 rfl (then_s) (.refl _) ?_
         refine .m rfl rfl rfl rfl (.refl _) (.cmp rfl rfl rfl) ?_
         refine .done ?_
         refine hK22 _ _ ?_
         refine .cond rfl (fun h101 => ?_) (fun h101 => ?_)
         ·
          try simp only [sps] at h101
          refine .seq (fun K23 hK23 => ?_)
          refine .region ?_
          refine .m rfl rfl rfl (.assign rfl) ?_
          refine .nil ?_
          refine hK23 _ _ ?_
          refine .ret ?_
          -- leaf e5
          refine hret _ _ ?_
          refine ⟨_, rfl, ?_⟩
          exact ⟨congrArg _ (B_false fun hh => h101 (hh.tri a (by omega))), hle⟩
         ·
          try simp only [sps] at h101
          refine .skip ?_
          refine hK20 _ _ ?_
          refine .region ?_
          refine .m rfl rfl rfl (.add rfl rfl rfl (by omega) (by omega)) ?_
          refine .m rfl rfl rfl (.move rfl) ?_
          refine .nil ?_
          refine hKL2 (a + 1) _ _ ?_ ?_ ⟨rfl, rfl, rfl, rfl, rfl, rfl, trivial⟩
          ·
           refine ⟨rfl, ?_⟩
           refine ⟨by omega, fun a' hx => ?_⟩
           by_cases hltq : a' < a
           · exact ha2 a' hltq
           · obtain rfl : a' = a := by omega
             exact h101
          ·
           omega
        ·
         try simp only [sps] at h70
         refine .exit ?_
         refine hK16 _ _ ?_
         refine .seq (fun K24 hK24 => ?_)
         refine .region ?_
         refine .m rfl rfl rfl (.assign rfl) ?_
         refine .nil ?_
         refine hK24 _ _ ?_
         refine .ret ?_
         -- leaf e6
         refine hret _ _ ?_
         refine ⟨_, rfl, ?_⟩
         exact ⟨congrArg _ (B_true ⟨by omega, by omega, h40, fun j hj => ha1 j (by omega), fun a ha => ha2 a (by omega)⟩), hle⟩
theorem l12Cone_c {d : Fun} {p : FunP} {m : Con} {q : ConP} {H : GHeap} (hin : d.In H p := by assumption) (hin' : m.In H q := by assumption) (hI : d.Is := by assumption) (hs : m.Small := by assumption) :
    GCalls Try.prog 18 [.agg (d.cells p).toArray, .agg (m.cells q).toArray] H (Ret (.bool (B (d.Cone m))) H) := by
  refine GCalls.ret rfl ?_
  have hS := hI.2.1.1
  have hSs := hI.1.1
  refine GCalls.body (N := 104) (rs := [.tmp 4]) Try.func18 rfl rfl rfl rfl (fun Qx hret hend => ?_)
  refine .forget (fr' := [(0, some _), (1, some _)]) ⟨rfl, rfl, trivial⟩ ?_
  have hle := GHeap.Le.refl H
  have base_hin := hin
  have base_hin' := hin'
  obtain ⟨⟨w0, w1⟩, w2⟩ := hs
  have q1 := hS.tl
  have q2 := hS.n40
  have q3 := hS.obj
  have q4 := hS.cl
  have q5 := hI.2.2.al
  have q6 := hSs.n40
  have q7 := hSs.tl
  refine .seq (fun K1 hK1 => ?_)
  refine .region ?_
  refine .r rfl rfl rfl (.boxR rfl sz_37_E rfl) ?_
  rintro _ H2 ⟨g2, rfl, le2, ge2, at2⟩
  have nx_H2 := le2.1
  replace hle := hle.trans le2
  have lt_at2 := GHeap.lt_of_get at2
  replace hin := base_hin.mono hle
  replace hin' := base_hin'.mono hle
  have hb2 : Fun.At _ g2 0 d p := ⟨Mem.of_get at2, hin⟩
  obtain ⟨fs2, ft2, c102, c112, j12, j22⟩ := hb2.get
  have hm2 : MemN _ _ _ _ _ := ⟨rfl, hb2.1⟩
  have hi2 := hb2.2
  have hms2 : MemN _ _ _ _ _ := ⟨rfl, fs2.1⟩
  have his2 := fs2.2
  have hmt2 : MemN _ _ _ _ _ := ⟨rfl, ft2.1⟩
  have hit2 := ft2.2
  refine .r rfl rfl rfl (.boxR rfl sz_32_U rfl) ?_
  rintro _ H3 ⟨g3, rfl, le3, ge3, at3⟩
  have nx_H3 := le3.1
  replace hle := hle.trans le3
  replace at2 := le3.2 _ _ at2
  have lt_at3 := GHeap.lt_of_get at3
  replace hin := base_hin.mono hle
  replace hin' := base_hin'.mono hle
  clear hb2 fs2 ft2 c102 c112 j12 j22 hm2 hi2 hms2 his2 hmt2 hit2
  have hb2 : Fun.At _ g2 0 d p := ⟨Mem.of_get at2, hin⟩
  obtain ⟨fs2, ft2, c102, c112, j12, j22⟩ := hb2.get
  have hm2 : MemN _ _ _ _ _ := ⟨rfl, hb2.1⟩
  have hi2 := hb2.2
  have hms2 : MemN _ _ _ _ _ := ⟨rfl, fs2.1⟩
  have his2 := fs2.2
  have hmt2 : MemN _ _ _ _ _ := ⟨rfl, ft2.1⟩
  have hit2 := ft2.2
  have hb3 : Con.At _ g3 0 m q := ⟨Mem.of_get at3, hin'⟩
  obtain ⟨c03, c13, i13⟩ := hb3.get
  have hm3 : MemN _ _ _ _ _ := ⟨rfl, hb3.1⟩
  have hi3 := hb3.2
  refine .m rfl rfl rfl (.assign rfl) ?_
  refine .nil ?_
  refine hK1 _ _ ?_
  refine .seq (fun K2 hK2 => ?_)
  refine .region ?_
  refine .m rfl rfl rfl (.fieldAddr fo_37_1_E rfl) ?_
  refine .m rfl rfl rfl (.loadM ag_35_D rfl (by assumption)) ?_
  refine .r rfl rfl rfl (.allocR rfl ze_35_E rfl) ?_
  rintro _ H5 ⟨g5, rfl, le5, ge5, at5⟩
  have nx_H5 := le5.1
  replace hle := hle.trans le5
  replace at2 := le5.2 _ _ at2
  replace at3 := le5.2 _ _ at3
  have lt_at5 := GHeap.lt_of_get at5
  replace hin := base_hin.mono hle
  replace hin' := base_hin'.mono hle
  clear hb2 fs2 ft2 c102 c112 j12 j22 hm2 hi2 hms2 his2 hmt2 hit2
  have hb2 : Fun.At _ g2 0 d p := ⟨Mem.of_get at2, hin⟩
  obtain ⟨fs2, ft2, c102, c112, j12, j22⟩ := hb2.get
  have hm2 : MemN _ _ _ _ _ := ⟨rfl, hb2.1⟩
  have hi2 := hb2.2
  have hms2 : MemN _ _ _ _ _ := ⟨rfl, fs2.1⟩
  have his2 := fs2.2
  have hmt2 : MemN _ _ _ _ _ := ⟨rfl, ft2.1⟩
  have hit2 := ft2.2
  clear hb3 c03 c13 i13 hm3 hi3
  have hb3 : Con.At _ g3 0 m q := ⟨Mem.of_get at3, hin'⟩
  obtain ⟨c03, c13, i13⟩ := hb3.get
  have hm3 : MemN _ _ _ _ _ := ⟨rfl, hb3.1⟩
  have hi3 := hb3.2
  refine .r0 rfl rfl (.fillR rfl sz_35_D rfl rfl rfl rfl (by assumption) (by first | rfl | exact Nat.le_of_ble_eq_true rfl | simp)) ?_
  rintro _ H1003 ⟨rfl, st1003, at1003⟩
  have nx_H1003 := st1003.nx
  replace hle := hle.st st1003 (fun k hk => ⟨by omega, trivial⟩)
  replace at2 := st1003.same _ _ ⟨by omega, trivial⟩ at2
  replace at3 := st1003.same _ _ ⟨by omega, trivial⟩ at3
  have lt_at1003 := GHeap.lt_of_get at1003
  replace hin := base_hin.mono hle
  replace hin' := base_hin'.mono hle
  clear hb2 fs2 ft2 c102 c112 j12 j22 hm2 hi2 hms2 his2 hmt2 hit2
  have hb2 : Fun.At _ g2 0 d p := ⟨Mem.of_get at2, hin⟩
  obtain ⟨fs2, ft2, c102, c112, j12, j22⟩ := hb2.get
  have hm2 : MemN _ _ _ _ _ := ⟨rfl, hb2.1⟩
  have hi2 := hb2.2
  have hms2 : MemN _ _ _ _ _ := ⟨rfl, fs2.1⟩
  have his2 := fs2.2
  have hmt2 : MemN _ _ _ _ _ := ⟨rfl, ft2.1⟩
  have hit2 := ft2.2
  clear hb3 c03 c13 i13 hm3 hi3
  have hb3 : Con.At _ g3 0 m q := ⟨Mem.of_get at3, hin'⟩
  obtain ⟨c03, c13, i13⟩ := hb3.get
  have hm3 : MemN _ _ _ _ _ := ⟨rfl, hb3.1⟩
  have hi3 := hb3.2
  have mm1003 : MemN _ _ _ _ _ := ⟨rfl, Mem.of_get at1003⟩
  have hb5 : Cat.At _ g5 0 d.t p.t := ⟨Mem.of_get at1003, hit2⟩
  obtain ⟨c05, c15, c25, c35, c45, i15, i25, i35, i45⟩ := hb5.get
  have hm5 : MemN _ _ _ _ _ := ⟨rfl, hb5.1⟩
  have hi5 := hb5.2
  refine .nil ?_
  refine hK2 _ _ ?_
  refine .seq (fun K3 hK3 => ?_)
  refine .seq (fun K4 hK4 => ?_)
  refine .region ?_
  obtain ⟨s0, s1, s2, s3, s4, si1, si2, si3, si4⟩ := fs2.get
  refine .m rfl rfl rfl (.loadM ag_35_D rfl ⟨rfl, Mem.of_get at1003⟩) ?_
  refine .m rfl rfl rfl (.fieldAddr fo_32_0_VCon rfl) ?_
  refine .m rfl rfl rfl (.load on_2_A rfl (by assumption)) ?_
  refine .callQ rfl rfl rfl rfl @Try.call35 rfl (l02Object_c) ?_
  refine .m rfl rfl rfl (.not rfl) ?_
  refine .m rfl rfl rfl (.move rfl) ?_
  refine .split (fun h15 => ?_) (fun h15 => ?_)
  ·
   try simp only [sps] at h15
   refine .sg rfl rfl rfl rfl rfl ?_
   refine .sg rfl rfl rfl rfl rfl ?_
   refine .sg rfl rfl rfl rfl rfl ?_
   refine .sg rfl rfl rfl rfl rfl ?_
   refine .sg rfl rfl rfl rfl rfl ?_
   refine .sg rfl rfl rfl rfl rfl ?_
   refine .sg rfl rfl rfl rfl rfl ?_
   refine .m rfl rfl rfl (.pickT rfl rfl) ?_
   refine .m rfl rfl rfl (.move rfl) ?_
   refine .sg rfl rfl rfl rfl rfl ?_
   refine .sg rfl rfl rfl rfl rfl ?_
   refine .sg rfl rfl rfl rfl rfl ?_
   refine .sg rfl rfl rfl rfl rfl ?_
   refine .sg rfl rfl rfl rfl rfl ?_
   refine .sg rfl rfl rfl rfl rfl ?_
   refine .sg rfl rfl rfl rfl rfl ?_
   refine .m rfl rfl rfl (.pickT rfl rfl) ?_
   refine .nil ?_
   refine hK4 _ _ ?_
   refine .condT rfl ?_
   refine .seq (fun K5 hK5 => ?_)
   refine .region ?_
   refine .m rfl rfl rfl (.assign rfl) ?_
   refine .nil ?_
   refine hK5 _ _ ?_
   refine .ret ?_
   -- leaf e1
   refine hret _ _ ?_
   refine ⟨_, rfl, ?_⟩
   exact ⟨congrArg _ (B_false fun hh => by have := hh.ap; omega), hle⟩
  ·
   simp only [sps] at h15
   refine .mg rfl rfl rfl rfl rfl (.fieldAddr fo_32_1_U rfl) ?_
   refine .mg rfl rfl rfl rfl rfl (.load on_22_B rfl (by assumption)) ?_
   refine .mg rfl rfl rfl rfl rfl (.len sl_22_A rfl) ?_
   refine .mg rfl rfl rfl rfl rfl (.fieldAddr fo_37_2_E rfl) ?_
   refine .mg rfl rfl rfl rfl rfl (.load on_22_B rfl (by assumption)) ?_
   refine .mg rfl rfl rfl rfl rfl (.len sl_22_A rfl) ?_
   refine .mg rfl rfl rfl rfl rfl (.cmp rfl rfl rfl) ?_
   refine .m rfl rfl rfl (.pickF rfl rfl) ?_
   refine .m rfl rfl rfl (.move rfl) ?_
   refine .split (fun h24 => ?_) (fun h24 => ?_)
   ·
    try simp only [sps] at h24
    refine .sg rfl rfl rfl rfl rfl ?_
    refine .sg rfl rfl rfl rfl rfl ?_
    refine .sg rfl rfl rfl rfl rfl ?_
    refine .sg rfl rfl rfl rfl rfl ?_
    refine .sg rfl rfl rfl rfl rfl ?_
    refine .sg rfl rfl rfl rfl rfl ?_
    refine .sg rfl rfl rfl rfl rfl ?_
    refine .m rfl rfl rfl (.pickT rfl rfl) ?_
    refine .nil ?_
    refine hK4 _ _ ?_
    refine .condT rfl ?_
    refine .seq (fun K6 hK6 => ?_)
    refine .region ?_
    refine .m rfl rfl rfl (.assign rfl) ?_
    refine .nil ?_
    refine hK6 _ _ ?_
    refine .ret ?_
    -- leaf e2
    refine hret _ _ ?_
    refine ⟨_, rfl, ?_⟩
    exact ⟨congrArg _ (B_false fun hh => by have := hh.ll; omega), hle⟩
   ·
    simp only [sps] at h24
    refine .mg rfl rfl rfl rfl rfl (.fieldAddr fo_35_1_B rfl) ?_
    refine .mg rfl rfl rfl rfl rfl (.load on_22_B rfl (by assumption)) ?_
    refine .mg rfl rfl rfl rfl rfl (.len sl_22_A rfl) ?_
    refine .mg rfl rfl rfl rfl rfl (.fieldAddr fo_32_1_U rfl) ?_
    refine .mg rfl rfl rfl rfl rfl (.load on_22_B rfl (by assumption)) ?_
    refine .callQg rfl rfl rfl rfl rfl rfl @Try.call34 rfl (l01Map_c) ?_
    refine .mg rfl rfl rfl rfl rfl (.not rfl) ?_
    refine .m rfl rfl rfl (.pickF rfl rfl) ?_
    refine .nil ?_
    refine hK4 _ _ ?_
    refine .cond rfl (fun h32 => ?_) (fun h32 => ?_)
    ·
     try simp only [sps] at h32
     refine .seq (fun K7 hK7 => ?_)
     refine .region ?_
     refine .m rfl rfl rfl (.assign rfl) ?_
     refine .nil ?_
     refine hK7 _ _ ?_
     refine .ret ?_
     -- leaf e3
     refine hret _ _ ?_
     refine ⟨_, rfl, ?_⟩
     exact ⟨congrArg _ (B_false fun hh => by rw [allIn_iff.2 hh.lg] at h32; cases h32), hle⟩
    ·
     simp only [sps] at h32
     refine .skip ?_
     refine hK3 _ _ ?_
     refine .seq (fun K8 hK8 => ?_)
     refine .seq (fun K9 hK9 => ?_)
     refine .region ?_
     refine .m rfl rfl rfl (.assign rfl) ?_
     refine .nil ?_
     refine hK9 _ _ ?_
     refine .block ?_
     refine .loopR (σ := Nat) [(2, some _), (3, some _), (5, some _)] (fun k => [(6, some (.int .i64 (k : Int)))]) (fun k H' => H1003 = H' ∧ (k : Int) ≤ m.lg.length ∧ ∀ j, j < k → d.t.src.getD (m.lg.getD j 0).toNat 0 = m.ap ∧ d.t.tgt.getD (m.lg.getD j 0).toNat 0 = d.ob.getD j 0) (fun k => (m.lg.length - k : Int).toNat) (0) ⟨rfl, rfl, rfl, trivial⟩ ⟨rfl, trivial⟩ ?_ ?_
     ·
      refine ⟨rfl, ?_⟩
      exact ⟨by omega, fun _ _ => by omega⟩
     ·
      rintro k _ ⟨rfl, hI⟩ KL1 hKL1
      refine .forget (fr' := [(6, some (.int .i64 (k : Int))), (2, some _), (3, some _), (5, some _)]) ⟨rfl, rfl, rfl, rfl, trivial⟩ ?_
      obtain ⟨hk1, ha1⟩ := hI
      refine .seq (fun K10 hK10 => ?_)
      refine .seq (fun K11 hK11 => ?_)
      refine .region ?_
      refine .m rfl rfl rfl (.move rfl) ?_
      refine .m rfl rfl rfl (.fieldAddr fo_32_1_U rfl) ?_
      refine .m rfl rfl rfl (.load on_22_B rfl (by assumption)) ?_
      refine .m rfl rfl rfl (.len sl_22_A rfl) ?_
      refine .m rfl rfl rfl (.cmp rfl rfl rfl) ?_
      refine .nil ?_
      refine hK11 _ _ ?_
      refine .cond rfl (fun h37 => ?_) (fun h37 => ?_)
      ·
       simp only [sps] at h37
       have r1 := h32 k (by omega)
       refine .skip ?_
       refine hK10 _ _ ?_
       refine .seq (fun K12 hK12 => ?_)
       refine .block ?_
       refine .seq (fun K13 hK13 => ?_)
       refine .regionD mixed_orders_B (.q 0 (.q 1 (.q 2 (.q 3 (.q 4 (.q 5 (.q 6 (.q 7 (.q 8 (.q 9 (.q 10 (.q 11 (.q 12 (.q 13 (.q 14 (.q 15 (.q 16 (.q 17 (.q 18 (.q 19 (.q 20 (.q 21 (.q 22 (.q 23 (.q 24 (.q 25 (.q 26 (.q 27 (.q 28 (.done)))))))))))))))))))))))))))))) (by kernel_rfl) ?_
       refine .m rfl rfl rfl rfl (.refl _) (.fieldAddr fo_35_1_B rfl) ?_
       refine .m rfl rfl rfl rfl (.refl _) (.load on_22_B rfl (by assumption)) ?_
       refine .m rfl rfl rfl rfl (.refl _) (.fieldAddr fo_32_1_U rfl) ?_
       refine .m rfl rfl rfl rfl (.refl _) (.load on_22_B rfl (by assumption)) ?_
       refine .m rfl rfl rfl rfl (.refl _) (.move rfl) ?_
       refine .m rfl rfl rfl rfl (.refl _) (.idxN sl_22_A (by assumption) rfl rfl (by omega)) ?_
       refine .m rfl rfl rfl rfl (.refl _) (.loadI on_2_A (by assumption) rfl (by omega)) ?_
       refine .m rfl rfl rfl rfl (.refl _) (.idx1 sl_22_A (by assumption) rfl rfl (by omega) (by omega)) ?_
       refine .m rfl rfl rfl rfl (.refl _) (.loadI on_2_A (by assumption) rfl (by omega)) ?_
       refine .m rfl rfl rfl rfl (.refl _) (.fieldAddr fo_32_0_VCon rfl) ?_
       refine .m rfl rfl rfl rfl (.refl _) (.load on_2_A rfl (by assumption)) ?_
       refine .m rfl rfl rfl rfl (.refl _) (.cmp rfl rfl rfl) ?_
       refine .m rfl rfl rfl rfl (.refl _) (.move rfl) ?_
       refine .split (fun h52 => ?_) (fun h52 => ?_)
       ·
        try simp only [sps] at h52
        refine .sg rfl rfl rfl rfl rfl rfl ?_
        refine .sg rfl rfl rfl rfl rfl rfl ?_
        refine .sg rfl rfl rfl rfl rfl rfl ?_
        refine .sg rfl rfl rfl rfl rfl rfl ?_
        refine .sg rfl rfl rfl rfl rfl rfl ?_
        refine .sg rfl rfl rfl rfl rfl rfl ?_
        refine .sg rfl rfl rfl rfl rfl rfl ?_
        refine .sg rfl rfl rfl rfl rfl rfl ?_
        refine .sg rfl rfl rfl rfl rfl rfl ?_
        refine .sg rfl rfl rfl rfl rfl rfl ?_
        refine .sg rfl rfl rfl rfl rfl rfl ?_
        refine .sg rfl rfl rfl rfl rfl rfl ?_
        refine .sg rfl rfl rfl rfl rfl rfl ?_
        refine .sg rfl rfl rfl rfl rfl rfl ?_
        refine .sg rfl rfl rfl rfl rfl rfl ?_
        refine .m rfl rfl rfl rfl (.refl _) (.pickT rfl rfl) ?_
        refine .done ?_
        refine hK13 _ _ ?_
        refine .condT rfl ?_
        refine .seq (fun K14 hK14 => ?_)
        refine .region ?_
        refine .m rfl rfl rfl (.assign rfl) ?_
        refine .nil ?_
        refine hK14 _ _ ?_
        refine .ret ?_
        -- leaf e4
        refine hret _ _ ?_
        refine ⟨_, rfl, ?_⟩
        exact ⟨congrArg _ (B_false fun hh => by have := hh.ends k (by omega); omega), hle⟩
       ·
        try simp only [sps] at h52
        refine .mg rfl rfl rfl rfl rfl rfl (.refl _) (.fieldAddr fo_35_2_B rfl) ?_
        refine .mg rfl rfl rfl rfl rfl rfl (.refl _) (.load on_22_B rfl (by assumption)) ?_
        refine .mg rfl rfl rfl rfl rfl rfl (.refl _) (.fieldAddr fo_32_1_U rfl) ?_
        refine .mg rfl rfl rfl rfl rfl rfl (.refl _) (.load on_22_B rfl (by assumption)) ?_
        refine .mg rfl rfl rfl rfl rfl rfl (.refl _) (.move rfl) ?_
        refine .mg rfl rfl rfl rfl rfl rfl (.refl _) (.idxN sl_22_A (by assumption) rfl rfl (by omega)) ?_
        refine .mg rfl rfl rfl rfl rfl rfl (.refl _) (.loadI on_2_A (by assumption) rfl (by omega)) ?_
        refine .mg rfl rfl rfl rfl rfl rfl (.refl _) (.idx1 sl_22_A (by assumption) rfl rfl (by omega) (by omega)) ?_
        refine .mg rfl rfl rfl rfl rfl rfl (.refl _) (.loadI on_2_A (by assumption) rfl (by omega)) ?_
        refine .mg rfl rfl rfl rfl rfl rfl (.refl _) (.fieldAddr fo_37_2_E rfl) ?_
        refine .mg rfl rfl rfl rfl rfl rfl (.refl _) (.load on_22_B rfl (by assumption)) ?_
        refine .mg rfl rfl rfl rfl rfl rfl (.refl _) (.move rfl) ?_
        refine .mg rfl rfl rfl rfl rfl rfl (.refl _) (.idxN sl_22_A (by assumption) rfl rfl (by omega)) ?_
        refine .mg rfl rfl rfl rfl rfl rfl (.refl _) (.loadI on_2_A (by assumption) rfl (by omega)) ?_
        refine .mg rfl rfl rfl rfl rfl rfl (.refl _) (.cmp rfl rfl rfl) ?_
        refine .m rfl rfl rfl rfl (.refl _) (.pickF rfl rfl) ?_
        refine .done ?_
        refine hK13 _ _ ?_
        refine .cond rfl (fun h68 => ?_) (fun h68 => ?_)
        ·
         try simp only [sps] at h68
         refine .seq (fun K15 hK15 => ?_)
         refine .region ?_
         refine .m rfl rfl rfl (.assign rfl) ?_
         refine .nil ?_
         refine hK15 _ _ ?_
         refine .ret ?_
         -- leaf e5
         refine hret _ _ ?_
         refine ⟨_, rfl, ?_⟩
         exact ⟨congrArg _ (B_false fun hh => by have := hh.ends k (by omega); omega), hle⟩
        ·
         try simp only [sps] at h68
         refine .skip ?_
         refine hK12 _ _ ?_
         refine .region ?_
         refine .m rfl rfl rfl (.move rfl) ?_
         refine .m rfl rfl rfl (.add rfl rfl rfl (by omega) (by omega)) ?_
         refine .m rfl rfl rfl (.assign rfl) ?_
         refine .nil ?_
         refine hKL1 (k + 1) _ _ ?_ ?_ ⟨rfl, rfl, rfl, rfl, trivial⟩
         ·
          refine ⟨rfl, ?_⟩
          refine ⟨by omega, fun j hx => ?_⟩
          by_cases hltq : j < k
          · exact ha1 j hltq
          · obtain rfl : j = k := by omega
            exact ⟨by omega, by omega⟩
         ·
          omega
      ·
       try simp only [sps] at h37
       refine .exit ?_
       refine hK8 _ _ ?_
       refine .seq (fun K16 hK16 => ?_)
       refine .seq (fun K17 hK17 => ?_)
       refine .region ?_
       refine .m rfl rfl rfl (.assign rfl) ?_
       refine .nil ?_
       refine hK17 _ _ ?_
       refine .block ?_
       refine .loopR (σ := Nat) [(2, some _), (3, some _), (5, some _)] (fun a => [(7, some (.int .i64 (a : Int)))]) (fun a H' => H1003 = H' ∧ (a : Int) ≤ d.ar.length ∧ ∀ a', a' < a → d.t.th (m.lg.getD (d.s.src.getD a' 0).toNat 0) (d.ar.getD a' 0) = m.lg.getD (d.s.tgt.getD a' 0).toNat 0) (fun a => (d.ar.length - a : Int).toNat) (0) ⟨rfl, rfl, rfl, trivial⟩ ⟨rfl, trivial⟩ ?_ ?_
       ·
        refine ⟨rfl, ?_⟩
        exact ⟨by omega, fun _ _ => by omega⟩
       ·
        rintro a _ ⟨rfl, hI⟩ KL2 hKL2
        refine .forget (fr' := [(7, some (.int .i64 (a : Int))), (2, some _), (3, some _), (5, some _)]) ⟨rfl, rfl, rfl, rfl, trivial⟩ ?_
        obtain ⟨hk2, ha2⟩ := hI
        refine .seq (fun K18 hK18 => ?_)
        refine .seq (fun K19 hK19 => ?_)
        refine .region ?_
        refine .m rfl rfl rfl (.move rfl) ?_
        refine .m rfl rfl rfl (.fieldAddr fo_37_3_E rfl) ?_
        refine .m rfl rfl rfl (.load on_22_B rfl (by assumption)) ?_
        refine .m rfl rfl rfl (.len sl_22_A rfl) ?_
        refine .m rfl rfl rfl (.cmp rfl rfl rfl) ?_
        refine .nil ?_
        refine hK19 _ _ ?_
        refine .cond rfl (fun h73 => ?_) (fun h73 => ?_)
        ·
         simp only [sps] at h73
         have r1 := hI.arr (a := a) (by omega)
         have r2 := h32 (d.s.src.getD a 0).toNat (by omega)
         have r3 := h32 (d.s.tgt.getD a 0).toNat (by omega)
         refine .skip ?_
         refine hK18 _ _ ?_
         refine .seq (fun K20 hK20 => ?_)
         refine .block ?_
         refine .seq (fun K21 hK21 => ?_)
         refine .regionD mixed_orders_B (.q 0 (.q 1 (.q 2 (.q 3 (.q 4 (.q 5 (.q 6 (.q 7 (.q 8 (.q 9 (.q 10 (.q 11 (.q 12 (.q 13 (.q 14 (.q 15 (.q 17 (.q 18 (.q 19 (.q 20 (.q 21 (.q 22 (.q 23 (.q 24 (.q 25 (.q 26 (.c 16 1 (.q 27 (.done))))))))))))))))))))))))))))) (by kernel_rfl) ?_
         refine .m rfl rfl rfl rfl (.refl _) (.loadM ag_35_D rfl ⟨rfl, Mem.of_get at1003⟩) ?_
         refine .m rfl rfl rfl rfl (.refl _) (.fieldAddr fo_32_1_U rfl) ?_
         refine .m rfl rfl rfl rfl (.refl _) (.load on_22_B rfl (by assumption)) ?_
         refine .m rfl rfl rfl rfl (.refl _) (.fieldAddr fo_37_0_E rfl) ?_
         refine .m rfl rfl rfl rfl (.refl _) (.fieldAddr fo_35_1_B rfl) ?_
         refine .m rfl rfl rfl rfl (.refl _) (.load on_22_B rfl (by assumption)) ?_
         refine .m rfl rfl rfl rfl (.refl _) (.move rfl) ?_
         refine .m rfl rfl rfl rfl (.refl _) (.idxN sl_22_A (by assumption) rfl rfl (by omega)) ?_
         refine .m rfl rfl rfl rfl (.refl _) (.loadI on_2_A (by assumption) rfl (by omega)) ?_
         refine .m rfl rfl rfl rfl (.refl _) (.idx1 sl_22_A (by assumption) rfl rfl (by omega) (by omega)) ?_
         refine .m rfl rfl rfl rfl (.refl _) (.loadI on_2_A (by assumption) rfl (by omega)) ?_
         refine .m rfl rfl rfl rfl (.refl _) (.fieldAddr fo_37_3_E rfl) ?_
         refine .m rfl rfl rfl rfl (.refl _) (.load on_22_B rfl (by assumption)) ?_
         refine .m rfl rfl rfl rfl (.refl _) (.move rfl) ?_
         refine .m rfl rfl rfl rfl (.refl _) (.idxN sl_22_A (by assumption) rfl rfl (by omega)) ?_
         refine .m rfl rfl rfl rfl (.refl _) (.loadI on_2_A (by assumption) rfl (by omega)) ?_
         refine .m rfl rfl rfl rfl (.refl _) (.fieldAddr fo_32_1_U rfl) ?_
         refine .m rfl rfl rfl rfl (.refl _) (.load on_22_B rfl (by assumption)) ?_
         refine .m rfl rfl rfl rfl (.refl _) (.fieldAddr fo_37_0_E rfl) ?_
         refine .m rfl rfl rfl rfl (.refl _) (.fieldAddr fo_35_2_B rfl) ?_
         refine .m rfl rfl rfl rfl (.refl _) (.load on_22_B rfl (by assumption)) ?_
         refine .m rfl rfl rfl rfl (.refl _) (.move rfl) ?_
         refine .m rfl rfl rfl rfl (.refl _) (.idxN sl_22_A (by assumption) rfl rfl (by omega)) ?_
         refine .m rfl rfl rfl rfl (.refl _) (.loadI on_2_A (by assumption) rfl (by omega)) ?_
         refine .m rfl rfl rfl rfl (.refl _) (.idx1 sl_22_A (by assumption) rfl rfl (by omega) (by omega)) ?_
         refine .m rfl rfl rfl rfl (.refl _) (.loadI on_2_A (by assumption) rfl (by omega)) ?_
         refine .callQ1 rfl rfl rfl rfl rfl @Try.call36 rfl (l02Then_c) (.refl _) ?_
         refine .m rfl rfl rfl rfl (.refl _) (.cmp rfl rfl rfl) ?_
         refine .done ?_
         refine hK21 _ _ ?_
         refine .cond rfl (fun h103 => ?_) (fun h103 => ?_)
         ·
          try simp only [sps] at h103
          refine .seq (fun K22 hK22 => ?_)
          refine .region ?_
          refine .m rfl rfl rfl (.assign rfl) ?_
          refine .nil ?_
          refine hK22 _ _ ?_
          refine .ret ?_
          -- leaf e6
          refine hret _ _ ?_
          refine ⟨_, rfl, ?_⟩
          exact ⟨congrArg _ (B_false fun hh => h103 (hh.tri a (by omega))), hle⟩
         ·
          try simp only [sps] at h103
          refine .skip ?_
          refine hK20 _ _ ?_
          refine .region ?_
          refine .m rfl rfl rfl (.move rfl) ?_
          refine .m rfl rfl rfl (.add rfl rfl rfl (by omega) (by omega)) ?_
          refine .m rfl rfl rfl (.assign rfl) ?_
          refine .nil ?_
          refine hKL2 (a + 1) _ _ ?_ ?_ ⟨rfl, rfl, rfl, rfl, trivial⟩
          ·
           refine ⟨rfl, ?_⟩
           refine ⟨by omega, fun a' hx => ?_⟩
           by_cases hltq : a' < a
           · exact ha2 a' hltq
           · obtain rfl : a' = a := by omega
             exact h103
          ·
           omega
        ·
         try simp only [sps] at h73
         refine .exit ?_
         refine hK16 _ _ ?_
         refine .seq (fun K23 hK23 => ?_)
         refine .region ?_
         refine .m rfl rfl rfl (.assign rfl) ?_
         refine .nil ?_
         refine hK23 _ _ ?_
         refine .ret ?_
         -- leaf e7
         refine hret _ _ ?_
         refine ⟨_, rfl, ?_⟩
         exact ⟨congrArg _ (B_true ⟨by omega, by omega, h32, fun j hj => ha1 j (by omega), fun a ha => ha2 a (by omega)⟩), hle⟩
theorem imageCone_c {g o : Nat} {f : Fun} {p : FunP} {m : Con} {q : ConP} {H : GHeap} (h : Fun.At H g o f p := by assumption) (hin : m.In H q := by assumption) (ha : 0 ≤ m.ap := by omega) (ha' : m.ap < f.ob.length := by omega) (hb : ∀ i, i < m.lg.length → 0 ≤ m.lg.getD i 0 ∧ m.lg.getD i 0 < f.ar.length := by assumption) (hl : m.lg.length ≤ 1048576 := by omega) :
    GCalls Try.prog 26 [.agg (m.cells q).toArray, .pointer (some ⟨g, o, none⟩)] H (fun v H' => H.Le H' ∧ ∃ r, v = .agg ((f.image m).cells r).toArray ∧ ConR H.next H' (f.image m) r) := by
  refine GCalls.body (N := 21) (rs := [.cell 4 32]) Try.func26 rfl rfl rfl rfl (fun Qx hret hend => ?_)
  refine .forget (fr' := [(0, some _), (1, some _)]) ⟨rfl, rfl, trivial⟩ ?_
  have hle := GHeap.Le.refl H
  have base_h := h
  have base_hin := hin
  obtain ⟨fs, ft, c10, c11, j1, j2⟩ := h.get
  have hm : MemN _ _ _ _ _ := ⟨rfl, h.1⟩
  have hi := h.2
  have hms : MemN _ _ _ _ _ := ⟨rfl, fs.1⟩
  have his := fs.2
  have hmt : MemN _ _ _ _ _ := ⟨rfl, ft.1⟩
  have hit := ft.2
  refine .seq (fun K1 hK1 => ?_)
  refine .region ?_
  refine .r rfl rfl rfl (.boxR rfl sz_32_U rfl) ?_
  rintro _ H2 ⟨g2, rfl, le2, ge2, at2⟩
  have nx_H2 := le2.1
  replace hle := hle.trans le2
  have lt_at2 := GHeap.lt_of_get at2
  replace h := base_h.mono hle
  replace hin := base_hin.mono hle
  clear fs ft c10 c11 j1 j2 hm hi hms his hmt hit
  obtain ⟨fs, ft, c10, c11, j1, j2⟩ := h.get
  have hm : MemN _ _ _ _ _ := ⟨rfl, h.1⟩
  have hi := h.2
  have hms : MemN _ _ _ _ _ := ⟨rfl, fs.1⟩
  have his := fs.2
  have hmt : MemN _ _ _ _ _ := ⟨rfl, ft.1⟩
  have hit := ft.2
  have hb2 : Con.At _ g2 0 m q := ⟨Mem.of_get at2, hin⟩
  obtain ⟨c02, c12, i12⟩ := hb2.get
  have hm2 : MemN _ _ _ _ _ := ⟨rfl, hb2.1⟩
  have hi2 := hb2.2
  refine .r rfl rfl rfl (.allocR rfl ze_32_VCon rfl) ?_
  rintro _ H4 ⟨g4, rfl, le4, ge4, at4⟩
  have nx_H4 := le4.1
  replace hle := hle.trans le4
  replace at2 := le4.2 _ _ at2
  have lt_at4 := GHeap.lt_of_get at4
  replace h := base_h.mono hle
  replace hin := base_hin.mono hle
  clear fs ft c10 c11 j1 j2 hm hi hms his hmt hit
  obtain ⟨fs, ft, c10, c11, j1, j2⟩ := h.get
  have hm : MemN _ _ _ _ _ := ⟨rfl, h.1⟩
  have hi := h.2
  have hms : MemN _ _ _ _ _ := ⟨rfl, fs.1⟩
  have his := fs.2
  have hmt : MemN _ _ _ _ _ := ⟨rfl, ft.1⟩
  have hit := ft.2
  clear hb2 c02 c12 i12 hm2 hi2
  have hb2 : Con.At _ g2 0 m q := ⟨Mem.of_get at2, hin⟩
  obtain ⟨c02, c12, i12⟩ := hb2.get
  have hm2 : MemN _ _ _ _ _ := ⟨rfl, hb2.1⟩
  have hi2 := hb2.2
  refine .nil ?_
  refine hK1 _ _ ?_
  refine .seq (fun K2 hK2 => ?_)
  refine .regionD mixed_orders_B (.q 0 (.q 1 (.q 2 (.q 3 (.q 4 (.q 5 (.q 6 (.q 7 (.q 8 (.q 9 (.q 10 (.q 11 (.q 12 (.q 13 (.c 14 1 (.q 15 (.c 16 0 (.done)))))))))))))))))) (by kernel_rfl) ?_
  refine .m rfl rfl rfl rfl (.refl _) (.move rfl) ?_
  refine .m rfl rfl rfl rfl (.refl _) (.nilCheck rfl) ?_
  refine .m rfl rfl rfl rfl (.refl _) (.fieldAddr fo_37_2_E rfl) ?_
  refine .m rfl rfl rfl rfl (.refl _) (.load on_22_B rfl (by assumption)) ?_
  refine .m rfl rfl rfl rfl (.refl _) (.fieldAddr fo_32_0_VCon rfl) ?_
  refine .m rfl rfl rfl rfl (.refl _) (.load on_2_A rfl (by assumption)) ?_
  refine .m rfl rfl rfl rfl (.refl _) (.idx1 sl_22_A (by assumption) rfl rfl (by omega) (by omega)) ?_
  refine .m rfl rfl rfl rfl (.refl _) (.loadI on_2_A (by assumption) rfl (by omega)) ?_
  refine .m rfl rfl rfl rfl (.refl _) (.fieldAddr fo_32_1_U rfl) ?_
  refine .m rfl rfl rfl rfl (.refl _) (.load on_22_B rfl (by assumption)) ?_
  refine .m rfl rfl rfl rfl (.refl _) (.move rfl) ?_
  refine .m rfl rfl rfl rfl (.refl _) (.nilCheck rfl) ?_
  refine .m rfl rfl rfl rfl (.refl _) (.fieldAddr fo_37_3_E rfl) ?_
  refine .m rfl rfl rfl rfl (.refl _) (.load on_22_B rfl (by assumption)) ?_
  refine .call1 rfl rfl rfl rfl rfl @Try.call47 rfl (implThen_c) ?_
  rintro _ H19 ⟨le19, g19, rfl, at19, ge19⟩
  have hbl := le19
  refine ⟨hbl, ?_⟩
  have nx_H19 := le19.1
  replace hle := hle.trans le19
  replace at2 := le19.2 _ _ at2
  replace at4 := le19.2 _ _ at4
  have lt_at19 := GHeap.lt_of_get at19
  replace h := base_h.mono hle
  replace hin := base_hin.mono hle
  clear fs ft c10 c11 j1 j2 hm hi hms his hmt hit
  obtain ⟨fs, ft, c10, c11, j1, j2⟩ := h.get
  have hm : MemN _ _ _ _ _ := ⟨rfl, h.1⟩
  have hi := h.2
  have hms : MemN _ _ _ _ _ := ⟨rfl, fs.1⟩
  have his := fs.2
  have hmt : MemN _ _ _ _ _ := ⟨rfl, ft.1⟩
  have hit := ft.2
  clear hb2 c02 c12 i12 hm2 hi2
  have hb2 : Con.At _ g2 0 m q := ⟨Mem.of_get at2, hin⟩
  obtain ⟨c02, c12, i12⟩ := hb2.get
  have hm2 : MemN _ _ _ _ _ := ⟨rfl, hb2.1⟩
  have hi2 := hb2.2
  have i19 := Ints.of_get at19
  refine .m rfl rfl rfl rfl hbl (.build bt_32_W rfl rfl rfl) ?_
  refine .r0 rfl rfl rfl (.fillR rfl sz_32_U rfl rfl rfl rfl (by assumption) (by first | rfl | exact Nat.le_of_ble_eq_true rfl | simp)) ?_
  rintro _ H1016 ⟨rfl, st1016, at1016⟩
  have nx_H1016 := st1016.nx
  replace hle := hle.st st1016 (fun k hk => ⟨by omega, trivial⟩)
  replace at2 := st1016.same _ _ ⟨by omega, trivial⟩ at2
  replace at19 := st1016.same _ _ ⟨by omega, trivial⟩ at19
  have lt_at1016 := GHeap.lt_of_get at1016
  replace h := base_h.mono hle
  replace hin := base_hin.mono hle
  clear fs ft c10 c11 j1 j2 hm hi hms his hmt hit
  obtain ⟨fs, ft, c10, c11, j1, j2⟩ := h.get
  have hm : MemN _ _ _ _ _ := ⟨rfl, h.1⟩
  have hi := h.2
  have hms : MemN _ _ _ _ _ := ⟨rfl, fs.1⟩
  have his := fs.2
  have hmt : MemN _ _ _ _ _ := ⟨rfl, ft.1⟩
  have hit := ft.2
  clear hb2 c02 c12 i12 hm2 hi2
  have hb2 : Con.At _ g2 0 m q := ⟨Mem.of_get at2, hin⟩
  obtain ⟨c02, c12, i12⟩ := hb2.get
  have hm2 : MemN _ _ _ _ _ := ⟨rfl, hb2.1⟩
  have hi2 := hb2.2
  clear i19
  have i19 := Ints.of_get at19
  have mm1016 : MemN _ _ _ _ _ := ⟨rfl, Mem.of_get at1016⟩
  refine .done ?_
  refine hK2 _ _ ?_
  refine .ret ?_
  -- leaf e1
  refine hret _ _ ?_
  refine ⟨_, _, _, _, rfl, ag_32_VCon, (by rfl), (Mem.of_get at1016), ?_⟩
  exact ⟨hle, ⟨some ⟨g19, 0, none⟩⟩, by simp only [Fun.image, Con.cells, length_thenL]; rfl, .inr ⟨g19, _, rfl, by omega, at19⟩⟩
theorem implImageCone_c {d f : Fun} {p p' : FunP} {m : Con} {q : ConP} {H : GHeap} (hin : d.In H p := by assumption) (hin1 : m.In H q := by assumption) (hin2 : f.In H p' := by assumption) (hs : d.Small := by assumption) (hs1 : m.Small := by assumption) (hs2 : f.Small := by assumption) :
    GCalls Try.prog 9 [.agg (d.cells p).toArray, .agg (m.cells q).toArray, .agg (f.cells p').toArray] H (fun v H' => H.Le H' ∧ ∃ r, v = .tuple #[.agg ((imageConeR d m f).cells r).toArray, .int .i64 (imageConeC d m f)] ∧ ConR H.next H' (imageConeR d m f) r) := by
  have hsd := hs
  have hsf := hs2
  obtain ⟨ds1, ds2, ds3, ds4⟩ := hsd
  obtain ⟨fs1', fs2', fs3', fs4'⟩ := hsf
  obtain ⟨⟨w0, w1⟩, w2⟩ := id hs1
  refine GCalls.body (N := 24) (rs := [.cell 6 32, .tmp 7]) Try.func9 rfl rfl rfl rfl (fun Qx hret hend => ?_)
  refine .forget (fr' := [(0, some _), (1, some _), (2, some _)]) ⟨rfl, rfl, rfl, trivial⟩ ?_
  have hle := GHeap.Le.refl H
  have base_hin := hin
  have base_hin1 := hin1
  have base_hin2 := hin2
  refine .seq (fun K1 hK1 => ?_)
  refine .region ?_
  refine .r rfl rfl rfl (.boxR rfl sz_37_E rfl) ?_
  rintro _ H3 ⟨g3, rfl, le3, ge3, at3⟩
  have nx_H3 := le3.1
  replace hle := hle.trans le3
  have lt_at3 := GHeap.lt_of_get at3
  replace hin := base_hin.mono hle
  replace hin1 := base_hin1.mono hle
  replace hin2 := base_hin2.mono hle
  have hb3 : Fun.At _ g3 0 d p := ⟨Mem.of_get at3, hin⟩
  obtain ⟨fs3, ft3, c103, c113, j13, j23⟩ := hb3.get
  have hm3 : MemN _ _ _ _ _ := ⟨rfl, hb3.1⟩
  have hi3 := hb3.2
  have hms3 : MemN _ _ _ _ _ := ⟨rfl, fs3.1⟩
  have his3 := fs3.2
  have hmt3 : MemN _ _ _ _ _ := ⟨rfl, ft3.1⟩
  have hit3 := ft3.2
  refine .r rfl rfl rfl (.boxR rfl sz_32_U rfl) ?_
  rintro _ H4 ⟨g4, rfl, le4, ge4, at4⟩
  have nx_H4 := le4.1
  replace hle := hle.trans le4
  replace at3 := le4.2 _ _ at3
  have lt_at4 := GHeap.lt_of_get at4
  replace hin := base_hin.mono hle
  replace hin1 := base_hin1.mono hle
  replace hin2 := base_hin2.mono hle
  clear hb3 fs3 ft3 c103 c113 j13 j23 hm3 hi3 hms3 his3 hmt3 hit3
  have hb3 : Fun.At _ g3 0 d p := ⟨Mem.of_get at3, hin⟩
  obtain ⟨fs3, ft3, c103, c113, j13, j23⟩ := hb3.get
  have hm3 : MemN _ _ _ _ _ := ⟨rfl, hb3.1⟩
  have hi3 := hb3.2
  have hms3 : MemN _ _ _ _ _ := ⟨rfl, fs3.1⟩
  have his3 := fs3.2
  have hmt3 : MemN _ _ _ _ _ := ⟨rfl, ft3.1⟩
  have hit3 := ft3.2
  have hb4 : Con.At _ g4 0 m q := ⟨Mem.of_get at4, hin1⟩
  obtain ⟨c04, c14, i14⟩ := hb4.get
  have hm4 : MemN _ _ _ _ _ := ⟨rfl, hb4.1⟩
  have hi4 := hb4.2
  refine .r rfl rfl rfl (.boxR rfl sz_37_E rfl) ?_
  rintro _ H5 ⟨g5, rfl, le5, ge5, at5⟩
  have nx_H5 := le5.1
  replace hle := hle.trans le5
  replace at3 := le5.2 _ _ at3
  replace at4 := le5.2 _ _ at4
  have lt_at5 := GHeap.lt_of_get at5
  replace hin := base_hin.mono hle
  replace hin1 := base_hin1.mono hle
  replace hin2 := base_hin2.mono hle
  clear hb3 fs3 ft3 c103 c113 j13 j23 hm3 hi3 hms3 his3 hmt3 hit3
  have hb3 : Fun.At _ g3 0 d p := ⟨Mem.of_get at3, hin⟩
  obtain ⟨fs3, ft3, c103, c113, j13, j23⟩ := hb3.get
  have hm3 : MemN _ _ _ _ _ := ⟨rfl, hb3.1⟩
  have hi3 := hb3.2
  have hms3 : MemN _ _ _ _ _ := ⟨rfl, fs3.1⟩
  have his3 := fs3.2
  have hmt3 : MemN _ _ _ _ _ := ⟨rfl, ft3.1⟩
  have hit3 := ft3.2
  clear hb4 c04 c14 i14 hm4 hi4
  have hb4 : Con.At _ g4 0 m q := ⟨Mem.of_get at4, hin1⟩
  obtain ⟨c04, c14, i14⟩ := hb4.get
  have hm4 : MemN _ _ _ _ _ := ⟨rfl, hb4.1⟩
  have hi4 := hb4.2
  have hb5 : Fun.At _ g5 0 f p' := ⟨Mem.of_get at5, hin2⟩
  obtain ⟨fs5, ft5, c105, c115, j15, j25⟩ := hb5.get
  have hm5 : MemN _ _ _ _ _ := ⟨rfl, hb5.1⟩
  have hi5 := hb5.2
  have hms5 : MemN _ _ _ _ _ := ⟨rfl, fs5.1⟩
  have his5 := fs5.2
  have hmt5 : MemN _ _ _ _ _ := ⟨rfl, ft5.1⟩
  have hit5 := ft5.2
  refine .r rfl rfl rfl (.allocR rfl ze_32_VCon rfl) ?_
  rintro _ H6 ⟨g6, rfl, le6, ge6, at6⟩
  have nx_H6 := le6.1
  replace hle := hle.trans le6
  replace at3 := le6.2 _ _ at3
  replace at4 := le6.2 _ _ at4
  replace at5 := le6.2 _ _ at5
  have lt_at6 := GHeap.lt_of_get at6
  replace hin := base_hin.mono hle
  replace hin1 := base_hin1.mono hle
  replace hin2 := base_hin2.mono hle
  clear hb3 fs3 ft3 c103 c113 j13 j23 hm3 hi3 hms3 his3 hmt3 hit3
  have hb3 : Fun.At _ g3 0 d p := ⟨Mem.of_get at3, hin⟩
  obtain ⟨fs3, ft3, c103, c113, j13, j23⟩ := hb3.get
  have hm3 : MemN _ _ _ _ _ := ⟨rfl, hb3.1⟩
  have hi3 := hb3.2
  have hms3 : MemN _ _ _ _ _ := ⟨rfl, fs3.1⟩
  have his3 := fs3.2
  have hmt3 : MemN _ _ _ _ _ := ⟨rfl, ft3.1⟩
  have hit3 := ft3.2
  clear hb4 c04 c14 i14 hm4 hi4
  have hb4 : Con.At _ g4 0 m q := ⟨Mem.of_get at4, hin1⟩
  obtain ⟨c04, c14, i14⟩ := hb4.get
  have hm4 : MemN _ _ _ _ _ := ⟨rfl, hb4.1⟩
  have hi4 := hb4.2
  clear hb5 fs5 ft5 c105 c115 j15 j25 hm5 hi5 hms5 his5 hmt5 hit5
  have hb5 : Fun.At _ g5 0 f p' := ⟨Mem.of_get at5, hin2⟩
  obtain ⟨fs5, ft5, c105, c115, j15, j25⟩ := hb5.get
  have hm5 : MemN _ _ _ _ _ := ⟨rfl, hb5.1⟩
  have hi5 := hb5.2
  have hms5 : MemN _ _ _ _ _ := ⟨rfl, fs5.1⟩
  have his5 := fs5.2
  have hmt5 : MemN _ _ _ _ _ := ⟨rfl, ft5.1⟩
  have hit5 := ft5.2
  refine .m rfl rfl rfl (.assign rfl) ?_
  refine .nil ?_
  refine hK1 _ _ ?_
  refine .seq (fun K2 hK2 => ?_)
  refine .seq (fun K3 hK3 => ?_)
  refine .region ?_
  refine .r rfl rfl rfl (.litR rfl sl_68_G ze_54_W rfl rfl (by omega) (by omega) rfl rfl) ?_
  rintro _ H8 ⟨g8, rfl, le8, ge8, at8⟩
  have nx_H8 := le8.1
  replace hle := hle.trans le8
  replace at3 := le8.2 _ _ at3
  replace at4 := le8.2 _ _ at4
  replace at5 := le8.2 _ _ at5
  replace at6 := le8.2 _ _ at6
  have lt_at8 := GHeap.lt_of_get at8
  replace hin := base_hin.mono hle
  replace hin1 := base_hin1.mono hle
  replace hin2 := base_hin2.mono hle
  clear hb3 fs3 ft3 c103 c113 j13 j23 hm3 hi3 hms3 his3 hmt3 hit3
  have hb3 : Fun.At _ g3 0 d p := ⟨Mem.of_get at3, hin⟩
  obtain ⟨fs3, ft3, c103, c113, j13, j23⟩ := hb3.get
  have hm3 : MemN _ _ _ _ _ := ⟨rfl, hb3.1⟩
  have hi3 := hb3.2
  have hms3 : MemN _ _ _ _ _ := ⟨rfl, fs3.1⟩
  have his3 := fs3.2
  have hmt3 : MemN _ _ _ _ _ := ⟨rfl, ft3.1⟩
  have hit3 := ft3.2
  clear hb4 c04 c14 i14 hm4 hi4
  have hb4 : Con.At _ g4 0 m q := ⟨Mem.of_get at4, hin1⟩
  obtain ⟨c04, c14, i14⟩ := hb4.get
  have hm4 : MemN _ _ _ _ _ := ⟨rfl, hb4.1⟩
  have hi4 := hb4.2
  clear hb5 fs5 ft5 c105 c115 j15 j25 hm5 hi5 hms5 his5 hmt5 hit5
  have hb5 : Fun.At _ g5 0 f p' := ⟨Mem.of_get at5, hin2⟩
  obtain ⟨fs5, ft5, c105, c115, j15, j25⟩ := hb5.get
  have hm5 : MemN _ _ _ _ _ := ⟨rfl, hb5.1⟩
  have hi5 := hb5.2
  have hms5 : MemN _ _ _ _ _ := ⟨rfl, fs5.1⟩
  have his5 := fs5.2
  have hmt5 : MemN _ _ _ _ _ := ⟨rfl, ft5.1⟩
  have hit5 := ft5.2
  refine .callQ rfl rfl rfl rfl @Try.call23 rfl (areFunctors2_c) ?_
  refine .m rfl rfl rfl (.not rfl) ?_
  refine .nil ?_
  refine hK3 _ _ ?_
  refine .cond rfl (fun h10 => ?_) (fun h10 => ?_)
  ·
   simp only [sps] at h10
   refine .seq (fun K4 hK4 => ?_)
   refine .region ?_
   refine .m rfl rfl rfl (.build bt_32_W rfl rfl rfl) ?_
   refine .r0 rfl rfl (.fillR rfl sz_32_U rfl rfl rfl rfl (by assumption) (by first | rfl | exact Nat.le_of_ble_eq_true rfl | simp)) ?_
   rintro _ H2001 ⟨rfl, st2001, at2001⟩
   have nx_H2001 := st2001.nx
   replace hle := hle.st st2001 (fun k hk => ⟨by omega, trivial⟩)
   replace at3 := st2001.same _ _ ⟨by omega, trivial⟩ at3
   replace at4 := st2001.same _ _ ⟨by omega, trivial⟩ at4
   replace at5 := st2001.same _ _ ⟨by omega, trivial⟩ at5
   replace at8 := st2001.same _ _ ⟨by omega, trivial⟩ at8
   have lt_at2001 := GHeap.lt_of_get at2001
   replace hin := base_hin.mono hle
   replace hin1 := base_hin1.mono hle
   replace hin2 := base_hin2.mono hle
   clear hb3 fs3 ft3 c103 c113 j13 j23 hm3 hi3 hms3 his3 hmt3 hit3
   have hb3 : Fun.At _ g3 0 d p := ⟨Mem.of_get at3, hin⟩
   obtain ⟨fs3, ft3, c103, c113, j13, j23⟩ := hb3.get
   have hm3 : MemN _ _ _ _ _ := ⟨rfl, hb3.1⟩
   have hi3 := hb3.2
   have hms3 : MemN _ _ _ _ _ := ⟨rfl, fs3.1⟩
   have his3 := fs3.2
   have hmt3 : MemN _ _ _ _ _ := ⟨rfl, ft3.1⟩
   have hit3 := ft3.2
   clear hb4 c04 c14 i14 hm4 hi4
   have hb4 : Con.At _ g4 0 m q := ⟨Mem.of_get at4, hin1⟩
   obtain ⟨c04, c14, i14⟩ := hb4.get
   have hm4 : MemN _ _ _ _ _ := ⟨rfl, hb4.1⟩
   have hi4 := hb4.2
   clear hb5 fs5 ft5 c105 c115 j15 j25 hm5 hi5 hms5 his5 hmt5 hit5
   have hb5 : Fun.At _ g5 0 f p' := ⟨Mem.of_get at5, hin2⟩
   obtain ⟨fs5, ft5, c105, c115, j15, j25⟩ := hb5.get
   have hm5 : MemN _ _ _ _ _ := ⟨rfl, hb5.1⟩
   have hi5 := hb5.2
   have hms5 : MemN _ _ _ _ _ := ⟨rfl, fs5.1⟩
   have his5 := fs5.2
   have hmt5 : MemN _ _ _ _ _ := ⟨rfl, ft5.1⟩
   have hit5 := ft5.2
   have mm2001 : MemN _ _ _ _ _ := ⟨rfl, Mem.of_get at2001⟩
   refine .m rfl rfl rfl (.assign rfl) ?_
   refine .nil ?_
   refine hK4 _ _ ?_
   refine .ret ?_
   -- leaf e1
   refine hret _ _ ?_
   refine ⟨_, _, _, _, _, rfl, ag_32_VCon, (by rfl), (Mem.of_get at2001), rfl, ?_⟩
   obtain ⟨e1, e2⟩ := imageCone_1 (m := m) h10
   rw [e1, e2]
   exact ⟨hle, ⟨none⟩, rfl, .inl ⟨rfl, rfl⟩⟩
  ·
   simp only [sps] at h10
   have hI := h10.1
   refine .skip ?_
   refine hK2 _ _ ?_
   refine .seq (fun K5 hK5 => ?_)
   refine .seq (fun K6 hK6 => ?_)
   refine .region ?_
   refine .m rfl rfl rfl (.loadM ag_32_VCon rfl ⟨rfl, Mem.of_get at4⟩) ?_
   refine .callQ rfl rfl rfl rfl @Try.call24 rfl (isCone_c) ?_
   refine .m rfl rfl rfl (.not rfl) ?_
   refine .m rfl rfl rfl (.move rfl) ?_
   refine .split (fun h15 => ?_) (fun h15 => ?_)
   ·
    try simp only [sps] at h15
    refine .sg rfl rfl rfl rfl rfl ?_
    refine .sg rfl rfl rfl rfl rfl ?_
    refine .sg rfl rfl rfl rfl rfl ?_
    refine .sg rfl rfl rfl rfl rfl ?_
    refine .m rfl rfl rfl (.pickT rfl rfl) ?_
    refine .nil ?_
    refine hK6 _ _ ?_
    refine .condT rfl ?_
    refine .seq (fun K7 hK7 => ?_)
    refine .region ?_
    refine .m rfl rfl rfl (.build bt_32_W rfl rfl rfl) ?_
    refine .r0 rfl rfl (.fillR rfl sz_32_U rfl rfl rfl rfl (by assumption) (by first | rfl | exact Nat.le_of_ble_eq_true rfl | simp)) ?_
    rintro _ H4001 ⟨rfl, st4001, at4001⟩
    have nx_H4001 := st4001.nx
    replace hle := hle.st st4001 (fun k hk => ⟨by omega, trivial⟩)
    replace at3 := st4001.same _ _ ⟨by omega, trivial⟩ at3
    replace at4 := st4001.same _ _ ⟨by omega, trivial⟩ at4
    replace at5 := st4001.same _ _ ⟨by omega, trivial⟩ at5
    replace at8 := st4001.same _ _ ⟨by omega, trivial⟩ at8
    have lt_at4001 := GHeap.lt_of_get at4001
    replace hin := base_hin.mono hle
    replace hin1 := base_hin1.mono hle
    replace hin2 := base_hin2.mono hle
    clear hb3 fs3 ft3 c103 c113 j13 j23 hm3 hi3 hms3 his3 hmt3 hit3
    have hb3 : Fun.At _ g3 0 d p := ⟨Mem.of_get at3, hin⟩
    obtain ⟨fs3, ft3, c103, c113, j13, j23⟩ := hb3.get
    have hm3 : MemN _ _ _ _ _ := ⟨rfl, hb3.1⟩
    have hi3 := hb3.2
    have hms3 : MemN _ _ _ _ _ := ⟨rfl, fs3.1⟩
    have his3 := fs3.2
    have hmt3 : MemN _ _ _ _ _ := ⟨rfl, ft3.1⟩
    have hit3 := ft3.2
    clear hb4 c04 c14 i14 hm4 hi4
    have hb4 : Con.At _ g4 0 m q := ⟨Mem.of_get at4, hin1⟩
    obtain ⟨c04, c14, i14⟩ := hb4.get
    have hm4 : MemN _ _ _ _ _ := ⟨rfl, hb4.1⟩
    have hi4 := hb4.2
    clear hb5 fs5 ft5 c105 c115 j15 j25 hm5 hi5 hms5 his5 hmt5 hit5
    have hb5 : Fun.At _ g5 0 f p' := ⟨Mem.of_get at5, hin2⟩
    obtain ⟨fs5, ft5, c105, c115, j15, j25⟩ := hb5.get
    have hm5 : MemN _ _ _ _ _ := ⟨rfl, hb5.1⟩
    have hi5 := hb5.2
    have hms5 : MemN _ _ _ _ _ := ⟨rfl, fs5.1⟩
    have his5 := fs5.2
    have hmt5 : MemN _ _ _ _ _ := ⟨rfl, ft5.1⟩
    have hit5 := ft5.2
    have mm4001 : MemN _ _ _ _ _ := ⟨rfl, Mem.of_get at4001⟩
    refine .m rfl rfl rfl (.assign rfl) ?_
    refine .nil ?_
    refine hK7 _ _ ?_
    refine .ret ?_
    -- leaf e2
    refine hret _ _ ?_
    refine ⟨_, _, _, _, _, rfl, ag_32_VCon, (by rfl), (Mem.of_get at4001), rfl, ?_⟩
    obtain ⟨e1, e2⟩ := imageCone_2 h10 (m := m) fun hh => h15 hh.1
    rw [e1, e2]
    exact ⟨hle, ⟨none⟩, rfl, .inl ⟨rfl, rfl⟩⟩
   ·
    simp only [sps] at h15
    refine .mg rfl rfl rfl rfl rfl (.fieldAddr fo_37_1_E rfl) ?_
    refine .mg rfl rfl rfl rfl rfl (.fieldAddr fo_37_0_E rfl) ?_
    refine .callQg rfl rfl rfl rfl rfl rfl @Try.call25 rfl (sameCategory_c) ?_
    refine .mg rfl rfl rfl rfl rfl (.not rfl) ?_
    refine .m rfl rfl rfl (.pickF rfl rfl) ?_
    refine .nil ?_
    refine hK6 _ _ ?_
    refine .cond rfl (fun h20 => ?_) (fun h20 => ?_)
    ·
     simp only [sps] at h20
     refine .seq (fun K8 hK8 => ?_)
     refine .region ?_
     refine .m rfl rfl rfl (.build bt_32_W rfl rfl rfl) ?_
     refine .r0 rfl rfl (.fillR rfl sz_32_U rfl rfl rfl rfl (by assumption) (by first | rfl | exact Nat.le_of_ble_eq_true rfl | simp)) ?_
     rintro _ H4001x2 ⟨rfl, st4001x2, at4001x2⟩
     have nx_H4001x2 := st4001x2.nx
     replace hle := hle.st st4001x2 (fun k hk => ⟨by omega, trivial⟩)
     replace at3 := st4001x2.same _ _ ⟨by omega, trivial⟩ at3
     replace at4 := st4001x2.same _ _ ⟨by omega, trivial⟩ at4
     replace at5 := st4001x2.same _ _ ⟨by omega, trivial⟩ at5
     replace at8 := st4001x2.same _ _ ⟨by omega, trivial⟩ at8
     have lt_at4001x2 := GHeap.lt_of_get at4001x2
     replace hin := base_hin.mono hle
     replace hin1 := base_hin1.mono hle
     replace hin2 := base_hin2.mono hle
     clear hb3 fs3 ft3 c103 c113 j13 j23 hm3 hi3 hms3 his3 hmt3 hit3
     have hb3 : Fun.At _ g3 0 d p := ⟨Mem.of_get at3, hin⟩
     obtain ⟨fs3, ft3, c103, c113, j13, j23⟩ := hb3.get
     have hm3 : MemN _ _ _ _ _ := ⟨rfl, hb3.1⟩
     have hi3 := hb3.2
     have hms3 : MemN _ _ _ _ _ := ⟨rfl, fs3.1⟩
     have his3 := fs3.2
     have hmt3 : MemN _ _ _ _ _ := ⟨rfl, ft3.1⟩
     have hit3 := ft3.2
     clear hb4 c04 c14 i14 hm4 hi4
     have hb4 : Con.At _ g4 0 m q := ⟨Mem.of_get at4, hin1⟩
     obtain ⟨c04, c14, i14⟩ := hb4.get
     have hm4 : MemN _ _ _ _ _ := ⟨rfl, hb4.1⟩
     have hi4 := hb4.2
     clear hb5 fs5 ft5 c105 c115 j15 j25 hm5 hi5 hms5 his5 hmt5 hit5
     have hb5 : Fun.At _ g5 0 f p' := ⟨Mem.of_get at5, hin2⟩
     obtain ⟨fs5, ft5, c105, c115, j15, j25⟩ := hb5.get
     have hm5 : MemN _ _ _ _ _ := ⟨rfl, hb5.1⟩
     have hi5 := hb5.2
     have hms5 : MemN _ _ _ _ _ := ⟨rfl, fs5.1⟩
     have his5 := fs5.2
     have hmt5 : MemN _ _ _ _ _ := ⟨rfl, ft5.1⟩
     have hit5 := ft5.2
     have mm4001x2 : MemN _ _ _ _ _ := ⟨rfl, Mem.of_get at4001x2⟩
     refine .m rfl rfl rfl (.assign rfl) ?_
     refine .nil ?_
     refine hK8 _ _ ?_
     refine .ret ?_
     -- leaf e3
     refine hret _ _ ?_
     refine ⟨_, _, _, _, _, rfl, ag_32_VCon, (by rfl), (Mem.of_get at4001x2), rfl, ?_⟩
     obtain ⟨e1, e2⟩ := imageCone_2 h10 (m := m) fun hh => h20 hh.2
     rw [e1, e2]
     exact ⟨hle, ⟨none⟩, rfl, .inl ⟨rfl, rfl⟩⟩
    ·
     simp only [sps] at h20
     have z1 := h15.ap
     have z2 := h10.2.2.2.ol
     have z3 := h10.2.2.2.al
     rw [← h20] at z2 z3
     have z4 := h15.lg
     rw [← z3] at z4
     refine .skip ?_
     refine hK5 _ _ ?_
     refine .seq (fun K9 hK9 => ?_)
     refine .region ?_
     refine .m rfl rfl rfl (.loadM ag_32_VCon rfl ⟨rfl, Mem.of_get at4⟩) ?_
     refine .call rfl rfl rfl rfl @Try.call26 rfl (imageCone_c) ?_
     rintro _ H23 ⟨le23, p23, rfl, v23⟩
     have nx_H23 := le23.1
     replace hle := hle.trans le23
     replace at3 := le23.2 _ _ at3
     replace at4 := le23.2 _ _ at4
     replace at5 := le23.2 _ _ at5
     replace at6 := le23.2 _ _ at6
     replace at8 := le23.2 _ _ at8
     have bs_v23 := v23
     have lv_v23 : Keep H8.next H23 H23 := fun _ _ _ h => h
     replace hin := base_hin.mono hle
     replace hin1 := base_hin1.mono hle
     replace hin2 := base_hin2.mono hle
     clear hb3 fs3 ft3 c103 c113 j13 j23 hm3 hi3 hms3 his3 hmt3 hit3
     have hb3 : Fun.At _ g3 0 d p := ⟨Mem.of_get at3, hin⟩
     obtain ⟨fs3, ft3, c103, c113, j13, j23⟩ := hb3.get
     have hm3 : MemN _ _ _ _ _ := ⟨rfl, hb3.1⟩
     have hi3 := hb3.2
     have hms3 : MemN _ _ _ _ _ := ⟨rfl, fs3.1⟩
     have his3 := fs3.2
     have hmt3 : MemN _ _ _ _ _ := ⟨rfl, ft3.1⟩
     have hit3 := ft3.2
     clear hb4 c04 c14 i14 hm4 hi4
     have hb4 : Con.At _ g4 0 m q := ⟨Mem.of_get at4, hin1⟩
     obtain ⟨c04, c14, i14⟩ := hb4.get
     have hm4 : MemN _ _ _ _ _ := ⟨rfl, hb4.1⟩
     have hi4 := hb4.2
     clear hb5 fs5 ft5 c105 c115 j15 j25 hm5 hi5 hms5 his5 hmt5 hit5
     have hb5 : Fun.At _ g5 0 f p' := ⟨Mem.of_get at5, hin2⟩
     obtain ⟨fs5, ft5, c105, c115, j15, j25⟩ := hb5.get
     have hm5 : MemN _ _ _ _ _ := ⟨rfl, hb5.1⟩
     have hi5 := hb5.2
     have hms5 : MemN _ _ _ _ _ := ⟨rfl, fs5.1⟩
     have his5 := fs5.2
     have hmt5 : MemN _ _ _ _ _ := ⟨rfl, ft5.1⟩
     have hit5 := ft5.2
     have i23 := v23.inn
     refine .r0 rfl rfl (.fillR rfl sz_32_U rfl rfl rfl rfl (by assumption) (by first | rfl | exact Nat.le_of_ble_eq_true rfl | simp)) ?_
     rintro _ H5002 ⟨rfl, st5002, at5002⟩
     have nx_H5002 := st5002.nx
     replace hle := hle.st st5002 (fun k hk => ⟨by omega, trivial⟩)
     replace at3 := st5002.same _ _ ⟨by omega, trivial⟩ at3
     replace at4 := st5002.same _ _ ⟨by omega, trivial⟩ at4
     replace at5 := st5002.same _ _ ⟨by omega, trivial⟩ at5
     replace at8 := st5002.same _ _ ⟨by omega, trivial⟩ at8
     replace lv_v23 := Keep.st lv_v23 st5002 (fun k hb hk => ⟨by omega, trivial⟩)
     replace v23 := bs_v23.keep lv_v23 (Nat.le_refl _)
     have lt_at5002 := GHeap.lt_of_get at5002
     replace hin := base_hin.mono hle
     replace hin1 := base_hin1.mono hle
     replace hin2 := base_hin2.mono hle
     clear hb3 fs3 ft3 c103 c113 j13 j23 hm3 hi3 hms3 his3 hmt3 hit3
     have hb3 : Fun.At _ g3 0 d p := ⟨Mem.of_get at3, hin⟩
     obtain ⟨fs3, ft3, c103, c113, j13, j23⟩ := hb3.get
     have hm3 : MemN _ _ _ _ _ := ⟨rfl, hb3.1⟩
     have hi3 := hb3.2
     have hms3 : MemN _ _ _ _ _ := ⟨rfl, fs3.1⟩
     have his3 := fs3.2
     have hmt3 : MemN _ _ _ _ _ := ⟨rfl, ft3.1⟩
     have hit3 := ft3.2
     clear hb4 c04 c14 i14 hm4 hi4
     have hb4 : Con.At _ g4 0 m q := ⟨Mem.of_get at4, hin1⟩
     obtain ⟨c04, c14, i14⟩ := hb4.get
     have hm4 : MemN _ _ _ _ _ := ⟨rfl, hb4.1⟩
     have hi4 := hb4.2
     clear hb5 fs5 ft5 c105 c115 j15 j25 hm5 hi5 hms5 his5 hmt5 hit5
     have hb5 : Fun.At _ g5 0 f p' := ⟨Mem.of_get at5, hin2⟩
     obtain ⟨fs5, ft5, c105, c115, j15, j25⟩ := hb5.get
     have hm5 : MemN _ _ _ _ _ := ⟨rfl, hb5.1⟩
     have hi5 := hb5.2
     have hms5 : MemN _ _ _ _ _ := ⟨rfl, fs5.1⟩
     have his5 := fs5.2
     have hmt5 : MemN _ _ _ _ _ := ⟨rfl, ft5.1⟩
     have hit5 := ft5.2
     clear i23
     have i23 := v23.inn
     have mm5002 : MemN _ _ _ _ _ := ⟨rfl, Mem.of_get at5002⟩
     refine .m rfl rfl rfl (.assign rfl) ?_
     refine .nil ?_
     refine hK9 _ _ ?_
     refine .ret ?_
     -- leaf e4
     refine hret _ _ ?_
     refine ⟨_, _, _, _, _, rfl, ag_32_VCon, (by rfl), (Mem.of_get at5002), rfl, ?_⟩
     obtain ⟨e1, e2⟩ := imageCone_3 h10 (m := m) ⟨h15, h20⟩
     rw [e1, e2]
     exact ⟨hle, p23, rfl, v23.keep (.of_le (.refl _)) (by omega)⟩
theorem specImageCone_c {d f : Fun} {p p' : FunP} {m : Con} {q : ConP} {H : GHeap} (hin : d.In H p := by assumption) (hin1 : m.In H q := by assumption) (hin2 : f.In H p' := by assumption) (hs : d.Small := by assumption) (hs1 : m.Small := by assumption) (hs2 : f.Small := by assumption) :
    GCalls Try.prog 6 [.agg (d.cells p).toArray, .agg (m.cells q).toArray, .agg (f.cells p').toArray] H (fun v H' => H.Le H' ∧ ∃ r, v = .tuple #[.agg ((imageConeR d m f).cells r).toArray, .int .i64 (imageConeC d m f)] ∧ ConR H.next H' (imageConeR d m f) r) := by
  have hsd := hs
  have hsf := hs2
  obtain ⟨ds1, ds2, ds3, ds4⟩ := hsd
  obtain ⟨fs1', fs2', fs3', fs4'⟩ := hsf
  obtain ⟨⟨w0, w1⟩, w2⟩ := id hs1
  refine GCalls.body (N := 42) (rs := [.cell 6 32, .tmp 7]) Try.func6 rfl rfl rfl rfl (fun Qx hret hend => ?_)
  refine .forget (fr' := [(0, some _), (1, some _), (2, some _)]) ⟨rfl, rfl, rfl, trivial⟩ ?_
  have hle := GHeap.Le.refl H
  have base_hin := hin
  have base_hin1 := hin1
  have base_hin2 := hin2
  refine .seq (fun K1 hK1 => ?_)
  refine .region ?_
  refine .r rfl rfl rfl (.boxR rfl sz_37_E rfl) ?_
  rintro _ H3 ⟨g3, rfl, le3, ge3, at3⟩
  have nx_H3 := le3.1
  replace hle := hle.trans le3
  have lt_at3 := GHeap.lt_of_get at3
  replace hin := base_hin.mono hle
  replace hin1 := base_hin1.mono hle
  replace hin2 := base_hin2.mono hle
  have hb3 : Fun.At _ g3 0 d p := ⟨Mem.of_get at3, hin⟩
  obtain ⟨fs3, ft3, c103, c113, j13, j23⟩ := hb3.get
  have hm3 : MemN _ _ _ _ _ := ⟨rfl, hb3.1⟩
  have hi3 := hb3.2
  have hms3 : MemN _ _ _ _ _ := ⟨rfl, fs3.1⟩
  have his3 := fs3.2
  have hmt3 : MemN _ _ _ _ _ := ⟨rfl, ft3.1⟩
  have hit3 := ft3.2
  refine .r rfl rfl rfl (.boxR rfl sz_32_U rfl) ?_
  rintro _ H4 ⟨g4, rfl, le4, ge4, at4⟩
  have nx_H4 := le4.1
  replace hle := hle.trans le4
  replace at3 := le4.2 _ _ at3
  have lt_at4 := GHeap.lt_of_get at4
  replace hin := base_hin.mono hle
  replace hin1 := base_hin1.mono hle
  replace hin2 := base_hin2.mono hle
  clear hb3 fs3 ft3 c103 c113 j13 j23 hm3 hi3 hms3 his3 hmt3 hit3
  have hb3 : Fun.At _ g3 0 d p := ⟨Mem.of_get at3, hin⟩
  obtain ⟨fs3, ft3, c103, c113, j13, j23⟩ := hb3.get
  have hm3 : MemN _ _ _ _ _ := ⟨rfl, hb3.1⟩
  have hi3 := hb3.2
  have hms3 : MemN _ _ _ _ _ := ⟨rfl, fs3.1⟩
  have his3 := fs3.2
  have hmt3 : MemN _ _ _ _ _ := ⟨rfl, ft3.1⟩
  have hit3 := ft3.2
  have hb4 : Con.At _ g4 0 m q := ⟨Mem.of_get at4, hin1⟩
  obtain ⟨c04, c14, i14⟩ := hb4.get
  have hm4 : MemN _ _ _ _ _ := ⟨rfl, hb4.1⟩
  have hi4 := hb4.2
  refine .r rfl rfl rfl (.boxR rfl sz_37_E rfl) ?_
  rintro _ H5 ⟨g5, rfl, le5, ge5, at5⟩
  have nx_H5 := le5.1
  replace hle := hle.trans le5
  replace at3 := le5.2 _ _ at3
  replace at4 := le5.2 _ _ at4
  have lt_at5 := GHeap.lt_of_get at5
  replace hin := base_hin.mono hle
  replace hin1 := base_hin1.mono hle
  replace hin2 := base_hin2.mono hle
  clear hb3 fs3 ft3 c103 c113 j13 j23 hm3 hi3 hms3 his3 hmt3 hit3
  have hb3 : Fun.At _ g3 0 d p := ⟨Mem.of_get at3, hin⟩
  obtain ⟨fs3, ft3, c103, c113, j13, j23⟩ := hb3.get
  have hm3 : MemN _ _ _ _ _ := ⟨rfl, hb3.1⟩
  have hi3 := hb3.2
  have hms3 : MemN _ _ _ _ _ := ⟨rfl, fs3.1⟩
  have his3 := fs3.2
  have hmt3 : MemN _ _ _ _ _ := ⟨rfl, ft3.1⟩
  have hit3 := ft3.2
  clear hb4 c04 c14 i14 hm4 hi4
  have hb4 : Con.At _ g4 0 m q := ⟨Mem.of_get at4, hin1⟩
  obtain ⟨c04, c14, i14⟩ := hb4.get
  have hm4 : MemN _ _ _ _ _ := ⟨rfl, hb4.1⟩
  have hi4 := hb4.2
  have hb5 : Fun.At _ g5 0 f p' := ⟨Mem.of_get at5, hin2⟩
  obtain ⟨fs5, ft5, c105, c115, j15, j25⟩ := hb5.get
  have hm5 : MemN _ _ _ _ _ := ⟨rfl, hb5.1⟩
  have hi5 := hb5.2
  have hms5 : MemN _ _ _ _ _ := ⟨rfl, fs5.1⟩
  have his5 := fs5.2
  have hmt5 : MemN _ _ _ _ _ := ⟨rfl, ft5.1⟩
  have hit5 := ft5.2
  refine .r rfl rfl rfl (.allocR rfl ze_32_VCon rfl) ?_
  rintro _ H6 ⟨g6, rfl, le6, ge6, at6⟩
  have nx_H6 := le6.1
  replace hle := hle.trans le6
  replace at3 := le6.2 _ _ at3
  replace at4 := le6.2 _ _ at4
  replace at5 := le6.2 _ _ at5
  have lt_at6 := GHeap.lt_of_get at6
  replace hin := base_hin.mono hle
  replace hin1 := base_hin1.mono hle
  replace hin2 := base_hin2.mono hle
  clear hb3 fs3 ft3 c103 c113 j13 j23 hm3 hi3 hms3 his3 hmt3 hit3
  have hb3 : Fun.At _ g3 0 d p := ⟨Mem.of_get at3, hin⟩
  obtain ⟨fs3, ft3, c103, c113, j13, j23⟩ := hb3.get
  have hm3 : MemN _ _ _ _ _ := ⟨rfl, hb3.1⟩
  have hi3 := hb3.2
  have hms3 : MemN _ _ _ _ _ := ⟨rfl, fs3.1⟩
  have his3 := fs3.2
  have hmt3 : MemN _ _ _ _ _ := ⟨rfl, ft3.1⟩
  have hit3 := ft3.2
  clear hb4 c04 c14 i14 hm4 hi4
  have hb4 : Con.At _ g4 0 m q := ⟨Mem.of_get at4, hin1⟩
  obtain ⟨c04, c14, i14⟩ := hb4.get
  have hm4 : MemN _ _ _ _ _ := ⟨rfl, hb4.1⟩
  have hi4 := hb4.2
  clear hb5 fs5 ft5 c105 c115 j15 j25 hm5 hi5 hms5 his5 hmt5 hit5
  have hb5 : Fun.At _ g5 0 f p' := ⟨Mem.of_get at5, hin2⟩
  obtain ⟨fs5, ft5, c105, c115, j15, j25⟩ := hb5.get
  have hm5 : MemN _ _ _ _ _ := ⟨rfl, hb5.1⟩
  have hi5 := hb5.2
  have hms5 : MemN _ _ _ _ _ := ⟨rfl, fs5.1⟩
  have his5 := fs5.2
  have hmt5 : MemN _ _ _ _ _ := ⟨rfl, ft5.1⟩
  have hit5 := ft5.2
  refine .m rfl rfl rfl (.assign rfl) ?_
  refine .nil ?_
  refine hK1 _ _ ?_
  refine .seq (fun K2 hK2 => ?_)
  refine .seq (fun K3 hK3 => ?_)
  refine .region ?_
  refine .m rfl rfl rfl (.loadM ag_37_E rfl ⟨rfl, Mem.of_get at3⟩) ?_
  refine .callQ rfl rfl rfl rfl @Try.call17 rfl (l06Is_c) ?_
  refine .m rfl rfl rfl (.not rfl) ?_
  refine .m rfl rfl rfl (.move rfl) ?_
  refine .split (fun h11 => ?_) (fun h11 => ?_)
  ·
   try simp only [sps] at h11
   refine .sg rfl rfl rfl rfl rfl ?_
   refine .sg rfl rfl rfl rfl rfl ?_
   refine .sg rfl rfl rfl rfl rfl ?_
   refine .m rfl rfl rfl (.pickT rfl rfl) ?_
   refine .nil ?_
   refine hK3 _ _ ?_
   refine .condT rfl ?_
   refine .seq (fun K4 hK4 => ?_)
   refine .region ?_
   refine .m rfl rfl rfl (.build bt_32_W rfl rfl rfl) ?_
   refine .r0 rfl rfl (.fillR rfl sz_32_U rfl rfl rfl rfl (by assumption) (by first | rfl | exact Nat.le_of_ble_eq_true rfl | simp)) ?_
   rintro _ H2001 ⟨rfl, st2001, at2001⟩
   have nx_H2001 := st2001.nx
   replace hle := hle.st st2001 (fun k hk => ⟨by omega, trivial⟩)
   replace at3 := st2001.same _ _ ⟨by omega, trivial⟩ at3
   replace at4 := st2001.same _ _ ⟨by omega, trivial⟩ at4
   replace at5 := st2001.same _ _ ⟨by omega, trivial⟩ at5
   have lt_at2001 := GHeap.lt_of_get at2001
   replace hin := base_hin.mono hle
   replace hin1 := base_hin1.mono hle
   replace hin2 := base_hin2.mono hle
   clear hb3 fs3 ft3 c103 c113 j13 j23 hm3 hi3 hms3 his3 hmt3 hit3
   have hb3 : Fun.At _ g3 0 d p := ⟨Mem.of_get at3, hin⟩
   obtain ⟨fs3, ft3, c103, c113, j13, j23⟩ := hb3.get
   have hm3 : MemN _ _ _ _ _ := ⟨rfl, hb3.1⟩
   have hi3 := hb3.2
   have hms3 : MemN _ _ _ _ _ := ⟨rfl, fs3.1⟩
   have his3 := fs3.2
   have hmt3 : MemN _ _ _ _ _ := ⟨rfl, ft3.1⟩
   have hit3 := ft3.2
   clear hb4 c04 c14 i14 hm4 hi4
   have hb4 : Con.At _ g4 0 m q := ⟨Mem.of_get at4, hin1⟩
   obtain ⟨c04, c14, i14⟩ := hb4.get
   have hm4 : MemN _ _ _ _ _ := ⟨rfl, hb4.1⟩
   have hi4 := hb4.2
   clear hb5 fs5 ft5 c105 c115 j15 j25 hm5 hi5 hms5 his5 hmt5 hit5
   have hb5 : Fun.At _ g5 0 f p' := ⟨Mem.of_get at5, hin2⟩
   obtain ⟨fs5, ft5, c105, c115, j15, j25⟩ := hb5.get
   have hm5 : MemN _ _ _ _ _ := ⟨rfl, hb5.1⟩
   have hi5 := hb5.2
   have hms5 : MemN _ _ _ _ _ := ⟨rfl, fs5.1⟩
   have his5 := fs5.2
   have hmt5 : MemN _ _ _ _ _ := ⟨rfl, ft5.1⟩
   have hit5 := ft5.2
   have mm2001 : MemN _ _ _ _ _ := ⟨rfl, Mem.of_get at2001⟩
   refine .m rfl rfl rfl (.assign rfl) ?_
   refine .nil ?_
   refine hK4 _ _ ?_
   refine .ret ?_
   -- leaf e1
   refine hret _ _ ?_
   refine ⟨_, _, _, _, _, rfl, ag_32_VCon, (by rfl), (Mem.of_get at2001), rfl, ?_⟩
   obtain ⟨e1, e2⟩ := imageCone_1 (m := m) (d := d) (f := f) fun hh => h11 hh.1
   rw [e1, e2]
   exact ⟨hle, ⟨none⟩, rfl, .inl ⟨rfl, rfl⟩⟩
  ·
   try simp only [sps] at h11
   refine .mg rfl rfl rfl rfl rfl (.loadM ag_37_E rfl ⟨rfl, Mem.of_get at5⟩) ?_
   refine .callQg rfl rfl rfl rfl rfl rfl @Try.call17 rfl (l06Is_c) ?_
   refine .mg rfl rfl rfl rfl rfl (.not rfl) ?_
   refine .m rfl rfl rfl (.pickF rfl rfl) ?_
   refine .nil ?_
   refine hK3 _ _ ?_
   refine .cond rfl (fun h15 => ?_) (fun h15 => ?_)
   ·
    try simp only [sps] at h15
    refine .seq (fun K5 hK5 => ?_)
    refine .region ?_
    refine .m rfl rfl rfl (.build bt_32_W rfl rfl rfl) ?_
    refine .r0 rfl rfl (.fillR rfl sz_32_U rfl rfl rfl rfl (by assumption) (by first | rfl | exact Nat.le_of_ble_eq_true rfl | simp)) ?_
    rintro _ H2001x2 ⟨rfl, st2001x2, at2001x2⟩
    have nx_H2001x2 := st2001x2.nx
    replace hle := hle.st st2001x2 (fun k hk => ⟨by omega, trivial⟩)
    replace at3 := st2001x2.same _ _ ⟨by omega, trivial⟩ at3
    replace at4 := st2001x2.same _ _ ⟨by omega, trivial⟩ at4
    replace at5 := st2001x2.same _ _ ⟨by omega, trivial⟩ at5
    have lt_at2001x2 := GHeap.lt_of_get at2001x2
    replace hin := base_hin.mono hle
    replace hin1 := base_hin1.mono hle
    replace hin2 := base_hin2.mono hle
    clear hb3 fs3 ft3 c103 c113 j13 j23 hm3 hi3 hms3 his3 hmt3 hit3
    have hb3 : Fun.At _ g3 0 d p := ⟨Mem.of_get at3, hin⟩
    obtain ⟨fs3, ft3, c103, c113, j13, j23⟩ := hb3.get
    have hm3 : MemN _ _ _ _ _ := ⟨rfl, hb3.1⟩
    have hi3 := hb3.2
    have hms3 : MemN _ _ _ _ _ := ⟨rfl, fs3.1⟩
    have his3 := fs3.2
    have hmt3 : MemN _ _ _ _ _ := ⟨rfl, ft3.1⟩
    have hit3 := ft3.2
    clear hb4 c04 c14 i14 hm4 hi4
    have hb4 : Con.At _ g4 0 m q := ⟨Mem.of_get at4, hin1⟩
    obtain ⟨c04, c14, i14⟩ := hb4.get
    have hm4 : MemN _ _ _ _ _ := ⟨rfl, hb4.1⟩
    have hi4 := hb4.2
    clear hb5 fs5 ft5 c105 c115 j15 j25 hm5 hi5 hms5 his5 hmt5 hit5
    have hb5 : Fun.At _ g5 0 f p' := ⟨Mem.of_get at5, hin2⟩
    obtain ⟨fs5, ft5, c105, c115, j15, j25⟩ := hb5.get
    have hm5 : MemN _ _ _ _ _ := ⟨rfl, hb5.1⟩
    have hi5 := hb5.2
    have hms5 : MemN _ _ _ _ _ := ⟨rfl, fs5.1⟩
    have his5 := fs5.2
    have hmt5 : MemN _ _ _ _ _ := ⟨rfl, ft5.1⟩
    have hit5 := ft5.2
    have mm2001x2 : MemN _ _ _ _ _ := ⟨rfl, Mem.of_get at2001x2⟩
    refine .m rfl rfl rfl (.assign rfl) ?_
    refine .nil ?_
    refine hK5 _ _ ?_
    refine .ret ?_
    -- leaf e2
    refine hret _ _ ?_
    refine ⟨_, _, _, _, _, rfl, ag_32_VCon, (by rfl), (Mem.of_get at2001x2), rfl, ?_⟩
    obtain ⟨e1, e2⟩ := imageCone_1 (m := m) (d := d) (f := f) fun hh => h15 hh.2
    rw [e1, e2]
    exact ⟨hle, ⟨none⟩, rfl, .inl ⟨rfl, rfl⟩⟩
   ·
    simp only [sps] at h15
    have hI := h11
    refine .skip ?_
    refine hK2 _ _ ?_
    refine .seq (fun K6 hK6 => ?_)
    refine .seq (fun K7 hK7 => ?_)
    refine .region ?_
    refine .m rfl rfl rfl (.loadM ag_37_E rfl ⟨rfl, Mem.of_get at3⟩) ?_
    refine .m rfl rfl rfl (.loadM ag_32_VCon rfl ⟨rfl, Mem.of_get at4⟩) ?_
    refine .callQ rfl rfl rfl rfl @Try.call18 rfl (l12Cone_c) ?_
    refine .m rfl rfl rfl (.not rfl) ?_
    refine .m rfl rfl rfl (.move rfl) ?_
    refine .split (fun h21 => ?_) (fun h21 => ?_)
    ·
     try simp only [sps] at h21
     refine .sg rfl rfl rfl rfl rfl ?_
     refine .sg rfl rfl rfl rfl rfl ?_
     refine .sg rfl rfl rfl rfl rfl ?_
     refine .sg rfl rfl rfl rfl rfl ?_
     refine .sg rfl rfl rfl rfl rfl ?_
     refine .sg rfl rfl rfl rfl rfl ?_
     refine .m rfl rfl rfl (.pickT rfl rfl) ?_
     refine .nil ?_
     refine hK7 _ _ ?_
     refine .condT rfl ?_
     refine .seq (fun K8 hK8 => ?_)
     refine .region ?_
     refine .m rfl rfl rfl (.build bt_32_W rfl rfl rfl) ?_
     refine .r0 rfl rfl (.fillR rfl sz_32_U rfl rfl rfl rfl (by assumption) (by first | rfl | exact Nat.le_of_ble_eq_true rfl | simp)) ?_
     rintro _ H4001 ⟨rfl, st4001, at4001⟩
     have nx_H4001 := st4001.nx
     replace hle := hle.st st4001 (fun k hk => ⟨by omega, trivial⟩)
     replace at3 := st4001.same _ _ ⟨by omega, trivial⟩ at3
     replace at4 := st4001.same _ _ ⟨by omega, trivial⟩ at4
     replace at5 := st4001.same _ _ ⟨by omega, trivial⟩ at5
     have lt_at4001 := GHeap.lt_of_get at4001
     replace hin := base_hin.mono hle
     replace hin1 := base_hin1.mono hle
     replace hin2 := base_hin2.mono hle
     clear hb3 fs3 ft3 c103 c113 j13 j23 hm3 hi3 hms3 his3 hmt3 hit3
     have hb3 : Fun.At _ g3 0 d p := ⟨Mem.of_get at3, hin⟩
     obtain ⟨fs3, ft3, c103, c113, j13, j23⟩ := hb3.get
     have hm3 : MemN _ _ _ _ _ := ⟨rfl, hb3.1⟩
     have hi3 := hb3.2
     have hms3 : MemN _ _ _ _ _ := ⟨rfl, fs3.1⟩
     have his3 := fs3.2
     have hmt3 : MemN _ _ _ _ _ := ⟨rfl, ft3.1⟩
     have hit3 := ft3.2
     clear hb4 c04 c14 i14 hm4 hi4
     have hb4 : Con.At _ g4 0 m q := ⟨Mem.of_get at4, hin1⟩
     obtain ⟨c04, c14, i14⟩ := hb4.get
     have hm4 : MemN _ _ _ _ _ := ⟨rfl, hb4.1⟩
     have hi4 := hb4.2
     clear hb5 fs5 ft5 c105 c115 j15 j25 hm5 hi5 hms5 his5 hmt5 hit5
     have hb5 : Fun.At _ g5 0 f p' := ⟨Mem.of_get at5, hin2⟩
     obtain ⟨fs5, ft5, c105, c115, j15, j25⟩ := hb5.get
     have hm5 : MemN _ _ _ _ _ := ⟨rfl, hb5.1⟩
     have hi5 := hb5.2
     have hms5 : MemN _ _ _ _ _ := ⟨rfl, fs5.1⟩
     have his5 := fs5.2
     have hmt5 : MemN _ _ _ _ _ := ⟨rfl, ft5.1⟩
     have hit5 := ft5.2
     have mm4001 : MemN _ _ _ _ _ := ⟨rfl, Mem.of_get at4001⟩
     refine .m rfl rfl rfl (.assign rfl) ?_
     refine .nil ?_
     refine hK8 _ _ ?_
     refine .ret ?_
     -- leaf e3
     refine hret _ _ ?_
     refine ⟨_, _, _, _, _, rfl, ag_32_VCon, (by rfl), (Mem.of_get at4001), rfl, ?_⟩
     obtain ⟨e1, e2⟩ := imageCone_2 (m := m) ⟨h11, h15⟩ fun hh => h21 hh.1
     rw [e1, e2]
     exact ⟨hle, ⟨none⟩, rfl, .inl ⟨rfl, rfl⟩⟩
    ·
     simp only [sps] at h21
     refine .mg rfl rfl rfl rfl rfl (.fieldAddr fo_37_1_E rfl) ?_
     refine .mg rfl rfl rfl rfl rfl (.loadM ag_35_D rfl (by assumption)) ?_
     refine .mg rfl rfl rfl rfl rfl (.fieldAddr fo_37_0_E rfl) ?_
     refine .mg rfl rfl rfl rfl rfl (.loadM ag_35_D rfl (by assumption)) ?_
     refine .callQg rfl rfl rfl rfl rfl rfl @Try.call19 rfl (l02Same_c) ?_
     refine .mg rfl rfl rfl rfl rfl (.not rfl) ?_
     refine .m rfl rfl rfl (.pickF rfl rfl) ?_
     refine .nil ?_
     refine hK7 _ _ ?_
     refine .cond rfl (fun h28 => ?_) (fun h28 => ?_)
     ·
      try simp only [sps] at h28
      refine .seq (fun K9 hK9 => ?_)
      refine .region ?_
      refine .m rfl rfl rfl (.build bt_32_W rfl rfl rfl) ?_
      refine .r0 rfl rfl (.fillR rfl sz_32_U rfl rfl rfl rfl (by assumption) (by first | rfl | exact Nat.le_of_ble_eq_true rfl | simp)) ?_
      rintro _ H4001x2 ⟨rfl, st4001x2, at4001x2⟩
      have nx_H4001x2 := st4001x2.nx
      replace hle := hle.st st4001x2 (fun k hk => ⟨by omega, trivial⟩)
      replace at3 := st4001x2.same _ _ ⟨by omega, trivial⟩ at3
      replace at4 := st4001x2.same _ _ ⟨by omega, trivial⟩ at4
      replace at5 := st4001x2.same _ _ ⟨by omega, trivial⟩ at5
      have lt_at4001x2 := GHeap.lt_of_get at4001x2
      replace hin := base_hin.mono hle
      replace hin1 := base_hin1.mono hle
      replace hin2 := base_hin2.mono hle
      clear hb3 fs3 ft3 c103 c113 j13 j23 hm3 hi3 hms3 his3 hmt3 hit3
      have hb3 : Fun.At _ g3 0 d p := ⟨Mem.of_get at3, hin⟩
      obtain ⟨fs3, ft3, c103, c113, j13, j23⟩ := hb3.get
      have hm3 : MemN _ _ _ _ _ := ⟨rfl, hb3.1⟩
      have hi3 := hb3.2
      have hms3 : MemN _ _ _ _ _ := ⟨rfl, fs3.1⟩
      have his3 := fs3.2
      have hmt3 : MemN _ _ _ _ _ := ⟨rfl, ft3.1⟩
      have hit3 := ft3.2
      clear hb4 c04 c14 i14 hm4 hi4
      have hb4 : Con.At _ g4 0 m q := ⟨Mem.of_get at4, hin1⟩
      obtain ⟨c04, c14, i14⟩ := hb4.get
      have hm4 : MemN _ _ _ _ _ := ⟨rfl, hb4.1⟩
      have hi4 := hb4.2
      clear hb5 fs5 ft5 c105 c115 j15 j25 hm5 hi5 hms5 his5 hmt5 hit5
      have hb5 : Fun.At _ g5 0 f p' := ⟨Mem.of_get at5, hin2⟩
      obtain ⟨fs5, ft5, c105, c115, j15, j25⟩ := hb5.get
      have hm5 : MemN _ _ _ _ _ := ⟨rfl, hb5.1⟩
      have hi5 := hb5.2
      have hms5 : MemN _ _ _ _ _ := ⟨rfl, fs5.1⟩
      have his5 := fs5.2
      have hmt5 : MemN _ _ _ _ _ := ⟨rfl, ft5.1⟩
      have hit5 := ft5.2
      have mm4001x2 : MemN _ _ _ _ _ := ⟨rfl, Mem.of_get at4001x2⟩
      refine .m rfl rfl rfl (.assign rfl) ?_
      refine .nil ?_
      refine hK9 _ _ ?_
      refine .ret ?_
      -- leaf e4
      refine hret _ _ ?_
      refine ⟨_, _, _, _, _, rfl, ag_32_VCon, (by rfl), (Mem.of_get at4001x2), rfl, ?_⟩
      obtain ⟨e1, e2⟩ := imageCone_2 (m := m) ⟨h11, h15⟩ fun hh => h28 hh.2
      rw [e1, e2]
      exact ⟨hle, ⟨none⟩, rfl, .inl ⟨rfl, rfl⟩⟩
     ·
      simp only [sps] at h28
      have z1 := h21.ap
      have z2 := h15.2.2.ol
      have z3 := h15.2.2.al
      rw [← h28] at z2 z3
      have z4 := h21.lg
      rw [← z3] at z4
      refine .skip ?_
      refine hK6 _ _ ?_
      refine .seq (fun K10 hK10 => ?_)
      refine .regionD mixed_orders_B (.q 0 (.q 1 (.q 2 (.q 3 (.q 4 (.q 5 (.q 6 (.q 7 (.q 8 (.q 9 (.c 10 1 (.q 11 (.c 12 0 (.q 13 (.done))))))))))))))) (by kernel_rfl) ?_
      refine .m rfl rfl rfl rfl (.refl _) (.fieldAddr fo_37_2_E rfl) ?_
      refine .m rfl rfl rfl rfl (.refl _) (.load on_22_B rfl (by assumption)) ?_
      refine .m rfl rfl rfl rfl (.refl _) (.fieldAddr fo_32_0_VCon rfl) ?_
      refine .m rfl rfl rfl rfl (.refl _) (.load on_2_A rfl (by assumption)) ?_
      refine .m rfl rfl rfl rfl (.refl _) (.idx1 sl_22_A (by assumption) rfl rfl (by omega) (by omega)) ?_
      refine .m rfl rfl rfl rfl (.refl _) (.loadI on_2_A (by assumption) rfl (by omega)) ?_
      refine .m rfl rfl rfl rfl (.refl _) (.fieldAddr fo_32_1_U rfl) ?_
      refine .m rfl rfl rfl rfl (.refl _) (.load on_22_B rfl (by assumption)) ?_
      refine .m rfl rfl rfl rfl (.refl _) (.fieldAddr fo_37_3_E rfl) ?_
      refine .m rfl rfl rfl rfl (.refl _) (.load on_22_B rfl (by assumption)) ?_
      refine .call1 rfl rfl rfl rfl rfl @Try.call20 rfl (l01Then_c) ?_
      rintro _ H40 ⟨le40, g40, rfl, at40, ge40⟩
      have hbl := le40
      refine ⟨hbl, ?_⟩
      have nx_H40 := le40.1
      replace hle := hle.trans le40
      replace at3 := le40.2 _ _ at3
      replace at4 := le40.2 _ _ at4
      replace at5 := le40.2 _ _ at5
      replace at6 := le40.2 _ _ at6
      have lt_at40 := GHeap.lt_of_get at40
      replace hin := base_hin.mono hle
      replace hin1 := base_hin1.mono hle
      replace hin2 := base_hin2.mono hle
      clear hb3 fs3 ft3 c103 c113 j13 j23 hm3 hi3 hms3 his3 hmt3 hit3
      have hb3 : Fun.At _ g3 0 d p := ⟨Mem.of_get at3, hin⟩
      obtain ⟨fs3, ft3, c103, c113, j13, j23⟩ := hb3.get
      have hm3 : MemN _ _ _ _ _ := ⟨rfl, hb3.1⟩
      have hi3 := hb3.2
      have hms3 : MemN _ _ _ _ _ := ⟨rfl, fs3.1⟩
      have his3 := fs3.2
      have hmt3 : MemN _ _ _ _ _ := ⟨rfl, ft3.1⟩
      have hit3 := ft3.2
      clear hb4 c04 c14 i14 hm4 hi4
      have hb4 : Con.At _ g4 0 m q := ⟨Mem.of_get at4, hin1⟩
      obtain ⟨c04, c14, i14⟩ := hb4.get
      have hm4 : MemN _ _ _ _ _ := ⟨rfl, hb4.1⟩
      have hi4 := hb4.2
      clear hb5 fs5 ft5 c105 c115 j15 j25 hm5 hi5 hms5 his5 hmt5 hit5
      have hb5 : Fun.At _ g5 0 f p' := ⟨Mem.of_get at5, hin2⟩
      obtain ⟨fs5, ft5, c105, c115, j15, j25⟩ := hb5.get
      have hm5 : MemN _ _ _ _ _ := ⟨rfl, hb5.1⟩
      have hi5 := hb5.2
      have hms5 : MemN _ _ _ _ _ := ⟨rfl, fs5.1⟩
      have his5 := fs5.2
      have hmt5 : MemN _ _ _ _ _ := ⟨rfl, ft5.1⟩
      have hit5 := ft5.2
      have i40 := Ints.of_get at40
      refine .m rfl rfl rfl rfl hbl (.build bt_32_W rfl rfl rfl) ?_
      refine .r0 rfl rfl rfl (.fillR rfl sz_32_U rfl rfl rfl rfl (by assumption) (by first | rfl | exact Nat.le_of_ble_eq_true rfl | simp)) ?_
      rintro _ H5012 ⟨rfl, st5012, at5012⟩
      have nx_H5012 := st5012.nx
      replace hle := hle.st st5012 (fun k hk => ⟨by omega, trivial⟩)
      replace at3 := st5012.same _ _ ⟨by omega, trivial⟩ at3
      replace at4 := st5012.same _ _ ⟨by omega, trivial⟩ at4
      replace at5 := st5012.same _ _ ⟨by omega, trivial⟩ at5
      replace at40 := st5012.same _ _ ⟨by omega, trivial⟩ at40
      have lt_at5012 := GHeap.lt_of_get at5012
      replace hin := base_hin.mono hle
      replace hin1 := base_hin1.mono hle
      replace hin2 := base_hin2.mono hle
      clear hb3 fs3 ft3 c103 c113 j13 j23 hm3 hi3 hms3 his3 hmt3 hit3
      have hb3 : Fun.At _ g3 0 d p := ⟨Mem.of_get at3, hin⟩
      obtain ⟨fs3, ft3, c103, c113, j13, j23⟩ := hb3.get
      have hm3 : MemN _ _ _ _ _ := ⟨rfl, hb3.1⟩
      have hi3 := hb3.2
      have hms3 : MemN _ _ _ _ _ := ⟨rfl, fs3.1⟩
      have his3 := fs3.2
      have hmt3 : MemN _ _ _ _ _ := ⟨rfl, ft3.1⟩
      have hit3 := ft3.2
      clear hb4 c04 c14 i14 hm4 hi4
      have hb4 : Con.At _ g4 0 m q := ⟨Mem.of_get at4, hin1⟩
      obtain ⟨c04, c14, i14⟩ := hb4.get
      have hm4 : MemN _ _ _ _ _ := ⟨rfl, hb4.1⟩
      have hi4 := hb4.2
      clear hb5 fs5 ft5 c105 c115 j15 j25 hm5 hi5 hms5 his5 hmt5 hit5
      have hb5 : Fun.At _ g5 0 f p' := ⟨Mem.of_get at5, hin2⟩
      obtain ⟨fs5, ft5, c105, c115, j15, j25⟩ := hb5.get
      have hm5 : MemN _ _ _ _ _ := ⟨rfl, hb5.1⟩
      have hi5 := hb5.2
      have hms5 : MemN _ _ _ _ _ := ⟨rfl, fs5.1⟩
      have his5 := fs5.2
      have hmt5 : MemN _ _ _ _ _ := ⟨rfl, ft5.1⟩
      have hit5 := ft5.2
      clear i40
      have i40 := Ints.of_get at40
      have mm5012 : MemN _ _ _ _ _ := ⟨rfl, Mem.of_get at5012⟩
      refine .m rfl rfl rfl rfl (.refl _) (.assign rfl) ?_
      refine .done ?_
      refine hK10 _ _ ?_
      refine .ret ?_
      -- leaf e5
      refine hret _ _ ?_
      refine ⟨_, _, _, _, _, rfl, ag_32_VCon, (by rfl), (Mem.of_get at5012), rfl, ?_⟩
      obtain ⟨e1, e2⟩ := imageCone_3 (m := m) ⟨h11, h15⟩ ⟨h21, h28⟩
      rw [e1, e2]
      exact ⟨hle, ⟨some ⟨g40, 0, none⟩⟩, by simp only [Fun.image, Con.cells, length_thenL]; rfl, .inr ⟨g40, _, rfl, by omega, at40⟩⟩
end Go.Proofs.Ytgjicdipcofgcaa
