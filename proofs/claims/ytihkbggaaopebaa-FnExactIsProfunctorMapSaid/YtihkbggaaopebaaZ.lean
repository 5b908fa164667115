/- Maps of profunctors. No condition but those of each statement. -/
import Derived.Test.YtihkbggaaopebaaT
namespace Go.Proofs.Ytihkbggaaopebaa
open Go Go.GL Go.RowKit Go.Proofs
theorem ag_28_Z : aggT Try.prog 28 = some 13 := by kernel_rfl
theorem bo_4_Z : isBoolT Try.prog 4 = true := by kernel_rfl
theorem parallelProfunctors_c {g o g' o' : Nat} {m n : Prof} {p q : ProfP} {H : GHeap} (h : Prof.At H g o m p := by assumption) (h' : Prof.At H g' o' n q := by assumption) (hs : m.Small := by assumption) (hs' : n.Small := by assumption) :
    GCalls Try.prog 34 [.pointer (some ⟨g, o, none⟩), .pointer (some ⟨g', o', none⟩)] H (Ret (.int .i64 (m.code2 n)) H) := by
  refine GCalls.ret rfl ?_
  have hs1 := hs
  obtain ⟨w1, w2, _⟩ := hs1
  have hs1' := hs'
  obtain ⟨w1', w2', _⟩ := hs1'
  refine GCalls.body (N := 31) (rs := [.tmp 4]) Try.func34 rfl rfl rfl rfl (fun Qx hret hend => ?_)
  refine .forget (fr' := [(0, some _), (1, some _)]) ⟨rfl, rfl, trivial⟩ ?_
  have hle := GHeap.Le.refl H
  have base_h := h
  have base_h' := h'
  obtain ⟨fs, ft, c10, c11, c12, i2, i3, i4⟩ := h.get
  have hm : MemN _ _ _ _ _ := ⟨rfl, h.1⟩
  have hi := h.2
  have hms : MemN _ _ _ _ _ := ⟨rfl, fs.1⟩
  have his := fs.2
  have hmt : MemN _ _ _ _ _ := ⟨rfl, ft.1⟩
  have hit := ft.2
  obtain ⟨fsn, ftn, c10n, c11n, c12n, i2n, i3n, i4n⟩ := h'.get
  have hmn : MemN _ _ _ _ _ := ⟨rfl, h'.1⟩
  have hin := h'.2
  have hmsn : MemN _ _ _ _ _ := ⟨rfl, fsn.1⟩
  have hisn := fsn.2
  have hmtn : MemN _ _ _ _ _ := ⟨rfl, ftn.1⟩
  have hitn := ftn.2
  refine .seq (fun K1 hK1 => ?_)
  refine .region ?_
  refine .m rfl rfl rfl (.assign rfl) ?_
  refine .nil ?_
  refine hK1 _ _ ?_
  refine .seq (fun K2 hK2 => ?_)
  refine .seq (fun K3 hK3 => ?_)
  refine .region ?_
  refine .m rfl rfl rfl (.move rfl) ?_
  refine .callQ rfl rfl rfl rfl @Try.call23 rfl (isProfunctor_c) ?_
  refine .m rfl rfl rfl (.not rfl) ?_
  refine .m rfl rfl rfl (.move rfl) ?_
  refine .split (fun h8 => ?_) (fun h8 => ?_)
  ·
   try simp only [sps] at h8
   refine .sg rfl rfl rfl rfl rfl ?_
   refine .sg rfl rfl rfl rfl rfl ?_
   refine .sg rfl rfl rfl rfl rfl ?_
   refine .m rfl rfl rfl (.pickT rfl rfl) ?_
   refine .nil ?_
   refine hK3 _ _ ?_
   refine .condT rfl ?_
   refine .seq (fun K4 hK4 => ?_)
   refine .region ?_
   refine .m rfl rfl rfl (.assign rfl) ?_
   refine .nil ?_
   refine hK4 _ _ ?_
   refine .ret ?_
   -- leaf e1
   refine hret _ _ ?_
   refine ⟨_, rfl, ?_⟩
   first
   | exact ⟨by rw [Prof.code2_nis fun hh => absurd hh.1 (by assumption)], hle⟩
   | exact ⟨by rw [Prof.code2_nis fun hh => absurd hh.2 (by assumption)], hle⟩
   | exact ⟨by rw [Prof.code2_ok ⟨by assumption, by assumption⟩ ⟨by assumption, by assumption⟩], hle⟩
   | exact ⟨by rw [Prof.code2_ne ⟨by assumption, by assumption⟩ fun hh => absurd hh.1 (by assumption)], hle⟩
   | exact ⟨by rw [Prof.code2_ne ⟨by assumption, by assumption⟩ fun hh => absurd hh.2 (by assumption)], hle⟩
  ·
   try simp only [sps] at h8
   refine .mg rfl rfl rfl rfl rfl (.move rfl) ?_
   refine .callQg rfl rfl rfl rfl rfl rfl @Try.call23 rfl (isProfunctor_c) ?_
   refine .mg rfl rfl rfl rfl rfl (.not rfl) ?_
   refine .m rfl rfl rfl (.pickF rfl rfl) ?_
   refine .nil ?_
   refine hK3 _ _ ?_
   refine .cond rfl (fun h12 => ?_) (fun h12 => ?_)
   ·
    try simp only [sps] at h12
    refine .seq (fun K5 hK5 => ?_)
    refine .region ?_
    refine .m rfl rfl rfl (.assign rfl) ?_
    refine .nil ?_
    refine hK5 _ _ ?_
    refine .ret ?_
    -- leaf e2
    refine hret _ _ ?_
    refine ⟨_, rfl, ?_⟩
    first
    | exact ⟨by rw [Prof.code2_nis fun hh => absurd hh.1 (by assumption)], hle⟩
    | exact ⟨by rw [Prof.code2_nis fun hh => absurd hh.2 (by assumption)], hle⟩
    | exact ⟨by rw [Prof.code2_ok ⟨by assumption, by assumption⟩ ⟨by assumption, by assumption⟩], hle⟩
    | exact ⟨by rw [Prof.code2_ne ⟨by assumption, by assumption⟩ fun hh => absurd hh.1 (by assumption)], hle⟩
    | exact ⟨by rw [Prof.code2_ne ⟨by assumption, by assumption⟩ fun hh => absurd hh.2 (by assumption)], hle⟩
   ·
    try simp only [sps] at h12
    refine .skip ?_
    refine hK2 _ _ ?_
    refine .seq (fun K6 hK6 => ?_)
    refine .seq (fun K7 hK7 => ?_)
    refine .regionD mixed_orders_B (.q 0 (.q 1 (.q 2 (.q 3 (.q 4 (.q 5 (.c 6 0 (.q 7 (.q 8 (.q 9 (.q 10 (.q 11 (.q 12 (.q 13 (.q 14 (.c 15 0 (.q 16 (.q 17 (.done))))))))))))))))))) (by kernel_rfl) ?_
    refine .m rfl rfl rfl rfl (.refl _) (.move rfl) ?_
    refine .m rfl rfl rfl rfl (.refl _) (.nilCheck rfl) ?_
    refine .m rfl rfl rfl rfl (.refl _) (.fieldAddr fo_33_0_VProf rfl) ?_
    refine .m rfl rfl rfl rfl (.refl _) (.move rfl) ?_
    refine .m rfl rfl rfl rfl (.refl _) (.nilCheck rfl) ?_
    refine .m rfl rfl rfl rfl (.refl _) (.fieldAddr fo_33_0_VProf rfl) ?_
    refine .callQ0 rfl rfl rfl rfl rfl @Try.call48 rfl (sameCategory_c) ?_
    refine .m rfl rfl rfl rfl (.refl _) (.not rfl) ?_
    refine .m rfl rfl rfl rfl (.refl _) (.move rfl) ?_
    refine .split (fun h21 => ?_) (fun h21 => ?_)
    ·
     try simp only [sps] at h21
     refine .sg rfl rfl rfl rfl rfl rfl ?_
     refine .sg rfl rfl rfl rfl rfl rfl ?_
     refine .sg rfl rfl rfl rfl rfl rfl ?_
     refine .sg rfl rfl rfl rfl rfl rfl ?_
     refine .sg rfl rfl rfl rfl rfl rfl ?_
     refine .sg rfl rfl rfl rfl rfl rfl ?_
     refine .sgc rfl rfl rfl rfl rfl rfl ?_
     refine .sg rfl rfl rfl rfl rfl rfl ?_
     refine .m rfl rfl rfl rfl (.refl _) (.pickT rfl rfl) ?_
     refine .done ?_
     refine hK7 _ _ ?_
     refine .condT rfl ?_
     refine .seq (fun K8 hK8 => ?_)
     refine .region ?_
     refine .m rfl rfl rfl (.assign rfl) ?_
     refine .nil ?_
     refine hK8 _ _ ?_
     refine .ret ?_
     -- leaf e3
     refine hret _ _ ?_
     refine ⟨_, rfl, ?_⟩
     first
     | exact ⟨by rw [Prof.code2_nis fun hh => absurd hh.1 (by assumption)], hle⟩
     | exact ⟨by rw [Prof.code2_nis fun hh => absurd hh.2 (by assumption)], hle⟩
     | exact ⟨by rw [Prof.code2_ok ⟨by assumption, by assumption⟩ ⟨by assumption, by assumption⟩], hle⟩
     | exact ⟨by rw [Prof.code2_ne ⟨by assumption, by assumption⟩ fun hh => absurd hh.1 (by assumption)], hle⟩
     | exact ⟨by rw [Prof.code2_ne ⟨by assumption, by assumption⟩ fun hh => absurd hh.2 (by assumption)], hle⟩
    ·
     try simp only [sps] at h21
     refine .mg rfl rfl rfl rfl rfl rfl (.refl _) (.move rfl) ?_
     refine .mg rfl rfl rfl rfl rfl rfl (.refl _) (.nilCheck rfl) ?_
     refine .mg rfl rfl rfl rfl rfl rfl (.refl _) (.fieldAddr fo_33_1_VProf rfl) ?_
     refine .mg rfl rfl rfl rfl rfl rfl (.refl _) (.move rfl) ?_
     refine .mg rfl rfl rfl rfl rfl rfl (.refl _) (.nilCheck rfl) ?_
     refine .mg rfl rfl rfl rfl rfl rfl (.refl _) (.fieldAddr fo_33_1_VProf rfl) ?_
     refine .callQ0g rfl rfl rfl rfl rfl rfl rfl @Try.call48 rfl (sameCategory_c) ?_
     refine .mg rfl rfl rfl rfl rfl rfl (.refl _) (.not rfl) ?_
     refine .m rfl rfl rfl rfl (.refl _) (.pickF rfl rfl) ?_
     refine .done ?_
     refine hK7 _ _ ?_
     refine .cond rfl (fun h30 => ?_) (fun h30 => ?_)
     ·
      try simp only [sps] at h30
      refine .seq (fun K9 hK9 => ?_)
      refine .region ?_
      refine .m rfl rfl rfl (.assign rfl) ?_
      refine .nil ?_
      refine hK9 _ _ ?_
      refine .ret ?_
      -- leaf e4
      refine hret _ _ ?_
      refine ⟨_, rfl, ?_⟩
      first
      | exact ⟨by rw [Prof.code2_nis fun hh => absurd hh.1 (by assumption)], hle⟩
      | exact ⟨by rw [Prof.code2_nis fun hh => absurd hh.2 (by assumption)], hle⟩
      | exact ⟨by rw [Prof.code2_ok ⟨by assumption, by assumption⟩ ⟨by assumption, by assumption⟩], hle⟩
      | exact ⟨by rw [Prof.code2_ne ⟨by assumption, by assumption⟩ fun hh => absurd hh.1 (by assumption)], hle⟩
      | exact ⟨by rw [Prof.code2_ne ⟨by assumption, by assumption⟩ fun hh => absurd hh.2 (by assumption)], hle⟩
     ·
      try simp only [sps] at h30
      refine .skip ?_
      refine hK6 _ _ ?_
      refine .seq (fun K10 hK10 => ?_)
      refine .region ?_
      refine .m rfl rfl rfl (.assign rfl) ?_
      refine .nil ?_
      refine hK10 _ _ ?_
      refine .ret ?_
      -- leaf e5
      refine hret _ _ ?_
      refine ⟨_, rfl, ?_⟩
      first
      | exact ⟨by rw [Prof.code2_nis fun hh => absurd hh.1 (by assumption)], hle⟩
      | exact ⟨by rw [Prof.code2_nis fun hh => absurd hh.2 (by assumption)], hle⟩
      | exact ⟨by rw [Prof.code2_ok ⟨by assumption, by assumption⟩ ⟨by assumption, by assumption⟩], hle⟩
      | exact ⟨by rw [Prof.code2_ne ⟨by assumption, by assumption⟩ fun hh => absurd hh.1 (by assumption)], hle⟩
      | exact ⟨by rw [Prof.code2_ne ⟨by assumption, by assumption⟩ fun hh => absurd hh.2 (by assumption)], hle⟩
set_option maxHeartbeats 8000000 in
theorem isMapTo_c {g o g' o' : Nat} {m n : Prof} {p q : ProfP} {a : Option Addr} {c : L3} {r : Nat → Option Addr} {s : Nat → Nat → Option Addr} {H : GHeap} (h : Prof.At H g o m p := by assumption) (h' : Prof.At H g' o' n q := by assumption) (hc : Intsss H a c r s := by assumption)
    (hM : m.Shape := by assumption) (hN : n.Shape := by assumption) (hss : m.s = n.s := by assumption) (htt : m.t = n.t := by assumption) (hcs : Sm3 c := by assumption) :
    GCalls Try.prog 35 [.pointer (some ⟨g, o, none⟩), .pointer (some ⟨g', o', none⟩), .slice a c.length c.length] H (Ret (.bool (B (m.IsMap n c))) H) := by
  refine GCalls.ret rfl ?_
  refine GCalls.body (N := 210) (rs := [.tmp 6]) Try.func35 rfl rfl rfl rfl (fun Qx hret hend => ?_)
  refine .forget (fr' := [(0, some _), (1, some _), (2, some _)]) ⟨rfl, rfl, rfl, trivial⟩ ?_
  have hle := GHeap.Le.refl H
  have base_h := h
  have base_h' := h'
  have base_hc := hc
  obtain ⟨fs, ft, c10, c11, c12, i2, i3, i4⟩ := h.get
  have hm : MemN _ _ _ _ _ := ⟨rfl, h.1⟩
  have hi := h.2
  have hms : MemN _ _ _ _ _ := ⟨rfl, fs.1⟩
  have his := fs.2
  have hmt : MemN _ _ _ _ _ := ⟨rfl, ft.1⟩
  have hit := ft.2
  obtain ⟨fsn, ftn, c10n, c11n, c12n, i2n, i3n, i4n⟩ := h'.get
  have hmn : MemN _ _ _ _ _ := ⟨rfl, h'.1⟩
  have hin := h'.2
  have hmsn : MemN _ _ _ _ _ := ⟨rfl, fsn.1⟩
  have hisn := fsn.2
  have hmtn : MemN _ _ _ _ _ := ⟨rfl, ftn.1⟩
  have hitn := ftn.2
  obtain ⟨c0, c1, c2, c3, c4, d1, d2, d3, d4⟩ := fs.get
  obtain ⟨x0, x1, x2, x3, x4, y1, y2, y3, y4⟩ := ft.get
  have hC := hM.s.1
  have hD := hM.t.1
  have q1 := hC.tl
  have q2 := hD.tl
  have q3 := hM.z.sl
  have q4 := hN.z.sl
  rw [← hss] at q4
  have q6 := hM.z.bl
  have q7 := hM.z.hl
  have q8 := hN.z.bl
  have q9 := hN.z.hl
  rw [← hss] at q8
  rw [← htt] at q9
  have q10 := hC.n40
  have q11 := hD.n40
  have q12 := hC.obj
  have q13 := hD.obj
  obtain ⟨k1, k2⟩ := hcs
  refine .seq (fun K1 hK1 => ?_)
  refine .region ?_
  refine .m rfl rfl rfl (.assign rfl) ?_
  refine .nil ?_
  refine hK1 _ _ ?_
  refine .seq (fun K2 hK2 => ?_)
  refine .regionD mixed_orders_B (.q 0 (.q 1 (.q 2 (.q 3 (.q 4 (.q 5 (.q 6 (.q 7 (.done))))))))) (by kernel_rfl) ?_
  refine .m rfl rfl rfl rfl (.refl _) (.move rfl) ?_
  refine .m rfl rfl rfl rfl (.refl _) (.nilCheck rfl) ?_
  refine .m rfl rfl rfl rfl (.refl _) (.fieldAddr fo_33_0_VProf rfl) ?_
  refine .m rfl rfl rfl rfl (.refl _) (.move rfl) ?_
  refine .m rfl rfl rfl rfl (.refl _) (.nilCheck rfl) ?_
  refine .m rfl rfl rfl rfl (.refl _) (.fieldAddr fo_33_1_VProf rfl) ?_
  refine .m rfl rfl rfl rfl (.refl _) (.assign rfl) ?_
  refine .m rfl rfl rfl rfl (.refl _) (.assign rfl) ?_
  refine .done ?_
  refine hK2 _ _ ?_
  refine .seq (fun K3 hK3 => ?_)
  refine .seq (fun K4 hK4 => ?_)
  refine .region ?_
  refine .m rfl rfl rfl (.move rfl) ?_
  refine .m rfl rfl rfl (.len sl_26_VZ rfl) ?_
  refine .m rfl rfl rfl (.move rfl) ?_
  refine .m rfl rfl rfl (.nilCheck rfl) ?_
  refine .m rfl rfl rfl (.fieldAddr fo_31_0_B rfl) ?_
  refine .m rfl rfl rfl (.load on_2_A rfl (by assumption)) ?_
  refine .m rfl rfl rfl (.cmp rfl rfl rfl) ?_
  refine .nil ?_
  refine hK4 _ _ ?_
  refine .cond rfl (fun h29 => ?_) (fun h29 => ?_)
  ·
   try simp only [sps] at h29
   refine .seq (fun K5 hK5 => ?_)
   refine .region ?_
   refine .m rfl rfl rfl (.assign rfl) ?_
   refine .nil ?_
   refine hK5 _ _ ?_
   refine .ret ?_
   -- leaf e1
   refine hret _ _ ?_
   refine ⟨_, rfl, ?_⟩
   first
   | exact ⟨congrArg _ (B_true ⟨hr, fun a ha y hy => ha3 a (by omega) y (by omega), fun b hb x hx => ha5 b (by omega) x (by omega)⟩), hle⟩
   | exact ⟨congrArg _ (B_false fun hh => h207 (hh.nh b (by omega) x (by omega))), hle⟩
   | exact ⟨congrArg _ (B_false fun hh => h140 (hh.nb a (by omega) y (by omega))), hle⟩
   | exact ⟨congrArg _ (B_false fun hh => h73 ((hh.rows.row x (by omega)).2 y (by omega))), hle⟩
   | exact ⟨congrArg _ (B_false fun hh => by have := (hh.rows.row x (by omega)).1; omega), hle⟩
   | exact ⟨congrArg _ (B_false fun hh => by have := hh.rows.cl; omega), hle⟩
  ·
   try simp only [sps] at h29
   refine .skip ?_
   refine hK3 _ _ ?_
   refine .seq (fun K6 hK6 => ?_)
   refine .seq (fun K7 hK7 => ?_)
   refine .region ?_
   refine .m rfl rfl rfl (.move rfl) ?_
   refine .m rfl rfl rfl (.len sl_26_VZ rfl) ?_
   refine .m rfl rfl rfl (.move rfl) ?_
   refine .nil ?_
   refine hK7 _ _ ?_
   refine .block ?_
   refine .loopR (σ := Nat) [(0, some _), (1, some _), (2, some _), (7, some _), (8, some _), (30, some _), (31, some _)] (fun x => [(32, some (.int .i64 (x : Int)))]) (fun x H' => H = H' ∧ (x : Int) ≤ c.length ∧ ∀ x', x' < x → ((c.getD x' []).length : Int) = m.t.obj ∧ ∀ y, y < (c.getD x' []).length → m.CoOk n c x' y) (fun x => (c.length - x : Int).toNat) (0) ⟨rfl, rfl, rfl, rfl, rfl, rfl, rfl, trivial⟩ ⟨rfl, trivial⟩ ?_ ?_
   ·
    refine ⟨rfl, ?_⟩
    exact ⟨by omega, fun _ _ => by omega⟩
   ·
    rintro x _ ⟨rfl, hI⟩ KL1 hKL1
    refine .forget (fr' := [(32, some (.int .i64 (x : Int))), (0, some _), (1, some _), (2, some _), (7, some _), (8, some _), (30, some _), (31, some _)]) ⟨rfl, rfl, rfl, rfl, rfl, rfl, rfl, rfl, trivial⟩ ?_
    obtain ⟨hk1, ha1⟩ := hI
    refine .seq (fun K8 hK8 => ?_)
    refine .region ?_
    refine .m rfl rfl rfl (.cmp rfl rfl rfl) ?_
    refine .nil ?_
    refine hK8 _ _ ?_
    refine .seq (fun K9 hK9 => ?_)
    refine .cond rfl (fun h33 => ?_) (fun h33 => ?_)
    ·
     simp only [sps] at h33
     have r1 := hc.2 x (by omega)
     have r2 := k2 x
     have r3 := hM.z.row x (by omega)
     have r4 := hN.z.row x (by omega)
     rw [← htt] at r4
     have r5 := i2.2 x (by omega)
     have r6 := i2n.2 x (by omega)
     refine .skip ?_
     refine hK9 _ _ ?_
     refine .seq (fun K10 hK10 => ?_)
     refine .block ?_
     refine .seq (fun K11 hK11 => ?_)
     refine .region ?_
     refine .m rfl rfl rfl (.move rfl) ?_
     refine .m rfl rfl rfl (.idxN sl_26_VZ (Intsss.sl (by assumption)) rfl rfl (by omega)) ?_
     refine .m rfl rfl rfl (.loadRR on_23_B (by assumption) rfl (by omega)) ?_
     refine .m rfl rfl rfl (.assign rfl) ?_
     refine .m rfl rfl rfl (.assign rfl) ?_
     refine .nil ?_
     refine hK11 _ _ ?_
     refine .seq (fun K12 hK12 => ?_)
     refine .seq (fun K13 hK13 => ?_)
     refine .region ?_
     refine .m rfl rfl rfl (.move rfl) ?_
     refine .m rfl rfl rfl (.len sl_23_B rfl) ?_
     refine .m rfl rfl rfl (.move rfl) ?_
     refine .m rfl rfl rfl (.nilCheck rfl) ?_
     refine .m rfl rfl rfl (.fieldAddr fo_31_0_B rfl) ?_
     refine .m rfl rfl rfl (.load on_2_A rfl (by assumption)) ?_
     refine .m rfl rfl rfl (.cmp rfl rfl rfl) ?_
     refine .nil ?_
     refine hK13 _ _ ?_
     refine .cond rfl (fun h43 => ?_) (fun h43 => ?_)
     ·
      try simp only [sps] at h43
      refine .seq (fun K14 hK14 => ?_)
      refine .region ?_
      refine .m rfl rfl rfl (.assign rfl) ?_
      refine .nil ?_
      refine hK14 _ _ ?_
      refine .ret ?_
      -- leaf e2
      refine hret _ _ ?_
      refine ⟨_, rfl, ?_⟩
      first
      | exact ⟨congrArg _ (B_true ⟨hr, fun a ha y hy => ha3 a (by omega) y (by omega), fun b hb x hx => ha5 b (by omega) x (by omega)⟩), hle⟩
      | exact ⟨congrArg _ (B_false fun hh => h207 (hh.nh b (by omega) x (by omega))), hle⟩
      | exact ⟨congrArg _ (B_false fun hh => h140 (hh.nb a (by omega) y (by omega))), hle⟩
      | exact ⟨congrArg _ (B_false fun hh => h73 ((hh.rows.row x (by omega)).2 y (by omega))), hle⟩
      | exact ⟨congrArg _ (B_false fun hh => by have := (hh.rows.row x (by omega)).1; omega), hle⟩
      | exact ⟨congrArg _ (B_false fun hh => by have := hh.rows.cl; omega), hle⟩
     ·
      try simp only [sps] at h43
      refine .skip ?_
      refine hK12 _ _ ?_
      refine .seq (fun K15 hK15 => ?_)
      refine .region ?_
      refine .m rfl rfl rfl (.move rfl) ?_
      refine .m rfl rfl rfl (.len sl_23_B rfl) ?_
      refine .m rfl rfl rfl (.move rfl) ?_
      refine .nil ?_
      refine hK15 _ _ ?_
      refine .block ?_
      refine .loopR (σ := Nat) [(0, some _), (1, some _), (2, some _), (7, some _), (8, some _), (9, some _), (30, some _), (31, some _), (32, some _), (44, some _), (45, some _)] (fun y => [(46, some (.int .i64 (y : Int)))]) (fun y H' => H = H' ∧ (y : Int) ≤ (c.getD x []).length ∧ ∀ y', y' < y → m.CoOk n c x y') (fun y => ((c.getD x []).length - y : Int).toNat) (0) ⟨rfl, rfl, rfl, rfl, rfl, rfl, rfl, rfl, rfl, rfl, rfl, trivial⟩ ⟨rfl, trivial⟩ ?_ ?_
      ·
       refine ⟨rfl, ?_⟩
       exact ⟨by omega, fun _ _ => by omega⟩
      ·
       rintro y _ ⟨rfl, hI⟩ KL2 hKL2
       refine .forget (fr' := [(46, some (.int .i64 (y : Int))), (0, some _), (1, some _), (2, some _), (7, some _), (8, some _), (9, some _), (30, some _), (31, some _), (32, some _), (44, some _), (45, some _)]) ⟨rfl, rfl, rfl, rfl, rfl, rfl, rfl, rfl, rfl, rfl, rfl, rfl, trivial⟩ ?_
       obtain ⟨hk2, ha2⟩ := hI
       refine .seq (fun K16 hK16 => ?_)
       refine .region ?_
       refine .m rfl rfl rfl (.cmp rfl rfl rfl) ?_
       refine .nil ?_
       refine hK16 _ _ ?_
       refine .seq (fun K17 hK17 => ?_)
       refine .cond rfl (fun h47 => ?_) (fun h47 => ?_)
       ·
        simp only [sps] at h47
        have t1 := r1.2 y (by omega)
        have t2 := r2.2 y
        have t5 := hN.z.rng x (by omega) y (by omega)
        refine .skip ?_
        refine hK17 _ _ ?_
        refine .seq (fun K18 hK18 => ?_)
        refine .block ?_
        refine .seq (fun K19 hK19 => ?_)
        refine .region ?_
        refine .m rfl rfl rfl (.move rfl) ?_
        refine .m rfl rfl rfl (.idxN sl_23_B (Intss.sl (by assumption)) rfl rfl (by omega)) ?_
        refine .m rfl rfl rfl (.loadR on_22_B (by assumption) rfl (by omega)) ?_
        refine .m rfl rfl rfl (.assign rfl) ?_
        refine .m rfl rfl rfl (.assign rfl) ?_
        refine .nil ?_
        refine hK19 _ _ ?_
        refine .seq (fun K20 hK20 => ?_)
        refine .regionD mixed_orders_B (.q 0 (.q 1 (.q 2 (.q 3 (.q 4 (.q 5 (.q 6 (.q 7 (.q 8 (.q 9 (.q 10 (.q 11 (.q 12 (.q 13 (.q 14 (.q 15 (.q 16 (.q 17 (.q 18 (.q 19 (.q 20 (.c 21 0 (.q 22 (.done)))))))))))))))))))))))) (by kernel_rfl) ?_
        refine .m rfl rfl rfl rfl (.refl _) (.move rfl) ?_
        refine .m rfl rfl rfl rfl (.refl _) (.move rfl) ?_
        refine .m rfl rfl rfl rfl (.refl _) (.nilCheck rfl) ?_
        refine .m rfl rfl rfl rfl (.refl _) (.fieldAddr fo_33_2_VProf rfl) ?_
        refine .m rfl rfl rfl rfl (.refl _) (.load on_23_B rfl (by assumption)) ?_
        refine .m rfl rfl rfl rfl (.refl _) (.move rfl) ?_
        refine .m rfl rfl rfl rfl (.refl _) (.idxN sl_23_B (Intss.sl (by assumption)) rfl rfl (by omega)) ?_
        refine .m rfl rfl rfl rfl (.refl _) (.loadR on_22_B (by assumption) rfl (by omega)) ?_
        refine .m rfl rfl rfl rfl (.refl _) (.move rfl) ?_
        refine .m rfl rfl rfl rfl (.refl _) (.idxN sl_22_A (by assumption) rfl rfl (by omega)) ?_
        refine .m rfl rfl rfl rfl (.refl _) (.loadI on_2_A (by assumption) rfl (by omega)) ?_
        refine .m rfl rfl rfl rfl (.refl _) (.move rfl) ?_
        refine .m rfl rfl rfl rfl (.refl _) (.nilCheck rfl) ?_
        refine .m rfl rfl rfl rfl (.refl _) (.fieldAddr fo_33_2_VProf rfl) ?_
        refine .m rfl rfl rfl rfl (.refl _) (.load on_23_B rfl (by assumption)) ?_
        refine .m rfl rfl rfl rfl (.refl _) (.move rfl) ?_
        refine .m rfl rfl rfl rfl (.refl _) (.idxN sl_23_B (Intss.sl (by assumption)) rfl rfl (by omega)) ?_
        refine .m rfl rfl rfl rfl (.refl _) (.loadR on_22_B (by assumption) rfl (by omega)) ?_
        refine .m rfl rfl rfl rfl (.refl _) (.move rfl) ?_
        refine .m rfl rfl rfl rfl (.refl _) (.idxN sl_22_A (by assumption) rfl rfl (by omega)) ?_
        refine .m rfl rfl rfl rfl (.refl _) (.loadI on_2_A (by assumption) rfl (by omega)) ?_
        refine .callQ0 rfl rfl rfl rfl rfl @Try.call52 rfl (isMapOf_c) ?_
        refine .m rfl rfl rfl rfl (.refl _) (.not rfl) ?_
        refine .done ?_
        refine hK20 _ _ ?_
        refine .cond rfl (fun h73 => ?_) (fun h73 => ?_)
        ·
         simp only [B_iff, B_not, Bool.not_eq_true', Bool.not_eq_false'] at h73
         refine .seq (fun K21 hK21 => ?_)
         refine .region ?_
         refine .m rfl rfl rfl (.assign rfl) ?_
         refine .nil ?_
         refine hK21 _ _ ?_
         refine .ret ?_
         -- leaf e3
         refine hret _ _ ?_
         refine ⟨_, rfl, ?_⟩
         first
         | exact ⟨congrArg _ (B_true ⟨hr, fun a ha y hy => ha3 a (by omega) y (by omega), fun b hb x hx => ha5 b (by omega) x (by omega)⟩), hle⟩
         | exact ⟨congrArg _ (B_false fun hh => h207 (hh.nh b (by omega) x (by omega))), hle⟩
         | exact ⟨congrArg _ (B_false fun hh => h140 (hh.nb a (by omega) y (by omega))), hle⟩
         | exact ⟨congrArg _ (B_false fun hh => h73 ((hh.rows.row x (by omega)).2 y (by omega))), hle⟩
         | exact ⟨congrArg _ (B_false fun hh => by have := (hh.rows.row x (by omega)).1; omega), hle⟩
         | exact ⟨congrArg _ (B_false fun hh => by have := hh.rows.cl; omega), hle⟩
        ·
         simp only [B_iff, B_not, Bool.not_eq_true', Bool.not_eq_false'] at h73
         refine .skip ?_
         refine hK18 _ _ ?_
         refine .region ?_
         refine .m rfl rfl rfl (.add rfl rfl rfl (by omega) (by omega)) ?_
         refine .m rfl rfl rfl (.move rfl) ?_
         refine .nil ?_
         refine hKL2 (y + 1) _ _ ?_ ?_ ⟨rfl, rfl, rfl, rfl, rfl, rfl, rfl, rfl, rfl, rfl, rfl, rfl, trivial⟩
         ·
          refine ⟨rfl, ?_⟩
          refine ⟨by omega, fun y' hx => ?_⟩
          by_cases hltq : y' < y
          · exact ha2 y' hltq
          · obtain rfl : y' = y := by omega
            exact h73
         ·
          omega
       ·
        try simp only [sps] at h47
        refine .exit ?_
        refine hK10 _ _ ?_
        refine .region ?_
        refine .m rfl rfl rfl (.add rfl rfl rfl (by omega) (by omega)) ?_
        refine .m rfl rfl rfl (.move rfl) ?_
        refine .nil ?_
        refine hKL1 (x + 1) _ _ ?_ ?_ ⟨rfl, rfl, rfl, rfl, rfl, rfl, rfl, rfl, trivial⟩
        ·
         refine ⟨rfl, ?_⟩
         refine ⟨by omega, fun x' hx => ?_⟩
         by_cases hltq : x' < x
         · exact ha1 x' hltq
         · obtain rfl : x' = x := by omega
           exact ⟨h43, fun y hy => ha2 y (by omega)⟩
        ·
         omega
    ·
     try simp only [sps] at h33
     refine .exit ?_
     refine hK6 _ _ ?_
     refine .seq (fun K22 hK22 => ?_)
     refine .seq (fun K23 hK23 => ?_)
     refine .region ?_
     refine .m rfl rfl rfl (.move rfl) ?_
     refine .m rfl rfl rfl (.nilCheck rfl) ?_
     refine .m rfl rfl rfl (.fieldAddr fo_31_1_B rfl) ?_
     refine .m rfl rfl rfl (.load on_22_B rfl (by assumption)) ?_
     refine .m rfl rfl rfl (.len sl_22_A rfl) ?_
     refine .m rfl rfl rfl (.move rfl) ?_
     refine .nil ?_
     refine hK23 _ _ ?_
     refine .block ?_
     have hr : m.Rows n c := ⟨by omega, fun x hx => ha1 x (by omega)⟩
     refine .loopR (σ := Nat) [(0, some _), (1, some _), (2, some _), (7, some _), (8, some _), (80, some _)] (fun a => [(81, some (.int .i64 (a : Int)))]) (fun a H' => St [] H H' ∧ (a : Int) ≤ m.s.src.length ∧ ∀ a', a' < a → ∀ y : Nat, (y : Int) < m.t.obj → m.NatB n c a' y) (fun a => (m.s.src.length - a : Int).toNat) (0) ⟨rfl, rfl, rfl, rfl, rfl, rfl, trivial⟩ ⟨rfl, trivial⟩ ?_ ?_
     ·
      refine ⟨.refl _ _, ?_⟩
      exact ⟨by omega, fun _ _ => by omega⟩
     ·
      rintro a HL3 ⟨lst3, hI⟩ KL3 hKL3
      refine .forget (fr' := [(81, some (.int .i64 (a : Int))), (0, some _), (1, some _), (2, some _), (7, some _), (8, some _), (80, some _)]) ⟨rfl, rfl, rfl, rfl, rfl, rfl, rfl, trivial⟩ ?_
      have nx_HL3 := lst3.nx
      replace hle := hle.st lst3 (fun k hk => trivial)
      replace h := base_h.mono hle
      replace h' := base_h'.mono hle
      replace hc := base_hc.mono hle
      clear fs ft c10 c11 c12 i2 i3 i4 hm hi hms his hmt hit fsn ftn c10n c11n c12n i2n i3n i4n hmn hin hmsn hisn hmtn hitn c0 c1 c2 c3 c4 d1 d2 d3 d4 x0 x1 x2 x3 x4 y1 y2 y3 y4
      obtain ⟨fs, ft, c10, c11, c12, i2, i3, i4⟩ := h.get
      have hm : MemN _ _ _ _ _ := ⟨rfl, h.1⟩
      have hi := h.2
      have hms : MemN _ _ _ _ _ := ⟨rfl, fs.1⟩
      have his := fs.2
      have hmt : MemN _ _ _ _ _ := ⟨rfl, ft.1⟩
      have hit := ft.2
      obtain ⟨fsn, ftn, c10n, c11n, c12n, i2n, i3n, i4n⟩ := h'.get
      have hmn : MemN _ _ _ _ _ := ⟨rfl, h'.1⟩
      have hin := h'.2
      have hmsn : MemN _ _ _ _ _ := ⟨rfl, fsn.1⟩
      have hisn := fsn.2
      have hmtn : MemN _ _ _ _ _ := ⟨rfl, ftn.1⟩
      have hitn := ftn.2
      obtain ⟨c0, c1, c2, c3, c4, d1, d2, d3, d4⟩ := fs.get
      obtain ⟨x0, x1, x2, x3, x4, y1, y2, y3, y4⟩ := ft.get
      obtain ⟨hk3, ha3⟩ := hI
      refine .seq (fun K24 hK24 => ?_)
      refine .region ?_
      refine .m rfl rfl rfl (.cmp rfl rfl rfl) ?_
      refine .nil ?_
      refine hK24 _ _ ?_
      refine .seq (fun K25 hK25 => ?_)
      refine .cond rfl (fun h82 => ?_) (fun h82 => ?_)
      ·
       simp only [sps] at h82
       have r2 := hM.z.b hM.s (a := a) (by omega)
       have r1 := i3.2 a (by omega)
       have r3 := i3n.2 a (by omega)
       have r4 := hc.2 (m.s.src.getD a 0).toNat (by omega)
       have r5 := hc.2 (m.s.tgt.getD a 0).toNat (by omega)
       refine .skip ?_
       refine hK25 _ _ ?_
       refine .seq (fun K26 hK26 => ?_)
       refine .block ?_
       refine .seq (fun K27 hK27 => ?_)
       refine .region ?_
       refine .m rfl rfl rfl (.move rfl) ?_
       refine .m rfl rfl rfl (.assign rfl) ?_
       refine .nil ?_
       refine hK27 _ _ ?_
       refine .seq (fun K28 hK28 => ?_)
       refine .region ?_
       refine .m rfl rfl rfl (.move rfl) ?_
       refine .m rfl rfl rfl (.nilCheck rfl) ?_
       refine .m rfl rfl rfl (.fieldAddr fo_31_0_B rfl) ?_
       refine .m rfl rfl rfl (.load on_2_A rfl (by assumption)) ?_
       refine .m rfl rfl rfl (.move rfl) ?_
       refine .nil ?_
       refine hK28 _ _ ?_
       refine .block ?_
       refine .loopR (σ := Nat) [(0, some _), (1, some _), (2, some _), (7, some _), (8, some _), (13, some _), (80, some _), (81, some _), (87, some _)] (fun y => [(88, some (.int .i64 (y : Int)))]) (fun y H' => St [] HL3 H' ∧ (y : Int) ≤ m.t.obj ∧ ∀ y', y' < y → m.NatB n c a y') (fun y => (m.t.obj - y : Int).toNat) (0) ⟨rfl, rfl, rfl, rfl, rfl, rfl, rfl, rfl, rfl, trivial⟩ ⟨rfl, trivial⟩ ?_ ?_
       ·
        refine ⟨.refl _ _, ?_⟩
        exact ⟨by omega, fun _ _ => by omega⟩
       ·
        rintro y HL4 ⟨lst4, hI⟩ KL4 hKL4
        refine .forget (fr' := [(88, some (.int .i64 (y : Int))), (0, some _), (1, some _), (2, some _), (7, some _), (8, some _), (13, some _), (80, some _), (81, some _), (87, some _)]) ⟨rfl, rfl, rfl, rfl, rfl, rfl, rfl, rfl, rfl, rfl, trivial⟩ ?_
        have nx_HL4 := lst4.nx
        replace hle := hle.st lst4 (fun k hk => trivial)
        replace lst3 := lst3.st lst4 (fun k hk ho => by simp only [out, and_true] at ho ⊢ <;> omega)
        replace h := base_h.mono hle
        replace h' := base_h'.mono hle
        replace hc := base_hc.mono hle
        clear fs ft c10 c11 c12 i2 i3 i4 hm hi hms his hmt hit fsn ftn c10n c11n c12n i2n i3n i4n hmn hin hmsn hisn hmtn hitn c0 c1 c2 c3 c4 d1 d2 d3 d4 x0 x1 x2 x3 x4 y1 y2 y3 y4
        obtain ⟨fs, ft, c10, c11, c12, i2, i3, i4⟩ := h.get
        have hm : MemN _ _ _ _ _ := ⟨rfl, h.1⟩
        have hi := h.2
        have hms : MemN _ _ _ _ _ := ⟨rfl, fs.1⟩
        have his := fs.2
        have hmt : MemN _ _ _ _ _ := ⟨rfl, ft.1⟩
        have hit := ft.2
        obtain ⟨fsn, ftn, c10n, c11n, c12n, i2n, i3n, i4n⟩ := h'.get
        have hmn : MemN _ _ _ _ _ := ⟨rfl, h'.1⟩
        have hin := h'.2
        have hmsn : MemN _ _ _ _ _ := ⟨rfl, fsn.1⟩
        have hisn := fsn.2
        have hmtn : MemN _ _ _ _ _ := ⟨rfl, ftn.1⟩
        have hitn := ftn.2
        obtain ⟨c0, c1, c2, c3, c4, d1, d2, d3, d4⟩ := fs.get
        obtain ⟨x0, x1, x2, x3, x4, y1, y2, y3, y4⟩ := ft.get
        clear r1 r3 r4 r5
        have r1 := i3.2 a (by omega)
        have r3 := i3n.2 a (by omega)
        have r4 := hc.2 (m.s.src.getD a 0).toNat (by omega)
        have r5 := hc.2 (m.s.tgt.getD a 0).toNat (by omega)
        obtain ⟨hk4, ha4⟩ := hI
        refine .seq (fun K29 hK29 => ?_)
        refine .region ?_
        refine .m rfl rfl rfl (.cmp rfl rfl rfl) ?_
        refine .nil ?_
        refine hK29 _ _ ?_
        refine .seq (fun K30 hK30 => ?_)
        refine .cond rfl (fun h89 => ?_) (fun h89 => ?_)
        ·
         simp only [sps] at h89
         have v1 := hM.by (a := a) (y := y) (by omega) (by omega)
         have v2 := hN.by (a := a) (y := y) (by omega) (by rw [← htt]; omega)
         rw [← hss] at v2
         have v3 := hr.co (x := (m.s.src.getD a 0).toNat) (y := y) (by omega) (by omega)
         have v4 := hr.co (x := (m.s.tgt.getD a 0).toNat) (y := y) (by omega) (by omega)
         have u1 : ∀ i, i < ((m.be.getD a []).getD y []).length → 0 ≤ ((m.be.getD a []).getD y []).getD i 0 ∧ ((m.be.getD a []).getD y []).getD i 0 < ((c.getD (m.s.src.getD a 0).toNat []).getD y []).length := fun i hi => by
           have := v1.2.2.2.2.1 i hi
           rw [← v3.2.2.1] at this
           exact this
         have u2 : ∀ i, i < ((c.getD (m.s.tgt.getD a 0).toNat []).getD y []).length → 0 ≤ ((c.getD (m.s.tgt.getD a 0).toNat []).getD y []).getD i 0 ∧ ((c.getD (m.s.tgt.getD a 0).toNat []).getD y []).getD i 0 < ((n.be.getD a []).getD y []).length := fun i hi => by
           have := v4.2.2.2 i hi
           rw [← v2.2.2.2.1] at this
           exact this
         have w1 := r1.2 y (by omega)
         have w2 := r3.2 y (by omega)
         have w3 := r4.2 y (by omega)
         have w4 := r5.2 y (by omega)
         refine .skip ?_
         refine hK30 _ _ ?_
         refine .seq (fun K31 hK31 => ?_)
         refine .block ?_
         refine .seq (fun K32 hK32 => ?_)
         refine .region ?_
         refine .m rfl rfl rfl (.move rfl) ?_
         refine .m rfl rfl rfl (.assign rfl) ?_
         refine .nil ?_
         refine hK32 _ _ ?_
         refine .seq (fun K33 hK33 => ?_)
         refine .regionD mixed_orders_B (.q 0 (.q 1 (.q 2 (.q 3 (.q 4 (.q 5 (.q 6 (.q 7 (.q 8 (.q 9 (.q 10 (.q 11 (.q 12 (.q 13 (.q 14 (.q 15 (.q 16 (.q 17 (.q 18 (.q 19 (.q 20 (.q 21 (.q 22 (.q 24 (.q 25 (.q 26 (.q 27 (.q 28 (.q 29 (.q 30 (.q 31 (.q 32 (.q 33 (.q 34 (.q 35 (.q 36 (.q 37 (.q 38 (.q 39 (.q 40 (.q 41 (.q 42 (.q 43 (.q 44 (.q 45 (.q 46 (.c 23 1 (.c 47 0 (.c 48 0 (.q 49 (.done))))))))))))))))))))))))))))))))))))))))))))))))))) (by kernel_rfl) ?_
         refine .m rfl rfl rfl rfl (.refl _) (.move rfl) ?_
         refine .m rfl rfl rfl rfl (.refl _) (.nilCheck rfl) ?_
         refine .m rfl rfl rfl rfl (.refl _) (.fieldAddr fo_33_3_VProf rfl) ?_
         refine .m rfl rfl rfl rfl (.refl _) (.load on_26_VProf rfl (by assumption)) ?_
         refine .m rfl rfl rfl rfl (.refl _) (.move rfl) ?_
         refine .m rfl rfl rfl rfl (.refl _) (.idxN sl_26_VZ (Intsss.sl (by assumption)) rfl rfl (by omega)) ?_
         refine .m rfl rfl rfl rfl (.refl _) (.loadRR on_23_B (by assumption) rfl (by omega)) ?_
         refine .m rfl rfl rfl rfl (.refl _) (.move rfl) ?_
         refine .m rfl rfl rfl rfl (.refl _) (.idxN sl_23_B (Intss.sl (by assumption)) rfl rfl (by omega)) ?_
         refine .m rfl rfl rfl rfl (.refl _) (.loadR on_22_B (by assumption) rfl (by omega)) ?_
         refine .m rfl rfl rfl rfl (.refl _) (.move rfl) ?_
         refine .m rfl rfl rfl rfl (.refl _) (.move rfl) ?_
         refine .m rfl rfl rfl rfl (.refl _) (.nilCheck rfl) ?_
         refine .m rfl rfl rfl rfl (.refl _) (.fieldAddr fo_31_1_B rfl) ?_
         refine .m rfl rfl rfl rfl (.refl _) (.load on_22_B rfl (by assumption)) ?_
         refine .m rfl rfl rfl rfl (.refl _) (.move rfl) ?_
         refine .m rfl rfl rfl rfl (.refl _) (.idxN sl_22_A (by assumption) rfl rfl (by omega)) ?_
         refine .m rfl rfl rfl rfl (.refl _) (.loadI on_2_A (by assumption) rfl (by omega)) ?_
         refine .m rfl rfl rfl rfl (.refl _) (.idx1 sl_26_VZ (Intsss.sl (by assumption)) rfl rfl (by omega) (by omega)) ?_
         refine .m rfl rfl rfl rfl (.refl _) (.loadRR on_23_B (by assumption) rfl (by omega)) ?_
         refine .m rfl rfl rfl rfl (.refl _) (.move rfl) ?_
         refine .m rfl rfl rfl rfl (.refl _) (.idxN sl_23_B (Intss.sl (by assumption)) rfl rfl (by omega)) ?_
         refine .m rfl rfl rfl rfl (.refl _) (.loadR on_22_B (by assumption) rfl (by omega)) ?_
         refine .m rfl rfl rfl rfl (.refl _) (.move rfl) ?_
         refine .m rfl rfl rfl rfl (.refl _) (.move rfl) ?_
         refine .m rfl rfl rfl rfl (.refl _) (.nilCheck rfl) ?_
         refine .m rfl rfl rfl rfl (.refl _) (.fieldAddr fo_31_2_B rfl) ?_
         refine .m rfl rfl rfl rfl (.refl _) (.load on_22_B rfl (by assumption)) ?_
         refine .m rfl rfl rfl rfl (.refl _) (.move rfl) ?_
         refine .m rfl rfl rfl rfl (.refl _) (.idxN sl_22_A (by assumption) rfl rfl (by omega)) ?_
         refine .m rfl rfl rfl rfl (.refl _) (.loadI on_2_A (by assumption) rfl (by omega)) ?_
         refine .m rfl rfl rfl rfl (.refl _) (.idx1 sl_26_VZ (Intsss.sl (by assumption)) rfl rfl (by omega) (by omega)) ?_
         refine .m rfl rfl rfl rfl (.refl _) (.loadRR on_23_B (by assumption) rfl (by omega)) ?_
         refine .m rfl rfl rfl rfl (.refl _) (.move rfl) ?_
         refine .m rfl rfl rfl rfl (.refl _) (.idxN sl_23_B (Intss.sl (by assumption)) rfl rfl (by omega)) ?_
         refine .m rfl rfl rfl rfl (.refl _) (.loadR on_22_B (by assumption) rfl (by omega)) ?_
         refine .m rfl rfl rfl rfl (.refl _) (.move rfl) ?_
         refine .m rfl rfl rfl rfl (.refl _) (.nilCheck rfl) ?_
         refine .m rfl rfl rfl rfl (.refl _) (.fieldAddr fo_33_3_VProf rfl) ?_
         refine .m rfl rfl rfl rfl (.refl _) (.load on_26_VProf rfl (by assumption)) ?_
         refine .m rfl rfl rfl rfl (.refl _) (.move rfl) ?_
         refine .m rfl rfl rfl rfl (.refl _) (.idxN sl_26_VZ (Intsss.sl (by assumption)) rfl rfl (by omega)) ?_
         refine .m rfl rfl rfl rfl (.refl _) (.loadRR on_23_B (by assumption) rfl (by omega)) ?_
         refine .m rfl rfl rfl rfl (.refl _) (.move rfl) ?_
         refine .m rfl rfl rfl rfl (.refl _) (.idxN sl_23_B (Intss.sl (by assumption)) rfl rfl (by omega)) ?_
         refine .m rfl rfl rfl rfl (.refl _) (.loadR on_22_B (by assumption) rfl (by omega)) ?_
         refine .call1 rfl rfl rfl rfl rfl @Try.call44 rfl (implThen_c) ?_
         rintro _ H114 ⟨le114, g114, rfl, at114, ge114⟩
         have hbl := le114
         refine ⟨hbl, ?_⟩
         have nx_H114 := le114.1
         replace hle := hle.trans le114
         replace lst3 := lst3.le le114
         replace lst4 := lst4.le le114
         have lt_at114 := GHeap.lt_of_get at114
         replace h := base_h.mono hle
         replace h' := base_h'.mono hle
         replace hc := base_hc.mono hle
         clear fs ft c10 c11 c12 i2 i3 i4 hm hi hms his hmt hit fsn ftn c10n c11n c12n i2n i3n i4n hmn hin hmsn hisn hmtn hitn c0 c1 c2 c3 c4 d1 d2 d3 d4 x0 x1 x2 x3 x4 y1 y2 y3 y4
         obtain ⟨fs, ft, c10, c11, c12, i2, i3, i4⟩ := h.get
         have hm : MemN _ _ _ _ _ := ⟨rfl, h.1⟩
         have hi := h.2
         have hms : MemN _ _ _ _ _ := ⟨rfl, fs.1⟩
         have his := fs.2
         have hmt : MemN _ _ _ _ _ := ⟨rfl, ft.1⟩
         have hit := ft.2
         obtain ⟨fsn, ftn, c10n, c11n, c12n, i2n, i3n, i4n⟩ := h'.get
         have hmn : MemN _ _ _ _ _ := ⟨rfl, h'.1⟩
         have hin := h'.2
         have hmsn : MemN _ _ _ _ _ := ⟨rfl, fsn.1⟩
         have hisn := fsn.2
         have hmtn : MemN _ _ _ _ _ := ⟨rfl, ftn.1⟩
         have hitn := ftn.2
         obtain ⟨c0, c1, c2, c3, c4, d1, d2, d3, d4⟩ := fs.get
         obtain ⟨x0, x1, x2, x3, x4, y1, y2, y3, y4⟩ := ft.get
         clear r1 r3 r4 r5
         have r1 := i3.2 a (by omega)
         have r3 := i3n.2 a (by omega)
         have r4 := hc.2 (m.s.src.getD a 0).toNat (by omega)
         have r5 := hc.2 (m.s.tgt.getD a 0).toNat (by omega)
         clear w1 w2 w3 w4
         have w1 := r1.2 y (by omega)
         have w2 := r3.2 y (by omega)
         have w3 := r4.2 y (by omega)
         have w4 := r5.2 y (by omega)
         have i114 := Ints.of_get at114
         refine .call0 rfl rfl rfl rfl rfl @Try.call44 rfl (implThen_c) ?_
         rintro _ H138 ⟨le138, g138, rfl, at138, ge138⟩
         have nx_H138 := le138.1
         replace hle := hle.trans le138
         replace lst3 := lst3.le le138
         replace lst4 := lst4.le le138
         replace at114 := le138.2 _ _ at114
         have lt_at138 := GHeap.lt_of_get at138
         replace h := base_h.mono hle
         replace h' := base_h'.mono hle
         replace hc := base_hc.mono hle
         clear fs ft c10 c11 c12 i2 i3 i4 hm hi hms his hmt hit fsn ftn c10n c11n c12n i2n i3n i4n hmn hin hmsn hisn hmtn hitn c0 c1 c2 c3 c4 d1 d2 d3 d4 x0 x1 x2 x3 x4 y1 y2 y3 y4
         obtain ⟨fs, ft, c10, c11, c12, i2, i3, i4⟩ := h.get
         have hm : MemN _ _ _ _ _ := ⟨rfl, h.1⟩
         have hi := h.2
         have hms : MemN _ _ _ _ _ := ⟨rfl, fs.1⟩
         have his := fs.2
         have hmt : MemN _ _ _ _ _ := ⟨rfl, ft.1⟩
         have hit := ft.2
         obtain ⟨fsn, ftn, c10n, c11n, c12n, i2n, i3n, i4n⟩ := h'.get
         have hmn : MemN _ _ _ _ _ := ⟨rfl, h'.1⟩
         have hin := h'.2
         have hmsn : MemN _ _ _ _ _ := ⟨rfl, fsn.1⟩
         have hisn := fsn.2
         have hmtn : MemN _ _ _ _ _ := ⟨rfl, ftn.1⟩
         have hitn := ftn.2
         obtain ⟨c0, c1, c2, c3, c4, d1, d2, d3, d4⟩ := fs.get
         obtain ⟨x0, x1, x2, x3, x4, y1, y2, y3, y4⟩ := ft.get
         clear r1 r3 r4 r5
         have r1 := i3.2 a (by omega)
         have r3 := i3n.2 a (by omega)
         have r4 := hc.2 (m.s.src.getD a 0).toNat (by omega)
         have r5 := hc.2 (m.s.tgt.getD a 0).toNat (by omega)
         clear w1 w2 w3 w4
         have w1 := r1.2 y (by omega)
         have w2 := r3.2 y (by omega)
         have w3 := r4.2 y (by omega)
         have w4 := r5.2 y (by omega)
         clear i114
         have i114 := Ints.of_get at114
         have i138 := Ints.of_get at138
         refine .callQ0 rfl rfl rfl rfl rfl @Try.call45 rfl (same_c (hx := by rw [length_thenL]; omega) (hy := by rw [length_thenL]; omega)) ?_
         refine .m rfl rfl rfl rfl (.refl _) (.not rfl) ?_
         refine .done ?_
         refine hK33 _ _ ?_
         refine .cond rfl (fun h140 => ?_) (fun h140 => ?_)
         ·
          try simp only [sps] at h140
          refine .seq (fun K34 hK34 => ?_)
          refine .region ?_
          refine .m rfl rfl rfl (.assign rfl) ?_
          refine .nil ?_
          refine hK34 _ _ ?_
          refine .ret ?_
          -- leaf e4
          refine hret _ _ ?_
          refine ⟨_, rfl, ?_⟩
          first
          | exact ⟨congrArg _ (B_true ⟨hr, fun a ha y hy => ha3 a (by omega) y (by omega), fun b hb x hx => ha5 b (by omega) x (by omega)⟩), hle⟩
          | exact ⟨congrArg _ (B_false fun hh => h207 (hh.nh b (by omega) x (by omega))), hle⟩
          | exact ⟨congrArg _ (B_false fun hh => h140 (hh.nb a (by omega) y (by omega))), hle⟩
          | exact ⟨congrArg _ (B_false fun hh => h73 ((hh.rows.row x (by omega)).2 y (by omega))), hle⟩
          | exact ⟨congrArg _ (B_false fun hh => by have := (hh.rows.row x (by omega)).1; omega), hle⟩
          | exact ⟨congrArg _ (B_false fun hh => by have := hh.rows.cl; omega), hle⟩
         ·
          try simp only [sps] at h140
          refine .skip ?_
          refine hK31 _ _ ?_
          refine .region ?_
          refine .m rfl rfl rfl (.add rfl rfl rfl (by omega) (by omega)) ?_
          refine .m rfl rfl rfl (.move rfl) ?_
          refine .nil ?_
          refine hKL4 (y + 1) _ _ ?_ ?_ ⟨rfl, rfl, rfl, rfl, rfl, rfl, rfl, rfl, rfl, rfl, trivial⟩
          ·
           refine ⟨lst4, ?_⟩
           refine ⟨by omega, fun y' hx => ?_⟩
           by_cases hltq : y' < y
           · exact ha4 y' hltq
           · obtain rfl : y' = y := by omega
             exact h140
          ·
           omega
        ·
         try simp only [sps] at h89
         refine .exit ?_
         refine hK26 _ _ ?_
         refine .region ?_
         refine .m rfl rfl rfl (.add rfl rfl rfl (by omega) (by omega)) ?_
         refine .m rfl rfl rfl (.move rfl) ?_
         refine .nil ?_
         refine hKL3 (a + 1) _ _ ?_ ?_ ⟨rfl, rfl, rfl, rfl, rfl, rfl, rfl, trivial⟩
         ·
          refine ⟨lst3, ?_⟩
          refine ⟨by omega, fun a' hx => ?_⟩
          by_cases hltq : a' < a
          · exact ha3 a' hltq
          · obtain rfl : a' = a := by omega
            exact fun y hy => ha4 y (by omega)
         ·
          omega
      ·
       try simp only [sps] at h82
       refine .exit ?_
       refine hK22 _ _ ?_
       refine .seq (fun K35 hK35 => ?_)
       refine .seq (fun K36 hK36 => ?_)
       refine .region ?_
       refine .m rfl rfl rfl (.move rfl) ?_
       refine .m rfl rfl rfl (.nilCheck rfl) ?_
       refine .m rfl rfl rfl (.fieldAddr fo_31_1_B rfl) ?_
       refine .m rfl rfl rfl (.load on_22_B rfl (by assumption)) ?_
       refine .m rfl rfl rfl (.len sl_22_A rfl) ?_
       refine .m rfl rfl rfl (.move rfl) ?_
       refine .nil ?_
       refine hK36 _ _ ?_
       refine .block ?_
       refine .loopR (σ := Nat) [(0, some _), (1, some _), (2, some _), (7, some _), (8, some _), (147, some _)] (fun b => [(148, some (.int .i64 (b : Int)))]) (fun b H' => St [] HL3 H' ∧ (b : Int) ≤ m.t.src.length ∧ ∀ b', b' < b → ∀ x : Nat, (x : Int) < m.s.obj → m.NatH n c b' x) (fun b => (m.t.src.length - b : Int).toNat) (0) ⟨rfl, rfl, rfl, rfl, rfl, rfl, trivial⟩ ⟨rfl, trivial⟩ ?_ ?_
       ·
        refine ⟨.refl _ _, ?_⟩
        exact ⟨by omega, fun _ _ => by omega⟩
       ·
        rintro b HL5 ⟨lst5, hI⟩ KL5 hKL5
        refine .forget (fr' := [(148, some (.int .i64 (b : Int))), (0, some _), (1, some _), (2, some _), (7, some _), (8, some _), (147, some _)]) ⟨rfl, rfl, rfl, rfl, rfl, rfl, rfl, trivial⟩ ?_
        have nx_HL5 := lst5.nx
        replace hle := hle.st lst5 (fun k hk => trivial)
        replace lst3 := lst3.st lst5 (fun k hk ho => by simp only [out, and_true] at ho ⊢ <;> omega)
        replace h := base_h.mono hle
        replace h' := base_h'.mono hle
        replace hc := base_hc.mono hle
        clear fs ft c10 c11 c12 i2 i3 i4 hm hi hms his hmt hit fsn ftn c10n c11n c12n i2n i3n i4n hmn hin hmsn hisn hmtn hitn c0 c1 c2 c3 c4 d1 d2 d3 d4 x0 x1 x2 x3 x4 y1 y2 y3 y4
        obtain ⟨fs, ft, c10, c11, c12, i2, i3, i4⟩ := h.get
        have hm : MemN _ _ _ _ _ := ⟨rfl, h.1⟩
        have hi := h.2
        have hms : MemN _ _ _ _ _ := ⟨rfl, fs.1⟩
        have his := fs.2
        have hmt : MemN _ _ _ _ _ := ⟨rfl, ft.1⟩
        have hit := ft.2
        obtain ⟨fsn, ftn, c10n, c11n, c12n, i2n, i3n, i4n⟩ := h'.get
        have hmn : MemN _ _ _ _ _ := ⟨rfl, h'.1⟩
        have hin := h'.2
        have hmsn : MemN _ _ _ _ _ := ⟨rfl, fsn.1⟩
        have hisn := fsn.2
        have hmtn : MemN _ _ _ _ _ := ⟨rfl, ftn.1⟩
        have hitn := ftn.2
        obtain ⟨c0, c1, c2, c3, c4, d1, d2, d3, d4⟩ := fs.get
        obtain ⟨x0, x1, x2, x3, x4, y1, y2, y3, y4⟩ := ft.get
        obtain ⟨hk5, ha5⟩ := hI
        refine .seq (fun K37 hK37 => ?_)
        refine .region ?_
        refine .m rfl rfl rfl (.cmp rfl rfl rfl) ?_
        refine .nil ?_
        refine hK37 _ _ ?_
        refine .seq (fun K38 hK38 => ?_)
        refine .cond rfl (fun h149 => ?_) (fun h149 => ?_)
        ·
         simp only [sps] at h149
         have r2 := hM.z.h hM.t (b := b) (by omega)
         have r1 := i4.2 b (by omega)
         have r3 := i4n.2 b (by omega)
         refine .skip ?_
         refine hK38 _ _ ?_
         refine .seq (fun K39 hK39 => ?_)
         refine .block ?_
         refine .seq (fun K40 hK40 => ?_)
         refine .region ?_
         refine .m rfl rfl rfl (.move rfl) ?_
         refine .m rfl rfl rfl (.assign rfl) ?_
         refine .nil ?_
         refine hK40 _ _ ?_
         refine .seq (fun K41 hK41 => ?_)
         refine .region ?_
         refine .m rfl rfl rfl (.move rfl) ?_
         refine .m rfl rfl rfl (.nilCheck rfl) ?_
         refine .m rfl rfl rfl (.fieldAddr fo_31_0_B rfl) ?_
         refine .m rfl rfl rfl (.load on_2_A rfl (by assumption)) ?_
         refine .m rfl rfl rfl (.move rfl) ?_
         refine .nil ?_
         refine hK41 _ _ ?_
         refine .block ?_
         refine .loopR (σ := Nat) [(0, some _), (1, some _), (2, some _), (7, some _), (8, some _), (15, some _), (147, some _), (148, some _), (154, some _)] (fun x => [(155, some (.int .i64 (x : Int)))]) (fun x H' => St [] HL5 H' ∧ (x : Int) ≤ m.s.obj ∧ ∀ x', x' < x → m.NatH n c b x') (fun x => (m.s.obj - x : Int).toNat) (0) ⟨rfl, rfl, rfl, rfl, rfl, rfl, rfl, rfl, rfl, trivial⟩ ⟨rfl, trivial⟩ ?_ ?_
         ·
          refine ⟨.refl _ _, ?_⟩
          exact ⟨by omega, fun _ _ => by omega⟩
         ·
          rintro x HL6 ⟨lst6, hI⟩ KL6 hKL6
          refine .forget (fr' := [(155, some (.int .i64 (x : Int))), (0, some _), (1, some _), (2, some _), (7, some _), (8, some _), (15, some _), (147, some _), (148, some _), (154, some _)]) ⟨rfl, rfl, rfl, rfl, rfl, rfl, rfl, rfl, rfl, rfl, trivial⟩ ?_
          have nx_HL6 := lst6.nx
          replace hle := hle.st lst6 (fun k hk => trivial)
          replace lst3 := lst3.st lst6 (fun k hk ho => by simp only [out, and_true] at ho ⊢ <;> omega)
          replace lst5 := lst5.st lst6 (fun k hk ho => by simp only [out, and_true] at ho ⊢ <;> omega)
          replace h := base_h.mono hle
          replace h' := base_h'.mono hle
          replace hc := base_hc.mono hle
          clear fs ft c10 c11 c12 i2 i3 i4 hm hi hms his hmt hit fsn ftn c10n c11n c12n i2n i3n i4n hmn hin hmsn hisn hmtn hitn c0 c1 c2 c3 c4 d1 d2 d3 d4 x0 x1 x2 x3 x4 y1 y2 y3 y4
          obtain ⟨fs, ft, c10, c11, c12, i2, i3, i4⟩ := h.get
          have hm : MemN _ _ _ _ _ := ⟨rfl, h.1⟩
          have hi := h.2
          have hms : MemN _ _ _ _ _ := ⟨rfl, fs.1⟩
          have his := fs.2
          have hmt : MemN _ _ _ _ _ := ⟨rfl, ft.1⟩
          have hit := ft.2
          obtain ⟨fsn, ftn, c10n, c11n, c12n, i2n, i3n, i4n⟩ := h'.get
          have hmn : MemN _ _ _ _ _ := ⟨rfl, h'.1⟩
          have hin := h'.2
          have hmsn : MemN _ _ _ _ _ := ⟨rfl, fsn.1⟩
          have hisn := fsn.2
          have hmtn : MemN _ _ _ _ _ := ⟨rfl, ftn.1⟩
          have hitn := ftn.2
          obtain ⟨c0, c1, c2, c3, c4, d1, d2, d3, d4⟩ := fs.get
          obtain ⟨x0, x1, x2, x3, x4, y1, y2, y3, y4⟩ := ft.get
          clear r1 r3
          have r1 := i4.2 b (by omega)
          have r3 := i4n.2 b (by omega)
          obtain ⟨hk6, ha6⟩ := hI
          refine .seq (fun K42 hK42 => ?_)
          refine .region ?_
          refine .m rfl rfl rfl (.cmp rfl rfl rfl) ?_
          refine .nil ?_
          refine hK42 _ _ ?_
          refine .seq (fun K43 hK43 => ?_)
          refine .cond rfl (fun h156 => ?_) (fun h156 => ?_)
          ·
           simp only [sps] at h156
           have v1 := hM.hx (b := b) (x := x) (by omega) (by omega)
           have v2 := hN.hx (b := b) (x := x) (by omega) (by rw [← hss]; omega)
           rw [← htt] at v2
           have v3 := hr.co (x := x) (y := (m.t.src.getD b 0).toNat) (by omega) (by omega)
           have v4 := hr.co (x := x) (y := (m.t.tgt.getD b 0).toNat) (by omega) (by omega)
           have u1 : ∀ i, i < ((m.bh.getD b []).getD x []).length → 0 ≤ ((m.bh.getD b []).getD x []).getD i 0 ∧ ((m.bh.getD b []).getD x []).getD i 0 < ((c.getD x []).getD (m.t.tgt.getD b 0).toNat []).length := fun i hi => by
             have := v1.2.2.2.2.2.1 i hi
             rw [← v4.2.2.1] at this
             exact this
           have u2 : ∀ i, i < ((c.getD x []).getD (m.t.src.getD b 0).toNat []).length → 0 ≤ ((c.getD x []).getD (m.t.src.getD b 0).toNat []).getD i 0 ∧ ((c.getD x []).getD (m.t.src.getD b 0).toNat []).getD i 0 < ((n.bh.getD b []).getD x []).length := fun i hi => by
             have := v3.2.2.2 i hi
             rw [← v2.2.2.2.2.1] at this
             exact this
           have r4 := hc.2 x (by omega)
           have w1 := r1.2 x (by omega)
           have w2 := r3.2 x (by omega)
           have w3 := r4.2 (m.t.src.getD b 0).toNat (by omega)
           have w4 := r4.2 (m.t.tgt.getD b 0).toNat (by omega)
           refine .skip ?_
           refine hK43 _ _ ?_
           refine .seq (fun K44 hK44 => ?_)
           refine .block ?_
           refine .seq (fun K45 hK45 => ?_)
           refine .region ?_
           refine .m rfl rfl rfl (.move rfl) ?_
           refine .m rfl rfl rfl (.assign rfl) ?_
           refine .nil ?_
           refine hK45 _ _ ?_
           refine .seq (fun K46 hK46 => ?_)
           refine .regionD mixed_orders_B (.q 0 (.q 1 (.q 2 (.q 3 (.q 4 (.q 5 (.q 6 (.q 7 (.q 8 (.q 9 (.q 10 (.q 11 (.q 12 (.q 13 (.q 14 (.q 15 (.q 16 (.q 17 (.q 18 (.q 19 (.q 20 (.q 21 (.q 22 (.q 24 (.q 25 (.q 26 (.q 27 (.q 28 (.q 29 (.q 30 (.q 31 (.q 32 (.q 33 (.q 34 (.q 35 (.q 36 (.q 37 (.q 38 (.q 39 (.q 40 (.q 41 (.q 42 (.q 43 (.q 44 (.q 45 (.q 46 (.c 23 1 (.c 47 0 (.c 48 0 (.q 49 (.done))))))))))))))))))))))))))))))))))))))))))))))))))) (by kernel_rfl) ?_
           refine .m rfl rfl rfl rfl (.refl _) (.move rfl) ?_
           refine .m rfl rfl rfl rfl (.refl _) (.nilCheck rfl) ?_
           refine .m rfl rfl rfl rfl (.refl _) (.fieldAddr fo_33_4_VProf rfl) ?_
           refine .m rfl rfl rfl rfl (.refl _) (.load on_26_VProf rfl (by assumption)) ?_
           refine .m rfl rfl rfl rfl (.refl _) (.move rfl) ?_
           refine .m rfl rfl rfl rfl (.refl _) (.idxN sl_26_VZ (Intsss.sl (by assumption)) rfl rfl (by omega)) ?_
           refine .m rfl rfl rfl rfl (.refl _) (.loadRR on_23_B (by assumption) rfl (by omega)) ?_
           refine .m rfl rfl rfl rfl (.refl _) (.move rfl) ?_
           refine .m rfl rfl rfl rfl (.refl _) (.idxN sl_23_B (Intss.sl (by assumption)) rfl rfl (by omega)) ?_
           refine .m rfl rfl rfl rfl (.refl _) (.loadR on_22_B (by assumption) rfl (by omega)) ?_
           refine .m rfl rfl rfl rfl (.refl _) (.move rfl) ?_
           refine .m rfl rfl rfl rfl (.refl _) (.move rfl) ?_
           refine .m rfl rfl rfl rfl (.refl _) (.idxN sl_26_VZ (Intsss.sl (by assumption)) rfl rfl (by omega)) ?_
           refine .m rfl rfl rfl rfl (.refl _) (.loadRR on_23_B (by assumption) rfl (by omega)) ?_
           refine .m rfl rfl rfl rfl (.refl _) (.move rfl) ?_
           refine .m rfl rfl rfl rfl (.refl _) (.nilCheck rfl) ?_
           refine .m rfl rfl rfl rfl (.refl _) (.fieldAddr fo_31_2_B rfl) ?_
           refine .m rfl rfl rfl rfl (.refl _) (.load on_22_B rfl (by assumption)) ?_
           refine .m rfl rfl rfl rfl (.refl _) (.move rfl) ?_
           refine .m rfl rfl rfl rfl (.refl _) (.idxN sl_22_A (by assumption) rfl rfl (by omega)) ?_
           refine .m rfl rfl rfl rfl (.refl _) (.loadI on_2_A (by assumption) rfl (by omega)) ?_
           refine .m rfl rfl rfl rfl (.refl _) (.idx1 sl_23_B (Intss.sl (by assumption)) rfl rfl (by omega) (by omega)) ?_
           refine .m rfl rfl rfl rfl (.refl _) (.loadR on_22_B (by assumption) rfl (by omega)) ?_
           refine .m rfl rfl rfl rfl (.refl _) (.move rfl) ?_
           refine .m rfl rfl rfl rfl (.refl _) (.move rfl) ?_
           refine .m rfl rfl rfl rfl (.refl _) (.idxN sl_26_VZ (Intsss.sl (by assumption)) rfl rfl (by omega)) ?_
           refine .m rfl rfl rfl rfl (.refl _) (.loadRR on_23_B (by assumption) rfl (by omega)) ?_
           refine .m rfl rfl rfl rfl (.refl _) (.move rfl) ?_
           refine .m rfl rfl rfl rfl (.refl _) (.nilCheck rfl) ?_
           refine .m rfl rfl rfl rfl (.refl _) (.fieldAddr fo_31_1_B rfl) ?_
           refine .m rfl rfl rfl rfl (.refl _) (.load on_22_B rfl (by assumption)) ?_
           refine .m rfl rfl rfl rfl (.refl _) (.move rfl) ?_
           refine .m rfl rfl rfl rfl (.refl _) (.idxN sl_22_A (by assumption) rfl rfl (by omega)) ?_
           refine .m rfl rfl rfl rfl (.refl _) (.loadI on_2_A (by assumption) rfl (by omega)) ?_
           refine .m rfl rfl rfl rfl (.refl _) (.idx1 sl_23_B (Intss.sl (by assumption)) rfl rfl (by omega) (by omega)) ?_
           refine .m rfl rfl rfl rfl (.refl _) (.loadR on_22_B (by assumption) rfl (by omega)) ?_
           refine .m rfl rfl rfl rfl (.refl _) (.move rfl) ?_
           refine .m rfl rfl rfl rfl (.refl _) (.nilCheck rfl) ?_
           refine .m rfl rfl rfl rfl (.refl _) (.fieldAddr fo_33_4_VProf rfl) ?_
           refine .m rfl rfl rfl rfl (.refl _) (.load on_26_VProf rfl (by assumption)) ?_
           refine .m rfl rfl rfl rfl (.refl _) (.move rfl) ?_
           refine .m rfl rfl rfl rfl (.refl _) (.idxN sl_26_VZ (Intsss.sl (by assumption)) rfl rfl (by omega)) ?_
           refine .m rfl rfl rfl rfl (.refl _) (.loadRR on_23_B (by assumption) rfl (by omega)) ?_
           refine .m rfl rfl rfl rfl (.refl _) (.move rfl) ?_
           refine .m rfl rfl rfl rfl (.refl _) (.idxN sl_23_B (Intss.sl (by assumption)) rfl rfl (by omega)) ?_
           refine .m rfl rfl rfl rfl (.refl _) (.loadR on_22_B (by assumption) rfl (by omega)) ?_
           refine .call1 rfl rfl rfl rfl rfl @Try.call44 rfl (implThen_c) ?_
           rintro _ H181 ⟨le181, g181, rfl, at181, ge181⟩
           have hbl := le181
           refine ⟨hbl, ?_⟩
           have nx_H181 := le181.1
           replace hle := hle.trans le181
           replace lst3 := lst3.le le181
           replace lst5 := lst5.le le181
           replace lst6 := lst6.le le181
           have lt_at181 := GHeap.lt_of_get at181
           replace h := base_h.mono hle
           replace h' := base_h'.mono hle
           replace hc := base_hc.mono hle
           clear fs ft c10 c11 c12 i2 i3 i4 hm hi hms his hmt hit fsn ftn c10n c11n c12n i2n i3n i4n hmn hin hmsn hisn hmtn hitn c0 c1 c2 c3 c4 d1 d2 d3 d4 x0 x1 x2 x3 x4 y1 y2 y3 y4
           obtain ⟨fs, ft, c10, c11, c12, i2, i3, i4⟩ := h.get
           have hm : MemN _ _ _ _ _ := ⟨rfl, h.1⟩
           have hi := h.2
           have hms : MemN _ _ _ _ _ := ⟨rfl, fs.1⟩
           have his := fs.2
           have hmt : MemN _ _ _ _ _ := ⟨rfl, ft.1⟩
           have hit := ft.2
           obtain ⟨fsn, ftn, c10n, c11n, c12n, i2n, i3n, i4n⟩ := h'.get
           have hmn : MemN _ _ _ _ _ := ⟨rfl, h'.1⟩
           have hin := h'.2
           have hmsn : MemN _ _ _ _ _ := ⟨rfl, fsn.1⟩
           have hisn := fsn.2
           have hmtn : MemN _ _ _ _ _ := ⟨rfl, ftn.1⟩
           have hitn := ftn.2
           obtain ⟨c0, c1, c2, c3, c4, d1, d2, d3, d4⟩ := fs.get
           obtain ⟨x0, x1, x2, x3, x4, y1, y2, y3, y4⟩ := ft.get
           clear r1 r3
           have r1 := i4.2 b (by omega)
           have r3 := i4n.2 b (by omega)
           clear r4 w1 w2 w3 w4
           have r4 := hc.2 x (by omega)
           have w1 := r1.2 x (by omega)
           have w2 := r3.2 x (by omega)
           have w3 := r4.2 (m.t.src.getD b 0).toNat (by omega)
           have w4 := r4.2 (m.t.tgt.getD b 0).toNat (by omega)
           have i181 := Ints.of_get at181
           refine .call0 rfl rfl rfl rfl rfl @Try.call44 rfl (implThen_c) ?_
           rintro _ H205 ⟨le205, g205, rfl, at205, ge205⟩
           have nx_H205 := le205.1
           replace hle := hle.trans le205
           replace lst3 := lst3.le le205
           replace lst5 := lst5.le le205
           replace lst6 := lst6.le le205
           replace at181 := le205.2 _ _ at181
           have lt_at205 := GHeap.lt_of_get at205
           replace h := base_h.mono hle
           replace h' := base_h'.mono hle
           replace hc := base_hc.mono hle
           clear fs ft c10 c11 c12 i2 i3 i4 hm hi hms his hmt hit fsn ftn c10n c11n c12n i2n i3n i4n hmn hin hmsn hisn hmtn hitn c0 c1 c2 c3 c4 d1 d2 d3 d4 x0 x1 x2 x3 x4 y1 y2 y3 y4
           obtain ⟨fs, ft, c10, c11, c12, i2, i3, i4⟩ := h.get
           have hm : MemN _ _ _ _ _ := ⟨rfl, h.1⟩
           have hi := h.2
           have hms : MemN _ _ _ _ _ := ⟨rfl, fs.1⟩
           have his := fs.2
           have hmt : MemN _ _ _ _ _ := ⟨rfl, ft.1⟩
           have hit := ft.2
           obtain ⟨fsn, ftn, c10n, c11n, c12n, i2n, i3n, i4n⟩ := h'.get
           have hmn : MemN _ _ _ _ _ := ⟨rfl, h'.1⟩
           have hin := h'.2
           have hmsn : MemN _ _ _ _ _ := ⟨rfl, fsn.1⟩
           have hisn := fsn.2
           have hmtn : MemN _ _ _ _ _ := ⟨rfl, ftn.1⟩
           have hitn := ftn.2
           obtain ⟨c0, c1, c2, c3, c4, d1, d2, d3, d4⟩ := fs.get
           obtain ⟨x0, x1, x2, x3, x4, y1, y2, y3, y4⟩ := ft.get
           clear r1 r3
           have r1 := i4.2 b (by omega)
           have r3 := i4n.2 b (by omega)
           clear r4 w1 w2 w3 w4
           have r4 := hc.2 x (by omega)
           have w1 := r1.2 x (by omega)
           have w2 := r3.2 x (by omega)
           have w3 := r4.2 (m.t.src.getD b 0).toNat (by omega)
           have w4 := r4.2 (m.t.tgt.getD b 0).toNat (by omega)
           clear i181
           have i181 := Ints.of_get at181
           have i205 := Ints.of_get at205
           refine .callQ0 rfl rfl rfl rfl rfl @Try.call45 rfl (same_c (hx := by rw [length_thenL]; omega) (hy := by rw [length_thenL]; omega)) ?_
           refine .m rfl rfl rfl rfl (.refl _) (.not rfl) ?_
           refine .done ?_
           refine hK46 _ _ ?_
           refine .cond rfl (fun h207 => ?_) (fun h207 => ?_)
           ·
            try simp only [sps] at h207
            refine .seq (fun K47 hK47 => ?_)
            refine .region ?_
            refine .m rfl rfl rfl (.assign rfl) ?_
            refine .nil ?_
            refine hK47 _ _ ?_
            refine .ret ?_
            -- leaf e5
            refine hret _ _ ?_
            refine ⟨_, rfl, ?_⟩
            first
            | exact ⟨congrArg _ (B_true ⟨hr, fun a ha y hy => ha3 a (by omega) y (by omega), fun b hb x hx => ha5 b (by omega) x (by omega)⟩), hle⟩
            | exact ⟨congrArg _ (B_false fun hh => h207 (hh.nh b (by omega) x (by omega))), hle⟩
            | exact ⟨congrArg _ (B_false fun hh => h140 (hh.nb a (by omega) y (by omega))), hle⟩
            | exact ⟨congrArg _ (B_false fun hh => h73 ((hh.rows.row x (by omega)).2 y (by omega))), hle⟩
            | exact ⟨congrArg _ (B_false fun hh => by have := (hh.rows.row x (by omega)).1; omega), hle⟩
            | exact ⟨congrArg _ (B_false fun hh => by have := hh.rows.cl; omega), hle⟩
           ·
            try simp only [sps] at h207
            refine .skip ?_
            refine hK44 _ _ ?_
            refine .region ?_
            refine .m rfl rfl rfl (.add rfl rfl rfl (by omega) (by omega)) ?_
            refine .m rfl rfl rfl (.move rfl) ?_
            refine .nil ?_
            refine hKL6 (x + 1) _ _ ?_ ?_ ⟨rfl, rfl, rfl, rfl, rfl, rfl, rfl, rfl, rfl, rfl, trivial⟩
            ·
             refine ⟨lst6, ?_⟩
             refine ⟨by omega, fun x' hx => ?_⟩
             by_cases hltq : x' < x
             · exact ha6 x' hltq
             · obtain rfl : x' = x := by omega
               exact h207
            ·
             omega
          ·
           try simp only [sps] at h156
           refine .exit ?_
           refine hK39 _ _ ?_
           refine .region ?_
           refine .m rfl rfl rfl (.add rfl rfl rfl (by omega) (by omega)) ?_
           refine .m rfl rfl rfl (.move rfl) ?_
           refine .nil ?_
           refine hKL5 (b + 1) _ _ ?_ ?_ ⟨rfl, rfl, rfl, rfl, rfl, rfl, rfl, trivial⟩
           ·
            refine ⟨lst5, ?_⟩
            refine ⟨by omega, fun b' hx => ?_⟩
            by_cases hltq : b' < b
            · exact ha5 b' hltq
            · obtain rfl : b' = b := by omega
              exact fun x hx => ha6 x (by omega)
           ·
            omega
        ·
         try simp only [sps] at h149
         refine .exit ?_
         refine hK35 _ _ ?_
         refine .seq (fun K48 hK48 => ?_)
         refine .region ?_
         refine .m rfl rfl rfl (.assign rfl) ?_
         refine .nil ?_
         refine hK48 _ _ ?_
         refine .ret ?_
         -- leaf e6
         refine hret _ _ ?_
         refine ⟨_, rfl, ?_⟩
         first
         | exact ⟨congrArg _ (B_true ⟨hr, fun a ha y hy => ha3 a (by omega) y (by omega), fun b hb x hx => ha5 b (by omega) x (by omega)⟩), hle⟩
         | exact ⟨congrArg _ (B_false fun hh => h207 (hh.nh b (by omega) x (by omega))), hle⟩
         | exact ⟨congrArg _ (B_false fun hh => h140 (hh.nb a (by omega) y (by omega))), hle⟩
         | exact ⟨congrArg _ (B_false fun hh => h73 ((hh.rows.row x (by omega)).2 y (by omega))), hle⟩
         | exact ⟨congrArg _ (B_false fun hh => by have := (hh.rows.row x (by omega)).1; omega), hle⟩
         | exact ⟨congrArg _ (B_false fun hh => by have := hh.rows.cl; omega), hle⟩
theorem implIsProfunctorMap_c {m n : Prof} {p q : ProfP} {a : Option Addr} {c : L3} {r : Nat → Option Addr} {s : Nat → Nat → Option Addr} {H : GHeap} (hin : m.In H p := by assumption) (hin' : n.In H q := by assumption) (hc : Intsss H a c r s := by assumption)
    (hs : m.Small := by assumption) (hs' : n.Small := by assumption) (hcs : Sm3 c := by assumption) :
    GCalls Try.prog 16 [.agg (m.cells p).toArray, .agg (n.cells q).toArray, .slice a c.length c.length] H (Ret (.tuple #[.bool (B (m.code2 n = 0 ∧ m.IsMap n c)), .int .i64 (m.code2 n)]) H) := by
  refine GCalls.ret rfl ?_
  refine GCalls.body (N := 15) (rs := [.tmp 6, .tmp 7]) Try.func16 rfl rfl rfl rfl (fun Qx hret hend => ?_)
  refine .forget (fr' := [(0, some _), (1, some _), (2, some _)]) ⟨rfl, rfl, rfl, trivial⟩ ?_
  have hle := GHeap.Le.refl H
  have base_hin := hin
  have base_hin' := hin'
  have base_hc := hc
  refine .seq (fun K1 hK1 => ?_)
  refine .region ?_
  refine .r rfl rfl rfl (.boxR rfl sz_33_VProf rfl) ?_
  rintro _ H3 ⟨g3, rfl, le3, ge3, at3⟩
  have nx_H3 := le3.1
  replace hle := hle.trans le3
  have lt_at3 := GHeap.lt_of_get at3
  replace hin := base_hin.mono hle
  replace hin' := base_hin'.mono hle
  replace hc := base_hc.mono hle
  have hb3 : Prof.At _ g3 0 m p := ⟨Mem.of_get at3, hin⟩
  obtain ⟨fs3, ft3, c103, c113, c123, i23, i33, i43⟩ := hb3.get
  have hm3 : MemN _ _ _ _ _ := ⟨rfl, hb3.1⟩
  have hi3 := hb3.2
  have hms3 : MemN _ _ _ _ _ := ⟨rfl, fs3.1⟩
  have his3 := fs3.2
  have hmt3 : MemN _ _ _ _ _ := ⟨rfl, ft3.1⟩
  have hit3 := ft3.2
  refine .r rfl rfl rfl (.boxR rfl sz_33_VProf rfl) ?_
  rintro _ H4 ⟨g4, rfl, le4, ge4, at4⟩
  have nx_H4 := le4.1
  replace hle := hle.trans le4
  replace at3 := le4.2 _ _ at3
  have lt_at4 := GHeap.lt_of_get at4
  replace hin := base_hin.mono hle
  replace hin' := base_hin'.mono hle
  replace hc := base_hc.mono hle
  clear hb3 fs3 ft3 c103 c113 c123 i23 i33 i43 hm3 hi3 hms3 his3 hmt3 hit3
  have hb3 : Prof.At _ g3 0 m p := ⟨Mem.of_get at3, hin⟩
  obtain ⟨fs3, ft3, c103, c113, c123, i23, i33, i43⟩ := hb3.get
  have hm3 : MemN _ _ _ _ _ := ⟨rfl, hb3.1⟩
  have hi3 := hb3.2
  have hms3 : MemN _ _ _ _ _ := ⟨rfl, fs3.1⟩
  have his3 := fs3.2
  have hmt3 : MemN _ _ _ _ _ := ⟨rfl, ft3.1⟩
  have hit3 := ft3.2
  have hb4 : Prof.At _ g4 0 n q := ⟨Mem.of_get at4, hin'⟩
  obtain ⟨fs4, ft4, c104, c114, c124, i24, i34, i44⟩ := hb4.get
  have hm4 : MemN _ _ _ _ _ := ⟨rfl, hb4.1⟩
  have hi4 := hb4.2
  have hms4 : MemN _ _ _ _ _ := ⟨rfl, fs4.1⟩
  have his4 := fs4.2
  have hmt4 : MemN _ _ _ _ _ := ⟨rfl, ft4.1⟩
  have hit4 := ft4.2
  refine .m rfl rfl rfl (.assign rfl) ?_
  refine .m rfl rfl rfl (.assign rfl) ?_
  refine .nil ?_
  refine hK1 _ _ ?_
  refine .seq (fun K2 hK2 => ?_)
  refine .seq (fun K3 hK3 => ?_)
  refine .region ?_
  refine .callQ rfl rfl rfl rfl @Try.call34 rfl (parallelProfunctors_c) ?_
  refine .m rfl rfl rfl (.assign rfl) ?_
  refine .nil ?_
  refine hK3 _ _ ?_
  refine .seq (fun K4 hK4 => ?_)
  refine .region ?_
  refine .m rfl rfl rfl (.move rfl) ?_
  refine .m rfl rfl rfl (.cmp rfl rfl rfl) ?_
  refine .nil ?_
  refine hK4 _ _ ?_
  refine .cond rfl (fun h11 => ?_) (fun h11 => ?_)
  ·
   try simp only [sps] at h11
   refine .seq (fun K5 hK5 => ?_)
   refine .region ?_
   refine .m rfl rfl rfl (.move rfl) ?_
   refine .m rfl rfl rfl (.assign rfl) ?_
   refine .m rfl rfl rfl (.assign rfl) ?_
   refine .nil ?_
   refine hK5 _ _ ?_
   refine .ret ?_
   -- leaf e1
   refine hret _ _ ?_
   refine ⟨_, _, rfl, rfl, ?_⟩
   first
   | exact ⟨by rw [B_false fun hh => absurd hh.1 (by assumption)], hle⟩
   | exact ⟨by rw [h11, B_congr (q := (0 : Int) = 0 ∧ m.IsMap n c) ⟨fun hh => hh, fun hh => hh⟩, B_congr (p := (0 : Int) = 0 ∧ m.IsMap n c) (q := m.IsMap n c) ⟨fun hh => hh.2, fun hh => ⟨rfl, hh⟩⟩], hle⟩
  ·
   simp only [sps] at h11
   obtain ⟨⟨hI, hJ⟩, hss, htt⟩ := Prof.of_code2 h11
   have hM := hI.1
   have hN := hJ.1
   refine .skip ?_
   refine hK2 _ _ ?_
   refine .seq (fun K6 hK6 => ?_)
   refine .region ?_
   refine .m rfl rfl rfl (.move rfl) ?_
   refine .callQ rfl rfl rfl rfl @Try.call35 rfl (isMapTo_c) ?_
   refine .m rfl rfl rfl (.assign rfl) ?_
   refine .m rfl rfl rfl (.assign rfl) ?_
   refine .nil ?_
   refine hK6 _ _ ?_
   refine .ret ?_
   -- leaf e2
   refine hret _ _ ?_
   refine ⟨_, _, rfl, rfl, ?_⟩
   first
   | exact ⟨by rw [B_false fun hh => absurd hh.1 (by assumption)], hle⟩
   | exact ⟨by rw [h11, B_congr (q := (0 : Int) = 0 ∧ m.IsMap n c) ⟨fun hh => hh, fun hh => hh⟩, B_congr (p := (0 : Int) = 0 ∧ m.IsMap n c) (q := m.IsMap n c) ⟨fun hh => hh.2, fun hh => ⟨rfl, hh⟩⟩], hle⟩
theorem l32Alike_c {m n : Prof} {p q : ProfP} {H : GHeap} (hin : m.In H p := by assumption) (hin' : n.In H q := by assumption) (hs : m.Small := by assumption) (hs' : n.Small := by assumption) :
    GCalls Try.prog 32 [.agg (m.cells p).toArray, .agg (n.cells q).toArray] H (Ret (.int .i64 (m.code2 n)) H) := by
  refine GCalls.ret rfl ?_
  have hs1 := hs
  obtain ⟨w1, w2, _⟩ := hs1
  have hs1' := hs'
  obtain ⟨w1', w2', _⟩ := hs1'
  refine GCalls.body (N := 27) (rs := [.tmp 4]) Try.func32 rfl rfl rfl rfl (fun Qx hret hend => ?_)
  refine .forget (fr' := [(0, some _), (1, some _)]) ⟨rfl, rfl, trivial⟩ ?_
  have hle := GHeap.Le.refl H
  have base_hin := hin
  have base_hin' := hin'
  refine .seq (fun K1 hK1 => ?_)
  refine .region ?_
  refine .r rfl rfl rfl (.boxR rfl sz_33_VProf rfl) ?_
  rintro _ H2 ⟨g2, rfl, le2, ge2, at2⟩
  have nx_H2 := le2.1
  replace hle := hle.trans le2
  have lt_at2 := GHeap.lt_of_get at2
  replace hin := base_hin.mono hle
  replace hin' := base_hin'.mono hle
  have hb2 : Prof.At _ g2 0 m p := ⟨Mem.of_get at2, hin⟩
  obtain ⟨fs2, ft2, c102, c112, c122, i22, i32, i42⟩ := hb2.get
  have hm2 : MemN _ _ _ _ _ := ⟨rfl, hb2.1⟩
  have hi2 := hb2.2
  have hms2 : MemN _ _ _ _ _ := ⟨rfl, fs2.1⟩
  have his2 := fs2.2
  have hmt2 : MemN _ _ _ _ _ := ⟨rfl, ft2.1⟩
  have hit2 := ft2.2
  refine .r rfl rfl rfl (.boxR rfl sz_33_VProf rfl) ?_
  rintro _ H3 ⟨g3, rfl, le3, ge3, at3⟩
  have nx_H3 := le3.1
  replace hle := hle.trans le3
  replace at2 := le3.2 _ _ at2
  have lt_at3 := GHeap.lt_of_get at3
  replace hin := base_hin.mono hle
  replace hin' := base_hin'.mono hle
  clear hb2 fs2 ft2 c102 c112 c122 i22 i32 i42 hm2 hi2 hms2 his2 hmt2 hit2
  have hb2 : Prof.At _ g2 0 m p := ⟨Mem.of_get at2, hin⟩
  obtain ⟨fs2, ft2, c102, c112, c122, i22, i32, i42⟩ := hb2.get
  have hm2 : MemN _ _ _ _ _ := ⟨rfl, hb2.1⟩
  have hi2 := hb2.2
  have hms2 : MemN _ _ _ _ _ := ⟨rfl, fs2.1⟩
  have his2 := fs2.2
  have hmt2 : MemN _ _ _ _ _ := ⟨rfl, ft2.1⟩
  have hit2 := ft2.2
  have hb3 : Prof.At _ g3 0 n q := ⟨Mem.of_get at3, hin'⟩
  obtain ⟨fs3, ft3, c103, c113, c123, i23, i33, i43⟩ := hb3.get
  have hm3 : MemN _ _ _ _ _ := ⟨rfl, hb3.1⟩
  have hi3 := hb3.2
  have hms3 : MemN _ _ _ _ _ := ⟨rfl, fs3.1⟩
  have his3 := fs3.2
  have hmt3 : MemN _ _ _ _ _ := ⟨rfl, ft3.1⟩
  have hit3 := ft3.2
  refine .m rfl rfl rfl (.assign rfl) ?_
  refine .nil ?_
  refine hK1 _ _ ?_
  refine .seq (fun K2 hK2 => ?_)
  refine .seq (fun K3 hK3 => ?_)
  refine .region ?_
  refine .m rfl rfl rfl (.loadM ag_33_VProf rfl ⟨rfl, Mem.of_get at2⟩) ?_
  refine .callQ rfl rfl rfl rfl @Try.call20 rfl (l22Is_c) ?_
  refine .m rfl rfl rfl (.not rfl) ?_
  refine .m rfl rfl rfl (.move rfl) ?_
  refine .split (fun h8 => ?_) (fun h8 => ?_)
  ·
   try simp only [sps] at h8
   refine .sg rfl rfl rfl rfl rfl ?_
   refine .sg rfl rfl rfl rfl rfl ?_
   refine .sg rfl rfl rfl rfl rfl ?_
   refine .m rfl rfl rfl (.pickT rfl rfl) ?_
   refine .nil ?_
   refine hK3 _ _ ?_
   refine .condT rfl ?_
   refine .seq (fun K4 hK4 => ?_)
   refine .region ?_
   refine .m rfl rfl rfl (.assign rfl) ?_
   refine .nil ?_
   refine hK4 _ _ ?_
   refine .ret ?_
   -- leaf e1
   refine hret _ _ ?_
   refine ⟨_, rfl, ?_⟩
   first
   | exact ⟨by rw [Prof.code2_nis fun hh => absurd hh.1 (by assumption)], hle⟩
   | exact ⟨by rw [Prof.code2_nis fun hh => absurd hh.2 (by assumption)], hle⟩
   | exact ⟨by rw [Prof.code2_ok ⟨by assumption, by assumption⟩ ⟨by assumption, by assumption⟩], hle⟩
   | exact ⟨by rw [Prof.code2_ne ⟨by assumption, by assumption⟩ fun hh => absurd hh.1 (by assumption)], hle⟩
   | exact ⟨by rw [Prof.code2_ne ⟨by assumption, by assumption⟩ fun hh => absurd hh.2 (by assumption)], hle⟩
  ·
   try simp only [sps] at h8
   refine .mg rfl rfl rfl rfl rfl (.loadM ag_33_VProf rfl ⟨rfl, Mem.of_get at3⟩) ?_
   refine .callQg rfl rfl rfl rfl rfl rfl @Try.call20 rfl (l22Is_c) ?_
   refine .mg rfl rfl rfl rfl rfl (.not rfl) ?_
   refine .m rfl rfl rfl (.pickF rfl rfl) ?_
   refine .nil ?_
   refine hK3 _ _ ?_
   refine .cond rfl (fun h12 => ?_) (fun h12 => ?_)
   ·
    try simp only [sps] at h12
    refine .seq (fun K5 hK5 => ?_)
    refine .region ?_
    refine .m rfl rfl rfl (.assign rfl) ?_
    refine .nil ?_
    refine hK5 _ _ ?_
    refine .ret ?_
    -- leaf e2
    refine hret _ _ ?_
    refine ⟨_, rfl, ?_⟩
    first
    | exact ⟨by rw [Prof.code2_nis fun hh => absurd hh.1 (by assumption)], hle⟩
    | exact ⟨by rw [Prof.code2_nis fun hh => absurd hh.2 (by assumption)], hle⟩
    | exact ⟨by rw [Prof.code2_ok ⟨by assumption, by assumption⟩ ⟨by assumption, by assumption⟩], hle⟩
    | exact ⟨by rw [Prof.code2_ne ⟨by assumption, by assumption⟩ fun hh => absurd hh.1 (by assumption)], hle⟩
    | exact ⟨by rw [Prof.code2_ne ⟨by assumption, by assumption⟩ fun hh => absurd hh.2 (by assumption)], hle⟩
   ·
    try simp only [sps] at h12
    refine .skip ?_
    refine hK2 _ _ ?_
    refine .seq (fun K6 hK6 => ?_)
    refine .seq (fun K7 hK7 => ?_)
    refine .region ?_
    refine .m rfl rfl rfl (.fieldAddr fo_33_0_VProf rfl) ?_
    refine .m rfl rfl rfl (.loadM ag_31_D rfl (by assumption)) ?_
    refine .m rfl rfl rfl (.fieldAddr fo_33_0_VProf rfl) ?_
    refine .m rfl rfl rfl (.loadM ag_31_D rfl (by assumption)) ?_
    refine .callQ rfl rfl rfl rfl @Try.call47 rfl (l02Same_c) ?_
    refine .m rfl rfl rfl (.not rfl) ?_
    refine .m rfl rfl rfl (.move rfl) ?_
    refine .split (fun h19 => ?_) (fun h19 => ?_)
    ·
     try simp only [sps] at h19
     refine .sg rfl rfl rfl rfl rfl ?_
     refine .sg rfl rfl rfl rfl rfl ?_
     refine .sg rfl rfl rfl rfl rfl ?_
     refine .sg rfl rfl rfl rfl rfl ?_
     refine .sg rfl rfl rfl rfl rfl ?_
     refine .sg rfl rfl rfl rfl rfl ?_
     refine .m rfl rfl rfl (.pickT rfl rfl) ?_
     refine .nil ?_
     refine hK7 _ _ ?_
     refine .condT rfl ?_
     refine .seq (fun K8 hK8 => ?_)
     refine .region ?_
     refine .m rfl rfl rfl (.assign rfl) ?_
     refine .nil ?_
     refine hK8 _ _ ?_
     refine .ret ?_
     -- leaf e3
     refine hret _ _ ?_
     refine ⟨_, rfl, ?_⟩
     first
     | exact ⟨by rw [Prof.code2_nis fun hh => absurd hh.1 (by assumption)], hle⟩
     | exact ⟨by rw [Prof.code2_nis fun hh => absurd hh.2 (by assumption)], hle⟩
     | exact ⟨by rw [Prof.code2_ok ⟨by assumption, by assumption⟩ ⟨by assumption, by assumption⟩], hle⟩
     | exact ⟨by rw [Prof.code2_ne ⟨by assumption, by assumption⟩ fun hh => absurd hh.1 (by assumption)], hle⟩
     | exact ⟨by rw [Prof.code2_ne ⟨by assumption, by assumption⟩ fun hh => absurd hh.2 (by assumption)], hle⟩
    ·
     try simp only [sps] at h19
     refine .mg rfl rfl rfl rfl rfl (.fieldAddr fo_33_1_VProf rfl) ?_
     refine .mg rfl rfl rfl rfl rfl (.loadM ag_31_D rfl (by assumption)) ?_
     refine .mg rfl rfl rfl rfl rfl (.fieldAddr fo_33_1_VProf rfl) ?_
     refine .mg rfl rfl rfl rfl rfl (.loadM ag_31_D rfl (by assumption)) ?_
     refine .callQg rfl rfl rfl rfl rfl rfl @Try.call47 rfl (l02Same_c) ?_
     refine .mg rfl rfl rfl rfl rfl (.not rfl) ?_
     refine .m rfl rfl rfl (.pickF rfl rfl) ?_
     refine .nil ?_
     refine hK7 _ _ ?_
     refine .cond rfl (fun h26 => ?_) (fun h26 => ?_)
     ·
      try simp only [sps] at h26
      refine .seq (fun K9 hK9 => ?_)
      refine .region ?_
      refine .m rfl rfl rfl (.assign rfl) ?_
      refine .nil ?_
      refine hK9 _ _ ?_
      refine .ret ?_
      -- leaf e4
      refine hret _ _ ?_
      refine ⟨_, rfl, ?_⟩
      first
      | exact ⟨by rw [Prof.code2_nis fun hh => absurd hh.1 (by assumption)], hle⟩
      | exact ⟨by rw [Prof.code2_nis fun hh => absurd hh.2 (by assumption)], hle⟩
      | exact ⟨by rw [Prof.code2_ok ⟨by assumption, by assumption⟩ ⟨by assumption, by assumption⟩], hle⟩
      | exact ⟨by rw [Prof.code2_ne ⟨by assumption, by assumption⟩ fun hh => absurd hh.1 (by assumption)], hle⟩
      | exact ⟨by rw [Prof.code2_ne ⟨by assumption, by assumption⟩ fun hh => absurd hh.2 (by assumption)], hle⟩
     ·
      try simp only [sps] at h26
      refine .skip ?_
      refine hK6 _ _ ?_
      refine .seq (fun K10 hK10 => ?_)
      refine .region ?_
      refine .m rfl rfl rfl (.assign rfl) ?_
      refine .nil ?_
      refine hK10 _ _ ?_
      refine .ret ?_
      -- leaf e5
      refine hret _ _ ?_
      refine ⟨_, rfl, ?_⟩
      first
      | exact ⟨by rw [Prof.code2_nis fun hh => absurd hh.1 (by assumption)], hle⟩
      | exact ⟨by rw [Prof.code2_nis fun hh => absurd hh.2 (by assumption)], hle⟩
      | exact ⟨by rw [Prof.code2_ok ⟨by assumption, by assumption⟩ ⟨by assumption, by assumption⟩], hle⟩
      | exact ⟨by rw [Prof.code2_ne ⟨by assumption, by assumption⟩ fun hh => absurd hh.1 (by assumption)], hle⟩
      | exact ⟨by rw [Prof.code2_ne ⟨by assumption, by assumption⟩ fun hh => absurd hh.2 (by assumption)], hle⟩
set_option maxHeartbeats 8000000 in
theorem l32Map_c {m n : Prof} {p q : ProfP} {a : Option Addr} {c : L3} {r : Nat → Option Addr} {s : Nat → Nat → Option Addr} {H : GHeap} (hin : m.In H p := by assumption) (hin' : n.In H q := by assumption) (hc : Intsss H a c r s := by assumption)
    (hM : m.Shape := by assumption) (hN : n.Shape := by assumption) (hss : m.s = n.s := by assumption) (htt : m.t = n.t := by assumption) (hcs : Sm3 c := by assumption) :
    GCalls Try.prog 33 [.agg (m.cells p).toArray, .agg (n.cells q).toArray, .slice a c.length c.length] H (Ret (.bool (B (m.IsMap n c))) H) := by
  refine GCalls.ret rfl ?_
  refine GCalls.body (N := 193) (rs := [.tmp 6]) Try.func33 rfl rfl rfl rfl (fun Qx hret hend => ?_)
  refine .forget (fr' := [(0, some _), (1, some _), (2, some _)]) ⟨rfl, rfl, rfl, trivial⟩ ?_
  have hle := GHeap.Le.refl H
  have base_hin := hin
  have base_hin' := hin'
  have base_hc := hc
  have hC := hM.s.1
  have hD := hM.t.1
  have q1 := hC.tl
  have q2 := hD.tl
  have q3 := hM.z.sl
  have q4 := hN.z.sl
  rw [← hss] at q4
  have q6 := hM.z.bl
  have q7 := hM.z.hl
  have q8 := hN.z.bl
  have q9 := hN.z.hl
  rw [← hss] at q8
  rw [← htt] at q9
  have q10 := hC.n40
  have q11 := hD.n40
  have q12 := hC.obj
  have q13 := hD.obj
  obtain ⟨k1, k2⟩ := hcs
  refine .seq (fun K1 hK1 => ?_)
  refine .region ?_
  refine .r rfl rfl rfl (.boxR rfl sz_33_VProf rfl) ?_
  rintro _ H3 ⟨g3, rfl, le3, ge3, at3⟩
  have nx_H3 := le3.1
  replace hle := hle.trans le3
  have lt_at3 := GHeap.lt_of_get at3
  replace hin := base_hin.mono hle
  replace hin' := base_hin'.mono hle
  replace hc := base_hc.mono hle
  have hb3 : Prof.At _ g3 0 m p := ⟨Mem.of_get at3, hin⟩
  obtain ⟨fs3, ft3, c103, c113, c123, i23, i33, i43⟩ := hb3.get
  have hm3 : MemN _ _ _ _ _ := ⟨rfl, hb3.1⟩
  have hi3 := hb3.2
  have hms3 : MemN _ _ _ _ _ := ⟨rfl, fs3.1⟩
  have his3 := fs3.2
  have hmt3 : MemN _ _ _ _ _ := ⟨rfl, ft3.1⟩
  have hit3 := ft3.2
  refine .r rfl rfl rfl (.boxR rfl sz_33_VProf rfl) ?_
  rintro _ H4 ⟨g4, rfl, le4, ge4, at4⟩
  have nx_H4 := le4.1
  replace hle := hle.trans le4
  replace at3 := le4.2 _ _ at3
  have lt_at4 := GHeap.lt_of_get at4
  replace hin := base_hin.mono hle
  replace hin' := base_hin'.mono hle
  replace hc := base_hc.mono hle
  clear hb3 fs3 ft3 c103 c113 c123 i23 i33 i43 hm3 hi3 hms3 his3 hmt3 hit3
  have hb3 : Prof.At _ g3 0 m p := ⟨Mem.of_get at3, hin⟩
  obtain ⟨fs3, ft3, c103, c113, c123, i23, i33, i43⟩ := hb3.get
  have hm3 : MemN _ _ _ _ _ := ⟨rfl, hb3.1⟩
  have hi3 := hb3.2
  have hms3 : MemN _ _ _ _ _ := ⟨rfl, fs3.1⟩
  have his3 := fs3.2
  have hmt3 : MemN _ _ _ _ _ := ⟨rfl, ft3.1⟩
  have hit3 := ft3.2
  have hb4 : Prof.At _ g4 0 n q := ⟨Mem.of_get at4, hin'⟩
  obtain ⟨fs4, ft4, c104, c114, c124, i24, i34, i44⟩ := hb4.get
  have hm4 : MemN _ _ _ _ _ := ⟨rfl, hb4.1⟩
  have hi4 := hb4.2
  have hms4 : MemN _ _ _ _ _ := ⟨rfl, fs4.1⟩
  have his4 := fs4.2
  have hmt4 : MemN _ _ _ _ _ := ⟨rfl, ft4.1⟩
  have hit4 := ft4.2
  refine .m rfl rfl rfl (.assign rfl) ?_
  refine .nil ?_
  refine hK1 _ _ ?_
  refine .seq (fun K2 hK2 => ?_)
  refine .regionD mixed_orders_B (.q 0 (.q 1 (.q 2 (.q 3 (.or (.c 4 1 (.c 5 1 (.c 6 1 (.c 7 0 .done)))) (.c 5 1 (.c 4 1 (.c 6 1 (.c 7 0 .done))))))))) (by kernel_rfl) ?_
  refine .m rfl rfl rfl rfl (.refl _) (.fieldAddr fo_33_0_VProf rfl) ?_
  refine .m rfl rfl rfl rfl (.refl _) (.loadM ag_31_D rfl (by assumption)) ?_
  refine .m rfl rfl rfl rfl (.refl _) (.fieldAddr fo_33_1_VProf rfl) ?_
  refine .m rfl rfl rfl rfl (.refl _) (.loadM ag_31_D rfl (by assumption)) ?_
  refine .two [(2, some _), (3, some _), (4, some _)] rfl rfl rfl rfl rfl rfl rfl rfl rfl rfl rfl rfl rfl rfl rfl rfl rfl rfl ze_31_E rfl sz_31_D rfl rfl rfl rfl rfl (by rfl) (by rfl) rfl rfl rfl rfl rfl ⟨rfl, rfl, rfl, trivial⟩ rfl rfl (.refl _) ?_
  intro g7 g8 H8 fr8 le8 ge7 ge8 at7 at8 hsub8
  have nx_H8 := le8.1
  replace hle := hle.trans le8
  replace at3 := le8.2 _ _ at3
  replace at4 := le8.2 _ _ at4
  have lt_at7 := GHeap.lt_of_get at7
  have lt_at8 := GHeap.lt_of_get at8
  replace hin := base_hin.mono hle
  replace hin' := base_hin'.mono hle
  replace hc := base_hc.mono hle
  clear hb3 fs3 ft3 c103 c113 c123 i23 i33 i43 hm3 hi3 hms3 his3 hmt3 hit3
  have hb3 : Prof.At _ g3 0 m p := ⟨Mem.of_get at3, hin⟩
  obtain ⟨fs3, ft3, c103, c113, c123, i23, i33, i43⟩ := hb3.get
  have hm3 : MemN _ _ _ _ _ := ⟨rfl, hb3.1⟩
  have hi3 := hb3.2
  have hms3 : MemN _ _ _ _ _ := ⟨rfl, fs3.1⟩
  have his3 := fs3.2
  have hmt3 : MemN _ _ _ _ _ := ⟨rfl, ft3.1⟩
  have hit3 := ft3.2
  clear hb4 fs4 ft4 c104 c114 c124 i24 i34 i44 hm4 hi4 hms4 his4 hmt4 hit4
  have hb4 : Prof.At _ g4 0 n q := ⟨Mem.of_get at4, hin'⟩
  obtain ⟨fs4, ft4, c104, c114, c124, i24, i34, i44⟩ := hb4.get
  have hm4 : MemN _ _ _ _ _ := ⟨rfl, hb4.1⟩
  have hi4 := hb4.2
  have hms4 : MemN _ _ _ _ _ := ⟨rfl, fs4.1⟩
  have his4 := fs4.2
  have hmt4 : MemN _ _ _ _ _ := ⟨rfl, ft4.1⟩
  have hit4 := ft4.2
  have hb7 : Cat.At _ g7 0 m.s p.s := ⟨Mem.of_get at7, his3⟩
  obtain ⟨c07, c17, c27, c37, c47, i17, i27, i37, i47⟩ := hb7.get
  have hm7 : MemN _ _ _ _ _ := ⟨rfl, hb7.1⟩
  have hi7 := hb7.2
  have hb8 : Cat.At _ g8 0 m.t p.t := ⟨Mem.of_get at8, hit3⟩
  obtain ⟨c08, c18, c28, c38, c48, i18, i28, i38, i48⟩ := hb8.get
  have hm8 : MemN _ _ _ _ _ := ⟨rfl, hb8.1⟩
  have hi8 := hb8.2
  refine hK2 _ _ ?_
  refine .forget hsub8 ?_
  refine .seq (fun K3 hK3 => ?_)
  refine .seq (fun K4 hK4 => ?_)
  refine .region ?_
  refine .m rfl rfl rfl (.move rfl) ?_
  refine .m rfl rfl rfl (.len sl_26_VZ rfl) ?_
  refine .m rfl rfl rfl (.fieldAddr fo_31_0_B rfl) ?_
  refine .m rfl rfl rfl (.load on_2_A rfl (by assumption)) ?_
  refine .m rfl rfl rfl (.cmp rfl rfl rfl) ?_
  refine .nil ?_
  refine hK4 _ _ ?_
  refine .cond rfl (fun h23 => ?_) (fun h23 => ?_)
  ·
   try simp only [sps] at h23
   refine .seq (fun K5 hK5 => ?_)
   refine .region ?_
   refine .m rfl rfl rfl (.assign rfl) ?_
   refine .nil ?_
   refine hK5 _ _ ?_
   refine .ret ?_
   -- leaf e1
   refine hret _ _ ?_
   refine ⟨_, rfl, ?_⟩
   first
   | exact ⟨congrArg _ (B_true ⟨hr, fun a ha y hy => ha3 a (by omega) y (by omega), fun b hb x hx => ha5 b (by omega) x (by omega)⟩), hle⟩
   | exact ⟨congrArg _ (B_false fun hh => h192 (hh.nh b (by omega) x (by omega))), hle⟩
   | exact ⟨congrArg _ (B_false fun hh => h137 (hh.nb a (by omega) y (by omega))), hle⟩
   | exact ⟨congrArg _ (B_false fun hh => by rw [((hh.rows.row x (by omega)).2 y (by omega)).2] at h82; cases h82), hle⟩
   | exact ⟨congrArg _ (B_false fun hh => h64 ((hh.rows.row x (by omega)).2 y (by omega)).1), hle⟩
   | exact ⟨congrArg _ (B_false fun hh => by have := (hh.rows.row x (by omega)).1; omega), hle⟩
   | exact ⟨congrArg _ (B_false fun hh => by have := hh.rows.cl; omega), hle⟩
  ·
   try simp only [sps] at h23
   refine .skip ?_
   refine hK3 _ _ ?_
   refine .seq (fun K6 hK6 => ?_)
   refine .seq (fun K7 hK7 => ?_)
   refine .region ?_
   refine .m rfl rfl rfl (.assign rfl) ?_
   refine .nil ?_
   refine hK7 _ _ ?_
   refine .block ?_
   refine .loopR (σ := Nat) [(2, some _), (3, some _), (4, some _), (7, some _), (8, some _)] (fun x => [(9, some (.int .i64 (x : Int)))]) (fun x H' => H8 = H' ∧ (x : Int) ≤ c.length ∧ ∀ x', x' < x → ((c.getD x' []).length : Int) = m.t.obj ∧ ∀ y, y < (c.getD x' []).length → m.CoOk n c x' y) (fun x => (c.length - x : Int).toNat) (0) ⟨rfl, rfl, rfl, rfl, rfl, trivial⟩ ⟨rfl, trivial⟩ ?_ ?_
   ·
    refine ⟨rfl, ?_⟩
    exact ⟨by omega, fun _ _ => by omega⟩
   ·
    rintro x _ ⟨rfl, hI⟩ KL1 hKL1
    refine .forget (fr' := [(9, some (.int .i64 (x : Int))), (2, some _), (3, some _), (4, some _), (7, some _), (8, some _)]) ⟨rfl, rfl, rfl, rfl, rfl, rfl, trivial⟩ ?_
    obtain ⟨hk1, ha1⟩ := hI
    refine .seq (fun K8 hK8 => ?_)
    refine .seq (fun K9 hK9 => ?_)
    refine .region ?_
    refine .m rfl rfl rfl (.move rfl) ?_
    refine .m rfl rfl rfl (.move rfl) ?_
    refine .m rfl rfl rfl (.len sl_26_VZ rfl) ?_
    refine .m rfl rfl rfl (.cmp rfl rfl rfl) ?_
    refine .nil ?_
    refine hK9 _ _ ?_
    refine .cond rfl (fun h27 => ?_) (fun h27 => ?_)
    ·
     simp only [sps] at h27
     have r1 := hc.2 x (by omega)
     have r2 := k2 x
     have r3 := hM.z.row x (by omega)
     have r4 := hN.z.row x (by omega)
     rw [← htt] at r4
     have r5 := i23.2 x (by omega)
     have r6 := i24.2 x (by omega)
     refine .skip ?_
     refine hK8 _ _ ?_
     refine .seq (fun K10 hK10 => ?_)
     refine .block ?_
     refine .seq (fun K11 hK11 => ?_)
     refine .seq (fun K12 hK12 => ?_)
     refine .regionD mixed_orders_B (.q 0 (.q 1 (.q 2 (.q 3 (.q 4 (.q 5 (.q 6 (.q 7 (.done))))))))) (by kernel_rfl) ?_
     refine .m rfl rfl rfl rfl (.refl _) (.move rfl) ?_
     refine .m rfl rfl rfl rfl (.refl _) (.move rfl) ?_
     refine .m rfl rfl rfl rfl (.refl _) (.idxN sl_26_VZ (Intsss.sl (by assumption)) rfl rfl (by omega)) ?_
     refine .m rfl rfl rfl rfl (.refl _) (.loadRR on_23_B (by assumption) rfl (by omega)) ?_
     refine .m rfl rfl rfl rfl (.refl _) (.len sl_23_B rfl) ?_
     refine .m rfl rfl rfl rfl (.refl _) (.fieldAddr fo_31_0_B rfl) ?_
     refine .m rfl rfl rfl rfl (.refl _) (.load on_2_A rfl (by assumption)) ?_
     refine .m rfl rfl rfl rfl (.refl _) (.cmp rfl rfl rfl) ?_
     refine .done ?_
     refine hK12 _ _ ?_
     refine .cond rfl (fun h37 => ?_) (fun h37 => ?_)
     ·
      try simp only [sps] at h37
      refine .seq (fun K13 hK13 => ?_)
      refine .region ?_
      refine .m rfl rfl rfl (.assign rfl) ?_
      refine .nil ?_
      refine hK13 _ _ ?_
      refine .ret ?_
      -- leaf e2
      refine hret _ _ ?_
      refine ⟨_, rfl, ?_⟩
      first
      | exact ⟨congrArg _ (B_true ⟨hr, fun a ha y hy => ha3 a (by omega) y (by omega), fun b hb x hx => ha5 b (by omega) x (by omega)⟩), hle⟩
      | exact ⟨congrArg _ (B_false fun hh => h192 (hh.nh b (by omega) x (by omega))), hle⟩
      | exact ⟨congrArg _ (B_false fun hh => h137 (hh.nb a (by omega) y (by omega))), hle⟩
      | exact ⟨congrArg _ (B_false fun hh => by rw [((hh.rows.row x (by omega)).2 y (by omega)).2] at h82; cases h82), hle⟩
      | exact ⟨congrArg _ (B_false fun hh => h64 ((hh.rows.row x (by omega)).2 y (by omega)).1), hle⟩
      | exact ⟨congrArg _ (B_false fun hh => by have := (hh.rows.row x (by omega)).1; omega), hle⟩
      | exact ⟨congrArg _ (B_false fun hh => by have := hh.rows.cl; omega), hle⟩
     ·
      try simp only [sps] at h37
      refine .skip ?_
      refine hK11 _ _ ?_
      refine .seq (fun K14 hK14 => ?_)
      refine .region ?_
      refine .m rfl rfl rfl (.assign rfl) ?_
      refine .nil ?_
      refine hK14 _ _ ?_
      refine .block ?_
      refine .loopR (σ := Nat) [(2, some _), (3, some _), (4, some _), (7, some _), (8, some _), (9, some _)] (fun y => [(10, some (.int .i64 (y : Int)))]) (fun y H' => H8 = H' ∧ (y : Int) ≤ (c.getD x []).length ∧ ∀ y', y' < y → m.CoOk n c x y') (fun y => ((c.getD x []).length - y : Int).toNat) (0) ⟨rfl, rfl, rfl, rfl, rfl, rfl, trivial⟩ ⟨rfl, trivial⟩ ?_ ?_
      ·
       refine ⟨rfl, ?_⟩
       exact ⟨by omega, fun _ _ => by omega⟩
      ·
       rintro y _ ⟨rfl, hI⟩ KL2 hKL2
       refine .forget (fr' := [(10, some (.int .i64 (y : Int))), (2, some _), (3, some _), (4, some _), (7, some _), (8, some _), (9, some _)]) ⟨rfl, rfl, rfl, rfl, rfl, rfl, rfl, trivial⟩ ?_
       obtain ⟨hk2, ha2⟩ := hI
       refine .seq (fun K15 hK15 => ?_)
       refine .seq (fun K16 hK16 => ?_)
       refine .region ?_
       refine .m rfl rfl rfl (.move rfl) ?_
       refine .m rfl rfl rfl (.move rfl) ?_
       refine .m rfl rfl rfl (.move rfl) ?_
       refine .m rfl rfl rfl (.idxN sl_26_VZ (Intsss.sl (by assumption)) rfl rfl (by omega)) ?_
       refine .m rfl rfl rfl (.loadRR on_23_B (by assumption) rfl (by omega)) ?_
       refine .m rfl rfl rfl (.len sl_23_B rfl) ?_
       refine .m rfl rfl rfl (.cmp rfl rfl rfl) ?_
       refine .nil ?_
       refine hK16 _ _ ?_
       refine .cond rfl (fun h44 => ?_) (fun h44 => ?_)
       ·
        simp only [sps] at h44
        have t1 := r1.2 y (by omega)
        have t2 := r2.2 y
        have t5 := hN.z.rng x (by omega) y (by omega)
        refine .skip ?_
        refine hK15 _ _ ?_
        refine .seq (fun K17 hK17 => ?_)
        refine .block ?_
        refine .seq (fun K18 hK18 => ?_)
        refine .regionD mixed_orders_B (.q 0 (.q 1 (.q 2 (.q 3 (.q 4 (.q 5 (.q 6 (.q 7 (.q 8 (.q 9 (.q 10 (.q 11 (.q 12 (.q 13 (.q 14 (.q 15 (.q 16 (.q 17 (.q 18 (.q 19 (.q 20 (.q 21 (.q 22 (.q 23 (.q 24 (.q 25 (.q 26 (.q 27 (.q 28 (.q 29 (.q 30 (.q 31 (.q 32 (.c 33 0 (.q 34 (.q 35 (.done))))))))))))))))))))))))))))))))))))) (by kernel_rfl) ?_
        refine .m rfl rfl rfl rfl (.refl _) (.move rfl) ?_
        refine .m rfl rfl rfl rfl (.refl _) (.move rfl) ?_
        refine .m rfl rfl rfl rfl (.refl _) (.idxN sl_26_VZ (Intsss.sl (by assumption)) rfl rfl (by omega)) ?_
        refine .m rfl rfl rfl rfl (.refl _) (.loadRR on_23_B (by assumption) rfl (by omega)) ?_
        refine .m rfl rfl rfl rfl (.refl _) (.move rfl) ?_
        refine .m rfl rfl rfl rfl (.refl _) (.idxN sl_23_B (Intss.sl (by assumption)) rfl rfl (by omega)) ?_
        refine .m rfl rfl rfl rfl (.refl _) (.loadR on_22_B (by assumption) rfl (by omega)) ?_
        refine .m rfl rfl rfl rfl (.refl _) (.len sl_22_A rfl) ?_
        refine .m rfl rfl rfl rfl (.refl _) (.fieldAddr fo_33_2_VProf rfl) ?_
        refine .m rfl rfl rfl rfl (.refl _) (.load on_23_B rfl (by assumption)) ?_
        refine .m rfl rfl rfl rfl (.refl _) (.move rfl) ?_
        refine .m rfl rfl rfl rfl (.refl _) (.idxN sl_23_B (Intss.sl (by assumption)) rfl rfl (by omega)) ?_
        refine .m rfl rfl rfl rfl (.refl _) (.loadR on_22_B (by assumption) rfl (by omega)) ?_
        refine .m rfl rfl rfl rfl (.refl _) (.move rfl) ?_
        refine .m rfl rfl rfl rfl (.refl _) (.idxN sl_22_A (by assumption) rfl rfl (by omega)) ?_
        refine .m rfl rfl rfl rfl (.refl _) (.loadI on_2_A (by assumption) rfl (by omega)) ?_
        refine .m rfl rfl rfl rfl (.refl _) (.cmp rfl rfl rfl) ?_
        refine .m rfl rfl rfl rfl (.refl _) (.move rfl) ?_
        refine .split (fun h64 => ?_) (fun h64 => ?_)
        ·
         try simp only [sps] at h64
         refine .sg rfl rfl rfl rfl rfl rfl ?_
         refine .sg rfl rfl rfl rfl rfl rfl ?_
         refine .sg rfl rfl rfl rfl rfl rfl ?_
         refine .sg rfl rfl rfl rfl rfl rfl ?_
         refine .sg rfl rfl rfl rfl rfl rfl ?_
         refine .sg rfl rfl rfl rfl rfl rfl ?_
         refine .sg rfl rfl rfl rfl rfl rfl ?_
         refine .sg rfl rfl rfl rfl rfl rfl ?_
         refine .sg rfl rfl rfl rfl rfl rfl ?_
         refine .sg rfl rfl rfl rfl rfl rfl ?_
         refine .sg rfl rfl rfl rfl rfl rfl ?_
         refine .sg rfl rfl rfl rfl rfl rfl ?_
         refine .sg rfl rfl rfl rfl rfl rfl ?_
         refine .sg rfl rfl rfl rfl rfl rfl ?_
         refine .sg rfl rfl rfl rfl rfl rfl ?_
         refine .sgc rfl rfl rfl rfl rfl rfl ?_
         refine .sg rfl rfl rfl rfl rfl rfl ?_
         refine .m rfl rfl rfl rfl (.refl _) (.pickT rfl rfl) ?_
         refine .done ?_
         refine hK18 _ _ ?_
         refine .condT rfl ?_
         refine .seq (fun K19 hK19 => ?_)
         refine .region ?_
         refine .m rfl rfl rfl (.assign rfl) ?_
         refine .nil ?_
         refine hK19 _ _ ?_
         refine .ret ?_
         -- leaf e3
         refine hret _ _ ?_
         refine ⟨_, rfl, ?_⟩
         first
         | exact ⟨congrArg _ (B_true ⟨hr, fun a ha y hy => ha3 a (by omega) y (by omega), fun b hb x hx => ha5 b (by omega) x (by omega)⟩), hle⟩
         | exact ⟨congrArg _ (B_false fun hh => h192 (hh.nh b (by omega) x (by omega))), hle⟩
         | exact ⟨congrArg _ (B_false fun hh => h137 (hh.nb a (by omega) y (by omega))), hle⟩
         | exact ⟨congrArg _ (B_false fun hh => by rw [((hh.rows.row x (by omega)).2 y (by omega)).2] at h82; cases h82), hle⟩
         | exact ⟨congrArg _ (B_false fun hh => h64 ((hh.rows.row x (by omega)).2 y (by omega)).1), hle⟩
         | exact ⟨congrArg _ (B_false fun hh => by have := (hh.rows.row x (by omega)).1; omega), hle⟩
         | exact ⟨congrArg _ (B_false fun hh => by have := hh.rows.cl; omega), hle⟩
        ·
         try simp only [sps] at h64
         refine .mg rfl rfl rfl rfl rfl rfl (.refl _) (.fieldAddr fo_33_2_VProf rfl) ?_
         refine .mg rfl rfl rfl rfl rfl rfl (.refl _) (.load on_23_B rfl (by assumption)) ?_
         refine .mg rfl rfl rfl rfl rfl rfl (.refl _) (.move rfl) ?_
         refine .mg rfl rfl rfl rfl rfl rfl (.refl _) (.idxN sl_23_B (Intss.sl (by assumption)) rfl rfl (by omega)) ?_
         refine .mg rfl rfl rfl rfl rfl rfl (.refl _) (.loadR on_22_B (by assumption) rfl (by omega)) ?_
         refine .mg rfl rfl rfl rfl rfl rfl (.refl _) (.move rfl) ?_
         refine .mg rfl rfl rfl rfl rfl rfl (.refl _) (.idxN sl_22_A (by assumption) rfl rfl (by omega)) ?_
         refine .mg rfl rfl rfl rfl rfl rfl (.refl _) (.loadI on_2_A (by assumption) rfl (by omega)) ?_
         refine .mg rfl rfl rfl rfl rfl rfl (.refl _) (.move rfl) ?_
         refine .mg rfl rfl rfl rfl rfl rfl (.refl _) (.move rfl) ?_
         refine .mg rfl rfl rfl rfl rfl rfl (.refl _) (.idxN sl_26_VZ (Intsss.sl (by assumption)) rfl rfl (by omega)) ?_
         refine .mg rfl rfl rfl rfl rfl rfl (.refl _) (.loadRR on_23_B (by assumption) rfl (by omega)) ?_
         refine .mg rfl rfl rfl rfl rfl rfl (.refl _) (.move rfl) ?_
         refine .mg rfl rfl rfl rfl rfl rfl (.refl _) (.idxN sl_23_B (Intss.sl (by assumption)) rfl rfl (by omega)) ?_
         refine .mg rfl rfl rfl rfl rfl rfl (.refl _) (.loadR on_22_B (by assumption) rfl (by omega)) ?_
         refine .callQ0g rfl rfl rfl rfl rfl rfl rfl @Try.call49 rfl (l01Map_c) ?_
         refine .mg rfl rfl rfl rfl rfl rfl (.refl _) (.not rfl) ?_
         refine .m rfl rfl rfl rfl (.refl _) (.pickF rfl rfl) ?_
         refine .done ?_
         refine hK18 _ _ ?_
         refine .cond rfl (fun h82 => ?_) (fun h82 => ?_)
         ·
          simp only [B_iff, B_not, Bool.not_eq_true', Bool.not_eq_false'] at h82
          refine .seq (fun K20 hK20 => ?_)
          refine .region ?_
          refine .m rfl rfl rfl (.assign rfl) ?_
          refine .nil ?_
          refine hK20 _ _ ?_
          refine .ret ?_
          -- leaf e4
          refine hret _ _ ?_
          refine ⟨_, rfl, ?_⟩
          first
          | exact ⟨congrArg _ (B_true ⟨hr, fun a ha y hy => ha3 a (by omega) y (by omega), fun b hb x hx => ha5 b (by omega) x (by omega)⟩), hle⟩
          | exact ⟨congrArg _ (B_false fun hh => h192 (hh.nh b (by omega) x (by omega))), hle⟩
          | exact ⟨congrArg _ (B_false fun hh => h137 (hh.nb a (by omega) y (by omega))), hle⟩
          | exact ⟨congrArg _ (B_false fun hh => by rw [((hh.rows.row x (by omega)).2 y (by omega)).2] at h82; cases h82), hle⟩
          | exact ⟨congrArg _ (B_false fun hh => h64 ((hh.rows.row x (by omega)).2 y (by omega)).1), hle⟩
          | exact ⟨congrArg _ (B_false fun hh => by have := (hh.rows.row x (by omega)).1; omega), hle⟩
          | exact ⟨congrArg _ (B_false fun hh => by have := hh.rows.cl; omega), hle⟩
         ·
          simp only [B_iff, B_not, Bool.not_eq_true', Bool.not_eq_false'] at h82
          refine .skip ?_
          refine hK17 _ _ ?_
          refine .region ?_
          refine .m rfl rfl rfl (.move rfl) ?_
          refine .m rfl rfl rfl (.add rfl rfl rfl (by omega) (by omega)) ?_
          refine .m rfl rfl rfl (.assign rfl) ?_
          refine .nil ?_
          refine hKL2 (y + 1) _ _ ?_ ?_ ⟨rfl, rfl, rfl, rfl, rfl, rfl, rfl, trivial⟩
          ·
           refine ⟨rfl, ?_⟩
           refine ⟨by omega, fun y' hx => ?_⟩
           by_cases hltq : y' < y
           · exact ha2 y' hltq
           · obtain rfl : y' = y := by omega
             exact ⟨by omega, h82⟩
          ·
           omega
       ·
        try simp only [sps] at h44
        refine .exit ?_
        refine hK10 _ _ ?_
        refine .region ?_
        refine .m rfl rfl rfl (.move rfl) ?_
        refine .m rfl rfl rfl (.add rfl rfl rfl (by omega) (by omega)) ?_
        refine .m rfl rfl rfl (.assign rfl) ?_
        refine .nil ?_
        refine hKL1 (x + 1) _ _ ?_ ?_ ⟨rfl, rfl, rfl, rfl, rfl, rfl, trivial⟩
        ·
         refine ⟨rfl, ?_⟩
         refine ⟨by omega, fun x' hx => ?_⟩
         by_cases hltq : x' < x
         · exact ha1 x' hltq
         · obtain rfl : x' = x := by omega
           exact ⟨h37, fun y hy => ha2 y (by omega)⟩
        ·
         omega
    ·
     try simp only [sps] at h27
     refine .exit ?_
     refine hK6 _ _ ?_
     refine .seq (fun K21 hK21 => ?_)
     refine .seq (fun K22 hK22 => ?_)
     refine .region ?_
     refine .m rfl rfl rfl (.assign rfl) ?_
     refine .nil ?_
     refine hK22 _ _ ?_
     refine .block ?_
     have hr : m.Rows n c := ⟨by omega, fun x hx => ha1 x (by omega)⟩
     refine .loopR (σ := Nat) [(2, some _), (3, some _), (4, some _), (7, some _), (8, some _)] (fun a => [(11, some (.int .i64 (a : Int)))]) (fun a H' => St [] H8 H' ∧ (a : Int) ≤ m.s.src.length ∧ ∀ a', a' < a → ∀ y : Nat, (y : Int) < m.t.obj → m.NatB n c a' y) (fun a => (m.s.src.length - a : Int).toNat) (0) ⟨rfl, rfl, rfl, rfl, rfl, trivial⟩ ⟨rfl, trivial⟩ ?_ ?_
     ·
      refine ⟨.refl _ _, ?_⟩
      exact ⟨by omega, fun _ _ => by omega⟩
     ·
      rintro a HL3 ⟨lst3, hI⟩ KL3 hKL3
      refine .forget (fr' := [(11, some (.int .i64 (a : Int))), (2, some _), (3, some _), (4, some _), (7, some _), (8, some _)]) ⟨rfl, rfl, rfl, rfl, rfl, rfl, trivial⟩ ?_
      have nx_HL3 := lst3.nx
      replace hle := hle.st lst3 (fun k hk => trivial)
      replace at3 := lst3.same _ _ trivial at3
      replace at4 := lst3.same _ _ trivial at4
      replace at7 := lst3.same _ _ trivial at7
      replace at8 := lst3.same _ _ trivial at8
      replace hin := base_hin.mono hle
      replace hin' := base_hin'.mono hle
      replace hc := base_hc.mono hle
      clear hb3 fs3 ft3 c103 c113 c123 i23 i33 i43 hm3 hi3 hms3 his3 hmt3 hit3
      have hb3 : Prof.At _ g3 0 m p := ⟨Mem.of_get at3, hin⟩
      obtain ⟨fs3, ft3, c103, c113, c123, i23, i33, i43⟩ := hb3.get
      have hm3 : MemN _ _ _ _ _ := ⟨rfl, hb3.1⟩
      have hi3 := hb3.2
      have hms3 : MemN _ _ _ _ _ := ⟨rfl, fs3.1⟩
      have his3 := fs3.2
      have hmt3 : MemN _ _ _ _ _ := ⟨rfl, ft3.1⟩
      have hit3 := ft3.2
      clear hb4 fs4 ft4 c104 c114 c124 i24 i34 i44 hm4 hi4 hms4 his4 hmt4 hit4
      have hb4 : Prof.At _ g4 0 n q := ⟨Mem.of_get at4, hin'⟩
      obtain ⟨fs4, ft4, c104, c114, c124, i24, i34, i44⟩ := hb4.get
      have hm4 : MemN _ _ _ _ _ := ⟨rfl, hb4.1⟩
      have hi4 := hb4.2
      have hms4 : MemN _ _ _ _ _ := ⟨rfl, fs4.1⟩
      have his4 := fs4.2
      have hmt4 : MemN _ _ _ _ _ := ⟨rfl, ft4.1⟩
      have hit4 := ft4.2
      clear hb7 c07 c17 c27 c37 c47 i17 i27 i37 i47 hm7 hi7
      have hb7 : Cat.At _ g7 0 m.s p.s := ⟨Mem.of_get at7, his3⟩
      obtain ⟨c07, c17, c27, c37, c47, i17, i27, i37, i47⟩ := hb7.get
      have hm7 : MemN _ _ _ _ _ := ⟨rfl, hb7.1⟩
      have hi7 := hb7.2
      clear hb8 c08 c18 c28 c38 c48 i18 i28 i38 i48 hm8 hi8
      have hb8 : Cat.At _ g8 0 m.t p.t := ⟨Mem.of_get at8, hit3⟩
      obtain ⟨c08, c18, c28, c38, c48, i18, i28, i38, i48⟩ := hb8.get
      have hm8 : MemN _ _ _ _ _ := ⟨rfl, hb8.1⟩
      have hi8 := hb8.2
      obtain ⟨hk3, ha3⟩ := hI
      refine .seq (fun K23 hK23 => ?_)
      refine .seq (fun K24 hK24 => ?_)
      refine .region ?_
      refine .m rfl rfl rfl (.move rfl) ?_
      refine .m rfl rfl rfl (.fieldAddr fo_31_1_B rfl) ?_
      refine .m rfl rfl rfl (.load on_22_B rfl (by assumption)) ?_
      refine .m rfl rfl rfl (.len sl_22_A rfl) ?_
      refine .m rfl rfl rfl (.cmp rfl rfl rfl) ?_
      refine .nil ?_
      refine hK24 _ _ ?_
      refine .cond rfl (fun h87 => ?_) (fun h87 => ?_)
      ·
       simp only [sps] at h87
       have r2 := hM.z.b hM.s (a := a) (by omega)
       have r1 := i33.2 a (by omega)
       have r3 := i34.2 a (by omega)
       have r4 := hc.2 (m.s.src.getD a 0).toNat (by omega)
       have r5 := hc.2 (m.s.tgt.getD a 0).toNat (by omega)
       refine .skip ?_
       refine hK23 _ _ ?_
       refine .seq (fun K25 hK25 => ?_)
       refine .block ?_
       refine .seq (fun K26 hK26 => ?_)
       refine .region ?_
       refine .m rfl rfl rfl (.assign rfl) ?_
       refine .nil ?_
       refine hK26 _ _ ?_
       refine .block ?_
       refine .loopR (σ := Nat) [(2, some _), (3, some _), (4, some _), (7, some _), (8, some _), (11, some _)] (fun y => [(12, some (.int .i64 (y : Int)))]) (fun y H' => St [] HL3 H' ∧ (y : Int) ≤ m.t.obj ∧ ∀ y', y' < y → m.NatB n c a y') (fun y => (m.t.obj - y : Int).toNat) (0) ⟨rfl, rfl, rfl, rfl, rfl, rfl, trivial⟩ ⟨rfl, trivial⟩ ?_ ?_
       ·
        refine ⟨.refl _ _, ?_⟩
        exact ⟨by omega, fun _ _ => by omega⟩
       ·
        rintro y HL4 ⟨lst4, hI⟩ KL4 hKL4
        refine .forget (fr' := [(12, some (.int .i64 (y : Int))), (2, some _), (3, some _), (4, some _), (7, some _), (8, some _), (11, some _)]) ⟨rfl, rfl, rfl, rfl, rfl, rfl, rfl, trivial⟩ ?_
        have nx_HL4 := lst4.nx
        replace hle := hle.st lst4 (fun k hk => trivial)
        replace lst3 := lst3.st lst4 (fun k hk ho => by simp only [out, and_true] at ho ⊢ <;> omega)
        replace at3 := lst4.same _ _ trivial at3
        replace at4 := lst4.same _ _ trivial at4
        replace at7 := lst4.same _ _ trivial at7
        replace at8 := lst4.same _ _ trivial at8
        replace hin := base_hin.mono hle
        replace hin' := base_hin'.mono hle
        replace hc := base_hc.mono hle
        clear hb3 fs3 ft3 c103 c113 c123 i23 i33 i43 hm3 hi3 hms3 his3 hmt3 hit3
        have hb3 : Prof.At _ g3 0 m p := ⟨Mem.of_get at3, hin⟩
        obtain ⟨fs3, ft3, c103, c113, c123, i23, i33, i43⟩ := hb3.get
        have hm3 : MemN _ _ _ _ _ := ⟨rfl, hb3.1⟩
        have hi3 := hb3.2
        have hms3 : MemN _ _ _ _ _ := ⟨rfl, fs3.1⟩
        have his3 := fs3.2
        have hmt3 : MemN _ _ _ _ _ := ⟨rfl, ft3.1⟩
        have hit3 := ft3.2
        clear hb4 fs4 ft4 c104 c114 c124 i24 i34 i44 hm4 hi4 hms4 his4 hmt4 hit4
        have hb4 : Prof.At _ g4 0 n q := ⟨Mem.of_get at4, hin'⟩
        obtain ⟨fs4, ft4, c104, c114, c124, i24, i34, i44⟩ := hb4.get
        have hm4 : MemN _ _ _ _ _ := ⟨rfl, hb4.1⟩
        have hi4 := hb4.2
        have hms4 : MemN _ _ _ _ _ := ⟨rfl, fs4.1⟩
        have his4 := fs4.2
        have hmt4 : MemN _ _ _ _ _ := ⟨rfl, ft4.1⟩
        have hit4 := ft4.2
        clear hb7 c07 c17 c27 c37 c47 i17 i27 i37 i47 hm7 hi7
        have hb7 : Cat.At _ g7 0 m.s p.s := ⟨Mem.of_get at7, his3⟩
        obtain ⟨c07, c17, c27, c37, c47, i17, i27, i37, i47⟩ := hb7.get
        have hm7 : MemN _ _ _ _ _ := ⟨rfl, hb7.1⟩
        have hi7 := hb7.2
        clear hb8 c08 c18 c28 c38 c48 i18 i28 i38 i48 hm8 hi8
        have hb8 : Cat.At _ g8 0 m.t p.t := ⟨Mem.of_get at8, hit3⟩
        obtain ⟨c08, c18, c28, c38, c48, i18, i28, i38, i48⟩ := hb8.get
        have hm8 : MemN _ _ _ _ _ := ⟨rfl, hb8.1⟩
        have hi8 := hb8.2
        clear r1 r3 r4 r5
        have r1 := i33.2 a (by omega)
        have r3 := i34.2 a (by omega)
        have r4 := hc.2 (m.s.src.getD a 0).toNat (by omega)
        have r5 := hc.2 (m.s.tgt.getD a 0).toNat (by omega)
        obtain ⟨hk4, ha4⟩ := hI
        refine .seq (fun K27 hK27 => ?_)
        refine .seq (fun K28 hK28 => ?_)
        refine .region ?_
        refine .m rfl rfl rfl (.move rfl) ?_
        refine .m rfl rfl rfl (.fieldAddr fo_31_0_B rfl) ?_
        refine .m rfl rfl rfl (.load on_2_A rfl (by assumption)) ?_
        refine .m rfl rfl rfl (.cmp rfl rfl rfl) ?_
        refine .nil ?_
        refine hK28 _ _ ?_
        refine .cond rfl (fun h93 => ?_) (fun h93 => ?_)
        ·
         simp only [sps] at h93
         have v1 := hM.by (a := a) (y := y) (by omega) (by omega)
         have v2 := hN.by (a := a) (y := y) (by omega) (by rw [← htt]; omega)
         rw [← hss] at v2
         have v3 := hr.co (x := (m.s.src.getD a 0).toNat) (y := y) (by omega) (by omega)
         have v4 := hr.co (x := (m.s.tgt.getD a 0).toNat) (y := y) (by omega) (by omega)
         have u1 : ∀ i, i < ((m.be.getD a []).getD y []).length → 0 ≤ ((m.be.getD a []).getD y []).getD i 0 ∧ ((m.be.getD a []).getD y []).getD i 0 < ((c.getD (m.s.src.getD a 0).toNat []).getD y []).length := fun i hi => by
           have := v1.2.2.2.2.1 i hi
           rw [← v3.2.2.1] at this
           exact this
         have u2 : ∀ i, i < ((c.getD (m.s.tgt.getD a 0).toNat []).getD y []).length → 0 ≤ ((c.getD (m.s.tgt.getD a 0).toNat []).getD y []).getD i 0 ∧ ((c.getD (m.s.tgt.getD a 0).toNat []).getD y []).getD i 0 < ((n.be.getD a []).getD y []).length := fun i hi => by
           have := v4.2.2.2 i hi
           rw [← v2.2.2.2.1] at this
           exact this
         have w1 := r1.2 y (by omega)
         have w2 := r3.2 y (by omega)
         have w3 := r4.2 y (by omega)
         have w4 := r5.2 y (by omega)
         refine .skip ?_
         refine hK27 _ _ ?_
         refine .seq (fun K29 hK29 => ?_)
         refine .block ?_
         refine .seq (fun K30 hK30 => ?_)
         refine .regionD mixed_orders_B (.q 0 (.q 1 (.q 2 (.q 3 (.q 4 (.q 5 (.q 6 (.q 7 (.q 8 (.q 9 (.q 10 (.q 11 (.q 12 (.q 13 (.q 14 (.q 15 (.q 16 (.q 17 (.q 18 (.q 20 (.q 21 (.q 22 (.q 23 (.q 24 (.q 25 (.q 26 (.q 27 (.q 28 (.q 29 (.q 30 (.q 31 (.q 32 (.q 33 (.q 34 (.q 35 (.q 36 (.q 37 (.q 38 (.c 19 1 (.c 39 0 (.c 40 0 (.q 41 (.done))))))))))))))))))))))))))))))))))))))))))) (by kernel_rfl) ?_
         refine .m rfl rfl rfl rfl (.refl _) (.fieldAddr fo_33_3_VProf rfl) ?_
         refine .m rfl rfl rfl rfl (.refl _) (.load on_26_VProf rfl (by assumption)) ?_
         refine .m rfl rfl rfl rfl (.refl _) (.move rfl) ?_
         refine .m rfl rfl rfl rfl (.refl _) (.idxN sl_26_VZ (Intsss.sl (by assumption)) rfl rfl (by omega)) ?_
         refine .m rfl rfl rfl rfl (.refl _) (.loadRR on_23_B (by assumption) rfl (by omega)) ?_
         refine .m rfl rfl rfl rfl (.refl _) (.move rfl) ?_
         refine .m rfl rfl rfl rfl (.refl _) (.idxN sl_23_B (Intss.sl (by assumption)) rfl rfl (by omega)) ?_
         refine .m rfl rfl rfl rfl (.refl _) (.loadR on_22_B (by assumption) rfl (by omega)) ?_
         refine .m rfl rfl rfl rfl (.refl _) (.move rfl) ?_
         refine .m rfl rfl rfl rfl (.refl _) (.fieldAddr fo_31_1_B rfl) ?_
         refine .m rfl rfl rfl rfl (.refl _) (.load on_22_B rfl (by assumption)) ?_
         refine .m rfl rfl rfl rfl (.refl _) (.move rfl) ?_
         refine .m rfl rfl rfl rfl (.refl _) (.idxN sl_22_A (by assumption) rfl rfl (by omega)) ?_
         refine .m rfl rfl rfl rfl (.refl _) (.loadI on_2_A (by assumption) rfl (by omega)) ?_
         refine .m rfl rfl rfl rfl (.refl _) (.idx1 sl_26_VZ (Intsss.sl (by assumption)) rfl rfl (by omega) (by omega)) ?_
         refine .m rfl rfl rfl rfl (.refl _) (.loadRR on_23_B (by assumption) rfl (by omega)) ?_
         refine .m rfl rfl rfl rfl (.refl _) (.move rfl) ?_
         refine .m rfl rfl rfl rfl (.refl _) (.idxN sl_23_B (Intss.sl (by assumption)) rfl rfl (by omega)) ?_
         refine .m rfl rfl rfl rfl (.refl _) (.loadR on_22_B (by assumption) rfl (by omega)) ?_
         refine .m rfl rfl rfl rfl (.refl _) (.move rfl) ?_
         refine .m rfl rfl rfl rfl (.refl _) (.fieldAddr fo_31_2_B rfl) ?_
         refine .m rfl rfl rfl rfl (.refl _) (.load on_22_B rfl (by assumption)) ?_
         refine .m rfl rfl rfl rfl (.refl _) (.move rfl) ?_
         refine .m rfl rfl rfl rfl (.refl _) (.idxN sl_22_A (by assumption) rfl rfl (by omega)) ?_
         refine .m rfl rfl rfl rfl (.refl _) (.loadI on_2_A (by assumption) rfl (by omega)) ?_
         refine .m rfl rfl rfl rfl (.refl _) (.idx1 sl_26_VZ (Intsss.sl (by assumption)) rfl rfl (by omega) (by omega)) ?_
         refine .m rfl rfl rfl rfl (.refl _) (.loadRR on_23_B (by assumption) rfl (by omega)) ?_
         refine .m rfl rfl rfl rfl (.refl _) (.move rfl) ?_
         refine .m rfl rfl rfl rfl (.refl _) (.idxN sl_23_B (Intss.sl (by assumption)) rfl rfl (by omega)) ?_
         refine .m rfl rfl rfl rfl (.refl _) (.loadR on_22_B (by assumption) rfl (by omega)) ?_
         refine .m rfl rfl rfl rfl (.refl _) (.fieldAddr fo_33_3_VProf rfl) ?_
         refine .m rfl rfl rfl rfl (.refl _) (.load on_26_VProf rfl (by assumption)) ?_
         refine .m rfl rfl rfl rfl (.refl _) (.move rfl) ?_
         refine .m rfl rfl rfl rfl (.refl _) (.idxN sl_26_VZ (Intsss.sl (by assumption)) rfl rfl (by omega)) ?_
         refine .m rfl rfl rfl rfl (.refl _) (.loadRR on_23_B (by assumption) rfl (by omega)) ?_
         refine .m rfl rfl rfl rfl (.refl _) (.move rfl) ?_
         refine .m rfl rfl rfl rfl (.refl _) (.idxN sl_23_B (Intss.sl (by assumption)) rfl rfl (by omega)) ?_
         refine .m rfl rfl rfl rfl (.refl _) (.loadR on_22_B (by assumption) rfl (by omega)) ?_
         refine .call1 rfl rfl rfl rfl rfl @Try.call51 rfl (l01Then_c) ?_
         rintro _ H115 ⟨le115, g115, rfl, at115, ge115⟩
         have hbl := le115
         refine ⟨hbl, ?_⟩
         have nx_H115 := le115.1
         replace hle := hle.trans le115
         replace lst3 := lst3.le le115
         replace lst4 := lst4.le le115
         replace at3 := le115.2 _ _ at3
         replace at4 := le115.2 _ _ at4
         replace at7 := le115.2 _ _ at7
         replace at8 := le115.2 _ _ at8
         have lt_at115 := GHeap.lt_of_get at115
         replace hin := base_hin.mono hle
         replace hin' := base_hin'.mono hle
         replace hc := base_hc.mono hle
         clear hb3 fs3 ft3 c103 c113 c123 i23 i33 i43 hm3 hi3 hms3 his3 hmt3 hit3
         have hb3 : Prof.At _ g3 0 m p := ⟨Mem.of_get at3, hin⟩
         obtain ⟨fs3, ft3, c103, c113, c123, i23, i33, i43⟩ := hb3.get
         have hm3 : MemN _ _ _ _ _ := ⟨rfl, hb3.1⟩
         have hi3 := hb3.2
         have hms3 : MemN _ _ _ _ _ := ⟨rfl, fs3.1⟩
         have his3 := fs3.2
         have hmt3 : MemN _ _ _ _ _ := ⟨rfl, ft3.1⟩
         have hit3 := ft3.2
         clear hb4 fs4 ft4 c104 c114 c124 i24 i34 i44 hm4 hi4 hms4 his4 hmt4 hit4
         have hb4 : Prof.At _ g4 0 n q := ⟨Mem.of_get at4, hin'⟩
         obtain ⟨fs4, ft4, c104, c114, c124, i24, i34, i44⟩ := hb4.get
         have hm4 : MemN _ _ _ _ _ := ⟨rfl, hb4.1⟩
         have hi4 := hb4.2
         have hms4 : MemN _ _ _ _ _ := ⟨rfl, fs4.1⟩
         have his4 := fs4.2
         have hmt4 : MemN _ _ _ _ _ := ⟨rfl, ft4.1⟩
         have hit4 := ft4.2
         clear hb7 c07 c17 c27 c37 c47 i17 i27 i37 i47 hm7 hi7
         have hb7 : Cat.At _ g7 0 m.s p.s := ⟨Mem.of_get at7, his3⟩
         obtain ⟨c07, c17, c27, c37, c47, i17, i27, i37, i47⟩ := hb7.get
         have hm7 : MemN _ _ _ _ _ := ⟨rfl, hb7.1⟩
         have hi7 := hb7.2
         clear hb8 c08 c18 c28 c38 c48 i18 i28 i38 i48 hm8 hi8
         have hb8 : Cat.At _ g8 0 m.t p.t := ⟨Mem.of_get at8, hit3⟩
         obtain ⟨c08, c18, c28, c38, c48, i18, i28, i38, i48⟩ := hb8.get
         have hm8 : MemN _ _ _ _ _ := ⟨rfl, hb8.1⟩
         have hi8 := hb8.2
         clear r1 r3 r4 r5
         have r1 := i33.2 a (by omega)
         have r3 := i34.2 a (by omega)
         have r4 := hc.2 (m.s.src.getD a 0).toNat (by omega)
         have r5 := hc.2 (m.s.tgt.getD a 0).toNat (by omega)
         clear w1 w2 w3 w4
         have w1 := r1.2 y (by omega)
         have w2 := r3.2 y (by omega)
         have w3 := r4.2 y (by omega)
         have w4 := r5.2 y (by omega)
         have i115 := Ints.of_get at115
         refine .call0 rfl rfl rfl rfl rfl @Try.call51 rfl (l01Then_c) ?_
         rintro _ H135 ⟨le135, g135, rfl, at135, ge135⟩
         have nx_H135 := le135.1
         replace hle := hle.trans le135
         replace lst3 := lst3.le le135
         replace lst4 := lst4.le le135
         replace at3 := le135.2 _ _ at3
         replace at4 := le135.2 _ _ at4
         replace at7 := le135.2 _ _ at7
         replace at8 := le135.2 _ _ at8
         replace at115 := le135.2 _ _ at115
         have lt_at135 := GHeap.lt_of_get at135
         replace hin := base_hin.mono hle
         replace hin' := base_hin'.mono hle
         replace hc := base_hc.mono hle
         clear hb3 fs3 ft3 c103 c113 c123 i23 i33 i43 hm3 hi3 hms3 his3 hmt3 hit3
         have hb3 : Prof.At _ g3 0 m p := ⟨Mem.of_get at3, hin⟩
         obtain ⟨fs3, ft3, c103, c113, c123, i23, i33, i43⟩ := hb3.get
         have hm3 : MemN _ _ _ _ _ := ⟨rfl, hb3.1⟩
         have hi3 := hb3.2
         have hms3 : MemN _ _ _ _ _ := ⟨rfl, fs3.1⟩
         have his3 := fs3.2
         have hmt3 : MemN _ _ _ _ _ := ⟨rfl, ft3.1⟩
         have hit3 := ft3.2
         clear hb4 fs4 ft4 c104 c114 c124 i24 i34 i44 hm4 hi4 hms4 his4 hmt4 hit4
         have hb4 : Prof.At _ g4 0 n q := ⟨Mem.of_get at4, hin'⟩
         obtain ⟨fs4, ft4, c104, c114, c124, i24, i34, i44⟩ := hb4.get
         have hm4 : MemN _ _ _ _ _ := ⟨rfl, hb4.1⟩
         have hi4 := hb4.2
         have hms4 : MemN _ _ _ _ _ := ⟨rfl, fs4.1⟩
         have his4 := fs4.2
         have hmt4 : MemN _ _ _ _ _ := ⟨rfl, ft4.1⟩
         have hit4 := ft4.2
         clear hb7 c07 c17 c27 c37 c47 i17 i27 i37 i47 hm7 hi7
         have hb7 : Cat.At _ g7 0 m.s p.s := ⟨Mem.of_get at7, his3⟩
         obtain ⟨c07, c17, c27, c37, c47, i17, i27, i37, i47⟩ := hb7.get
         have hm7 : MemN _ _ _ _ _ := ⟨rfl, hb7.1⟩
         have hi7 := hb7.2
         clear hb8 c08 c18 c28 c38 c48 i18 i28 i38 i48 hm8 hi8
         have hb8 : Cat.At _ g8 0 m.t p.t := ⟨Mem.of_get at8, hit3⟩
         obtain ⟨c08, c18, c28, c38, c48, i18, i28, i38, i48⟩ := hb8.get
         have hm8 : MemN _ _ _ _ _ := ⟨rfl, hb8.1⟩
         have hi8 := hb8.2
         clear r1 r3 r4 r5
         have r1 := i33.2 a (by omega)
         have r3 := i34.2 a (by omega)
         have r4 := hc.2 (m.s.src.getD a 0).toNat (by omega)
         have r5 := hc.2 (m.s.tgt.getD a 0).toNat (by omega)
         clear w1 w2 w3 w4
         have w1 := r1.2 y (by omega)
         have w2 := r3.2 y (by omega)
         have w3 := r4.2 y (by omega)
         have w4 := r5.2 y (by omega)
         clear i115
         have i115 := Ints.of_get at115
         have i135 := Ints.of_get at135
         refine .callQ0 rfl rfl rfl rfl rfl @Try.call50 rfl (l01Same_c (hx := by rw [length_thenL]; omega) (hy := by rw [length_thenL]; omega)) ?_
         refine .m rfl rfl rfl rfl (.refl _) (.not rfl) ?_
         refine .done ?_
         refine hK30 _ _ ?_
         refine .cond rfl (fun h137 => ?_) (fun h137 => ?_)
         ·
          try simp only [sps] at h137
          refine .seq (fun K31 hK31 => ?_)
          refine .region ?_
          refine .m rfl rfl rfl (.assign rfl) ?_
          refine .nil ?_
          refine hK31 _ _ ?_
          refine .ret ?_
          -- leaf e5
          refine hret _ _ ?_
          refine ⟨_, rfl, ?_⟩
          first
          | exact ⟨congrArg _ (B_true ⟨hr, fun a ha y hy => ha3 a (by omega) y (by omega), fun b hb x hx => ha5 b (by omega) x (by omega)⟩), hle⟩
          | exact ⟨congrArg _ (B_false fun hh => h192 (hh.nh b (by omega) x (by omega))), hle⟩
          | exact ⟨congrArg _ (B_false fun hh => h137 (hh.nb a (by omega) y (by omega))), hle⟩
          | exact ⟨congrArg _ (B_false fun hh => by rw [((hh.rows.row x (by omega)).2 y (by omega)).2] at h82; cases h82), hle⟩
          | exact ⟨congrArg _ (B_false fun hh => h64 ((hh.rows.row x (by omega)).2 y (by omega)).1), hle⟩
          | exact ⟨congrArg _ (B_false fun hh => by have := (hh.rows.row x (by omega)).1; omega), hle⟩
          | exact ⟨congrArg _ (B_false fun hh => by have := hh.rows.cl; omega), hle⟩
         ·
          try simp only [sps] at h137
          refine .skip ?_
          refine hK29 _ _ ?_
          refine .region ?_
          refine .m rfl rfl rfl (.move rfl) ?_
          refine .m rfl rfl rfl (.add rfl rfl rfl (by omega) (by omega)) ?_
          refine .m rfl rfl rfl (.assign rfl) ?_
          refine .nil ?_
          refine hKL4 (y + 1) _ _ ?_ ?_ ⟨rfl, rfl, rfl, rfl, rfl, rfl, rfl, trivial⟩
          ·
           refine ⟨lst4, ?_⟩
           refine ⟨by omega, fun y' hx => ?_⟩
           by_cases hltq : y' < y
           · exact ha4 y' hltq
           · obtain rfl : y' = y := by omega
             exact h137
          ·
           omega
        ·
         try simp only [sps] at h93
         refine .exit ?_
         refine hK25 _ _ ?_
         refine .region ?_
         refine .m rfl rfl rfl (.move rfl) ?_
         refine .m rfl rfl rfl (.add rfl rfl rfl (by omega) (by omega)) ?_
         refine .m rfl rfl rfl (.assign rfl) ?_
         refine .nil ?_
         refine hKL3 (a + 1) _ _ ?_ ?_ ⟨rfl, rfl, rfl, rfl, rfl, rfl, trivial⟩
         ·
          refine ⟨lst3, ?_⟩
          refine ⟨by omega, fun a' hx => ?_⟩
          by_cases hltq : a' < a
          · exact ha3 a' hltq
          · obtain rfl : a' = a := by omega
            exact fun y hy => ha4 y (by omega)
         ·
          omega
      ·
       try simp only [sps] at h87
       refine .exit ?_
       refine hK21 _ _ ?_
       refine .seq (fun K32 hK32 => ?_)
       refine .seq (fun K33 hK33 => ?_)
       refine .region ?_
       refine .m rfl rfl rfl (.assign rfl) ?_
       refine .nil ?_
       refine hK33 _ _ ?_
       refine .block ?_
       refine .loopR (σ := Nat) [(2, some _), (3, some _), (4, some _), (7, some _), (8, some _)] (fun b => [(13, some (.int .i64 (b : Int)))]) (fun b H' => St [] HL3 H' ∧ (b : Int) ≤ m.t.src.length ∧ ∀ b', b' < b → ∀ x : Nat, (x : Int) < m.s.obj → m.NatH n c b' x) (fun b => (m.t.src.length - b : Int).toNat) (0) ⟨rfl, rfl, rfl, rfl, rfl, trivial⟩ ⟨rfl, trivial⟩ ?_ ?_
       ·
        refine ⟨.refl _ _, ?_⟩
        exact ⟨by omega, fun _ _ => by omega⟩
       ·
        rintro b HL5 ⟨lst5, hI⟩ KL5 hKL5
        refine .forget (fr' := [(13, some (.int .i64 (b : Int))), (2, some _), (3, some _), (4, some _), (7, some _), (8, some _)]) ⟨rfl, rfl, rfl, rfl, rfl, rfl, trivial⟩ ?_
        have nx_HL5 := lst5.nx
        replace hle := hle.st lst5 (fun k hk => trivial)
        replace lst3 := lst3.st lst5 (fun k hk ho => by simp only [out, and_true] at ho ⊢ <;> omega)
        replace at3 := lst5.same _ _ trivial at3
        replace at4 := lst5.same _ _ trivial at4
        replace at7 := lst5.same _ _ trivial at7
        replace at8 := lst5.same _ _ trivial at8
        replace hin := base_hin.mono hle
        replace hin' := base_hin'.mono hle
        replace hc := base_hc.mono hle
        clear hb3 fs3 ft3 c103 c113 c123 i23 i33 i43 hm3 hi3 hms3 his3 hmt3 hit3
        have hb3 : Prof.At _ g3 0 m p := ⟨Mem.of_get at3, hin⟩
        obtain ⟨fs3, ft3, c103, c113, c123, i23, i33, i43⟩ := hb3.get
        have hm3 : MemN _ _ _ _ _ := ⟨rfl, hb3.1⟩
        have hi3 := hb3.2
        have hms3 : MemN _ _ _ _ _ := ⟨rfl, fs3.1⟩
        have his3 := fs3.2
        have hmt3 : MemN _ _ _ _ _ := ⟨rfl, ft3.1⟩
        have hit3 := ft3.2
        clear hb4 fs4 ft4 c104 c114 c124 i24 i34 i44 hm4 hi4 hms4 his4 hmt4 hit4
        have hb4 : Prof.At _ g4 0 n q := ⟨Mem.of_get at4, hin'⟩
        obtain ⟨fs4, ft4, c104, c114, c124, i24, i34, i44⟩ := hb4.get
        have hm4 : MemN _ _ _ _ _ := ⟨rfl, hb4.1⟩
        have hi4 := hb4.2
        have hms4 : MemN _ _ _ _ _ := ⟨rfl, fs4.1⟩
        have his4 := fs4.2
        have hmt4 : MemN _ _ _ _ _ := ⟨rfl, ft4.1⟩
        have hit4 := ft4.2
        clear hb7 c07 c17 c27 c37 c47 i17 i27 i37 i47 hm7 hi7
        have hb7 : Cat.At _ g7 0 m.s p.s := ⟨Mem.of_get at7, his3⟩
        obtain ⟨c07, c17, c27, c37, c47, i17, i27, i37, i47⟩ := hb7.get
        have hm7 : MemN _ _ _ _ _ := ⟨rfl, hb7.1⟩
        have hi7 := hb7.2
        clear hb8 c08 c18 c28 c38 c48 i18 i28 i38 i48 hm8 hi8
        have hb8 : Cat.At _ g8 0 m.t p.t := ⟨Mem.of_get at8, hit3⟩
        obtain ⟨c08, c18, c28, c38, c48, i18, i28, i38, i48⟩ := hb8.get
        have hm8 : MemN _ _ _ _ _ := ⟨rfl, hb8.1⟩
        have hi8 := hb8.2
        obtain ⟨hk5, ha5⟩ := hI
        refine .seq (fun K34 hK34 => ?_)
        refine .seq (fun K35 hK35 => ?_)
        refine .region ?_
        refine .m rfl rfl rfl (.move rfl) ?_
        refine .m rfl rfl rfl (.fieldAddr fo_31_1_B rfl) ?_
        refine .m rfl rfl rfl (.load on_22_B rfl (by assumption)) ?_
        refine .m rfl rfl rfl (.len sl_22_A rfl) ?_
        refine .m rfl rfl rfl (.cmp rfl rfl rfl) ?_
        refine .nil ?_
        refine hK35 _ _ ?_
        refine .cond rfl (fun h142 => ?_) (fun h142 => ?_)
        ·
         simp only [sps] at h142
         have r2 := hM.z.h hM.t (b := b) (by omega)
         have r1 := i43.2 b (by omega)
         have r3 := i44.2 b (by omega)
         refine .skip ?_
         refine hK34 _ _ ?_
         refine .seq (fun K36 hK36 => ?_)
         refine .block ?_
         refine .seq (fun K37 hK37 => ?_)
         refine .region ?_
         refine .m rfl rfl rfl (.assign rfl) ?_
         refine .nil ?_
         refine hK37 _ _ ?_
         refine .block ?_
         refine .loopR (σ := Nat) [(2, some _), (3, some _), (4, some _), (7, some _), (8, some _), (13, some _)] (fun x => [(14, some (.int .i64 (x : Int)))]) (fun x H' => St [] HL5 H' ∧ (x : Int) ≤ m.s.obj ∧ ∀ x', x' < x → m.NatH n c b x') (fun x => (m.s.obj - x : Int).toNat) (0) ⟨rfl, rfl, rfl, rfl, rfl, rfl, trivial⟩ ⟨rfl, trivial⟩ ?_ ?_
         ·
          refine ⟨.refl _ _, ?_⟩
          exact ⟨by omega, fun _ _ => by omega⟩
         ·
          rintro x HL6 ⟨lst6, hI⟩ KL6 hKL6
          refine .forget (fr' := [(14, some (.int .i64 (x : Int))), (2, some _), (3, some _), (4, some _), (7, some _), (8, some _), (13, some _)]) ⟨rfl, rfl, rfl, rfl, rfl, rfl, rfl, trivial⟩ ?_
          have nx_HL6 := lst6.nx
          replace hle := hle.st lst6 (fun k hk => trivial)
          replace lst3 := lst3.st lst6 (fun k hk ho => by simp only [out, and_true] at ho ⊢ <;> omega)
          replace lst5 := lst5.st lst6 (fun k hk ho => by simp only [out, and_true] at ho ⊢ <;> omega)
          replace at3 := lst6.same _ _ trivial at3
          replace at4 := lst6.same _ _ trivial at4
          replace at7 := lst6.same _ _ trivial at7
          replace at8 := lst6.same _ _ trivial at8
          replace hin := base_hin.mono hle
          replace hin' := base_hin'.mono hle
          replace hc := base_hc.mono hle
          clear hb3 fs3 ft3 c103 c113 c123 i23 i33 i43 hm3 hi3 hms3 his3 hmt3 hit3
          have hb3 : Prof.At _ g3 0 m p := ⟨Mem.of_get at3, hin⟩
          obtain ⟨fs3, ft3, c103, c113, c123, i23, i33, i43⟩ := hb3.get
          have hm3 : MemN _ _ _ _ _ := ⟨rfl, hb3.1⟩
          have hi3 := hb3.2
          have hms3 : MemN _ _ _ _ _ := ⟨rfl, fs3.1⟩
          have his3 := fs3.2
          have hmt3 : MemN _ _ _ _ _ := ⟨rfl, ft3.1⟩
          have hit3 := ft3.2
          clear hb4 fs4 ft4 c104 c114 c124 i24 i34 i44 hm4 hi4 hms4 his4 hmt4 hit4
          have hb4 : Prof.At _ g4 0 n q := ⟨Mem.of_get at4, hin'⟩
          obtain ⟨fs4, ft4, c104, c114, c124, i24, i34, i44⟩ := hb4.get
          have hm4 : MemN _ _ _ _ _ := ⟨rfl, hb4.1⟩
          have hi4 := hb4.2
          have hms4 : MemN _ _ _ _ _ := ⟨rfl, fs4.1⟩
          have his4 := fs4.2
          have hmt4 : MemN _ _ _ _ _ := ⟨rfl, ft4.1⟩
          have hit4 := ft4.2
          clear hb7 c07 c17 c27 c37 c47 i17 i27 i37 i47 hm7 hi7
          have hb7 : Cat.At _ g7 0 m.s p.s := ⟨Mem.of_get at7, his3⟩
          obtain ⟨c07, c17, c27, c37, c47, i17, i27, i37, i47⟩ := hb7.get
          have hm7 : MemN _ _ _ _ _ := ⟨rfl, hb7.1⟩
          have hi7 := hb7.2
          clear hb8 c08 c18 c28 c38 c48 i18 i28 i38 i48 hm8 hi8
          have hb8 : Cat.At _ g8 0 m.t p.t := ⟨Mem.of_get at8, hit3⟩
          obtain ⟨c08, c18, c28, c38, c48, i18, i28, i38, i48⟩ := hb8.get
          have hm8 : MemN _ _ _ _ _ := ⟨rfl, hb8.1⟩
          have hi8 := hb8.2
          clear r1 r3
          have r1 := i43.2 b (by omega)
          have r3 := i44.2 b (by omega)
          obtain ⟨hk6, ha6⟩ := hI
          refine .seq (fun K38 hK38 => ?_)
          refine .seq (fun K39 hK39 => ?_)
          refine .region ?_
          refine .m rfl rfl rfl (.move rfl) ?_
          refine .m rfl rfl rfl (.fieldAddr fo_31_0_B rfl) ?_
          refine .m rfl rfl rfl (.load on_2_A rfl (by assumption)) ?_
          refine .m rfl rfl rfl (.cmp rfl rfl rfl) ?_
          refine .nil ?_
          refine hK39 _ _ ?_
          refine .cond rfl (fun h148 => ?_) (fun h148 => ?_)
          ·
           simp only [sps] at h148
           have v1 := hM.hx (b := b) (x := x) (by omega) (by omega)
           have v2 := hN.hx (b := b) (x := x) (by omega) (by rw [← hss]; omega)
           rw [← htt] at v2
           have v3 := hr.co (x := x) (y := (m.t.src.getD b 0).toNat) (by omega) (by omega)
           have v4 := hr.co (x := x) (y := (m.t.tgt.getD b 0).toNat) (by omega) (by omega)
           have u1 : ∀ i, i < ((m.bh.getD b []).getD x []).length → 0 ≤ ((m.bh.getD b []).getD x []).getD i 0 ∧ ((m.bh.getD b []).getD x []).getD i 0 < ((c.getD x []).getD (m.t.tgt.getD b 0).toNat []).length := fun i hi => by
             have := v1.2.2.2.2.2.1 i hi
             rw [← v4.2.2.1] at this
             exact this
           have u2 : ∀ i, i < ((c.getD x []).getD (m.t.src.getD b 0).toNat []).length → 0 ≤ ((c.getD x []).getD (m.t.src.getD b 0).toNat []).getD i 0 ∧ ((c.getD x []).getD (m.t.src.getD b 0).toNat []).getD i 0 < ((n.bh.getD b []).getD x []).length := fun i hi => by
             have := v3.2.2.2 i hi
             rw [← v2.2.2.2.2.1] at this
             exact this
           have r4 := hc.2 x (by omega)
           have w1 := r1.2 x (by omega)
           have w2 := r3.2 x (by omega)
           have w3 := r4.2 (m.t.src.getD b 0).toNat (by omega)
           have w4 := r4.2 (m.t.tgt.getD b 0).toNat (by omega)
           refine .skip ?_
           refine hK38 _ _ ?_
           refine .seq (fun K40 hK40 => ?_)
           refine .block ?_
           refine .seq (fun K41 hK41 => ?_)
           refine .regionD mixed_orders_B (.q 0 (.q 1 (.q 2 (.q 3 (.q 4 (.q 5 (.q 6 (.q 7 (.q 8 (.q 9 (.q 10 (.q 11 (.q 12 (.q 13 (.q 14 (.q 15 (.q 16 (.q 17 (.q 18 (.q 20 (.q 21 (.q 22 (.q 23 (.q 24 (.q 25 (.q 26 (.q 27 (.q 28 (.q 29 (.q 30 (.q 31 (.q 32 (.q 33 (.q 34 (.q 35 (.q 36 (.q 37 (.q 38 (.c 19 1 (.c 39 0 (.c 40 0 (.q 41 (.done))))))))))))))))))))))))))))))))))))))))))) (by kernel_rfl) ?_
           refine .m rfl rfl rfl rfl (.refl _) (.fieldAddr fo_33_4_VProf rfl) ?_
           refine .m rfl rfl rfl rfl (.refl _) (.load on_26_VProf rfl (by assumption)) ?_
           refine .m rfl rfl rfl rfl (.refl _) (.move rfl) ?_
           refine .m rfl rfl rfl rfl (.refl _) (.idxN sl_26_VZ (Intsss.sl (by assumption)) rfl rfl (by omega)) ?_
           refine .m rfl rfl rfl rfl (.refl _) (.loadRR on_23_B (by assumption) rfl (by omega)) ?_
           refine .m rfl rfl rfl rfl (.refl _) (.move rfl) ?_
           refine .m rfl rfl rfl rfl (.refl _) (.idxN sl_23_B (Intss.sl (by assumption)) rfl rfl (by omega)) ?_
           refine .m rfl rfl rfl rfl (.refl _) (.loadR on_22_B (by assumption) rfl (by omega)) ?_
           refine .m rfl rfl rfl rfl (.refl _) (.move rfl) ?_
           refine .m rfl rfl rfl rfl (.refl _) (.move rfl) ?_
           refine .m rfl rfl rfl rfl (.refl _) (.idxN sl_26_VZ (Intsss.sl (by assumption)) rfl rfl (by omega)) ?_
           refine .m rfl rfl rfl rfl (.refl _) (.loadRR on_23_B (by assumption) rfl (by omega)) ?_
           refine .m rfl rfl rfl rfl (.refl _) (.fieldAddr fo_31_2_B rfl) ?_
           refine .m rfl rfl rfl rfl (.refl _) (.load on_22_B rfl (by assumption)) ?_
           refine .m rfl rfl rfl rfl (.refl _) (.move rfl) ?_
           refine .m rfl rfl rfl rfl (.refl _) (.idxN sl_22_A (by assumption) rfl rfl (by omega)) ?_
           refine .m rfl rfl rfl rfl (.refl _) (.loadI on_2_A (by assumption) rfl (by omega)) ?_
           refine .m rfl rfl rfl rfl (.refl _) (.idx1 sl_23_B (Intss.sl (by assumption)) rfl rfl (by omega) (by omega)) ?_
           refine .m rfl rfl rfl rfl (.refl _) (.loadR on_22_B (by assumption) rfl (by omega)) ?_
           refine .m rfl rfl rfl rfl (.refl _) (.move rfl) ?_
           refine .m rfl rfl rfl rfl (.refl _) (.move rfl) ?_
           refine .m rfl rfl rfl rfl (.refl _) (.idxN sl_26_VZ (Intsss.sl (by assumption)) rfl rfl (by omega)) ?_
           refine .m rfl rfl rfl rfl (.refl _) (.loadRR on_23_B (by assumption) rfl (by omega)) ?_
           refine .m rfl rfl rfl rfl (.refl _) (.fieldAddr fo_31_1_B rfl) ?_
           refine .m rfl rfl rfl rfl (.refl _) (.load on_22_B rfl (by assumption)) ?_
           refine .m rfl rfl rfl rfl (.refl _) (.move rfl) ?_
           refine .m rfl rfl rfl rfl (.refl _) (.idxN sl_22_A (by assumption) rfl rfl (by omega)) ?_
           refine .m rfl rfl rfl rfl (.refl _) (.loadI on_2_A (by assumption) rfl (by omega)) ?_
           refine .m rfl rfl rfl rfl (.refl _) (.idx1 sl_23_B (Intss.sl (by assumption)) rfl rfl (by omega) (by omega)) ?_
           refine .m rfl rfl rfl rfl (.refl _) (.loadR on_22_B (by assumption) rfl (by omega)) ?_
           refine .m rfl rfl rfl rfl (.refl _) (.fieldAddr fo_33_4_VProf rfl) ?_
           refine .m rfl rfl rfl rfl (.refl _) (.load on_26_VProf rfl (by assumption)) ?_
           refine .m rfl rfl rfl rfl (.refl _) (.move rfl) ?_
           refine .m rfl rfl rfl rfl (.refl _) (.idxN sl_26_VZ (Intsss.sl (by assumption)) rfl rfl (by omega)) ?_
           refine .m rfl rfl rfl rfl (.refl _) (.loadRR on_23_B (by assumption) rfl (by omega)) ?_
           refine .m rfl rfl rfl rfl (.refl _) (.move rfl) ?_
           refine .m rfl rfl rfl rfl (.refl _) (.idxN sl_23_B (Intss.sl (by assumption)) rfl rfl (by omega)) ?_
           refine .m rfl rfl rfl rfl (.refl _) (.loadR on_22_B (by assumption) rfl (by omega)) ?_
           refine .call1 rfl rfl rfl rfl rfl @Try.call51 rfl (l01Then_c) ?_
           rintro _ H170 ⟨le170, g170, rfl, at170, ge170⟩
           have hbl := le170
           refine ⟨hbl, ?_⟩
           have nx_H170 := le170.1
           replace hle := hle.trans le170
           replace lst3 := lst3.le le170
           replace lst5 := lst5.le le170
           replace lst6 := lst6.le le170
           replace at3 := le170.2 _ _ at3
           replace at4 := le170.2 _ _ at4
           replace at7 := le170.2 _ _ at7
           replace at8 := le170.2 _ _ at8
           have lt_at170 := GHeap.lt_of_get at170
           replace hin := base_hin.mono hle
           replace hin' := base_hin'.mono hle
           replace hc := base_hc.mono hle
           clear hb3 fs3 ft3 c103 c113 c123 i23 i33 i43 hm3 hi3 hms3 his3 hmt3 hit3
           have hb3 : Prof.At _ g3 0 m p := ⟨Mem.of_get at3, hin⟩
           obtain ⟨fs3, ft3, c103, c113, c123, i23, i33, i43⟩ := hb3.get
           have hm3 : MemN _ _ _ _ _ := ⟨rfl, hb3.1⟩
           have hi3 := hb3.2
           have hms3 : MemN _ _ _ _ _ := ⟨rfl, fs3.1⟩
           have his3 := fs3.2
           have hmt3 : MemN _ _ _ _ _ := ⟨rfl, ft3.1⟩
           have hit3 := ft3.2
           clear hb4 fs4 ft4 c104 c114 c124 i24 i34 i44 hm4 hi4 hms4 his4 hmt4 hit4
           have hb4 : Prof.At _ g4 0 n q := ⟨Mem.of_get at4, hin'⟩
           obtain ⟨fs4, ft4, c104, c114, c124, i24, i34, i44⟩ := hb4.get
           have hm4 : MemN _ _ _ _ _ := ⟨rfl, hb4.1⟩
           have hi4 := hb4.2
           have hms4 : MemN _ _ _ _ _ := ⟨rfl, fs4.1⟩
           have his4 := fs4.2
           have hmt4 : MemN _ _ _ _ _ := ⟨rfl, ft4.1⟩
           have hit4 := ft4.2
           clear hb7 c07 c17 c27 c37 c47 i17 i27 i37 i47 hm7 hi7
           have hb7 : Cat.At _ g7 0 m.s p.s := ⟨Mem.of_get at7, his3⟩
           obtain ⟨c07, c17, c27, c37, c47, i17, i27, i37, i47⟩ := hb7.get
           have hm7 : MemN _ _ _ _ _ := ⟨rfl, hb7.1⟩
           have hi7 := hb7.2
           clear hb8 c08 c18 c28 c38 c48 i18 i28 i38 i48 hm8 hi8
           have hb8 : Cat.At _ g8 0 m.t p.t := ⟨Mem.of_get at8, hit3⟩
           obtain ⟨c08, c18, c28, c38, c48, i18, i28, i38, i48⟩ := hb8.get
           have hm8 : MemN _ _ _ _ _ := ⟨rfl, hb8.1⟩
           have hi8 := hb8.2
           clear r1 r3
           have r1 := i43.2 b (by omega)
           have r3 := i44.2 b (by omega)
           clear r4 w1 w2 w3 w4
           have r4 := hc.2 x (by omega)
           have w1 := r1.2 x (by omega)
           have w2 := r3.2 x (by omega)
           have w3 := r4.2 (m.t.src.getD b 0).toNat (by omega)
           have w4 := r4.2 (m.t.tgt.getD b 0).toNat (by omega)
           have i170 := Ints.of_get at170
           refine .call0 rfl rfl rfl rfl rfl @Try.call51 rfl (l01Then_c) ?_
           rintro _ H190 ⟨le190, g190, rfl, at190, ge190⟩
           have nx_H190 := le190.1
           replace hle := hle.trans le190
           replace lst3 := lst3.le le190
           replace lst5 := lst5.le le190
           replace lst6 := lst6.le le190
           replace at3 := le190.2 _ _ at3
           replace at4 := le190.2 _ _ at4
           replace at7 := le190.2 _ _ at7
           replace at8 := le190.2 _ _ at8
           replace at170 := le190.2 _ _ at170
           have lt_at190 := GHeap.lt_of_get at190
           replace hin := base_hin.mono hle
           replace hin' := base_hin'.mono hle
           replace hc := base_hc.mono hle
           clear hb3 fs3 ft3 c103 c113 c123 i23 i33 i43 hm3 hi3 hms3 his3 hmt3 hit3
           have hb3 : Prof.At _ g3 0 m p := ⟨Mem.of_get at3, hin⟩
           obtain ⟨fs3, ft3, c103, c113, c123, i23, i33, i43⟩ := hb3.get
           have hm3 : MemN _ _ _ _ _ := ⟨rfl, hb3.1⟩
           have hi3 := hb3.2
           have hms3 : MemN _ _ _ _ _ := ⟨rfl, fs3.1⟩
           have his3 := fs3.2
           have hmt3 : MemN _ _ _ _ _ := ⟨rfl, ft3.1⟩
           have hit3 := ft3.2
           clear hb4 fs4 ft4 c104 c114 c124 i24 i34 i44 hm4 hi4 hms4 his4 hmt4 hit4
           have hb4 : Prof.At _ g4 0 n q := ⟨Mem.of_get at4, hin'⟩
           obtain ⟨fs4, ft4, c104, c114, c124, i24, i34, i44⟩ := hb4.get
           have hm4 : MemN _ _ _ _ _ := ⟨rfl, hb4.1⟩
           have hi4 := hb4.2
           have hms4 : MemN _ _ _ _ _ := ⟨rfl, fs4.1⟩
           have his4 := fs4.2
           have hmt4 : MemN _ _ _ _ _ := ⟨rfl, ft4.1⟩
           have hit4 := ft4.2
           clear hb7 c07 c17 c27 c37 c47 i17 i27 i37 i47 hm7 hi7
           have hb7 : Cat.At _ g7 0 m.s p.s := ⟨Mem.of_get at7, his3⟩
           obtain ⟨c07, c17, c27, c37, c47, i17, i27, i37, i47⟩ := hb7.get
           have hm7 : MemN _ _ _ _ _ := ⟨rfl, hb7.1⟩
           have hi7 := hb7.2
           clear hb8 c08 c18 c28 c38 c48 i18 i28 i38 i48 hm8 hi8
           have hb8 : Cat.At _ g8 0 m.t p.t := ⟨Mem.of_get at8, hit3⟩
           obtain ⟨c08, c18, c28, c38, c48, i18, i28, i38, i48⟩ := hb8.get
           have hm8 : MemN _ _ _ _ _ := ⟨rfl, hb8.1⟩
           have hi8 := hb8.2
           clear r1 r3
           have r1 := i43.2 b (by omega)
           have r3 := i44.2 b (by omega)
           clear r4 w1 w2 w3 w4
           have r4 := hc.2 x (by omega)
           have w1 := r1.2 x (by omega)
           have w2 := r3.2 x (by omega)
           have w3 := r4.2 (m.t.src.getD b 0).toNat (by omega)
           have w4 := r4.2 (m.t.tgt.getD b 0).toNat (by omega)
           clear i170
           have i170 := Ints.of_get at170
           have i190 := Ints.of_get at190
           refine .callQ0 rfl rfl rfl rfl rfl @Try.call50 rfl (l01Same_c (hx := by rw [length_thenL]; omega) (hy := by rw [length_thenL]; omega)) ?_
           refine .m rfl rfl rfl rfl (.refl _) (.not rfl) ?_
           refine .done ?_
           refine hK41 _ _ ?_
           refine .cond rfl (fun h192 => ?_) (fun h192 => ?_)
           ·
            try simp only [sps] at h192
            refine .seq (fun K42 hK42 => ?_)
            refine .region ?_
            refine .m rfl rfl rfl (.assign rfl) ?_
            refine .nil ?_
            refine hK42 _ _ ?_
            refine .ret ?_
            -- leaf e6
            refine hret _ _ ?_
            refine ⟨_, rfl, ?_⟩
            first
            | exact ⟨congrArg _ (B_true ⟨hr, fun a ha y hy => ha3 a (by omega) y (by omega), fun b hb x hx => ha5 b (by omega) x (by omega)⟩), hle⟩
            | exact ⟨congrArg _ (B_false fun hh => h192 (hh.nh b (by omega) x (by omega))), hle⟩
            | exact ⟨congrArg _ (B_false fun hh => h137 (hh.nb a (by omega) y (by omega))), hle⟩
            | exact ⟨congrArg _ (B_false fun hh => by rw [((hh.rows.row x (by omega)).2 y (by omega)).2] at h82; cases h82), hle⟩
            | exact ⟨congrArg _ (B_false fun hh => h64 ((hh.rows.row x (by omega)).2 y (by omega)).1), hle⟩
            | exact ⟨congrArg _ (B_false fun hh => by have := (hh.rows.row x (by omega)).1; omega), hle⟩
            | exact ⟨congrArg _ (B_false fun hh => by have := hh.rows.cl; omega), hle⟩
           ·
            try simp only [sps] at h192
            refine .skip ?_
            refine hK40 _ _ ?_
            refine .region ?_
            refine .m rfl rfl rfl (.move rfl) ?_
            refine .m rfl rfl rfl (.add rfl rfl rfl (by omega) (by omega)) ?_
            refine .m rfl rfl rfl (.assign rfl) ?_
            refine .nil ?_
            refine hKL6 (x + 1) _ _ ?_ ?_ ⟨rfl, rfl, rfl, rfl, rfl, rfl, rfl, trivial⟩
            ·
             refine ⟨lst6, ?_⟩
             refine ⟨by omega, fun x' hx => ?_⟩
             by_cases hltq : x' < x
             · exact ha6 x' hltq
             · obtain rfl : x' = x := by omega
               exact h192
            ·
             omega
          ·
           try simp only [sps] at h148
           refine .exit ?_
           refine hK36 _ _ ?_
           refine .region ?_
           refine .m rfl rfl rfl (.move rfl) ?_
           refine .m rfl rfl rfl (.add rfl rfl rfl (by omega) (by omega)) ?_
           refine .m rfl rfl rfl (.assign rfl) ?_
           refine .nil ?_
           refine hKL5 (b + 1) _ _ ?_ ?_ ⟨rfl, rfl, rfl, rfl, rfl, rfl, trivial⟩
           ·
            refine ⟨lst5, ?_⟩
            refine ⟨by omega, fun b' hx => ?_⟩
            by_cases hltq : b' < b
            · exact ha5 b' hltq
            · obtain rfl : b' = b := by omega
              exact fun x hx => ha6 x (by omega)
           ·
            omega
        ·
         try simp only [sps] at h142
         refine .exit ?_
         refine hK32 _ _ ?_
         refine .seq (fun K43 hK43 => ?_)
         refine .region ?_
         refine .m rfl rfl rfl (.assign rfl) ?_
         refine .nil ?_
         refine hK43 _ _ ?_
         refine .ret ?_
         -- leaf e7
         refine hret _ _ ?_
         refine ⟨_, rfl, ?_⟩
         first
         | exact ⟨congrArg _ (B_true ⟨hr, fun a ha y hy => ha3 a (by omega) y (by omega), fun b hb x hx => ha5 b (by omega) x (by omega)⟩), hle⟩
         | exact ⟨congrArg _ (B_false fun hh => h192 (hh.nh b (by omega) x (by omega))), hle⟩
         | exact ⟨congrArg _ (B_false fun hh => h137 (hh.nb a (by omega) y (by omega))), hle⟩
         | exact ⟨congrArg _ (B_false fun hh => by rw [((hh.rows.row x (by omega)).2 y (by omega)).2] at h82; cases h82), hle⟩
         | exact ⟨congrArg _ (B_false fun hh => h64 ((hh.rows.row x (by omega)).2 y (by omega)).1), hle⟩
         | exact ⟨congrArg _ (B_false fun hh => by have := (hh.rows.row x (by omega)).1; omega), hle⟩
         | exact ⟨congrArg _ (B_false fun hh => by have := hh.rows.cl; omega), hle⟩
theorem specIsProfunctorMap_c {m n : Prof} {p q : ProfP} {a : Option Addr} {c : L3} {r : Nat → Option Addr} {s : Nat → Nat → Option Addr} {H : GHeap} (hin : m.In H p := by assumption) (hin' : n.In H q := by assumption) (hc : Intsss H a c r s := by assumption)
    (hs : m.Small := by assumption) (hs' : n.Small := by assumption) (hcs : Sm3 c := by assumption) :
    GCalls Try.prog 14 [.agg (m.cells p).toArray, .agg (n.cells q).toArray, .slice a c.length c.length] H (Ret (.tuple #[.bool (B (m.code2 n = 0 ∧ m.IsMap n c)), .int .i64 (m.code2 n)]) H) := by
  refine GCalls.ret rfl ?_
  refine GCalls.body (N := 19) (rs := [.tmp 6, .tmp 7]) Try.func14 rfl rfl rfl rfl (fun Qx hret hend => ?_)
  refine .forget (fr' := [(0, some _), (1, some _), (2, some _)]) ⟨rfl, rfl, rfl, trivial⟩ ?_
  have hle := GHeap.Le.refl H
  have base_hin := hin
  have base_hin' := hin'
  have base_hc := hc
  refine .seq (fun K1 hK1 => ?_)
  refine .region ?_
  refine .r rfl rfl rfl (.boxR rfl sz_33_VProf rfl) ?_
  rintro _ H3 ⟨g3, rfl, le3, ge3, at3⟩
  have nx_H3 := le3.1
  replace hle := hle.trans le3
  have lt_at3 := GHeap.lt_of_get at3
  replace hin := base_hin.mono hle
  replace hin' := base_hin'.mono hle
  replace hc := base_hc.mono hle
  have hb3 : Prof.At _ g3 0 m p := ⟨Mem.of_get at3, hin⟩
  obtain ⟨fs3, ft3, c103, c113, c123, i23, i33, i43⟩ := hb3.get
  have hm3 : MemN _ _ _ _ _ := ⟨rfl, hb3.1⟩
  have hi3 := hb3.2
  have hms3 : MemN _ _ _ _ _ := ⟨rfl, fs3.1⟩
  have his3 := fs3.2
  have hmt3 : MemN _ _ _ _ _ := ⟨rfl, ft3.1⟩
  have hit3 := ft3.2
  refine .r rfl rfl rfl (.boxR rfl sz_33_VProf rfl) ?_
  rintro _ H4 ⟨g4, rfl, le4, ge4, at4⟩
  have nx_H4 := le4.1
  replace hle := hle.trans le4
  replace at3 := le4.2 _ _ at3
  have lt_at4 := GHeap.lt_of_get at4
  replace hin := base_hin.mono hle
  replace hin' := base_hin'.mono hle
  replace hc := base_hc.mono hle
  clear hb3 fs3 ft3 c103 c113 c123 i23 i33 i43 hm3 hi3 hms3 his3 hmt3 hit3
  have hb3 : Prof.At _ g3 0 m p := ⟨Mem.of_get at3, hin⟩
  obtain ⟨fs3, ft3, c103, c113, c123, i23, i33, i43⟩ := hb3.get
  have hm3 : MemN _ _ _ _ _ := ⟨rfl, hb3.1⟩
  have hi3 := hb3.2
  have hms3 : MemN _ _ _ _ _ := ⟨rfl, fs3.1⟩
  have his3 := fs3.2
  have hmt3 : MemN _ _ _ _ _ := ⟨rfl, ft3.1⟩
  have hit3 := ft3.2
  have hb4 : Prof.At _ g4 0 n q := ⟨Mem.of_get at4, hin'⟩
  obtain ⟨fs4, ft4, c104, c114, c124, i24, i34, i44⟩ := hb4.get
  have hm4 : MemN _ _ _ _ _ := ⟨rfl, hb4.1⟩
  have hi4 := hb4.2
  have hms4 : MemN _ _ _ _ _ := ⟨rfl, fs4.1⟩
  have his4 := fs4.2
  have hmt4 : MemN _ _ _ _ _ := ⟨rfl, ft4.1⟩
  have hit4 := ft4.2
  refine .m rfl rfl rfl (.assign rfl) ?_
  refine .m rfl rfl rfl (.assign rfl) ?_
  refine .nil ?_
  refine hK1 _ _ ?_
  refine .seq (fun K2 hK2 => ?_)
  refine .seq (fun K3 hK3 => ?_)
  refine .region ?_
  refine .m rfl rfl rfl (.loadM ag_33_VProf rfl ⟨rfl, Mem.of_get at3⟩) ?_
  refine .m rfl rfl rfl (.loadM ag_33_VProf rfl ⟨rfl, Mem.of_get at4⟩) ?_
  refine .callQ rfl rfl rfl rfl @Try.call32 rfl (l32Alike_c) ?_
  refine .m rfl rfl rfl (.assign rfl) ?_
  refine .nil ?_
  refine hK3 _ _ ?_
  refine .seq (fun K4 hK4 => ?_)
  refine .region ?_
  refine .m rfl rfl rfl (.move rfl) ?_
  refine .m rfl rfl rfl (.cmp rfl rfl rfl) ?_
  refine .nil ?_
  refine hK4 _ _ ?_
  refine .cond rfl (fun h13 => ?_) (fun h13 => ?_)
  ·
   try simp only [sps] at h13
   refine .seq (fun K5 hK5 => ?_)
   refine .region ?_
   refine .m rfl rfl rfl (.move rfl) ?_
   refine .m rfl rfl rfl (.assign rfl) ?_
   refine .m rfl rfl rfl (.assign rfl) ?_
   refine .nil ?_
   refine hK5 _ _ ?_
   refine .ret ?_
   -- leaf e1
   refine hret _ _ ?_
   refine ⟨_, _, rfl, rfl, ?_⟩
   first
   | exact ⟨by rw [B_false fun hh => absurd hh.1 (by assumption)], hle⟩
   | exact ⟨by rw [h13, B_congr (p := (0 : Int) = 0 ∧ m.IsMap n c) (q := m.IsMap n c) ⟨fun hh => hh.2, fun hh => ⟨rfl, hh⟩⟩], hle⟩
  ·
   simp only [sps] at h13
   obtain ⟨⟨hI, hJ⟩, hss, htt⟩ := Prof.of_code2 h13
   have hM := hI.1
   have hN := hJ.1
   refine .skip ?_
   refine hK2 _ _ ?_
   refine .seq (fun K6 hK6 => ?_)
   refine .region ?_
   refine .m rfl rfl rfl (.loadM ag_33_VProf rfl ⟨rfl, Mem.of_get at3⟩) ?_
   refine .m rfl rfl rfl (.loadM ag_33_VProf rfl ⟨rfl, Mem.of_get at4⟩) ?_
   refine .m rfl rfl rfl (.move rfl) ?_
   refine .callQ rfl rfl rfl rfl @Try.call33 rfl (l32Map_c) ?_
   refine .m rfl rfl rfl (.assign rfl) ?_
   refine .m rfl rfl rfl (.assign rfl) ?_
   refine .nil ?_
   refine hK6 _ _ ?_
   refine .ret ?_
   -- leaf e2
   refine hret _ _ ?_
   refine ⟨_, _, rfl, rfl, ?_⟩
   first
   | exact ⟨by rw [B_false fun hh => absurd hh.1 (by assumption)], hle⟩
   | exact ⟨by rw [h13, B_congr (p := (0 : Int) = 0 ∧ m.IsMap n c) (q := m.IsMap n c) ⟨fun hh => hh.2, fun hh => ⟨rfl, hh⟩⟩], hle⟩
set_option maxHeartbeats 8000000 in
theorem lawIsProfunctorMap_c {m n : Prof} {p q : ProfP} {a : Option Addr} {c : L3} {r : Nat → Option Addr} {s : Nat → Nat → Option Addr} {H : GHeap} (hin : m.In H p) (hw : m.Wide) (hin' : n.In H q) (hw' : n.Wide) (hc : Intsss H a c r s) (hcw : Wd3 c) :
    GCalls Try.prog 5 [.agg (m.cells p).toArray, .agg (n.cells q).toArray, .slice a c.length c.length] H (fun v _ => v = .bool true) := by
  refine GCalls.body (N := 76) (rs := [.tmp 6]) Try.func5 rfl rfl rfl rfl (fun Qx hret hend => ?_)
  refine .forget (fr' := [(0, some _), (1, some _), (2, some _)]) ⟨rfl, rfl, rfl, trivial⟩ ?_
  have hle := GHeap.Le.refl H
  have base_hin := hin
  have base_hin' := hin'
  have base_hc := hc
  refine .seq (fun K1 hK1 => ?_)
  refine .region ?_
  refine .r rfl rfl rfl (.boxR rfl sz_28_VProf rfl) ?_
  rintro _ H3 ⟨g3, rfl, le3, ge3, at3⟩
  have nx_H3 := le3.1
  replace hle := hle.trans le3
  have lt_at3 := GHeap.lt_of_get at3
  replace hin := base_hin.mono hle
  replace hin' := base_hin'.mono hle
  replace hc := base_hc.mono hle
  have hb3 : Prof.At _ g3 0 m p := ⟨Mem.of_get at3, hin⟩
  obtain ⟨fs3, ft3, c103, c113, c123, i23, i33, i43⟩ := hb3.get
  have hm3 : MemN _ _ _ _ _ := ⟨rfl, hb3.1⟩
  have hi3 := hb3.2
  have hms3 : MemN _ _ _ _ _ := ⟨rfl, fs3.1⟩
  have his3 := fs3.2
  have hmt3 : MemN _ _ _ _ _ := ⟨rfl, ft3.1⟩
  have hit3 := ft3.2
  refine .r rfl rfl rfl (.boxR rfl sz_28_VProf rfl) ?_
  rintro _ H4 ⟨g4, rfl, le4, ge4, at4⟩
  have nx_H4 := le4.1
  replace hle := hle.trans le4
  replace at3 := le4.2 _ _ at3
  have lt_at4 := GHeap.lt_of_get at4
  replace hin := base_hin.mono hle
  replace hin' := base_hin'.mono hle
  replace hc := base_hc.mono hle
  clear hb3 fs3 ft3 c103 c113 c123 i23 i33 i43 hm3 hi3 hms3 his3 hmt3 hit3
  have hb3 : Prof.At _ g3 0 m p := ⟨Mem.of_get at3, hin⟩
  obtain ⟨fs3, ft3, c103, c113, c123, i23, i33, i43⟩ := hb3.get
  have hm3 : MemN _ _ _ _ _ := ⟨rfl, hb3.1⟩
  have hi3 := hb3.2
  have hms3 : MemN _ _ _ _ _ := ⟨rfl, fs3.1⟩
  have his3 := fs3.2
  have hmt3 : MemN _ _ _ _ _ := ⟨rfl, ft3.1⟩
  have hit3 := ft3.2
  have hb4 : Prof.At _ g4 0 n q := ⟨Mem.of_get at4, hin'⟩
  obtain ⟨fs4, ft4, c104, c114, c124, i24, i34, i44⟩ := hb4.get
  have hm4 : MemN _ _ _ _ _ := ⟨rfl, hb4.1⟩
  have hi4 := hb4.2
  have hms4 : MemN _ _ _ _ _ := ⟨rfl, fs4.1⟩
  have his4 := fs4.2
  have hmt4 : MemN _ _ _ _ _ := ⟨rfl, ft4.1⟩
  have hit4 := ft4.2
  refine .m rfl rfl rfl (.assign rfl) ?_
  refine .nil ?_
  refine hK1 _ _ ?_
  refine .seq (fun K2 hK2 => ?_)
  refine .region ?_
  refine .m rfl rfl rfl (.assign rfl) ?_
  refine .nil ?_
  refine hK2 _ _ ?_
  refine .seq (fun K3 hK3 => ?_)
  refine .region ?_
  refine .m rfl rfl rfl (.loadM ag_28_Z rfl ⟨rfl, Mem.of_get at3⟩) ?_
  refine .m rfl rfl rfl (.move rfl) ?_
  refine .call rfl rfl rfl rfl @Try.call6 rfl (szProfunctor_c) ?_
  rintro _ _ ⟨heq, lf17, rfl, z117, z217, z317⟩
  obtain rfl := heq.symm
  refine .m rfl rfl rfl (.assign rfl) ?_
  refine .nil ?_
  refine hK3 _ _ ?_
  refine .seq (fun K4 hK4 => ?_)
  refine .seq (fun K5 hK5 => ?_)
  refine .region ?_
  refine .m rfl rfl rfl (.move rfl) ?_
  refine .m rfl rfl rfl (.cmp rfl rfl rfl) ?_
  refine .nil ?_
  refine hK5 _ _ ?_
  refine .cond rfl (fun h19 => ?_) (fun h19 => ?_)
  ·
   try simp only [sps] at h19
   refine .seq (fun K6 hK6 => ?_)
   refine .region ?_
   refine .m rfl rfl rfl (.assign rfl) ?_
   refine .nil ?_
   refine hK6 _ _ ?_
   refine .ret ?_
   -- leaf e1
   refine hret _ _ ?_
   refine ⟨_, rfl, ?_⟩
   first
   | exact rfl
   | exact absurd trivial (by assumption)
   | contradiction
  ·
   try simp only [sps] at h19
   have hsm17 := z317 (by omega)
   refine .skip ?_
   refine hK4 _ _ ?_
   refine .seq (fun K7 hK7 => ?_)
   refine .region ?_
   refine .m rfl rfl rfl (.loadM ag_28_Z rfl ⟨rfl, Mem.of_get at4⟩) ?_
   refine .m rfl rfl rfl (.move rfl) ?_
   refine .call rfl rfl rfl rfl @Try.call6 rfl (szProfunctor_c) ?_
   rintro _ _ ⟨heq, lf22, rfl, z122, z222, z322⟩
   obtain rfl := heq.symm
   refine .m rfl rfl rfl (.assign rfl) ?_
   refine .nil ?_
   refine hK7 _ _ ?_
   refine .seq (fun K8 hK8 => ?_)
   refine .seq (fun K9 hK9 => ?_)
   refine .region ?_
   refine .m rfl rfl rfl (.move rfl) ?_
   refine .m rfl rfl rfl (.cmp rfl rfl rfl) ?_
   refine .nil ?_
   refine hK9 _ _ ?_
   refine .cond rfl (fun h24 => ?_) (fun h24 => ?_)
   ·
    try simp only [sps] at h24
    refine .seq (fun K10 hK10 => ?_)
    refine .region ?_
    refine .m rfl rfl rfl (.assign rfl) ?_
    refine .nil ?_
    refine hK10 _ _ ?_
    refine .ret ?_
    -- leaf e2
    refine hret _ _ ?_
    refine ⟨_, rfl, ?_⟩
    first
    | exact rfl
    | exact absurd trivial (by assumption)
    | contradiction
   ·
    try simp only [sps] at h24
    have hsm22 := z322 (by omega)
    refine .skip ?_
    refine hK8 _ _ ?_
    refine .seq (fun K11 hK11 => ?_)
    refine .region ?_
    refine .m rfl rfl rfl (.move rfl) ?_
    refine .m rfl rfl rfl (.move rfl) ?_
    refine .call rfl rfl rfl rfl @Try.call13 rfl (szInt64SSS_c) ?_
    rintro _ _ ⟨heq, lf27, rfl, z127, z227, z327⟩
    obtain rfl := heq.symm
    refine .m rfl rfl rfl (.assign rfl) ?_
    refine .nil ?_
    refine hK11 _ _ ?_
    refine .seq (fun K12 hK12 => ?_)
    refine .seq (fun K13 hK13 => ?_)
    refine .region ?_
    refine .m rfl rfl rfl (.move rfl) ?_
    refine .m rfl rfl rfl (.cmp rfl rfl rfl) ?_
    refine .nil ?_
    refine hK13 _ _ ?_
    refine .cond rfl (fun h29 => ?_) (fun h29 => ?_)
    ·
     try simp only [sps] at h29
     refine .seq (fun K14 hK14 => ?_)
     refine .region ?_
     refine .m rfl rfl rfl (.assign rfl) ?_
     refine .nil ?_
     refine hK14 _ _ ?_
     refine .ret ?_
     -- leaf e3
     refine hret _ _ ?_
     refine ⟨_, rfl, ?_⟩
     first
     | exact rfl
     | exact absurd trivial (by assumption)
     | contradiction
    ·
     try simp only [sps] at h29
     have hsm27 := z327 (by omega)
     refine .skip ?_
     refine hK12 _ _ ?_
     refine .seq (fun K15 hK15 => ?_)
     refine .regionD mixed_orders_B (.q 0 (.q 2 (.q 4 (.c 1 1 (.c 3 1 (.c 5 0 (.c 6 0 (.q 7 (.q 8 (.q 9 (.q 10 (.q 11 (.done))))))))))))) (by kernel_rfl) ?_
     refine .m rfl rfl rfl rfl (.refl _) (.loadM ag_28_Z rfl ⟨rfl, Mem.of_get at3⟩) ?_
     refine .m rfl rfl rfl rfl (.refl _) (.loadM ag_28_Z rfl ⟨rfl, Mem.of_get at4⟩) ?_
     refine .m rfl rfl rfl rfl (.refl _) (.move rfl) ?_
     refine .call1 rfl rfl rfl rfl rfl @Try.call8 rfl (toProfunctor_c) ?_
     rintro _ H32 ⟨le32, p32, rfl, v32⟩
     have hbl := le32
     refine ⟨hbl, ?_⟩
     have nx_H32 := le32.1
     replace hle := hle.trans le32
     replace at3 := le32.2 _ _ at3
     replace at4 := le32.2 _ _ at4
     have bs_v32 := v32
     have lv_v32 : Keep H4.next H32 H32 := fun _ _ _ h => h
     replace hin := base_hin.mono hle
     replace hin' := base_hin'.mono hle
     replace hc := base_hc.mono hle
     clear hb3 fs3 ft3 c103 c113 c123 i23 i33 i43 hm3 hi3 hms3 his3 hmt3 hit3
     have hb3 : Prof.At _ g3 0 m p := ⟨Mem.of_get at3, hin⟩
     obtain ⟨fs3, ft3, c103, c113, c123, i23, i33, i43⟩ := hb3.get
     have hm3 : MemN _ _ _ _ _ := ⟨rfl, hb3.1⟩
     have hi3 := hb3.2
     have hms3 : MemN _ _ _ _ _ := ⟨rfl, fs3.1⟩
     have his3 := fs3.2
     have hmt3 : MemN _ _ _ _ _ := ⟨rfl, ft3.1⟩
     have hit3 := ft3.2
     clear hb4 fs4 ft4 c104 c114 c124 i24 i34 i44 hm4 hi4 hms4 his4 hmt4 hit4
     have hb4 : Prof.At _ g4 0 n q := ⟨Mem.of_get at4, hin'⟩
     obtain ⟨fs4, ft4, c104, c114, c124, i24, i34, i44⟩ := hb4.get
     have hm4 : MemN _ _ _ _ _ := ⟨rfl, hb4.1⟩
     have hi4 := hb4.2
     have hms4 : MemN _ _ _ _ _ := ⟨rfl, fs4.1⟩
     have his4 := fs4.2
     have hmt4 : MemN _ _ _ _ _ := ⟨rfl, ft4.1⟩
     have hit4 := ft4.2
     have i32 := v32.inn
     refine .call1 rfl rfl rfl rfl rfl @Try.call8 rfl (toProfunctor_c) ?_
     rintro _ H34 ⟨le34, p34, rfl, v34⟩
     replace hbl := hbl.trans le34
     refine ⟨hbl, ?_⟩
     have nx_H34 := le34.1
     replace hle := hle.trans le34
     replace at3 := le34.2 _ _ at3
     replace at4 := le34.2 _ _ at4
     replace lv_v32 := Keep.le lv_v32 le34
     replace v32 := bs_v32.keep lv_v32 (Nat.le_refl _)
     have bs_v34 := v34
     have lv_v34 : Keep H32.next H34 H34 := fun _ _ _ h => h
     replace hin := base_hin.mono hle
     replace hin' := base_hin'.mono hle
     replace hc := base_hc.mono hle
     clear hb3 fs3 ft3 c103 c113 c123 i23 i33 i43 hm3 hi3 hms3 his3 hmt3 hit3
     have hb3 : Prof.At _ g3 0 m p := ⟨Mem.of_get at3, hin⟩
     obtain ⟨fs3, ft3, c103, c113, c123, i23, i33, i43⟩ := hb3.get
     have hm3 : MemN _ _ _ _ _ := ⟨rfl, hb3.1⟩
     have hi3 := hb3.2
     have hms3 : MemN _ _ _ _ _ := ⟨rfl, fs3.1⟩
     have his3 := fs3.2
     have hmt3 : MemN _ _ _ _ _ := ⟨rfl, ft3.1⟩
     have hit3 := ft3.2
     clear hb4 fs4 ft4 c104 c114 c124 i24 i34 i44 hm4 hi4 hms4 his4 hmt4 hit4
     have hb4 : Prof.At _ g4 0 n q := ⟨Mem.of_get at4, hin'⟩
     obtain ⟨fs4, ft4, c104, c114, c124, i24, i34, i44⟩ := hb4.get
     have hm4 : MemN _ _ _ _ _ := ⟨rfl, hb4.1⟩
     have hi4 := hb4.2
     have hms4 : MemN _ _ _ _ _ := ⟨rfl, fs4.1⟩
     have his4 := fs4.2
     have hmt4 : MemN _ _ _ _ _ := ⟨rfl, ft4.1⟩
     have hit4 := ft4.2
     clear i32
     have i32 := v32.inn
     have i34 := v34.inn
     refine .call0 rfl rfl rfl rfl rfl @Try.call15 rfl (toInt64SSS_c) ?_
     rintro _ H36 ⟨le36, a36, r36, s36, rfl, v36⟩
     have nx_H36 := le36.1
     replace hle := hle.trans le36
     replace at3 := le36.2 _ _ at3
     replace at4 := le36.2 _ _ at4
     replace lv_v32 := Keep.le lv_v32 le36
     replace v32 := bs_v32.keep lv_v32 (Nat.le_refl _)
     replace lv_v34 := Keep.le lv_v34 le36
     replace v34 := bs_v34.keep lv_v34 (Nat.le_refl _)
     have bs_v36 := v36
     have lv_v36 : Keep H34.next H36 H36 := fun _ _ _ h => h
     replace hin := base_hin.mono hle
     replace hin' := base_hin'.mono hle
     replace hc := base_hc.mono hle
     clear hb3 fs3 ft3 c103 c113 c123 i23 i33 i43 hm3 hi3 hms3 his3 hmt3 hit3
     have hb3 : Prof.At _ g3 0 m p := ⟨Mem.of_get at3, hin⟩
     obtain ⟨fs3, ft3, c103, c113, c123, i23, i33, i43⟩ := hb3.get
     have hm3 : MemN _ _ _ _ _ := ⟨rfl, hb3.1⟩
     have hi3 := hb3.2
     have hms3 : MemN _ _ _ _ _ := ⟨rfl, fs3.1⟩
     have his3 := fs3.2
     have hmt3 : MemN _ _ _ _ _ := ⟨rfl, ft3.1⟩
     have hit3 := ft3.2
     clear hb4 fs4 ft4 c104 c114 c124 i24 i34 i44 hm4 hi4 hms4 his4 hmt4 hit4
     have hb4 : Prof.At _ g4 0 n q := ⟨Mem.of_get at4, hin'⟩
     obtain ⟨fs4, ft4, c104, c114, c124, i24, i34, i44⟩ := hb4.get
     have hm4 : MemN _ _ _ _ _ := ⟨rfl, hb4.1⟩
     have hi4 := hb4.2
     have hms4 : MemN _ _ _ _ _ := ⟨rfl, fs4.1⟩
     have his4 := fs4.2
     have hmt4 : MemN _ _ _ _ _ := ⟨rfl, ft4.1⟩
     have hit4 := ft4.2
     clear i32
     have i32 := v32.inn
     clear i34
     have i34 := v34.inn
     have i36 := v36.intsss
     refine .callQ0 rfl rfl rfl rfl rfl @Try.call14 rfl (specIsProfunctorMap_c) ?_
     refine .m rfl rfl rfl rfl (.refl _) (.move rfl) ?_
     refine .m rfl rfl rfl rfl (.refl _) (.extract rfl rfl) ?_
     refine .m rfl rfl rfl rfl (.refl _) (.extract rfl rfl) ?_
     refine .m rfl rfl rfl rfl (.refl _) (.assign rfl) ?_
     refine .m rfl rfl rfl rfl (.refl _) (.assign rfl) ?_
     refine .done ?_
     refine hK15 _ _ ?_
     refine .seq (fun K16 hK16 => ?_)
     refine .region ?_
     refine .m rfl rfl rfl (.loadM ag_28_Z rfl ⟨rfl, Mem.of_get at3⟩) ?_
     refine .call rfl rfl rfl rfl @Try.call8 rfl (toProfunctor_c) ?_
     rintro _ H41 ⟨le41, p41, rfl, v41⟩
     have nx_H41 := le41.1
     replace hle := hle.trans le41
     replace at3 := le41.2 _ _ at3
     replace at4 := le41.2 _ _ at4
     replace lv_v32 := Keep.le lv_v32 le41
     replace v32 := bs_v32.keep lv_v32 (Nat.le_refl _)
     replace lv_v34 := Keep.le lv_v34 le41
     replace v34 := bs_v34.keep lv_v34 (Nat.le_refl _)
     replace lv_v36 := Keep.le lv_v36 le41
     replace v36 := bs_v36.keep lv_v36 (Nat.le_refl _)
     have bs_v41 := v41
     have lv_v41 : Keep H36.next H41 H41 := fun _ _ _ h => h
     replace hin := base_hin.mono hle
     replace hin' := base_hin'.mono hle
     replace hc := base_hc.mono hle
     clear hb3 fs3 ft3 c103 c113 c123 i23 i33 i43 hm3 hi3 hms3 his3 hmt3 hit3
     have hb3 : Prof.At _ g3 0 m p := ⟨Mem.of_get at3, hin⟩
     obtain ⟨fs3, ft3, c103, c113, c123, i23, i33, i43⟩ := hb3.get
     have hm3 : MemN _ _ _ _ _ := ⟨rfl, hb3.1⟩
     have hi3 := hb3.2
     have hms3 : MemN _ _ _ _ _ := ⟨rfl, fs3.1⟩
     have his3 := fs3.2
     have hmt3 : MemN _ _ _ _ _ := ⟨rfl, ft3.1⟩
     have hit3 := ft3.2
     clear hb4 fs4 ft4 c104 c114 c124 i24 i34 i44 hm4 hi4 hms4 his4 hmt4 hit4
     have hb4 : Prof.At _ g4 0 n q := ⟨Mem.of_get at4, hin'⟩
     obtain ⟨fs4, ft4, c104, c114, c124, i24, i34, i44⟩ := hb4.get
     have hm4 : MemN _ _ _ _ _ := ⟨rfl, hb4.1⟩
     have hi4 := hb4.2
     have hms4 : MemN _ _ _ _ _ := ⟨rfl, fs4.1⟩
     have his4 := fs4.2
     have hmt4 : MemN _ _ _ _ _ := ⟨rfl, ft4.1⟩
     have hit4 := ft4.2
     clear i32
     have i32 := v32.inn
     clear i34
     have i34 := v34.inn
     clear i36
     have i36 := v36.intsss
     have i41 := v41.inn
     refine .r rfl rfl rfl (.allocR rfl ze_33_VProf rfl) ?_
     rintro _ H10 ⟨g10, rfl, le10, ge10, at10⟩
     have nx_H10 := le10.1
     replace hle := hle.trans le10
     replace at3 := le10.2 _ _ at3
     replace at4 := le10.2 _ _ at4
     replace lv_v32 := Keep.le lv_v32 le10
     replace v32 := bs_v32.keep lv_v32 (Nat.le_refl _)
     replace lv_v34 := Keep.le lv_v34 le10
     replace v34 := bs_v34.keep lv_v34 (Nat.le_refl _)
     replace lv_v36 := Keep.le lv_v36 le10
     replace v36 := bs_v36.keep lv_v36 (Nat.le_refl _)
     replace lv_v41 := Keep.le lv_v41 le10
     replace v41 := bs_v41.keep lv_v41 (Nat.le_refl _)
     have lt_at10 := GHeap.lt_of_get at10
     replace hin := base_hin.mono hle
     replace hin' := base_hin'.mono hle
     replace hc := base_hc.mono hle
     clear hb3 fs3 ft3 c103 c113 c123 i23 i33 i43 hm3 hi3 hms3 his3 hmt3 hit3
     have hb3 : Prof.At _ g3 0 m p := ⟨Mem.of_get at3, hin⟩
     obtain ⟨fs3, ft3, c103, c113, c123, i23, i33, i43⟩ := hb3.get
     have hm3 : MemN _ _ _ _ _ := ⟨rfl, hb3.1⟩
     have hi3 := hb3.2
     have hms3 : MemN _ _ _ _ _ := ⟨rfl, fs3.1⟩
     have his3 := fs3.2
     have hmt3 : MemN _ _ _ _ _ := ⟨rfl, ft3.1⟩
     have hit3 := ft3.2
     clear hb4 fs4 ft4 c104 c114 c124 i24 i34 i44 hm4 hi4 hms4 his4 hmt4 hit4
     have hb4 : Prof.At _ g4 0 n q := ⟨Mem.of_get at4, hin'⟩
     obtain ⟨fs4, ft4, c104, c114, c124, i24, i34, i44⟩ := hb4.get
     have hm4 : MemN _ _ _ _ _ := ⟨rfl, hb4.1⟩
     have hi4 := hb4.2
     have hms4 : MemN _ _ _ _ _ := ⟨rfl, fs4.1⟩
     have his4 := fs4.2
     have hmt4 : MemN _ _ _ _ _ := ⟨rfl, ft4.1⟩
     have hit4 := ft4.2
     clear i32
     have i32 := v32.inn
     clear i34
     have i34 := v34.inn
     clear i36
     have i36 := v36.intsss
     clear i41
     have i41 := v41.inn
     refine .r0 rfl rfl (.fillR rfl sz_33_VProf rfl rfl rfl rfl (by assumption) (by first | rfl | exact Nat.le_of_ble_eq_true rfl | simp)) ?_
     rintro _ H12003 ⟨rfl, st12003, at12003⟩
     have nx_H12003 := st12003.nx
     replace hle := hle.st st12003 (fun k hk => ⟨by omega, trivial⟩)
     replace at3 := st12003.same _ _ ⟨by omega, trivial⟩ at3
     replace at4 := st12003.same _ _ ⟨by omega, trivial⟩ at4
     replace lv_v32 := Keep.st lv_v32 st12003 (fun k hb hk => ⟨by omega, trivial⟩)
     replace v32 := bs_v32.keep lv_v32 (Nat.le_refl _)
     replace lv_v34 := Keep.st lv_v34 st12003 (fun k hb hk => ⟨by omega, trivial⟩)
     replace v34 := bs_v34.keep lv_v34 (Nat.le_refl _)
     replace lv_v36 := Keep.st lv_v36 st12003 (fun k hb hk => ⟨by omega, trivial⟩)
     replace v36 := bs_v36.keep lv_v36 (Nat.le_refl _)
     replace lv_v41 := Keep.st lv_v41 st12003 (fun k hb hk => ⟨by omega, trivial⟩)
     replace v41 := bs_v41.keep lv_v41 (Nat.le_refl _)
     have lt_at12003 := GHeap.lt_of_get at12003
     replace hin := base_hin.mono hle
     replace hin' := base_hin'.mono hle
     replace hc := base_hc.mono hle
     clear hb3 fs3 ft3 c103 c113 c123 i23 i33 i43 hm3 hi3 hms3 his3 hmt3 hit3
     have hb3 : Prof.At _ g3 0 m p := ⟨Mem.of_get at3, hin⟩
     obtain ⟨fs3, ft3, c103, c113, c123, i23, i33, i43⟩ := hb3.get
     have hm3 : MemN _ _ _ _ _ := ⟨rfl, hb3.1⟩
     have hi3 := hb3.2
     have hms3 : MemN _ _ _ _ _ := ⟨rfl, fs3.1⟩
     have his3 := fs3.2
     have hmt3 : MemN _ _ _ _ _ := ⟨rfl, ft3.1⟩
     have hit3 := ft3.2
     clear hb4 fs4 ft4 c104 c114 c124 i24 i34 i44 hm4 hi4 hms4 his4 hmt4 hit4
     have hb4 : Prof.At _ g4 0 n q := ⟨Mem.of_get at4, hin'⟩
     obtain ⟨fs4, ft4, c104, c114, c124, i24, i34, i44⟩ := hb4.get
     have hm4 : MemN _ _ _ _ _ := ⟨rfl, hb4.1⟩
     have hi4 := hb4.2
     have hms4 : MemN _ _ _ _ _ := ⟨rfl, fs4.1⟩
     have his4 := fs4.2
     have hmt4 : MemN _ _ _ _ _ := ⟨rfl, ft4.1⟩
     have hit4 := ft4.2
     clear i32
     have i32 := v32.inn
     clear i34
     have i34 := v34.inn
     clear i36
     have i36 := v36.intsss
     clear i41
     have i41 := v41.inn
     have mm12003 : MemN _ _ _ _ _ := ⟨rfl, Mem.of_get at12003⟩
     refine .nil ?_
     refine hK16 _ _ ?_
     refine .seq (fun K17 hK17 => ?_)
     refine .region ?_
     refine .m rfl rfl rfl (.loadM ag_28_Z rfl ⟨rfl, Mem.of_get at4⟩) ?_
     refine .call rfl rfl rfl rfl @Try.call8 rfl (toProfunctor_c) ?_
     rintro _ H43 ⟨le43, p43, rfl, v43⟩
     have nx_H43 := le43.1
     replace hle := hle.trans le43
     replace at3 := le43.2 _ _ at3
     replace at4 := le43.2 _ _ at4
     replace at12003 := le43.2 _ _ at12003
     replace lv_v32 := Keep.le lv_v32 le43
     replace v32 := bs_v32.keep lv_v32 (Nat.le_refl _)
     replace lv_v34 := Keep.le lv_v34 le43
     replace v34 := bs_v34.keep lv_v34 (Nat.le_refl _)
     replace lv_v36 := Keep.le lv_v36 le43
     replace v36 := bs_v36.keep lv_v36 (Nat.le_refl _)
     replace lv_v41 := Keep.le lv_v41 le43
     replace v41 := bs_v41.keep lv_v41 (Nat.le_refl _)
     have bs_v43 := v43
     have lv_v43 : Keep H12003.next H43 H43 := fun _ _ _ h => h
     replace hin := base_hin.mono hle
     replace hin' := base_hin'.mono hle
     replace hc := base_hc.mono hle
     clear hb3 fs3 ft3 c103 c113 c123 i23 i33 i43 hm3 hi3 hms3 his3 hmt3 hit3
     have hb3 : Prof.At _ g3 0 m p := ⟨Mem.of_get at3, hin⟩
     obtain ⟨fs3, ft3, c103, c113, c123, i23, i33, i43⟩ := hb3.get
     have hm3 : MemN _ _ _ _ _ := ⟨rfl, hb3.1⟩
     have hi3 := hb3.2
     have hms3 : MemN _ _ _ _ _ := ⟨rfl, fs3.1⟩
     have his3 := fs3.2
     have hmt3 : MemN _ _ _ _ _ := ⟨rfl, ft3.1⟩
     have hit3 := ft3.2
     clear hb4 fs4 ft4 c104 c114 c124 i24 i34 i44 hm4 hi4 hms4 his4 hmt4 hit4
     have hb4 : Prof.At _ g4 0 n q := ⟨Mem.of_get at4, hin'⟩
     obtain ⟨fs4, ft4, c104, c114, c124, i24, i34, i44⟩ := hb4.get
     have hm4 : MemN _ _ _ _ _ := ⟨rfl, hb4.1⟩
     have hi4 := hb4.2
     have hms4 : MemN _ _ _ _ _ := ⟨rfl, fs4.1⟩
     have his4 := fs4.2
     have hmt4 : MemN _ _ _ _ _ := ⟨rfl, ft4.1⟩
     have hit4 := ft4.2
     clear i32
     have i32 := v32.inn
     clear i34
     have i34 := v34.inn
     clear i36
     have i36 := v36.intsss
     clear i41
     have i41 := v41.inn
     clear mm12003
     have mm12003 : MemN _ _ _ _ _ := ⟨rfl, Mem.of_get at12003⟩
     have i43 := v43.inn
     refine .r rfl rfl rfl (.allocR rfl ze_33_VProf rfl) ?_
     rintro _ H11 ⟨g11, rfl, le11, ge11, at11⟩
     have nx_H11 := le11.1
     replace hle := hle.trans le11
     replace at3 := le11.2 _ _ at3
     replace at4 := le11.2 _ _ at4
     replace at12003 := le11.2 _ _ at12003
     replace lv_v32 := Keep.le lv_v32 le11
     replace v32 := bs_v32.keep lv_v32 (Nat.le_refl _)
     replace lv_v34 := Keep.le lv_v34 le11
     replace v34 := bs_v34.keep lv_v34 (Nat.le_refl _)
     replace lv_v36 := Keep.le lv_v36 le11
     replace v36 := bs_v36.keep lv_v36 (Nat.le_refl _)
     replace lv_v41 := Keep.le lv_v41 le11
     replace v41 := bs_v41.keep lv_v41 (Nat.le_refl _)
     replace lv_v43 := Keep.le lv_v43 le11
     replace v43 := bs_v43.keep lv_v43 (Nat.le_refl _)
     have lt_at11 := GHeap.lt_of_get at11
     replace hin := base_hin.mono hle
     replace hin' := base_hin'.mono hle
     replace hc := base_hc.mono hle
     clear hb3 fs3 ft3 c103 c113 c123 i23 i33 i43 hm3 hi3 hms3 his3 hmt3 hit3
     have hb3 : Prof.At _ g3 0 m p := ⟨Mem.of_get at3, hin⟩
     obtain ⟨fs3, ft3, c103, c113, c123, i23, i33, i43⟩ := hb3.get
     have hm3 : MemN _ _ _ _ _ := ⟨rfl, hb3.1⟩
     have hi3 := hb3.2
     have hms3 : MemN _ _ _ _ _ := ⟨rfl, fs3.1⟩
     have his3 := fs3.2
     have hmt3 : MemN _ _ _ _ _ := ⟨rfl, ft3.1⟩
     have hit3 := ft3.2
     clear hb4 fs4 ft4 c104 c114 c124 i24 i34 i44 hm4 hi4 hms4 his4 hmt4 hit4
     have hb4 : Prof.At _ g4 0 n q := ⟨Mem.of_get at4, hin'⟩
     obtain ⟨fs4, ft4, c104, c114, c124, i24, i34, i44⟩ := hb4.get
     have hm4 : MemN _ _ _ _ _ := ⟨rfl, hb4.1⟩
     have hi4 := hb4.2
     have hms4 : MemN _ _ _ _ _ := ⟨rfl, fs4.1⟩
     have his4 := fs4.2
     have hmt4 : MemN _ _ _ _ _ := ⟨rfl, ft4.1⟩
     have hit4 := ft4.2
     clear i32
     have i32 := v32.inn
     clear i34
     have i34 := v34.inn
     clear i36
     have i36 := v36.intsss
     clear i41
     have i41 := v41.inn
     clear mm12003
     have mm12003 : MemN _ _ _ _ _ := ⟨rfl, Mem.of_get at12003⟩
     clear i43
     have i43 := v43.inn
     refine .r0 rfl rfl (.fillR rfl sz_33_VProf rfl rfl rfl rfl (by assumption) (by first | rfl | exact Nat.le_of_ble_eq_true rfl | simp)) ?_
     rintro _ H13003 ⟨rfl, st13003, at13003⟩
     have nx_H13003 := st13003.nx
     replace hle := hle.st st13003 (fun k hk => ⟨by omega, trivial⟩)
     replace at3 := st13003.same _ _ ⟨by omega, trivial⟩ at3
     replace at4 := st13003.same _ _ ⟨by omega, trivial⟩ at4
     replace at12003 := st13003.same _ _ ⟨by omega, trivial⟩ at12003
     replace lv_v32 := Keep.st lv_v32 st13003 (fun k hb hk => ⟨by omega, trivial⟩)
     replace v32 := bs_v32.keep lv_v32 (Nat.le_refl _)
     replace lv_v34 := Keep.st lv_v34 st13003 (fun k hb hk => ⟨by omega, trivial⟩)
     replace v34 := bs_v34.keep lv_v34 (Nat.le_refl _)
     replace lv_v36 := Keep.st lv_v36 st13003 (fun k hb hk => ⟨by omega, trivial⟩)
     replace v36 := bs_v36.keep lv_v36 (Nat.le_refl _)
     replace lv_v41 := Keep.st lv_v41 st13003 (fun k hb hk => ⟨by omega, trivial⟩)
     replace v41 := bs_v41.keep lv_v41 (Nat.le_refl _)
     replace lv_v43 := Keep.st lv_v43 st13003 (fun k hb hk => ⟨by omega, trivial⟩)
     replace v43 := bs_v43.keep lv_v43 (Nat.le_refl _)
     have lt_at13003 := GHeap.lt_of_get at13003
     replace hin := base_hin.mono hle
     replace hin' := base_hin'.mono hle
     replace hc := base_hc.mono hle
     clear hb3 fs3 ft3 c103 c113 c123 i23 i33 i43 hm3 hi3 hms3 his3 hmt3 hit3
     have hb3 : Prof.At _ g3 0 m p := ⟨Mem.of_get at3, hin⟩
     obtain ⟨fs3, ft3, c103, c113, c123, i23, i33, i43⟩ := hb3.get
     have hm3 : MemN _ _ _ _ _ := ⟨rfl, hb3.1⟩
     have hi3 := hb3.2
     have hms3 : MemN _ _ _ _ _ := ⟨rfl, fs3.1⟩
     have his3 := fs3.2
     have hmt3 : MemN _ _ _ _ _ := ⟨rfl, ft3.1⟩
     have hit3 := ft3.2
     clear hb4 fs4 ft4 c104 c114 c124 i24 i34 i44 hm4 hi4 hms4 his4 hmt4 hit4
     have hb4 : Prof.At _ g4 0 n q := ⟨Mem.of_get at4, hin'⟩
     obtain ⟨fs4, ft4, c104, c114, c124, i24, i34, i44⟩ := hb4.get
     have hm4 : MemN _ _ _ _ _ := ⟨rfl, hb4.1⟩
     have hi4 := hb4.2
     have hms4 : MemN _ _ _ _ _ := ⟨rfl, fs4.1⟩
     have his4 := fs4.2
     have hmt4 : MemN _ _ _ _ _ := ⟨rfl, ft4.1⟩
     have hit4 := ft4.2
     clear i32
     have i32 := v32.inn
     clear i34
     have i34 := v34.inn
     clear i36
     have i36 := v36.intsss
     clear i41
     have i41 := v41.inn
     clear mm12003
     have mm12003 : MemN _ _ _ _ _ := ⟨rfl, Mem.of_get at12003⟩
     clear i43
     have i43 := v43.inn
     have mm13003 : MemN _ _ _ _ _ := ⟨rfl, Mem.of_get at13003⟩
     refine .nil ?_
     refine hK17 _ _ ?_
     refine .seq (fun K18 hK18 => ?_)
     refine .region ?_
     refine .m rfl rfl rfl (.move rfl) ?_
     refine .call rfl rfl rfl rfl @Try.call15 rfl (toInt64SSS_c) ?_
     rintro _ H45 ⟨le45, a45, r45, s45, rfl, v45⟩
     have nx_H45 := le45.1
     replace hle := hle.trans le45
     replace at3 := le45.2 _ _ at3
     replace at4 := le45.2 _ _ at4
     replace at12003 := le45.2 _ _ at12003
     replace at13003 := le45.2 _ _ at13003
     replace lv_v32 := Keep.le lv_v32 le45
     replace v32 := bs_v32.keep lv_v32 (Nat.le_refl _)
     replace lv_v34 := Keep.le lv_v34 le45
     replace v34 := bs_v34.keep lv_v34 (Nat.le_refl _)
     replace lv_v36 := Keep.le lv_v36 le45
     replace v36 := bs_v36.keep lv_v36 (Nat.le_refl _)
     replace lv_v41 := Keep.le lv_v41 le45
     replace v41 := bs_v41.keep lv_v41 (Nat.le_refl _)
     replace lv_v43 := Keep.le lv_v43 le45
     replace v43 := bs_v43.keep lv_v43 (Nat.le_refl _)
     have bs_v45 := v45
     have lv_v45 : Keep H13003.next H45 H45 := fun _ _ _ h => h
     replace hin := base_hin.mono hle
     replace hin' := base_hin'.mono hle
     replace hc := base_hc.mono hle
     clear hb3 fs3 ft3 c103 c113 c123 i23 i33 i43 hm3 hi3 hms3 his3 hmt3 hit3
     have hb3 : Prof.At _ g3 0 m p := ⟨Mem.of_get at3, hin⟩
     obtain ⟨fs3, ft3, c103, c113, c123, i23, i33, i43⟩ := hb3.get
     have hm3 : MemN _ _ _ _ _ := ⟨rfl, hb3.1⟩
     have hi3 := hb3.2
     have hms3 : MemN _ _ _ _ _ := ⟨rfl, fs3.1⟩
     have his3 := fs3.2
     have hmt3 : MemN _ _ _ _ _ := ⟨rfl, ft3.1⟩
     have hit3 := ft3.2
     clear hb4 fs4 ft4 c104 c114 c124 i24 i34 i44 hm4 hi4 hms4 his4 hmt4 hit4
     have hb4 : Prof.At _ g4 0 n q := ⟨Mem.of_get at4, hin'⟩
     obtain ⟨fs4, ft4, c104, c114, c124, i24, i34, i44⟩ := hb4.get
     have hm4 : MemN _ _ _ _ _ := ⟨rfl, hb4.1⟩
     have hi4 := hb4.2
     have hms4 : MemN _ _ _ _ _ := ⟨rfl, fs4.1⟩
     have his4 := fs4.2
     have hmt4 : MemN _ _ _ _ _ := ⟨rfl, ft4.1⟩
     have hit4 := ft4.2
     clear i32
     have i32 := v32.inn
     clear i34
     have i34 := v34.inn
     clear i36
     have i36 := v36.intsss
     clear i41
     have i41 := v41.inn
     clear mm12003
     have mm12003 : MemN _ _ _ _ _ := ⟨rfl, Mem.of_get at12003⟩
     clear i43
     have i43 := v43.inn
     clear mm13003
     have mm13003 : MemN _ _ _ _ _ := ⟨rfl, Mem.of_get at13003⟩
     have i45 := v45.intsss
     refine .m rfl rfl rfl (.assign rfl) ?_
     refine .nil ?_
     refine hK18 _ _ ?_
     refine .seq (fun K19 hK19 => ?_)
     refine .region ?_
     refine .m rfl rfl rfl (.loadM ag_33_VProf rfl ⟨rfl, Mem.of_get at12003⟩) ?_
     refine .m rfl rfl rfl (.loadM ag_33_VProf rfl ⟨rfl, Mem.of_get at13003⟩) ?_
     refine .m rfl rfl rfl (.move rfl) ?_
     refine .callQ rfl rfl rfl rfl @Try.call16 rfl (implIsProfunctorMap_c) ?_
     refine .m rfl rfl rfl (.move rfl) ?_
     refine .m rfl rfl rfl (.extract rfl rfl) ?_
     refine .m rfl rfl rfl (.extract rfl rfl) ?_
     refine .m rfl rfl rfl (.assign rfl) ?_
     refine .m rfl rfl rfl (.assign rfl) ?_
     refine .nil ?_
     refine hK19 _ _ ?_
     refine .seq (fun K20 hK20 => ?_)
     refine .seq (fun K21 hK21 => ?_)
     refine .region ?_
     refine .m rfl rfl rfl (.move rfl) ?_
     refine .m rfl rfl rfl (.move rfl) ?_
     refine .m rfl rfl rfl (.boolNe bo_4_Z rfl rfl) ?_
     refine .m rfl rfl rfl (.move rfl) ?_
     refine .split (fun h56 => ?_) (fun h56 => ?_)
     ·
      try simp only [sps] at h56
      refine .sg rfl rfl rfl rfl rfl ?_
      refine .sg rfl rfl rfl rfl rfl ?_
      refine .sg rfl rfl rfl rfl rfl ?_
      refine .m rfl rfl rfl (.pickT rfl rfl) ?_
      refine .nil ?_
      refine hK21 _ _ ?_
      refine .condT rfl ?_
      refine .seq (fun K22 hK22 => ?_)
      refine .region ?_
      refine .m rfl rfl rfl (.assign rfl) ?_
      refine .nil ?_
      refine hK22 _ _ ?_
      refine .ret ?_
      -- leaf e4
      refine hret _ _ ?_
      refine ⟨_, rfl, ?_⟩
      first
      | exact rfl
      | exact absurd trivial (by assumption)
      | contradiction
     ·
      try simp only [sps] at h56
      refine .mg rfl rfl rfl rfl rfl (.move rfl) ?_
      refine .mg rfl rfl rfl rfl rfl (.move rfl) ?_
      refine .mg rfl rfl rfl rfl rfl (.cmp rfl rfl rfl) ?_
      refine .m rfl rfl rfl (.pickF rfl rfl) ?_
      refine .nil ?_
      refine hK21 _ _ ?_
      refine .cond rfl (fun h60 => ?_) (fun h60 => ?_)
      ·
       try simp only [sps] at h60
       refine .seq (fun K23 hK23 => ?_)
       refine .region ?_
       refine .m rfl rfl rfl (.assign rfl) ?_
       refine .nil ?_
       refine hK23 _ _ ?_
       refine .ret ?_
       -- leaf e5
       refine hret _ _ ?_
       refine ⟨_, rfl, ?_⟩
       first
       | exact rfl
       | exact absurd trivial (by assumption)
       | contradiction
      ·
       try simp only [sps] at h60
       refine .skip ?_
       refine hK20 _ _ ?_
       refine .seq (fun K24 hK24 => ?_)
       refine .seq (fun K25 hK25 => ?_)
       refine .regionD mixed_orders_B (.q 0 (.q 1 (.c 2 1 (.c 3 0 (.q 4 (.done)))))) (by kernel_rfl) ?_
       refine .m rfl rfl rfl rfl (.refl _) (.loadM ag_33_VProf rfl ⟨rfl, Mem.of_get at12003⟩) ?_
       refine .m rfl rfl rfl rfl (.refl _) (.loadM ag_28_Z rfl ⟨rfl, Mem.of_get at3⟩) ?_
       refine .call1 rfl rfl rfl rfl rfl @Try.call8 rfl (toProfunctor_c) ?_
       rintro _ H63 ⟨le63, p63, rfl, v63⟩
       have hbl := le63
       refine ⟨hbl, ?_⟩
       have nx_H63 := le63.1
       replace hle := hle.trans le63
       replace at3 := le63.2 _ _ at3
       replace at4 := le63.2 _ _ at4
       replace at12003 := le63.2 _ _ at12003
       replace at13003 := le63.2 _ _ at13003
       replace lv_v32 := Keep.le lv_v32 le63
       replace v32 := bs_v32.keep lv_v32 (Nat.le_refl _)
       replace lv_v34 := Keep.le lv_v34 le63
       replace v34 := bs_v34.keep lv_v34 (Nat.le_refl _)
       replace lv_v36 := Keep.le lv_v36 le63
       replace v36 := bs_v36.keep lv_v36 (Nat.le_refl _)
       replace lv_v41 := Keep.le lv_v41 le63
       replace v41 := bs_v41.keep lv_v41 (Nat.le_refl _)
       replace lv_v43 := Keep.le lv_v43 le63
       replace v43 := bs_v43.keep lv_v43 (Nat.le_refl _)
       replace lv_v45 := Keep.le lv_v45 le63
       replace v45 := bs_v45.keep lv_v45 (Nat.le_refl _)
       have bs_v63 := v63
       have lv_v63 : Keep H45.next H63 H63 := fun _ _ _ h => h
       replace hin := base_hin.mono hle
       replace hin' := base_hin'.mono hle
       replace hc := base_hc.mono hle
       clear hb3 fs3 ft3 c103 c113 c123 i23 i33 i43 hm3 hi3 hms3 his3 hmt3 hit3
       have hb3 : Prof.At _ g3 0 m p := ⟨Mem.of_get at3, hin⟩
       obtain ⟨fs3, ft3, c103, c113, c123, i23, i33, i43⟩ := hb3.get
       have hm3 : MemN _ _ _ _ _ := ⟨rfl, hb3.1⟩
       have hi3 := hb3.2
       have hms3 : MemN _ _ _ _ _ := ⟨rfl, fs3.1⟩
       have his3 := fs3.2
       have hmt3 : MemN _ _ _ _ _ := ⟨rfl, ft3.1⟩
       have hit3 := ft3.2
       clear hb4 fs4 ft4 c104 c114 c124 i24 i34 i44 hm4 hi4 hms4 his4 hmt4 hit4
       have hb4 : Prof.At _ g4 0 n q := ⟨Mem.of_get at4, hin'⟩
       obtain ⟨fs4, ft4, c104, c114, c124, i24, i34, i44⟩ := hb4.get
       have hm4 : MemN _ _ _ _ _ := ⟨rfl, hb4.1⟩
       have hi4 := hb4.2
       have hms4 : MemN _ _ _ _ _ := ⟨rfl, fs4.1⟩
       have his4 := fs4.2
       have hmt4 : MemN _ _ _ _ _ := ⟨rfl, ft4.1⟩
       have hit4 := ft4.2
       clear i32
       have i32 := v32.inn
       clear i34
       have i34 := v34.inn
       clear i36
       have i36 := v36.intsss
       clear i41
       have i41 := v41.inn
       clear mm12003
       have mm12003 : MemN _ _ _ _ _ := ⟨rfl, Mem.of_get at12003⟩
       clear i43
       have i43 := v43.inn
       clear mm13003
       have mm13003 : MemN _ _ _ _ _ := ⟨rfl, Mem.of_get at13003⟩
       clear i45
       have i45 := v45.intsss
       have i63 := v63.inn
       refine .callQ0 rfl rfl rfl rfl rfl @Try.call10 rfl (eqProfunctor_c) ?_
       refine .m rfl rfl rfl rfl (.refl _) (.not rfl) ?_
       refine .done ?_
       refine hK25 _ _ ?_
       refine .cond rfl (fun h65 => ?_) (fun h65 => ?_)
       ·
        try simp only [sps] at h65
        refine .seq (fun K26 hK26 => ?_)
        refine .region ?_
        refine .m rfl rfl rfl (.assign rfl) ?_
        refine .nil ?_
        refine hK26 _ _ ?_
        refine .ret ?_
        -- leaf e6
        refine hret _ _ ?_
        refine ⟨_, rfl, ?_⟩
        first
        | exact rfl
        | exact absurd trivial (by assumption)
        | contradiction
       ·
        try simp only [sps] at h65
        refine .skip ?_
        refine hK24 _ _ ?_
        refine .seq (fun K27 hK27 => ?_)
        refine .seq (fun K28 hK28 => ?_)
        refine .regionD mixed_orders_B (.q 0 (.q 1 (.c 2 1 (.c 3 0 (.q 4 (.done)))))) (by kernel_rfl) ?_
        refine .m rfl rfl rfl rfl (.refl _) (.loadM ag_33_VProf rfl ⟨rfl, Mem.of_get at13003⟩) ?_
        refine .m rfl rfl rfl rfl (.refl _) (.loadM ag_28_Z rfl ⟨rfl, Mem.of_get at4⟩) ?_
        refine .call1 rfl rfl rfl rfl rfl @Try.call8 rfl (toProfunctor_c) ?_
        rintro _ H68 ⟨le68, p68, rfl, v68⟩
        have hbl := le68
        refine ⟨hbl, ?_⟩
        have nx_H68 := le68.1
        replace hle := hle.trans le68
        replace at3 := le68.2 _ _ at3
        replace at4 := le68.2 _ _ at4
        replace at12003 := le68.2 _ _ at12003
        replace at13003 := le68.2 _ _ at13003
        replace lv_v32 := Keep.le lv_v32 le68
        replace v32 := bs_v32.keep lv_v32 (Nat.le_refl _)
        replace lv_v34 := Keep.le lv_v34 le68
        replace v34 := bs_v34.keep lv_v34 (Nat.le_refl _)
        replace lv_v36 := Keep.le lv_v36 le68
        replace v36 := bs_v36.keep lv_v36 (Nat.le_refl _)
        replace lv_v41 := Keep.le lv_v41 le68
        replace v41 := bs_v41.keep lv_v41 (Nat.le_refl _)
        replace lv_v43 := Keep.le lv_v43 le68
        replace v43 := bs_v43.keep lv_v43 (Nat.le_refl _)
        replace lv_v45 := Keep.le lv_v45 le68
        replace v45 := bs_v45.keep lv_v45 (Nat.le_refl _)
        replace lv_v63 := Keep.le lv_v63 le68
        replace v63 := bs_v63.keep lv_v63 (Nat.le_refl _)
        have bs_v68 := v68
        have lv_v68 : Keep H63.next H68 H68 := fun _ _ _ h => h
        replace hin := base_hin.mono hle
        replace hin' := base_hin'.mono hle
        replace hc := base_hc.mono hle
        clear hb3 fs3 ft3 c103 c113 c123 i23 i33 i43 hm3 hi3 hms3 his3 hmt3 hit3
        have hb3 : Prof.At _ g3 0 m p := ⟨Mem.of_get at3, hin⟩
        obtain ⟨fs3, ft3, c103, c113, c123, i23, i33, i43⟩ := hb3.get
        have hm3 : MemN _ _ _ _ _ := ⟨rfl, hb3.1⟩
        have hi3 := hb3.2
        have hms3 : MemN _ _ _ _ _ := ⟨rfl, fs3.1⟩
        have his3 := fs3.2
        have hmt3 : MemN _ _ _ _ _ := ⟨rfl, ft3.1⟩
        have hit3 := ft3.2
        clear hb4 fs4 ft4 c104 c114 c124 i24 i34 i44 hm4 hi4 hms4 his4 hmt4 hit4
        have hb4 : Prof.At _ g4 0 n q := ⟨Mem.of_get at4, hin'⟩
        obtain ⟨fs4, ft4, c104, c114, c124, i24, i34, i44⟩ := hb4.get
        have hm4 : MemN _ _ _ _ _ := ⟨rfl, hb4.1⟩
        have hi4 := hb4.2
        have hms4 : MemN _ _ _ _ _ := ⟨rfl, fs4.1⟩
        have his4 := fs4.2
        have hmt4 : MemN _ _ _ _ _ := ⟨rfl, ft4.1⟩
        have hit4 := ft4.2
        clear i32
        have i32 := v32.inn
        clear i34
        have i34 := v34.inn
        clear i36
        have i36 := v36.intsss
        clear i41
        have i41 := v41.inn
        clear mm12003
        have mm12003 : MemN _ _ _ _ _ := ⟨rfl, Mem.of_get at12003⟩
        clear i43
        have i43 := v43.inn
        clear mm13003
        have mm13003 : MemN _ _ _ _ _ := ⟨rfl, Mem.of_get at13003⟩
        clear i45
        have i45 := v45.intsss
        clear i63
        have i63 := v63.inn
        have i68 := v68.inn
        refine .callQ0 rfl rfl rfl rfl rfl @Try.call10 rfl (eqProfunctor_c) ?_
        refine .m rfl rfl rfl rfl (.refl _) (.not rfl) ?_
        refine .done ?_
        refine hK28 _ _ ?_
        refine .cond rfl (fun h70 => ?_) (fun h70 => ?_)
        ·
         try simp only [sps] at h70
         refine .seq (fun K29 hK29 => ?_)
         refine .region ?_
         refine .m rfl rfl rfl (.assign rfl) ?_
         refine .nil ?_
         refine hK29 _ _ ?_
         refine .ret ?_
         -- leaf e7
         refine hret _ _ ?_
         refine ⟨_, rfl, ?_⟩
         first
         | exact rfl
         | exact absurd trivial (by assumption)
         | contradiction
        ·
         try simp only [sps] at h70
         refine .skip ?_
         refine hK27 _ _ ?_
         refine .seq (fun K30 hK30 => ?_)
         refine .seq (fun K31 hK31 => ?_)
         refine .region ?_
         refine .m rfl rfl rfl (.move rfl) ?_
         refine .m rfl rfl rfl (.move rfl) ?_
         refine .call rfl rfl rfl rfl @Try.call15 rfl (toInt64SSS_c) ?_
         rintro _ H73 ⟨le73, a73, r73, s73, rfl, v73⟩
         have nx_H73 := le73.1
         replace hle := hle.trans le73
         replace at3 := le73.2 _ _ at3
         replace at4 := le73.2 _ _ at4
         replace at12003 := le73.2 _ _ at12003
         replace at13003 := le73.2 _ _ at13003
         replace lv_v32 := Keep.le lv_v32 le73
         replace v32 := bs_v32.keep lv_v32 (Nat.le_refl _)
         replace lv_v34 := Keep.le lv_v34 le73
         replace v34 := bs_v34.keep lv_v34 (Nat.le_refl _)
         replace lv_v36 := Keep.le lv_v36 le73
         replace v36 := bs_v36.keep lv_v36 (Nat.le_refl _)
         replace lv_v41 := Keep.le lv_v41 le73
         replace v41 := bs_v41.keep lv_v41 (Nat.le_refl _)
         replace lv_v43 := Keep.le lv_v43 le73
         replace v43 := bs_v43.keep lv_v43 (Nat.le_refl _)
         replace lv_v45 := Keep.le lv_v45 le73
         replace v45 := bs_v45.keep lv_v45 (Nat.le_refl _)
         replace lv_v63 := Keep.le lv_v63 le73
         replace v63 := bs_v63.keep lv_v63 (Nat.le_refl _)
         replace lv_v68 := Keep.le lv_v68 le73
         replace v68 := bs_v68.keep lv_v68 (Nat.le_refl _)
         have bs_v73 := v73
         have lv_v73 : Keep H68.next H73 H73 := fun _ _ _ h => h
         replace hin := base_hin.mono hle
         replace hin' := base_hin'.mono hle
         replace hc := base_hc.mono hle
         clear hb3 fs3 ft3 c103 c113 c123 i23 i33 i43 hm3 hi3 hms3 his3 hmt3 hit3
         have hb3 : Prof.At _ g3 0 m p := ⟨Mem.of_get at3, hin⟩
         obtain ⟨fs3, ft3, c103, c113, c123, i23, i33, i43⟩ := hb3.get
         have hm3 : MemN _ _ _ _ _ := ⟨rfl, hb3.1⟩
         have hi3 := hb3.2
         have hms3 : MemN _ _ _ _ _ := ⟨rfl, fs3.1⟩
         have his3 := fs3.2
         have hmt3 : MemN _ _ _ _ _ := ⟨rfl, ft3.1⟩
         have hit3 := ft3.2
         clear hb4 fs4 ft4 c104 c114 c124 i24 i34 i44 hm4 hi4 hms4 his4 hmt4 hit4
         have hb4 : Prof.At _ g4 0 n q := ⟨Mem.of_get at4, hin'⟩
         obtain ⟨fs4, ft4, c104, c114, c124, i24, i34, i44⟩ := hb4.get
         have hm4 : MemN _ _ _ _ _ := ⟨rfl, hb4.1⟩
         have hi4 := hb4.2
         have hms4 : MemN _ _ _ _ _ := ⟨rfl, fs4.1⟩
         have his4 := fs4.2
         have hmt4 : MemN _ _ _ _ _ := ⟨rfl, ft4.1⟩
         have hit4 := ft4.2
         clear i32
         have i32 := v32.inn
         clear i34
         have i34 := v34.inn
         clear i36
         have i36 := v36.intsss
         clear i41
         have i41 := v41.inn
         clear mm12003
         have mm12003 : MemN _ _ _ _ _ := ⟨rfl, Mem.of_get at12003⟩
         clear i43
         have i43 := v43.inn
         clear mm13003
         have mm13003 : MemN _ _ _ _ _ := ⟨rfl, Mem.of_get at13003⟩
         clear i45
         have i45 := v45.intsss
         clear i63
         have i63 := v63.inn
         clear i68
         have i68 := v68.inn
         have i73 := v73.intsss
         refine .callQ rfl rfl rfl rfl @Try.call17 rfl (eqInt64SSS_c) ?_
         refine .m rfl rfl rfl (.not rfl) ?_
         refine .nil ?_
         refine hK31 _ _ ?_
         refine .cond rfl (fun h75 => ?_) (fun h75 => ?_)
         ·
          try simp only [sps] at h75
          refine .seq (fun K32 hK32 => ?_)
          refine .region ?_
          refine .m rfl rfl rfl (.assign rfl) ?_
          refine .nil ?_
          refine hK32 _ _ ?_
          refine .ret ?_
          -- leaf e8
          refine hret _ _ ?_
          refine ⟨_, rfl, ?_⟩
          first
          | exact rfl
          | exact absurd trivial (by assumption)
          | contradiction
         ·
          try simp only [sps] at h75
          refine .skip ?_
          refine hK30 _ _ ?_
          refine .seq (fun K33 hK33 => ?_)
          refine .region ?_
          refine .m rfl rfl rfl (.assign rfl) ?_
          refine .nil ?_
          refine hK33 _ _ ?_
          refine .ret ?_
          -- leaf e9
          refine hret _ _ ?_
          refine ⟨_, rfl, ?_⟩
          first
          | exact rfl
          | exact absurd trivial (by assumption)
          | contradiction
end Go.Proofs.Ytihkbggaaopebaa
