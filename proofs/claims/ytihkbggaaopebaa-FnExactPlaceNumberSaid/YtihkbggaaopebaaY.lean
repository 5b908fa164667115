/- Places of a profunctor of a category with itself. No condition but those of each statement. -/
import Derived.Test.YtihkbggaaopebaaT
import Derived.Test.YtihkbggaaopebaaW
namespace Go.Proofs.Ytihkbggaaopebaa
open Go Go.GL Go.RowKit Go.Proofs
theorem ag_28_Y : aggT Try.prog 28 = some 13 := by kernel_rfl
theorem loopCode_c {g o : Nat} {m : Prof} {p : ProfP} {H : GHeap} (h : Prof.At H g o m p := by assumption) (hs : m.Small := by assumption) : GCalls Try.prog 29 [.pointer (some ⟨g, o, none⟩)] H (Ret (.int .i64 m.code) H) := by
  refine GCalls.ret rfl ?_
  have hs1 := hs
  obtain ⟨w1, w2, _⟩ := hs1
  refine GCalls.body (N := 14) (rs := [.tmp 2]) Try.func29 rfl rfl rfl rfl (fun Qx hret hend => ?_)
  refine .forget (fr' := [(0, some _)]) ⟨rfl, trivial⟩ ?_
  have hle := GHeap.Le.refl H
  have base_h := h
  obtain ⟨fs, ft, c10, c11, c12, i2, i3, i4⟩ := h.get
  have hm : MemN _ _ _ _ _ := ⟨rfl, h.1⟩
  have hi := h.2
  have hms : MemN _ _ _ _ _ := ⟨rfl, fs.1⟩
  have his := fs.2
  have hmt : MemN _ _ _ _ _ := ⟨rfl, ft.1⟩
  have hit := ft.2
  refine .seq (fun K1 hK1 => ?_)
  refine .region ?_
  refine .m rfl rfl rfl (.assign rfl) ?_
  refine .nil ?_
  refine hK1 _ _ ?_
  refine .seq (fun K2 hK2 => ?_)
  refine .seq (fun K3 hK3 => ?_)
  refine .region ?_
  refine .m rfl rfl rfl (.move rfl) ?_
  refine .callQ rfl rfl rfl rfl @Try.call23 rfl (isProfunctor_c) ?_
  refine .m rfl rfl rfl (.not rfl) ?_
  refine .nil ?_
  refine hK3 _ _ ?_
  refine .cond rfl (fun h5 => ?_) (fun h5 => ?_)
  ·
   try simp only [sps] at h5
   refine .seq (fun K4 hK4 => ?_)
   refine .region ?_
   refine .m rfl rfl rfl (.assign rfl) ?_
   refine .nil ?_
   refine hK4 _ _ ?_
   refine .ret ?_
   -- leaf e1
   refine hret _ _ ?_
   refine ⟨_, rfl, ?_⟩
   first
   | exact ⟨by rw [Prof.code_nis (by assumption)], hle⟩
   | exact ⟨by rw [Prof.code_ne (by assumption) (by assumption)], hle⟩
   | exact ⟨by rw [Prof.code_ok (by assumption) (by assumption)], hle⟩
  ·
   try simp only [sps] at h5
   refine .skip ?_
   refine hK2 _ _ ?_
   refine .seq (fun K5 hK5 => ?_)
   refine .seq (fun K6 hK6 => ?_)
   refine .regionD mixed_orders_B (.q 0 (.q 1 (.q 2 (.q 3 (.q 4 (.q 5 (.c 6 0 (.q 7 (.done))))))))) (by kernel_rfl) ?_
   refine .m rfl rfl rfl rfl (.refl _) (.move rfl) ?_
   refine .m rfl rfl rfl rfl (.refl _) (.nilCheck rfl) ?_
   refine .m rfl rfl rfl rfl (.refl _) (.fieldAddr fo_33_0_VProf rfl) ?_
   refine .m rfl rfl rfl rfl (.refl _) (.move rfl) ?_
   refine .m rfl rfl rfl rfl (.refl _) (.nilCheck rfl) ?_
   refine .m rfl rfl rfl rfl (.refl _) (.fieldAddr fo_33_1_VProf rfl) ?_
   refine .callQ0 rfl rfl rfl rfl rfl @Try.call48 rfl (sameCategory_c) ?_
   refine .m rfl rfl rfl rfl (.refl _) (.not rfl) ?_
   refine .done ?_
   refine hK6 _ _ ?_
   refine .cond rfl (fun h13 => ?_) (fun h13 => ?_)
   ·
    try simp only [sps] at h13
    refine .seq (fun K7 hK7 => ?_)
    refine .region ?_
    refine .m rfl rfl rfl (.assign rfl) ?_
    refine .nil ?_
    refine hK7 _ _ ?_
    refine .ret ?_
    -- leaf e2
    refine hret _ _ ?_
    refine ⟨_, rfl, ?_⟩
    first
    | exact ⟨by rw [Prof.code_nis (by assumption)], hle⟩
    | exact ⟨by rw [Prof.code_ne (by assumption) (by assumption)], hle⟩
    | exact ⟨by rw [Prof.code_ok (by assumption) (by assumption)], hle⟩
   ·
    try simp only [sps] at h13
    refine .skip ?_
    refine hK5 _ _ ?_
    refine .seq (fun K8 hK8 => ?_)
    refine .region ?_
    refine .m rfl rfl rfl (.assign rfl) ?_
    refine .nil ?_
    refine hK8 _ _ ?_
    refine .ret ?_
    -- leaf e3
    refine hret _ _ ?_
    refine ⟨_, rfl, ?_⟩
    first
    | exact ⟨by rw [Prof.code_nis (by assumption)], hle⟩
    | exact ⟨by rw [Prof.code_ne (by assumption) (by assumption)], hle⟩
    | exact ⟨by rw [Prof.code_ok (by assumption) (by assumption)], hle⟩
theorem firstPlaces_c {g o : Nat} {m : Prof} {p : ProfP} {H : GHeap} (h : Prof.At H g o m p := by assumption) (hS : m.Sized := by assumption) (he : m.s = m.t := by assumption) (hb : m.s.obj ≤ 8 := by omega) :
    GCalls Try.prog 31 [.pointer (some ⟨g, o, none⟩)] H (fun v H' => H.Le H' ∧ ∃ g, v = .tuple #[.slice (some ⟨g, 0, none⟩) (m.firsts m.sz.length).length (m.firsts m.sz.length).length, .int .i64 (sumN m.diag m.sz.length)] ∧ H'.get g = some (.row (ints (m.firsts m.sz.length)) 2 true) ∧ H.next ≤ g) := by
  refine GCalls.body (N := 32) (rs := [.tmp 2, .tmp 3]) Try.func31 rfl rfl rfl rfl (fun Qx hret hend => ?_)
  refine .forget (fr' := [(0, some _)]) ⟨rfl, trivial⟩ ?_
  have hle := GHeap.Le.refl H
  have base_h := h
  obtain ⟨fs, ft, c10, c11, c12, i2, i3, i4⟩ := h.get
  have hm : MemN _ _ _ _ _ := ⟨rfl, h.1⟩
  have hi := h.2
  have hms : MemN _ _ _ _ _ := ⟨rfl, fs.1⟩
  have his := fs.2
  have hmt : MemN _ _ _ _ _ := ⟨rfl, ft.1⟩
  have hit := ft.2
  have q1 := hS.sl
  refine .seq (fun K1 hK1 => ?_)
  refine .region ?_
  refine .m rfl rfl rfl (.assign rfl) ?_
  refine .m rfl rfl rfl (.assign rfl) ?_
  refine .nil ?_
  refine hK1 _ _ ?_
  refine .seq (fun K2 hK2 => ?_)
  refine .region ?_
  refine .r rfl rfl rfl (.litR rfl sl_22_A ze_2_E rfl rfl (by omega) (by omega) rfl rfl) ?_
  rintro _ H8 ⟨g8, rfl, le8, ge8, at8⟩
  have nx_H8 := le8.1
  replace hle := hle.trans le8
  have lt_at8 := GHeap.lt_of_get at8
  replace h := base_h.mono hle
  clear fs ft c10 c11 c12 i2 i3 i4 hm hi hms his hmt hit
  obtain ⟨fs, ft, c10, c11, c12, i2, i3, i4⟩ := h.get
  have hm : MemN _ _ _ _ _ := ⟨rfl, h.1⟩
  have hi := h.2
  have hms : MemN _ _ _ _ _ := ⟨rfl, fs.1⟩
  have his := fs.2
  have hmt : MemN _ _ _ _ _ := ⟨rfl, ft.1⟩
  have hit := ft.2
  refine .m rfl rfl rfl (.assign rfl) ?_
  refine .nil ?_
  refine hK2 _ _ ?_
  refine .seq (fun K3 hK3 => ?_)
  refine .region ?_
  refine .m rfl rfl rfl (.assign rfl) ?_
  refine .nil ?_
  refine hK3 _ _ ?_
  refine .seq (fun K4 hK4 => ?_)
  refine .seq (fun K5 hK5 => ?_)
  refine .region ?_
  refine .m rfl rfl rfl (.move rfl) ?_
  refine .m rfl rfl rfl (.nilCheck rfl) ?_
  refine .m rfl rfl rfl (.fieldAddr fo_33_2_VProf rfl) ?_
  refine .m rfl rfl rfl (.load on_23_B rfl (by assumption)) ?_
  refine .m rfl rfl rfl (.len sl_23_B rfl) ?_
  refine .m rfl rfl rfl (.move rfl) ?_
  refine .nil ?_
  refine hK5 _ _ ?_
  refine .block ?_
  refine .loopR (σ := Nat × Nat × Nat) [(12, some _), (13, some _)] (fun (k, gL4, nL4) => [(14, some (.int .i64 (k : Int))), (5, some (.int .i64 (sumN m.diag k))), (4, some (.slice (some ⟨gL4, 0, none⟩) nL4 nL4))]) (fun (k, gL4, nL4) H' => St [g8] H8 H' ∧ H'.get gL4 = some (.row (ints (m.firsts k)) 2 true) ∧ (gL4 = g8 ∨ H8.next ≤ gL4) ∧ nL4 = (m.firsts k).length ∧ k ≤ m.sz.length) (fun (k, gL4, nL4) => m.sz.length - k) ((0, _, _)) ⟨rfl, rfl, trivial⟩ ⟨rfl, rfl, rfl, trivial⟩ ?_ ?_
  ·
   refine ⟨.refl _ _, by first | assumption | exact at8 | simpa using at8, .inl rfl, by first | rfl | simp | omega, ?_⟩
   omega
  ·
   rintro ⟨k, gL4, nL4⟩ HL1 ⟨lst1, at_L4, pl_L4, ln_L4, hI⟩ KL1 hKL1
   refine .forget (fr' := [(14, some (.int .i64 (k : Int))), (5, some (.int .i64 (sumN m.diag k))), (4, some (.slice (some ⟨gL4, 0, none⟩) nL4 nL4)), (12, some _), (13, some _)]) ⟨rfl, rfl, rfl, rfl, rfl, trivial⟩ ?_
   have ge_L4 : H.next ≤ gL4 := by omega
   have nx_HL1 := lst1.nx
   replace hle := hle.st lst1 (fun k hk => ⟨by omega, trivial⟩)
   have lt_at_L4 := GHeap.lt_of_get at_L4
   replace h := base_h.mono hle
   clear fs ft c10 c11 c12 i2 i3 i4 hm hi hms his hmt hit
   obtain ⟨fs, ft, c10, c11, c12, i2, i3, i4⟩ := h.get
   have hm : MemN _ _ _ _ _ := ⟨rfl, h.1⟩
   have hi := h.2
   have hms : MemN _ _ _ _ _ := ⟨rfl, fs.1⟩
   have his := fs.2
   have hmt : MemN _ _ _ _ _ := ⟨rfl, ft.1⟩
   have hit := ft.2
   have hfl : (m.firsts k).length = k := m.length_firsts k
   have sb := hS.sum he (n := k) (by omega)
   refine .seq (fun K6 hK6 => ?_)
   refine .region ?_
   refine .m rfl rfl rfl (.cmp rfl rfl rfl) ?_
   refine .nil ?_
   refine hK6 _ _ ?_
   refine .seq (fun K7 hK7 => ?_)
   refine .cond rfl (fun h15 => ?_) (fun h15 => ?_)
   ·
    simp only [sps] at h15
    have r2 : k < (m.sz.getD k []).length ∧ 0 ≤ (m.sz.getD k []).getD k 0 ∧ (m.sz.getD k []).getD k 0 ≤ 64 := hS.diag he (i := k) (by omega)
    have r1 := i2.2 k (by omega)
    refine .skip ?_
    refine hK7 _ _ ?_
    refine .seq (fun K8 hK8 => ?_)
    refine .block ?_
    refine .seq (fun K9 hK9 => ?_)
    refine .region ?_
    refine .m rfl rfl rfl (.move rfl) ?_
    refine .m rfl rfl rfl (.idxN sl_23_B (Intss.sl (by assumption)) rfl rfl (by omega)) ?_
    refine .m rfl rfl rfl (.loadR on_22_B (by assumption) rfl (by omega)) ?_
    refine .m rfl rfl rfl (.assign rfl) ?_
    refine .m rfl rfl rfl (.assign rfl) ?_
    refine .nil ?_
    refine hK9 _ _ ?_
    refine .seq (fun K10 hK10 => ?_)
    refine .region ?_
    refine .m rfl rfl rfl (.move rfl) ?_
    refine .m rfl rfl rfl (.move rfl) ?_
    refine .r rfl rfl rfl (.litR rfl sl_22_A ze_2_E rfl rfl (by omega) (by omega) rfl rfl) ?_
    rintro _ H21 ⟨g21, rfl, le21, ge21, at21⟩
    have nx_H21 := le21.1
    replace hle := hle.trans le21
    replace lst1 := lst1.le le21
    replace at_L4 := le21.2 _ _ at_L4
    have lt_at21 := GHeap.lt_of_get at21
    replace h := base_h.mono hle
    clear fs ft c10 c11 c12 i2 i3 i4 hm hi hms his hmt hit
    obtain ⟨fs, ft, c10, c11, c12, i2, i3, i4⟩ := h.get
    have hm : MemN _ _ _ _ _ := ⟨rfl, h.1⟩
    have hi := h.2
    have hms : MemN _ _ _ _ _ := ⟨rfl, fs.1⟩
    have his := fs.2
    have hmt : MemN _ _ _ _ _ := ⟨rfl, ft.1⟩
    have hit := ft.2
    clear r1
    have r1 := i2.2 k (by omega)
    refine .r rfl rfl rfl (.appendI rfl sl_22_A ze_2_E rfl by_2_E sl_22_A rfl rfl (by assumption) (by assumption) (by first | omega | (simp; omega)) (by omega) (by omega)) ?_
    rintro _ H22 ⟨g22, rfl, st22, ge22, at22⟩
    have nx_H22 := st22.nx
    replace hle := hle.st st22 (fun k hk => ⟨by omega, trivial⟩)
    replace lst1 := lst1.st st22 (fun k hk ho => by simp only [out, and_true] at ho ⊢ <;> omega)
    replace at21 := st22.same _ _ ⟨by omega, trivial⟩ at21
    have lt_at22 := GHeap.lt_of_get at22
    replace h := base_h.mono hle
    clear fs ft c10 c11 c12 i2 i3 i4 hm hi hms his hmt hit
    obtain ⟨fs, ft, c10, c11, c12, i2, i3, i4⟩ := h.get
    have hm : MemN _ _ _ _ _ := ⟨rfl, h.1⟩
    have hi := h.2
    have hms : MemN _ _ _ _ _ := ⟨rfl, fs.1⟩
    have his := fs.2
    have hmt : MemN _ _ _ _ _ := ⟨rfl, ft.1⟩
    have hit := ft.2
    clear r1
    have r1 := i2.2 k (by omega)
    refine .m rfl rfl rfl (.assign rfl) ?_
    refine .nil ?_
    refine hK10 _ _ ?_
    refine .region ?_
    refine .m rfl rfl rfl (.move rfl) ?_
    refine .m rfl rfl rfl (.move rfl) ?_
    refine .m rfl rfl rfl (.move rfl) ?_
    refine .m rfl rfl rfl (.idxN sl_22_A (by assumption) rfl rfl (by omega)) ?_
    refine .m rfl rfl rfl (.loadI on_2_A (by assumption) rfl (by omega)) ?_
    refine .m rfl rfl rfl (.add rfl rfl rfl (by omega) (by omega)) ?_
    refine .m rfl rfl rfl (.assign rfl) ?_
    refine .nil ?_
    refine hK8 _ _ ?_
    refine .region ?_
    refine .m rfl rfl rfl (.add rfl rfl rfl (by omega) (by omega)) ?_
    refine .m rfl rfl rfl (.move rfl) ?_
    refine .nil ?_
    refine hKL1 ((k + 1, _, _)) _ _ ?_ ?_ ⟨rfl, rfl, rfl, rfl, rfl, trivial⟩
    ·
     refine ⟨lst1, by first | assumption | (rw [m.firsts_succ]; assumption), by omega, by first | omega | (simp only [List.length_append, List.length_cons, List.length_nil]; omega) | (rw [m.firsts_succ]; first | omega | (simp only [List.length_append, List.length_cons, List.length_nil]; omega)), ?_⟩
     omega
    ·
     (dsimp only; omega)
   ·
    try simp only [sps] at h15
    refine .exit ?_
    refine hK4 _ _ ?_
    refine .seq (fun K11 hK11 => ?_)
    refine .region ?_
    refine .m rfl rfl rfl (.move rfl) ?_
    refine .m rfl rfl rfl (.move rfl) ?_
    refine .m rfl rfl rfl (.assign rfl) ?_
    refine .m rfl rfl rfl (.assign rfl) ?_
    refine .nil ?_
    refine hK11 _ _ ?_
    refine .ret ?_
    -- leaf e1
    refine hret _ _ ?_
    refine ⟨_, _, rfl, rfl, ?_⟩
    obtain rfl : k = m.sz.length := by omega
    exact ⟨hle, _, by rw [ln_L4], at_L4, by omega⟩
theorem implPlaceNumber_c {m : Prof} {p : ProfP} {x e : Int} {H : GHeap} (hin : m.In H p := by assumption) (hs : m.Small := by assumption) :
    GCalls Try.prog 12 [.agg (m.cells p).toArray, .int .i64 x, .int .i64 e] H (Ret (.tuple #[.int .i64 (m.place x e).1, .int .i64 (m.place x e).2]) H) := by
  refine GCalls.ret rfl ?_
  refine GCalls.body (N := 46) (rs := [.tmp 6, .tmp 7]) Try.func12 rfl rfl rfl rfl (fun Qx hret hend => ?_)
  refine .forget (fr' := [(0, some _), (1, some _), (2, some _)]) ⟨rfl, rfl, rfl, trivial⟩ ?_
  have hle := GHeap.Le.refl H
  have base_hin := hin
  refine .seq (fun K1 hK1 => ?_)
  refine .region ?_
  refine .r rfl rfl rfl (.boxR rfl sz_33_VProf rfl) ?_
  rintro _ H3 ⟨g3, rfl, le3, ge3, at3⟩
  have nx_H3 := le3.1
  replace hle := hle.trans le3
  have lt_at3 := GHeap.lt_of_get at3
  replace hin := base_hin.mono hle
  have hb3 : Prof.At _ g3 0 m p := ⟨Mem.of_get at3, hin⟩
  obtain ⟨fs3, ft3, c103, c113, c123, i23, i33, i43⟩ := hb3.get
  have hm3 : MemN _ _ _ _ _ := ⟨rfl, hb3.1⟩
  have hi3 := hb3.2
  have hms3 : MemN _ _ _ _ _ := ⟨rfl, fs3.1⟩
  have his3 := fs3.2
  have hmt3 : MemN _ _ _ _ _ := ⟨rfl, ft3.1⟩
  have hit3 := ft3.2
  refine .m rfl rfl rfl (.assign rfl) ?_
  refine .m rfl rfl rfl (.assign rfl) ?_
  refine .nil ?_
  refine hK1 _ _ ?_
  refine .seq (fun K2 hK2 => ?_)
  refine .seq (fun K3 hK3 => ?_)
  refine .region ?_
  refine .callQ rfl rfl rfl rfl @Try.call29 rfl (loopCode_c) ?_
  refine .m rfl rfl rfl (.assign rfl) ?_
  refine .nil ?_
  refine hK3 _ _ ?_
  refine .seq (fun K4 hK4 => ?_)
  refine .region ?_
  refine .m rfl rfl rfl (.move rfl) ?_
  refine .m rfl rfl rfl (.cmp rfl rfl rfl) ?_
  refine .nil ?_
  refine hK4 _ _ ?_
  refine .cond rfl (fun h13 => ?_) (fun h13 => ?_)
  ·
   try simp only [sps] at h13
   refine .seq (fun K5 hK5 => ?_)
   refine .region ?_
   refine .m rfl rfl rfl (.move rfl) ?_
   refine .m rfl rfl rfl (.assign rfl) ?_
   refine .m rfl rfl rfl (.assign rfl) ?_
   refine .nil ?_
   refine hK5 _ _ ?_
   refine .ret ?_
   -- leaf e1
   refine hret _ _ ?_
   refine ⟨_, _, rfl, rfl, ?_⟩
   first
   | exact ⟨by rw [Prof.place_bad (by assumption)], hle⟩
   | exact ⟨by rw [Prof.place_in h13 ⟨by omega, by omega, by omega, by unfold Prof.diag; omega⟩, s3], hle⟩
   | exact ⟨by rw [Prof.place_out h13 fun hh => by unfold Prof.diag at hh; omega], hle⟩
  ·
   simp only [sps] at h13
   obtain ⟨hI, he⟩ := Prof.of_code h13
   have hz := hI.1.z
   have q1 := hI.1.s.1.obj
   have q2 := hz.sl
   obtain ⟨c0, c1, c2, c3, c4, d1, d2, d3, d4⟩ := fs3.get
   refine .skip ?_
   refine hK2 _ _ ?_
   refine .seq (fun K6 hK6 => ?_)
   refine .seq (fun K7 hK7 => ?_)
   refine .region ?_
   refine .m rfl rfl rfl (.move rfl) ?_
   refine .m rfl rfl rfl (.fieldAddr fo_33_0_VProf rfl) ?_
   refine .m rfl rfl rfl (.fieldAddr fo_31_0_B rfl) ?_
   refine .m rfl rfl rfl (.load on_2_A rfl (by assumption)) ?_
   refine .m rfl rfl rfl (.sub rfl rfl rfl (by omega) (by omega)) ?_
   refine .callQ rfl rfl rfl rfl @Try.call30 rfl (inRange_c) ?_
   refine .m rfl rfl rfl (.not rfl) ?_
   refine .m rfl rfl rfl (.move rfl) ?_
   refine .split (fun h22 => ?_) (fun h22 => ?_)
   ·
    try simp only [sps] at h22
    refine .sg rfl rfl rfl rfl rfl ?_
    refine .sg rfl rfl rfl rfl rfl ?_
    refine .sg rfl rfl rfl rfl rfl ?_
    refine .sg rfl rfl rfl rfl rfl ?_
    refine .sg rfl rfl rfl rfl rfl ?_
    refine .sg rfl rfl rfl rfl rfl ?_
    refine .sg rfl rfl rfl rfl rfl ?_
    refine .sg rfl rfl rfl rfl rfl ?_
    refine .sg rfl rfl rfl rfl rfl ?_
    refine .sg rfl rfl rfl rfl rfl ?_
    refine .sg rfl rfl rfl rfl rfl ?_
    refine .sg rfl rfl rfl rfl rfl ?_
    refine .m rfl rfl rfl (.pickT rfl rfl) ?_
    refine .nil ?_
    refine hK7 _ _ ?_
    refine .condT rfl ?_
    refine .seq (fun K8 hK8 => ?_)
    refine .region ?_
    refine .m rfl rfl rfl (.assign rfl) ?_
    refine .m rfl rfl rfl (.assign rfl) ?_
    refine .nil ?_
    refine hK8 _ _ ?_
    refine .ret ?_
    -- leaf e2
    refine hret _ _ ?_
    refine ⟨_, _, rfl, rfl, ?_⟩
    first
    | exact ⟨by rw [Prof.place_bad (by assumption)], hle⟩
    | exact ⟨by rw [Prof.place_in h13 ⟨by omega, by omega, by omega, by unfold Prof.diag; omega⟩, s3], hle⟩
    | exact ⟨by rw [Prof.place_out h13 fun hh => by unfold Prof.diag at hh; omega], hle⟩
   ·
    simp only [sps] at h22
    have r1 := i23.2 x.toNat (by omega)
    have r2 : x.toNat < (m.sz.getD x.toNat []).length ∧ 0 ≤ (m.sz.getD x.toNat []).getD x.toNat 0 ∧ (m.sz.getD x.toNat []).getD x.toNat 0 ≤ 64 := hz.diag he (i := x.toNat) (by omega)
    refine .mg rfl rfl rfl rfl rfl (.move rfl) ?_
    refine .mg rfl rfl rfl rfl rfl (.fieldAddr fo_33_2_VProf rfl) ?_
    refine .mg rfl rfl rfl rfl rfl (.load on_23_B rfl (by assumption)) ?_
    refine .mg rfl rfl rfl rfl rfl (.move rfl) ?_
    refine .mg rfl rfl rfl rfl rfl (.idx1 sl_23_B (Intss.sl (by assumption)) rfl rfl (by omega) (by omega)) ?_
    refine .mg rfl rfl rfl rfl rfl (.loadR on_22_B (by assumption) rfl (by omega)) ?_
    refine .mg rfl rfl rfl rfl rfl (.move rfl) ?_
    refine .mg rfl rfl rfl rfl rfl (.idx1 sl_22_A (by assumption) rfl rfl (by omega) (by omega)) ?_
    refine .mg rfl rfl rfl rfl rfl (.loadI on_2_A (by assumption) rfl (by omega)) ?_
    refine .mg rfl rfl rfl rfl rfl (.sub rfl rfl rfl (by omega) (by omega)) ?_
    refine .callQg rfl rfl rfl rfl rfl rfl @Try.call30 rfl (inRange_c) ?_
    refine .mg rfl rfl rfl rfl rfl (.not rfl) ?_
    refine .m rfl rfl rfl (.pickF rfl rfl) ?_
    refine .nil ?_
    refine hK7 _ _ ?_
    refine .cond rfl (fun h35 => ?_) (fun h35 => ?_)
    ·
     try simp only [sps] at h35
     refine .seq (fun K9 hK9 => ?_)
     refine .region ?_
     refine .m rfl rfl rfl (.assign rfl) ?_
     refine .m rfl rfl rfl (.assign rfl) ?_
     refine .nil ?_
     refine hK9 _ _ ?_
     refine .ret ?_
     -- leaf e3
     refine hret _ _ ?_
     refine ⟨_, _, rfl, rfl, ?_⟩
     first
     | exact ⟨by rw [Prof.place_bad (by assumption)], hle⟩
     | exact ⟨by rw [Prof.place_in h13 ⟨by omega, by omega, by omega, by unfold Prof.diag; omega⟩, s3], hle⟩
     | exact ⟨by rw [Prof.place_out h13 fun hh => by unfold Prof.diag at hh; omega], hle⟩
    ·
     simp only [sps] at h35
     have s1 := m.length_firsts m.sz.length
     have s2 := hz.sum he (n := x.toNat) (by omega)
     have s3 := m.firsts_get (n := m.sz.length) (i := x.toNat) (by omega)
     refine .skip ?_
     refine hK6 _ _ ?_
     refine .seq (fun K10 hK10 => ?_)
     refine .region ?_
     refine .call rfl rfl rfl rfl @Try.call31 rfl (firstPlaces_c) ?_
     rintro _ H37 ⟨le37, g37, rfl, at37, ge37⟩
     have nx_H37 := le37.1
     replace hle := hle.trans le37
     replace at3 := le37.2 _ _ at3
     have lt_at37 := GHeap.lt_of_get at37
     replace hin := base_hin.mono hle
     clear hb3 fs3 ft3 c103 c113 c123 i23 i33 i43 hm3 hi3 hms3 his3 hmt3 hit3
     have hb3 : Prof.At _ g3 0 m p := ⟨Mem.of_get at3, hin⟩
     obtain ⟨fs3, ft3, c103, c113, c123, i23, i33, i43⟩ := hb3.get
     have hm3 : MemN _ _ _ _ _ := ⟨rfl, hb3.1⟩
     have hi3 := hb3.2
     have hms3 : MemN _ _ _ _ _ := ⟨rfl, fs3.1⟩
     have his3 := fs3.2
     have hmt3 : MemN _ _ _ _ _ := ⟨rfl, ft3.1⟩
     have hit3 := ft3.2
     have i37 := Ints.of_get at37
     refine .m rfl rfl rfl (.move rfl) ?_
     refine .m rfl rfl rfl (.extract rfl rfl) ?_
     refine .m rfl rfl rfl (.extract rfl rfl) ?_
     refine .m rfl rfl rfl (.assign rfl) ?_
     refine .m rfl rfl rfl (.assign rfl) ?_
     refine .nil ?_
     refine hK10 _ _ ?_
     refine .seq (fun K11 hK11 => ?_)
     refine .region ?_
     refine .m rfl rfl rfl (.move rfl) ?_
     refine .m rfl rfl rfl (.move rfl) ?_
     refine .m rfl rfl rfl (.idx1 sl_22_A (by assumption) rfl rfl (by omega) (by omega)) ?_
     refine .m rfl rfl rfl (.loadI on_2_A (by assumption) rfl (by omega)) ?_
     refine .m rfl rfl rfl (.move rfl) ?_
     refine .m rfl rfl rfl (.add rfl rfl rfl (by omega) (by omega)) ?_
     refine .m rfl rfl rfl (.assign rfl) ?_
     refine .m rfl rfl rfl (.assign rfl) ?_
     refine .nil ?_
     refine hK11 _ _ ?_
     refine .ret ?_
     -- leaf e4
     refine hret _ _ ?_
     refine ⟨_, _, rfl, rfl, ?_⟩
     first
     | exact ⟨by rw [Prof.place_bad (by assumption)], hle⟩
     | exact ⟨by rw [Prof.place_in h13 ⟨by omega, by omega, by omega, by unfold Prof.diag; omega⟩, s3], hle⟩
     | exact ⟨by rw [Prof.place_out h13 fun hh => by unfold Prof.diag at hh; omega], hle⟩
theorem l22Loop_c {m : Prof} {p : ProfP} {H : GHeap} (hin : m.In H p := by assumption) (hs : m.Small := by assumption) : GCalls Try.prog 26 [.agg (m.cells p).toArray] H (Ret (.int .i64 m.code) H) := by
  refine GCalls.ret rfl ?_
  have hs1 := hs
  obtain ⟨w1, w2, _⟩ := hs1
  refine GCalls.body (N := 12) (rs := [.tmp 2]) Try.func26 rfl rfl rfl rfl (fun Qx hret hend => ?_)
  refine .forget (fr' := [(0, some _)]) ⟨rfl, trivial⟩ ?_
  have hle := GHeap.Le.refl H
  have base_hin := hin
  refine .seq (fun K1 hK1 => ?_)
  refine .region ?_
  refine .r rfl rfl rfl (.boxR rfl sz_33_VProf rfl) ?_
  rintro _ H1 ⟨g1, rfl, le1, ge1, at1⟩
  have nx_H1 := le1.1
  replace hle := hle.trans le1
  have lt_at1 := GHeap.lt_of_get at1
  replace hin := base_hin.mono hle
  have hb1 : Prof.At _ g1 0 m p := ⟨Mem.of_get at1, hin⟩
  obtain ⟨fs1, ft1, c101, c111, c121, i21, i31, i41⟩ := hb1.get
  have hm1 : MemN _ _ _ _ _ := ⟨rfl, hb1.1⟩
  have hi1 := hb1.2
  have hms1 : MemN _ _ _ _ _ := ⟨rfl, fs1.1⟩
  have his1 := fs1.2
  have hmt1 : MemN _ _ _ _ _ := ⟨rfl, ft1.1⟩
  have hit1 := ft1.2
  refine .m rfl rfl rfl (.assign rfl) ?_
  refine .nil ?_
  refine hK1 _ _ ?_
  refine .seq (fun K2 hK2 => ?_)
  refine .seq (fun K3 hK3 => ?_)
  refine .region ?_
  refine .m rfl rfl rfl (.loadM ag_33_VProf rfl ⟨rfl, Mem.of_get at1⟩) ?_
  refine .callQ rfl rfl rfl rfl @Try.call20 rfl (l22Is_c) ?_
  refine .m rfl rfl rfl (.not rfl) ?_
  refine .nil ?_
  refine hK3 _ _ ?_
  refine .cond rfl (fun h5 => ?_) (fun h5 => ?_)
  ·
   try simp only [sps] at h5
   refine .seq (fun K4 hK4 => ?_)
   refine .region ?_
   refine .m rfl rfl rfl (.assign rfl) ?_
   refine .nil ?_
   refine hK4 _ _ ?_
   refine .ret ?_
   -- leaf e1
   refine hret _ _ ?_
   refine ⟨_, rfl, ?_⟩
   first
   | exact ⟨by rw [Prof.code_nis (by assumption)], hle⟩
   | exact ⟨by rw [Prof.code_ne (by assumption) (by assumption)], hle⟩
   | exact ⟨by rw [Prof.code_ok (by assumption) (by assumption)], hle⟩
  ·
   try simp only [sps] at h5
   refine .skip ?_
   refine hK2 _ _ ?_
   refine .seq (fun K5 hK5 => ?_)
   refine .seq (fun K6 hK6 => ?_)
   refine .region ?_
   refine .m rfl rfl rfl (.fieldAddr fo_33_0_VProf rfl) ?_
   refine .m rfl rfl rfl (.loadM ag_31_D rfl (by assumption)) ?_
   refine .m rfl rfl rfl (.fieldAddr fo_33_1_VProf rfl) ?_
   refine .m rfl rfl rfl (.loadM ag_31_D rfl (by assumption)) ?_
   refine .callQ rfl rfl rfl rfl @Try.call47 rfl (l02Same_c) ?_
   refine .m rfl rfl rfl (.not rfl) ?_
   refine .nil ?_
   refine hK6 _ _ ?_
   refine .cond rfl (fun h11 => ?_) (fun h11 => ?_)
   ·
    try simp only [sps] at h11
    refine .seq (fun K7 hK7 => ?_)
    refine .region ?_
    refine .m rfl rfl rfl (.assign rfl) ?_
    refine .nil ?_
    refine hK7 _ _ ?_
    refine .ret ?_
    -- leaf e2
    refine hret _ _ ?_
    refine ⟨_, rfl, ?_⟩
    first
    | exact ⟨by rw [Prof.code_nis (by assumption)], hle⟩
    | exact ⟨by rw [Prof.code_ne (by assumption) (by assumption)], hle⟩
    | exact ⟨by rw [Prof.code_ok (by assumption) (by assumption)], hle⟩
   ·
    try simp only [sps] at h11
    refine .skip ?_
    refine hK5 _ _ ?_
    refine .seq (fun K8 hK8 => ?_)
    refine .region ?_
    refine .m rfl rfl rfl (.assign rfl) ?_
    refine .nil ?_
    refine hK8 _ _ ?_
    refine .ret ?_
    -- leaf e3
    refine hret _ _ ?_
    refine ⟨_, rfl, ?_⟩
    first
    | exact ⟨by rw [Prof.code_nis (by assumption)], hle⟩
    | exact ⟨by rw [Prof.code_ne (by assumption) (by assumption)], hle⟩
    | exact ⟨by rw [Prof.code_ok (by assumption) (by assumption)], hle⟩
theorem l22Place_c {m : Prof} {p : ProfP} {x e : Int} {H : GHeap} (hin : m.In H p := by assumption) (hz : m.Sized := by assumption) (he : m.s = m.t := by assumption) (hb : m.s.obj ≤ 8 := by omega) (h0 : 0 ≤ x := by omega) (h1 : x < m.s.obj := by omega) (h2 : 0 ≤ e := by omega) (h3 : e ≤ 64 := by omega) :
    GCalls Try.prog 28 [.agg (m.cells p).toArray, .int .i64 x, .int .i64 e] H (Ret (.int .i64 (sumN m.diag x.toNat + e)) H) := by
  refine GCalls.ret rfl ?_
  refine GCalls.body (N := 26) (rs := [.tmp 6]) Try.func28 rfl rfl rfl rfl (fun Qx hret hend => ?_)
  refine .forget (fr' := [(0, some _), (1, some _), (2, some _)]) ⟨rfl, rfl, rfl, trivial⟩ ?_
  have hle := GHeap.Le.refl H
  have base_hin := hin
  have q1 := hz.sl
  refine .seq (fun K1 hK1 => ?_)
  refine .region ?_
  refine .r rfl rfl rfl (.boxR rfl sz_33_VProf rfl) ?_
  rintro _ H3 ⟨g3, rfl, le3, ge3, at3⟩
  have nx_H3 := le3.1
  replace hle := hle.trans le3
  have lt_at3 := GHeap.lt_of_get at3
  replace hin := base_hin.mono hle
  have hb3 : Prof.At _ g3 0 m p := ⟨Mem.of_get at3, hin⟩
  obtain ⟨fs3, ft3, c103, c113, c123, i23, i33, i43⟩ := hb3.get
  have hm3 : MemN _ _ _ _ _ := ⟨rfl, hb3.1⟩
  have hi3 := hb3.2
  have hms3 : MemN _ _ _ _ _ := ⟨rfl, fs3.1⟩
  have his3 := fs3.2
  have hmt3 : MemN _ _ _ _ _ := ⟨rfl, ft3.1⟩
  have hit3 := ft3.2
  refine .m rfl rfl rfl (.assign rfl) ?_
  refine .nil ?_
  refine hK1 _ _ ?_
  refine .seq (fun K2 hK2 => ?_)
  refine .region ?_
  refine .m rfl rfl rfl (.move rfl) ?_
  refine .m rfl rfl rfl (.assign rfl) ?_
  refine .nil ?_
  refine hK2 _ _ ?_
  refine .seq (fun K3 hK3 => ?_)
  refine .seq (fun K4 hK4 => ?_)
  refine .region ?_
  refine .m rfl rfl rfl (.assign rfl) ?_
  refine .nil ?_
  refine hK4 _ _ ?_
  refine .block ?_
  refine .loopR (σ := Nat × Int) [(1, some _), (3, some _)] (fun (k, v) => [(8, some (.int .i64 (k : Int))), (7, some (.int .i64 v))]) (fun (k, v) H' => H3 = H' ∧ (k : Int) ≤ x ∧ v = e + sumN m.diag k) (fun (k, v) => x.toNat - k) ((0, e)) ⟨rfl, rfl, trivial⟩ ⟨rfl, rfl, trivial⟩ ?_ ?_
  ·
   refine ⟨rfl, ?_⟩
   exact ⟨by omega, by simp [sumN]⟩
  ·
   rintro ⟨k, v⟩ _ ⟨rfl, hI⟩ KL1 hKL1
   refine .forget (fr' := [(8, some (.int .i64 (k : Int))), (7, some (.int .i64 v)), (1, some _), (3, some _)]) ⟨rfl, rfl, rfl, rfl, trivial⟩ ?_
   obtain ⟨hk, hv⟩ := hI
   refine .seq (fun K5 hK5 => ?_)
   refine .seq (fun K6 hK6 => ?_)
   refine .region ?_
   refine .m rfl rfl rfl (.move rfl) ?_
   refine .m rfl rfl rfl (.move rfl) ?_
   refine .m rfl rfl rfl (.cmp rfl rfl rfl) ?_
   refine .nil ?_
   refine hK6 _ _ ?_
   refine .cond rfl (fun h12 => ?_) (fun h12 => ?_)
   ·
    simp only [sps] at h12
    have r1 := i23.2 k (by omega)
    have r2 : k < (m.sz.getD k []).length ∧ 0 ≤ (m.sz.getD k []).getD k 0 ∧ (m.sz.getD k []).getD k 0 ≤ 64 := hz.diag he (i := k) (by omega)
    have sb := hz.sum he (n := k) (by omega)
    refine .skip ?_
    refine hK5 _ _ ?_
    refine .seq (fun K7 hK7 => ?_)
    refine .block ?_
    refine .region ?_
    refine .m rfl rfl rfl (.move rfl) ?_
    refine .m rfl rfl rfl (.fieldAddr fo_33_2_VProf rfl) ?_
    refine .m rfl rfl rfl (.load on_23_B rfl (by assumption)) ?_
    refine .m rfl rfl rfl (.move rfl) ?_
    refine .m rfl rfl rfl (.idxN sl_23_B (Intss.sl (by assumption)) rfl rfl (by omega)) ?_
    refine .m rfl rfl rfl (.loadR on_22_B (by assumption) rfl (by omega)) ?_
    refine .m rfl rfl rfl (.move rfl) ?_
    refine .m rfl rfl rfl (.idxN sl_22_A (by assumption) rfl rfl (by omega)) ?_
    refine .m rfl rfl rfl (.loadI on_2_A (by assumption) rfl (by omega)) ?_
    refine .m rfl rfl rfl (.add rfl rfl rfl (by omega) (by omega)) ?_
    refine .m rfl rfl rfl (.assign rfl) ?_
    refine .nil ?_
    refine hK7 _ _ ?_
    refine .region ?_
    refine .m rfl rfl rfl (.move rfl) ?_
    refine .m rfl rfl rfl (.add rfl rfl rfl (by omega) (by omega)) ?_
    refine .m rfl rfl rfl (.assign rfl) ?_
    refine .nil ?_
    refine hKL1 ((k + 1, v + (m.sz.getD k []).getD k 0)) _ _ ?_ ?_ ⟨rfl, rfl, rfl, rfl, trivial⟩
    ·
     refine ⟨rfl, ?_⟩
     exact ⟨by omega, by simp only [sumN, Prof.diag]; omega⟩
    ·
     (dsimp only; omega)
   ·
    try simp only [sps] at h12
    refine .exit ?_
    refine hK3 _ _ ?_
    refine .seq (fun K8 hK8 => ?_)
    refine .region ?_
    refine .m rfl rfl rfl (.move rfl) ?_
    refine .m rfl rfl rfl (.assign rfl) ?_
    refine .nil ?_
    refine hK8 _ _ ?_
    refine .ret ?_
    -- leaf e1
    refine hret _ _ ?_
    refine ⟨_, rfl, ?_⟩
    obtain rfl : x = (k : Int) := by omega
    exact ⟨by rw [Int.toNat_natCast, Int.add_comm, hv], hle⟩
theorem specPlaceNumber_c {m : Prof} {p : ProfP} {x e : Int} {H : GHeap} (hin : m.In H p := by assumption) (hs : m.Small := by assumption) :
    GCalls Try.prog 11 [.agg (m.cells p).toArray, .int .i64 x, .int .i64 e] H (Ret (.tuple #[.int .i64 (m.place x e).1, .int .i64 (m.place x e).2]) H) := by
  refine GCalls.ret rfl ?_
  refine GCalls.body (N := 39) (rs := [.tmp 6, .tmp 7]) Try.func11 rfl rfl rfl rfl (fun Qx hret hend => ?_)
  refine .forget (fr' := [(0, some _), (1, some _), (2, some _)]) ⟨rfl, rfl, rfl, trivial⟩ ?_
  have hle := GHeap.Le.refl H
  have base_hin := hin
  refine .seq (fun K1 hK1 => ?_)
  refine .region ?_
  refine .r rfl rfl rfl (.boxR rfl sz_33_VProf rfl) ?_
  rintro _ H3 ⟨g3, rfl, le3, ge3, at3⟩
  have nx_H3 := le3.1
  replace hle := hle.trans le3
  have lt_at3 := GHeap.lt_of_get at3
  replace hin := base_hin.mono hle
  have hb3 : Prof.At _ g3 0 m p := ⟨Mem.of_get at3, hin⟩
  obtain ⟨fs3, ft3, c103, c113, c123, i23, i33, i43⟩ := hb3.get
  have hm3 : MemN _ _ _ _ _ := ⟨rfl, hb3.1⟩
  have hi3 := hb3.2
  have hms3 : MemN _ _ _ _ _ := ⟨rfl, fs3.1⟩
  have his3 := fs3.2
  have hmt3 : MemN _ _ _ _ _ := ⟨rfl, ft3.1⟩
  have hit3 := ft3.2
  refine .m rfl rfl rfl (.assign rfl) ?_
  refine .m rfl rfl rfl (.assign rfl) ?_
  refine .nil ?_
  refine hK1 _ _ ?_
  refine .seq (fun K2 hK2 => ?_)
  refine .seq (fun K3 hK3 => ?_)
  refine .region ?_
  refine .m rfl rfl rfl (.loadM ag_33_VProf rfl ⟨rfl, Mem.of_get at3⟩) ?_
  refine .callQ rfl rfl rfl rfl @Try.call26 rfl (l22Loop_c) ?_
  refine .m rfl rfl rfl (.assign rfl) ?_
  refine .nil ?_
  refine hK3 _ _ ?_
  refine .seq (fun K4 hK4 => ?_)
  refine .region ?_
  refine .m rfl rfl rfl (.move rfl) ?_
  refine .m rfl rfl rfl (.cmp rfl rfl rfl) ?_
  refine .nil ?_
  refine hK4 _ _ ?_
  refine .cond rfl (fun h12 => ?_) (fun h12 => ?_)
  ·
   try simp only [sps] at h12
   refine .seq (fun K5 hK5 => ?_)
   refine .region ?_
   refine .m rfl rfl rfl (.move rfl) ?_
   refine .m rfl rfl rfl (.assign rfl) ?_
   refine .m rfl rfl rfl (.assign rfl) ?_
   refine .nil ?_
   refine hK5 _ _ ?_
   refine .ret ?_
   -- leaf e1
   refine hret _ _ ?_
   refine ⟨_, _, rfl, rfl, ?_⟩
   first
   | exact ⟨by rw [Prof.place_bad (by assumption)], hle⟩
   | exact ⟨by rw [Prof.place_in h12 ⟨by omega, by omega, by omega, by unfold Prof.diag; omega⟩], hle⟩
   | exact ⟨by rw [Prof.place_out h12 fun hh => by unfold Prof.diag at hh; omega], hle⟩
  ·
   simp only [sps] at h12
   obtain ⟨hI, he⟩ := Prof.of_code h12
   have hz := hI.1.z
   have q1 := hI.1.s.1.obj
   have q2 := hz.sl
   refine .skip ?_
   refine hK2 _ _ ?_
   refine .seq (fun K6 hK6 => ?_)
   refine .seq (fun K7 hK7 => ?_)
   refine .region ?_
   refine .m rfl rfl rfl (.fieldAddr fo_33_0_VProf rfl) ?_
   refine .m rfl rfl rfl (.loadM ag_31_D rfl (by assumption)) ?_
   refine .m rfl rfl rfl (.move rfl) ?_
   refine .callQ rfl rfl rfl rfl @Try.call27 rfl (l02Object_c) ?_
   refine .m rfl rfl rfl (.not rfl) ?_
   refine .m rfl rfl rfl (.move rfl) ?_
   refine .split (fun h19 => ?_) (fun h19 => ?_)
   ·
    try simp only [sps] at h19
    refine .sg rfl rfl rfl rfl rfl ?_
    refine .sg rfl rfl rfl rfl rfl ?_
    refine .m rfl rfl rfl (.pickT rfl rfl) ?_
    refine .m rfl rfl rfl (.move rfl) ?_
    refine .sg rfl rfl rfl rfl rfl ?_
    refine .sg rfl rfl rfl rfl rfl ?_
    refine .sg rfl rfl rfl rfl rfl ?_
    refine .sg rfl rfl rfl rfl rfl ?_
    refine .sg rfl rfl rfl rfl rfl ?_
    refine .sg rfl rfl rfl rfl rfl ?_
    refine .sg rfl rfl rfl rfl rfl ?_
    refine .sg rfl rfl rfl rfl rfl ?_
    refine .sg rfl rfl rfl rfl rfl ?_
    refine .sg rfl rfl rfl rfl rfl ?_
    refine .m rfl rfl rfl (.pickT rfl rfl) ?_
    refine .nil ?_
    refine hK7 _ _ ?_
    refine .condT rfl ?_
    refine .seq (fun K8 hK8 => ?_)
    refine .region ?_
    refine .m rfl rfl rfl (.assign rfl) ?_
    refine .m rfl rfl rfl (.assign rfl) ?_
    refine .nil ?_
    refine hK8 _ _ ?_
    refine .ret ?_
    -- leaf e2
    refine hret _ _ ?_
    refine ⟨_, _, rfl, rfl, ?_⟩
    first
    | exact ⟨by rw [Prof.place_bad (by assumption)], hle⟩
    | exact ⟨by rw [Prof.place_in h12 ⟨by omega, by omega, by omega, by unfold Prof.diag; omega⟩], hle⟩
    | exact ⟨by rw [Prof.place_out h12 fun hh => by unfold Prof.diag at hh; omega], hle⟩
   ·
    simp only [sps] at h19
    have r1 := i23.2 x.toNat (by omega)
    have r2 : x.toNat < (m.sz.getD x.toNat []).length ∧ 0 ≤ (m.sz.getD x.toNat []).getD x.toNat 0 ∧ (m.sz.getD x.toNat []).getD x.toNat 0 ≤ 64 := hz.diag he (i := x.toNat) (by omega)
    refine .mg rfl rfl rfl rfl rfl (.move rfl) ?_
    refine .mg rfl rfl rfl rfl rfl (.cmp rfl rfl rfl) ?_
    refine .m rfl rfl rfl (.pickF rfl rfl) ?_
    refine .m rfl rfl rfl (.move rfl) ?_
    refine .split (fun h23 => ?_) (fun h23 => ?_)
    ·
     try simp only [sps] at h23
     refine .sg rfl rfl rfl rfl rfl ?_
     refine .sg rfl rfl rfl rfl rfl ?_
     refine .sg rfl rfl rfl rfl rfl ?_
     refine .sg rfl rfl rfl rfl rfl ?_
     refine .sg rfl rfl rfl rfl rfl ?_
     refine .sg rfl rfl rfl rfl rfl ?_
     refine .sg rfl rfl rfl rfl rfl ?_
     refine .sg rfl rfl rfl rfl rfl ?_
     refine .sg rfl rfl rfl rfl rfl ?_
     refine .sg rfl rfl rfl rfl rfl ?_
     refine .m rfl rfl rfl (.pickT rfl rfl) ?_
     refine .nil ?_
     refine hK7 _ _ ?_
     refine .condT rfl ?_
     refine .seq (fun K9 hK9 => ?_)
     refine .region ?_
     refine .m rfl rfl rfl (.assign rfl) ?_
     refine .m rfl rfl rfl (.assign rfl) ?_
     refine .nil ?_
     refine hK9 _ _ ?_
     refine .ret ?_
     -- leaf e3
     refine hret _ _ ?_
     refine ⟨_, _, rfl, rfl, ?_⟩
     first
     | exact ⟨by rw [Prof.place_bad (by assumption)], hle⟩
     | exact ⟨by rw [Prof.place_in h12 ⟨by omega, by omega, by omega, by unfold Prof.diag; omega⟩], hle⟩
     | exact ⟨by rw [Prof.place_out h12 fun hh => by unfold Prof.diag at hh; omega], hle⟩
    ·
     try simp only [sps] at h23
     refine .mg rfl rfl rfl rfl rfl (.move rfl) ?_
     refine .mg rfl rfl rfl rfl rfl (.fieldAddr fo_33_2_VProf rfl) ?_
     refine .mg rfl rfl rfl rfl rfl (.load on_23_B rfl (by assumption)) ?_
     refine .mg rfl rfl rfl rfl rfl (.move rfl) ?_
     refine .mg rfl rfl rfl rfl rfl (.idx1 sl_23_B (Intss.sl (by assumption)) rfl rfl (by omega) (by omega)) ?_
     refine .mg rfl rfl rfl rfl rfl (.loadR on_22_B (by assumption) rfl (by omega)) ?_
     refine .mg rfl rfl rfl rfl rfl (.move rfl) ?_
     refine .mg rfl rfl rfl rfl rfl (.idx1 sl_22_A (by assumption) rfl rfl (by omega) (by omega)) ?_
     refine .mg rfl rfl rfl rfl rfl (.loadI on_2_A (by assumption) rfl (by omega)) ?_
     refine .mg rfl rfl rfl rfl rfl (.cmp rfl rfl rfl) ?_
     refine .m rfl rfl rfl (.pickF rfl rfl) ?_
     refine .nil ?_
     refine hK7 _ _ ?_
     refine .cond rfl (fun h34 => ?_) (fun h34 => ?_)
     ·
      try simp only [sps] at h34
      refine .seq (fun K10 hK10 => ?_)
      refine .region ?_
      refine .m rfl rfl rfl (.assign rfl) ?_
      refine .m rfl rfl rfl (.assign rfl) ?_
      refine .nil ?_
      refine hK10 _ _ ?_
      refine .ret ?_
      -- leaf e4
      refine hret _ _ ?_
      refine ⟨_, _, rfl, rfl, ?_⟩
      first
      | exact ⟨by rw [Prof.place_bad (by assumption)], hle⟩
      | exact ⟨by rw [Prof.place_in h12 ⟨by omega, by omega, by omega, by unfold Prof.diag; omega⟩], hle⟩
      | exact ⟨by rw [Prof.place_out h12 fun hh => by unfold Prof.diag at hh; omega], hle⟩
     ·
      try simp only [sps] at h34
      refine .skip ?_
      refine hK6 _ _ ?_
      refine .seq (fun K11 hK11 => ?_)
      refine .region ?_
      refine .m rfl rfl rfl (.loadM ag_33_VProf rfl ⟨rfl, Mem.of_get at3⟩) ?_
      refine .m rfl rfl rfl (.move rfl) ?_
      refine .m rfl rfl rfl (.move rfl) ?_
      refine .callQ rfl rfl rfl rfl @Try.call28 rfl (l22Place_c) ?_
      refine .m rfl rfl rfl (.assign rfl) ?_
      refine .m rfl rfl rfl (.assign rfl) ?_
      refine .nil ?_
      refine hK11 _ _ ?_
      refine .ret ?_
      -- leaf e5
      refine hret _ _ ?_
      refine ⟨_, _, rfl, rfl, ?_⟩
      first
      | exact ⟨by rw [Prof.place_bad (by assumption)], hle⟩
      | exact ⟨by rw [Prof.place_in h12 ⟨by omega, by omega, by omega, by unfold Prof.diag; omega⟩], hle⟩
      | exact ⟨by rw [Prof.place_out h12 fun hh => by unfold Prof.diag at hh; omega], hle⟩
theorem lawPlaceNumber_c {m : Prof} {p : ProfP} {x e : Int} {H : GHeap} (hin : m.In H p) (hw : m.Wide) : GCalls Try.prog 4 [.agg (m.cells p).toArray, .int .i64 x, .int .i64 e] H (fun v _ => v = .bool true) := by
  refine GCalls.body (N := 48) (rs := [.tmp 6]) Try.func4 rfl rfl rfl rfl (fun Qx hret hend => ?_)
  refine .forget (fr' := [(0, some _), (1, some _), (2, some _)]) ⟨rfl, rfl, rfl, trivial⟩ ?_
  have hle := GHeap.Le.refl H
  have base_hin := hin
  refine .seq (fun K1 hK1 => ?_)
  refine .region ?_
  refine .r rfl rfl rfl (.boxR rfl sz_28_VProf rfl) ?_
  rintro _ H3 ⟨g3, rfl, le3, ge3, at3⟩
  have nx_H3 := le3.1
  replace hle := hle.trans le3
  have lt_at3 := GHeap.lt_of_get at3
  replace hin := base_hin.mono hle
  have hb3 : Prof.At _ g3 0 m p := ⟨Mem.of_get at3, hin⟩
  obtain ⟨fs3, ft3, c103, c113, c123, i23, i33, i43⟩ := hb3.get
  have hm3 : MemN _ _ _ _ _ := ⟨rfl, hb3.1⟩
  have hi3 := hb3.2
  have hms3 : MemN _ _ _ _ _ := ⟨rfl, fs3.1⟩
  have his3 := fs3.2
  have hmt3 : MemN _ _ _ _ _ := ⟨rfl, ft3.1⟩
  have hit3 := ft3.2
  refine .m rfl rfl rfl (.assign rfl) ?_
  refine .nil ?_
  refine hK1 _ _ ?_
  refine .seq (fun K2 hK2 => ?_)
  refine .region ?_
  refine .m rfl rfl rfl (.assign rfl) ?_
  refine .nil ?_
  refine hK2 _ _ ?_
  refine .seq (fun K3 hK3 => ?_)
  refine .region ?_
  refine .m rfl rfl rfl (.loadM ag_28_Y rfl ⟨rfl, Mem.of_get at3⟩) ?_
  refine .m rfl rfl rfl (.move rfl) ?_
  refine .call rfl rfl rfl rfl @Try.call6 rfl (szProfunctor_c) ?_
  rintro _ _ ⟨heq, lf15, rfl, z115, z215, z315⟩
  obtain rfl := heq.symm
  refine .m rfl rfl rfl (.assign rfl) ?_
  refine .nil ?_
  refine hK3 _ _ ?_
  refine .seq (fun K4 hK4 => ?_)
  refine .seq (fun K5 hK5 => ?_)
  refine .region ?_
  refine .m rfl rfl rfl (.move rfl) ?_
  refine .m rfl rfl rfl (.cmp rfl rfl rfl) ?_
  refine .nil ?_
  refine hK5 _ _ ?_
  refine .cond rfl (fun h17 => ?_) (fun h17 => ?_)
  ·
   try simp only [sps] at h17
   refine .seq (fun K6 hK6 => ?_)
   refine .region ?_
   refine .m rfl rfl rfl (.assign rfl) ?_
   refine .nil ?_
   refine hK6 _ _ ?_
   refine .ret ?_
   -- leaf e1
   refine hret _ _ ?_
   refine ⟨_, rfl, ?_⟩
   first
   | exact rfl
   | exact absurd trivial (by assumption)
   | contradiction
  ·
   try simp only [sps] at h17
   have hsm15 := z315 (by omega)
   refine .skip ?_
   refine hK4 _ _ ?_
   refine .seq (fun K7 hK7 => ?_)
   refine .region ?_
   refine .m rfl rfl rfl (.loadM ag_28_Y rfl ⟨rfl, Mem.of_get at3⟩) ?_
   refine .call rfl rfl rfl rfl @Try.call8 rfl (toProfunctor_c) ?_
   rintro _ H20 ⟨le20, p20, rfl, v20⟩
   have nx_H20 := le20.1
   replace hle := hle.trans le20
   replace at3 := le20.2 _ _ at3
   have bs_v20 := v20
   have lv_v20 : Keep H3.next H20 H20 := fun _ _ _ h => h
   replace hin := base_hin.mono hle
   clear hb3 fs3 ft3 c103 c113 c123 i23 i33 i43 hm3 hi3 hms3 his3 hmt3 hit3
   have hb3 : Prof.At _ g3 0 m p := ⟨Mem.of_get at3, hin⟩
   obtain ⟨fs3, ft3, c103, c113, c123, i23, i33, i43⟩ := hb3.get
   have hm3 : MemN _ _ _ _ _ := ⟨rfl, hb3.1⟩
   have hi3 := hb3.2
   have hms3 : MemN _ _ _ _ _ := ⟨rfl, fs3.1⟩
   have his3 := fs3.2
   have hmt3 : MemN _ _ _ _ _ := ⟨rfl, ft3.1⟩
   have hit3 := ft3.2
   have i20 := v20.inn
   refine .m rfl rfl rfl (.move rfl) ?_
   refine .m rfl rfl rfl (.move rfl) ?_
   refine .callQ rfl rfl rfl rfl @Try.call11 rfl (specPlaceNumber_c) ?_
   refine .m rfl rfl rfl (.move rfl) ?_
   refine .m rfl rfl rfl (.extract rfl rfl) ?_
   refine .m rfl rfl rfl (.extract rfl rfl) ?_
   refine .m rfl rfl rfl (.assign rfl) ?_
   refine .m rfl rfl rfl (.assign rfl) ?_
   refine .nil ?_
   refine hK7 _ _ ?_
   refine .seq (fun K8 hK8 => ?_)
   refine .region ?_
   refine .m rfl rfl rfl (.loadM ag_28_Y rfl ⟨rfl, Mem.of_get at3⟩) ?_
   refine .call rfl rfl rfl rfl @Try.call8 rfl (toProfunctor_c) ?_
   rintro _ H27 ⟨le27, p27, rfl, v27⟩
   have nx_H27 := le27.1
   replace hle := hle.trans le27
   replace at3 := le27.2 _ _ at3
   replace lv_v20 := Keep.le lv_v20 le27
   replace v20 := bs_v20.keep lv_v20 (Nat.le_refl _)
   have bs_v27 := v27
   have lv_v27 : Keep H20.next H27 H27 := fun _ _ _ h => h
   replace hin := base_hin.mono hle
   clear hb3 fs3 ft3 c103 c113 c123 i23 i33 i43 hm3 hi3 hms3 his3 hmt3 hit3
   have hb3 : Prof.At _ g3 0 m p := ⟨Mem.of_get at3, hin⟩
   obtain ⟨fs3, ft3, c103, c113, c123, i23, i33, i43⟩ := hb3.get
   have hm3 : MemN _ _ _ _ _ := ⟨rfl, hb3.1⟩
   have hi3 := hb3.2
   have hms3 : MemN _ _ _ _ _ := ⟨rfl, fs3.1⟩
   have his3 := fs3.2
   have hmt3 : MemN _ _ _ _ _ := ⟨rfl, ft3.1⟩
   have hit3 := ft3.2
   clear i20
   have i20 := v20.inn
   have i27 := v27.inn
   refine .r rfl rfl rfl (.allocR rfl ze_33_VProf rfl) ?_
   rintro _ H10 ⟨g10, rfl, le10, ge10, at10⟩
   have nx_H10 := le10.1
   replace hle := hle.trans le10
   replace at3 := le10.2 _ _ at3
   replace lv_v20 := Keep.le lv_v20 le10
   replace v20 := bs_v20.keep lv_v20 (Nat.le_refl _)
   replace lv_v27 := Keep.le lv_v27 le10
   replace v27 := bs_v27.keep lv_v27 (Nat.le_refl _)
   have lt_at10 := GHeap.lt_of_get at10
   replace hin := base_hin.mono hle
   clear hb3 fs3 ft3 c103 c113 c123 i23 i33 i43 hm3 hi3 hms3 his3 hmt3 hit3
   have hb3 : Prof.At _ g3 0 m p := ⟨Mem.of_get at3, hin⟩
   obtain ⟨fs3, ft3, c103, c113, c123, i23, i33, i43⟩ := hb3.get
   have hm3 : MemN _ _ _ _ _ := ⟨rfl, hb3.1⟩
   have hi3 := hb3.2
   have hms3 : MemN _ _ _ _ _ := ⟨rfl, fs3.1⟩
   have his3 := fs3.2
   have hmt3 : MemN _ _ _ _ _ := ⟨rfl, ft3.1⟩
   have hit3 := ft3.2
   clear i20
   have i20 := v20.inn
   clear i27
   have i27 := v27.inn
   refine .r0 rfl rfl (.fillR rfl sz_33_VProf rfl rfl rfl rfl (by assumption) (by first | rfl | exact Nat.le_of_ble_eq_true rfl | simp)) ?_
   rintro _ H6003 ⟨rfl, st6003, at6003⟩
   have nx_H6003 := st6003.nx
   replace hle := hle.st st6003 (fun k hk => ⟨by omega, trivial⟩)
   replace at3 := st6003.same _ _ ⟨by omega, trivial⟩ at3
   replace lv_v20 := Keep.st lv_v20 st6003 (fun k hb hk => ⟨by omega, trivial⟩)
   replace v20 := bs_v20.keep lv_v20 (Nat.le_refl _)
   replace lv_v27 := Keep.st lv_v27 st6003 (fun k hb hk => ⟨by omega, trivial⟩)
   replace v27 := bs_v27.keep lv_v27 (Nat.le_refl _)
   have lt_at6003 := GHeap.lt_of_get at6003
   replace hin := base_hin.mono hle
   clear hb3 fs3 ft3 c103 c113 c123 i23 i33 i43 hm3 hi3 hms3 his3 hmt3 hit3
   have hb3 : Prof.At _ g3 0 m p := ⟨Mem.of_get at3, hin⟩
   obtain ⟨fs3, ft3, c103, c113, c123, i23, i33, i43⟩ := hb3.get
   have hm3 : MemN _ _ _ _ _ := ⟨rfl, hb3.1⟩
   have hi3 := hb3.2
   have hms3 : MemN _ _ _ _ _ := ⟨rfl, fs3.1⟩
   have his3 := fs3.2
   have hmt3 : MemN _ _ _ _ _ := ⟨rfl, ft3.1⟩
   have hit3 := ft3.2
   clear i20
   have i20 := v20.inn
   clear i27
   have i27 := v27.inn
   have mm6003 : MemN _ _ _ _ _ := ⟨rfl, Mem.of_get at6003⟩
   refine .nil ?_
   refine hK8 _ _ ?_
   refine .seq (fun K9 hK9 => ?_)
   refine .region ?_
   refine .m rfl rfl rfl (.loadM ag_33_VProf rfl ⟨rfl, Mem.of_get at6003⟩) ?_
   refine .m rfl rfl rfl (.move rfl) ?_
   refine .m rfl rfl rfl (.move rfl) ?_
   refine .callQ rfl rfl rfl rfl @Try.call12 rfl (implPlaceNumber_c) ?_
   refine .m rfl rfl rfl (.move rfl) ?_
   refine .m rfl rfl rfl (.extract rfl rfl) ?_
   refine .m rfl rfl rfl (.extract rfl rfl) ?_
   refine .m rfl rfl rfl (.assign rfl) ?_
   refine .m rfl rfl rfl (.assign rfl) ?_
   refine .nil ?_
   refine hK9 _ _ ?_
   refine .seq (fun K10 hK10 => ?_)
   refine .seq (fun K11 hK11 => ?_)
   refine .region ?_
   refine .m rfl rfl rfl (.move rfl) ?_
   refine .m rfl rfl rfl (.move rfl) ?_
   refine .m rfl rfl rfl (.cmp rfl rfl rfl) ?_
   refine .m rfl rfl rfl (.move rfl) ?_
   refine .split (fun h38 => ?_) (fun h38 => ?_)
   ·
    try simp only [sps] at h38
    refine .sg rfl rfl rfl rfl rfl ?_
    refine .sg rfl rfl rfl rfl rfl ?_
    refine .sg rfl rfl rfl rfl rfl ?_
    refine .m rfl rfl rfl (.pickT rfl rfl) ?_
    refine .nil ?_
    refine hK11 _ _ ?_
    refine .condT rfl ?_
    refine .seq (fun K12 hK12 => ?_)
    refine .region ?_
    refine .m rfl rfl rfl (.assign rfl) ?_
    refine .nil ?_
    refine hK12 _ _ ?_
    refine .ret ?_
    -- leaf e2
    refine hret _ _ ?_
    refine ⟨_, rfl, ?_⟩
    first
    | exact rfl
    | exact absurd trivial (by assumption)
    | contradiction
   ·
    try simp only [sps] at h38
    refine .mg rfl rfl rfl rfl rfl (.move rfl) ?_
    refine .mg rfl rfl rfl rfl rfl (.move rfl) ?_
    refine .mg rfl rfl rfl rfl rfl (.cmp rfl rfl rfl) ?_
    refine .m rfl rfl rfl (.pickF rfl rfl) ?_
    refine .nil ?_
    refine hK11 _ _ ?_
    refine .cond rfl (fun h42 => ?_) (fun h42 => ?_)
    ·
     try simp only [sps] at h42
     refine .seq (fun K13 hK13 => ?_)
     refine .region ?_
     refine .m rfl rfl rfl (.assign rfl) ?_
     refine .nil ?_
     refine hK13 _ _ ?_
     refine .ret ?_
     -- leaf e3
     refine hret _ _ ?_
     refine ⟨_, rfl, ?_⟩
     first
     | exact rfl
     | exact absurd trivial (by assumption)
     | contradiction
    ·
     try simp only [sps] at h42
     refine .skip ?_
     refine hK10 _ _ ?_
     refine .seq (fun K14 hK14 => ?_)
     refine .seq (fun K15 hK15 => ?_)
     refine .regionD mixed_orders_B (.q 0 (.q 1 (.c 2 1 (.c 3 0 (.q 4 (.done)))))) (by kernel_rfl) ?_
     refine .m rfl rfl rfl rfl (.refl _) (.loadM ag_33_VProf rfl ⟨rfl, Mem.of_get at6003⟩) ?_
     refine .m rfl rfl rfl rfl (.refl _) (.loadM ag_28_Y rfl ⟨rfl, Mem.of_get at3⟩) ?_
     refine .call1 rfl rfl rfl rfl rfl @Try.call8 rfl (toProfunctor_c) ?_
     rintro _ H45 ⟨le45, p45, rfl, v45⟩
     have hbl := le45
     refine ⟨hbl, ?_⟩
     have nx_H45 := le45.1
     replace hle := hle.trans le45
     replace at3 := le45.2 _ _ at3
     replace at6003 := le45.2 _ _ at6003
     replace lv_v20 := Keep.le lv_v20 le45
     replace v20 := bs_v20.keep lv_v20 (Nat.le_refl _)
     replace lv_v27 := Keep.le lv_v27 le45
     replace v27 := bs_v27.keep lv_v27 (Nat.le_refl _)
     have bs_v45 := v45
     have lv_v45 : Keep H6003.next H45 H45 := fun _ _ _ h => h
     replace hin := base_hin.mono hle
     clear hb3 fs3 ft3 c103 c113 c123 i23 i33 i43 hm3 hi3 hms3 his3 hmt3 hit3
     have hb3 : Prof.At _ g3 0 m p := ⟨Mem.of_get at3, hin⟩
     obtain ⟨fs3, ft3, c103, c113, c123, i23, i33, i43⟩ := hb3.get
     have hm3 : MemN _ _ _ _ _ := ⟨rfl, hb3.1⟩
     have hi3 := hb3.2
     have hms3 : MemN _ _ _ _ _ := ⟨rfl, fs3.1⟩
     have his3 := fs3.2
     have hmt3 : MemN _ _ _ _ _ := ⟨rfl, ft3.1⟩
     have hit3 := ft3.2
     clear i20
     have i20 := v20.inn
     clear i27
     have i27 := v27.inn
     clear mm6003
     have mm6003 : MemN _ _ _ _ _ := ⟨rfl, Mem.of_get at6003⟩
     have i45 := v45.inn
     refine .callQ0 rfl rfl rfl rfl rfl @Try.call10 rfl (eqProfunctor_c) ?_
     refine .m rfl rfl rfl rfl (.refl _) (.not rfl) ?_
     refine .done ?_
     refine hK15 _ _ ?_
     refine .cond rfl (fun h47 => ?_) (fun h47 => ?_)
     ·
      try simp only [sps] at h47
      refine .seq (fun K16 hK16 => ?_)
      refine .region ?_
      refine .m rfl rfl rfl (.assign rfl) ?_
      refine .nil ?_
      refine hK16 _ _ ?_
      refine .ret ?_
      -- leaf e4
      refine hret _ _ ?_
      refine ⟨_, rfl, ?_⟩
      first
      | exact rfl
      | exact absurd trivial (by assumption)
      | contradiction
     ·
      try simp only [sps] at h47
      refine .skip ?_
      refine hK14 _ _ ?_
      refine .seq (fun K17 hK17 => ?_)
      refine .region ?_
      refine .m rfl rfl rfl (.assign rfl) ?_
      refine .nil ?_
      refine hK17 _ _ ?_
      refine .ret ?_
      -- leaf e5
      refine hret _ _ ?_
      refine ⟨_, rfl, ?_⟩
      first
      | exact rfl
      | exact absurd trivial (by assumption)
      | contradiction
end Go.Proofs.Ytihkbggaaopebaa
