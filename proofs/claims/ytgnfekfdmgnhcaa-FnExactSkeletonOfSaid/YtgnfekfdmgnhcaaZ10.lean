/- Parts of categories: the program's. No condition but those of each statement. -/
import Derived.Test.YtgnfekfdmgnhcaaZ9
namespace Go.Proofs.Ytgnfekfdmgnhcaa
open Go Go.GL Go.RowKit Go.Proofs
theorem sl_173_Kc : sliceT Try.prog 173 = some (4, 1) := by kernel_rfl
theorem ze_4_Kc : zeroT Try.prog 4 = some ([.bool false], 1) := by kernel_rfl
theorem by_4_Kc : (Try.prog.info? 4).map (·.bytes) = some 1 := by kernel_rfl
theorem sz_4_Kc : (Try.prog.info? 4).map (·.size) = some 1 := by kernel_rfl
theorem on_4_Kc : oneT Try.prog 4 = true := by kernel_rfl
theorem bt_27_Kc : buildT Try.prog 27 = some ([.int .i64 0, .slice none 0 0, .slice none 0 0, .slice none 0 0, .slice none 0 0], [(0, 1), (1, 1), (2, 1), (3, 1), (4, 1)]) := by kernel_rfl
theorem marks_c {g o : Nat} {c : Cat} {p : CatP} {a : Option Addr} {xs : List Int} {H : GHeap} (h : Cat.At H g o c p := by assumption) (hx : Ints H a xs := by assumption) (hS : c.Shape) (hC : c.Closed xs) :
    GCalls Try.prog 147 [.pointer (some ⟨g, o, none⟩), .slice a xs.length xs.length] H (fun v H' => H.Le H' ∧ ∃ gB, v = .slice (some ⟨gB, 0, none⟩) c.src.length c.src.length ∧ H'.get gB = some (.row (bools (tabB c.src.length fun f => xs.contains (f : Int))) 4 true) ∧ H.next ≤ gB) := by
  have b1 := hS.n40
  have b6 := hC.len
  refine GCalls.body (N := 22) (rs := [.tmp 4]) Try.func147 rfl rfl rfl rfl (fun Qx hret hend => ?_)
  refine .forget (fr' := [(0, some _), (1, some _)]) ⟨rfl, rfl, trivial⟩ ?_
  have hle := GHeap.Le.refl H
  have base_h := h
  have base_hx := hx
  refine .seq (fun K1 hK1 => ?_)
  refine .region (.m rfl rfl rfl (.assign rfl) (.nil ?_))
  refine hK1 _ _ ?_
  refine .seq (fun K2 hK2 => ?_)
  refine .region (.m rfl rfl rfl (.move rfl) ?_)
  refine .callQ rfl rfl rfl rfl @Try.call58 rfl (arrows_c) ?_
  refine .r rfl rfl rfl (.makeB rfl sl_173_Kc ze_4_Kc by_4_Kc rfl rfl (by omega) (by omega) (by omega) (by omega)) ?_
  rintro _ H10 ⟨g10, rfl, le10, ge10, at10⟩
  have nx_H10 := le10.1
  replace hle := hle.trans le10
  have lt_at10 := GHeap.lt_of_get at10
  replace h := base_h.mono hle
  replace hx := base_hx.mono hle
  refine .m rfl rfl rfl (.assign rfl) (.nil ?_)
  refine hK2 _ _ ?_
  refine .seq (fun K3 hK3 => ?_)
  refine .seq (fun K4 hK4 => ?_)
  refine .region (.m rfl rfl rfl (.move rfl) (.m rfl rfl rfl (.len sl_22_A rfl) (.m rfl rfl rfl (.move rfl) ?_)))
  refine .nil ?_
  refine hK4 _ _ ?_
  refine .block ?_
  refine .loopR (σ := Nat) [(5, some _), (11, some _), (12, some _)] (fun e => [(13, some (.int .i64 (e : Int)))]) (fun e H' => St [g10] H10 H' ∧ H'.get g10 = some (.row (bools (tabB c.src.length (markP xs e))) 4 true) ∧ e ≤ xs.length) (fun e => xs.length - e) (0) ⟨rfl, rfl, rfl, trivial⟩ ⟨rfl, trivial⟩ ?_ ?_
  ·
   refine ⟨.refl _ _, by (rw [markP_zero, ← tabB_false]; simpa using at10), ?_⟩
   omega
  rintro e HL1 ⟨lst1, at_L5, hI⟩ KL1 hKL1
  refine .forget (fr' := [(13, some (.int .i64 (e : Int))), (5, some _), (11, some _), (12, some _)]) ⟨rfl, rfl, rfl, rfl, trivial⟩ ?_
  have nx_HL1 := lst1.nx
  replace hle := hle.st lst1 (fun k hk => ⟨by omega, trivial⟩)
  have lt_at_L5 := GHeap.lt_of_get at_L5
  replace h := base_h.mono hle
  replace hx := base_hx.mono hle
  have hlb : (tabB c.src.length (markP xs e)).length = c.src.length := length_tabB _ _
  refine .seq (fun K5 hK5 => ?_)
  refine .region (.m rfl rfl rfl (.cmp rfl rfl rfl) (.nil ?_))
  refine hK5 _ _ ?_
  refine .seq (fun K6 hK6 => ?_)
  refine .cond rfl (fun h14 => ?_) (fun h14 => ?_)
  ·
   simp only [sps] at h14
   have q0 := hC.lt (xs.getD e 0) (getD_mem (by omega))
   refine .skip ?_
   refine hK6 _ _ ?_
   refine .seq (fun K7 hK7 => ?_)
   refine .block ?_
   refine .seq (fun K8 hK8 => ?_)
   refine .region ?_
   refine .m rfl rfl rfl (.idxN sl_22_A (by assumption) rfl rfl (by omega)) ?_
   refine .m rfl rfl rfl (.loadI on_2_A (by assumption) rfl (by omega)) ?_
   refine .m rfl rfl rfl (.assign rfl) (.nil ?_)
   refine hK8 _ _ ?_
   refine .region (.m rfl rfl rfl (.move rfl) (.m rfl rfl rfl (.move rfl) ?_))
   refine .m rfl rfl rfl (.idx1 sl_173_Kc (by first | assumption | exact SlA.of_row at_L5 (by first | rfl | (simp; done) | (simp <;> omega))) rfl rfl (by omega) (by omega)) ?_
   refine .r0 rfl rfl (.storeB rfl sz_4_Kc rfl rfl (by assumption) (by first | omega | (simp <;> omega))) ?_
   rintro _ H5003 ⟨rfl, st5003, at5003⟩
   have nx_H5003 := st5003.nx
   replace hle := hle.st st5003 (fun k hk => ⟨by omega, trivial⟩)
   replace lst1 := lst1.st st5003 (fun k hk ho => by simp only [out, and_true] at ho ⊢ <;> first | exact ho | exact ho.1 | exact ho.2 | exact ho.2.1 | exact ho.2.2 | exact ho.2.2.1 | exact ho.2.2.2 | omega)
   have lt_at5003 := GHeap.lt_of_get at5003
   replace h := base_h.mono hle
   replace hx := base_hx.mono hle
   rw [Nat.zero_add] at at5003
   refine .nil ?_
   refine hK7 _ _ ?_
   refine .region ?_
   refine .m rfl rfl rfl (.add rfl rfl rfl (by omega) (by omega)) ?_
   refine .m rfl rfl rfl (.move rfl) (.nil ?_)
   refine hKL1 (e + 1) _ _ ?_ ?_ ⟨rfl, rfl, rfl, rfl, trivial⟩
   ·
    refine ⟨lst1, by first | assumption | (rw [markP_succ (by omega) q0.1]; assumption), ?_⟩
    omega
   omega
  try simp only [sps] at h14
  refine .exit ?_
  refine hK3 _ _ ?_
  refine .seq (fun K9 hK9 => ?_)
  refine .region (.m rfl rfl rfl (.move rfl) (.m rfl rfl rfl (.assign rfl) (.nil ?_)))
  refine hK9 _ _ ?_
  refine .ret ?_
  refine hret _ _ ?_
  refine ⟨_, rfl, ?_⟩
  obtain rfl : e = xs.length := by omega
  rw [markP_all] at at_L5
  exact ⟨hle, g10, rfl, at_L5, by omega⟩
set_option maxHeartbeats 4000000 in
theorem sub_c {g o : Nat} {c : Cat} {p : CatP} {a : Option Addr} {xs : List Int} {H : GHeap} (h : Cat.At H g o c p := by assumption) (hx : Ints H a xs := by assumption) (hS : c.Shape) (hC : c.Closed xs) :
    GCalls Try.prog 105 [.pointer (some ⟨g, o, none⟩), .slice a xs.length xs.length] H (fun v H' => H.Le H' ∧ ∃ q gO, v = .tuple #[.agg ((c.part xs).cells q).toArray, .slice (some ⟨gO, 0, none⟩) (c.partO xs).length (c.partO xs).length] ∧ CatR H.next H' (c.part xs) q ∧ H'.get gO = some (.row (ints (c.partO xs)) 2 true) ∧ H.next ≤ gO) := by
  have b1 := hS.n40
  have b2 := hS.tl
  have b3 := hS.cl
  have b4 := hS.il
  have b5 := hS.obj
  have b6 := hC.len
  have b7 : (c.partO xs).length ≤ 8 := by have := c.partO_len xs; omega
  have hnd := hC.nodup
  obtain ⟨n, hn⟩ : ∃ n : Nat, c.obj = n := ⟨c.obj.toNat, by omega⟩
  have hn2 : c.obj.toNat = n := by omega
  refine GCalls.body (N := 149) (rs := [.cell 4 27, .tmp 5]) Try.func105 rfl rfl rfl rfl (fun Qx hret hend => ?_)
  refine .forget (fr' := [(0, some _), (1, some _)]) ⟨rfl, rfl, trivial⟩ ?_
  have hle := GHeap.Le.refl H
  have base_h := h
  have base_hx := hx
  obtain ⟨c0, c1, c2, c3, c4, i1, i2, i3, i4⟩ := h.get
  have hm : MemN _ _ _ _ _ := ⟨rfl, h.1⟩
  have hi := h.2
  refine .seq (fun K1 hK1 => ?_)
  refine .region ?_
  refine .r rfl rfl rfl (.allocR rfl ze_27_E rfl) ?_
  rintro _ H4 ⟨g4, rfl, le4, ge4, at4⟩
  have nx_H4 := le4.1
  replace hle := hle.trans le4
  have lt_at4 := GHeap.lt_of_get at4
  replace h := base_h.mono hle
  replace hx := base_hx.mono hle
  clear c0 c1 c2 c3 c4 i1 i2 i3 i4 hm hi
  obtain ⟨c0, c1, c2, c3, c4, i1, i2, i3, i4⟩ := h.get
  have hm : MemN _ _ _ _ _ := ⟨rfl, h.1⟩
  have hi := h.2
  refine .m rfl rfl rfl (.assign rfl) (.nil ?_)
  refine hK1 _ _ ?_
  refine .seq (fun K2 hK2 => ?_)
  refine .region (.m rfl rfl rfl (.move rfl) ?_)
  refine .callQ rfl rfl rfl rfl @Try.call58 rfl (arrows_c) ?_
  refine .r rfl rfl rfl (.makeIN rfl sl_22_A ze_2_E by_2_E rfl rfl (by omega) (by omega) (by omega)) ?_
  rintro _ H23 ⟨g23, rfl, le23, ge23, at23⟩
  have nx_H23 := le23.1
  replace hle := hle.trans le23
  replace at4 := le23.2 _ _ at4
  have lt_at23 := GHeap.lt_of_get at23
  replace h := base_h.mono hle
  replace hx := base_hx.mono hle
  clear c0 c1 c2 c3 c4 i1 i2 i3 i4 hm hi
  obtain ⟨c0, c1, c2, c3, c4, i1, i2, i3, i4⟩ := h.get
  have hm : MemN _ _ _ _ _ := ⟨rfl, h.1⟩
  have hi := h.2
  refine .m rfl rfl rfl (.assign rfl) (.nil ?_)
  refine hK2 _ _ ?_
  refine .seq (fun K3 hK3 => ?_)
  refine .seq (fun K4 hK4 => ?_)
  refine .region (.m rfl rfl rfl (.move rfl) (.m rfl rfl rfl (.len sl_22_A rfl) (.m rfl rfl rfl (.move rfl) ?_)))
  refine .nil ?_
  refine hK4 _ _ ?_
  refine .block ?_
  rw [← numF_zero xs] at at23
  refine .loopR (σ := Nat) [(0, some _), (1, some _), (4, some _), (6, some _), (24, some _), (25, some _)] (fun i => [(26, some (.int .i64 (i : Int)))]) (fun i H' => St [g23] H23 H' ∧ H'.get g23 = some (.row (ints (numF xs c.src.length i)) 2 true) ∧ i ≤ xs.length) (fun i => xs.length - i) (0) ⟨rfl, rfl, rfl, rfl, rfl, rfl, trivial⟩ ⟨rfl, trivial⟩ ?_ ?_
  ·
   refine ⟨.refl _ _, by first | assumption | exact at23 | simpa using at23, ?_⟩
   omega
  rintro i HL1 ⟨lst1, at_L6, hI⟩ KL1 hKL1
  refine .forget (fr' := [(26, some (.int .i64 (i : Int))), (0, some _), (1, some _), (4, some _), (6, some _), (24, some _), (25, some _)]) ⟨rfl, rfl, rfl, rfl, rfl, rfl, rfl, trivial⟩ ?_
  have nx_HL1 := lst1.nx
  replace hle := hle.st lst1 (fun k hk => ⟨by omega, trivial⟩)
  have ne_g4_g23 : g4 ≠ g23 := by omega
  replace at4 := lst1.same _ _ ⟨ne_g4_g23, trivial⟩ at4
  have lt_at_L6 := GHeap.lt_of_get at_L6
  replace h := base_h.mono hle
  replace hx := base_hx.mono hle
  clear c0 c1 c2 c3 c4 i1 i2 i3 i4 hm hi
  obtain ⟨c0, c1, c2, c3, c4, i1, i2, i3, i4⟩ := h.get
  have hm : MemN _ _ _ _ _ := ⟨rfl, h.1⟩
  have hi := h.2
  have hnl := length_numF xs c.src.length i
  refine .seq (fun K5 hK5 => ?_)
  refine .region (.m rfl rfl rfl (.cmp rfl rfl rfl) (.nil ?_))
  refine hK5 _ _ ?_
  refine .seq (fun K6 hK6 => ?_)
  refine .cond rfl (fun h27 => ?_) (fun h27 => ?_)
  ·
   simp only [sps] at h27
   have q0 := hC.lt (xs.getD i 0) (getD_mem (by omega))
   refine .skip ?_
   refine hK6 _ _ ?_
   refine .seq (fun K7 hK7 => ?_)
   refine .block ?_
   refine .seq (fun K8 hK8 => ?_)
   refine .region (.m rfl rfl rfl (.move rfl) ?_)
   refine .m rfl rfl rfl (.idxN sl_22_A (by assumption) rfl rfl (by omega)) ?_
   refine .m rfl rfl rfl (.loadI on_2_A (by assumption) rfl (by omega)) ?_
   refine .m rfl rfl rfl (.assign rfl) (.m rfl rfl rfl (.assign rfl) (.nil ?_))
   refine hK8 _ _ ?_
   refine .region (.m rfl rfl rfl (.move rfl) (.m rfl rfl rfl (.move rfl) (.m rfl rfl rfl (.move rfl) ?_)))
   refine .m rfl rfl rfl (.idx1 sl_22_A (by first | assumption | exact SlA.of_row at_L6 (by first | rfl | (simp; done) | (simp <;> omega))) rfl rfl (by omega) (by omega)) ?_
   refine .r0 rfl rfl (.storeI rfl sz_2_E rfl rfl (by assumption) (by first | omega | (simp <;> omega))) ?_
   rintro _ H5004 ⟨rfl, st5004, at5004⟩
   have nx_H5004 := st5004.nx
   replace hle := hle.st st5004 (fun k hk => ⟨by omega, trivial⟩)
   replace lst1 := lst1.st st5004 (fun k hk ho => by simp only [out, and_true] at ho ⊢ <;> first | omega | (first | exact ho | exact ho.1 | exact ho.2 | exact ho.2.1 | exact ho.2.2 | exact ho.2.2.1 | exact ho.2.2.2))
   replace at4 := st5004.same _ _ ⟨ne_g4_g23, trivial⟩ at4
   have lt_at5004 := GHeap.lt_of_get at5004
   replace h := base_h.mono hle
   replace hx := base_hx.mono hle
   clear c0 c1 c2 c3 c4 i1 i2 i3 i4 hm hi
   obtain ⟨c0, c1, c2, c3, c4, i1, i2, i3, i4⟩ := h.get
   have hm : MemN _ _ _ _ _ := ⟨rfl, h.1⟩
   have hi := h.2
   rw [Nat.zero_add] at at5004
   refine .nil ?_
   refine hK7 _ _ ?_
   refine .region ?_
   refine .m rfl rfl rfl (.add rfl rfl rfl (by omega) (by omega)) ?_
   refine .m rfl rfl rfl (.move rfl) (.nil ?_)
   refine hKL1 (i + 1) _ _ ?_ ?_ ⟨rfl, rfl, rfl, rfl, rfl, rfl, rfl, trivial⟩
   ·
    refine ⟨lst1, by first | assumption | (rw [numF_succ hnd (by omega) q0.1 q0.2]; assumption), ?_⟩
    omega
   omega
  try simp only [sps] at h27
  refine .exit ?_
  refine hK3 _ _ ?_
  refine .seq (fun K9 hK9 => ?_)
  refine .region ?_
  obtain rfl : i = xs.length := by omega
  refine .m rfl rfl rfl (.move rfl) (.m rfl rfl rfl (.move rfl) ?_)
  refine .call rfl rfl rfl rfl @Try.call147 rfl (marks_c h hx hS hC) ?_
  rintro _ H38 ⟨le38, g38, rfl, at38, ge38⟩
  have nx_H38 := le38.1
  replace hle := hle.trans le38
  replace lst1 := lst1.le le38
  replace at4 := le38.2 _ _ at4
  replace at_L6 := le38.2 _ _ at_L6
  have lt_at38 := GHeap.lt_of_get at38
  replace h := base_h.mono hle
  replace hx := base_hx.mono hle
  clear c0 c1 c2 c3 c4 i1 i2 i3 i4 hm hi
  obtain ⟨c0, c1, c2, c3, c4, i1, i2, i3, i4⟩ := h.get
  have hm : MemN _ _ _ _ _ := ⟨rfl, h.1⟩
  have hi := h.2
  refine .m rfl rfl rfl (.assign rfl) (.nil ?_)
  refine hK9 _ _ ?_
  refine .seq (fun K10 hK10 => ?_)
  refine .region ?_
  refine .r rfl rfl rfl (.litR rfl sl_22_A ze_2_E rfl rfl (by omega) (by omega) rfl rfl) ?_
  rintro _ H39 ⟨g39, rfl, le39, ge39, at39⟩
  have nx_H39 := le39.1
  replace hle := hle.trans le39
  replace lst1 := lst1.le le39
  replace at4 := le39.2 _ _ at4
  replace at_L6 := le39.2 _ _ at_L6
  replace at38 := le39.2 _ _ at38
  have lt_at39 := GHeap.lt_of_get at39
  replace h := base_h.mono hle
  replace hx := base_hx.mono hle
  clear c0 c1 c2 c3 c4 i1 i2 i3 i4 hm hi
  obtain ⟨c0, c1, c2, c3, c4, i1, i2, i3, i4⟩ := h.get
  have hm : MemN _ _ _ _ _ := ⟨rfl, h.1⟩
  have hi := h.2
  replace at39 : GHeap.get H39 g39 = some (.row (ints []) 2 true) := at39
  refine .m rfl rfl rfl (.assign rfl) (.nil ?_)
  refine hK10 _ _ ?_
  refine .seq (fun K11 hK11 => ?_)
  refine .region (.m rfl rfl rfl (.move rfl) (.m rfl rfl rfl (.nilCheck rfl) (.m rfl rfl rfl (.fieldAddr fo_27_0_B rfl) ?_)))
  refine .m rfl rfl rfl (.load on_2_A rfl (by assumption)) ?_
  refine .r rfl rfl rfl (.makeI rfl sl_22_A ze_2_E by_2_E rfl rfl (by omega) (by omega) (by omega) (by omega)) ?_
  rintro _ H44 ⟨g44, rfl, le44, ge44, at44⟩
  have nx_H44 := le44.1
  replace hle := hle.trans le44
  replace lst1 := lst1.le le44
  replace at4 := le44.2 _ _ at4
  replace at_L6 := le44.2 _ _ at_L6
  replace at38 := le44.2 _ _ at38
  replace at39 := le44.2 _ _ at39
  have lt_at44 := GHeap.lt_of_get at44
  replace h := base_h.mono hle
  replace hx := base_hx.mono hle
  clear c0 c1 c2 c3 c4 i1 i2 i3 i4 hm hi
  obtain ⟨c0, c1, c2, c3, c4, i1, i2, i3, i4⟩ := h.get
  have hm : MemN _ _ _ _ _ := ⟨rfl, h.1⟩
  have hi := h.2
  refine .m rfl rfl rfl (.assign rfl) (.nil ?_)
  refine hK11 _ _ ?_
  refine .seq (fun K12 hK12 => ?_)
  refine .region ?_
  rw [hn2, ← Cat.plF_zero c xs n] at at44
  refine .m rfl rfl rfl (.build bt_27_Kc rfl rfl rfl) ?_
  refine .r rfl rfl rfl (.allocR rfl ze_27_E rfl) ?_
  rintro _ H12 ⟨g12, rfl, le12, ge12, at12⟩
  have nx_H12 := le12.1
  replace hle := hle.trans le12
  replace lst1 := lst1.le le12
  replace at4 := le12.2 _ _ at4
  replace at_L6 := le12.2 _ _ at_L6
  replace at38 := le12.2 _ _ at38
  replace at39 := le12.2 _ _ at39
  replace at44 := le12.2 _ _ at44
  have lt_at12 := GHeap.lt_of_get at12
  replace h := base_h.mono hle
  replace hx := base_hx.mono hle
  clear c0 c1 c2 c3 c4 i1 i2 i3 i4 hm hi
  obtain ⟨c0, c1, c2, c3, c4, i1, i2, i3, i4⟩ := h.get
  have hm : MemN _ _ _ _ _ := ⟨rfl, h.1⟩
  have hi := h.2
  refine .r0 rfl rfl (.fillR rfl sz_27_D rfl rfl rfl rfl (by assumption) (by first | rfl | exact Nat.le_of_ble_eq_true rfl | simp)) ?_
  rintro _ H10002 ⟨rfl, st10002, at10002⟩
  have nx_H10002 := st10002.nx
  replace hle := hle.st st10002 (fun k hk => ⟨by omega, trivial⟩)
  replace lst1 := lst1.st st10002 (fun k hk ho => by simp only [out, and_true] at ho ⊢ <;> first | omega | (first | exact ho | exact ho.1 | exact ho.2 | exact ho.2.1 | exact ho.2.2 | exact ho.2.2.1 | exact ho.2.2.2))
  have ne_g4_g12 : g4 ≠ g12 := by omega
  replace at4 := st10002.same _ _ ⟨ne_g4_g12, trivial⟩ at4
  have ne_g23_g12 : g23 ≠ g12 := by omega
  replace at_L6 := st10002.same _ _ ⟨ne_g23_g12, trivial⟩ at_L6
  have ne_g38_g12 : g38 ≠ g12 := by omega
  replace at38 := st10002.same _ _ ⟨ne_g38_g12, trivial⟩ at38
  have ne_g39_g12 : g39 ≠ g12 := by omega
  replace at39 := st10002.same _ _ ⟨ne_g39_g12, trivial⟩ at39
  have ne_g44_g12 : g44 ≠ g12 := by omega
  replace at44 := st10002.same _ _ ⟨ne_g44_g12, trivial⟩ at44
  have lt_at10002 := GHeap.lt_of_get at10002
  replace h := base_h.mono hle
  replace hx := base_hx.mono hle
  clear c0 c1 c2 c3 c4 i1 i2 i3 i4 hm hi
  obtain ⟨c0, c1, c2, c3, c4, i1, i2, i3, i4⟩ := h.get
  have hm : MemN _ _ _ _ _ := ⟨rfl, h.1⟩
  have hi := h.2
  have mm10002 : MemN _ _ _ _ _ := ⟨rfl, Mem.of_get at10002⟩
  refine .nil ?_
  refine hK12 _ _ ?_
  refine .seq (fun K13 hK13 => ?_)
  refine .seq (fun K14 hK14 => ?_)
  refine .region (.m rfl rfl rfl (.move rfl) (.m rfl rfl rfl (.nilCheck rfl) (.m rfl rfl rfl (.fieldAddr fo_27_3_B rfl) ?_)))
  refine .m rfl rfl rfl (.load on_22_B rfl (by assumption)) ?_
  refine .m rfl rfl rfl (.len sl_22_A rfl) (.m rfl rfl rfl (.move rfl) (.nil ?_))
  refine hK14 _ _ ?_
  refine .block ?_
  refine .hold (fun HhI lehI nxhI => ?_)
  obtain ⟨ghI, hghI⟩ : ∃ g, g = GHeap.next H10002 := ⟨_, rfl⟩
  have no_hI : NO HhI ghI [] 2 0 := NO.start (by omega) rfl rfl
  have nx_HhI := lehI.1
  replace hle := hle.trans lehI
  replace lst1 := lst1.le lehI
  replace at4 := lehI.2 _ _ at4
  replace at_L6 := lehI.2 _ _ at_L6
  replace at38 := lehI.2 _ _ at38
  replace at39 := lehI.2 _ _ at39
  replace at44 := lehI.2 _ _ at44
  replace at10002 := lehI.2 _ _ at10002
  have lt_no_hI := no_hI.lt
  replace h := base_h.mono hle
  replace hx := base_hx.mono hle
  clear c0 c1 c2 c3 c4 i1 i2 i3 i4 hm hi
  obtain ⟨c0, c1, c2, c3, c4, i1, i2, i3, i4⟩ := h.get
  have hm : MemN _ _ _ _ _ := ⟨rfl, h.1⟩
  have hi := h.2
  clear mm10002
  have mm10002 : MemN _ _ _ _ _ := ⟨rfl, Mem.of_get at10002⟩
  refine .loopR (σ := Nat × Nat × Nat × Nat) [(0, some _), (1, some _), (4, some _), (6, some _), (9, some _), (11, some _), (12, some _), (49, some _), (50, some _)] (fun (x, gL10, nL10, gLI) => [(51, some (.int .i64 (x : Int))), (10, some (.slice (some ⟨gL10, 0, none⟩) nL10 nL10))]) (fun (x, gL10, nL10, gLI) H' => St [g39, g44, ghI, g12] HhI H' ∧ H'.get gL10 = some (.row (ints (filtN x (c.hasId xs))) 2 true) ∧ PL gL10 g39 HhI.next ∧ nL10 = (filtN x (c.hasId xs)).length ∧ H'.get g44 = some (.row (ints (c.plF xs n x)) 2 true) ∧ NO H' gLI (ints (c.partI xs x)) 2 ((c.partI xs x).length) ∧ PL gLI ghI HhI.next ∧ H'.get g12 = some (.row ([.int .i64 0, .slice none 0 0, .slice none 0 0, .slice (nz (c.partI xs x).length gLI) (c.partI xs x).length (c.partI xs x).length, .slice none 0 0]) 27 true) ∧ gL10 ≠ g44 ∧ gL10 ≠ gLI ∧ gL10 ≠ g12 ∧ g44 ≠ gLI ∧ g44 ≠ g12 ∧ gLI ≠ g12 ∧ x ≤ n) (fun (x, gL10, nL10, gLI) => n - x) ((0, _, _, ghI)) ⟨rfl, rfl, rfl, rfl, rfl, rfl, rfl, rfl, rfl, trivial⟩ ⟨rfl, rfl, trivial⟩ ?_ ?_
  ·
   refine ⟨.refl _ _, by first | assumption | exact at39 | simpa using at39, ⟨.inl rfl⟩, by first | rfl | assumption | simp | omega, by first | assumption | exact at44 | simpa using at44, by first | assumption | exact NO.start (by omega) (by first | rfl | (simp; done) | omega) (by first | rfl | (simp; done)), ⟨.inl rfl⟩, by first | assumption | exact at10002 | simpa using at10002, by omega, by omega, by omega, by omega, by omega, by omega, ?_⟩
   omega
  rintro ⟨x, gL10, nL10, gLI⟩ HL2 ⟨lst2, at_L10, pl_L10, ln_L10, at_L11, no_LI, pl_LI, at_Lg12, ap2_0, ap2_1, ap2_2, ap2_3, ap2_4, ap2_5, hI⟩ KL2 hKL2
  refine .forget (fr' := [(51, some (.int .i64 (x : Int))), (10, some (.slice (some ⟨gL10, 0, none⟩) nL10 nL10)), (0, some _), (1, some _), (4, some _), (6, some _), (9, some _), (11, some _), (12, some _), (49, some _), (50, some _)]) ⟨rfl, rfl, rfl, rfl, rfl, rfl, rfl, rfl, rfl, rfl, rfl, trivial⟩ ?_
  have ge_L10 : H.next ≤ gL10 := pl_L10.ge (by omega) (by omega)
  have ge_LI : H.next ≤ gLI := pl_LI.ge (by omega) (by omega)
  have nx_HL2 := lst2.nx
  replace hle := hle.st lst2 (fun k hk => ⟨by omega, by omega, by omega, by omega, trivial⟩)
  replace lst1 := lst1.st lst2 (fun k hk ho => by simp only [out, and_true] at ho ⊢ <;> first | exact ho | exact ho.1 | exact ho.2 | exact ho.2.1 | exact ho.2.2 | exact ho.2.2.1 | exact ho.2.2.2 | omega)
  have ne_g4_g39 : g4 ≠ g39 := by omega
  have ne_g4_g44 : g4 ≠ g44 := by omega
  have ne_g4_ghI : g4 ≠ ghI := by omega
  replace at4 := lst2.same _ _ ⟨ne_g4_g39, ne_g4_g44, ne_g4_ghI, ne_g4_g12, trivial⟩ at4
  have ne_g23_g39 : g23 ≠ g39 := by omega
  have ne_g23_g44 : g23 ≠ g44 := by omega
  have ne_g23_ghI : g23 ≠ ghI := by omega
  replace at_L6 := lst2.same _ _ ⟨ne_g23_g39, ne_g23_g44, ne_g23_ghI, ne_g23_g12, trivial⟩ at_L6
  have ne_g38_g39 : g38 ≠ g39 := by omega
  have ne_g38_g44 : g38 ≠ g44 := by omega
  have ne_g38_ghI : g38 ≠ ghI := by omega
  replace at38 := lst2.same _ _ ⟨ne_g38_g39, ne_g38_g44, ne_g38_ghI, ne_g38_g12, trivial⟩ at38
  have lt_at_L10 := GHeap.lt_of_get at_L10
  have lt_at_L11 := GHeap.lt_of_get at_L11
  have lt_no_LI := no_LI.lt
  have lt_at_Lg12 := GHeap.lt_of_get at_Lg12
  replace h := base_h.mono hle
  replace hx := base_hx.mono hle
  clear c0 c1 c2 c3 c4 i1 i2 i3 i4 hm hi
  obtain ⟨c0, c1, c2, c3, c4, i1, i2, i3, i4⟩ := h.get
  have hm : MemN _ _ _ _ _ := ⟨rfl, h.1⟩
  have hi := h.2
  clear mm10002
  have mm10002 : MemN _ _ _ _ _ := ⟨rfl, Mem.of_get at10002⟩
  have hfl := filtN_le x (c.hasId xs)
  have hpl := c.length_plF xs n x
  have hil := c.partI_len xs x
  have hnl := length_numF xs c.src.length xs.length
  refine .seq (fun K15 hK15 => ?_)
  refine .region (.m rfl rfl rfl (.cmp rfl rfl rfl) (.nil ?_))
  refine hK15 _ _ ?_
  refine .seq (fun K16 hK16 => ?_)
  refine .cond rfl (fun h52 => ?_) (fun h52 => ?_)
  ·
   simp only [sps] at h52
   have r1 := hS.idn x (by omega)
   refine .skip ?_
   refine hK16 _ _ ?_
   refine .seq (fun K17 hK17 => ?_)
   refine .block ?_
   refine .seq (fun K18 hK18 => ?_)
   refine .region (.m rfl rfl rfl (.move rfl) ?_)
   refine .m rfl rfl rfl (.idxN sl_22_A (by assumption) rfl rfl (by omega)) ?_
   refine .m rfl rfl rfl (.loadI on_2_A (by assumption) rfl (by omega)) ?_
   refine .m rfl rfl rfl (.assign rfl) (.m rfl rfl rfl (.assign rfl) (.nil ?_))
   refine hK18 _ _ ?_
   refine .seq (fun K19 hK19 => ?_)
   refine .region (.m rfl rfl rfl (.move rfl) (.m rfl rfl rfl (.move rfl) ?_))
   refine .m rfl rfl rfl (.idx1 sl_173_Kc (SlA.of_row at38 (by simp)) rfl rfl (by omega) (by omega)) ?_
   refine .m rfl rfl rfl (.loadB on_4_Kc (Bools.of_get at38) rfl (by rw [length_tabB]; omega)) ?_
   refine .nil ?_
   refine hK19 _ _ ?_
   refine .cond rfl (fun h59 => ?_) (fun h59 => ?_)
   ·
    rw [tabB_get (by omega), show (((c.idn.getD x 0).toNat : Nat) : Int) = c.idn.getD x 0 by omega] at h59
    have hE : filtN (x + 1) (c.hasId xs) = filtN x (c.hasId xs) ++ [(x : Int)] := filtN_T h59
    have hEl : (filtN (x + 1) (c.hasId xs)).length = (filtN x (c.hasId xs)).length + 1 := by rw [hE]; simp
    have hIl := c.partI_len xs (x + 1)
    have hP := c.plF_T (xs := xs) (n := n) (k := x) (by omega) h59
    have hN := numF_all (xs := xs) (m := c.src.length) r1.1 r1.2 (List.contains_iff_mem.1 h59)
    have hI2 : c.partI xs (x + 1) = c.partI xs x ++ [(numF xs c.src.length xs.length).getD (c.idn.getD x 0).toNat 0] := by rw [hN]; exact c.partI_T h59
    refine .seq (fun K20 hK20 => ?_)
    refine .region (.m rfl rfl rfl (.move rfl) (.m rfl rfl rfl (.move rfl) (.m rfl rfl rfl (.move rfl) ?_)))
    refine .m rfl rfl rfl (.len sl_22_A rfl) ?_
    refine .m rfl rfl rfl (.idxN sl_22_A (by first | assumption | exact SlA.of_row at_L11 (by first | rfl | (simp; done) | (simp <;> omega))) rfl rfl (by omega)) ?_
    refine .r0 rfl rfl (.storeI rfl sz_2_E rfl rfl (by assumption) (by first | omega | (simp <;> omega))) ?_
    rintro _ H15005 ⟨rfl, st15005, at15005⟩
    have nx_H15005 := st15005.nx
    replace hle := hle.st st15005 (fun k hk => ⟨by omega, trivial⟩)
    replace lst1 := lst1.st st15005 (fun k hk ho => by simp only [out, and_true] at ho ⊢ <;> first | omega | (first | exact ho | exact ho.1 | exact ho.2 | exact ho.2.1 | exact ho.2.2 | exact ho.2.2.1 | exact ho.2.2.2))
    replace lst2 := lst2.st st15005 (fun k hk ho => by simp only [out, and_true] at ho ⊢ <;> first | omega | (first | exact ho | exact ho.1 | exact ho.2 | exact ho.2.1 | exact ho.2.2 | exact ho.2.2.1 | exact ho.2.2.2))
    replace at4 := st15005.same _ _ ⟨ne_g4_g44, trivial⟩ at4
    replace at_L6 := st15005.same _ _ ⟨ne_g23_g44, trivial⟩ at_L6
    replace at38 := st15005.same _ _ ⟨ne_g38_g44, trivial⟩ at38
    replace at_L10 := st15005.same _ _ ⟨ap2_0, trivial⟩ at_L10
    replace no_LI := no_LI.st st15005 ⟨(Ne.symm ap2_3), trivial⟩
    replace at_Lg12 := st15005.same _ _ ⟨(Ne.symm ap2_4), trivial⟩ at_Lg12
    have lt_at15005 := GHeap.lt_of_get at15005
    replace h := base_h.mono hle
    replace hx := base_hx.mono hle
    clear c0 c1 c2 c3 c4 i1 i2 i3 i4 hm hi
    obtain ⟨c0, c1, c2, c3, c4, i1, i2, i3, i4⟩ := h.get
    have hm : MemN _ _ _ _ _ := ⟨rfl, h.1⟩
    have hi := h.2
    clear mm10002
    have mm10002 : MemN _ _ _ _ _ := ⟨rfl, Mem.of_get at10002⟩
    rw [Nat.zero_add] at at15005
    refine .nil ?_
    refine hK20 _ _ ?_
    refine .seq (fun K21 hK21 => ?_)
    refine .region (.m rfl rfl rfl (.move rfl) (.m rfl rfl rfl (.move rfl) ?_))
    refine .r rfl rfl rfl (.litR rfl sl_22_A ze_2_E rfl rfl (by omega) (by omega) rfl rfl) ?_
    rintro _ H67 ⟨g67, rfl, le67, ge67, at67⟩
    have nx_H67 := le67.1
    replace hle := hle.trans le67
    replace lst1 := lst1.le le67
    replace lst2 := lst2.le le67
    replace at4 := le67.2 _ _ at4
    replace at_L6 := le67.2 _ _ at_L6
    replace at38 := le67.2 _ _ at38
    replace at_L10 := le67.2 _ _ at_L10
    replace no_LI := no_LI.le le67
    replace at_Lg12 := le67.2 _ _ at_Lg12
    replace at15005 := le67.2 _ _ at15005
    have lt_at67 := GHeap.lt_of_get at67
    replace h := base_h.mono hle
    replace hx := base_hx.mono hle
    clear c0 c1 c2 c3 c4 i1 i2 i3 i4 hm hi
    obtain ⟨c0, c1, c2, c3, c4, i1, i2, i3, i4⟩ := h.get
    have hm : MemN _ _ _ _ _ := ⟨rfl, h.1⟩
    have hi := h.2
    clear mm10002
    have mm10002 : MemN _ _ _ _ _ := ⟨rfl, Mem.of_get at10002⟩
    refine .r rfl rfl rfl (.appendI rfl sl_22_A ze_2_E rfl by_2_E sl_22_A rfl rfl (by assumption) (by assumption) (by first | omega | (simp <;> omega)) (by omega) (by omega)) ?_
    rintro _ H68 ⟨g68, rfl, st68, ge68, at68⟩
    have nx_H68 := st68.nx
    replace hle := hle.st st68 (fun k hk => ⟨by omega, trivial⟩)
    replace lst1 := lst1.st st68 (fun k hk ho => by simp only [out, and_true] at ho ⊢ <;> first | omega | (first | exact ho | exact ho.1 | exact ho.2 | exact ho.2.1 | exact ho.2.2 | exact ho.2.2.1 | exact ho.2.2.2 | exact pl_L10.ne (by first | omega | (first | exact ho | exact ho.1 | exact ho.2 | exact ho.2.1 | exact ho.2.2 | exact ho.2.2.1 | exact ho.2.2.2)) (by omega)))
    replace lst2 := lst2.st st68 (fun k hk ho => by simp only [out, and_true] at ho ⊢ <;> first | omega | (first | exact ho | exact ho.1 | exact ho.2 | exact ho.2.1 | exact ho.2.2 | exact ho.2.2.1 | exact ho.2.2.2 | exact pl_L10.ne (by first | omega | (first | exact ho | exact ho.1 | exact ho.2 | exact ho.2.1 | exact ho.2.2 | exact ho.2.2.1 | exact ho.2.2.2)) (by omega)))
    have ne_g4_gL10 : g4 ≠ gL10 := pl_L10.ne ne_g4_g39 (by omega)
    replace at4 := st68.same _ _ ⟨ne_g4_gL10, trivial⟩ at4
    have ne_g23_gL10 : g23 ≠ gL10 := pl_L10.ne ne_g23_g39 (by omega)
    replace at_L6 := st68.same _ _ ⟨ne_g23_gL10, trivial⟩ at_L6
    have ne_g38_gL10 : g38 ≠ gL10 := pl_L10.ne ne_g38_g39 (by omega)
    replace at38 := st68.same _ _ ⟨ne_g38_gL10, trivial⟩ at38
    replace no_LI := no_LI.st st68 ⟨(Ne.symm ap2_1), trivial⟩
    replace at_Lg12 := st68.same _ _ ⟨(Ne.symm ap2_2), trivial⟩ at_Lg12
    replace at15005 := st68.same _ _ ⟨(Ne.symm ap2_0), trivial⟩ at15005
    have ne_g67_gL10 : g67 ≠ gL10 := by omega
    replace at67 := st68.same _ _ ⟨ne_g67_gL10, trivial⟩ at67
    have lt_at68 := GHeap.lt_of_get at68
    replace h := base_h.mono hle
    replace hx := base_hx.mono hle
    clear c0 c1 c2 c3 c4 i1 i2 i3 i4 hm hi
    obtain ⟨c0, c1, c2, c3, c4, i1, i2, i3, i4⟩ := h.get
    have hm : MemN _ _ _ _ _ := ⟨rfl, h.1⟩
    have hi := h.2
    clear mm10002
    have mm10002 : MemN _ _ _ _ _ := ⟨rfl, Mem.of_get at10002⟩
    refine .m rfl rfl rfl (.assign rfl) (.nil ?_)
    refine hK21 _ _ ?_
    refine .regionD mixed_orders_B (.q 0 (.q 1 (.q 2 (.q 3 (.q 4 (.q 5 (.c 6 1 (.c 7 0 (.q 8 (.c 9 0 (.done))))))))))) (by kernel_rfl) ?_
    refine .m rfl rfl rfl rfl (.refl _) (.fieldAddr fo_27_3_B rfl) ?_
    refine .m rfl rfl rfl rfl (.refl _) (.load on_22_B rfl (by first | assumption | exact Mem.of_get at_Lg12 3 _ rfl)) ?_
    refine .m rfl rfl rfl rfl (.refl _) (.move rfl) (.m rfl rfl rfl rfl (.refl _) (.move rfl) ?_)
    refine .m rfl rfl rfl rfl (.refl _) (.idx1 sl_22_A (by first | assumption | exact SlA.of_row at_L6 (by first | rfl | (simp; done) | (simp <;> omega))) rfl rfl (by omega) (by omega)) ?_
    refine .m rfl rfl rfl rfl (.refl _) (.loadI on_2_A (by first | assumption | exact Ints.of_get at_L6) rfl (by omega)) ?_
    refine .c1 rfl rfl rfl rfl (.litR rfl sl_22_A ze_2_E rfl rfl (by omega) (by omega) rfl rfl) ?_
    rintro _ H75 ⟨g75, rfl, le75, ge75, at75⟩
    have hbl := le75
    refine ⟨hbl, ?_⟩
    have nx_H75 := le75.1
    replace hle := hle.trans le75
    replace lst1 := lst1.le le75
    replace lst2 := lst2.le le75
    replace at4 := le75.2 _ _ at4
    replace at_L6 := le75.2 _ _ at_L6
    replace at38 := le75.2 _ _ at38
    replace no_LI := no_LI.le le75
    replace at_Lg12 := le75.2 _ _ at_Lg12
    replace at15005 := le75.2 _ _ at15005
    replace at67 := le75.2 _ _ at67
    replace at68 := le75.2 _ _ at68
    have lt_at75 := GHeap.lt_of_get at75
    replace h := base_h.mono hle
    replace hx := base_hx.mono hle
    clear c0 c1 c2 c3 c4 i1 i2 i3 i4 hm hi
    obtain ⟨c0, c1, c2, c3, c4, i1, i2, i3, i4⟩ := h.get
    have hm : MemN _ _ _ _ _ := ⟨rfl, h.1⟩
    have hi := h.2
    clear mm10002
    have mm10002 : MemN _ _ _ _ _ := ⟨rfl, Mem.of_get at10002⟩
    refine .c0 rfl rfl rfl rfl (.appendNOI rfl sl_22_A ze_2_E rfl by_2_E sl_22_A rfl rfl no_LI (by assumption) (by first | omega | (simp <;> omega)) (by omega) (by omega)) ?_
    rintro _ H76 ⟨g76, rfl, st76, ge76, at76⟩
    have nx_H76 := st76.nx
    replace hle := hle.st st76 (fun k hk => ⟨by omega, trivial⟩)
    replace lst1 := lst1.st st76 (fun k hk ho => by simp only [out, and_true] at ho ⊢ <;> first | omega | (first | exact ho | exact ho.1 | exact ho.2 | exact ho.2.1 | exact ho.2.2 | exact ho.2.2.1 | exact ho.2.2.2 | exact pl_LI.ne (by first | omega | (first | exact ho | exact ho.1 | exact ho.2 | exact ho.2.1 | exact ho.2.2 | exact ho.2.2.1 | exact ho.2.2.2)) (by omega)))
    replace lst2 := lst2.st st76 (fun k hk ho => by simp only [out, and_true] at ho ⊢ <;> first | omega | (first | exact ho | exact ho.1 | exact ho.2 | exact ho.2.1 | exact ho.2.2 | exact ho.2.2.1 | exact ho.2.2.2 | exact pl_LI.ne (by first | omega | (first | exact ho | exact ho.1 | exact ho.2 | exact ho.2.1 | exact ho.2.2 | exact ho.2.2.1 | exact ho.2.2.2)) (by omega)))
    have ne_g4_gLI : g4 ≠ gLI := pl_LI.ne ne_g4_ghI (by omega)
    replace at4 := st76.same _ _ ⟨ne_g4_gLI, trivial⟩ at4
    have ne_g23_gLI : g23 ≠ gLI := pl_LI.ne ne_g23_ghI (by omega)
    replace at_L6 := st76.same _ _ ⟨ne_g23_gLI, trivial⟩ at_L6
    have ne_g38_gLI : g38 ≠ gLI := pl_LI.ne ne_g38_ghI (by omega)
    replace at38 := st76.same _ _ ⟨ne_g38_gLI, trivial⟩ at38
    replace at_Lg12 := st76.same _ _ ⟨(Ne.symm ap2_5), trivial⟩ at_Lg12
    replace at15005 := st76.same _ _ ⟨ap2_3, trivial⟩ at15005
    have ne_g67_gLI : g67 ≠ gLI := by omega
    replace at67 := st76.same _ _ ⟨ne_g67_gLI, trivial⟩ at67
    have ne_g68_gLI : g68 ≠ gLI := by omega
    replace at68 := st76.same _ _ ⟨ne_g68_gLI, trivial⟩ at68
    have ne_g75_gLI : g75 ≠ gLI := by omega
    replace at75 := st76.same _ _ ⟨ne_g75_gLI, trivial⟩ at75
    have lt_at76 := GHeap.lt_of_get at76
    replace h := base_h.mono hle
    replace hx := base_hx.mono hle
    clear c0 c1 c2 c3 c4 i1 i2 i3 i4 hm hi
    obtain ⟨c0, c1, c2, c3, c4, i1, i2, i3, i4⟩ := h.get
    have hm : MemN _ _ _ _ _ := ⟨rfl, h.1⟩
    have hi := h.2
    clear mm10002
    have mm10002 : MemN _ _ _ _ _ := ⟨rfl, Mem.of_get at10002⟩
    refine .m rfl rfl rfl rfl (.refl _) (.fieldAddr fo_27_3_B rfl) ?_
    refine .r0 rfl rfl rfl (.storeR rfl sz_22_E rfl rfl rfl (by assumption) (by first | exact Nat.le_of_ble_eq_true rfl | (simp; done) | (simp <;> omega))) ?_
    rintro _ H17009 ⟨rfl, st17009, at17009⟩
    have nx_H17009 := st17009.nx
    replace hle := hle.st st17009 (fun k hk => ⟨by omega, trivial⟩)
    replace lst1 := lst1.st st17009 (fun k hk ho => by simp only [out, and_true] at ho ⊢ <;> first | omega | (first | exact ho | exact ho.1 | exact ho.2 | exact ho.2.1 | exact ho.2.2 | exact ho.2.2.1 | exact ho.2.2.2))
    replace lst2 := lst2.st st17009 (fun k hk ho => by simp only [out, and_true] at ho ⊢ <;> first | omega | (first | exact ho | exact ho.1 | exact ho.2 | exact ho.2.1 | exact ho.2.2 | exact ho.2.2.1 | exact ho.2.2.2))
    replace at4 := st17009.same _ _ ⟨ne_g4_g12, trivial⟩ at4
    replace at_L6 := st17009.same _ _ ⟨ne_g23_g12, trivial⟩ at_L6
    replace at38 := st17009.same _ _ ⟨ne_g38_g12, trivial⟩ at38
    replace at15005 := st17009.same _ _ ⟨ap2_4, trivial⟩ at15005
    have ne_g67_g12 : g67 ≠ g12 := by omega
    replace at67 := st17009.same _ _ ⟨ne_g67_g12, trivial⟩ at67
    have ne_g68_g12 : g68 ≠ g12 := by omega
    replace at68 := st17009.same _ _ ⟨ne_g68_g12, trivial⟩ at68
    have ne_g75_g12 : g75 ≠ g12 := by omega
    replace at75 := st17009.same _ _ ⟨ne_g75_g12, trivial⟩ at75
    have ne_g76_g12 : g76 ≠ g12 := by omega
    replace at76 := st17009.same _ _ ⟨ne_g76_g12, trivial⟩ at76
    have lt_at17009 := GHeap.lt_of_get at17009
    replace h := base_h.mono hle
    replace hx := base_hx.mono hle
    clear c0 c1 c2 c3 c4 i1 i2 i3 i4 hm hi
    obtain ⟨c0, c1, c2, c3, c4, i1, i2, i3, i4⟩ := h.get
    have hm : MemN _ _ _ _ _ := ⟨rfl, h.1⟩
    have hi := h.2
    clear mm10002
    have mm10002 : MemN _ _ _ _ _ := ⟨rfl, Mem.of_get at10002⟩
    try simp only [Nat.zero_add, List.set_cons_succ, List.set_cons_zero] at at17009
    refine .done ?_
    refine hK17 _ _ ?_
    refine .region ?_
    refine .m rfl rfl rfl (.add rfl rfl rfl (by omega) (by omega)) ?_
    refine .m rfl rfl rfl (.move rfl) (.nil ?_)
    refine hKL2 ((x + 1, _, _, g76)) _ _ ?_ ?_ ⟨rfl, rfl, rfl, rfl, rfl, rfl, rfl, rfl, rfl, rfl, rfl, trivial⟩
    ·
     refine ⟨lst2, by first | assumption | (rw [hE]; assumption) | (rw [hP, ← ln_L10]; assumption) | (rw [hP]; assumption) | (rw [hI2]; assumption) | (rw [hI2, List.length_append, List.length_singleton]; assumption), by first | assumption | exact ⟨.inr (by omega)⟩ | exact ⟨.inl rfl⟩, by first | omega | (simp only [List.length_append, List.length_cons, List.length_nil] <;> omega), by first | assumption | (rw [hE]; assumption) | (rw [hP, ← ln_L10]; assumption) | (rw [hP]; assumption) | (rw [hI2]; assumption) | (rw [hI2, List.length_append, List.length_singleton]; assumption), by first | (first | assumption | (rw [hE]; assumption) | (rw [hP, ← ln_L10]; assumption) | (rw [hP]; assumption) | (rw [hI2]; assumption) | (rw [hI2, List.length_append, List.length_singleton]; assumption)) | exact NO.of (by first | assumption | (rw [hE]; assumption) | (rw [hP, ← ln_L10]; assumption) | (rw [hP]; assumption) | (rw [hI2]; assumption) | (rw [hI2, List.length_append, List.length_singleton]; assumption)) (by omega), by first | assumption | exact ⟨.inr (by omega)⟩ | exact ⟨.inl rfl⟩, by first | assumption | (rw [hE]; assumption) | (rw [hP, ← ln_L10]; assumption) | (rw [hP]; assumption) | (rw [hI2]; assumption) | (rw [hI2, List.length_append, List.length_singleton]; assumption), by first | assumption | omega, by first | assumption | omega, by first | assumption | omega, by first | assumption | omega, by first | assumption | omega, by first | assumption | omega, ?_⟩
     omega
    (dsimp only; omega)
   rw [tabB_get (by omega), show (((c.idn.getD x 0).toNat : Nat) : Int) = c.idn.getD x 0 by omega] at h59
   have hE : filtN (x + 1) (c.hasId xs) = filtN x (c.hasId xs) := filtN_F h59
   have hEl : (filtN (x + 1) (c.hasId xs)).length = (filtN x (c.hasId xs)).length := by rw [hE]
   have hP := c.plF_F (xs := xs) (n := n) (k := x) h59
   have hI2 : c.partI xs (x + 1) = c.partI xs x := c.partI_F h59
   refine .skip ?_
   refine hK17 _ _ ?_
   refine .region ?_
   refine .m rfl rfl rfl (.add rfl rfl rfl (by omega) (by omega)) ?_
   refine .m rfl rfl rfl (.move rfl) (.nil ?_)
   refine hKL2 ((x + 1, _, _, gLI)) _ _ ?_ ?_ ⟨rfl, rfl, rfl, rfl, rfl, rfl, rfl, rfl, rfl, rfl, rfl, trivial⟩
   ·
    refine ⟨lst2, by first | assumption | (rw [hE]; assumption) | (rw [hP, ← ln_L10]; assumption) | (rw [hP]; assumption) | (rw [hI2]; assumption) | (rw [hI2, List.length_append, List.length_singleton]; assumption), by first | assumption | exact ⟨.inr (by omega)⟩ | exact ⟨.inl rfl⟩, by first | omega | (simp only [List.length_append, List.length_cons, List.length_nil] <;> omega), by first | assumption | (rw [hE]; assumption) | (rw [hP, ← ln_L10]; assumption) | (rw [hP]; assumption) | (rw [hI2]; assumption) | (rw [hI2, List.length_append, List.length_singleton]; assumption), by first | (first | assumption | (rw [hE]; assumption) | (rw [hP, ← ln_L10]; assumption) | (rw [hP]; assumption) | (rw [hI2]; assumption) | (rw [hI2, List.length_append, List.length_singleton]; assumption)) | exact NO.of (by first | assumption | (rw [hE]; assumption) | (rw [hP, ← ln_L10]; assumption) | (rw [hP]; assumption) | (rw [hI2]; assumption) | (rw [hI2, List.length_append, List.length_singleton]; assumption)) (by omega), by first | assumption | exact ⟨.inr (by omega)⟩ | exact ⟨.inl rfl⟩, by first | assumption | (rw [hE]; assumption) | (rw [hP, ← ln_L10]; assumption) | (rw [hP]; assumption) | (rw [hI2]; assumption) | (rw [hI2, List.length_append, List.length_singleton]; assumption), by first | assumption | omega, by first | assumption | omega, by first | assumption | omega, by first | assumption | omega, by first | assumption | omega, by first | assumption | omega, ?_⟩
    omega
   (dsimp only; omega)
  try simp only [sps] at h52
  refine .exit ?_
  refine hK13 _ _ ?_
  refine .seq (fun K22 hK22 => ?_)
  refine .region ?_
  obtain rfl : x = n := by omega
  have hpo : filtN x (c.hasId xs) = c.partO xs := by rw [← hn2]; rfl
  rw [hpo] at at_L10 ln_L10
  have hil := c.partI_len xs x
  rw [hpo] at hil
  rw [hil] at no_LI at_Lg12
  obtain rfl := ln_L10
  refine .m rfl rfl rfl (.move rfl) (.m rfl rfl rfl (.len sl_22_A rfl) (.m rfl rfl rfl (.fieldAddr fo_27_0_B rfl) ?_))
  refine .r0 rfl rfl (.storeR rfl sz_2_E rfl rfl rfl (by assumption) (by first | exact Nat.le_of_ble_eq_true rfl | (simp; done) | (simp <;> omega))) ?_
  rintro _ H19003 ⟨rfl, st19003, at19003⟩
  have nx_H19003 := st19003.nx
  replace hle := hle.st st19003 (fun k hk => ⟨by omega, trivial⟩)
  replace lst1 := lst1.st st19003 (fun k hk ho => by simp only [out, and_true] at ho ⊢ <;> first | omega | (first | exact ho | exact ho.1 | exact ho.2 | exact ho.2.1 | exact ho.2.2 | exact ho.2.2.1 | exact ho.2.2.2))
  replace at4 := st19003.same _ _ ⟨ne_g4_g12, trivial⟩ at4
  replace at_L6 := st19003.same _ _ ⟨ne_g23_g12, trivial⟩ at_L6
  replace at38 := st19003.same _ _ ⟨ne_g38_g12, trivial⟩ at38
  replace at_L10 := st19003.same _ _ ⟨ap2_2, trivial⟩ at_L10
  replace at_L11 := st19003.same _ _ ⟨ap2_4, trivial⟩ at_L11
  replace no_LI := no_LI.st st19003 ⟨ap2_5, trivial⟩
  have lt_at19003 := GHeap.lt_of_get at19003
  replace h := base_h.mono hle
  replace hx := base_hx.mono hle
  clear c0 c1 c2 c3 c4 i1 i2 i3 i4 hm hi
  obtain ⟨c0, c1, c2, c3, c4, i1, i2, i3, i4⟩ := h.get
  have hm : MemN _ _ _ _ _ := ⟨rfl, h.1⟩
  have hi := h.2
  clear mm10002
  have mm10002 : MemN _ _ _ _ _ := ⟨rfl, Mem.of_get at10002⟩
  try simp only [Nat.zero_add, List.set_cons_succ, List.set_cons_zero] at at19003
  refine .nil ?_
  refine hK22 _ _ ?_
  refine .seq (fun K23 hK23 => ?_)
  refine .seq (fun K24 hK24 => ?_)
  refine .region (.m rfl rfl rfl (.move rfl) (.m rfl rfl rfl (.len sl_22_A rfl) (.m rfl rfl rfl (.move rfl) ?_)))
  refine .nil ?_
  refine hK24 _ _ ?_
  refine .block ?_
  refine .hold (fun HhF lehF nxhF => ?_)
  obtain ⟨ghF, hghF⟩ : ∃ g, g = GHeap.next H19003 := ⟨_, rfl⟩
  have no_hF : NO HhF ghF [] 2 0 := NO.start (by omega) rfl rfl
  have nx_HhF := lehF.1
  replace hle := hle.trans lehF
  replace lst1 := lst1.le lehF
  replace at4 := lehF.2 _ _ at4
  replace at_L6 := lehF.2 _ _ at_L6
  replace at38 := lehF.2 _ _ at38
  replace at_L10 := lehF.2 _ _ at_L10
  replace at_L11 := lehF.2 _ _ at_L11
  replace no_LI := no_LI.le lehF
  replace at19003 := lehF.2 _ _ at19003
  have lt_no_hF := no_hF.lt
  replace h := base_h.mono hle
  replace hx := base_hx.mono hle
  clear c0 c1 c2 c3 c4 i1 i2 i3 i4 hm hi
  obtain ⟨c0, c1, c2, c3, c4, i1, i2, i3, i4⟩ := h.get
  have hm : MemN _ _ _ _ _ := ⟨rfl, h.1⟩
  have hi := h.2
  clear mm10002
  have mm10002 : MemN _ _ _ _ _ := ⟨rfl, Mem.of_get at10002⟩
  refine .hold (fun HhT lehT nxhT => ?_)
  obtain ⟨ghT, hghT⟩ : ∃ g, g = GHeap.next HhF := ⟨_, rfl⟩
  have no_hT : NO HhT ghT [] 2 0 := NO.start (by omega) rfl rfl
  have nx_HhT := lehT.1
  replace hle := hle.trans lehT
  replace lst1 := lst1.le lehT
  replace at4 := lehT.2 _ _ at4
  replace at_L6 := lehT.2 _ _ at_L6
  replace at38 := lehT.2 _ _ at38
  replace at_L10 := lehT.2 _ _ at_L10
  replace at_L11 := lehT.2 _ _ at_L11
  replace no_LI := no_LI.le lehT
  replace at19003 := lehT.2 _ _ at19003
  replace no_hF := no_hF.le lehT
  have lt_no_hT := no_hT.lt
  replace h := base_h.mono hle
  replace hx := base_hx.mono hle
  clear c0 c1 c2 c3 c4 i1 i2 i3 i4 hm hi
  obtain ⟨c0, c1, c2, c3, c4, i1, i2, i3, i4⟩ := h.get
  have hm : MemN _ _ _ _ _ := ⟨rfl, h.1⟩
  have hi := h.2
  clear mm10002
  have mm10002 : MemN _ _ _ _ _ := ⟨rfl, Mem.of_get at10002⟩
  refine .hold (fun HhC lehC nxhC => ?_)
  obtain ⟨ghC, hghC⟩ : ∃ g, g = GHeap.next HhT := ⟨_, rfl⟩
  have no_hC : NO HhC ghC [] 22 0 := NO.start (by omega) rfl rfl
  have nx_HhC := lehC.1
  replace hle := hle.trans lehC
  replace lst1 := lst1.le lehC
  replace at4 := lehC.2 _ _ at4
  replace at_L6 := lehC.2 _ _ at_L6
  replace at38 := lehC.2 _ _ at38
  replace at_L10 := lehC.2 _ _ at_L10
  replace at_L11 := lehC.2 _ _ at_L11
  replace no_LI := no_LI.le lehC
  replace at19003 := lehC.2 _ _ at19003
  replace no_hF := no_hF.le lehC
  replace no_hT := no_hT.le lehC
  have lt_no_hC := no_hC.lt
  replace h := base_h.mono hle
  replace hx := base_hx.mono hle
  clear c0 c1 c2 c3 c4 i1 i2 i3 i4 hm hi
  obtain ⟨c0, c1, c2, c3, c4, i1, i2, i3, i4⟩ := h.get
  have hm : MemN _ _ _ _ _ := ⟨rfl, h.1⟩
  have hi := h.2
  clear mm10002
  have mm10002 : MemN _ _ _ _ _ := ⟨rfl, Mem.of_get at10002⟩
  refine .loopR (σ := Nat × (Nat → Option Addr) × Nat × Nat × Nat) [(0, some _), (1, some _), (4, some _), (6, some _), (10, some _), (11, some _), (12, some _), (82, some _), (83, some _)] (fun (i, rr, gLF, gLT, gLC) => [(84, some (.int .i64 (i : Int)))]) (fun (i, rr, gLF, gLT, gLC) H' => St [ghF, ghT, ghC, g12] HhC H' ∧ NO H' gLF (ints ((xs.take i).map fun f => idxL (c.partO xs) (c.src.getD f.toNat 0))) 2 (i) ∧ PL gLF ghF HhC.next ∧ NO H' gLT (ints ((xs.take i).map fun f => idxL (c.partO xs) (c.tgt.getD f.toNat 0))) 2 (i) ∧ PL gLT ghT HhC.next ∧ NO H' gLC (slsL rr (c.partL xs i)) 22 (i) ∧ PL gLC ghC HhC.next ∧ H'.get g12 = some (.row ([.int .i64 ((c.partO xs).length : Int), .slice (nz i gLF) i i, .slice (nz i gLT) i i, .slice (nz (c.partO xs).length gLI) (c.partO xs).length (c.partO xs).length, .slice (nz i gLC) i i]) 27 true) ∧ gLF ≠ gLT ∧ gLF ≠ gLC ∧ gLF ≠ g12 ∧ gLT ≠ gLC ∧ gLT ≠ g12 ∧ gLC ≠ g12 ∧ i ≤ xs.length ∧ OwnL H.next H' 2 rr (c.partL xs i) ∧ (∀ j, j < (c.partL xs i).length → rr j ≠ some ⟨gLF, 0, none⟩) ∧ (∀ j, j < (c.partL xs i).length → rr j ≠ some ⟨gLT, 0, none⟩) ∧ ∀ j, j < (c.partL xs i).length → rr j ≠ some ⟨gLI, 0, none⟩) (fun (i, rr, gLF, gLT, gLC) => xs.length - i) ((0, fun _ => none, ghF, ghT, ghC)) ⟨rfl, rfl, rfl, rfl, rfl, rfl, rfl, rfl, rfl, trivial⟩ ⟨rfl, trivial⟩ ?_ ?_
  ·
   refine ⟨.refl _ _, by first | assumption | exact NO.start (by omega) (by first | rfl | (simp; done) | omega) (by first | rfl | (simp; done)), ⟨.inl rfl⟩, by first | assumption | exact NO.start (by omega) (by first | rfl | (simp; done) | omega) (by first | rfl | (simp; done)), ⟨.inl rfl⟩, by first | assumption | exact NO.start (by omega) (by first | rfl | (simp; done) | omega) (by first | rfl | (simp; done)), ⟨.inl rfl⟩, by first | assumption | exact at19003 | simpa using at19003, by omega, by omega, by omega, by omega, by omega, by omega, ?_⟩
   rw [Cat.partL_zero]
   exact ⟨by omega, .nil _ _ _ _, fun _ h => by simp at h, fun _ h => by simp at h, fun _ h => by simp at h⟩
  rintro ⟨i, rr, gLF, gLT, gLC⟩ HL3 ⟨lst3, no_LF, pl_LF, no_LT, pl_LT, no_LC, pl_LC, at_Lg12, ap3_0, ap3_1, ap3_2, ap3_3, ap3_4, ap3_5, hI⟩ KL3 hKL3
  refine .forget (fr' := [(84, some (.int .i64 (i : Int))), (0, some _), (1, some _), (4, some _), (6, some _), (10, some _), (11, some _), (12, some _), (82, some _), (83, some _)]) ⟨rfl, rfl, rfl, rfl, rfl, rfl, rfl, rfl, rfl, rfl, trivial⟩ ?_
  have ge_LF : H.next ≤ gLF := pl_LF.ge (by omega) (by omega)
  have ge_LT : H.next ≤ gLT := pl_LT.ge (by omega) (by omega)
  have ge_LC : H.next ≤ gLC := pl_LC.ge (by omega) (by omega)
  have nx_HL3 := lst3.nx
  replace hle := hle.st lst3 (fun k hk => ⟨by omega, by omega, by omega, by omega, trivial⟩)
  replace lst1 := lst1.st lst3 (fun k hk ho => by simp only [out, and_true] at ho ⊢ <;> first | exact ho | exact ho.1 | exact ho.2 | exact ho.2.1 | exact ho.2.2 | exact ho.2.2.1 | exact ho.2.2.2 | omega)
  have ne_g4_ghF : g4 ≠ ghF := by omega
  have ne_g4_ghT : g4 ≠ ghT := by omega
  have ne_g4_ghC : g4 ≠ ghC := by omega
  replace at4 := lst3.same _ _ ⟨ne_g4_ghF, ne_g4_ghT, ne_g4_ghC, ne_g4_g12, trivial⟩ at4
  have ne_g23_ghF : g23 ≠ ghF := by omega
  have ne_g23_ghT : g23 ≠ ghT := by omega
  have ne_g23_ghC : g23 ≠ ghC := by omega
  replace at_L6 := lst3.same _ _ ⟨ne_g23_ghF, ne_g23_ghT, ne_g23_ghC, ne_g23_g12, trivial⟩ at_L6
  have ne_g38_ghF : g38 ≠ ghF := by omega
  have ne_g38_ghT : g38 ≠ ghT := by omega
  have ne_g38_ghC : g38 ≠ ghC := by omega
  replace at38 := lst3.same _ _ ⟨ne_g38_ghF, ne_g38_ghT, ne_g38_ghC, ne_g38_g12, trivial⟩ at38
  have ne_gL10_ghF : gL10 ≠ ghF := by omega
  have ne_gL10_ghT : gL10 ≠ ghT := by omega
  have ne_gL10_ghC : gL10 ≠ ghC := by omega
  replace at_L10 := lst3.same _ _ ⟨ne_gL10_ghF, ne_gL10_ghT, ne_gL10_ghC, ap2_2, trivial⟩ at_L10
  have ne_g44_ghF : g44 ≠ ghF := by omega
  have ne_g44_ghT : g44 ≠ ghT := by omega
  have ne_g44_ghC : g44 ≠ ghC := by omega
  replace at_L11 := lst3.same _ _ ⟨ne_g44_ghF, ne_g44_ghT, ne_g44_ghC, ap2_4, trivial⟩ at_L11
  have ne_gLI_ghF : gLI ≠ ghF := by omega
  have ne_gLI_ghT : gLI ≠ ghT := by omega
  have ne_gLI_ghC : gLI ≠ ghC := by omega
  replace no_LI := no_LI.st lst3 ⟨ne_gLI_ghF, ne_gLI_ghT, ne_gLI_ghC, ap2_5, trivial⟩
  have lt_no_LF := no_LF.lt
  have lt_no_LT := no_LT.lt
  have lt_no_LC := no_LC.lt
  have lt_at_Lg12 := GHeap.lt_of_get at_Lg12
  replace h := base_h.mono hle
  replace hx := base_hx.mono hle
  clear c0 c1 c2 c3 c4 i1 i2 i3 i4 hm hi
  obtain ⟨c0, c1, c2, c3, c4, i1, i2, i3, i4⟩ := h.get
  have hm : MemN _ _ _ _ _ := ⟨rfl, h.1⟩
  have hi := h.2
  clear mm10002
  have mm10002 : MemN _ _ _ _ _ := ⟨rfl, Mem.of_get at10002⟩
  have rk := St.refl [gLF, gLT, gLC, g12] HL3
  obtain ⟨hi3, hR, hF, hT, hId⟩ := hI
  have hatC := no_LC
  have hat12 := at_Lg12
  have hql := Cat.partL_len (c := c) hi3
  have hfl : (slsL rr (c.partL xs i)).length = (c.partL xs i).length := length_slsL _ _
  have hnl := length_numF xs c.src.length xs.length
  have hpl := c.length_plF xs x x
  refine .seq (fun K25 hK25 => ?_)
  refine .region (.m rfl rfl rfl (.cmp rfl rfl rfl) (.nil ?_))
  refine hK25 _ _ ?_
  refine .seq (fun K26 hK26 => ?_)
  refine .cond rfl (fun h85 => ?_) (fun h85 => ?_)
  ·
   simp only [sps] at h85
   have hfm : xs.getD i 0 ∈ xs := getD_mem (by omega)
   have q0 := hC.lt (xs.getD i 0) hfm
   have q1 := hC.has hfm hS
   have hP1 := c.plF_all (xs := xs) q1.1.1 q1.1.2.1 q1.1.2.2
   have hP2 := c.plF_all (xs := xs) q1.2.1 q1.2.2.1 q1.2.2.2
   rw [hn2] at hP1 hP2
   have q2 := hS.row (xs.getD i 0).toNat (by omega)
   refine .skip ?_
   refine hK26 _ _ ?_
   refine .seq (fun K27 hK27 => ?_)
   refine .block ?_
   refine .seq (fun K28 hK28 => ?_)
   refine .region ?_
   refine .m rfl rfl rfl (.idxN sl_22_A (by assumption) rfl rfl (by omega)) ?_
   refine .m rfl rfl rfl (.loadI on_2_A (by assumption) rfl (by omega)) ?_
   refine .m rfl rfl rfl (.assign rfl) (.nil ?_)
   refine hK28 _ _ ?_
   refine .seq (fun K29 hK29 => ?_)
   refine .regionD mixed_orders_B (.q 0 (.q 1 (.q 2 (.q 3 (.q 4 (.q 5 (.q 6 (.q 7 (.q 8 (.q 9 (.q 10 (.q 11 (.c 12 1 (.c 13 0 (.q 14 (.c 15 0 (.done))))))))))))))))) (by kernel_rfl) ?_
   refine .m rfl rfl rfl rfl (.refl _) (.fieldAddr fo_27_1_B rfl) ?_
   refine .m rfl rfl rfl rfl (.refl _) (.load on_22_B rfl (by first | assumption | exact Mem.of_get at_Lg12 1 _ rfl)) ?_
   refine .m rfl rfl rfl rfl (.refl _) (.move rfl) (.m rfl rfl rfl rfl (.refl _) (.move rfl) (.m rfl rfl rfl rfl (.refl _) (.nilCheck rfl) (.m rfl rfl rfl rfl (.refl _) (.fieldAddr fo_27_1_B rfl) ?_)))
   refine .m rfl rfl rfl rfl (.refl _) (.load on_22_B rfl (by assumption)) ?_
   refine .m rfl rfl rfl rfl (.refl _) (.move rfl) ?_
   refine .m rfl rfl rfl rfl (.refl _) (.idx1 sl_22_A (by assumption) rfl rfl (by omega) (by omega)) ?_
   refine .m rfl rfl rfl rfl (.refl _) (.loadI on_2_A (by assumption) rfl (by omega)) ?_
   refine .m rfl rfl rfl rfl (.refl _) (.idx1 sl_22_A (by first | assumption | exact SlA.of_row at_L11 (by first | rfl | (simp; done) | (simp <;> omega))) rfl rfl (by omega) (by omega)) ?_
   refine .m rfl rfl rfl rfl (.refl _) (.loadI on_2_A (by first | assumption | exact Ints.of_get at_L11) rfl (by omega)) ?_
   refine .c1 rfl rfl rfl rfl (.litR rfl sl_22_A ze_2_E rfl rfl (by omega) (by omega) rfl rfl) ?_
   rintro _ H100 ⟨g100, rfl, le100, ge100, at100⟩
   have hbl := le100
   refine ⟨hbl, ?_⟩
   have nx_H100 := le100.1
   replace hle := hle.trans le100
   replace lst1 := lst1.le le100
   replace lst3 := lst3.le le100
   replace rk := rk.le le100
   replace at4 := le100.2 _ _ at4
   replace at_L6 := le100.2 _ _ at_L6
   replace at38 := le100.2 _ _ at38
   replace at_L10 := le100.2 _ _ at_L10
   replace at_L11 := le100.2 _ _ at_L11
   replace no_LI := no_LI.le le100
   replace no_LF := no_LF.le le100
   replace no_LT := no_LT.le le100
   replace no_LC := no_LC.le le100
   replace at_Lg12 := le100.2 _ _ at_Lg12
   have lt_at100 := GHeap.lt_of_get at100
   replace h := base_h.mono hle
   replace hx := base_hx.mono hle
   clear c0 c1 c2 c3 c4 i1 i2 i3 i4 hm hi
   obtain ⟨c0, c1, c2, c3, c4, i1, i2, i3, i4⟩ := h.get
   have hm : MemN _ _ _ _ _ := ⟨rfl, h.1⟩
   have hi := h.2
   clear mm10002
   have mm10002 : MemN _ _ _ _ _ := ⟨rfl, Mem.of_get at10002⟩
   refine .c0 rfl rfl rfl rfl (.appendNOI rfl sl_22_A ze_2_E rfl by_2_E sl_22_A rfl rfl no_LF (by assumption) (by first | omega | (simp <;> omega)) (by omega) (by omega)) ?_
   rintro _ H101 ⟨g101, rfl, st101, ge101, at101⟩
   have nx_H101 := st101.nx
   replace hle := hle.st st101 (fun k hk => ⟨by omega, trivial⟩)
   replace lst1 := lst1.st st101 (fun k hk ho => by simp only [out, and_true] at ho ⊢ <;> first | omega | (first | exact ho | exact ho.1 | exact ho.2 | exact ho.2.1 | exact ho.2.2 | exact ho.2.2.1 | exact ho.2.2.2 | exact pl_LF.ne (by first | omega | (first | exact ho | exact ho.1 | exact ho.2 | exact ho.2.1 | exact ho.2.2 | exact ho.2.2.1 | exact ho.2.2.2)) (by omega)))
   replace lst3 := lst3.st st101 (fun k hk ho => by simp only [out, and_true] at ho ⊢ <;> first | omega | (first | exact ho | exact ho.1 | exact ho.2 | exact ho.2.1 | exact ho.2.2 | exact ho.2.2.1 | exact ho.2.2.2 | exact pl_LF.ne (by first | omega | (first | exact ho | exact ho.1 | exact ho.2 | exact ho.2.1 | exact ho.2.2 | exact ho.2.2.1 | exact ho.2.2.2)) (by omega)))
   replace rk := rk.st st101 (fun k hk ho => by simp only [out, and_true] at ho ⊢ <;> first | omega | (first | exact ho | exact ho.1 | exact ho.2 | exact ho.2.1 | exact ho.2.2 | exact ho.2.2.1 | exact ho.2.2.2 | exact pl_LF.ne (by first | omega | (first | exact ho | exact ho.1 | exact ho.2 | exact ho.2.1 | exact ho.2.2 | exact ho.2.2.1 | exact ho.2.2.2)) (by omega)))
   have ne_g4_gLF : g4 ≠ gLF := pl_LF.ne ne_g4_ghF (by omega)
   replace at4 := st101.same _ _ ⟨ne_g4_gLF, trivial⟩ at4
   have ne_g23_gLF : g23 ≠ gLF := pl_LF.ne ne_g23_ghF (by omega)
   replace at_L6 := st101.same _ _ ⟨ne_g23_gLF, trivial⟩ at_L6
   have ne_g38_gLF : g38 ≠ gLF := pl_LF.ne ne_g38_ghF (by omega)
   replace at38 := st101.same _ _ ⟨ne_g38_gLF, trivial⟩ at38
   have ne_gL10_gLF : gL10 ≠ gLF := pl_LF.ne ne_gL10_ghF (by omega)
   replace at_L10 := st101.same _ _ ⟨ne_gL10_gLF, trivial⟩ at_L10
   have ne_g44_gLF : g44 ≠ gLF := pl_LF.ne ne_g44_ghF (by omega)
   replace at_L11 := st101.same _ _ ⟨ne_g44_gLF, trivial⟩ at_L11
   have ne_gLI_gLF : gLI ≠ gLF := pl_LF.ne ne_gLI_ghF (by omega)
   replace no_LI := no_LI.st st101 ⟨ne_gLI_gLF, trivial⟩
   replace no_LT := no_LT.st st101 ⟨(Ne.symm ap3_0), trivial⟩
   replace no_LC := no_LC.st st101 ⟨(Ne.symm ap3_1), trivial⟩
   replace at_Lg12 := st101.same _ _ ⟨(Ne.symm ap3_2), trivial⟩ at_Lg12
   have ne_g100_gLF : g100 ≠ gLF := by omega
   replace at100 := st101.same _ _ ⟨ne_g100_gLF, trivial⟩ at100
   have lt_at101 := GHeap.lt_of_get at101
   replace h := base_h.mono hle
   replace hx := base_hx.mono hle
   clear c0 c1 c2 c3 c4 i1 i2 i3 i4 hm hi
   obtain ⟨c0, c1, c2, c3, c4, i1, i2, i3, i4⟩ := h.get
   have hm : MemN _ _ _ _ _ := ⟨rfl, h.1⟩
   have hi := h.2
   clear mm10002
   have mm10002 : MemN _ _ _ _ _ := ⟨rfl, Mem.of_get at10002⟩
   refine .m rfl rfl rfl rfl (.refl _) (.fieldAddr fo_27_1_B rfl) ?_
   refine .r0 rfl rfl rfl (.storeR rfl sz_22_E rfl rfl rfl (by assumption) (by first | exact Nat.le_of_ble_eq_true rfl | (simp; done) | (simp <;> omega))) ?_
   rintro _ H23015 ⟨rfl, st23015, at23015⟩
   have nx_H23015 := st23015.nx
   replace hle := hle.st st23015 (fun k hk => ⟨by omega, trivial⟩)
   replace lst1 := lst1.st st23015 (fun k hk ho => by simp only [out, and_true] at ho ⊢ <;> first | omega | (first | exact ho | exact ho.1 | exact ho.2 | exact ho.2.1 | exact ho.2.2 | exact ho.2.2.1 | exact ho.2.2.2))
   replace lst3 := lst3.st st23015 (fun k hk ho => by simp only [out, and_true] at ho ⊢ <;> first | omega | (first | exact ho | exact ho.1 | exact ho.2 | exact ho.2.1 | exact ho.2.2 | exact ho.2.2.1 | exact ho.2.2.2))
   replace rk := rk.st st23015 (fun k hk ho => by simp only [out, and_true] at ho ⊢ <;> first | omega | (first | exact ho | exact ho.1 | exact ho.2 | exact ho.2.1 | exact ho.2.2 | exact ho.2.2.1 | exact ho.2.2.2))
   replace at4 := st23015.same _ _ ⟨ne_g4_g12, trivial⟩ at4
   replace at_L6 := st23015.same _ _ ⟨ne_g23_g12, trivial⟩ at_L6
   replace at38 := st23015.same _ _ ⟨ne_g38_g12, trivial⟩ at38
   replace at_L10 := st23015.same _ _ ⟨ap2_2, trivial⟩ at_L10
   replace at_L11 := st23015.same _ _ ⟨ap2_4, trivial⟩ at_L11
   replace no_LI := no_LI.st st23015 ⟨ap2_5, trivial⟩
   replace no_LT := no_LT.st st23015 ⟨ap3_4, trivial⟩
   replace no_LC := no_LC.st st23015 ⟨ap3_5, trivial⟩
   have ne_g100_g12 : g100 ≠ g12 := by omega
   replace at100 := st23015.same _ _ ⟨ne_g100_g12, trivial⟩ at100
   have ne_g101_g12 : g101 ≠ g12 := by omega
   replace at101 := st23015.same _ _ ⟨ne_g101_g12, trivial⟩ at101
   have lt_at23015 := GHeap.lt_of_get at23015
   replace h := base_h.mono hle
   replace hx := base_hx.mono hle
   clear c0 c1 c2 c3 c4 i1 i2 i3 i4 hm hi
   obtain ⟨c0, c1, c2, c3, c4, i1, i2, i3, i4⟩ := h.get
   have hm : MemN _ _ _ _ _ := ⟨rfl, h.1⟩
   have hi := h.2
   clear mm10002
   have mm10002 : MemN _ _ _ _ _ := ⟨rfl, Mem.of_get at10002⟩
   try simp only [Nat.zero_add, List.set_cons_succ, List.set_cons_zero] at at23015
   refine .done ?_
   refine hK29 _ _ ?_
   refine .seq (fun K30 hK30 => ?_)
   refine .regionD mixed_orders_B (.q 0 (.q 1 (.q 2 (.q 3 (.q 4 (.q 5 (.q 6 (.q 7 (.q 8 (.q 9 (.q 10 (.q 11 (.c 12 1 (.c 13 0 (.q 14 (.c 15 0 (.done))))))))))))))))) (by kernel_rfl) ?_
   refine .m rfl rfl rfl rfl (.refl _) (.fieldAddr fo_27_2_B rfl) ?_
   refine .m rfl rfl rfl rfl (.refl _) (.load on_22_B rfl (by first | assumption | exact Mem.of_get at23015 2 _ rfl)) ?_
   refine .m rfl rfl rfl rfl (.refl _) (.move rfl) (.m rfl rfl rfl rfl (.refl _) (.move rfl) (.m rfl rfl rfl rfl (.refl _) (.nilCheck rfl) (.m rfl rfl rfl rfl (.refl _) (.fieldAddr fo_27_2_B rfl) ?_)))
   refine .m rfl rfl rfl rfl (.refl _) (.load on_22_B rfl (by assumption)) ?_
   refine .m rfl rfl rfl rfl (.refl _) (.move rfl) ?_
   refine .m rfl rfl rfl rfl (.refl _) (.idx1 sl_22_A (by assumption) rfl rfl (by omega) (by omega)) ?_
   refine .m rfl rfl rfl rfl (.refl _) (.loadI on_2_A (by assumption) rfl (by omega)) ?_
   refine .m rfl rfl rfl rfl (.refl _) (.idx1 sl_22_A (by first | assumption | exact SlA.of_row at_L11 (by first | rfl | (simp; done) | (simp <;> omega))) rfl rfl (by omega) (by omega)) ?_
   refine .m rfl rfl rfl rfl (.refl _) (.loadI on_2_A (by first | assumption | exact Ints.of_get at_L11) rfl (by omega)) ?_
   refine .c1 rfl rfl rfl rfl (.litR rfl sl_22_A ze_2_E rfl rfl (by omega) (by omega) rfl rfl) ?_
   rintro _ H115 ⟨g115, rfl, le115, ge115, at115⟩
   have hbl := le115
   refine ⟨hbl, ?_⟩
   have nx_H115 := le115.1
   replace hle := hle.trans le115
   replace lst1 := lst1.le le115
   replace lst3 := lst3.le le115
   replace rk := rk.le le115
   replace at4 := le115.2 _ _ at4
   replace at_L6 := le115.2 _ _ at_L6
   replace at38 := le115.2 _ _ at38
   replace at_L10 := le115.2 _ _ at_L10
   replace at_L11 := le115.2 _ _ at_L11
   replace no_LI := no_LI.le le115
   replace no_LT := no_LT.le le115
   replace no_LC := no_LC.le le115
   replace at100 := le115.2 _ _ at100
   replace at101 := le115.2 _ _ at101
   replace at23015 := le115.2 _ _ at23015
   have lt_at115 := GHeap.lt_of_get at115
   replace h := base_h.mono hle
   replace hx := base_hx.mono hle
   clear c0 c1 c2 c3 c4 i1 i2 i3 i4 hm hi
   obtain ⟨c0, c1, c2, c3, c4, i1, i2, i3, i4⟩ := h.get
   have hm : MemN _ _ _ _ _ := ⟨rfl, h.1⟩
   have hi := h.2
   clear mm10002
   have mm10002 : MemN _ _ _ _ _ := ⟨rfl, Mem.of_get at10002⟩
   refine .c0 rfl rfl rfl rfl (.appendNOI rfl sl_22_A ze_2_E rfl by_2_E sl_22_A rfl rfl no_LT (by assumption) (by first | omega | (simp <;> omega)) (by omega) (by omega)) ?_
   rintro _ H116 ⟨g116, rfl, st116, ge116, at116⟩
   have nx_H116 := st116.nx
   replace hle := hle.st st116 (fun k hk => ⟨by omega, trivial⟩)
   replace lst1 := lst1.st st116 (fun k hk ho => by simp only [out, and_true] at ho ⊢ <;> first | omega | (first | exact ho | exact ho.1 | exact ho.2 | exact ho.2.1 | exact ho.2.2 | exact ho.2.2.1 | exact ho.2.2.2 | exact pl_LT.ne (by first | omega | (first | exact ho | exact ho.1 | exact ho.2 | exact ho.2.1 | exact ho.2.2 | exact ho.2.2.1 | exact ho.2.2.2)) (by omega)))
   replace lst3 := lst3.st st116 (fun k hk ho => by simp only [out, and_true] at ho ⊢ <;> first | omega | (first | exact ho | exact ho.1 | exact ho.2 | exact ho.2.1 | exact ho.2.2 | exact ho.2.2.1 | exact ho.2.2.2 | exact pl_LT.ne (by first | omega | (first | exact ho | exact ho.1 | exact ho.2 | exact ho.2.1 | exact ho.2.2 | exact ho.2.2.1 | exact ho.2.2.2)) (by omega)))
   replace rk := rk.st st116 (fun k hk ho => by simp only [out, and_true] at ho ⊢ <;> first | omega | (first | exact ho | exact ho.1 | exact ho.2 | exact ho.2.1 | exact ho.2.2 | exact ho.2.2.1 | exact ho.2.2.2 | exact pl_LT.ne (by first | omega | (first | exact ho | exact ho.1 | exact ho.2 | exact ho.2.1 | exact ho.2.2 | exact ho.2.2.1 | exact ho.2.2.2)) (by omega)))
   have ne_g4_gLT : g4 ≠ gLT := pl_LT.ne ne_g4_ghT (by omega)
   replace at4 := st116.same _ _ ⟨ne_g4_gLT, trivial⟩ at4
   have ne_g23_gLT : g23 ≠ gLT := pl_LT.ne ne_g23_ghT (by omega)
   replace at_L6 := st116.same _ _ ⟨ne_g23_gLT, trivial⟩ at_L6
   have ne_g38_gLT : g38 ≠ gLT := pl_LT.ne ne_g38_ghT (by omega)
   replace at38 := st116.same _ _ ⟨ne_g38_gLT, trivial⟩ at38
   have ne_gL10_gLT : gL10 ≠ gLT := pl_LT.ne ne_gL10_ghT (by omega)
   replace at_L10 := st116.same _ _ ⟨ne_gL10_gLT, trivial⟩ at_L10
   have ne_g44_gLT : g44 ≠ gLT := pl_LT.ne ne_g44_ghT (by omega)
   replace at_L11 := st116.same _ _ ⟨ne_g44_gLT, trivial⟩ at_L11
   have ne_gLI_gLT : gLI ≠ gLT := pl_LT.ne ne_gLI_ghT (by omega)
   replace no_LI := no_LI.st st116 ⟨ne_gLI_gLT, trivial⟩
   replace no_LC := no_LC.st st116 ⟨(Ne.symm ap3_3), trivial⟩
   have ne_g100_gLT : g100 ≠ gLT := by omega
   replace at100 := st116.same _ _ ⟨ne_g100_gLT, trivial⟩ at100
   have ne_g101_gLT : g101 ≠ gLT := by omega
   replace at101 := st116.same _ _ ⟨ne_g101_gLT, trivial⟩ at101
   replace at23015 := st116.same _ _ ⟨(Ne.symm ap3_4), trivial⟩ at23015
   have ne_g115_gLT : g115 ≠ gLT := by omega
   replace at115 := st116.same _ _ ⟨ne_g115_gLT, trivial⟩ at115
   have lt_at116 := GHeap.lt_of_get at116
   replace h := base_h.mono hle
   replace hx := base_hx.mono hle
   clear c0 c1 c2 c3 c4 i1 i2 i3 i4 hm hi
   obtain ⟨c0, c1, c2, c3, c4, i1, i2, i3, i4⟩ := h.get
   have hm : MemN _ _ _ _ _ := ⟨rfl, h.1⟩
   have hi := h.2
   clear mm10002
   have mm10002 : MemN _ _ _ _ _ := ⟨rfl, Mem.of_get at10002⟩
   refine .m rfl rfl rfl rfl (.refl _) (.fieldAddr fo_27_2_B rfl) ?_
   refine .r0 rfl rfl rfl (.storeR rfl sz_22_E rfl rfl rfl (by assumption) (by first | exact Nat.le_of_ble_eq_true rfl | (simp; done) | (simp <;> omega))) ?_
   rintro _ H24015 ⟨rfl, st24015, at24015⟩
   have nx_H24015 := st24015.nx
   replace hle := hle.st st24015 (fun k hk => ⟨by omega, trivial⟩)
   replace lst1 := lst1.st st24015 (fun k hk ho => by simp only [out, and_true] at ho ⊢ <;> first | omega | (first | exact ho | exact ho.1 | exact ho.2 | exact ho.2.1 | exact ho.2.2 | exact ho.2.2.1 | exact ho.2.2.2))
   replace lst3 := lst3.st st24015 (fun k hk ho => by simp only [out, and_true] at ho ⊢ <;> first | omega | (first | exact ho | exact ho.1 | exact ho.2 | exact ho.2.1 | exact ho.2.2 | exact ho.2.2.1 | exact ho.2.2.2))
   replace rk := rk.st st24015 (fun k hk ho => by simp only [out, and_true] at ho ⊢ <;> first | omega | (first | exact ho | exact ho.1 | exact ho.2 | exact ho.2.1 | exact ho.2.2 | exact ho.2.2.1 | exact ho.2.2.2))
   replace at4 := st24015.same _ _ ⟨ne_g4_g12, trivial⟩ at4
   replace at_L6 := st24015.same _ _ ⟨ne_g23_g12, trivial⟩ at_L6
   replace at38 := st24015.same _ _ ⟨ne_g38_g12, trivial⟩ at38
   replace at_L10 := st24015.same _ _ ⟨ap2_2, trivial⟩ at_L10
   replace at_L11 := st24015.same _ _ ⟨ap2_4, trivial⟩ at_L11
   replace no_LI := no_LI.st st24015 ⟨ap2_5, trivial⟩
   replace no_LC := no_LC.st st24015 ⟨ap3_5, trivial⟩
   replace at100 := st24015.same _ _ ⟨ne_g100_g12, trivial⟩ at100
   replace at101 := st24015.same _ _ ⟨ne_g101_g12, trivial⟩ at101
   have ne_g115_g12 : g115 ≠ g12 := by omega
   replace at115 := st24015.same _ _ ⟨ne_g115_g12, trivial⟩ at115
   have ne_g116_g12 : g116 ≠ g12 := by omega
   replace at116 := st24015.same _ _ ⟨ne_g116_g12, trivial⟩ at116
   have lt_at24015 := GHeap.lt_of_get at24015
   replace h := base_h.mono hle
   replace hx := base_hx.mono hle
   clear c0 c1 c2 c3 c4 i1 i2 i3 i4 hm hi
   obtain ⟨c0, c1, c2, c3, c4, i1, i2, i3, i4⟩ := h.get
   have hm : MemN _ _ _ _ _ := ⟨rfl, h.1⟩
   have hi := h.2
   clear mm10002
   have mm10002 : MemN _ _ _ _ _ := ⟨rfl, Mem.of_get at10002⟩
   try simp only [Nat.zero_add, List.set_cons_succ, List.set_cons_zero] at at24015
   refine .done ?_
   refine hK30 _ _ ?_
   refine .seq (fun K31 hK31 => ?_)
   refine .region ?_
   refine .r rfl rfl rfl (.litR rfl sl_22_A ze_2_E rfl rfl (by omega) (by omega) rfl rfl) ?_
   rintro _ H118 ⟨g118, rfl, le118, ge118, at118⟩
   have nx_H118 := le118.1
   replace hle := hle.trans le118
   replace lst1 := lst1.le le118
   replace lst3 := lst3.le le118
   replace rk := rk.le le118
   replace at4 := le118.2 _ _ at4
   replace at_L6 := le118.2 _ _ at_L6
   replace at38 := le118.2 _ _ at38
   replace at_L10 := le118.2 _ _ at_L10
   replace at_L11 := le118.2 _ _ at_L11
   replace no_LI := no_LI.le le118
   replace no_LC := no_LC.le le118
   replace at100 := le118.2 _ _ at100
   replace at101 := le118.2 _ _ at101
   replace at115 := le118.2 _ _ at115
   replace at116 := le118.2 _ _ at116
   replace at24015 := le118.2 _ _ at24015
   have lt_at118 := GHeap.lt_of_get at118
   replace h := base_h.mono hle
   replace hx := base_hx.mono hle
   clear c0 c1 c2 c3 c4 i1 i2 i3 i4 hm hi
   obtain ⟨c0, c1, c2, c3, c4, i1, i2, i3, i4⟩ := h.get
   have hm : MemN _ _ _ _ _ := ⟨rfl, h.1⟩
   have hi := h.2
   clear mm10002
   have mm10002 : MemN _ _ _ _ _ := ⟨rfl, Mem.of_get at10002⟩
   replace at118 : GHeap.get H118 g118 = some (.row (ints []) 2 true) := at118
   refine .m rfl rfl rfl (.assign rfl) (.nil ?_)
   refine hK31 _ _ ?_
   refine .seq (fun K32 hK32 => ?_)
   refine .seq (fun K33 hK33 => ?_)
   refine .region (.m rfl rfl rfl (.move rfl) (.m rfl rfl rfl (.len sl_22_A rfl) (.m rfl rfl rfl (.move rfl) ?_)))
   refine .nil ?_
   refine hK33 _ _ ?_
   refine .block ?_
   refine .loopR (σ := Nat × Nat × Nat) [(0, some _), (1, some _), (4, some _), (6, some _), (10, some _), (11, some _), (12, some _), (16, some _), (82, some _), (83, some _), (84, some _), (119, some _), (120, some _)] (fun (j, gL17, nL17) => [(121, some (.int .i64 (j : Int))), (17, some (.slice (some ⟨gL17, 0, none⟩) nL17 nL17))]) (fun (j, gL17, nL17) H' => St [g118] H118 H' ∧ H'.get gL17 = some (.row (ints ((xs.take j).map fun g => idxL xs (c.th (xs.getD i 0) g))) 2 true) ∧ PL gL17 g118 H118.next ∧ nL17 = ((xs.take j).map fun g => idxL xs (c.th (xs.getD i 0) g)).length ∧ j ≤ xs.length) (fun (j, gL17, nL17) => xs.length - j) ((0, _, _)) ⟨rfl, rfl, rfl, rfl, rfl, rfl, rfl, rfl, rfl, rfl, rfl, rfl, rfl, trivial⟩ ⟨rfl, rfl, trivial⟩ ?_ ?_
   ·
    refine ⟨.refl _ _, by first | assumption | exact at118 | simpa using at118, ⟨.inl rfl⟩, by first | rfl | assumption | simp | omega, ?_⟩
    omega
   rintro ⟨j, gL17, nL17⟩ HL4 ⟨lst4, at_L17, pl_L17, ln_L17, hI⟩ KL4 hKL4
   refine .forget (fr' := [(121, some (.int .i64 (j : Int))), (17, some (.slice (some ⟨gL17, 0, none⟩) nL17 nL17)), (0, some _), (1, some _), (4, some _), (6, some _), (10, some _), (11, some _), (12, some _), (16, some _), (82, some _), (83, some _), (84, some _), (119, some _), (120, some _)]) ⟨rfl, rfl, rfl, rfl, rfl, rfl, rfl, rfl, rfl, rfl, rfl, rfl, rfl, rfl, rfl, trivial⟩ ?_
   have ge_L17 : H.next ≤ gL17 := pl_L17.ge (by omega) (by omega)
   have nx_HL4 := lst4.nx
   replace hle := hle.st lst4 (fun k hk => ⟨by omega, trivial⟩)
   replace lst1 := lst1.st lst4 (fun k hk ho => by simp only [out, and_true] at ho ⊢ <;> first | omega | (first | exact ho | exact ho.1 | exact ho.2 | exact ho.2.1 | exact ho.2.2 | exact ho.2.2.1 | exact ho.2.2.2))
   replace lst3 := lst3.st lst4 (fun k hk ho => by simp only [out, and_true] at ho ⊢ <;> first | omega | (first | exact ho | exact ho.1 | exact ho.2 | exact ho.2.1 | exact ho.2.2 | exact ho.2.2.1 | exact ho.2.2.2))
   replace rk := rk.st lst4 (fun k hk ho => by simp only [out, and_true] at ho ⊢ <;> first | omega | (first | exact ho | exact ho.1 | exact ho.2 | exact ho.2.1 | exact ho.2.2 | exact ho.2.2.1 | exact ho.2.2.2))
   have ne_g4_g118 : g4 ≠ g118 := by omega
   replace at4 := lst4.same _ _ ⟨ne_g4_g118, trivial⟩ at4
   have ne_g23_g118 : g23 ≠ g118 := by omega
   replace at_L6 := lst4.same _ _ ⟨ne_g23_g118, trivial⟩ at_L6
   have ne_g38_g118 : g38 ≠ g118 := by omega
   replace at38 := lst4.same _ _ ⟨ne_g38_g118, trivial⟩ at38
   have ne_gL10_g118 : gL10 ≠ g118 := by omega
   replace at_L10 := lst4.same _ _ ⟨ne_gL10_g118, trivial⟩ at_L10
   have ne_g44_g118 : g44 ≠ g118 := by omega
   replace at_L11 := lst4.same _ _ ⟨ne_g44_g118, trivial⟩ at_L11
   have ne_gLI_g118 : gLI ≠ g118 := by omega
   replace no_LI := no_LI.st lst4 ⟨ne_gLI_g118, trivial⟩
   have ne_gLC_g118 : gLC ≠ g118 := by omega
   replace no_LC := no_LC.st lst4 ⟨ne_gLC_g118, trivial⟩
   have ne_g100_g118 : g100 ≠ g118 := by omega
   replace at100 := lst4.same _ _ ⟨ne_g100_g118, trivial⟩ at100
   have ne_g101_g118 : g101 ≠ g118 := by omega
   replace at101 := lst4.same _ _ ⟨ne_g101_g118, trivial⟩ at101
   have ne_g115_g118 : g115 ≠ g118 := by omega
   replace at115 := lst4.same _ _ ⟨ne_g115_g118, trivial⟩ at115
   have ne_g116_g118 : g116 ≠ g118 := by omega
   replace at116 := lst4.same _ _ ⟨ne_g116_g118, trivial⟩ at116
   have ne_g12_g118 : g12 ≠ g118 := by omega
   replace at24015 := lst4.same _ _ ⟨ne_g12_g118, trivial⟩ at24015
   have lt_at_L17 := GHeap.lt_of_get at_L17
   replace h := base_h.mono hle
   replace hx := base_hx.mono hle
   clear c0 c1 c2 c3 c4 i1 i2 i3 i4 hm hi
   obtain ⟨c0, c1, c2, c3, c4, i1, i2, i3, i4⟩ := h.get
   have hm : MemN _ _ _ _ _ := ⟨rfl, h.1⟩
   have hi := h.2
   clear mm10002
   have mm10002 : MemN _ _ _ _ _ := ⟨rfl, Mem.of_get at10002⟩
   have b9 : ((xs.take j).map fun g => idxL xs (c.th (xs.getD i 0) g)).length = j := by simp; omega
   refine .seq (fun K34 hK34 => ?_)
   refine .region (.m rfl rfl rfl (.cmp rfl rfl rfl) (.nil ?_))
   refine hK34 _ _ ?_
   refine .seq (fun K35 hK35 => ?_)
   refine .cond rfl (fun h122 => ?_) (fun h122 => ?_)
   ·
    simp only [sps] at h122
    have hgm : xs.getD j 0 ∈ xs := getD_mem (by omega)
    have p0 := hC.lt (xs.getD j 0) hgm
    have p1 := hC.num hfm hgm hS
    refine .skip ?_
    refine hK35 _ _ ?_
    refine .seq (fun K36 hK36 => ?_)
    refine .block ?_
    refine .seq (fun K37 hK37 => ?_)
    refine .region ?_
    refine .m rfl rfl rfl (.idxN sl_22_A (by assumption) rfl rfl (by omega)) ?_
    refine .m rfl rfl rfl (.loadI on_2_A (by assumption) rfl (by omega)) ?_
    refine .m rfl rfl rfl (.assign rfl) (.nil ?_)
    refine hK37 _ _ ?_
    refine .seq (fun K38 hK38 => ?_)
    refine .region (.m rfl rfl rfl (.move rfl) (.m rfl rfl rfl (.move rfl) (.m rfl rfl rfl (.move rfl) ?_)))
    refine .callQ rfl rfl rfl rfl @Try.call65 rfl (then_s) ?_
    refine .m rfl rfl rfl (.assign rfl) (.nil ?_)
    refine hK38 _ _ ?_
    refine .seq (fun K39 hK39 => ?_)
    refine .seq (fun K40 hK40 => ?_)
    refine .region (.m rfl rfl rfl (.move rfl) (.m rfl rfl rfl (.cmp rfl rfl rfl) (.nil ?_)))
    refine hK40 _ _ ?_
    refine .cond rfl (fun h130 => ?_) (fun h130 => ?_)
    ·
     simp only [sps] at h130
     have hX := p1.1 h130
     refine .region (.m rfl rfl rfl (.move rfl) (.m rfl rfl rfl (.move rfl) ?_))
     refine .m rfl rfl rfl (.idx1 sl_22_A (by first | assumption | exact SlA.of_row at_L6 (by first | rfl | (simp; done) | (simp <;> omega))) rfl rfl (by omega) (by omega)) ?_
     refine .m rfl rfl rfl (.loadI on_2_A (by first | assumption | exact Ints.of_get at_L6) rfl (by omega)) ?_
     refine .m rfl rfl rfl (.assign rfl) (.nil ?_)
     refine hK39 _ _ ?_
     refine .region (.m rfl rfl rfl (.move rfl) (.m rfl rfl rfl (.move rfl) ?_))
     refine .r rfl rfl rfl (.litR rfl sl_22_A ze_2_E rfl rfl (by omega) (by omega) rfl rfl) ?_
     rintro _ H137 ⟨g137, rfl, le137, ge137, at137⟩
     have nx_H137 := le137.1
     replace hle := hle.trans le137
     replace lst1 := lst1.le le137
     replace lst3 := lst3.le le137
     replace rk := rk.le le137
     replace lst4 := lst4.le le137
     replace at4 := le137.2 _ _ at4
     replace at_L6 := le137.2 _ _ at_L6
     replace at38 := le137.2 _ _ at38
     replace at_L10 := le137.2 _ _ at_L10
     replace at_L11 := le137.2 _ _ at_L11
     replace no_LI := no_LI.le le137
     replace no_LC := no_LC.le le137
     replace at100 := le137.2 _ _ at100
     replace at101 := le137.2 _ _ at101
     replace at115 := le137.2 _ _ at115
     replace at116 := le137.2 _ _ at116
     replace at24015 := le137.2 _ _ at24015
     replace at_L17 := le137.2 _ _ at_L17
     have lt_at137 := GHeap.lt_of_get at137
     replace h := base_h.mono hle
     replace hx := base_hx.mono hle
     clear c0 c1 c2 c3 c4 i1 i2 i3 i4 hm hi
     obtain ⟨c0, c1, c2, c3, c4, i1, i2, i3, i4⟩ := h.get
     have hm : MemN _ _ _ _ _ := ⟨rfl, h.1⟩
     have hi := h.2
     clear mm10002
     have mm10002 : MemN _ _ _ _ _ := ⟨rfl, Mem.of_get at10002⟩
     refine .r rfl rfl rfl (.appendI rfl sl_22_A ze_2_E rfl by_2_E sl_22_A rfl rfl (by assumption) (by assumption) (by first | omega | (simp <;> omega)) (by omega) (by omega)) ?_
     rintro _ H138 ⟨g138, rfl, st138, ge138, at138⟩
     have nx_H138 := st138.nx
     replace hle := hle.st st138 (fun k hk => ⟨by omega, trivial⟩)
     replace lst1 := lst1.st st138 (fun k hk ho => by simp only [out, and_true] at ho ⊢ <;> first | omega | (first | exact ho | exact ho.1 | exact ho.2 | exact ho.2.1 | exact ho.2.2 | exact ho.2.2.1 | exact ho.2.2.2 | exact pl_L17.ne (by first | omega | (first | exact ho | exact ho.1 | exact ho.2 | exact ho.2.1 | exact ho.2.2 | exact ho.2.2.1 | exact ho.2.2.2)) (by omega)))
     replace lst3 := lst3.st st138 (fun k hk ho => by simp only [out, and_true] at ho ⊢ <;> first | omega | (first | exact ho | exact ho.1 | exact ho.2 | exact ho.2.1 | exact ho.2.2 | exact ho.2.2.1 | exact ho.2.2.2 | exact pl_L17.ne (by first | omega | (first | exact ho | exact ho.1 | exact ho.2 | exact ho.2.1 | exact ho.2.2 | exact ho.2.2.1 | exact ho.2.2.2)) (by omega)))
     replace rk := rk.st st138 (fun k hk ho => by simp only [out, and_true] at ho ⊢ <;> first | omega | (first | exact ho | exact ho.1 | exact ho.2 | exact ho.2.1 | exact ho.2.2 | exact ho.2.2.1 | exact ho.2.2.2 | exact pl_L17.ne (by first | omega | (first | exact ho | exact ho.1 | exact ho.2 | exact ho.2.1 | exact ho.2.2 | exact ho.2.2.1 | exact ho.2.2.2)) (by omega)))
     replace lst4 := lst4.st st138 (fun k hk ho => by simp only [out, and_true] at ho ⊢ <;> first | omega | (first | exact ho | exact ho.1 | exact ho.2 | exact ho.2.1 | exact ho.2.2 | exact ho.2.2.1 | exact ho.2.2.2 | exact pl_L17.ne (by first | omega | (first | exact ho | exact ho.1 | exact ho.2 | exact ho.2.1 | exact ho.2.2 | exact ho.2.2.1 | exact ho.2.2.2)) (by omega)))
     have ne_g4_gL17 : g4 ≠ gL17 := pl_L17.ne ne_g4_g118 (by omega)
     replace at4 := st138.same _ _ ⟨ne_g4_gL17, trivial⟩ at4
     have ne_g23_gL17 : g23 ≠ gL17 := pl_L17.ne ne_g23_g118 (by omega)
     replace at_L6 := st138.same _ _ ⟨ne_g23_gL17, trivial⟩ at_L6
     have ne_g38_gL17 : g38 ≠ gL17 := pl_L17.ne ne_g38_g118 (by omega)
     replace at38 := st138.same _ _ ⟨ne_g38_gL17, trivial⟩ at38
     have ne_gL10_gL17 : gL10 ≠ gL17 := pl_L17.ne ne_gL10_g118 (by omega)
     replace at_L10 := st138.same _ _ ⟨ne_gL10_gL17, trivial⟩ at_L10
     have ne_g44_gL17 : g44 ≠ gL17 := pl_L17.ne ne_g44_g118 (by omega)
     replace at_L11 := st138.same _ _ ⟨ne_g44_gL17, trivial⟩ at_L11
     have ne_gLI_gL17 : gLI ≠ gL17 := pl_L17.ne ne_gLI_g118 (by omega)
     replace no_LI := no_LI.st st138 ⟨ne_gLI_gL17, trivial⟩
     have ne_gLC_gL17 : gLC ≠ gL17 := pl_L17.ne ne_gLC_g118 (by omega)
     replace no_LC := no_LC.st st138 ⟨ne_gLC_gL17, trivial⟩
     have ne_g100_gL17 : g100 ≠ gL17 := pl_L17.ne ne_g100_g118 (by omega)
     replace at100 := st138.same _ _ ⟨ne_g100_gL17, trivial⟩ at100
     have ne_g101_gL17 : g101 ≠ gL17 := pl_L17.ne ne_g101_g118 (by omega)
     replace at101 := st138.same _ _ ⟨ne_g101_gL17, trivial⟩ at101
     have ne_g115_gL17 : g115 ≠ gL17 := pl_L17.ne ne_g115_g118 (by omega)
     replace at115 := st138.same _ _ ⟨ne_g115_gL17, trivial⟩ at115
     have ne_g116_gL17 : g116 ≠ gL17 := pl_L17.ne ne_g116_g118 (by omega)
     replace at116 := st138.same _ _ ⟨ne_g116_gL17, trivial⟩ at116
     have ne_g12_gL17 : g12 ≠ gL17 := pl_L17.ne ne_g12_g118 (by omega)
     replace at24015 := st138.same _ _ ⟨ne_g12_gL17, trivial⟩ at24015
     have ne_g137_gL17 : g137 ≠ gL17 := by omega
     replace at137 := st138.same _ _ ⟨ne_g137_gL17, trivial⟩ at137
     have lt_at138 := GHeap.lt_of_get at138
     replace h := base_h.mono hle
     replace hx := base_hx.mono hle
     clear c0 c1 c2 c3 c4 i1 i2 i3 i4 hm hi
     obtain ⟨c0, c1, c2, c3, c4, i1, i2, i3, i4⟩ := h.get
     have hm : MemN _ _ _ _ _ := ⟨rfl, h.1⟩
     have hi := h.2
     clear mm10002
     have mm10002 : MemN _ _ _ _ _ := ⟨rfl, Mem.of_get at10002⟩
     refine .m rfl rfl rfl (.assign rfl) (.nil ?_)
     refine hK36 _ _ ?_
     refine .region ?_
     refine .m rfl rfl rfl (.add rfl rfl rfl (by omega) (by omega)) ?_
     refine .m rfl rfl rfl (.move rfl) (.nil ?_)
     refine hKL4 ((j + 1, _, _)) _ _ ?_ ?_ ⟨rfl, rfl, rfl, rfl, rfl, rfl, rfl, rfl, rfl, rfl, rfl, rfl, rfl, rfl, rfl, trivial⟩
     ·
      refine ⟨lst4, by first | assumption | (rw [take_map_snoc (d := 0) (by omega), ← hX]; assumption), by first | assumption | exact ⟨.inr (by omega)⟩ | exact ⟨.inl rfl⟩, by first | omega | (simp only [List.length_append, List.length_cons, List.length_nil] <;> omega) | (rw [take_map_snoc (d := 0) (by omega), ← hX] <;> (first | omega | (simp only [List.length_append, List.length_cons, List.length_nil] <;> omega))), ?_⟩
      omega
     (dsimp only; omega)
    simp only [sps] at h130
    have hX := p1.2.1 (by omega)
    refine .skip ?_
    refine hK39 _ _ ?_
    refine .region (.m rfl rfl rfl (.move rfl) (.m rfl rfl rfl (.move rfl) ?_))
    refine .r rfl rfl rfl (.litR rfl sl_22_A ze_2_E rfl rfl (by omega) (by omega) rfl rfl) ?_
    rintro _ H137x2 ⟨g137x2, rfl, le137x2, ge137x2, at137x2⟩
    have nx_H137x2 := le137x2.1
    replace hle := hle.trans le137x2
    replace lst1 := lst1.le le137x2
    replace lst3 := lst3.le le137x2
    replace rk := rk.le le137x2
    replace lst4 := lst4.le le137x2
    replace at4 := le137x2.2 _ _ at4
    replace at_L6 := le137x2.2 _ _ at_L6
    replace at38 := le137x2.2 _ _ at38
    replace at_L10 := le137x2.2 _ _ at_L10
    replace at_L11 := le137x2.2 _ _ at_L11
    replace no_LI := no_LI.le le137x2
    replace no_LC := no_LC.le le137x2
    replace at100 := le137x2.2 _ _ at100
    replace at101 := le137x2.2 _ _ at101
    replace at115 := le137x2.2 _ _ at115
    replace at116 := le137x2.2 _ _ at116
    replace at24015 := le137x2.2 _ _ at24015
    replace at_L17 := le137x2.2 _ _ at_L17
    have lt_at137x2 := GHeap.lt_of_get at137x2
    replace h := base_h.mono hle
    replace hx := base_hx.mono hle
    clear c0 c1 c2 c3 c4 i1 i2 i3 i4 hm hi
    obtain ⟨c0, c1, c2, c3, c4, i1, i2, i3, i4⟩ := h.get
    have hm : MemN _ _ _ _ _ := ⟨rfl, h.1⟩
    have hi := h.2
    clear mm10002
    have mm10002 : MemN _ _ _ _ _ := ⟨rfl, Mem.of_get at10002⟩
    refine .r rfl rfl rfl (.appendI rfl sl_22_A ze_2_E rfl by_2_E sl_22_A rfl rfl (by assumption) (by assumption) (by first | omega | (simp <;> omega)) (by omega) (by omega)) ?_
    rintro _ H138x2 ⟨g138x2, rfl, st138x2, ge138x2, at138x2⟩
    have nx_H138x2 := st138x2.nx
    replace hle := hle.st st138x2 (fun k hk => ⟨by omega, trivial⟩)
    replace lst1 := lst1.st st138x2 (fun k hk ho => by simp only [out, and_true] at ho ⊢ <;> first | omega | (first | exact ho | exact ho.1 | exact ho.2 | exact ho.2.1 | exact ho.2.2 | exact ho.2.2.1 | exact ho.2.2.2 | exact pl_L17.ne (by first | omega | (first | exact ho | exact ho.1 | exact ho.2 | exact ho.2.1 | exact ho.2.2 | exact ho.2.2.1 | exact ho.2.2.2)) (by omega)))
    replace lst3 := lst3.st st138x2 (fun k hk ho => by simp only [out, and_true] at ho ⊢ <;> first | omega | (first | exact ho | exact ho.1 | exact ho.2 | exact ho.2.1 | exact ho.2.2 | exact ho.2.2.1 | exact ho.2.2.2 | exact pl_L17.ne (by first | omega | (first | exact ho | exact ho.1 | exact ho.2 | exact ho.2.1 | exact ho.2.2 | exact ho.2.2.1 | exact ho.2.2.2)) (by omega)))
    replace rk := rk.st st138x2 (fun k hk ho => by simp only [out, and_true] at ho ⊢ <;> first | omega | (first | exact ho | exact ho.1 | exact ho.2 | exact ho.2.1 | exact ho.2.2 | exact ho.2.2.1 | exact ho.2.2.2 | exact pl_L17.ne (by first | omega | (first | exact ho | exact ho.1 | exact ho.2 | exact ho.2.1 | exact ho.2.2 | exact ho.2.2.1 | exact ho.2.2.2)) (by omega)))
    replace lst4 := lst4.st st138x2 (fun k hk ho => by simp only [out, and_true] at ho ⊢ <;> first | omega | (first | exact ho | exact ho.1 | exact ho.2 | exact ho.2.1 | exact ho.2.2 | exact ho.2.2.1 | exact ho.2.2.2 | exact pl_L17.ne (by first | omega | (first | exact ho | exact ho.1 | exact ho.2 | exact ho.2.1 | exact ho.2.2 | exact ho.2.2.1 | exact ho.2.2.2)) (by omega)))
    have ne_g4_gL17 : g4 ≠ gL17 := pl_L17.ne ne_g4_g118 (by omega)
    replace at4 := st138x2.same _ _ ⟨ne_g4_gL17, trivial⟩ at4
    have ne_g23_gL17 : g23 ≠ gL17 := pl_L17.ne ne_g23_g118 (by omega)
    replace at_L6 := st138x2.same _ _ ⟨ne_g23_gL17, trivial⟩ at_L6
    have ne_g38_gL17 : g38 ≠ gL17 := pl_L17.ne ne_g38_g118 (by omega)
    replace at38 := st138x2.same _ _ ⟨ne_g38_gL17, trivial⟩ at38
    have ne_gL10_gL17 : gL10 ≠ gL17 := pl_L17.ne ne_gL10_g118 (by omega)
    replace at_L10 := st138x2.same _ _ ⟨ne_gL10_gL17, trivial⟩ at_L10
    have ne_g44_gL17 : g44 ≠ gL17 := pl_L17.ne ne_g44_g118 (by omega)
    replace at_L11 := st138x2.same _ _ ⟨ne_g44_gL17, trivial⟩ at_L11
    have ne_gLI_gL17 : gLI ≠ gL17 := pl_L17.ne ne_gLI_g118 (by omega)
    replace no_LI := no_LI.st st138x2 ⟨ne_gLI_gL17, trivial⟩
    have ne_gLC_gL17 : gLC ≠ gL17 := pl_L17.ne ne_gLC_g118 (by omega)
    replace no_LC := no_LC.st st138x2 ⟨ne_gLC_gL17, trivial⟩
    have ne_g100_gL17 : g100 ≠ gL17 := pl_L17.ne ne_g100_g118 (by omega)
    replace at100 := st138x2.same _ _ ⟨ne_g100_gL17, trivial⟩ at100
    have ne_g101_gL17 : g101 ≠ gL17 := pl_L17.ne ne_g101_g118 (by omega)
    replace at101 := st138x2.same _ _ ⟨ne_g101_gL17, trivial⟩ at101
    have ne_g115_gL17 : g115 ≠ gL17 := pl_L17.ne ne_g115_g118 (by omega)
    replace at115 := st138x2.same _ _ ⟨ne_g115_gL17, trivial⟩ at115
    have ne_g116_gL17 : g116 ≠ gL17 := pl_L17.ne ne_g116_g118 (by omega)
    replace at116 := st138x2.same _ _ ⟨ne_g116_gL17, trivial⟩ at116
    have ne_g12_gL17 : g12 ≠ gL17 := pl_L17.ne ne_g12_g118 (by omega)
    replace at24015 := st138x2.same _ _ ⟨ne_g12_gL17, trivial⟩ at24015
    have ne_g137x2_gL17 : g137x2 ≠ gL17 := by omega
    replace at137x2 := st138x2.same _ _ ⟨ne_g137x2_gL17, trivial⟩ at137x2
    have lt_at138x2 := GHeap.lt_of_get at138x2
    replace h := base_h.mono hle
    replace hx := base_hx.mono hle
    clear c0 c1 c2 c3 c4 i1 i2 i3 i4 hm hi
    obtain ⟨c0, c1, c2, c3, c4, i1, i2, i3, i4⟩ := h.get
    have hm : MemN _ _ _ _ _ := ⟨rfl, h.1⟩
    have hi := h.2
    clear mm10002
    have mm10002 : MemN _ _ _ _ _ := ⟨rfl, Mem.of_get at10002⟩
    refine .m rfl rfl rfl (.assign rfl) (.nil ?_)
    refine hK36 _ _ ?_
    refine .region ?_
    refine .m rfl rfl rfl (.add rfl rfl rfl (by omega) (by omega)) ?_
    refine .m rfl rfl rfl (.move rfl) (.nil ?_)
    refine hKL4 ((j + 1, _, _)) _ _ ?_ ?_ ⟨rfl, rfl, rfl, rfl, rfl, rfl, rfl, rfl, rfl, rfl, rfl, rfl, rfl, rfl, rfl, trivial⟩
    ·
     refine ⟨lst4, by first | assumption | (rw [take_map_snoc (d := 0) (by omega), ← hX]; assumption), by first | assumption | exact ⟨.inr (by omega)⟩ | exact ⟨.inl rfl⟩, by first | omega | (simp only [List.length_append, List.length_cons, List.length_nil] <;> omega) | (rw [take_map_snoc (d := 0) (by omega), ← hX] <;> (first | omega | (simp only [List.length_append, List.length_cons, List.length_nil] <;> omega))), ?_⟩
     omega
    (dsimp only; omega)
   try simp only [sps] at h122
   refine .exit ?_
   refine hK32 _ _ ?_
   refine .region ?_
   obtain rfl : j = xs.length := by omega
   have hrl : (c.partR xs (xs.getD i 0)).length = nL17 := by rw [ln_L17]; simp [Cat.partR]
   refine .m rfl rfl rfl (.fieldAddr fo_27_4_B rfl) ?_
   refine .m rfl rfl rfl (.load on_23_B rfl (by first | assumption | exact Mem.of_get at24015 4 _ rfl)) ?_
   refine .m rfl rfl rfl (.move rfl) ?_
   refine .r rfl rfl rfl (.litR rfl sl_23_B ze_22_E rfl rfl (by omega) (by omega) rfl rfl) ?_
   rintro _ H143 ⟨g143, rfl, le143, ge143, at143⟩
   have nx_H143 := le143.1
   replace hle := hle.trans le143
   replace lst1 := lst1.le le143
   replace lst3 := lst3.le le143
   replace rk := rk.le le143
   replace at4 := le143.2 _ _ at4
   replace at_L6 := le143.2 _ _ at_L6
   replace at38 := le143.2 _ _ at38
   replace at_L10 := le143.2 _ _ at_L10
   replace at_L11 := le143.2 _ _ at_L11
   replace no_LI := no_LI.le le143
   replace no_LC := no_LC.le le143
   replace at100 := le143.2 _ _ at100
   replace at101 := le143.2 _ _ at101
   replace at115 := le143.2 _ _ at115
   replace at116 := le143.2 _ _ at116
   replace at24015 := le143.2 _ _ at24015
   replace at_L17 := le143.2 _ _ at_L17
   have lt_at143 := GHeap.lt_of_get at143
   replace h := base_h.mono hle
   replace hx := base_hx.mono hle
   clear c0 c1 c2 c3 c4 i1 i2 i3 i4 hm hi
   obtain ⟨c0, c1, c2, c3, c4, i1, i2, i3, i4⟩ := h.get
   have hm : MemN _ _ _ _ _ := ⟨rfl, h.1⟩
   have hi := h.2
   clear mm10002
   have mm10002 : MemN _ _ _ _ _ := ⟨rfl, Mem.of_get at10002⟩
   refine .r rfl rfl rfl (.appendNO rfl sl_23_B ze_22_E rfl by_22_E sl_23_B rfl rfl no_LC (by assumption) (by first | omega | (simp <;> omega)) rfl rfl (by omega) (by omega)) ?_
   rintro _ H144 ⟨g144, rfl, st144, ge144, at144⟩
   have nx_H144 := st144.nx
   replace hle := hle.st st144 (fun k hk => ⟨by omega, trivial⟩)
   replace lst1 := lst1.st st144 (fun k hk ho => by simp only [out, and_true] at ho ⊢ <;> first | omega | (first | exact ho | exact ho.1 | exact ho.2 | exact ho.2.1 | exact ho.2.2 | exact ho.2.2.1 | exact ho.2.2.2 | exact pl_LC.ne (by first | omega | (first | exact ho | exact ho.1 | exact ho.2 | exact ho.2.1 | exact ho.2.2 | exact ho.2.2.1 | exact ho.2.2.2)) (by omega)))
   replace lst3 := lst3.st st144 (fun k hk ho => by simp only [out, and_true] at ho ⊢ <;> first | omega | (first | exact ho | exact ho.1 | exact ho.2 | exact ho.2.1 | exact ho.2.2 | exact ho.2.2.1 | exact ho.2.2.2 | exact pl_LC.ne (by first | omega | (first | exact ho | exact ho.1 | exact ho.2 | exact ho.2.1 | exact ho.2.2 | exact ho.2.2.1 | exact ho.2.2.2)) (by omega)))
   replace rk := rk.st st144 (fun k hk ho => by simp only [out, and_true] at ho ⊢ <;> first | omega | (first | exact ho | exact ho.1 | exact ho.2 | exact ho.2.1 | exact ho.2.2 | exact ho.2.2.1 | exact ho.2.2.2 | exact pl_LC.ne (by first | omega | (first | exact ho | exact ho.1 | exact ho.2 | exact ho.2.1 | exact ho.2.2 | exact ho.2.2.1 | exact ho.2.2.2)) (by omega)))
   have ne_g4_gLC : g4 ≠ gLC := pl_LC.ne ne_g4_ghC (by omega)
   replace at4 := st144.same _ _ ⟨ne_g4_gLC, trivial⟩ at4
   have ne_g23_gLC : g23 ≠ gLC := pl_LC.ne ne_g23_ghC (by omega)
   replace at_L6 := st144.same _ _ ⟨ne_g23_gLC, trivial⟩ at_L6
   have ne_g38_gLC : g38 ≠ gLC := pl_LC.ne ne_g38_ghC (by omega)
   replace at38 := st144.same _ _ ⟨ne_g38_gLC, trivial⟩ at38
   have ne_gL10_gLC : gL10 ≠ gLC := pl_LC.ne ne_gL10_ghC (by omega)
   replace at_L10 := st144.same _ _ ⟨ne_gL10_gLC, trivial⟩ at_L10
   have ne_g44_gLC : g44 ≠ gLC := pl_LC.ne ne_g44_ghC (by omega)
   replace at_L11 := st144.same _ _ ⟨ne_g44_gLC, trivial⟩ at_L11
   have ne_gLI_gLC : gLI ≠ gLC := pl_LC.ne ne_gLI_ghC (by omega)
   replace no_LI := no_LI.st st144 ⟨ne_gLI_gLC, trivial⟩
   have ne_g100_gLC : g100 ≠ gLC := by omega
   replace at100 := st144.same _ _ ⟨ne_g100_gLC, trivial⟩ at100
   have ne_g101_gLC : g101 ≠ gLC := by omega
   replace at101 := st144.same _ _ ⟨ne_g101_gLC, trivial⟩ at101
   have ne_g115_gLC : g115 ≠ gLC := by omega
   replace at115 := st144.same _ _ ⟨ne_g115_gLC, trivial⟩ at115
   have ne_g116_gLC : g116 ≠ gLC := by omega
   replace at116 := st144.same _ _ ⟨ne_g116_gLC, trivial⟩ at116
   replace at24015 := st144.same _ _ ⟨(Ne.symm ap3_5), trivial⟩ at24015
   have ne_gLC_gL17 : gLC ≠ gL17 := pl_L17.ne ne_gLC_g118 (by omega)
   replace at_L17 := st144.same _ _ ⟨(Ne.symm ne_gLC_gL17), trivial⟩ at_L17
   have ne_g143_gLC : g143 ≠ gLC := by omega
   replace at143 := st144.same _ _ ⟨ne_g143_gLC, trivial⟩ at143
   have lt_at144 := GHeap.lt_of_get at144
   replace h := base_h.mono hle
   replace hx := base_hx.mono hle
   clear c0 c1 c2 c3 c4 i1 i2 i3 i4 hm hi
   obtain ⟨c0, c1, c2, c3, c4, i1, i2, i3, i4⟩ := h.get
   have hm : MemN _ _ _ _ _ := ⟨rfl, h.1⟩
   have hi := h.2
   clear mm10002
   have mm10002 : MemN _ _ _ _ _ := ⟨rfl, Mem.of_get at10002⟩
   refine .m rfl rfl rfl (.fieldAddr fo_27_4_B rfl) ?_
   refine .r0 rfl rfl (.storeR rfl sz_23_E rfl rfl rfl (by assumption) (by first | exact Nat.le_of_ble_eq_true rfl | (simp; done) | (simp <;> omega))) ?_
   rintro _ H34006 ⟨rfl, st34006, at34006⟩
   have nx_H34006 := st34006.nx
   replace hle := hle.st st34006 (fun k hk => ⟨by omega, trivial⟩)
   replace lst1 := lst1.st st34006 (fun k hk ho => by simp only [out, and_true] at ho ⊢ <;> first | omega | (first | exact ho | exact ho.1 | exact ho.2 | exact ho.2.1 | exact ho.2.2 | exact ho.2.2.1 | exact ho.2.2.2))
   replace lst3 := lst3.st st34006 (fun k hk ho => by simp only [out, and_true] at ho ⊢ <;> first | omega | (first | exact ho | exact ho.1 | exact ho.2 | exact ho.2.1 | exact ho.2.2 | exact ho.2.2.1 | exact ho.2.2.2))
   replace rk := rk.st st34006 (fun k hk ho => by simp only [out, and_true] at ho ⊢ <;> first | omega | (first | exact ho | exact ho.1 | exact ho.2 | exact ho.2.1 | exact ho.2.2 | exact ho.2.2.1 | exact ho.2.2.2))
   replace at4 := st34006.same _ _ ⟨ne_g4_g12, trivial⟩ at4
   replace at_L6 := st34006.same _ _ ⟨ne_g23_g12, trivial⟩ at_L6
   replace at38 := st34006.same _ _ ⟨ne_g38_g12, trivial⟩ at38
   replace at_L10 := st34006.same _ _ ⟨ap2_2, trivial⟩ at_L10
   replace at_L11 := st34006.same _ _ ⟨ap2_4, trivial⟩ at_L11
   replace no_LI := no_LI.st st34006 ⟨ap2_5, trivial⟩
   replace at100 := st34006.same _ _ ⟨ne_g100_g12, trivial⟩ at100
   replace at101 := st34006.same _ _ ⟨ne_g101_g12, trivial⟩ at101
   replace at115 := st34006.same _ _ ⟨ne_g115_g12, trivial⟩ at115
   replace at116 := st34006.same _ _ ⟨ne_g116_g12, trivial⟩ at116
   have ne_g12_gL17 : g12 ≠ gL17 := pl_L17.ne ne_g12_g118 (by omega)
   replace at_L17 := st34006.same _ _ ⟨(Ne.symm ne_g12_gL17), trivial⟩ at_L17
   have ne_g143_g12 : g143 ≠ g12 := by omega
   replace at143 := st34006.same _ _ ⟨ne_g143_g12, trivial⟩ at143
   have ne_g144_g12 : g144 ≠ g12 := by omega
   replace at144 := st34006.same _ _ ⟨ne_g144_g12, trivial⟩ at144
   have lt_at34006 := GHeap.lt_of_get at34006
   replace h := base_h.mono hle
   replace hx := base_hx.mono hle
   clear c0 c1 c2 c3 c4 i1 i2 i3 i4 hm hi
   obtain ⟨c0, c1, c2, c3, c4, i1, i2, i3, i4⟩ := h.get
   have hm : MemN _ _ _ _ _ := ⟨rfl, h.1⟩
   have hi := h.2
   clear mm10002
   have mm10002 : MemN _ _ _ _ _ := ⟨rfl, Mem.of_get at10002⟩
   try simp only [Nat.zero_add, List.set_cons_succ, List.set_cons_zero] at at34006
   refine .nil ?_
   refine hK27 _ _ ?_
   refine .region ?_
   refine .m rfl rfl rfl (.add rfl rfl rfl (by omega) (by omega)) ?_
   refine .m rfl rfl rfl (.move rfl) (.nil ?_)
   refine hKL3 ((i + 1, upd rr (c.partL xs i).length (some ⟨gL17, 0, none⟩), g101, g116, g144)) _ _ ?_ ?_ ⟨rfl, rfl, rfl, rfl, rfl, rfl, rfl, rfl, rfl, rfl, trivial⟩
   ·
    refine ⟨lst3, by first | (first | assumption | (rw [take_map_snoc (d := 0) (by omega), ← hP1]; assumption) | (rw [take_map_snoc (d := 0) (by omega), ← hP2]; assumption) | (rw [Cat.partL_succ (by omega), slsL_snoc, hrl]; assumption)) | exact NO.of (by first | assumption | (rw [take_map_snoc (d := 0) (by omega), ← hP1]; assumption) | (rw [take_map_snoc (d := 0) (by omega), ← hP2]; assumption) | (rw [Cat.partL_succ (by omega), slsL_snoc, hrl]; assumption)) (by omega), by first | assumption | exact ⟨.inr (by omega)⟩ | exact ⟨.inl rfl⟩, by first | (first | assumption | (rw [take_map_snoc (d := 0) (by omega), ← hP1]; assumption) | (rw [take_map_snoc (d := 0) (by omega), ← hP2]; assumption) | (rw [Cat.partL_succ (by omega), slsL_snoc, hrl]; assumption)) | exact NO.of (by first | assumption | (rw [take_map_snoc (d := 0) (by omega), ← hP1]; assumption) | (rw [take_map_snoc (d := 0) (by omega), ← hP2]; assumption) | (rw [Cat.partL_succ (by omega), slsL_snoc, hrl]; assumption)) (by omega), by first | assumption | exact ⟨.inr (by omega)⟩ | exact ⟨.inl rfl⟩, by first | (first | assumption | (rw [take_map_snoc (d := 0) (by omega), ← hP1]; assumption) | (rw [take_map_snoc (d := 0) (by omega), ← hP2]; assumption) | (rw [Cat.partL_succ (by omega), slsL_snoc, hrl]; assumption)) | exact NO.of (by first | assumption | (rw [take_map_snoc (d := 0) (by omega), ← hP1]; assumption) | (rw [take_map_snoc (d := 0) (by omega), ← hP2]; assumption) | (rw [Cat.partL_succ (by omega), slsL_snoc, hrl]; assumption)) (by omega), by first | assumption | exact ⟨.inr (by omega)⟩ | exact ⟨.inl rfl⟩, by first | assumption | (rw [take_map_snoc (d := 0) (by omega), ← hP1]; assumption) | (rw [take_map_snoc (d := 0) (by omega), ← hP2]; assumption) | (rw [Cat.partL_succ (by omega), slsL_snoc, hrl]; assumption), by first | assumption | omega, by first | assumption | omega, by first | assumption | omega, by first | assumption | omega, by first | assumption | omega, by first | assumption | omega, ?_⟩
    have hR' := hR.st rk (.cons hF (.cons hT (.cons (hR.neNO hatC hql.symm rfl) (.cons (hR.neT hat12 rfl) (.nil _ _)))))
    have hn1 := hR.ne (g := gL17) (pl_L17.ge (by omega) (by omega))
    have hn2 := hR.ne (g := g101) (by omega)
    have hn3 := hR.ne (g := g116) (by omega)
    have hx1 : g101 ≠ gL17 := pl_L17.ne (by omega) (by omega)
    have hx3 : gLI ≠ gL17 := pl_L17.ne (by omega) (by omega)
    have hx2 : g116 ≠ gL17 := pl_L17.ne (by omega) (by omega)
    have hrow := at_L17
    rw [List.take_length] at hrow
    rw [Cat.partL_succ (by omega)]
    exact ⟨by omega, hR'.snoc2 hrow hn1 (by omega), ne_snoc hn2 (by omega), ne_snoc hn3 (by omega), ne_snoc hId (by omega)⟩
   (dsimp only; omega)
  try simp only [sps] at h85
  refine .exit ?_
  refine hK23 _ _ ?_
  refine .seq (fun K41 hK41 => ?_)
  refine .region ?_
  refine .m rfl rfl rfl (.loadM ag_27_D rfl ⟨rfl, Mem.of_get at_Lg12⟩) ?_
  refine .m rfl rfl rfl (.move rfl) ?_
  have hat4 := at4
  refine .r0 rfl rfl (.fillR rfl sz_27_D rfl rfl rfl rfl (by assumption) (by first | rfl | exact Nat.le_of_ble_eq_true rfl | simp)) ?_
  rintro _ H36002 ⟨rfl, st36002, at36002⟩
  have nx_H36002 := st36002.nx
  replace hle := hle.st st36002 (fun k hk => ⟨by omega, trivial⟩)
  replace at_L6 := st36002.same _ _ ⟨(Ne.symm ne_g4_g23), trivial⟩ at_L6
  have ne_g38_g4 : g38 ≠ g4 := by omega
  replace at38 := st36002.same _ _ ⟨ne_g38_g4, trivial⟩ at38
  have ne_g4_gL10 : g4 ≠ gL10 := pl_L10.ne ne_g4_g39 (by omega)
  replace at_L10 := st36002.same _ _ ⟨(Ne.symm ne_g4_gL10), trivial⟩ at_L10
  replace at_L11 := st36002.same _ _ ⟨(Ne.symm ne_g4_g44), trivial⟩ at_L11
  have ne_g4_gLI : g4 ≠ gLI := pl_LI.ne ne_g4_ghI (by omega)
  replace no_LI := no_LI.st st36002 ⟨(Ne.symm ne_g4_gLI), trivial⟩
  have ne_g4_gLF : g4 ≠ gLF := pl_LF.ne ne_g4_ghF (by omega)
  replace no_LF := no_LF.st st36002 ⟨(Ne.symm ne_g4_gLF), trivial⟩
  have ne_g4_gLT : g4 ≠ gLT := pl_LT.ne ne_g4_ghT (by omega)
  replace no_LT := no_LT.st st36002 ⟨(Ne.symm ne_g4_gLT), trivial⟩
  have ne_g4_gLC : g4 ≠ gLC := pl_LC.ne ne_g4_ghC (by omega)
  replace no_LC := no_LC.st st36002 ⟨(Ne.symm ne_g4_gLC), trivial⟩
  replace at_Lg12 := st36002.same _ _ ⟨(Ne.symm ne_g4_g12), trivial⟩ at_Lg12
  have lt_at36002 := GHeap.lt_of_get at36002
  replace h := base_h.mono hle
  replace hx := base_hx.mono hle
  clear c0 c1 c2 c3 c4 i1 i2 i3 i4 hm hi
  obtain ⟨c0, c1, c2, c3, c4, i1, i2, i3, i4⟩ := h.get
  have hm : MemN _ _ _ _ _ := ⟨rfl, h.1⟩
  have hi := h.2
  clear mm10002
  have mm10002 : MemN _ _ _ _ _ := ⟨rfl, Mem.of_get at10002⟩
  have mm36002 : MemN _ _ _ _ _ := ⟨rfl, Mem.of_get at36002⟩
  refine .m rfl rfl rfl (.assign rfl) (.nil ?_)
  refine hK41 _ _ ?_
  refine .ret ?_
  refine hret _ _ ?_
  refine ⟨_, _, _, _, _, rfl, ag_27_D, (by rfl), (Mem.of_get at36002), rfl, ?_⟩
  obtain rfl : i = xs.length := by omega
  rw [List.take_length] at no_LF no_LT
  have hpi : c.partI xs x = (c.part xs).idn := by rw [← hn2]; rfl
  rw [hpi] at no_LI
  rw [Cat.partL_all] at no_LC hR hF hT hId
  have hx4 : gLI ≠ gLF := pl_LF.ne (by omega) (by omega)
  have hx5 : gLI ≠ gLT := pl_LT.ne (by omega) (by omega)
  refine ⟨hle, ⟨nz xs.length gLF, nz xs.length gLT, nz (c.partO xs).length gLI, nz xs.length gLC, rr⟩, gL10, by simp [Cat.cells, Cat.part], ?_, at_L10, by omega⟩
  exact .mk (no_LF.isR (by simp) (by omega)) (no_LT.isR (by simp) (by omega)) (no_LI.isR (by simp [Cat.part]) (by omega)) ((hR.st st36002 (.cons (hR.neT hat4 rfl) (.nil _ _))).doneNO no_LC (by simp [Cat.part]) (by omega)) (nz_or _ _) (nz_or _ _) (nz_or _ _) (by omega) (by omega) (by omega) (fun i hi => ⟨hF i hi, hT i hi, hId i hi⟩)
end Go.Proofs.Ytgnfekfdmgnhcaa
/- Skeletons. No condition but those of each statement. -/
namespace Go.Proofs.Ytgnfekfdmgnhcaa
open Go Go.GL Go.RowKit Go.Proofs
theorem l11Part_c {c : Cat} {p : CatP} {H : GHeap} (hin : c.In H p := by assumption) (hS : c.Shape) :
    GCalls Try.prog 47 [.agg (c.cells p).toArray] H (NewCatR H (c.part (c.among c.skO))) := by
  have b1 := hS.obj
  have b2 := filtN_le c.obj.toNat c.skB
  have b3 : c.skO.length ≤ 8 := by unfold Cat.skO; omega
  refine GCalls.body (N := 9) (rs := [.cell 2 27]) Try.func47 rfl rfl rfl rfl (fun Qx hret hend => ?_)
  refine .forget (fr' := [(0, some _)]) ⟨rfl, trivial⟩ ?_
  have hle := GHeap.Le.refl H
  have base_hin := hin
  refine .seq (fun K1 hK1 => ?_)
  refine .region ?_
  refine .r rfl rfl rfl (.boxR rfl sz_27_D rfl) ?_
  rintro _ H1 ⟨g1, rfl, le1, ge1, at1⟩
  have nx_H1 := le1.1
  replace hle := hle.trans le1
  have lt_at1 := GHeap.lt_of_get at1
  replace hin := base_hin.mono hle
  have hb1 : Cat.At _ g1 0 c p := ⟨Mem.of_get at1, hin⟩
  obtain ⟨c01, c11, c21, c31, c41, i11, i21, i31, i41⟩ := hb1.get
  have hm1 : MemN _ _ _ _ _ := ⟨rfl, hb1.1⟩
  have hi1 := hb1.2
  refine .r rfl rfl rfl (.allocR rfl ze_27_E rfl) ?_
  rintro _ H2 ⟨g2, rfl, le2, ge2, at2⟩
  have nx_H2 := le2.1
  replace hle := hle.trans le2
  replace at1 := le2.2 _ _ at1
  have lt_at2 := GHeap.lt_of_get at2
  replace hin := base_hin.mono hle
  clear hb1 c01 c11 c21 c31 c41 i11 i21 i31 i41 hm1 hi1
  have hb1 : Cat.At _ g1 0 c p := ⟨Mem.of_get at1, hin⟩
  obtain ⟨c01, c11, c21, c31, c41, i11, i21, i31, i41⟩ := hb1.get
  have hm1 : MemN _ _ _ _ _ := ⟨rfl, hb1.1⟩
  have hi1 := hb1.2
  refine .nil ?_
  refine hK1 _ _ ?_
  refine .seq (fun K2 hK2 => ?_)
  refine .regionD mixed_orders_B (.q 0 (.q 1 (.q 2 (.c 3 1 (.c 4 1 (.c 5 0 (.c 6 0 (.done)))))))) (by kernel_rfl) ?_
  refine .m rfl rfl rfl rfl (.refl _) (.loadM ag_27_D rfl ⟨rfl, Mem.of_get at1⟩) ?_
  refine .m rfl rfl rfl rfl (.refl _) (.loadM ag_27_D rfl ⟨rfl, Mem.of_get at1⟩) ?_
  refine .m rfl rfl rfl rfl (.refl _) (.loadM ag_27_D rfl ⟨rfl, Mem.of_get at1⟩) ?_
  refine .call1 rfl rfl rfl rfl rfl @Try.call102 rfl (l11Skeleton_c) ?_
  rintro _ H6 ⟨le6, g6, rfl, at6, ge6⟩
  have hbl := le6
  refine ⟨hbl, ?_⟩
  have nx_H6 := le6.1
  replace hle := hle.trans le6
  replace at1 := le6.2 _ _ at1
  replace at2 := le6.2 _ _ at2
  have lt_at6 := GHeap.lt_of_get at6
  replace hin := base_hin.mono hle
  clear hb1 c01 c11 c21 c31 c41 i11 i21 i31 i41 hm1 hi1
  have hb1 : Cat.At _ g1 0 c p := ⟨Mem.of_get at1, hin⟩
  obtain ⟨c01, c11, c21, c31, c41, i11, i21, i31, i41⟩ := hb1.get
  have hm1 : MemN _ _ _ _ _ := ⟨rfl, hb1.1⟩
  have hi1 := hb1.2
  have i6 := Ints.of_get at6
  refine .call1 rfl rfl rfl rfl rfl @Try.call101 rfl (l02Full_c) ?_
  rintro _ H7 ⟨le7, g7, rfl, at7, ge7⟩
  replace hbl := hbl.trans le7
  refine ⟨hbl, ?_⟩
  have nx_H7 := le7.1
  replace hle := hle.trans le7
  replace at1 := le7.2 _ _ at1
  replace at2 := le7.2 _ _ at2
  replace at6 := le7.2 _ _ at6
  have lt_at7 := GHeap.lt_of_get at7
  replace hin := base_hin.mono hle
  clear hb1 c01 c11 c21 c31 c41 i11 i21 i31 i41 hm1 hi1
  have hb1 : Cat.At _ g1 0 c p := ⟨Mem.of_get at1, hin⟩
  obtain ⟨c01, c11, c21, c31, c41, i11, i21, i31, i41⟩ := hb1.get
  have hm1 : MemN _ _ _ _ _ := ⟨rfl, hb1.1⟩
  have hi1 := hb1.2
  clear i6
  have i6 := Ints.of_get at6
  have i7 := Ints.of_get at7
  refine .call0 rfl rfl rfl rfl rfl @Try.call100 rfl (l02Part_c (hS := hS) (hC := Cat.among_closed hS)) ?_
  rintro _ H8 ⟨le8, p8, rfl, v8⟩
  have nx_H8 := le8.1
  replace hle := hle.trans le8
  replace at1 := le8.2 _ _ at1
  replace at2 := le8.2 _ _ at2
  replace at6 := le8.2 _ _ at6
  replace at7 := le8.2 _ _ at7
  have bs_v8 := v8
  have lv_v8 : Keep H7.next H8 H8 := fun _ _ _ h => h
  replace hin := base_hin.mono hle
  clear hb1 c01 c11 c21 c31 c41 i11 i21 i31 i41 hm1 hi1
  have hb1 : Cat.At _ g1 0 c p := ⟨Mem.of_get at1, hin⟩
  obtain ⟨c01, c11, c21, c31, c41, i11, i21, i31, i41⟩ := hb1.get
  have hm1 : MemN _ _ _ _ _ := ⟨rfl, hb1.1⟩
  have hi1 := hb1.2
  clear i6
  have i6 := Ints.of_get at6
  clear i7
  have i7 := Ints.of_get at7
  have i8 := v8.inn
  refine .r0 rfl rfl rfl (.fillR rfl sz_27_D rfl rfl rfl rfl (by assumption) (by first | rfl | exact Nat.le_of_ble_eq_true rfl | simp)) ?_
  rintro _ H1006 ⟨rfl, st1006, at1006⟩
  have nx_H1006 := st1006.nx
  replace hle := hle.st st1006 (fun k hk => ⟨by omega, trivial⟩)
  have ne_g1_g2 : g1 ≠ g2 := by omega
  replace at1 := st1006.same _ _ ⟨ne_g1_g2, trivial⟩ at1
  have ne_g6_g2 : g6 ≠ g2 := by omega
  replace at6 := st1006.same _ _ ⟨ne_g6_g2, trivial⟩ at6
  have ne_g7_g2 : g7 ≠ g2 := by omega
  replace at7 := st1006.same _ _ ⟨ne_g7_g2, trivial⟩ at7
  replace lv_v8 := Keep.st lv_v8 st1006 (fun k hb hk => ⟨by omega, trivial⟩)
  replace v8 := bs_v8.keep lv_v8 (Nat.le_refl _)
  have lt_at1006 := GHeap.lt_of_get at1006
  replace hin := base_hin.mono hle
  clear hb1 c01 c11 c21 c31 c41 i11 i21 i31 i41 hm1 hi1
  have hb1 : Cat.At _ g1 0 c p := ⟨Mem.of_get at1, hin⟩
  obtain ⟨c01, c11, c21, c31, c41, i11, i21, i31, i41⟩ := hb1.get
  have hm1 : MemN _ _ _ _ _ := ⟨rfl, hb1.1⟩
  have hi1 := hb1.2
  clear i6
  have i6 := Ints.of_get at6
  clear i7
  have i7 := Ints.of_get at7
  clear i8
  have i8 := v8.inn
  have mm1006 : MemN _ _ _ _ _ := ⟨rfl, Mem.of_get at1006⟩
  refine .done ?_
  refine hK2 _ _ ?_
  refine .ret ?_
  refine hret _ _ ?_
  refine ⟨_, _, _, _, rfl, ag_27_D, (by rfl), (Mem.of_get at1006), ?_⟩
  exact ⟨hle, p8, rfl, v8.keep (.of_le (.refl _)) (by omega)⟩
theorem specSkeletonOf_c {c : Cat} {p : CatP} {H : GHeap} (hin : c.In H p := by assumption) (hs : c.Small := by assumption) :
    GCalls Try.prog 10 [.agg (c.cells p).toArray] H (fun v H' => H.Le H' ∧ ∃ q, v = .tuple #[.agg (c.skR.cells q).toArray, .int .i64 c.skC] ∧ CatR H.next H' c.skR q) := by
  refine GCalls.body (N := 10) (rs := [.cell 2 27, .tmp 3]) Try.func10 rfl rfl rfl rfl (fun Qx hret hend => ?_)
  refine .forget (fr' := [(0, some _)]) ⟨rfl, trivial⟩ ?_
  have hle := GHeap.Le.refl H
  have base_hin := hin
  refine .seq (fun K1 hK1 => ?_)
  refine .region ?_
  refine .r rfl rfl rfl (.boxR rfl sz_27_D rfl) ?_
  rintro _ H1 ⟨g1, rfl, le1, ge1, at1⟩
  have nx_H1 := le1.1
  replace hle := hle.trans le1
  have lt_at1 := GHeap.lt_of_get at1
  replace hin := base_hin.mono hle
  have hb1 : Cat.At _ g1 0 c p := ⟨Mem.of_get at1, hin⟩
  obtain ⟨c01, c11, c21, c31, c41, i11, i21, i31, i41⟩ := hb1.get
  have hm1 : MemN _ _ _ _ _ := ⟨rfl, hb1.1⟩
  have hi1 := hb1.2
  refine .r rfl rfl rfl (.allocR rfl ze_27_E rfl) ?_
  rintro _ H2 ⟨g2, rfl, le2, ge2, at2⟩
  have nx_H2 := le2.1
  replace hle := hle.trans le2
  replace at1 := le2.2 _ _ at1
  have lt_at2 := GHeap.lt_of_get at2
  replace hin := base_hin.mono hle
  clear hb1 c01 c11 c21 c31 c41 i11 i21 i31 i41 hm1 hi1
  have hb1 : Cat.At _ g1 0 c p := ⟨Mem.of_get at1, hin⟩
  obtain ⟨c01, c11, c21, c31, c41, i11, i21, i31, i41⟩ := hb1.get
  have hm1 : MemN _ _ _ _ _ := ⟨rfl, hb1.1⟩
  have hi1 := hb1.2
  refine .m rfl rfl rfl (.assign rfl) (.nil ?_)
  refine hK1 _ _ ?_
  refine .seq (fun K2 hK2 => ?_)
  refine .seq (fun K3 hK3 => ?_)
  refine .region ?_
  refine .m rfl rfl rfl (.loadM ag_27_D rfl ⟨rfl, Mem.of_get at1⟩) ?_
  refine .callQ rfl rfl rfl rfl @Try.call46 rfl (l02Is_c) ?_
  refine .m rfl rfl rfl (.not rfl) (.nil ?_)
  refine hK3 _ _ ?_
  refine .cond rfl (fun h6 => ?_) (fun h6 => ?_)
  ·
   simp only [sps] at h6
   refine .seq (fun K4 hK4 => ?_)
   refine .region (.m rfl rfl rfl (.build bt_27_Kb rfl rfl rfl) ?_)
   refine .r0 rfl rfl (.fillR rfl sz_27_D rfl rfl rfl rfl (by assumption) (by first | rfl | exact Nat.le_of_ble_eq_true rfl | simp)) ?_
   rintro _ H2001 ⟨rfl, st2001, at2001⟩
   have nx_H2001 := st2001.nx
   replace hle := hle.st st2001 (fun k hk => ⟨by omega, trivial⟩)
   have ne_g1_g2 : g1 ≠ g2 := by omega
   replace at1 := st2001.same _ _ ⟨ne_g1_g2, trivial⟩ at1
   have lt_at2001 := GHeap.lt_of_get at2001
   replace hin := base_hin.mono hle
   clear hb1 c01 c11 c21 c31 c41 i11 i21 i31 i41 hm1 hi1
   have hb1 : Cat.At _ g1 0 c p := ⟨Mem.of_get at1, hin⟩
   obtain ⟨c01, c11, c21, c31, c41, i11, i21, i31, i41⟩ := hb1.get
   have hm1 : MemN _ _ _ _ _ := ⟨rfl, hb1.1⟩
   have hi1 := hb1.2
   have mm2001 : MemN _ _ _ _ _ := ⟨rfl, Mem.of_get at2001⟩
   refine .m rfl rfl rfl (.assign rfl) (.nil ?_)
   refine hK4 _ _ ?_
   refine .ret ?_
   refine hret _ _ ?_
   refine ⟨_, _, _, _, _, rfl, ag_27_D, (by rfl), (Mem.of_get at2001), rfl, ?_⟩
   obtain ⟨e1, e2⟩ := Cat.sk_not (c := c) h6
   rw [e1, e2]
   exact ⟨hle, .zero, rfl, CatR.zero _ _⟩
  simp only [sps] at h6
  refine .skip ?_
  refine hK2 _ _ ?_
  refine .seq (fun K5 hK5 => ?_)
  refine .region ?_
  refine .m rfl rfl rfl (.loadM ag_27_D rfl ⟨rfl, Mem.of_get at1⟩) ?_
  refine .call rfl rfl rfl rfl @Try.call47 rfl (l11Part_c (hS := h6.1)) ?_
  rintro _ H9 ⟨le9, p9, rfl, v9⟩
  have nx_H9 := le9.1
  replace hle := hle.trans le9
  replace at1 := le9.2 _ _ at1
  replace at2 := le9.2 _ _ at2
  have bs_v9 := v9
  have lv_v9 : Keep H2.next H9 H9 := fun _ _ _ h => h
  replace hin := base_hin.mono hle
  clear hb1 c01 c11 c21 c31 c41 i11 i21 i31 i41 hm1 hi1
  have hb1 : Cat.At _ g1 0 c p := ⟨Mem.of_get at1, hin⟩
  obtain ⟨c01, c11, c21, c31, c41, i11, i21, i31, i41⟩ := hb1.get
  have hm1 : MemN _ _ _ _ _ := ⟨rfl, hb1.1⟩
  have hi1 := hb1.2
  have i9 := v9.inn
  refine .r0 rfl rfl (.fillR rfl sz_27_D rfl rfl rfl rfl (by assumption) (by first | rfl | exact Nat.le_of_ble_eq_true rfl | simp)) ?_
  rintro _ H3002 ⟨rfl, st3002, at3002⟩
  have nx_H3002 := st3002.nx
  replace hle := hle.st st3002 (fun k hk => ⟨by omega, trivial⟩)
  have ne_g1_g2 : g1 ≠ g2 := by omega
  replace at1 := st3002.same _ _ ⟨ne_g1_g2, trivial⟩ at1
  replace lv_v9 := Keep.st lv_v9 st3002 (fun k hb hk => ⟨by omega, trivial⟩)
  replace v9 := bs_v9.keep lv_v9 (Nat.le_refl _)
  have lt_at3002 := GHeap.lt_of_get at3002
  replace hin := base_hin.mono hle
  clear hb1 c01 c11 c21 c31 c41 i11 i21 i31 i41 hm1 hi1
  have hb1 : Cat.At _ g1 0 c p := ⟨Mem.of_get at1, hin⟩
  obtain ⟨c01, c11, c21, c31, c41, i11, i21, i31, i41⟩ := hb1.get
  have hm1 : MemN _ _ _ _ _ := ⟨rfl, hb1.1⟩
  have hi1 := hb1.2
  clear i9
  have i9 := v9.inn
  have mm3002 : MemN _ _ _ _ _ := ⟨rfl, Mem.of_get at3002⟩
  refine .m rfl rfl rfl (.assign rfl) (.nil ?_)
  refine hK5 _ _ ?_
  refine .ret ?_
  refine hret _ _ ?_
  refine ⟨_, _, _, _, _, rfl, ag_27_D, (by rfl), (Mem.of_get at3002), rfl, ?_⟩
  obtain ⟨e1, e2⟩ := Cat.sk_ok (c := c) h6
  rw [e1, e2]
  exact ⟨hle, p9, rfl, v9.keep (.of_le (.refl _)) (by omega)⟩
theorem skeleton_c {g o : Nat} {c : Cat} {p : CatP} {H : GHeap} (h : Cat.At H g o c p := by assumption) (hS : c.Shape) :
    GCalls Try.prog 51 [.pointer (some ⟨g, o, none⟩)] H (NewCatR H (c.part (c.among c.skO))) := by
  refine GCalls.body (N := 13) (rs := [.cell 2 27]) Try.func51 rfl rfl rfl rfl (fun Qx hret hend => ?_)
  refine .forget (fr' := [(0, some _)]) ⟨rfl, trivial⟩ ?_
  have hle := GHeap.Le.refl H
  have base_h := h
  refine .seq (fun K1 hK1 => ?_)
  refine .region ?_
  refine .r rfl rfl rfl (.allocR rfl ze_27_E rfl) ?_
  rintro _ H2 ⟨g2, rfl, le2, ge2, at2⟩
  have nx_H2 := le2.1
  replace hle := hle.trans le2
  have lt_at2 := GHeap.lt_of_get at2
  replace h := base_h.mono hle
  refine .nil ?_
  refine hK1 _ _ ?_
  refine .seq (fun K2 hK2 => ?_)
  refine .region (.m rfl rfl rfl (.move rfl) (.m rfl rfl rfl (.move rfl) ?_))
  refine .call rfl rfl rfl rfl @Try.call106 rfl (skeletonArrows_c) ?_
  rintro _ H8 ⟨le8, g8, rfl, at8, ge8⟩
  have nx_H8 := le8.1
  replace hle := hle.trans le8
  replace at2 := le8.2 _ _ at2
  have lt_at8 := GHeap.lt_of_get at8
  replace h := base_h.mono hle
  have i8 := Ints.of_get at8
  refine .call rfl rfl rfl rfl @Try.call105 rfl (sub_c (hS := hS) (hC := Cat.among_closed hS)) ?_
  rintro _ H9 ⟨le9, p9, gO9, rfl, v9, aO9, gg9⟩
  have nx_H9 := le9.1
  replace hle := hle.trans le9
  replace at2 := le9.2 _ _ at2
  replace at8 := le9.2 _ _ at8
  have bs_v9 := v9
  have lv_v9 : Keep H8.next H9 H9 := fun _ _ _ h => h
  replace h := base_h.mono hle
  clear i8
  have i8 := Ints.of_get at8
  have i9 := v9.inn
  refine .m rfl rfl rfl (.move rfl) (.m rfl rfl rfl (.extract rfl rfl) (.m rfl rfl rfl (.extract rfl rfl) ?_))
  refine .r rfl rfl rfl (.allocR rfl ze_27_E rfl) ?_
  rintro _ H3 ⟨g3, rfl, le3, ge3, at3⟩
  have nx_H3 := le3.1
  replace hle := hle.trans le3
  replace at2 := le3.2 _ _ at2
  replace at8 := le3.2 _ _ at8
  replace lv_v9 := Keep.le lv_v9 le3
  replace v9 := bs_v9.keep lv_v9 (Nat.le_refl _)
  have lt_at3 := GHeap.lt_of_get at3
  replace h := base_h.mono hle
  clear i8
  have i8 := Ints.of_get at8
  clear i9
  have i9 := v9.inn
  refine .r0 rfl rfl (.fillR rfl sz_27_D rfl rfl rfl rfl (by assumption) (by first | rfl | exact Nat.le_of_ble_eq_true rfl | simp)) ?_
  rintro _ H1008 ⟨rfl, st1008, at1008⟩
  have nx_H1008 := st1008.nx
  replace hle := hle.st st1008 (fun k hk => ⟨by omega, trivial⟩)
  have ne_g2_g3 : g2 ≠ g3 := by omega
  replace at2 := st1008.same _ _ ⟨ne_g2_g3, trivial⟩ at2
  have ne_g8_g3 : g8 ≠ g3 := by omega
  replace at8 := st1008.same _ _ ⟨ne_g8_g3, trivial⟩ at8
  replace lv_v9 := Keep.st lv_v9 st1008 (fun k hb hk => ⟨by omega, trivial⟩)
  replace v9 := bs_v9.keep lv_v9 (Nat.le_refl _)
  have lt_at1008 := GHeap.lt_of_get at1008
  replace h := base_h.mono hle
  clear i8
  have i8 := Ints.of_get at8
  clear i9
  have i9 := v9.inn
  have mm1008 : MemN _ _ _ _ _ := ⟨rfl, Mem.of_get at1008⟩
  refine .m rfl rfl rfl (.assign rfl) (.nil ?_)
  refine hK2 _ _ ?_
  refine .seq (fun K3 hK3 => ?_)
  refine .region ?_
  refine .m rfl rfl rfl (.loadM ag_27_D rfl ⟨rfl, Mem.of_get at1008⟩) ?_
  refine .r0 rfl rfl (.fillR rfl sz_27_D rfl rfl rfl rfl (by assumption) (by first | rfl | exact Nat.le_of_ble_eq_true rfl | simp)) ?_
  rintro _ H2001 ⟨rfl, st2001, at2001⟩
  have nx_H2001 := st2001.nx
  replace hle := hle.st st2001 (fun k hk => ⟨by omega, trivial⟩)
  have ne_g8_g2 : g8 ≠ g2 := by omega
  replace at8 := st2001.same _ _ ⟨ne_g8_g2, trivial⟩ at8
  replace at1008 := st2001.same _ _ ⟨(Ne.symm ne_g2_g3), trivial⟩ at1008
  replace lv_v9 := Keep.st lv_v9 st2001 (fun k hb hk => ⟨by omega, trivial⟩)
  replace v9 := bs_v9.keep lv_v9 (Nat.le_refl _)
  have lt_at2001 := GHeap.lt_of_get at2001
  replace h := base_h.mono hle
  clear i8
  have i8 := Ints.of_get at8
  clear i9
  have i9 := v9.inn
  clear mm1008
  have mm1008 : MemN _ _ _ _ _ := ⟨rfl, Mem.of_get at1008⟩
  have mm2001 : MemN _ _ _ _ _ := ⟨rfl, Mem.of_get at2001⟩
  refine .nil ?_
  refine hK3 _ _ ?_
  refine .ret ?_
  refine hret _ _ ?_
  refine ⟨_, _, _, _, rfl, ag_27_D, (by rfl), (Mem.of_get at2001), ?_⟩
  exact ⟨hle, p9, rfl, v9.keep (.of_le (.refl _)) (by omega)⟩
theorem implSkeletonOf_c {c : Cat} {p : CatP} {H : GHeap} (hin : c.In H p := by assumption) (hs : c.Small := by assumption) :
    GCalls Try.prog 12 [.agg (c.cells p).toArray] H (fun v H' => H.Le H' ∧ ∃ q, v = .tuple #[.agg (c.skR.cells q).toArray, .int .i64 c.skC] ∧ CatR H.next H' c.skR q) := by
  refine GCalls.body (N := 8) (rs := [.cell 2 27, .tmp 3]) Try.func12 rfl rfl rfl rfl (fun Qx hret hend => ?_)
  refine .forget (fr' := [(0, some _)]) ⟨rfl, trivial⟩ ?_
  have hle := GHeap.Le.refl H
  have base_hin := hin
  refine .seq (fun K1 hK1 => ?_)
  refine .region ?_
  refine .r rfl rfl rfl (.boxR rfl sz_27_D rfl) ?_
  rintro _ H1 ⟨g1, rfl, le1, ge1, at1⟩
  have nx_H1 := le1.1
  replace hle := hle.trans le1
  have lt_at1 := GHeap.lt_of_get at1
  replace hin := base_hin.mono hle
  have hb1 : Cat.At _ g1 0 c p := ⟨Mem.of_get at1, hin⟩
  obtain ⟨c01, c11, c21, c31, c41, i11, i21, i31, i41⟩ := hb1.get
  have hm1 : MemN _ _ _ _ _ := ⟨rfl, hb1.1⟩
  have hi1 := hb1.2
  refine .r rfl rfl rfl (.allocR rfl ze_27_E rfl) ?_
  rintro _ H2 ⟨g2, rfl, le2, ge2, at2⟩
  have nx_H2 := le2.1
  replace hle := hle.trans le2
  replace at1 := le2.2 _ _ at1
  have lt_at2 := GHeap.lt_of_get at2
  replace hin := base_hin.mono hle
  clear hb1 c01 c11 c21 c31 c41 i11 i21 i31 i41 hm1 hi1
  have hb1 : Cat.At _ g1 0 c p := ⟨Mem.of_get at1, hin⟩
  obtain ⟨c01, c11, c21, c31, c41, i11, i21, i31, i41⟩ := hb1.get
  have hm1 : MemN _ _ _ _ _ := ⟨rfl, hb1.1⟩
  have hi1 := hb1.2
  refine .m rfl rfl rfl (.assign rfl) (.nil ?_)
  refine hK1 _ _ ?_
  refine .seq (fun K2 hK2 => ?_)
  refine .seq (fun K3 hK3 => ?_)
  refine .region ?_
  refine .callQ rfl rfl rfl rfl @Try.call50 rfl (isCategory_c) ?_
  refine .m rfl rfl rfl (.not rfl) (.nil ?_)
  refine hK3 _ _ ?_
  refine .cond rfl (fun h5 => ?_) (fun h5 => ?_)
  ·
   simp only [sps] at h5
   refine .seq (fun K4 hK4 => ?_)
   refine .region (.m rfl rfl rfl (.build bt_27_Kb rfl rfl rfl) ?_)
   refine .r0 rfl rfl (.fillR rfl sz_27_D rfl rfl rfl rfl (by assumption) (by first | rfl | exact Nat.le_of_ble_eq_true rfl | simp)) ?_
   rintro _ H2001 ⟨rfl, st2001, at2001⟩
   have nx_H2001 := st2001.nx
   replace hle := hle.st st2001 (fun k hk => ⟨by omega, trivial⟩)
   have ne_g1_g2 : g1 ≠ g2 := by omega
   replace at1 := st2001.same _ _ ⟨ne_g1_g2, trivial⟩ at1
   have lt_at2001 := GHeap.lt_of_get at2001
   replace hin := base_hin.mono hle
   clear hb1 c01 c11 c21 c31 c41 i11 i21 i31 i41 hm1 hi1
   have hb1 : Cat.At _ g1 0 c p := ⟨Mem.of_get at1, hin⟩
   obtain ⟨c01, c11, c21, c31, c41, i11, i21, i31, i41⟩ := hb1.get
   have hm1 : MemN _ _ _ _ _ := ⟨rfl, hb1.1⟩
   have hi1 := hb1.2
   have mm2001 : MemN _ _ _ _ _ := ⟨rfl, Mem.of_get at2001⟩
   refine .m rfl rfl rfl (.assign rfl) (.nil ?_)
   refine hK4 _ _ ?_
   refine .ret ?_
   refine hret _ _ ?_
   refine ⟨_, _, _, _, _, rfl, ag_27_D, (by rfl), (Mem.of_get at2001), rfl, ?_⟩
   obtain ⟨e1, e2⟩ := Cat.sk_not (c := c) h5
   rw [e1, e2]
   exact ⟨hle, .zero, rfl, CatR.zero _ _⟩
  simp only [sps] at h5
  refine .skip ?_
  refine hK2 _ _ ?_
  refine .seq (fun K5 hK5 => ?_)
  refine .region ?_
  refine .call rfl rfl rfl rfl @Try.call51 rfl (skeleton_c (hS := h5.1)) ?_
  rintro _ H7 ⟨le7, p7, rfl, v7⟩
  have nx_H7 := le7.1
  replace hle := hle.trans le7
  replace at1 := le7.2 _ _ at1
  replace at2 := le7.2 _ _ at2
  have bs_v7 := v7
  have lv_v7 : Keep H2.next H7 H7 := fun _ _ _ h => h
  replace hin := base_hin.mono hle
  clear hb1 c01 c11 c21 c31 c41 i11 i21 i31 i41 hm1 hi1
  have hb1 : Cat.At _ g1 0 c p := ⟨Mem.of_get at1, hin⟩
  obtain ⟨c01, c11, c21, c31, c41, i11, i21, i31, i41⟩ := hb1.get
  have hm1 : MemN _ _ _ _ _ := ⟨rfl, hb1.1⟩
  have hi1 := hb1.2
  have i7 := v7.inn
  refine .r0 rfl rfl (.fillR rfl sz_27_D rfl rfl rfl rfl (by assumption) (by first | rfl | exact Nat.le_of_ble_eq_true rfl | simp)) ?_
  rintro _ H3001 ⟨rfl, st3001, at3001⟩
  have nx_H3001 := st3001.nx
  replace hle := hle.st st3001 (fun k hk => ⟨by omega, trivial⟩)
  have ne_g1_g2 : g1 ≠ g2 := by omega
  replace at1 := st3001.same _ _ ⟨ne_g1_g2, trivial⟩ at1
  replace lv_v7 := Keep.st lv_v7 st3001 (fun k hb hk => ⟨by omega, trivial⟩)
  replace v7 := bs_v7.keep lv_v7 (Nat.le_refl _)
  have lt_at3001 := GHeap.lt_of_get at3001
  replace hin := base_hin.mono hle
  clear hb1 c01 c11 c21 c31 c41 i11 i21 i31 i41 hm1 hi1
  have hb1 : Cat.At _ g1 0 c p := ⟨Mem.of_get at1, hin⟩
  obtain ⟨c01, c11, c21, c31, c41, i11, i21, i31, i41⟩ := hb1.get
  have hm1 : MemN _ _ _ _ _ := ⟨rfl, hb1.1⟩
  have hi1 := hb1.2
  clear i7
  have i7 := v7.inn
  have mm3001 : MemN _ _ _ _ _ := ⟨rfl, Mem.of_get at3001⟩
  refine .m rfl rfl rfl (.assign rfl) (.nil ?_)
  refine hK5 _ _ ?_
  refine .ret ?_
  refine hret _ _ ?_
  refine ⟨_, _, _, _, _, rfl, ag_27_D, (by rfl), (Mem.of_get at3001), rfl, ?_⟩
  obtain ⟨e1, e2⟩ := Cat.sk_ok (c := c) h5
  rw [e1, e2]
  exact ⟨hle, p7, rfl, v7.keep (.of_le (.refl _)) (by omega)⟩
end Go.Proofs.Ytgnfekfdmgnhcaa
/- Writing over lists, and finding again what was written. No condition but those of each statement. -/
namespace Go.Proofs.Ytgnfekfdmgnhcaa
open Go Go.GL Go.RowKit Go.Proofs
theorem markInt64S_own {g : Nat} {e : TypeId} {xs : List Int} {k : Int} {H : GHeap} (at0 : H.get g = some (.row (ints xs) e true)) (hk : 0 ≤ k) (hk' : k + xs.length ≤ 9223372036854775000) :
    GCalls Try.prog 30 [.slice (some ⟨g, 0, none⟩) xs.length xs.length, .int .i64 k] H (fun v H' => v = .int .i64 (k + xs.length) ∧ St [g] H H' ∧ H'.get g = some (.row (ints (seqL k xs.length)) e true)) := by
  refine GCalls.body (N := 19) (rs := [.tmp 4]) Try.func30 rfl rfl rfl rfl (fun Qx hret hend => ?_)
  refine .forget (fr' := [(0, some _), (1, some _)]) ⟨rfl, rfl, trivial⟩ ?_
  have lt_at0 := GHeap.lt_of_get at0
  refine .seq (fun K1 hK1 => ?_)
  refine .region (.m rfl rfl rfl (.assign rfl) (.nil ?_))
  refine hK1 _ _ ?_
  refine .seq (fun K2 hK2 => ?_)
  refine .seq (fun K3 hK3 => ?_)
  refine .region (.m rfl rfl rfl (.assign rfl) (.nil ?_))
  refine hK3 _ _ ?_
  refine .block ?_
  refine .loopR (σ := Nat × Int × List Int) [(0, some _)] (fun (i, q, ys) => [(5, some (.int .i64 (i : Int))), (1, some (.int .i64 q))]) (fun (i, q, ys) H' => St [g] H H' ∧ H'.get g = some (.row (ints ys) e true) ∧ i ≤ xs.length ∧ q = k + i ∧ ys.length = xs.length ∧ ∀ j, j < i → ys.getD j 0 = k + j) (fun (i, q, ys) => xs.length - i) ((0, k, xs)) ⟨rfl, trivial⟩ ⟨rfl, rfl, trivial⟩ ?_ ?_
  ·
   refine ⟨.refl _ _, by first | assumption | exact at0 | simpa using at0, ?_⟩
   exact ⟨by omega, by omega, rfl, fun _ _ => by omega⟩
  rintro ⟨i, q, ys⟩ HL1 ⟨lst1, at_L0, hI⟩ KL1 hKL1
  refine .forget (fr' := [(5, some (.int .i64 (i : Int))), (1, some (.int .i64 q)), (0, some _)]) ⟨rfl, rfl, rfl, trivial⟩ ?_
  have nx_HL1 := lst1.nx
  have lt_at_L0 := GHeap.lt_of_get at_L0
  obtain ⟨hi, hq, hyl, ha⟩ := hI
  have hsl := SlA.of_ints at_L0 hyl
  refine .seq (fun K4 hK4 => ?_)
  refine .seq (fun K5 hK5 => ?_)
  refine .region (.m rfl rfl rfl (.move rfl) (.m rfl rfl rfl (.move rfl) (.m rfl rfl rfl (.len sl_22_A rfl) ?_)))
  refine .m rfl rfl rfl (.cmp rfl rfl rfl) (.nil ?_)
  refine hK5 _ _ ?_
  refine .cond rfl (fun h9 => ?_) (fun h9 => ?_)
  ·
   try simp only [sps] at h9
   refine .skip ?_
   refine hK4 _ _ ?_
   refine .seq (fun K6 hK6 => ?_)
   refine .block ?_
   refine .seq (fun K7 hK7 => ?_)
   refine .region (.m rfl rfl rfl (.move rfl) (.m rfl rfl rfl (.move rfl) (.m rfl rfl rfl (.move rfl) ?_)))
   refine .m rfl rfl rfl (.idxN sl_22_A (by first | assumption | exact SlA.of_row at_L0 (by first | rfl | (simp; done) | (simp <;> omega))) rfl rfl (by omega)) ?_
   refine .r0 rfl rfl (.storeI rfl sz_2_E rfl rfl (by assumption) (by first | omega | (simp <;> omega))) ?_
   rintro _ H4004 ⟨rfl, st4004, at4004⟩
   have nx_H4004 := st4004.nx
   replace lst1 := lst1.st st4004 (fun k hk ho => by simp only [out, and_true] at ho ⊢ <;> first | exact ho | exact ho.1 | exact ho.2 | exact ho.2.1 | exact ho.2.2 | exact ho.2.2.1 | exact ho.2.2.2 | omega)
   have lt_at4004 := GHeap.lt_of_get at4004
   refine .nil ?_
   refine hK7 _ _ ?_
   refine .region (.m rfl rfl rfl (.move rfl) ?_)
   refine .m rfl rfl rfl (.add rfl rfl rfl (by omega) (by omega)) ?_
   refine .m rfl rfl rfl (.assign rfl) (.nil ?_)
   refine hK6 _ _ ?_
   refine .region (.m rfl rfl rfl (.move rfl) ?_)
   refine .m rfl rfl rfl (.add rfl rfl rfl (by omega) (by omega)) ?_
   refine .m rfl rfl rfl (.assign rfl) (.nil ?_)
   refine hKL1 ((i + 1, q + 1, ys.set (0 + i) q)) _ _ ?_ ?_ ⟨rfl, rfl, rfl, trivial⟩
   ·
    refine ⟨lst1, by assumption, ?_⟩
    refine ⟨by omega, by omega, by simpa using hyl, fun j hj => ?_⟩
    rw [Nat.zero_add, getD_set (by omega)]
    split
    · rename_i e; rw [e]; exact hq
    · exact ha j (by omega)
   (dsimp only; omega)
  try simp only [sps] at h9
  refine .exit ?_
  refine hK2 _ _ ?_
  refine .seq (fun K8 hK8 => ?_)
  refine .region (.m rfl rfl rfl (.move rfl) (.m rfl rfl rfl (.assign rfl) (.nil ?_)))
  refine hK8 _ _ ?_
  refine .ret ?_
  refine hret _ _ ?_
  refine ⟨_, rfl, ?_⟩
  obtain rfl : ys = seqL k xs.length := eq_of_getD (by rw [hyl, length_seqL]) fun j hj => by rw [length_seqL] at hj; rw [ha j (by omega), seqL_get hj]
  obtain rfl : i = xs.length := by omega
  exact ⟨by rw [hq], lst1, at_L0⟩
theorem markInt64S_nil {a : Option Addr} {k : Int} {H : GHeap} (hk : 0 ≤ k) (hk' : k ≤ 9223372036854775000) :
    GCalls Try.prog 30 [.slice a 0 0, .int .i64 k] H (fun v H' => v = .int .i64 k ∧ H' = H) := by
  refine GCalls.body (N := 19) (rs := [.tmp 4]) Try.func30 rfl rfl rfl rfl (fun Qx hret hend => ?_)
  refine .forget (fr' := [(0, some _), (1, some _)]) ⟨rfl, rfl, trivial⟩ ?_
  refine .seq (fun K1 hK1 => ?_)
  refine .region (.m rfl rfl rfl (.assign rfl) (.nil ?_))
  refine hK1 _ _ ?_
  refine .seq (fun K2 hK2 => ?_)
  refine .seq (fun K3 hK3 => ?_)
  refine .region (.m rfl rfl rfl (.assign rfl) (.nil ?_))
  refine hK3 _ _ ?_
  refine .block ?_
  refine .loopR (σ := Unit) [(0, some _)] (fun u => [(5, some (.int .i64 0)), (1, some (.int .i64 k))]) (fun u H' => H = H' ∧ True) (fun u => 0) (()) ⟨rfl, trivial⟩ ⟨rfl, rfl, trivial⟩ ?_ ?_
  ·
   refine ⟨rfl, ?_⟩
   exact trivial
  rintro u _ ⟨rfl, hI⟩ KL1 hKL1
  refine .forget (fr' := [(5, some (.int .i64 0)), (1, some (.int .i64 k)), (0, some _)]) ⟨rfl, rfl, rfl, trivial⟩ ?_
  refine .seq (fun K4 hK4 => ?_)
  refine .seq (fun K5 hK5 => ?_)
  refine .region (.m rfl rfl rfl (.move rfl) (.m rfl rfl rfl (.move rfl) (.m rfl rfl rfl (.len sl_22_A rfl) ?_)))
  refine .m rfl rfl rfl (.cmp rfl rfl rfl) (.nil ?_)
  refine hK5 _ _ ?_
  refine .cond rfl (fun h9 => ?_) (fun h9 => ?_)
  ·
   exact absurd h9 (by simp)
  try simp only [sps] at h9
  refine .exit ?_
  refine hK2 _ _ ?_
  refine .seq (fun K6 hK6 => ?_)
  refine .region (.m rfl rfl rfl (.move rfl) (.m rfl rfl rfl (.assign rfl) (.nil ?_)))
  refine hK6 _ _ ?_
  refine .ret ?_
  refine hret _ _ ?_
  refine ⟨_, rfl, ?_⟩
  exact ⟨rfl, rfl⟩
theorem markInt64S_c {a : Option Addr} {n lo hi : Nat} {k : Int} {H : GHeap} (h : IntsW lo hi H a n := by assumption) (hk : 0 ≤ k := by omega) (hk' : k + n ≤ 9223372036854775000 := by omega) :
    GCalls Try.prog 30 [.slice a n n, .int .i64 k] H (fun v H' => v = .int .i64 (k + n) ∧ Marked lo hi H H' [(a, n)] k) := by
  by_cases h0 : n = 0
  · subst h0
    refine (markInt64S_nil hk (by omega)).mono fun v H' ⟨h1, h2⟩ => ?_
    subst h2
    exact ⟨by rw [h1]; simp, .refl _ _ _, .refl _ _, fun _ => ⟨.inl rfl, trivial⟩⟩
  · rcases h with h | ⟨g, e, xs, rfl, h2, h3, h4, rfl⟩
    · exact absurd h h0
    · exact (markInt64S_own h4 hk hk').mono fun v H' ⟨k1, k2, k3⟩ => ⟨k1, .one h2 h3 h4 k2 k3 h0⟩
theorem heldInt64S_c {a : Option Addr} {n b : Nat} {k : Int} {H : GHeap} (h : Held b H [(a, n)] k := by assumption) (hk : 0 ≤ k := by omega) (hk' : k + n ≤ 9223372036854775000 := by omega) :
    GCalls Try.prog 31 [.slice a n n, .int .i64 k] H (Ret (.int .i64 (k + n)) H) := by
  have hi := h.ints
  have hl : (seqL k n).length = n := length_seqL k n
  have hsl : SlA H a n (fun i => .int .i64 ((seqL k n).getD i 0)) := by have hi' := hi; unfold Ints at hi'; rw [hl] at hi'; exact hi'
  refine GCalls.body (N := 21) (rs := [.tmp 4]) Try.func31 rfl rfl rfl rfl (fun Qx hret hend => ?_)
  refine .forget (fr' := [(0, some _), (1, some _)]) ⟨rfl, rfl, trivial⟩ ?_
  refine .seq (fun K1 hK1 => ?_)
  refine .region (.m rfl rfl rfl (.assign rfl) (.nil ?_))
  refine hK1 _ _ ?_
  refine .seq (fun K2 hK2 => ?_)
  refine .seq (fun K3 hK3 => ?_)
  refine .region (.m rfl rfl rfl (.assign rfl) (.nil ?_))
  refine hK3 _ _ ?_
  refine .block ?_
  refine .loopR (σ := Nat × Int) [(0, some _)] (fun (i, q) => [(5, some (.int .i64 (i : Int))), (1, some (.int .i64 q))]) (fun (i, q) H' => H = H' ∧ i ≤ n ∧ q = k + i) (fun (i, q) => n - i) ((0, k)) ⟨rfl, trivial⟩ ⟨rfl, rfl, trivial⟩ ?_ ?_
  ·
   refine ⟨rfl, ?_⟩
   exact ⟨by omega, by omega⟩
  rintro ⟨i, q⟩ _ ⟨rfl, hI⟩ KL1 hKL1
  refine .forget (fr' := [(5, some (.int .i64 (i : Int))), (1, some (.int .i64 q)), (0, some _)]) ⟨rfl, rfl, rfl, trivial⟩ ?_
  obtain ⟨hi, hq⟩ := hI
  refine .seq (fun K4 hK4 => ?_)
  refine .seq (fun K5 hK5 => ?_)
  refine .region (.m rfl rfl rfl (.move rfl) (.m rfl rfl rfl (.move rfl) (.m rfl rfl rfl (.len sl_22_A rfl) ?_)))
  refine .m rfl rfl rfl (.cmp rfl rfl rfl) (.nil ?_)
  refine hK5 _ _ ?_
  refine .cond rfl (fun h9 => ?_) (fun h9 => ?_)
  ·
   try simp only [sps] at h9
   refine .skip ?_
   refine hK4 _ _ ?_
   refine .seq (fun K6 hK6 => ?_)
   refine .block ?_
   refine .seq (fun K7 hK7 => ?_)
   refine .seq (fun K8 hK8 => ?_)
   refine .region (.m rfl rfl rfl (.move rfl) (.m rfl rfl rfl (.move rfl) ?_))
   refine .m rfl rfl rfl (.idxN sl_22_A hsl rfl rfl (by omega)) ?_
   refine .m rfl rfl rfl (.loadE on_2_A hsl rfl (by omega)) ?_
   refine .m rfl rfl rfl (.move rfl) (.m rfl rfl rfl (.cmp rfl rfl rfl) (.nil ?_))
   refine hK8 _ _ ?_
   refine .cond rfl (fun h17 => ?_) (fun h17 => ?_)
   ·
    simp only [sps] at h17
    rw [seqL_get (by omega)] at h17
    refine .seq (fun K9 hK9 => ?_)
    refine .region (.m rfl rfl rfl (.assign rfl) (.nil ?_))
    refine hK9 _ _ ?_
    refine .ret ?_
    refine hret _ _ ?_
    refine ⟨_, rfl, ?_⟩
    exact absurd hq.symm (by omega)
   try simp only [sps] at h17
   refine .skip ?_
   refine hK7 _ _ ?_
   refine .region (.m rfl rfl rfl (.move rfl) ?_)
   refine .m rfl rfl rfl (.add rfl rfl rfl (by omega) (by omega)) ?_
   refine .m rfl rfl rfl (.assign rfl) (.nil ?_)
   refine hK6 _ _ ?_
   refine .region (.m rfl rfl rfl (.move rfl) ?_)
   refine .m rfl rfl rfl (.add rfl rfl rfl (by omega) (by omega)) ?_
   refine .m rfl rfl rfl (.assign rfl) (.nil ?_)
   refine hKL1 ((i + 1, q + 1)) _ _ ?_ ?_ ⟨rfl, rfl, rfl, trivial⟩
   ·
    refine ⟨rfl, ?_⟩
    exact ⟨by omega, by omega⟩
   (dsimp only; omega)
  try simp only [sps] at h9
  refine .exit ?_
  refine hK2 _ _ ?_
  refine .seq (fun K10 hK10 => ?_)
  refine .region (.m rfl rfl rfl (.move rfl) (.m rfl rfl rfl (.assign rfl) (.nil ?_)))
  refine hK10 _ _ ?_
  refine .ret ?_
  refine hret _ _ ?_
  refine ⟨_, rfl, ?_⟩
  obtain rfl : i = n := by omega
  exact .of (by rw [hq])
theorem markInt64SS_c {a : Option Addr} {xss : List (List Int)} {r : Nat → Option Addr} {lo hi : Nat} {k : Int} {H : GHeap} (h : IntssW lo hi H a xss r := by assumption) (hk : 0 ≤ k := by omega) (hk' : k + sumL xss ≤ 9223372036854775000 := by omega) (hl : xss.length ≤ 1048576 := by omega) :
    GCalls Try.prog 25 [.slice a xss.length xss.length, .int .i64 k] H (fun v H' => v = .int .i64 (k + sumL xss) ∧ Marked lo hi H H' (rowsL r xss xss.length) k) := by
  refine GCalls.body (N := 19) (rs := [.tmp 4]) Try.func25 rfl rfl rfl rfl (fun Qx hret hend => ?_)
  refine .forget (fr' := [(0, some _), (1, some _)]) ⟨rfl, rfl, trivial⟩ ?_
  refine .seq (fun K1 hK1 => ?_)
  refine .region (.m rfl rfl rfl (.assign rfl) (.nil ?_))
  refine hK1 _ _ ?_
  refine .seq (fun K2 hK2 => ?_)
  refine .seq (fun K3 hK3 => ?_)
  refine .region (.m rfl rfl rfl (.assign rfl) (.nil ?_))
  refine hK3 _ _ ?_
  refine .block ?_
  refine .loopR (σ := Nat × Int) [(0, some _)] (fun (i, q) => [(5, some (.int .i64 (i : Int))), (1, some (.int .i64 q))]) (fun (i, q) H' => i ≤ xss.length ∧ q = k + sumL (xss.take i) ∧ Marked lo hi H H' (rowsL r xss i) k) (fun (i, q) => xss.length - i) ((0, k)) ⟨rfl, trivial⟩ ⟨rfl, rfl, trivial⟩ ?_ ?_
  ·
   exact ⟨by omega, by simp [sumL], .nil _ _ _ _⟩
  rintro ⟨i, q⟩ H' hI KL1 hKL1
  refine .forget (fr' := [(5, some (.int .i64 (i : Int))), (1, some (.int .i64 q)), (0, some _)]) ⟨rfl, rfl, rfl, trivial⟩ ?_
  obtain ⟨hi', hq, hm⟩ := hI
  have hw := h.stm hm.stm
  have hsl := hw.1
  have hle1 := sumL_take_le (xss := xss) (k := i + 1)
  refine .seq (fun K4 hK4 => ?_)
  refine .seq (fun K5 hK5 => ?_)
  refine .region (.m rfl rfl rfl (.move rfl) (.m rfl rfl rfl (.move rfl) (.m rfl rfl rfl (.len sl_23_B rfl) ?_)))
  refine .m rfl rfl rfl (.cmp rfl rfl rfl) (.nil ?_)
  refine hK5 _ _ ?_
  refine .cond rfl (fun h9 => ?_) (fun h9 => ?_)
  ·
   simp only [sps] at h9
   have hts := sumL_take_succ (xss := xss) (k := i) (by omega)
   refine .skip ?_
   refine hK4 _ _ ?_
   refine .seq (fun K6 hK6 => ?_)
   refine .block ?_
   refine .region (.m rfl rfl rfl (.move rfl) (.m rfl rfl rfl (.move rfl) ?_))
   refine .m rfl rfl rfl (.idxN sl_23_B hsl rfl rfl (by omega)) ?_
   refine .m rfl rfl rfl (.loadE on_22_B hsl rfl (by omega)) ?_
   refine .m rfl rfl rfl (.move rfl) ?_
   refine .call rfl rfl rfl rfl @Try.call30 rfl (markInt64S_c (hw.2.1 i (by omega)) (by omega) (by omega)) ?_
   rintro _ H17 ⟨rfl, mk17⟩
   refine .m rfl rfl rfl (.assign rfl) (.nil ?_)
   refine hK6 _ _ ?_
   refine .region (.m rfl rfl rfl (.move rfl) ?_)
   refine .m rfl rfl rfl (.add rfl rfl rfl (by omega) (by omega)) ?_
   refine .m rfl rfl rfl (.assign rfl) (.nil ?_)
   refine hKL1 ((i + 1, _)) _ _ ?_ ?_ ⟨rfl, rfl, rfl, trivial⟩
   ·
    exact ⟨by omega, by rw [sumL_take_succ (by omega)]; omega, by rw [rowsL_succ]; exact hm.app' mk17 (by rw [lvSum_rowsL _ _ _ (by omega)]; omega)⟩
   (dsimp only; omega)
  try simp only [sps] at h9
  refine .exit ?_
  refine hK2 _ _ ?_
  refine .seq (fun K7 hK7 => ?_)
  refine .region (.m rfl rfl rfl (.move rfl) (.m rfl rfl rfl (.assign rfl) (.nil ?_)))
  refine hK7 _ _ ?_
  refine .ret ?_
  refine hret _ _ ?_
  refine ⟨_, rfl, ?_⟩
  obtain rfl : i = xss.length := by omega
  rw [List.take_length] at hq
  exact ⟨by rw [hq], hm⟩
theorem heldRow {b : Nat} {H : GHeap} {r : Nat → Option Addr} {xss : List (List Int)} {k : Int} : ∀ {n : Nat}, n ≤ xss.length → Held b H (rowsL r xss n) k → ∀ i, i < n → Held b H [(r i, (xss.getD i []).length)] (k + sumL (xss.take i))
  | 0, _, _, i, hi => by omega
  | n + 1, hn, h, i, hi => by
    rw [rowsL_succ] at h
    obtain ⟨h1, h2⟩ := h.app
    rw [lvSum_rowsL _ _ _ (by omega)] at h2
    by_cases e : i = n
    · subst e; exact h2
    · exact heldRow (by omega) h1 i (by omega)
theorem heldInt64SS_c {a : Option Addr} {xss : List (List Int)} {r : Nat → Option Addr} {b : Nat} {k : Int} {H : GHeap} (hsl : SlA H a xss.length (fun i => .slice (r i) (xss.getD i []).length (xss.getD i []).length) := by assumption) (h : Held b H (rowsL r xss xss.length) k := by assumption) (hk : 0 ≤ k := by omega) (hk' : k + sumL xss ≤ 9223372036854775000 := by omega) (hl : xss.length ≤ 1048576 := by omega) :
    GCalls Try.prog 26 [.slice a xss.length xss.length, .int .i64 k] H (Ret (.int .i64 (k + sumL xss)) H) := by
  refine GCalls.body (N := 21) (rs := [.tmp 4]) Try.func26 rfl rfl rfl rfl (fun Qx hret hend => ?_)
  refine .forget (fr' := [(0, some _), (1, some _)]) ⟨rfl, rfl, trivial⟩ ?_
  refine .seq (fun K1 hK1 => ?_)
  refine .region (.m rfl rfl rfl (.assign rfl) (.nil ?_))
  refine hK1 _ _ ?_
  refine .seq (fun K2 hK2 => ?_)
  refine .seq (fun K3 hK3 => ?_)
  refine .region (.m rfl rfl rfl (.assign rfl) (.nil ?_))
  refine hK3 _ _ ?_
  refine .block ?_
  refine .loopR (σ := Nat × Int) [(0, some _)] (fun (i, q) => [(5, some (.int .i64 (i : Int))), (1, some (.int .i64 q))]) (fun (i, q) H' => H = H' ∧ i ≤ xss.length ∧ q = k + sumL (xss.take i)) (fun (i, q) => xss.length - i) ((0, k)) ⟨rfl, trivial⟩ ⟨rfl, rfl, trivial⟩ ?_ ?_
  ·
   refine ⟨rfl, ?_⟩
   exact ⟨by omega, by simp [sumL]⟩
  rintro ⟨i, q⟩ _ ⟨rfl, hI⟩ KL1 hKL1
  refine .forget (fr' := [(5, some (.int .i64 (i : Int))), (1, some (.int .i64 q)), (0, some _)]) ⟨rfl, rfl, rfl, trivial⟩ ?_
  obtain ⟨hi', hq⟩ := hI
  have hle1 := sumL_take_le (xss := xss) (k := i + 1)
  refine .seq (fun K4 hK4 => ?_)
  refine .seq (fun K5 hK5 => ?_)
  refine .region (.m rfl rfl rfl (.move rfl) (.m rfl rfl rfl (.move rfl) (.m rfl rfl rfl (.len sl_23_B rfl) ?_)))
  refine .m rfl rfl rfl (.cmp rfl rfl rfl) (.nil ?_)
  refine hK5 _ _ ?_
  refine .cond rfl (fun h9 => ?_) (fun h9 => ?_)
  ·
   simp only [sps] at h9
   have hts := sumL_take_succ (xss := xss) (k := i) (by omega)
   have hr := heldRow (Nat.le_refl _) h i (by omega)
   rw [← hq] at hr
   refine .skip ?_
   refine hK4 _ _ ?_
   refine .seq (fun K6 hK6 => ?_)
   refine .block ?_
   refine .seq (fun K7 hK7 => ?_)
   refine .region (.m rfl rfl rfl (.move rfl) (.m rfl rfl rfl (.move rfl) ?_))
   refine .m rfl rfl rfl (.idxN sl_23_B hsl rfl rfl (by omega)) ?_
   refine .m rfl rfl rfl (.loadE on_22_B hsl rfl (by omega)) ?_
   refine .m rfl rfl rfl (.move rfl) ?_
   refine .callQ rfl rfl rfl rfl @Try.call31 rfl (heldInt64S_c) ?_
   refine .m rfl rfl rfl (.assign rfl) (.nil ?_)
   refine hK7 _ _ ?_
   refine .seq (fun K8 hK8 => ?_)
   refine .region (.m rfl rfl rfl (.move rfl) (.m rfl rfl rfl (.cmp rfl rfl rfl) (.nil ?_)))
   refine hK8 _ _ ?_
   refine .cond rfl (fun h19 => ?_) (fun h19 => ?_)
   ·
    exact absurd h19 (by simp; omega)
   try simp only [sps] at h19
   refine .skip ?_
   refine hK6 _ _ ?_
   refine .region (.m rfl rfl rfl (.move rfl) ?_)
   refine .m rfl rfl rfl (.add rfl rfl rfl (by omega) (by omega)) ?_
   refine .m rfl rfl rfl (.assign rfl) (.nil ?_)
   refine hKL1 ((i + 1, _)) _ _ ?_ ?_ ⟨rfl, rfl, rfl, trivial⟩
   ·
    refine ⟨rfl, ?_⟩
    exact ⟨by omega, by rw [sumL_take_succ (by omega)]; omega⟩
   (dsimp only; omega)
  try simp only [sps] at h9
  refine .exit ?_
  refine hK2 _ _ ?_
  refine .seq (fun K9 hK9 => ?_)
  refine .region (.m rfl rfl rfl (.move rfl) (.m rfl rfl rfl (.assign rfl) (.nil ?_)))
  refine hK9 _ _ ?_
  refine .ret ?_
  refine hret _ _ ?_
  refine ⟨_, rfl, ?_⟩
  obtain rfl : i = xss.length := by omega
  rw [List.take_length] at hq
  exact .of (by rw [hq])
theorem markCategory_c {c : Cat} {p : CatP} {lo hi : Nat} {k : Int} {H : GHeap} (w : CatW lo hi H c p := by assumption) (hs : c.Small := by assumption) (hk : 0 ≤ k := by omega) (hk' : k + c.total ≤ 9223372036854775000 := by omega) (hhi : hi ≤ H.next := by omega) :
    GCalls Try.prog 14 [.agg (c.cells p).toArray, .int .i64 k] H (fun v H' => v = .int .i64 (k + c.total) ∧ Marked lo hi H H' (c.leaves p) k) := by
  obtain ⟨w1, w2, w3, w4⟩ := w
  have ht : c.total = c.src.length + (c.tgt.length + (c.idn.length + sumL c.comp)) := rfl
  obtain ⟨s1, s2, s3, s4, s5, s6⟩ := hs
  refine GCalls.body (N := 22) (rs := [.tmp 4]) Try.func14 rfl rfl rfl rfl (fun Qx hret hend => ?_)
  refine .forget (fr' := [(0, some _), (1, some _)]) ⟨rfl, rfl, trivial⟩ ?_
  refine .seq (fun K1 hK1 => ?_)
  refine .region ?_
  refine .r rfl rfl rfl (.boxR rfl sz_27_D rfl) ?_
  rintro _ H2 ⟨g2, rfl, le2, ge2, at2⟩
  have nx_H2 := le2.1
  have lt_at2 := GHeap.lt_of_get at2
  have mm2 : MemN _ _ _ _ _ := ⟨rfl, Mem.of_get at2⟩
  replace w1 := w1.stm (.of_le le2)
  replace w2 := w2.stm (.of_le le2)
  replace w3 := w3.stm (.of_le le2)
  replace w4 := w4.stm (.of_le le2)
  have hc : Mem _ g2 0 (c.cells p) := Mem.of_get at2
  refine .m rfl rfl rfl (.assign rfl) (.nil ?_)
  refine hK1 _ _ ?_
  refine .seq (fun K2 hK2 => ?_)
  refine .region ?_
  have c1 : H2.cell g2 (0 + 1) = some (.slice p.a1 c.src.length c.src.length) := Mem.of_get at2 1 _ rfl
  refine .m rfl rfl rfl (.fieldAddr fo_27_1_B rfl) ?_
  refine .m rfl rfl rfl (.load on_22_B rfl (by first | assumption | exact Mem.of_get at2 1 _ rfl)) ?_
  refine .m rfl rfl rfl (.move rfl) ?_
  refine .call rfl rfl rfl rfl @Try.call30 rfl (markInt64S_c) ?_
  rintro _ H8 ⟨rfl, mk8⟩
  have sm8 := mk8.stm
  have nx_H8 := sm8.nx
  replace at2 := sm8.same _ _ (by omega) at2
  replace w1 := w1.stm sm8
  replace w2 := w2.stm sm8
  replace w3 := w3.stm sm8
  replace w4 := w4.stm sm8
  clear mm2
  have mm2 : MemN _ _ _ _ _ := ⟨rfl, Mem.of_get at2⟩
  refine .m rfl rfl rfl (.assign rfl) (.nil ?_)
  refine hK2 _ _ ?_
  refine .seq (fun K3 hK3 => ?_)
  refine .region ?_
  have c2 : H8.cell g2 (0 + 2) = some (.slice p.a2 c.tgt.length c.tgt.length) := Mem.of_get at2 2 _ rfl
  refine .m rfl rfl rfl (.fieldAddr fo_27_2_B rfl) ?_
  refine .m rfl rfl rfl (.load on_22_B rfl (by first | assumption | exact Mem.of_get at2 2 _ rfl)) ?_
  refine .m rfl rfl rfl (.move rfl) ?_
  refine .call rfl rfl rfl rfl @Try.call30 rfl (markInt64S_c) ?_
  rintro _ H12 ⟨rfl, mk12⟩
  have sm12 := mk12.stm
  have nx_H12 := sm12.nx
  replace at2 := sm12.same _ _ (by omega) at2
  replace w1 := w1.stm sm12
  replace w2 := w2.stm sm12
  replace w3 := w3.stm sm12
  replace w4 := w4.stm sm12
  clear mm2
  have mm2 : MemN _ _ _ _ _ := ⟨rfl, Mem.of_get at2⟩
  refine .m rfl rfl rfl (.assign rfl) (.nil ?_)
  refine hK3 _ _ ?_
  refine .seq (fun K4 hK4 => ?_)
  refine .region ?_
  have c3 : H12.cell g2 (0 + 3) = some (.slice p.a3 c.idn.length c.idn.length) := Mem.of_get at2 3 _ rfl
  refine .m rfl rfl rfl (.fieldAddr fo_27_3_B rfl) ?_
  refine .m rfl rfl rfl (.load on_22_B rfl (by first | assumption | exact Mem.of_get at2 3 _ rfl)) ?_
  refine .m rfl rfl rfl (.move rfl) ?_
  refine .call rfl rfl rfl rfl @Try.call30 rfl (markInt64S_c) ?_
  rintro _ H16 ⟨rfl, mk16⟩
  have sm16 := mk16.stm
  have nx_H16 := sm16.nx
  replace at2 := sm16.same _ _ (by omega) at2
  replace w1 := w1.stm sm16
  replace w2 := w2.stm sm16
  replace w3 := w3.stm sm16
  replace w4 := w4.stm sm16
  clear mm2
  have mm2 : MemN _ _ _ _ _ := ⟨rfl, Mem.of_get at2⟩
  refine .m rfl rfl rfl (.assign rfl) (.nil ?_)
  refine hK4 _ _ ?_
  refine .seq (fun K5 hK5 => ?_)
  refine .region ?_
  have c4 : H16.cell g2 (0 + 4) = some (.slice p.a4 c.comp.length c.comp.length) := Mem.of_get at2 4 _ rfl
  refine .m rfl rfl rfl (.fieldAddr fo_27_4_B rfl) ?_
  refine .m rfl rfl rfl (.load on_23_B rfl (by first | assumption | exact Mem.of_get at2 4 _ rfl)) ?_
  refine .m rfl rfl rfl (.move rfl) ?_
  refine .call rfl rfl rfl rfl @Try.call25 rfl (markInt64SS_c) ?_
  rintro _ H20 ⟨rfl, mk20⟩
  have sm20 := mk20.stm
  have nx_H20 := sm20.nx
  replace at2 := sm20.same _ _ (by omega) at2
  replace w1 := w1.stm sm20
  replace w2 := w2.stm sm20
  replace w3 := w3.stm sm20
  replace w4 := w4.stm sm20
  clear mm2
  have mm2 : MemN _ _ _ _ _ := ⟨rfl, Mem.of_get at2⟩
  refine .m rfl rfl rfl (.assign rfl) (.nil ?_)
  refine hK5 _ _ ?_
  refine .seq (fun K6 hK6 => ?_)
  refine .region (.m rfl rfl rfl (.move rfl) (.m rfl rfl rfl (.assign rfl) (.nil ?_)))
  refine hK6 _ _ ?_
  refine .ret ?_
  refine hret _ _ ?_
  refine ⟨_, rfl, ?_⟩
  exact ⟨by rw [ht]; congr 1; omega, .le_left le2 (mk8.app' (mk12.app' (mk16.app' mk20 (by simp [lvSum])) (by simp [lvSum])) (by simp [lvSum]))⟩
theorem heldCategory_c {c : Cat} {p : CatP} {lo hi b : Nat} {k : Int} {H : GHeap} (w : CatW lo hi H c p := by assumption) (h : Held b H (c.leaves p) k := by assumption) (hs : c.Small := by assumption) (hk : 0 ≤ k := by omega) (hk' : k + c.total ≤ 9223372036854775000 := by omega) :
    GCalls Try.prog 15 [.agg (c.cells p).toArray, .int .i64 k] H (Ret (.int .i64 (k + c.total)) H) := by
  refine GCalls.ret rfl ?_
  have ht : c.total = c.src.length + (c.tgt.length + (c.idn.length + sumL c.comp)) := rfl
  obtain ⟨s1, s2, s3, s4, s5, s6⟩ := hs
  obtain ⟨v1, h⟩ := h.app
  obtain ⟨v2, h⟩ := h.app
  obtain ⟨v3, v4⟩ := h.app
  simp only [lvSum, Nat.add_zero] at v2 v3 v4
  refine GCalls.body (N := 30) (rs := [.tmp 4]) Try.func15 rfl rfl rfl rfl (fun Qx hret hend => ?_)
  refine .forget (fr' := [(0, some _), (1, some _)]) ⟨rfl, rfl, trivial⟩ ?_
  have hle := GHeap.Le.refl H
  refine .seq (fun K1 hK1 => ?_)
  refine .region ?_
  refine .r rfl rfl rfl (.boxR rfl sz_27_D rfl) ?_
  rintro _ H2 ⟨g2, rfl, le2, ge2, at2⟩
  have nx_H2 := le2.1
  replace hle := hle.trans le2
  have lt_at2 := GHeap.lt_of_get at2
  have mm2 : MemN _ _ _ _ _ := ⟨rfl, Mem.of_get at2⟩
  refine .m rfl rfl rfl (.assign rfl) (.nil ?_)
  refine hK1 _ _ ?_
  refine .seq (fun K2 hK2 => ?_)
  refine .region ?_
  replace v1 := v1.keep (.of_le le2) (Nat.zero_le _)
  replace v2 := v2.keep (.of_le le2) (Nat.zero_le _)
  replace v3 := v3.keep (.of_le le2) (Nat.zero_le _)
  replace v4 := v4.keep (.of_le le2) (Nat.zero_le _)
  have hsl := w.2.2.2.1.mono le2
  have c1 : H2.cell g2 (0 + 1) = some (.slice p.a1 c.src.length c.src.length) := Mem.of_get at2 1 _ rfl
  have c2 : H2.cell g2 (0 + 2) = some (.slice p.a2 c.tgt.length c.tgt.length) := Mem.of_get at2 2 _ rfl
  have c3 : H2.cell g2 (0 + 3) = some (.slice p.a3 c.idn.length c.idn.length) := Mem.of_get at2 3 _ rfl
  have c4 : H2.cell g2 (0 + 4) = some (.slice p.a4 c.comp.length c.comp.length) := Mem.of_get at2 4 _ rfl
  refine .m rfl rfl rfl (.fieldAddr fo_27_1_B rfl) ?_
  refine .m rfl rfl rfl (.load on_22_B rfl (by first | assumption | exact Mem.of_get at2 1 _ rfl)) ?_
  refine .m rfl rfl rfl (.move rfl) ?_
  refine .callQ rfl rfl rfl rfl @Try.call31 rfl (heldInt64S_c) ?_
  refine .m rfl rfl rfl (.assign rfl) (.nil ?_)
  refine hK2 _ _ ?_
  refine .seq (fun K3 hK3 => ?_)
  refine .seq (fun K4 hK4 => ?_)
  refine .region (.m rfl rfl rfl (.move rfl) (.m rfl rfl rfl (.cmp rfl rfl rfl) (.nil ?_)))
  refine hK4 _ _ ?_
  refine .cond rfl (fun h10 => ?_) (fun h10 => ?_)
  ·
   exact absurd h10 (by simp; omega)
  try simp only [sps] at h10
  refine .skip ?_
  refine hK3 _ _ ?_
  refine .seq (fun K5 hK5 => ?_)
  refine .region (.m rfl rfl rfl (.fieldAddr fo_27_2_B rfl) ?_)
  refine .m rfl rfl rfl (.load on_22_B rfl (by first | assumption | exact Mem.of_get at2 2 _ rfl)) ?_
  refine .m rfl rfl rfl (.move rfl) ?_
  refine .callQ rfl rfl rfl rfl @Try.call31 rfl (heldInt64S_c) ?_
  refine .m rfl rfl rfl (.assign rfl) (.nil ?_)
  refine hK5 _ _ ?_
  refine .seq (fun K6 hK6 => ?_)
  refine .seq (fun K7 hK7 => ?_)
  refine .region (.m rfl rfl rfl (.move rfl) (.m rfl rfl rfl (.cmp rfl rfl rfl) (.nil ?_)))
  refine hK7 _ _ ?_
  refine .cond rfl (fun h16 => ?_) (fun h16 => ?_)
  ·
   exact absurd h16 (by simp; omega)
  try simp only [sps] at h16
  refine .skip ?_
  refine hK6 _ _ ?_
  refine .seq (fun K8 hK8 => ?_)
  refine .region (.m rfl rfl rfl (.fieldAddr fo_27_3_B rfl) ?_)
  refine .m rfl rfl rfl (.load on_22_B rfl (by first | assumption | exact Mem.of_get at2 3 _ rfl)) ?_
  refine .m rfl rfl rfl (.move rfl) ?_
  refine .callQ rfl rfl rfl rfl @Try.call31 rfl (heldInt64S_c) ?_
  refine .m rfl rfl rfl (.assign rfl) (.nil ?_)
  refine hK8 _ _ ?_
  refine .seq (fun K9 hK9 => ?_)
  refine .seq (fun K10 hK10 => ?_)
  refine .region (.m rfl rfl rfl (.move rfl) (.m rfl rfl rfl (.cmp rfl rfl rfl) (.nil ?_)))
  refine hK10 _ _ ?_
  refine .cond rfl (fun h22 => ?_) (fun h22 => ?_)
  ·
   exact absurd h22 (by simp; omega)
  try simp only [sps] at h22
  refine .skip ?_
  refine hK9 _ _ ?_
  refine .seq (fun K11 hK11 => ?_)
  refine .region (.m rfl rfl rfl (.fieldAddr fo_27_4_B rfl) ?_)
  refine .m rfl rfl rfl (.load on_23_B rfl (by first | assumption | exact Mem.of_get at2 4 _ rfl)) ?_
  refine .m rfl rfl rfl (.move rfl) ?_
  refine .callQ rfl rfl rfl rfl @Try.call26 rfl (heldInt64SS_c) ?_
  refine .m rfl rfl rfl (.assign rfl) (.nil ?_)
  refine hK11 _ _ ?_
  refine .seq (fun K12 hK12 => ?_)
  refine .seq (fun K13 hK13 => ?_)
  refine .region (.m rfl rfl rfl (.move rfl) (.m rfl rfl rfl (.cmp rfl rfl rfl) (.nil ?_)))
  refine hK13 _ _ ?_
  refine .cond rfl (fun h28 => ?_) (fun h28 => ?_)
  ·
   exact absurd h28 (by simp; omega)
  try simp only [sps] at h28
  refine .skip ?_
  refine hK12 _ _ ?_
  refine .seq (fun K14 hK14 => ?_)
  refine .region (.m rfl rfl rfl (.move rfl) (.m rfl rfl rfl (.assign rfl) (.nil ?_)))
  refine hK14 _ _ ?_
  refine .ret ?_
  refine hret _ _ ?_
  refine ⟨_, rfl, ?_⟩
  exact ⟨by rw [ht]; congr 1; omega, hle⟩
end Go.Proofs.Ytgnfekfdmgnhcaa
/- The law of SkeletonOf. No condition but those of each statement. -/
namespace Go.Proofs.Ytgnfekfdmgnhcaa
open Go Go.GL Go.RowKit Go.Proofs
theorem ag_25_LSkeletonOf : aggT Try.prog 25 = some 5 := by kernel_rfl
set_option maxHeartbeats 40000000 in
theorem lawSkeletonOf_c {c : Cat} {p : CatP} {H : GHeap} (h0 : c.In H p) (w0 : c.Wide) :
    GCalls Try.prog 3 [.agg (c.cells p).toArray] H (fun v _ => v = .bool true) := by
  refine GCalls.body (N := 96) (rs := [.tmp 2]) Try.func3 rfl rfl rfl rfl (fun Qx hret hend => ?_)
  refine .forget (fr' := [(0, some _)]) ⟨rfl, trivial⟩ ?_
  have hle := GHeap.Le.refl H
  have base_h0 := h0
  refine .seq (fun K1 hK1 => ?_)
  refine .region ?_
  refine .r rfl rfl rfl (.boxR rfl sz_25_E rfl) ?_
  rintro _ H1 ⟨g1, rfl, le1, ge1, at1⟩
  have nx_H1 := le1.1
  replace hle := hle.trans le1
  have lt_at1 := GHeap.lt_of_get at1
  replace h0 := base_h0.mono hle
  have hb1 : Cat.At _ g1 0 c p := ⟨Mem.of_get at1, h0⟩
  obtain ⟨c01, c11, c21, c31, c41, i11, i21, i31, i41⟩ := hb1.get
  have hm1 : MemN _ _ _ _ _ := ⟨rfl, hb1.1⟩
  have hi1 := hb1.2
  refine .m rfl rfl rfl (.assign rfl) (.nil ?_)
  refine hK1 _ _ ?_
  refine .seq (fun K2 hK2 => ?_)
  refine .region (.m rfl rfl rfl (.assign rfl) (.nil ?_))
  refine hK2 _ _ ?_
  refine .seq (fun K3 hK3 => ?_)
  refine .region ?_
  refine .m rfl rfl rfl (.loadM ag_25_LSkeletonOf rfl ⟨rfl, Mem.of_get at1⟩) ?_
  refine .m rfl rfl rfl (.move rfl) ?_
  refine .call rfl rfl rfl rfl @Try.call9 rfl (szCategory_c) ?_
  rintro _ _ ⟨heq, lf16, rfl, z116, z216, z316⟩
  obtain rfl := heq.symm
  refine .m rfl rfl rfl (.assign rfl) (.nil ?_)
  refine hK3 _ _ ?_
  refine .seq (fun K4 hK4 => ?_)
  refine .seq (fun K5 hK5 => ?_)
  refine .region (.m rfl rfl rfl (.move rfl) (.m rfl rfl rfl (.cmp rfl rfl rfl) (.nil ?_)))
  refine hK5 _ _ ?_
  refine .cond rfl (fun h18 => ?_) (fun h18 => ?_)
  ·
   try simp only [sps] at h18
   refine .seq (fun K6 hK6 => ?_)
   refine .region (.m rfl rfl rfl (.assign rfl) (.nil ?_))
   refine hK6 _ _ ?_
   refine .ret ?_
   refine hret _ _ ?_
   refine ⟨_, rfl, ?_⟩
   first
   | exact rfl
   | exact absurd trivial (by assumption)
   | contradiction
   | (exfalso; omega)
  simp only [sps] at h18
  have hsR := c.sk_small
  have htR := hsR.tot
  have hsm16 := z316 (by omega)
  have tb16 := hsm16.tot
  refine .skip ?_
  refine hK4 _ _ ?_
  refine .seq (fun K7 hK7 => ?_)
  refine .region ?_
  refine .m rfl rfl rfl (.loadM ag_25_LSkeletonOf rfl ⟨rfl, Mem.of_get at1⟩) ?_
  refine .call rfl rfl rfl rfl @Try.call11 rfl (toCategory_c) ?_
  rintro _ H21 ⟨le21, p21, rfl, v21⟩
  have nx_H21 := le21.1
  replace hle := hle.trans le21
  replace at1 := le21.2 _ _ at1
  have bs_v21 := v21
  have lv_v21 : Keep H1.next H21 H21 := fun _ _ _ h => h
  replace h0 := base_h0.mono hle
  clear hb1 c01 c11 c21 c31 c41 i11 i21 i31 i41 hm1 hi1
  have hb1 : Cat.At _ g1 0 c p := ⟨Mem.of_get at1, h0⟩
  obtain ⟨c01, c11, c21, c31, c41, i11, i21, i31, i41⟩ := hb1.get
  have hm1 : MemN _ _ _ _ _ := ⟨rfl, hb1.1⟩
  have hi1 := hb1.2
  have i21 := v21.inn
  refine .call rfl rfl rfl rfl @Try.call10 rfl (specSkeletonOf_c) ?_
  rintro _ H22 ⟨le22, p22, rfl, v22⟩
  have nx_H22 := le22.1
  replace hle := hle.trans le22
  replace at1 := le22.2 _ _ at1
  replace lv_v21 := Keep.le lv_v21 le22
  replace v21 := bs_v21.keep lv_v21 (Nat.le_refl _)
  have bs_v22 := v22
  have lv_v22 : Keep H21.next H22 H22 := fun _ _ _ h => h
  replace h0 := base_h0.mono hle
  clear hb1 c01 c11 c21 c31 c41 i11 i21 i31 i41 hm1 hi1
  have hb1 : Cat.At _ g1 0 c p := ⟨Mem.of_get at1, h0⟩
  obtain ⟨c01, c11, c21, c31, c41, i11, i21, i31, i41⟩ := hb1.get
  have hm1 : MemN _ _ _ _ _ := ⟨rfl, hb1.1⟩
  have hi1 := hb1.2
  clear i21
  have i21 := v21.inn
  have i22 := v22.inn
  refine .m rfl rfl rfl (.move rfl) (.m rfl rfl rfl (.extract rfl rfl) (.m rfl rfl rfl (.extract rfl rfl) ?_))
  refine .r rfl rfl rfl (.allocR rfl ze_27_E rfl) ?_
  rintro _ H4 ⟨g4, rfl, le4, ge4, at4⟩
  have nx_H4 := le4.1
  replace hle := hle.trans le4
  replace at1 := le4.2 _ _ at1
  replace lv_v21 := Keep.le lv_v21 le4
  replace v21 := bs_v21.keep lv_v21 (Nat.le_refl _)
  replace lv_v22 := Keep.le lv_v22 le4
  replace v22 := bs_v22.keep lv_v22 (Nat.le_refl _)
  have lt_at4 := GHeap.lt_of_get at4
  replace h0 := base_h0.mono hle
  clear hb1 c01 c11 c21 c31 c41 i11 i21 i31 i41 hm1 hi1
  have hb1 : Cat.At _ g1 0 c p := ⟨Mem.of_get at1, h0⟩
  obtain ⟨c01, c11, c21, c31, c41, i11, i21, i31, i41⟩ := hb1.get
  have hm1 : MemN _ _ _ _ _ := ⟨rfl, hb1.1⟩
  have hi1 := hb1.2
  clear i21
  have i21 := v21.inn
  clear i22
  have i22 := v22.inn
  refine .r0 rfl rfl (.fillR rfl sz_27_D rfl rfl rfl rfl (by assumption) (by first | rfl | exact Nat.le_of_ble_eq_true rfl | simp)) ?_
  rintro _ H5007 ⟨rfl, st5007, at5007⟩
  have nx_H5007 := st5007.nx
  replace hle := hle.st st5007 (fun k hk => ⟨by omega, trivial⟩)
  have ne_g1_g4 : g1 ≠ g4 := by omega
  replace at1 := st5007.same _ _ ⟨ne_g1_g4, trivial⟩ at1
  replace lv_v21 := Keep.st lv_v21 st5007 (fun k hb hk => ⟨by omega, trivial⟩)
  replace v21 := bs_v21.keep lv_v21 (Nat.le_refl _)
  replace lv_v22 := Keep.st lv_v22 st5007 (fun k hb hk => ⟨by omega, trivial⟩)
  replace v22 := bs_v22.keep lv_v22 (Nat.le_refl _)
  have lt_at5007 := GHeap.lt_of_get at5007
  replace h0 := base_h0.mono hle
  clear hb1 c01 c11 c21 c31 c41 i11 i21 i31 i41 hm1 hi1
  have hb1 : Cat.At _ g1 0 c p := ⟨Mem.of_get at1, h0⟩
  obtain ⟨c01, c11, c21, c31, c41, i11, i21, i31, i41⟩ := hb1.get
  have hm1 : MemN _ _ _ _ _ := ⟨rfl, hb1.1⟩
  have hi1 := hb1.2
  clear i21
  have i21 := v21.inn
  clear i22
  have i22 := v22.inn
  have mm5007 : MemN _ _ _ _ _ := ⟨rfl, Mem.of_get at5007⟩
  refine .m rfl rfl rfl (.assign rfl) (.nil ?_)
  refine hK7 _ _ ?_
  refine .seq (fun K8 hK8 => ?_)
  refine .region ?_
  refine .m rfl rfl rfl (.loadM ag_25_LSkeletonOf rfl ⟨rfl, Mem.of_get at1⟩) ?_
  refine .call rfl rfl rfl rfl @Try.call11 rfl (toCategory_c) ?_
  rintro _ H26 ⟨le26, p26, rfl, v26⟩
  have nx_H26 := le26.1
  replace hle := hle.trans le26
  replace at1 := le26.2 _ _ at1
  replace at5007 := le26.2 _ _ at5007
  replace lv_v21 := Keep.le lv_v21 le26
  replace v21 := bs_v21.keep lv_v21 (Nat.le_refl _)
  replace lv_v22 := Keep.le lv_v22 le26
  replace v22 := bs_v22.keep lv_v22 (Nat.le_refl _)
  have bs_v26 := v26
  have lv_v26 : Keep H5007.next H26 H26 := fun _ _ _ h => h
  replace h0 := base_h0.mono hle
  clear hb1 c01 c11 c21 c31 c41 i11 i21 i31 i41 hm1 hi1
  have hb1 : Cat.At _ g1 0 c p := ⟨Mem.of_get at1, h0⟩
  obtain ⟨c01, c11, c21, c31, c41, i11, i21, i31, i41⟩ := hb1.get
  have hm1 : MemN _ _ _ _ _ := ⟨rfl, hb1.1⟩
  have hi1 := hb1.2
  clear i21
  have i21 := v21.inn
  clear i22
  have i22 := v22.inn
  clear mm5007
  have mm5007 : MemN _ _ _ _ _ := ⟨rfl, Mem.of_get at5007⟩
  have i26 := v26.inn
  refine .r rfl rfl rfl (.allocR rfl ze_27_E rfl) ?_
  rintro _ H6 ⟨g6, rfl, le6, ge6, at6⟩
  have nx_H6 := le6.1
  replace hle := hle.trans le6
  replace at1 := le6.2 _ _ at1
  replace at5007 := le6.2 _ _ at5007
  replace lv_v21 := Keep.le lv_v21 le6
  replace v21 := bs_v21.keep lv_v21 (Nat.le_refl _)
  replace lv_v22 := Keep.le lv_v22 le6
  replace v22 := bs_v22.keep lv_v22 (Nat.le_refl _)
  replace lv_v26 := Keep.le lv_v26 le6
  replace v26 := bs_v26.keep lv_v26 (Nat.le_refl _)
  have lt_at6 := GHeap.lt_of_get at6
  replace h0 := base_h0.mono hle
  clear hb1 c01 c11 c21 c31 c41 i11 i21 i31 i41 hm1 hi1
  have hb1 : Cat.At _ g1 0 c p := ⟨Mem.of_get at1, h0⟩
  obtain ⟨c01, c11, c21, c31, c41, i11, i21, i31, i41⟩ := hb1.get
  have hm1 : MemN _ _ _ _ _ := ⟨rfl, hb1.1⟩
  have hi1 := hb1.2
  clear i21
  have i21 := v21.inn
  clear i22
  have i22 := v22.inn
  clear mm5007
  have mm5007 : MemN _ _ _ _ _ := ⟨rfl, Mem.of_get at5007⟩
  clear i26
  have i26 := v26.inn
  refine .r0 rfl rfl (.fillR rfl sz_27_D rfl rfl rfl rfl (by assumption) (by first | rfl | exact Nat.le_of_ble_eq_true rfl | simp)) ?_
  rintro _ H6003 ⟨rfl, st6003, at6003⟩
  have nx_H6003 := st6003.nx
  replace hle := hle.st st6003 (fun k hk => ⟨by omega, trivial⟩)
  have ne_g1_g6 : g1 ≠ g6 := by omega
  replace at1 := st6003.same _ _ ⟨ne_g1_g6, trivial⟩ at1
  have ne_g4_g6 : g4 ≠ g6 := by omega
  replace at5007 := st6003.same _ _ ⟨ne_g4_g6, trivial⟩ at5007
  replace lv_v21 := Keep.st lv_v21 st6003 (fun k hb hk => ⟨by omega, trivial⟩)
  replace v21 := bs_v21.keep lv_v21 (Nat.le_refl _)
  replace lv_v22 := Keep.st lv_v22 st6003 (fun k hb hk => ⟨by omega, trivial⟩)
  replace v22 := bs_v22.keep lv_v22 (Nat.le_refl _)
  replace lv_v26 := Keep.st lv_v26 st6003 (fun k hb hk => ⟨by omega, trivial⟩)
  replace v26 := bs_v26.keep lv_v26 (Nat.le_refl _)
  have lt_at6003 := GHeap.lt_of_get at6003
  replace h0 := base_h0.mono hle
  clear hb1 c01 c11 c21 c31 c41 i11 i21 i31 i41 hm1 hi1
  have hb1 : Cat.At _ g1 0 c p := ⟨Mem.of_get at1, h0⟩
  obtain ⟨c01, c11, c21, c31, c41, i11, i21, i31, i41⟩ := hb1.get
  have hm1 : MemN _ _ _ _ _ := ⟨rfl, hb1.1⟩
  have hi1 := hb1.2
  clear i21
  have i21 := v21.inn
  clear i22
  have i22 := v22.inn
  clear mm5007
  have mm5007 : MemN _ _ _ _ _ := ⟨rfl, Mem.of_get at5007⟩
  clear i26
  have i26 := v26.inn
  have mm6003 : MemN _ _ _ _ _ := ⟨rfl, Mem.of_get at6003⟩
  refine .nil ?_
  refine hK8 _ _ ?_
  refine .seq (fun K9 hK9 => ?_)
  refine .region ?_
  refine .m rfl rfl rfl (.loadM ag_27_D rfl ⟨rfl, Mem.of_get at6003⟩) ?_
  refine .call rfl rfl rfl rfl @Try.call12 rfl (implSkeletonOf_c) ?_
  rintro _ H29 ⟨le29, p29, rfl, v29⟩
  have nx_H29 := le29.1
  replace hle := hle.trans le29
  replace at1 := le29.2 _ _ at1
  replace at5007 := le29.2 _ _ at5007
  replace at6003 := le29.2 _ _ at6003
  replace lv_v21 := Keep.le lv_v21 le29
  replace v21 := bs_v21.keep lv_v21 (Nat.le_refl _)
  replace lv_v22 := Keep.le lv_v22 le29
  replace v22 := bs_v22.keep lv_v22 (Nat.le_refl _)
  replace lv_v26 := Keep.le lv_v26 le29
  replace v26 := bs_v26.keep lv_v26 (Nat.le_refl _)
  have bs_v29 := v29
  have lv_v29 : Keep H6003.next H29 H29 := fun _ _ _ h => h
  replace h0 := base_h0.mono hle
  clear hb1 c01 c11 c21 c31 c41 i11 i21 i31 i41 hm1 hi1
  have hb1 : Cat.At _ g1 0 c p := ⟨Mem.of_get at1, h0⟩
  obtain ⟨c01, c11, c21, c31, c41, i11, i21, i31, i41⟩ := hb1.get
  have hm1 : MemN _ _ _ _ _ := ⟨rfl, hb1.1⟩
  have hi1 := hb1.2
  clear i21
  have i21 := v21.inn
  clear i22
  have i22 := v22.inn
  clear mm5007
  have mm5007 : MemN _ _ _ _ _ := ⟨rfl, Mem.of_get at5007⟩
  clear i26
  have i26 := v26.inn
  clear mm6003
  have mm6003 : MemN _ _ _ _ _ := ⟨rfl, Mem.of_get at6003⟩
  have i29 := v29.inn
  refine .m rfl rfl rfl (.move rfl) (.m rfl rfl rfl (.extract rfl rfl) (.m rfl rfl rfl (.extract rfl rfl) ?_))
  refine .r rfl rfl rfl (.allocR rfl ze_27_E rfl) ?_
  rintro _ H7 ⟨g7, rfl, le7, ge7, at7⟩
  have nx_H7 := le7.1
  replace hle := hle.trans le7
  replace at1 := le7.2 _ _ at1
  replace at5007 := le7.2 _ _ at5007
  replace at6003 := le7.2 _ _ at6003
  replace lv_v21 := Keep.le lv_v21 le7
  replace v21 := bs_v21.keep lv_v21 (Nat.le_refl _)
  replace lv_v22 := Keep.le lv_v22 le7
  replace v22 := bs_v22.keep lv_v22 (Nat.le_refl _)
  replace lv_v26 := Keep.le lv_v26 le7
  replace v26 := bs_v26.keep lv_v26 (Nat.le_refl _)
  replace lv_v29 := Keep.le lv_v29 le7
  replace v29 := bs_v29.keep lv_v29 (Nat.le_refl _)
  have lt_at7 := GHeap.lt_of_get at7
  replace h0 := base_h0.mono hle
  clear hb1 c01 c11 c21 c31 c41 i11 i21 i31 i41 hm1 hi1
  have hb1 : Cat.At _ g1 0 c p := ⟨Mem.of_get at1, h0⟩
  obtain ⟨c01, c11, c21, c31, c41, i11, i21, i31, i41⟩ := hb1.get
  have hm1 : MemN _ _ _ _ _ := ⟨rfl, hb1.1⟩
  have hi1 := hb1.2
  clear i21
  have i21 := v21.inn
  clear i22
  have i22 := v22.inn
  clear mm5007
  have mm5007 : MemN _ _ _ _ _ := ⟨rfl, Mem.of_get at5007⟩
  clear i26
  have i26 := v26.inn
  clear mm6003
  have mm6003 : MemN _ _ _ _ _ := ⟨rfl, Mem.of_get at6003⟩
  clear i29
  have i29 := v29.inn
  refine .r0 rfl rfl (.fillR rfl sz_27_D rfl rfl rfl rfl (by assumption) (by first | rfl | exact Nat.le_of_ble_eq_true rfl | simp)) ?_
  rintro _ H7006 ⟨rfl, st7006, at7006⟩
  have nx_H7006 := st7006.nx
  replace hle := hle.st st7006 (fun k hk => ⟨by omega, trivial⟩)
  have ne_g1_g7 : g1 ≠ g7 := by omega
  replace at1 := st7006.same _ _ ⟨ne_g1_g7, trivial⟩ at1
  have ne_g4_g7 : g4 ≠ g7 := by omega
  replace at5007 := st7006.same _ _ ⟨ne_g4_g7, trivial⟩ at5007
  have ne_g6_g7 : g6 ≠ g7 := by omega
  replace at6003 := st7006.same _ _ ⟨ne_g6_g7, trivial⟩ at6003
  replace lv_v21 := Keep.st lv_v21 st7006 (fun k hb hk => ⟨by omega, trivial⟩)
  replace v21 := bs_v21.keep lv_v21 (Nat.le_refl _)
  replace lv_v22 := Keep.st lv_v22 st7006 (fun k hb hk => ⟨by omega, trivial⟩)
  replace v22 := bs_v22.keep lv_v22 (Nat.le_refl _)
  replace lv_v26 := Keep.st lv_v26 st7006 (fun k hb hk => ⟨by omega, trivial⟩)
  replace v26 := bs_v26.keep lv_v26 (Nat.le_refl _)
  replace lv_v29 := Keep.st lv_v29 st7006 (fun k hb hk => ⟨by omega, trivial⟩)
  replace v29 := bs_v29.keep lv_v29 (Nat.le_refl _)
  have lt_at7006 := GHeap.lt_of_get at7006
  replace h0 := base_h0.mono hle
  clear hb1 c01 c11 c21 c31 c41 i11 i21 i31 i41 hm1 hi1
  have hb1 : Cat.At _ g1 0 c p := ⟨Mem.of_get at1, h0⟩
  obtain ⟨c01, c11, c21, c31, c41, i11, i21, i31, i41⟩ := hb1.get
  have hm1 : MemN _ _ _ _ _ := ⟨rfl, hb1.1⟩
  have hi1 := hb1.2
  clear i21
  have i21 := v21.inn
  clear i22
  have i22 := v22.inn
  clear mm5007
  have mm5007 : MemN _ _ _ _ _ := ⟨rfl, Mem.of_get at5007⟩
  clear i26
  have i26 := v26.inn
  clear mm6003
  have mm6003 : MemN _ _ _ _ _ := ⟨rfl, Mem.of_get at6003⟩
  clear i29
  have i29 := v29.inn
  have mm7006 : MemN _ _ _ _ _ := ⟨rfl, Mem.of_get at7006⟩
  refine .m rfl rfl rfl (.assign rfl) (.nil ?_)
  refine hK9 _ _ ?_
  refine .seq (fun K10 hK10 => ?_)
  refine .seq (fun K11 hK11 => ?_)
  refine .region ?_
  refine .m rfl rfl rfl (.loadM ag_27_D rfl ⟨rfl, Mem.of_get at7006⟩) ?_
  refine .m rfl rfl rfl (.loadM ag_27_D rfl ⟨rfl, Mem.of_get at5007⟩) ?_
  refine .callQ rfl rfl rfl rfl @Try.call13 rfl (eqCategory_c) ?_
  refine .m rfl rfl rfl (.not rfl) (.m rfl rfl rfl (.move rfl) ?_)
  refine .split (fun h36 => ?_) (fun h36 => ?_)
  ·
   try simp only [sps] at h36
   refine .sg rfl rfl rfl rfl rfl (.sg rfl rfl rfl rfl rfl (.sg rfl rfl rfl rfl rfl (.m rfl rfl rfl (.pickT rfl rfl) ?_)))
   refine .nil ?_
   refine hK11 _ _ ?_
   refine .condT rfl ?_
   refine .seq (fun K12 hK12 => ?_)
   refine .region (.m rfl rfl rfl (.assign rfl) (.nil ?_))
   refine hK12 _ _ ?_
   refine .ret ?_
   refine hret _ _ ?_
   refine ⟨_, rfl, ?_⟩
   first
   | exact rfl
   | exact absurd trivial (by assumption)
   | contradiction
   | (exfalso; omega)
  try simp only [sps] at h36
  refine .mg rfl rfl rfl rfl rfl (.move rfl) (.mg rfl rfl rfl rfl rfl (.move rfl) (.mg rfl rfl rfl rfl rfl (.cmp rfl rfl rfl) (.m rfl rfl rfl (.pickF rfl rfl) ?_)))
  refine .nil ?_
  refine hK11 _ _ ?_
  refine .cond rfl (fun h40 => ?_) (fun h40 => ?_)
  ·
   try simp only [sps] at h40
   refine .seq (fun K13 hK13 => ?_)
   refine .region (.m rfl rfl rfl (.assign rfl) (.nil ?_))
   refine hK13 _ _ ?_
   refine .ret ?_
   refine hret _ _ ?_
   refine ⟨_, rfl, ?_⟩
   first
   | exact rfl
   | exact absurd trivial (by assumption)
   | contradiction
   | (exfalso; omega)
  try simp only [sps] at h40
  refine .skip ?_
  refine hK10 _ _ ?_
  refine .seq (fun K14 hK14 => ?_)
  refine .seq (fun K15 hK15 => ?_)
  refine .regionD mixed_orders_B (.q 0 (.q 1 (.c 2 1 (.c 3 0 (.q 4 (.done)))))) (by kernel_rfl) ?_
  refine .m rfl rfl rfl rfl (.refl _) (.loadM ag_27_D rfl ⟨rfl, Mem.of_get at6003⟩) ?_
  refine .m rfl rfl rfl rfl (.refl _) (.loadM ag_25_LSkeletonOf rfl ⟨rfl, Mem.of_get at1⟩) ?_
  refine .call1 rfl rfl rfl rfl rfl @Try.call11 rfl (toCategory_c) ?_
  rintro _ H43 ⟨le43, p43, rfl, v43⟩
  have hbl := le43
  refine ⟨hbl, ?_⟩
  have nx_H43 := le43.1
  replace hle := hle.trans le43
  replace at1 := le43.2 _ _ at1
  replace at5007 := le43.2 _ _ at5007
  replace at6003 := le43.2 _ _ at6003
  replace at7006 := le43.2 _ _ at7006
  replace lv_v21 := Keep.le lv_v21 le43
  replace v21 := bs_v21.keep lv_v21 (Nat.le_refl _)
  replace lv_v22 := Keep.le lv_v22 le43
  replace v22 := bs_v22.keep lv_v22 (Nat.le_refl _)
  replace lv_v26 := Keep.le lv_v26 le43
  replace v26 := bs_v26.keep lv_v26 (Nat.le_refl _)
  replace lv_v29 := Keep.le lv_v29 le43
  replace v29 := bs_v29.keep lv_v29 (Nat.le_refl _)
  have bs_v43 := v43
  have lv_v43 : Keep H7006.next H43 H43 := fun _ _ _ h => h
  replace h0 := base_h0.mono hle
  clear hb1 c01 c11 c21 c31 c41 i11 i21 i31 i41 hm1 hi1
  have hb1 : Cat.At _ g1 0 c p := ⟨Mem.of_get at1, h0⟩
  obtain ⟨c01, c11, c21, c31, c41, i11, i21, i31, i41⟩ := hb1.get
  have hm1 : MemN _ _ _ _ _ := ⟨rfl, hb1.1⟩
  have hi1 := hb1.2
  clear i21
  have i21 := v21.inn
  clear i22
  have i22 := v22.inn
  clear mm5007
  have mm5007 : MemN _ _ _ _ _ := ⟨rfl, Mem.of_get at5007⟩
  clear i26
  have i26 := v26.inn
  clear mm6003
  have mm6003 : MemN _ _ _ _ _ := ⟨rfl, Mem.of_get at6003⟩
  clear i29
  have i29 := v29.inn
  clear mm7006
  have mm7006 : MemN _ _ _ _ _ := ⟨rfl, Mem.of_get at7006⟩
  have i43 := v43.inn
  refine .callQ0 rfl rfl rfl rfl rfl @Try.call13 rfl (eqCategory_c) ?_
  refine .m rfl rfl rfl rfl (.refl _) (.not rfl) ?_
  refine .done ?_
  refine hK15 _ _ ?_
  refine .cond rfl (fun h45 => ?_) (fun h45 => ?_)
  ·
   try simp only [sps] at h45
   refine .seq (fun K16 hK16 => ?_)
   refine .region (.m rfl rfl rfl (.assign rfl) (.nil ?_))
   refine hK16 _ _ ?_
   refine .ret ?_
   refine hret _ _ ?_
   refine ⟨_, rfl, ?_⟩
   first
   | exact rfl
   | exact absurd trivial (by assumption)
   | contradiction
   | (exfalso; omega)
  try simp only [sps] at h45
  refine .skip ?_
  refine hK14 _ _ ?_
  refine .seq (fun K17 hK17 => ?_)
  refine .region (.m rfl rfl rfl (.assign rfl) (.nil ?_))
  refine hK17 _ _ ?_
  refine .seq (fun K18 hK18 => ?_)
  refine .region ?_
  refine .m rfl rfl rfl (.loadM ag_27_D rfl ⟨rfl, Mem.of_get at6003⟩) ?_
  refine .m rfl rfl rfl (.move rfl) ?_
  have w_v26 := CatW.of_at bs_v26 lv_v26
  refine .call rfl rfl rfl rfl @Try.call14 rfl (markCategory_c) ?_
  rintro _ H48 ⟨rfl, mk48⟩
  have sm48 := mk48.stm
  have nx_H48 := sm48.nx
  replace hle := StM.le_left hle sm48 (by omega)
  replace at1 := sm48.same _ _ (by omega) at1
  replace at5007 := sm48.same _ _ (by omega) at5007
  replace at6003 := sm48.same _ _ (by omega) at6003
  replace at7006 := sm48.same _ _ (by omega) at7006
  replace lv_v21 := Keep.stM lv_v21 sm48 (fun k hb hk => by omega)
  replace v21 := bs_v21.keep lv_v21 (Nat.le_refl _)
  replace lv_v22 := Keep.stM lv_v22 sm48 (fun k hb hk => by omega)
  replace v22 := bs_v22.keep lv_v22 (Nat.le_refl _)
  replace lv_v29 := Keep.stM lv_v29 sm48 (fun k hb hk => by omega)
  replace v29 := bs_v29.keep lv_v29 (Nat.le_refl _)
  replace lv_v43 := Keep.stM lv_v43 sm48 (fun k hb hk => by omega)
  replace v43 := bs_v43.keep lv_v43 (Nat.le_refl _)
  replace h0 := base_h0.mono hle
  clear hb1 c01 c11 c21 c31 c41 i11 i21 i31 i41 hm1 hi1
  have hb1 : Cat.At _ g1 0 c p := ⟨Mem.of_get at1, h0⟩
  obtain ⟨c01, c11, c21, c31, c41, i11, i21, i31, i41⟩ := hb1.get
  have hm1 : MemN _ _ _ _ _ := ⟨rfl, hb1.1⟩
  have hi1 := hb1.2
  clear i21
  have i21 := v21.inn
  clear i22
  have i22 := v22.inn
  clear mm5007
  have mm5007 : MemN _ _ _ _ _ := ⟨rfl, Mem.of_get at5007⟩
  clear mm6003
  have mm6003 : MemN _ _ _ _ _ := ⟨rfl, Mem.of_get at6003⟩
  clear i29
  have i29 := v29.inn
  clear mm7006
  have mm7006 : MemN _ _ _ _ _ := ⟨rfl, Mem.of_get at7006⟩
  clear i43
  have i43 := v43.inn
  refine .m rfl rfl rfl (.assign rfl) (.nil ?_)
  refine hK18 _ _ ?_
  refine .seq (fun K19 hK19 => ?_)
  refine .seq (fun K20 hK20 => ?_)
  refine .region (.m rfl rfl rfl (.move rfl) (.m rfl rfl rfl (.cmp rfl rfl rfl) (.m rfl rfl rfl (.move rfl) ?_)))
  refine .split (fun h51 => ?_) (fun h51 => ?_)
  ·
   try simp only [sps] at h51
   refine .sg rfl rfl rfl rfl rfl (.sg rfl rfl rfl rfl rfl (.sg rfl rfl rfl rfl rfl (.sg rfl rfl rfl rfl rfl ?_)))
   refine .m rfl rfl rfl (.pickT rfl rfl) (.m rfl rfl rfl (.move rfl) (.sg rfl rfl rfl rfl rfl (.sg rfl rfl rfl rfl rfl ?_)))
   refine .sg rfl rfl rfl rfl rfl (.m rfl rfl rfl (.pickT rfl rfl) (.nil ?_))
   refine hK20 _ _ ?_
   refine .condT rfl ?_
   refine .seq (fun K21 hK21 => ?_)
   refine .region (.m rfl rfl rfl (.assign rfl) (.nil ?_))
   refine hK21 _ _ ?_
   refine .ret ?_
   refine hret _ _ ?_
   refine ⟨_, rfl, ?_⟩
   first
   | exact rfl
   | exact absurd trivial (by assumption)
   | contradiction
   | (exfalso; omega)
  try simp only [sps] at h51
  refine .mg rfl rfl rfl rfl rfl (.loadM ag_27_D rfl ⟨rfl, Mem.of_get at7006⟩) ?_
  refine .mg rfl rfl rfl rfl rfl (.loadM ag_27_D rfl ⟨rfl, Mem.of_get at5007⟩) ?_
  refine .callQg rfl rfl rfl rfl rfl rfl @Try.call13 rfl (eqCategory_c) ?_
  refine .mg rfl rfl rfl rfl rfl (.not rfl) (.m rfl rfl rfl (.pickF rfl rfl) (.m rfl rfl rfl (.move rfl) ?_))
  refine .split (fun h57 => ?_) (fun h57 => ?_)
  ·
   try simp only [sps] at h57
   refine .sg rfl rfl rfl rfl rfl (.sg rfl rfl rfl rfl rfl (.sg rfl rfl rfl rfl rfl (.m rfl rfl rfl (.pickT rfl rfl) ?_)))
   refine .nil ?_
   refine hK20 _ _ ?_
   refine .condT rfl ?_
   refine .seq (fun K22 hK22 => ?_)
   refine .region (.m rfl rfl rfl (.assign rfl) (.nil ?_))
   refine hK22 _ _ ?_
   refine .ret ?_
   refine hret _ _ ?_
   refine ⟨_, rfl, ?_⟩
   first
   | exact rfl
   | exact absurd trivial (by assumption)
   | contradiction
   | (exfalso; omega)
  try simp only [sps] at h57
  refine .mg rfl rfl rfl rfl rfl (.move rfl) (.mg rfl rfl rfl rfl rfl (.move rfl) (.mg rfl rfl rfl rfl rfl (.cmp rfl rfl rfl) (.m rfl rfl rfl (.pickF rfl rfl) ?_)))
  refine .nil ?_
  refine hK20 _ _ ?_
  refine .cond rfl (fun h61 => ?_) (fun h61 => ?_)
  ·
   try simp only [sps] at h61
   refine .seq (fun K23 hK23 => ?_)
   refine .region (.m rfl rfl rfl (.assign rfl) (.nil ?_))
   refine hK23 _ _ ?_
   refine .ret ?_
   refine hret _ _ ?_
   refine ⟨_, rfl, ?_⟩
   first
   | exact rfl
   | exact absurd trivial (by assumption)
   | contradiction
   | (exfalso; omega)
  try simp only [sps] at h61
  refine .skip ?_
  refine hK19 _ _ ?_
  refine .seq (fun K24 hK24 => ?_)
  refine .region (.m rfl rfl rfl (.assign rfl) (.nil ?_))
  refine hK24 _ _ ?_
  refine .seq (fun K25 hK25 => ?_)
  refine .region ?_
  refine .m rfl rfl rfl (.loadM ag_27_D rfl ⟨rfl, Mem.of_get at7006⟩) ?_
  refine .m rfl rfl rfl (.move rfl) ?_
  have w_v29 := CatW.of_r bs_v29 lv_v29
  refine .call rfl rfl rfl rfl @Try.call14 rfl (markCategory_c) ?_
  rintro _ H64 ⟨rfl, mk64⟩
  have sm64 := mk64.stm
  have nx_H64 := sm64.nx
  replace hle := StM.le_left hle sm64 (by omega)
  replace at1 := sm64.same _ _ (by omega) at1
  replace at5007 := sm64.same _ _ (by omega) at5007
  replace at6003 := sm64.same _ _ (by omega) at6003
  replace at7006 := sm64.same _ _ (by omega) at7006
  replace lv_v21 := Keep.stM lv_v21 sm64 (fun k hb hk => by omega)
  replace v21 := bs_v21.keep lv_v21 (Nat.le_refl _)
  replace lv_v22 := Keep.stM lv_v22 sm64 (fun k hb hk => by omega)
  replace v22 := bs_v22.keep lv_v22 (Nat.le_refl _)
  replace lv_v43 := Keep.stM lv_v43 sm64 (fun k hb hk => by omega)
  replace v43 := bs_v43.keep lv_v43 (Nat.le_refl _)
  replace h0 := base_h0.mono hle
  clear hb1 c01 c11 c21 c31 c41 i11 i21 i31 i41 hm1 hi1
  have hb1 : Cat.At _ g1 0 c p := ⟨Mem.of_get at1, h0⟩
  obtain ⟨c01, c11, c21, c31, c41, i11, i21, i31, i41⟩ := hb1.get
  have hm1 : MemN _ _ _ _ _ := ⟨rfl, hb1.1⟩
  have hi1 := hb1.2
  clear i21
  have i21 := v21.inn
  clear i22
  have i22 := v22.inn
  clear mm5007
  have mm5007 : MemN _ _ _ _ _ := ⟨rfl, Mem.of_get at5007⟩
  clear mm6003
  have mm6003 : MemN _ _ _ _ _ := ⟨rfl, Mem.of_get at6003⟩
  clear mm7006
  have mm7006 : MemN _ _ _ _ _ := ⟨rfl, Mem.of_get at7006⟩
  clear i43
  have i43 := v43.inn
  have hd64 := mk64.held (v29.2)
  have wd64 := w_v29.stm sm64
  have bs_hd64 := hd64
  have lv_hd64 : Keep H6003.next H64 H64 := fun _ _ _ h => h
  have bs_wd64 := wd64
  have lv_wd64 : Keep H6003.next H64 H64 := fun _ _ _ h => h
  refine .m rfl rfl rfl (.assign rfl) (.nil ?_)
  refine hK25 _ _ ?_
  refine .seq (fun K26 hK26 => ?_)
  refine .region (.m rfl rfl rfl (.assign rfl) (.nil ?_))
  refine hK26 _ _ ?_
  refine .seq (fun K27 hK27 => ?_)
  refine .region ?_
  refine .m rfl rfl rfl (.loadM ag_27_D rfl ⟨rfl, Mem.of_get at7006⟩) ?_
  refine .m rfl rfl rfl (.move rfl) ?_
  refine .callQ rfl rfl rfl rfl @Try.call15 rfl (heldCategory_c) ?_
  refine .m rfl rfl rfl (.assign rfl) (.nil ?_)
  refine hK27 _ _ ?_
  refine .seq (fun K28 hK28 => ?_)
  refine .seq (fun K29 hK29 => ?_)
  refine .region (.m rfl rfl rfl (.move rfl) (.m rfl rfl rfl (.cmp rfl rfl rfl) (.nil ?_)))
  refine hK29 _ _ ?_
  refine .cond rfl (fun h69 => ?_) (fun h69 => ?_)
  ·
   try simp only [sps] at h69
   refine .seq (fun K30 hK30 => ?_)
   refine .region (.m rfl rfl rfl (.assign rfl) (.nil ?_))
   refine hK30 _ _ ?_
   refine .ret ?_
   refine hret _ _ ?_
   refine ⟨_, rfl, ?_⟩
   first
   | exact rfl
   | exact absurd trivial (by assumption)
   | contradiction
   | (exfalso; omega)
  try simp only [sps] at h69
  refine .skip ?_
  refine hK28 _ _ ?_
  refine .seq (fun K31 hK31 => ?_)
  refine .seq (fun K32 hK32 => ?_)
  refine .region (.m rfl rfl rfl (.move rfl) (.m rfl rfl rfl (.move rfl) (.m rfl rfl rfl (.cmp rfl rfl rfl) ?_)))
  refine .nil ?_
  refine hK32 _ _ ?_
  refine .cond rfl (fun h72 => ?_) (fun h72 => ?_)
  ·
   try simp only [sps] at h72
   refine .seq (fun K33 hK33 => ?_)
   refine .region (.m rfl rfl rfl (.assign rfl) (.nil ?_))
   refine hK33 _ _ ?_
   refine .ret ?_
   refine hret _ _ ?_
   refine ⟨_, rfl, ?_⟩
   first
   | exact rfl
   | exact absurd trivial (by assumption)
   | contradiction
   | (exfalso; omega)
  try simp only [sps] at h72
  refine .skip ?_
  refine hK31 _ _ ?_
  refine .seq (fun K34 hK34 => ?_)
  refine .region ?_
  refine .m rfl rfl rfl (.loadM ag_25_LSkeletonOf rfl ⟨rfl, Mem.of_get at1⟩) ?_
  refine .call rfl rfl rfl rfl @Try.call11 rfl (toCategory_c) ?_
  rintro _ H75 ⟨le75, p75, rfl, v75⟩
  have nx_H75 := le75.1
  replace hle := hle.trans le75
  replace at1 := le75.2 _ _ at1
  replace at5007 := le75.2 _ _ at5007
  replace at6003 := le75.2 _ _ at6003
  replace at7006 := le75.2 _ _ at7006
  replace lv_v21 := Keep.le lv_v21 le75
  replace v21 := bs_v21.keep lv_v21 (Nat.le_refl _)
  replace lv_v22 := Keep.le lv_v22 le75
  replace v22 := bs_v22.keep lv_v22 (Nat.le_refl _)
  replace lv_v43 := Keep.le lv_v43 le75
  replace v43 := bs_v43.keep lv_v43 (Nat.le_refl _)
  replace lv_hd64 := Keep.le lv_hd64 le75
  replace hd64 := bs_hd64.keep lv_hd64 (Nat.le_refl _)
  replace lv_wd64 := Keep.le lv_wd64 le75
  replace wd64 := bs_wd64.keep lv_wd64 (Nat.le_refl _)
  have bs_v75 := v75
  have lv_v75 : Keep H64.next H75 H75 := fun _ _ _ h => h
  replace h0 := base_h0.mono hle
  clear hb1 c01 c11 c21 c31 c41 i11 i21 i31 i41 hm1 hi1
  have hb1 : Cat.At _ g1 0 c p := ⟨Mem.of_get at1, h0⟩
  obtain ⟨c01, c11, c21, c31, c41, i11, i21, i31, i41⟩ := hb1.get
  have hm1 : MemN _ _ _ _ _ := ⟨rfl, hb1.1⟩
  have hi1 := hb1.2
  clear i21
  have i21 := v21.inn
  clear i22
  have i22 := v22.inn
  clear mm5007
  have mm5007 : MemN _ _ _ _ _ := ⟨rfl, Mem.of_get at5007⟩
  clear mm6003
  have mm6003 : MemN _ _ _ _ _ := ⟨rfl, Mem.of_get at6003⟩
  clear mm7006
  have mm7006 : MemN _ _ _ _ _ := ⟨rfl, Mem.of_get at7006⟩
  clear i43
  have i43 := v43.inn
  have i75 := v75.inn
  refine .call rfl rfl rfl rfl @Try.call12 rfl (implSkeletonOf_c) ?_
  rintro _ H76 ⟨le76, p76, rfl, v76⟩
  have nx_H76 := le76.1
  replace hle := hle.trans le76
  replace at1 := le76.2 _ _ at1
  replace at5007 := le76.2 _ _ at5007
  replace at6003 := le76.2 _ _ at6003
  replace at7006 := le76.2 _ _ at7006
  replace lv_v21 := Keep.le lv_v21 le76
  replace v21 := bs_v21.keep lv_v21 (Nat.le_refl _)
  replace lv_v22 := Keep.le lv_v22 le76
  replace v22 := bs_v22.keep lv_v22 (Nat.le_refl _)
  replace lv_v43 := Keep.le lv_v43 le76
  replace v43 := bs_v43.keep lv_v43 (Nat.le_refl _)
  replace lv_hd64 := Keep.le lv_hd64 le76
  replace hd64 := bs_hd64.keep lv_hd64 (Nat.le_refl _)
  replace lv_wd64 := Keep.le lv_wd64 le76
  replace wd64 := bs_wd64.keep lv_wd64 (Nat.le_refl _)
  replace lv_v75 := Keep.le lv_v75 le76
  replace v75 := bs_v75.keep lv_v75 (Nat.le_refl _)
  have bs_v76 := v76
  have lv_v76 : Keep H75.next H76 H76 := fun _ _ _ h => h
  replace h0 := base_h0.mono hle
  clear hb1 c01 c11 c21 c31 c41 i11 i21 i31 i41 hm1 hi1
  have hb1 : Cat.At _ g1 0 c p := ⟨Mem.of_get at1, h0⟩
  obtain ⟨c01, c11, c21, c31, c41, i11, i21, i31, i41⟩ := hb1.get
  have hm1 : MemN _ _ _ _ _ := ⟨rfl, hb1.1⟩
  have hi1 := hb1.2
  clear i21
  have i21 := v21.inn
  clear i22
  have i22 := v22.inn
  clear mm5007
  have mm5007 : MemN _ _ _ _ _ := ⟨rfl, Mem.of_get at5007⟩
  clear mm6003
  have mm6003 : MemN _ _ _ _ _ := ⟨rfl, Mem.of_get at6003⟩
  clear mm7006
  have mm7006 : MemN _ _ _ _ _ := ⟨rfl, Mem.of_get at7006⟩
  clear i43
  have i43 := v43.inn
  clear i75
  have i75 := v75.inn
  have i76 := v76.inn
  refine .m rfl rfl rfl (.move rfl) (.m rfl rfl rfl (.extract rfl rfl) (.m rfl rfl rfl (.extract rfl rfl) ?_))
  refine .r rfl rfl rfl (.allocR rfl ze_27_E rfl) ?_
  rintro _ H12 ⟨g12, rfl, le12, ge12, at12⟩
  have nx_H12 := le12.1
  replace hle := hle.trans le12
  replace at1 := le12.2 _ _ at1
  replace at5007 := le12.2 _ _ at5007
  replace at6003 := le12.2 _ _ at6003
  replace at7006 := le12.2 _ _ at7006
  replace lv_v21 := Keep.le lv_v21 le12
  replace v21 := bs_v21.keep lv_v21 (Nat.le_refl _)
  replace lv_v22 := Keep.le lv_v22 le12
  replace v22 := bs_v22.keep lv_v22 (Nat.le_refl _)
  replace lv_v43 := Keep.le lv_v43 le12
  replace v43 := bs_v43.keep lv_v43 (Nat.le_refl _)
  replace lv_hd64 := Keep.le lv_hd64 le12
  replace hd64 := bs_hd64.keep lv_hd64 (Nat.le_refl _)
  replace lv_wd64 := Keep.le lv_wd64 le12
  replace wd64 := bs_wd64.keep lv_wd64 (Nat.le_refl _)
  replace lv_v75 := Keep.le lv_v75 le12
  replace v75 := bs_v75.keep lv_v75 (Nat.le_refl _)
  replace lv_v76 := Keep.le lv_v76 le12
  replace v76 := bs_v76.keep lv_v76 (Nat.le_refl _)
  have lt_at12 := GHeap.lt_of_get at12
  replace h0 := base_h0.mono hle
  clear hb1 c01 c11 c21 c31 c41 i11 i21 i31 i41 hm1 hi1
  have hb1 : Cat.At _ g1 0 c p := ⟨Mem.of_get at1, h0⟩
  obtain ⟨c01, c11, c21, c31, c41, i11, i21, i31, i41⟩ := hb1.get
  have hm1 : MemN _ _ _ _ _ := ⟨rfl, hb1.1⟩
  have hi1 := hb1.2
  clear i21
  have i21 := v21.inn
  clear i22
  have i22 := v22.inn
  clear mm5007
  have mm5007 : MemN _ _ _ _ _ := ⟨rfl, Mem.of_get at5007⟩
  clear mm6003
  have mm6003 : MemN _ _ _ _ _ := ⟨rfl, Mem.of_get at6003⟩
  clear mm7006
  have mm7006 : MemN _ _ _ _ _ := ⟨rfl, Mem.of_get at7006⟩
  clear i43
  have i43 := v43.inn
  clear i75
  have i75 := v75.inn
  clear i76
  have i76 := v76.inn
  refine .r0 rfl rfl (.fillR rfl sz_27_D rfl rfl rfl rfl (by assumption) (by first | rfl | exact Nat.le_of_ble_eq_true rfl | simp)) ?_
  rintro _ H24007 ⟨rfl, st24007, at24007⟩
  have nx_H24007 := st24007.nx
  replace hle := hle.st st24007 (fun k hk => ⟨by omega, trivial⟩)
  have ne_g1_g12 : g1 ≠ g12 := by omega
  replace at1 := st24007.same _ _ ⟨ne_g1_g12, trivial⟩ at1
  have ne_g4_g12 : g4 ≠ g12 := by omega
  replace at5007 := st24007.same _ _ ⟨ne_g4_g12, trivial⟩ at5007
  have ne_g6_g12 : g6 ≠ g12 := by omega
  replace at6003 := st24007.same _ _ ⟨ne_g6_g12, trivial⟩ at6003
  have ne_g7_g12 : g7 ≠ g12 := by omega
  replace at7006 := st24007.same _ _ ⟨ne_g7_g12, trivial⟩ at7006
  replace lv_v21 := Keep.st lv_v21 st24007 (fun k hb hk => ⟨by omega, trivial⟩)
  replace v21 := bs_v21.keep lv_v21 (Nat.le_refl _)
  replace lv_v22 := Keep.st lv_v22 st24007 (fun k hb hk => ⟨by omega, trivial⟩)
  replace v22 := bs_v22.keep lv_v22 (Nat.le_refl _)
  replace lv_v43 := Keep.st lv_v43 st24007 (fun k hb hk => ⟨by omega, trivial⟩)
  replace v43 := bs_v43.keep lv_v43 (Nat.le_refl _)
  replace lv_hd64 := Keep.st lv_hd64 st24007 (fun k hb hk => ⟨by omega, trivial⟩)
  replace hd64 := bs_hd64.keep lv_hd64 (Nat.le_refl _)
  replace lv_wd64 := Keep.st lv_wd64 st24007 (fun k hb hk => ⟨by omega, trivial⟩)
  replace wd64 := bs_wd64.keep lv_wd64 (Nat.le_refl _)
  replace lv_v75 := Keep.st lv_v75 st24007 (fun k hb hk => ⟨by omega, trivial⟩)
  replace v75 := bs_v75.keep lv_v75 (Nat.le_refl _)
  replace lv_v76 := Keep.st lv_v76 st24007 (fun k hb hk => ⟨by omega, trivial⟩)
  replace v76 := bs_v76.keep lv_v76 (Nat.le_refl _)
  have lt_at24007 := GHeap.lt_of_get at24007
  replace h0 := base_h0.mono hle
  clear hb1 c01 c11 c21 c31 c41 i11 i21 i31 i41 hm1 hi1
  have hb1 : Cat.At _ g1 0 c p := ⟨Mem.of_get at1, h0⟩
  obtain ⟨c01, c11, c21, c31, c41, i11, i21, i31, i41⟩ := hb1.get
  have hm1 : MemN _ _ _ _ _ := ⟨rfl, hb1.1⟩
  have hi1 := hb1.2
  clear i21
  have i21 := v21.inn
  clear i22
  have i22 := v22.inn
  clear mm5007
  have mm5007 : MemN _ _ _ _ _ := ⟨rfl, Mem.of_get at5007⟩
  clear mm6003
  have mm6003 : MemN _ _ _ _ _ := ⟨rfl, Mem.of_get at6003⟩
  clear mm7006
  have mm7006 : MemN _ _ _ _ _ := ⟨rfl, Mem.of_get at7006⟩
  clear i43
  have i43 := v43.inn
  clear i75
  have i75 := v75.inn
  clear i76
  have i76 := v76.inn
  have mm24007 : MemN _ _ _ _ _ := ⟨rfl, Mem.of_get at24007⟩
  refine .m rfl rfl rfl (.assign rfl) (.nil ?_)
  refine hK34 _ _ ?_
  refine .seq (fun K35 hK35 => ?_)
  refine .seq (fun K36 hK36 => ?_)
  refine .region ?_
  refine .m rfl rfl rfl (.loadM ag_27_D rfl ⟨rfl, Mem.of_get at24007⟩) ?_
  refine .m rfl rfl rfl (.loadM ag_27_D rfl ⟨rfl, Mem.of_get at5007⟩) ?_
  refine .callQ rfl rfl rfl rfl @Try.call13 rfl (eqCategory_c) ?_
  refine .m rfl rfl rfl (.not rfl) (.m rfl rfl rfl (.move rfl) ?_)
  refine .split (fun h83 => ?_) (fun h83 => ?_)
  ·
   try simp only [sps] at h83
   refine .sg rfl rfl rfl rfl rfl (.sg rfl rfl rfl rfl rfl (.sg rfl rfl rfl rfl rfl (.m rfl rfl rfl (.pickT rfl rfl) ?_)))
   refine .nil ?_
   refine hK36 _ _ ?_
   refine .condT rfl ?_
   refine .seq (fun K37 hK37 => ?_)
   refine .region (.m rfl rfl rfl (.assign rfl) (.nil ?_))
   refine hK37 _ _ ?_
   refine .ret ?_
   refine hret _ _ ?_
   refine ⟨_, rfl, ?_⟩
   first
   | exact rfl
   | exact absurd trivial (by assumption)
   | contradiction
   | (exfalso; omega)
  try simp only [sps] at h83
  refine .mg rfl rfl rfl rfl rfl (.move rfl) (.mg rfl rfl rfl rfl rfl (.move rfl) (.mg rfl rfl rfl rfl rfl (.cmp rfl rfl rfl) (.m rfl rfl rfl (.pickF rfl rfl) ?_)))
  refine .nil ?_
  refine hK36 _ _ ?_
  refine .cond rfl (fun h87 => ?_) (fun h87 => ?_)
  ·
   try simp only [sps] at h87
   refine .seq (fun K38 hK38 => ?_)
   refine .region (.m rfl rfl rfl (.assign rfl) (.nil ?_))
   refine hK38 _ _ ?_
   refine .ret ?_
   refine hret _ _ ?_
   refine ⟨_, rfl, ?_⟩
   first
   | exact rfl
   | exact absurd trivial (by assumption)
   | contradiction
   | (exfalso; omega)
  try simp only [sps] at h87
  refine .skip ?_
  refine hK35 _ _ ?_
  refine .seq (fun K39 hK39 => ?_)
  refine .region (.m rfl rfl rfl (.assign rfl) (.nil ?_))
  refine hK39 _ _ ?_
  refine .seq (fun K40 hK40 => ?_)
  refine .region ?_
  refine .m rfl rfl rfl (.loadM ag_27_D rfl ⟨rfl, Mem.of_get at7006⟩) ?_
  refine .m rfl rfl rfl (.move rfl) ?_
  refine .callQ rfl rfl rfl rfl @Try.call15 rfl (heldCategory_c) ?_
  refine .m rfl rfl rfl (.assign rfl) (.nil ?_)
  refine hK40 _ _ ?_
  refine .seq (fun K41 hK41 => ?_)
  refine .seq (fun K42 hK42 => ?_)
  refine .region (.m rfl rfl rfl (.move rfl) (.m rfl rfl rfl (.cmp rfl rfl rfl) (.nil ?_)))
  refine hK42 _ _ ?_
  refine .cond rfl (fun h92 => ?_) (fun h92 => ?_)
  ·
   try simp only [sps] at h92
   refine .seq (fun K43 hK43 => ?_)
   refine .region (.m rfl rfl rfl (.assign rfl) (.nil ?_))
   refine hK43 _ _ ?_
   refine .ret ?_
   refine hret _ _ ?_
   refine ⟨_, rfl, ?_⟩
   first
   | exact rfl
   | exact absurd trivial (by assumption)
   | contradiction
   | (exfalso; omega)
  try simp only [sps] at h92
  refine .skip ?_
  refine hK41 _ _ ?_
  refine .seq (fun K44 hK44 => ?_)
  refine .seq (fun K45 hK45 => ?_)
  refine .region (.m rfl rfl rfl (.move rfl) (.m rfl rfl rfl (.move rfl) (.m rfl rfl rfl (.cmp rfl rfl rfl) ?_)))
  refine .nil ?_
  refine hK45 _ _ ?_
  refine .cond rfl (fun h95 => ?_) (fun h95 => ?_)
  ·
   try simp only [sps] at h95
   refine .seq (fun K46 hK46 => ?_)
   refine .region (.m rfl rfl rfl (.assign rfl) (.nil ?_))
   refine hK46 _ _ ?_
   refine .ret ?_
   refine hret _ _ ?_
   refine ⟨_, rfl, ?_⟩
   first
   | exact rfl
   | exact absurd trivial (by assumption)
   | contradiction
   | (exfalso; omega)
  try simp only [sps] at h95
  refine .skip ?_
  refine hK44 _ _ ?_
  refine .seq (fun K47 hK47 => ?_)
  refine .region (.m rfl rfl rfl (.assign rfl) (.nil ?_))
  refine hK47 _ _ ?_
  refine .ret ?_
  refine hret _ _ ?_
  refine ⟨_, rfl, ?_⟩
  first
  | exact rfl
  | exact absurd trivial (by assumption)
  | contradiction
  | (exfalso; omega)
end Go.Proofs.Ytgnfekfdmgnhcaa
/- The call of a law, whatever it takes: the arguments brought in one by one. No condition. -/
namespace Go.GL
open Go.RowKit Go.WideShapes Go.ChangeShapes Go.Deep

/-- An argument of type t may be brought in so that R holds of what stands for it. -/
structure Imp1 (P : Program) (t : TypeId) (R : GHeap → Value → Prop) : Prop where
  mono : ∀ {H H' : GHeap} {g : Value}, H.Le H' → R H g → R H' g
  imp : ∀ {T : Type} {enc : TypeId × Value → T} {B : Nat} {w0 : World} {ρ : Place} {H : GHeap} {w : World} {held : Bool} {base fuel : Nat} {v : Value} {x : DataW T × List MemPlace}, Sim P B w0 ρ H w → w.heap.size ≤ B →
    DataW.trod enc P w 0 (fun _ => true) held fuel t v.cells.toList = some x → Value.okWide P w .any base t v → ∃ ρ' H' g, Sim P B w0 ρ' H' w ∧ Ext ρ ρ' ∧ H.Le H' ∧ VRel ρ' g v ∧ R H' g

def structT (P : Program) (t : TypeId) : Bool := match P.underlying t with | some (.struct _) => true | _ => false
theorem imp1_struct {P : Program} {t : TypeId} {α β : Type} {cells : α → β → List Value} {I : GHeap → α → β → Prop} {W : α → Prop} (hm : ∀ {H H' : GHeap} {c : α} {p : β}, I H c p → H.Le H' → I H' c p)
    (hI : Imports P t (fun ρ H cs => ∃ (c : α) (p : β), LRel ρ (cells c p) cs ∧ I H c p ∧ W c)) (hst : structT P t = true) : Imp1 P t (fun H g => ∃ (c : α) (p : β), g = .agg (cells c p).toArray ∧ I H c p ∧ W c) where
  mono h := fun ⟨c, p, h1, h2, h3⟩ => ⟨c, p, h1, hm h2 h, h3⟩
  imp := by
    intro T enc B w0 ρ H w held base fuel v x hs hB h hv
    have hagg : ∃ cs, v = .agg cs := by
      unfold Value.okWide at hv
      unfold structT at hst
      split at hst
      · rename_i fs hu
        rw [hu] at hv
        obtain ⟨cs, h, _⟩ := hv
        exact ⟨cs, h⟩
      · cases hst
    obtain ⟨cs, rfl⟩ := hagg
    obtain ⟨ρ', H', h1, h2, h3, c, p, h4, h5, h6⟩ := hI hs hB h
    exact ⟨ρ', H', _, h1, h2, h3, by have := VRel.agg_of h4; simpa [Value.cells] using this, c, p, rfl, h5, h6⟩
/-- Arguments of types ts may be brought in so that R holds of what stands for them. -/
structure ImpAll (P : Program) (ts : List TypeId) (R : GHeap → List Value → Prop) : Prop where
  imp : ∀ {T : Type} {enc : TypeId × Value → T} {B : Nat} {w0 : World} {ρ : Place} {H : GHeap} {w : World} {base : Nat} {vs : List Value} {ds : List (DataW T)} {ps : List MemPlace}, Sim P B w0 ρ H w → w.heap.size ≤ B →
    DataW.TrodAll enc P w 0 (fun _ => true) true ts vs ds ps → (∀ (j : Nat) t v, ts[j]? = some t → vs[j]? = some v → Value.okWide P w .any base t v) → ds.length = ts.length ∧ ∃ ρ' H' gs, Sim P B w0 ρ' H' w ∧ Ext ρ ρ' ∧ H.Le H' ∧ LRel ρ' gs vs ∧ R H' gs
theorem ImpAll.nil {P : Program} : ImpAll P [] (fun _ gs => gs = []) where
  imp := by
    intro T enc B w0 ρ H w base vs ds ps hs hB h hv
    obtain ⟨rfl, rfl, rfl⟩ := trodAll_nil h
    exact ⟨rfl, ρ, H, [], hs, .refl ρ, .refl H, .nil ρ, rfl⟩
theorem ImpAll.cons {P : Program} {t : TypeId} {ts : List TypeId} {R1 : GHeap → Value → Prop} {R : GHeap → List Value → Prop} (h1 : Imp1 P t R1) (h2 : ImpAll P ts R) : ImpAll P (t :: ts) (fun H gs => ∃ g r, gs = g :: r ∧ R1 H g ∧ R H r) where
  imp := by
    intro T enc B w0 ρ H w base vs ds ps hs hB h hv
    obtain ⟨v, vs, d, ds, p, q, rfl, rfl, rfl, ⟨fuel, k1⟩, k2⟩ := trodAll_cons h
    obtain ⟨ρ1, H1, g, s1, e1, l1, v1, r1⟩ := h1.imp hs hB k1 (hv 0 t v rfl rfl)
    obtain ⟨hl, ρ2, H2, gs, s2, e2, l2, v2, r2⟩ := h2.imp s1 hB k2 (fun j t v ht hj => hv (j + 1) t v (by simpa using ht) (by simpa using hj))
    exact ⟨by simp [hl], ρ2, H2, g :: gs, s2, e1.trans e2, l1.trans l2, .cons (v1.mono e2) v2, g, gs, rfl, h1.mono l2 r1, r2⟩

/-- The call of a law. -/
theorem law_calls {P : Program} {f : FuncId} {fn : Func} {ts : List TypeId} {tb : TypeId} {R : GHeap → List Value → Prop} (hI : ImpAll P ts R) (hp : fn.params = ts.toArray)
    (hc : ∀ H gs, R H gs → GCalls P f gs H fun v _ => v = .bool true)
    {T : Type} {enc : TypeId × Value → T} {W : World} {base : Nat} {args : Array Value} {s : ChangeSpec} {apart fresh handsOn again : Bool} {ds gs : List (DataW T)} {before : List MemPlace}
    (hval : ∀ (j : Nat) t v, fn.params[j]? = some t → args[j]? = some v → Value.okWide P W .any base t v)
    (hW : DataW.Whole enc P fn.params.toList s.vars apart W args.toList ds gs before)
    (hl : laidOutB P = true) (hr : readB P fn.params.toList = true) (hv : s.vars = []) (hrt : fn.resultTypes = #[tb]) (htb : P.underlying tb = some .bool)
    (hs : ∀ ds : List (DataW T), ds.length = ts.length → (s.fn T ds).results = [.lit (.bool true)] ∧ (s.fn T ds).args = ds ∧ (s.fn T ds).vars = []) :
    Calls P f args W fun e W' => ∃ v, e = .returned v ∧ s.post enc P fn apart fresh handsOn again W args v W' := by
  have hWW := hW
  obtain ⟨p, q, hA, _⟩ := hW
  rw [hp] at hA
  obtain ⟨hlen, ρ, H, gs', hs', _, _, hrel, hR⟩ := hI.imp (base := base) (Sim.start P W) (Nat.le_refl _) (by simpa using hA) (fun j t v ht hj => hval j t v (by rw [hp]; simpa using ht) (by simpa using hj))
  have := (hc H gs' hR) _ _ ρ args.toList W hs' hrel
  rw [Array.toArray_toList] at this
  refine this.mono fun e W' ⟨v, c, ρ', H', he, hv', _, hsim, hrv⟩ => ?_
  subst hv'
  cases hrv
  exact ⟨_, he, law_post hl hr hv hrt htb hWW (hs ds hlen).1 (hs ds hlen).2.1 (hs ds hlen).2.2 hsim.below⟩
end Go.GL
