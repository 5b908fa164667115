/- Parts made by asking of each element. No condition but those of each statement. -/
import Derived.Test.YtbpehbbdodahaaaUb
namespace Go.Proofs.Ytbpehbbdodahaaa
open Go Go.GL Go.RowKit Go.Proofs
theorem on_83_Uc : oneT Try.prog 83 = true := by kernel_rfl
theorem sz_83_Uc : (Try.prog.info? 83).map (·.size) = some 1 := by kernel_rfl
set_option maxHeartbeats 4000000 in
theorem partOf_c {g o fn : Nat} {f : SFun} {p : SFunP} {cap : Array Value} {Y : Nat → Nat → Bool} {H : GHeap} (h : SFun.At H g o f p := by assumption) (hz : ∀ i, i < f.sz.length → 0 ≤ f.sz.getD i 0 ∧ f.sz.getD i 0 ≤ 16) (hl : f.sz.length ≤ 1048576)
    (hcall : ∀ (xs : Array Value) (w : World), (callFunc fn xs).run Try.prog w = .ok (.enter fn xs) w)
    (hq : ∀ H', H.Le H' → ∀ x e : Nat, x < f.sz.length → (e : Int) < f.sz.getD x 0 → GCalls Try.prog fn ([.int .i64 (x : Int), .int .i64 (e : Int)] ++ cap.toList) H' (Ret (.bool (Y x e)) H')) :
    GCalls Try.prog 66 [.pointer (some ⟨g, o, none⟩), .func (.func fn) #[] cap] H (fun v H' => H.Le H' ∧ ∃ r, v = .agg ((f.pick Y).cells r).toArray ∧ PrtR H.next H' (f.pick Y) r) := by
  refine GCalls.body (N := 43) (rs := [.cell 4 34]) Try.func66 rfl rfl rfl rfl (fun Qx hret hend => ?_)
  refine .forget (fr' := [(0, some _), (1, some _)]) ⟨rfl, rfl, trivial⟩ ?_
  have hle := GHeap.Le.refl H
  have base_h := h
  obtain ⟨fsh, c5, c6, i1, i2⟩ := h.get
  have hm : MemN _ _ _ _ _ := ⟨rfl, h.1⟩
  have hi := h.2
  have hmsh : MemN _ _ _ _ _ := ⟨rfl, fsh.1⟩
  have hish := fsh.2
  refine .seq (fun K1 hK1 => ?_)
  refine .region ?_
  refine .r rfl rfl rfl (.allocR rfl ze_34_VPrt rfl) ?_
  rintro _ H4 ⟨g4, rfl, le4, ge4, at4⟩
  have nx_H4 := le4.1
  replace hle := hle.trans le4
  have lt_at4 := GHeap.lt_of_get at4
  replace h := base_h.mono hle
  clear fsh c5 c6 i1 i2 hm hi hmsh hish
  obtain ⟨fsh, c5, c6, i1, i2⟩ := h.get
  have hm : MemN _ _ _ _ _ := ⟨rfl, h.1⟩
  have hi := h.2
  have hmsh : MemN _ _ _ _ _ := ⟨rfl, fsh.1⟩
  have hish := fsh.2
  refine .nil ?_
  refine hK1 _ _ ?_
  refine .seq (fun K2 hK2 => ?_)
  refine .region ?_
  refine .m rfl rfl rfl (.build bt_34_Ub rfl rfl rfl) ?_
  refine .r rfl rfl rfl (.allocR rfl ze_34_VPrt rfl) ?_
  rintro _ H5 ⟨g5, rfl, le5, ge5, at5⟩
  have nx_H5 := le5.1
  replace hle := hle.trans le5
  replace at4 := le5.2 _ _ at4
  have lt_at5 := GHeap.lt_of_get at5
  replace h := base_h.mono hle
  clear fsh c5 c6 i1 i2 hm hi hmsh hish
  obtain ⟨fsh, c5, c6, i1, i2⟩ := h.get
  have hm : MemN _ _ _ _ _ := ⟨rfl, h.1⟩
  have hi := h.2
  have hmsh : MemN _ _ _ _ _ := ⟨rfl, fsh.1⟩
  have hish := fsh.2
  refine .r0 rfl rfl (.fillR rfl sz_34_VPrt rfl rfl rfl rfl (by assumption) (by first | rfl | exact Nat.le_of_ble_eq_true rfl | simp)) ?_
  rintro _ H1002 ⟨rfl, st1002, at1002⟩
  have nx_H1002 := st1002.nx
  replace hle := hle.st st1002 (fun k hk => ⟨by omega, trivial⟩)
  replace at4 := st1002.same _ _ ⟨by omega, trivial⟩ at4
  have lt_at1002 := GHeap.lt_of_get at1002
  replace h := base_h.mono hle
  clear fsh c5 c6 i1 i2 hm hi hmsh hish
  obtain ⟨fsh, c5, c6, i1, i2⟩ := h.get
  have hm : MemN _ _ _ _ _ := ⟨rfl, h.1⟩
  have hi := h.2
  have hmsh : MemN _ _ _ _ _ := ⟨rfl, fsh.1⟩
  have hish := fsh.2
  have mm1002 : MemN _ _ _ _ _ := ⟨rfl, Mem.of_get at1002⟩
  refine .nil ?_
  refine hK2 _ _ ?_
  refine .seq (fun K3 hK3 => ?_)
  refine .seq (fun K4 hK4 => ?_)
  refine .region ?_
  refine .m rfl rfl rfl (.move rfl) ?_
  refine .m rfl rfl rfl (.nilCheck rfl) ?_
  refine .m rfl rfl rfl (.fieldAddr fo_39_1_P rfl) ?_
  refine .m rfl rfl rfl (.load on_22_B rfl (by assumption)) ?_
  refine .m rfl rfl rfl (.len sl_22_A rfl) ?_
  refine .m rfl rfl rfl (.move rfl) ?_
  refine .nil ?_
  refine hK4 _ _ ?_
  refine .block ?_
  refine .loopR (σ := Nat × (Nat → Option Addr) × Option Addr × Nat) [(1, some _), (4, some _), (5, some _), (14, some _), (15, some _)] (fun (k, rr, a, gB) => [(16, some (.int .i64 (k : Int)))]) (fun (k, rr, a, gB) H' => St [g5] H1002 H' ∧ H'.get g5 = some (.row ([.slice a k k]) 34 true) ∧ k ≤ f.sz.length ∧ OwnRows H.next H' 2 rr (fun x => filtN (f.sz.getD x 0).toNat (Y x)) k ∧ NilOr H1002.next H' a gB (slsOf rr (fun x => filtN (f.sz.getD x 0).toNat (Y x)) k) 22 k) (fun (k, rr, a, gB) => f.sz.length - k) ((0, fun _ => none, none, 0)) ⟨rfl, rfl, rfl, rfl, rfl, trivial⟩ ⟨rfl, trivial⟩ ?_ ?_
  ·
   refine ⟨.refl _ _, by first | assumption | exact at1002 | simpa using at1002, ?_⟩
   exact ⟨by omega, .zero _ _ _ _ _, .inl ⟨rfl, rfl⟩⟩
  ·
   rintro ⟨k, rr, a, gB⟩ HL1 ⟨lst1, at_L5, hI⟩ KL1 hKL1
   refine .forget (fr' := [(16, some (.int .i64 (k : Int))), (1, some _), (4, some _), (5, some _), (14, some _), (15, some _)]) ⟨rfl, rfl, rfl, rfl, rfl, rfl, trivial⟩ ?_
   have nx_HL1 := lst1.nx
   replace hle := hle.st lst1 (fun k hk => ⟨by omega, trivial⟩)
   replace at4 := lst1.same _ _ ⟨by omega, trivial⟩ at4
   have lt_at_L5 := GHeap.lt_of_get at_L5
   replace h := base_h.mono hle
   clear fsh c5 c6 i1 i2 hm hi hmsh hish
   obtain ⟨fsh, c5, c6, i1, i2⟩ := h.get
   have hm : MemN _ _ _ _ _ := ⟨rfl, h.1⟩
   have hi := h.2
   have hmsh : MemN _ _ _ _ _ := ⟨rfl, fsh.1⟩
   have hish := fsh.2
   clear mm1002
   have mm1002 : MemN _ _ _ _ _ := ⟨rfl, Mem.of_get at1002⟩
   have rk := St.refl [g5] HL1
   obtain ⟨hk, hR, hA⟩ := hI
   have hat5 := at_L5
   refine .seq (fun K5 hK5 => ?_)
   refine .region ?_
   refine .m rfl rfl rfl (.cmp rfl rfl rfl) ?_
   refine .nil ?_
   refine hK5 _ _ ?_
   refine .seq (fun K6 hK6 => ?_)
   refine .cond rfl (fun h17 => ?_) (fun h17 => ?_)
   ·
    simp only [sps] at h17
    have r1 := hz k (by omega)
    refine .skip ?_
    refine hK6 _ _ ?_
    refine .seq (fun K7 hK7 => ?_)
    refine .block ?_
    refine .seq (fun K8 hK8 => ?_)
    refine .region ?_
    refine .m rfl rfl rfl (.move rfl) ?_
    refine .m rfl rfl rfl (.idxN sl_22_A (by assumption) rfl rfl (by omega)) ?_
    refine .m rfl rfl rfl (.loadI on_2_A (by assumption) rfl (by omega)) ?_
    refine .m rfl rfl rfl (.assign rfl) ?_
    refine .m rfl rfl rfl (.assign rfl) ?_
    refine .nil ?_
    refine hK8 _ _ ?_
    refine .seq (fun K9 hK9 => ?_)
    refine .region ?_
    refine .r rfl rfl rfl (.litR rfl sl_22_A ze_2_E rfl rfl (by omega) (by omega) rfl rfl) ?_
    rintro _ H21 ⟨g21, rfl, le21, ge21, at21⟩
    have nx_H21 := le21.1
    replace hle := hle.trans le21
    replace lst1 := lst1.le le21
    replace rk := rk.le le21
    replace at4 := le21.2 _ _ at4
    replace at_L5 := le21.2 _ _ at_L5
    have lt_at21 := GHeap.lt_of_get at21
    replace h := base_h.mono hle
    clear fsh c5 c6 i1 i2 hm hi hmsh hish
    obtain ⟨fsh, c5, c6, i1, i2⟩ := h.get
    have hm : MemN _ _ _ _ _ := ⟨rfl, h.1⟩
    have hi := h.2
    have hmsh : MemN _ _ _ _ _ := ⟨rfl, fsh.1⟩
    have hish := fsh.2
    clear mm1002
    have mm1002 : MemN _ _ _ _ _ := ⟨rfl, Mem.of_get at1002⟩
    refine .m rfl rfl rfl (.assign rfl) ?_
    refine .nil ?_
    refine hK9 _ _ ?_
    refine .seq (fun K10 hK10 => ?_)
    refine .seq (fun K11 hK11 => ?_)
    refine .region ?_
    refine .m rfl rfl rfl (.move rfl) ?_
    refine .m rfl rfl rfl (.move rfl) ?_
    refine .nil ?_
    refine hK11 _ _ ?_
    refine .block ?_
    refine .loopR (σ := Nat × Nat × Nat) [(1, some _), (4, some _), (5, some _), (6, some _), (14, some _), (15, some _), (16, some _), (22, some _)] (fun (e, gL8, nL8) => [(23, some (.int .i64 (e : Int))), (8, some (.slice (some ⟨gL8, 0, none⟩) nL8 nL8))]) (fun (e, gL8, nL8) H' => St [g21] H21 H' ∧ H'.get gL8 = some (.row (ints (filtN e (Y k))) 2 true) ∧ (gL8 = g21 ∨ H21.next ≤ gL8) ∧ nL8 = (filtN e (Y k)).length ∧ e ≤ (f.sz.getD k 0).toNat) (fun (e, gL8, nL8) => (f.sz.getD k 0).toNat - e) ((0, _, _)) ⟨rfl, rfl, rfl, rfl, rfl, rfl, rfl, rfl, trivial⟩ ⟨rfl, rfl, trivial⟩ ?_ ?_
    ·
     refine ⟨.refl _ _, by first | assumption | exact at21 | simpa using at21, .inl rfl, by first | rfl | simp | omega, ?_⟩
     omega
    ·
     rintro ⟨e, gL8, nL8⟩ HL2 ⟨lst2, at_L8, pl_L8, ln_L8, hI⟩ KL2 hKL2
     refine .forget (fr' := [(23, some (.int .i64 (e : Int))), (8, some (.slice (some ⟨gL8, 0, none⟩) nL8 nL8)), (1, some _), (4, some _), (5, some _), (6, some _), (14, some _), (15, some _), (16, some _), (22, some _)]) ⟨rfl, rfl, rfl, rfl, rfl, rfl, rfl, rfl, rfl, rfl, trivial⟩ ?_
     have ge_L8 : H.next ≤ gL8 := by omega
     have nx_HL2 := lst2.nx
     replace hle := hle.st lst2 (fun k hk => ⟨by omega, trivial⟩)
     replace lst1 := lst1.st lst2 (fun k hk ho => by simp only [out, and_true] at ho ⊢ <;> omega)
     replace rk := rk.st lst2 (fun k hk ho => by simp only [out, and_true] at ho ⊢ <;> omega)
     replace at4 := lst2.same _ _ ⟨by omega, trivial⟩ at4
     replace at_L5 := lst2.same _ _ ⟨by omega, trivial⟩ at_L5
     have lt_at_L8 := GHeap.lt_of_get at_L8
     replace h := base_h.mono hle
     clear fsh c5 c6 i1 i2 hm hi hmsh hish
     obtain ⟨fsh, c5, c6, i1, i2⟩ := h.get
     have hm : MemN _ _ _ _ _ := ⟨rfl, h.1⟩
     have hi := h.2
     have hmsh : MemN _ _ _ _ _ := ⟨rfl, fsh.1⟩
     have hish := fsh.2
     clear mm1002
     have mm1002 : MemN _ _ _ _ _ := ⟨rfl, Mem.of_get at1002⟩
     have hfl2 := filtN_le e (Y k)
     refine .seq (fun K12 hK12 => ?_)
     refine .region ?_
     refine .m rfl rfl rfl (.cmp rfl rfl rfl) ?_
     refine .nil ?_
     refine hK12 _ _ ?_
     refine .seq (fun K13 hK13 => ?_)
     refine .cond rfl (fun h24 => ?_) (fun h24 => ?_)
     ·
      simp only [sps] at h24
      refine .skip ?_
      refine hK13 _ _ ?_
      refine .seq (fun K14 hK14 => ?_)
      refine .block ?_
      refine .seq (fun K15 hK15 => ?_)
      refine .region ?_
      refine .m rfl rfl rfl (.move rfl) ?_
      refine .m rfl rfl rfl (.assign rfl) ?_
      refine .nil ?_
      refine hK15 _ _ ?_
      refine .seq (fun K16 hK16 => ?_)
      refine .region ?_
      refine .m rfl rfl rfl (.move rfl) ?_
      refine .m rfl rfl rfl (.move rfl) ?_
      refine .m rfl rfl rfl (.move rfl) ?_
      refine .callV rfl rfl rfl rfl rfl hcall rfl ((hq _ hle k e (by omega) (by omega))) ?_
      rintro _ _ ⟨rfl, rfl⟩
      refine .nil ?_
      refine hK16 _ _ ?_
      refine .cond rfl (fun h29 => ?_) (fun h29 => ?_)
      ·
       try simp only [sps] at h29
       refine .region ?_
       refine .m rfl rfl rfl (.move rfl) ?_
       refine .m rfl rfl rfl (.move rfl) ?_
       refine .r rfl rfl rfl (.litR rfl sl_22_A ze_2_E rfl rfl (by omega) (by omega) rfl rfl) ?_
       rintro _ H32 ⟨g32, rfl, le32, ge32, at32⟩
       have nx_H32 := le32.1
       replace hle := hle.trans le32
       replace lst1 := lst1.le le32
       replace rk := rk.le le32
       replace lst2 := lst2.le le32
       replace at4 := le32.2 _ _ at4
       replace at_L5 := le32.2 _ _ at_L5
       replace at_L8 := le32.2 _ _ at_L8
       have lt_at32 := GHeap.lt_of_get at32
       replace h := base_h.mono hle
       clear fsh c5 c6 i1 i2 hm hi hmsh hish
       obtain ⟨fsh, c5, c6, i1, i2⟩ := h.get
       have hm : MemN _ _ _ _ _ := ⟨rfl, h.1⟩
       have hi := h.2
       have hmsh : MemN _ _ _ _ _ := ⟨rfl, fsh.1⟩
       have hish := fsh.2
       clear mm1002
       have mm1002 : MemN _ _ _ _ _ := ⟨rfl, Mem.of_get at1002⟩
       refine .r rfl rfl rfl (.appendI rfl sl_22_A ze_2_E rfl by_2_E sl_22_A rfl rfl (by assumption) (by assumption) (by first | omega | (simp; omega)) (by omega) (by omega)) ?_
       rintro _ H33 ⟨g33, rfl, st33, ge33, at33⟩
       have nx_H33 := st33.nx
       replace hle := hle.st st33 (fun k hk => ⟨by omega, trivial⟩)
       replace lst1 := lst1.st st33 (fun k hk ho => by simp only [out, and_true] at ho ⊢ <;> omega)
       replace rk := rk.st st33 (fun k hk ho => by simp only [out, and_true] at ho ⊢ <;> omega)
       replace lst2 := lst2.st st33 (fun k hk ho => by simp only [out, and_true] at ho ⊢ <;> omega)
       replace at4 := st33.same _ _ ⟨by omega, trivial⟩ at4
       replace at_L5 := st33.same _ _ ⟨by omega, trivial⟩ at_L5
       replace at32 := st33.same _ _ ⟨by omega, trivial⟩ at32
       have lt_at33 := GHeap.lt_of_get at33
       replace h := base_h.mono hle
       clear fsh c5 c6 i1 i2 hm hi hmsh hish
       obtain ⟨fsh, c5, c6, i1, i2⟩ := h.get
       have hm : MemN _ _ _ _ _ := ⟨rfl, h.1⟩
       have hi := h.2
       have hmsh : MemN _ _ _ _ _ := ⟨rfl, fsh.1⟩
       have hish := fsh.2
       clear mm1002
       have mm1002 : MemN _ _ _ _ _ := ⟨rfl, Mem.of_get at1002⟩
       refine .m rfl rfl rfl (.assign rfl) ?_
       refine .nil ?_
       refine hK14 _ _ ?_
       refine .region ?_
       refine .m rfl rfl rfl (.add rfl rfl rfl (by omega) (by omega)) ?_
       refine .m rfl rfl rfl (.move rfl) ?_
       refine .nil ?_
       refine hKL2 ((e + 1, _, _)) _ _ ?_ ?_ ⟨rfl, rfl, rfl, rfl, rfl, rfl, rfl, rfl, rfl, rfl, trivial⟩
       ·
        refine ⟨lst2, by first | assumption | (rw [filtN_T h29]; assumption) | (rw [filtN_F (by simpa using h29)]; assumption), by omega, by first | omega | (simp only [List.length_append, List.length_cons, List.length_nil]; omega) | (rw [filtN_T h29]; first | omega | (simp only [List.length_append, List.length_cons, List.length_nil]; omega)) | (rw [filtN_F (by simpa using h29)]; first | omega | (simp only [List.length_append, List.length_cons, List.length_nil]; omega)), ?_⟩
        omega
       ·
        (dsimp only; omega)
      ·
       try simp only [sps] at h29
       refine .skip ?_
       refine hK14 _ _ ?_
       refine .region ?_
       refine .m rfl rfl rfl (.add rfl rfl rfl (by omega) (by omega)) ?_
       refine .m rfl rfl rfl (.move rfl) ?_
       refine .nil ?_
       refine hKL2 ((e + 1, _, _)) _ _ ?_ ?_ ⟨rfl, rfl, rfl, rfl, rfl, rfl, rfl, rfl, rfl, rfl, trivial⟩
       ·
        refine ⟨lst2, by first | assumption | (rw [filtN_T h29]; assumption) | (rw [filtN_F (by simpa using h29)]; assumption), by omega, by first | omega | (simp only [List.length_append, List.length_cons, List.length_nil]; omega) | (rw [filtN_T h29]; first | omega | (simp only [List.length_append, List.length_cons, List.length_nil]; omega)) | (rw [filtN_F (by simpa using h29)]; first | omega | (simp only [List.length_append, List.length_cons, List.length_nil]; omega)), ?_⟩
        omega
       ·
        (dsimp only; omega)
     ·
      try simp only [sps] at h24
      refine .exit ?_
      refine hK10 _ _ ?_
      refine .region ?_
      obtain rfl : e = (f.sz.getD k 0).toNat := by omega
      obtain rfl := ln_L8
      refine .m rfl rfl rfl (.fieldAddr fo_34_0_VPrt rfl) ?_
      have c5 : GHeap.cell HL2 g5 (0 + 0) = some (.slice a k k) := by rw [GHeap.cell_of at_L5]; rfl
      refine .m rfl rfl rfl (.load on_23_B rfl (by assumption)) ?_
      refine .m rfl rfl rfl (.move rfl) ?_
      refine .r rfl rfl rfl (.litR rfl sl_23_B ze_22_E rfl rfl (by omega) (by omega) rfl rfl) ?_
      rintro _ H38 ⟨g38, rfl, le38, ge38, at38⟩
      have nx_H38 := le38.1
      replace hle := hle.trans le38
      replace lst1 := lst1.le le38
      replace rk := rk.le le38
      replace at4 := le38.2 _ _ at4
      replace at_L5 := le38.2 _ _ at_L5
      replace at_L8 := le38.2 _ _ at_L8
      have lt_at38 := GHeap.lt_of_get at38
      replace h := base_h.mono hle
      clear fsh c5 c6 i1 i2 hm hi hmsh hish
      obtain ⟨fsh, c5, c6, i1, i2⟩ := h.get
      have hm : MemN _ _ _ _ _ := ⟨rfl, h.1⟩
      have hi := h.2
      have hmsh : MemN _ _ _ _ _ := ⟨rfl, fsh.1⟩
      have hish := fsh.2
      clear mm1002
      have mm1002 : MemN _ _ _ _ _ := ⟨rfl, Mem.of_get at1002⟩
      have hA2 := hA.st rk (by omega)
      have L1 : Lasts 2 HL1 H38 := rk.lasts1 hat5 rfl
      have hsl : (slsOf rr (fun x => filtN (f.sz.getD x 0).toNat (Y x)) k).length = k := length_slsOf _ _ _
      obtain ⟨gA, w1, w2, w3, w4⟩ := hA2.where_ hA (Nat.le_refl _) (by omega) (by omega)
      refine .r rfl rfl rfl (.appendVN rfl sl_23_B ze_22_E rfl by_22_E sl_23_B rfl rfl hA2 w1 (by assumption) (by simp) (by omega) rfl rfl (by omega) (by omega)) ?_
      rintro _ H39 ⟨g39, rfl, st39, ge39, at39⟩
      have nx_H39 := st39.nx
      replace hle := hle.st st39 (fun k hk => ⟨by omega, trivial⟩)
      replace lst1 := lst1.st st39 (fun k hk ho => by simp only [out, and_true] at ho ⊢ <;> omega)
      replace at4 := st39.same _ _ ⟨by omega, trivial⟩ at4
      replace at_L5 := st39.same _ _ ⟨by omega, trivial⟩ at_L5
      replace at_L8 := st39.same _ _ ⟨by omega, trivial⟩ at_L8
      replace at38 := st39.same _ _ ⟨by omega, trivial⟩ at38
      have lt_at39 := GHeap.lt_of_get at39
      replace h := base_h.mono hle
      clear fsh c5 c6 i1 i2 hm hi hmsh hish
      obtain ⟨fsh, c5, c6, i1, i2⟩ := h.get
      have hm : MemN _ _ _ _ _ := ⟨rfl, h.1⟩
      have hi := h.2
      have hmsh : MemN _ _ _ _ _ := ⟨rfl, fsh.1⟩
      have hish := fsh.2
      clear mm1002
      have mm1002 : MemN _ _ _ _ _ := ⟨rfl, Mem.of_get at1002⟩
      refine .m rfl rfl rfl (.fieldAddr fo_34_0_VPrt rfl) ?_
      have at5b := at_L5
      refine .r0 rfl rfl (.storeR rfl sz_23_E rfl rfl rfl (by assumption) (by first | exact Nat.le_of_ble_eq_true rfl | simp)) ?_
      rintro _ H12006 ⟨rfl, st12006, at12006⟩
      have nx_H12006 := st12006.nx
      replace hle := hle.st st12006 (fun k hk => ⟨by omega, trivial⟩)
      replace lst1 := lst1.st st12006 (fun k hk ho => by simp only [out, and_true] at ho ⊢ <;> omega)
      replace at4 := st12006.same _ _ ⟨by omega, trivial⟩ at4
      replace at_L8 := st12006.same _ _ ⟨by omega, trivial⟩ at_L8
      replace at38 := st12006.same _ _ ⟨by omega, trivial⟩ at38
      replace at39 := st12006.same _ _ ⟨by omega, trivial⟩ at39
      have lt_at12006 := GHeap.lt_of_get at12006
      replace h := base_h.mono hle
      clear fsh c5 c6 i1 i2 hm hi hmsh hish
      obtain ⟨fsh, c5, c6, i1, i2⟩ := h.get
      have hm : MemN _ _ _ _ _ := ⟨rfl, h.1⟩
      have hi := h.2
      have hmsh : MemN _ _ _ _ _ := ⟨rfl, fsh.1⟩
      have hish := fsh.2
      clear mm1002
      have mm1002 : MemN _ _ _ _ _ := ⟨rfl, Mem.of_get at1002⟩
      refine .nil ?_
      refine hK7 _ _ ?_
      refine .region ?_
      refine .m rfl rfl rfl (.add rfl rfl rfl (by omega) (by omega)) ?_
      refine .m rfl rfl rfl (.move rfl) ?_
      refine .nil ?_
      refine hKL1 ((k + 1, upd rr k (some ⟨gL8, 0, none⟩), some ⟨g39, 0, none⟩, g39)) _ _ ?_ ?_ ⟨rfl, rfl, rfl, rfl, rfl, rfl, trivial⟩
      ·
       refine ⟨lst1, by assumption, ?_⟩
       exact ⟨by omega, hR.succ' ((L1.trans (st39.lastsA w2 rfl)).trans (st12006.lasts1 at5b rfl)) (by assumption) (by omega) (by omega), .inr ⟨rfl, by omega, by omega, by rw [slsOf_succ]; assumption⟩⟩
      ·
       (dsimp only; omega)
   ·
    try simp only [sps] at h17
    refine .exit ?_
    refine hK3 _ _ ?_
    refine .seq (fun K17 hK17 => ?_)
    refine .region ?_
    have mm5 : MemN HL1 g5 0 1 [.slice a k k] := ⟨rfl, Mem.of_get at_L5⟩
    refine .m rfl rfl rfl (.loadM ag_34_VPrt rfl ⟨rfl, Mem.of_get at_L5⟩) ?_
    refine .r0 rfl rfl (.fillR rfl sz_34_VPrt rfl rfl rfl rfl (by assumption) (by first | rfl | exact Nat.le_of_ble_eq_true rfl | simp)) ?_
    rintro _ H14001 ⟨rfl, st14001, at14001⟩
    have nx_H14001 := st14001.nx
    replace hle := hle.st st14001 (fun k hk => ⟨by omega, trivial⟩)
    replace at_L5 := st14001.same _ _ ⟨by omega, trivial⟩ at_L5
    have lt_at14001 := GHeap.lt_of_get at14001
    replace h := base_h.mono hle
    clear fsh c5 c6 i1 i2 hm hi hmsh hish
    obtain ⟨fsh, c5, c6, i1, i2⟩ := h.get
    have hm : MemN _ _ _ _ _ := ⟨rfl, h.1⟩
    have hi := h.2
    have hmsh : MemN _ _ _ _ _ := ⟨rfl, fsh.1⟩
    have hish := fsh.2
    clear mm1002
    have mm1002 : MemN _ _ _ _ _ := ⟨rfl, Mem.of_get at1002⟩
    have mm14001 : MemN _ _ _ _ _ := ⟨rfl, Mem.of_get at14001⟩
    refine .nil ?_
    refine hK17 _ _ ?_
    refine .ret ?_
    -- leaf e1
    refine hret _ _ ?_
    refine ⟨_, _, _, _, rfl, ag_34_VPrt, (by rfl), (Mem.of_get at14001), ?_⟩
    obtain rfl : k = f.sz.length := by omega
    exact ⟨hle, ⟨a, rr⟩, by simp only [SFun.pick, Prt.cells, length_rowsOf], (hR.keep (st14001.lasts1 at4 rfl)).done' (hA.st st14001 (by omega)) (by omega)⟩
/-- What the closure answers. -/
theorem preimage1_c {m : SMap} {p : SMapP} {c : Prt} {q : PrtP} {g o g2 g3 x e : Nat} {e2 : TypeId} {H : GHeap} (hm' : SMap.At H g o m p) (hc : Prt.At H g3 0 c q) (h2 : H.get g2 = some (.row [.pointer (some ⟨g, o, none⟩)] e2 true))
    (hs1 : c.Small := by assumption) (hs : m.Small := by assumption) (hx : x < m.pa.length) (he : e < (m.pa.getD x []).length) (hl : c.me.length = m.pa.length) :
    GCalls Try.prog 67 [.int .i64 (x : Int), .int .i64 (e : Int), .pointer (some ⟨g3, 0, none⟩), .pointer (some ⟨g2, 0, none⟩)] H (Ret (.bool ((c.me.getD x []).contains ((m.pa.getD x []).getD e 0))) H) := by
  refine GCalls.ret rfl ?_
  obtain ⟨s1, s2, s3, s4⟩ := hs
  refine GCalls.body (N := 20) (rs := [.tmp 6]) Try.func67 rfl rfl rfl rfl (fun Qx hret hend => ?_)
  refine .forget (fr' := [(0, some _), (1, some _), (2, some _), (3, some _)]) ⟨rfl, rfl, rfl, rfl, trivial⟩ ?_
  have hle := GHeap.Le.refl H
  have base_hm' := hm'
  have base_hc := hc
  obtain ⟨fs, ft, c14, i2⟩ := hm'.get
  have hm : MemN _ _ _ _ _ := ⟨rfl, hm'.1⟩
  have hi := hm'.2
  have hms : MemN _ _ _ _ _ := ⟨rfl, fs.1⟩
  have his := fs.2
  have hmt : MemN _ _ _ _ _ := ⟨rfl, ft.1⟩
  have hit := ft.2
  have hmc : MemN _ _ _ _ _ := ⟨rfl, hc.1⟩
  have hic := hc.2
  have k2 : GHeap.cell H g2 0 = some (.pointer (some ⟨g, o, none⟩)) := by rw [GHeap.cell_of h2]; rfl
  have r1 := i2.2 x (by omega)
  have r2 := s4 x
  refine .seq (fun K1 hK1 => ?_)
  refine .region ?_
  refine .m rfl rfl rfl (.assign rfl) ?_
  refine .nil ?_
  refine hK1 _ _ ?_
  refine .seq (fun K2 hK2 => ?_)
  refine .regionD mixed_orders_B (.q 0 (.q 1 (.q 2 (.q 3 (.q 4 (.q 5 (.q 6 (.q 7 (.q 8 (.q 9 (.q 10 (.q 11 (.c 12 0 (.q 13 (.done))))))))))))))) (by kernel_rfl) ?_
  refine .m rfl rfl rfl rfl (.refl _) (.loadM ag_34_VPrt rfl (by assumption)) ?_
  refine .m rfl rfl rfl rfl (.refl _) (.move rfl) ?_
  refine .m rfl rfl rfl rfl (.refl _) (.load on_83_Uc rfl (by assumption)) ?_
  refine .m rfl rfl rfl rfl (.refl _) (.nilCheck rfl) ?_
  refine .m rfl rfl rfl rfl (.refl _) (.fieldAddr fo_41_2_VSMap rfl) ?_
  refine .m rfl rfl rfl rfl (.refl _) (.load on_23_B rfl (by assumption)) ?_
  refine .m rfl rfl rfl rfl (.refl _) (.move rfl) ?_
  refine .m rfl rfl rfl rfl (.refl _) (.idxN sl_23_B (Intss.sl (by assumption)) rfl rfl (by omega)) ?_
  refine .m rfl rfl rfl rfl (.refl _) (.loadR on_22_B (by assumption) rfl (by omega)) ?_
  refine .m rfl rfl rfl rfl (.refl _) (.move rfl) ?_
  refine .m rfl rfl rfl rfl (.refl _) (.idxN sl_22_A (by assumption) rfl rfl (by omega)) ?_
  refine .m rfl rfl rfl rfl (.refl _) (.loadI on_2_A (by assumption) rfl (by omega)) ?_
  refine .callQ0 rfl rfl rfl rfl rfl @Try.call68 rfl (holds_c) ?_
  refine .m rfl rfl rfl rfl (.refl _) (.assign rfl) ?_
  refine .done ?_
  refine hK2 _ _ ?_
  refine .ret ?_
  -- leaf e1
  refine hret _ _ ?_
  refine ⟨_, rfl, ?_⟩
  exact ⟨rfl, hle⟩
theorem preimage_c {m : SMap} {p : SMapP} {c : Prt} {q : PrtP} {g o : Nat} {H : GHeap} (h : SMap.At H g o m p := by assumption) (hin : c.In H q := by assumption) (hs : m.Small := by assumption) (hs1 : c.Small := by assumption) (hS : m.Shape := by assumption) (hl : c.me.length = m.pa.length := by assumption) :
    GCalls Try.prog 35 [.pointer (some ⟨g, o, none⟩), .agg (c.cells q).toArray] H (fun v H' => H.Le H' ∧ ∃ r, v = .agg ((⟨m.backR c.me⟩ : Prt).cells r).toArray ∧ PrtR H.next H' ⟨m.backR c.me⟩ r) := by
  have hpl := hS.fits.pl
  have hs3 : m.pa.length ≤ 1048576 := hs.2.2.1
  refine GCalls.body (N := 10) (rs := [.cell 4 34]) Try.func35 rfl rfl rfl rfl (fun Qx hret hend => ?_)
  refine .forget (fr' := [(0, some _), (1, some _)]) ⟨rfl, rfl, trivial⟩ ?_
  have hle := GHeap.Le.refl H
  have base_h := h
  have base_hin := hin
  obtain ⟨fs, ft, c14, i2⟩ := h.get
  have hm : MemN _ _ _ _ _ := ⟨rfl, h.1⟩
  have hi := h.2
  have hms : MemN _ _ _ _ _ := ⟨rfl, fs.1⟩
  have his := fs.2
  have hmt : MemN _ _ _ _ _ := ⟨rfl, ft.1⟩
  have hit := ft.2
  refine .seq (fun K1 hK1 => ?_)
  refine .region ?_
  refine .r rfl rfl rfl (.boxR rfl sz_83_Uc rfl) ?_
  rintro _ H2 ⟨g2, rfl, le2, ge2, at2⟩
  have nx_H2 := le2.1
  replace hle := hle.trans le2
  have lt_at2 := GHeap.lt_of_get at2
  replace h := base_h.mono hle
  replace hin := base_hin.mono hle
  clear fs ft c14 i2 hm hi hms his hmt hit
  obtain ⟨fs, ft, c14, i2⟩ := h.get
  have hm : MemN _ _ _ _ _ := ⟨rfl, h.1⟩
  have hi := h.2
  have hms : MemN _ _ _ _ _ := ⟨rfl, fs.1⟩
  have his := fs.2
  have hmt : MemN _ _ _ _ _ := ⟨rfl, ft.1⟩
  have hit := ft.2
  refine .r rfl rfl rfl (.boxR rfl sz_34_VPrt rfl) ?_
  rintro _ H3 ⟨g3, rfl, le3, ge3, at3⟩
  have nx_H3 := le3.1
  replace hle := hle.trans le3
  replace at2 := le3.2 _ _ at2
  have lt_at3 := GHeap.lt_of_get at3
  replace h := base_h.mono hle
  replace hin := base_hin.mono hle
  clear fs ft c14 i2 hm hi hms his hmt hit
  obtain ⟨fs, ft, c14, i2⟩ := h.get
  have hm : MemN _ _ _ _ _ := ⟨rfl, h.1⟩
  have hi := h.2
  have hms : MemN _ _ _ _ _ := ⟨rfl, fs.1⟩
  have his := fs.2
  have hmt : MemN _ _ _ _ _ := ⟨rfl, ft.1⟩
  have hit := ft.2
  have hb3 : Prt.At _ g3 0 c q := ⟨Mem.of_get at3, hin⟩
  obtain ⟨c03, i03⟩ := hb3.get
  have hm3 : MemN _ _ _ _ _ := ⟨rfl, hb3.1⟩
  have hi3 := hb3.2
  refine .r rfl rfl rfl (.allocR rfl ze_34_VPrt rfl) ?_
  rintro _ H4 ⟨g4, rfl, le4, ge4, at4⟩
  have nx_H4 := le4.1
  replace hle := hle.trans le4
  replace at2 := le4.2 _ _ at2
  replace at3 := le4.2 _ _ at3
  have lt_at4 := GHeap.lt_of_get at4
  replace h := base_h.mono hle
  replace hin := base_hin.mono hle
  clear fs ft c14 i2 hm hi hms his hmt hit
  obtain ⟨fs, ft, c14, i2⟩ := h.get
  have hm : MemN _ _ _ _ _ := ⟨rfl, h.1⟩
  have hi := h.2
  have hms : MemN _ _ _ _ _ := ⟨rfl, fs.1⟩
  have his := fs.2
  have hmt : MemN _ _ _ _ _ := ⟨rfl, ft.1⟩
  have hit := ft.2
  clear hb3 c03 i03 hm3 hi3
  have hb3 : Prt.At _ g3 0 c q := ⟨Mem.of_get at3, hin⟩
  obtain ⟨c03, i03⟩ := hb3.get
  have hm3 : MemN _ _ _ _ _ := ⟨rfl, hb3.1⟩
  have hi3 := hb3.2
  refine .nil ?_
  refine hK1 _ _ ?_
  refine .seq (fun K2 hK2 => ?_)
  refine .region ?_
  have k2 : GHeap.cell H4 g2 0 = some (.pointer (some ⟨g, o, none⟩)) := by rw [GHeap.cell_of at2]; rfl
  refine .m rfl rfl rfl (.load on_83_Uc rfl (by assumption)) ?_
  refine .m rfl rfl rfl (.nilCheck rfl) ?_
  refine .m rfl rfl rfl (.fieldAddr fo_41_0_VSMap rfl) ?_
  refine .m rfl rfl rfl (.makeFunc rfl) ?_
  refine .call rfl rfl rfl rfl @Try.call66 rfl (partOf_c (Y := fun x e => (c.me.getD x []).contains ((m.pa.getD x []).getD e 0)) fs (fun i hi => hS.s.1.sz i hi) (by omega) @Try.call67 (fun H' hle' x e hx he => preimage1_c (h.mono hle') (hb3.mono hle') (hle'.2 _ _ at2) hs1 hs (by omega) (by have := (hS.fits.pa x (by omega)).1; omega) hl)) ?_
  rintro _ H9 ⟨le9, p9, rfl, v9⟩
  have nx_H9 := le9.1
  replace hle := hle.trans le9
  replace at2 := le9.2 _ _ at2
  replace at3 := le9.2 _ _ at3
  replace at4 := le9.2 _ _ at4
  have bs_v9 := v9
  have lv_v9 : Keep H4.next H9 H9 := fun _ _ _ h => h
  replace h := base_h.mono hle
  replace hin := base_hin.mono hle
  clear fs ft c14 i2 hm hi hms his hmt hit
  obtain ⟨fs, ft, c14, i2⟩ := h.get
  have hm : MemN _ _ _ _ _ := ⟨rfl, h.1⟩
  have hi := h.2
  have hms : MemN _ _ _ _ _ := ⟨rfl, fs.1⟩
  have his := fs.2
  have hmt : MemN _ _ _ _ _ := ⟨rfl, ft.1⟩
  have hit := ft.2
  clear hb3 c03 i03 hm3 hi3
  have hb3 : Prt.At _ g3 0 c q := ⟨Mem.of_get at3, hin⟩
  obtain ⟨c03, i03⟩ := hb3.get
  have hm3 : MemN _ _ _ _ _ := ⟨rfl, hb3.1⟩
  have hi3 := hb3.2
  have i9 := v9.inn
  refine .r0 rfl rfl (.fillR rfl sz_34_VPrt rfl rfl rfl rfl (by assumption) (by first | rfl | exact Nat.le_of_ble_eq_true rfl | simp)) ?_
  rintro _ H1005 ⟨rfl, st1005, at1005⟩
  have nx_H1005 := st1005.nx
  replace hle := hle.st st1005 (fun k hk => ⟨by omega, trivial⟩)
  replace at2 := st1005.same _ _ ⟨by omega, trivial⟩ at2
  replace at3 := st1005.same _ _ ⟨by omega, trivial⟩ at3
  replace lv_v9 := Keep.st lv_v9 st1005 (fun k hb hk => ⟨by omega, trivial⟩)
  replace v9 := bs_v9.keep lv_v9 (Nat.le_refl _)
  have lt_at1005 := GHeap.lt_of_get at1005
  replace h := base_h.mono hle
  replace hin := base_hin.mono hle
  clear fs ft c14 i2 hm hi hms his hmt hit
  obtain ⟨fs, ft, c14, i2⟩ := h.get
  have hm : MemN _ _ _ _ _ := ⟨rfl, h.1⟩
  have hi := h.2
  have hms : MemN _ _ _ _ _ := ⟨rfl, fs.1⟩
  have his := fs.2
  have hmt : MemN _ _ _ _ _ := ⟨rfl, ft.1⟩
  have hit := ft.2
  clear hb3 c03 i03 hm3 hi3
  have hb3 : Prt.At _ g3 0 c q := ⟨Mem.of_get at3, hin⟩
  obtain ⟨c03, i03⟩ := hb3.get
  have hm3 : MemN _ _ _ _ _ := ⟨rfl, hb3.1⟩
  have hi3 := hb3.2
  clear i9
  have i9 := v9.inn
  have mm1005 : MemN _ _ _ _ _ := ⟨rfl, Mem.of_get at1005⟩
  refine .nil ?_
  refine hK2 _ _ ?_
  refine .ret ?_
  -- leaf e1
  refine hret _ _ ?_
  refine ⟨_, _, _, _, rfl, ag_34_VPrt, (by rfl), (Mem.of_get at1005), ?_⟩
  have e := SMap.pick_eq (me := c.me) hS.fits
  rw [e] at v9
  exact ⟨hle, p9, by rw [e], v9.keep (.of_le (.refl _)) (by omega)⟩
theorem implPreimagePart_c {m : SMap} {p : SMapP} {c : Prt} {q : PrtP} {H : GHeap} (hin : m.In H p := by assumption) (hin1 : c.In H q := by assumption) (hs : m.Small := by assumption) (hs1 : c.Small := by assumption) :
    GCalls Try.prog 12 [.agg (m.cells p).toArray, .agg (c.cells q).toArray] H (fun v H' => H.Le H' ∧ ∃ r, v = .tuple #[.agg ((m.back c.me).cells r).toArray, .int .i64 (m.backC c.me)] ∧ PrtR H.next H' (m.back c.me) r) := by
  refine GCalls.body (N := 17) (rs := [.cell 4 34, .tmp 5]) Try.func12 rfl rfl rfl rfl (fun Qx hret hend => ?_)
  refine .forget (fr' := [(0, some _), (1, some _)]) ⟨rfl, rfl, trivial⟩ ?_
  have hle := GHeap.Le.refl H
  have base_hin := hin
  have base_hin1 := hin1
  refine .seq (fun K1 hK1 => ?_)
  refine .region ?_
  refine .r rfl rfl rfl (.boxR rfl sz_41_VSMap rfl) ?_
  rintro _ H2 ⟨g2, rfl, le2, ge2, at2⟩
  have nx_H2 := le2.1
  replace hle := hle.trans le2
  have lt_at2 := GHeap.lt_of_get at2
  replace hin := base_hin.mono hle
  replace hin1 := base_hin1.mono hle
  have hb2 : SMap.At _ g2 0 m p := ⟨Mem.of_get at2, hin⟩
  obtain ⟨fs2, ft2, c142, i22⟩ := hb2.get
  have hm2 : MemN _ _ _ _ _ := ⟨rfl, hb2.1⟩
  have hi2 := hb2.2
  have hms2 : MemN _ _ _ _ _ := ⟨rfl, fs2.1⟩
  have his2 := fs2.2
  have hmt2 : MemN _ _ _ _ _ := ⟨rfl, ft2.1⟩
  have hit2 := ft2.2
  refine .r rfl rfl rfl (.boxR rfl sz_34_VPrt rfl) ?_
  rintro _ H3 ⟨g3, rfl, le3, ge3, at3⟩
  have nx_H3 := le3.1
  replace hle := hle.trans le3
  replace at2 := le3.2 _ _ at2
  have lt_at3 := GHeap.lt_of_get at3
  replace hin := base_hin.mono hle
  replace hin1 := base_hin1.mono hle
  clear hb2 fs2 ft2 c142 i22 hm2 hi2 hms2 his2 hmt2 hit2
  have hb2 : SMap.At _ g2 0 m p := ⟨Mem.of_get at2, hin⟩
  obtain ⟨fs2, ft2, c142, i22⟩ := hb2.get
  have hm2 : MemN _ _ _ _ _ := ⟨rfl, hb2.1⟩
  have hi2 := hb2.2
  have hms2 : MemN _ _ _ _ _ := ⟨rfl, fs2.1⟩
  have his2 := fs2.2
  have hmt2 : MemN _ _ _ _ _ := ⟨rfl, ft2.1⟩
  have hit2 := ft2.2
  have hb3 : Prt.At _ g3 0 c q := ⟨Mem.of_get at3, hin1⟩
  obtain ⟨c03, i03⟩ := hb3.get
  have hm3 : MemN _ _ _ _ _ := ⟨rfl, hb3.1⟩
  have hi3 := hb3.2
  refine .r rfl rfl rfl (.allocR rfl ze_34_VPrt rfl) ?_
  rintro _ H4 ⟨g4, rfl, le4, ge4, at4⟩
  have nx_H4 := le4.1
  replace hle := hle.trans le4
  replace at2 := le4.2 _ _ at2
  replace at3 := le4.2 _ _ at3
  have lt_at4 := GHeap.lt_of_get at4
  replace hin := base_hin.mono hle
  replace hin1 := base_hin1.mono hle
  clear hb2 fs2 ft2 c142 i22 hm2 hi2 hms2 his2 hmt2 hit2
  have hb2 : SMap.At _ g2 0 m p := ⟨Mem.of_get at2, hin⟩
  obtain ⟨fs2, ft2, c142, i22⟩ := hb2.get
  have hm2 : MemN _ _ _ _ _ := ⟨rfl, hb2.1⟩
  have hi2 := hb2.2
  have hms2 : MemN _ _ _ _ _ := ⟨rfl, fs2.1⟩
  have his2 := fs2.2
  have hmt2 : MemN _ _ _ _ _ := ⟨rfl, ft2.1⟩
  have hit2 := ft2.2
  clear hb3 c03 i03 hm3 hi3
  have hb3 : Prt.At _ g3 0 c q := ⟨Mem.of_get at3, hin1⟩
  obtain ⟨c03, i03⟩ := hb3.get
  have hm3 : MemN _ _ _ _ _ := ⟨rfl, hb3.1⟩
  have hi3 := hb3.2
  refine .m rfl rfl rfl (.assign rfl) ?_
  refine .nil ?_
  refine hK1 _ _ ?_
  refine .seq (fun K2 hK2 => ?_)
  refine .seq (fun K3 hK3 => ?_)
  refine .region ?_
  refine .callQ rfl rfl rfl rfl @Try.call33 rfl (smNatural_c) ?_
  refine .m rfl rfl rfl (.not rfl) ?_
  refine .m rfl rfl rfl (.move rfl) ?_
  refine .split (fun h8 => ?_) (fun h8 => ?_)
  ·
   try simp only [sps] at h8
   refine .sg rfl rfl rfl rfl rfl ?_
   refine .sg rfl rfl rfl rfl rfl ?_
   refine .sg rfl rfl rfl rfl rfl ?_
   refine .sg rfl rfl rfl rfl rfl ?_
   refine .m rfl rfl rfl (.pickT rfl rfl) ?_
   refine .nil ?_
   refine hK3 _ _ ?_
   refine .condT rfl ?_
   refine .seq (fun K4 hK4 => ?_)
   refine .region ?_
   refine .m rfl rfl rfl (.build bt_34_Ub rfl rfl rfl) ?_
   refine .r0 rfl rfl (.fillR rfl sz_34_VPrt rfl rfl rfl rfl (by assumption) (by first | rfl | exact Nat.le_of_ble_eq_true rfl | simp)) ?_
   rintro _ H2001 ⟨rfl, st2001, at2001⟩
   have nx_H2001 := st2001.nx
   replace hle := hle.st st2001 (fun k hk => ⟨by omega, trivial⟩)
   replace at2 := st2001.same _ _ ⟨by omega, trivial⟩ at2
   replace at3 := st2001.same _ _ ⟨by omega, trivial⟩ at3
   have lt_at2001 := GHeap.lt_of_get at2001
   replace hin := base_hin.mono hle
   replace hin1 := base_hin1.mono hle
   clear hb2 fs2 ft2 c142 i22 hm2 hi2 hms2 his2 hmt2 hit2
   have hb2 : SMap.At _ g2 0 m p := ⟨Mem.of_get at2, hin⟩
   obtain ⟨fs2, ft2, c142, i22⟩ := hb2.get
   have hm2 : MemN _ _ _ _ _ := ⟨rfl, hb2.1⟩
   have hi2 := hb2.2
   have hms2 : MemN _ _ _ _ _ := ⟨rfl, fs2.1⟩
   have his2 := fs2.2
   have hmt2 : MemN _ _ _ _ _ := ⟨rfl, ft2.1⟩
   have hit2 := ft2.2
   clear hb3 c03 i03 hm3 hi3
   have hb3 : Prt.At _ g3 0 c q := ⟨Mem.of_get at3, hin1⟩
   obtain ⟨c03, i03⟩ := hb3.get
   have hm3 : MemN _ _ _ _ _ := ⟨rfl, hb3.1⟩
   have hi3 := hb3.2
   have mm2001 : MemN _ _ _ _ _ := ⟨rfl, Mem.of_get at2001⟩
   refine .m rfl rfl rfl (.assign rfl) ?_
   refine .nil ?_
   refine hK4 _ _ ?_
   refine .ret ?_
   -- leaf e1
   refine hret _ _ ?_
   refine ⟨_, _, _, _, _, rfl, ag_34_VPrt, (by rfl), (Mem.of_get at2001), rfl, ?_⟩
   obtain ⟨e1, e2⟩ := SMap.back_not (m := m) (me := c.me) fun hh => h8 hh.1
   rw [e1, e2]
   exact ⟨hle, ⟨none, fun _ => none⟩, rfl, .nil _ _ _⟩
  ·
   simp only [sps] at h8
   have hS := h8.1
   have hT := h8.1.t
   refine .mg rfl rfl rfl rfl rfl (.fieldAddr fo_41_1_VSMap rfl) ?_
   refine .mg rfl rfl rfl rfl rfl (.loadM ag_34_VPrt rfl ⟨rfl, Mem.of_get at3⟩) ?_
   refine .callQg rfl rfl rfl rfl rfl rfl @Try.call34 rfl (isPart_c) ?_
   refine .mg rfl rfl rfl rfl rfl (.not rfl) ?_
   refine .m rfl rfl rfl (.pickF rfl rfl) ?_
   refine .nil ?_
   refine hK3 _ _ ?_
   refine .cond rfl (fun h13 => ?_) (fun h13 => ?_)
   ·
    try simp only [sps] at h13
    refine .seq (fun K5 hK5 => ?_)
    refine .region ?_
    refine .m rfl rfl rfl (.build bt_34_Ub rfl rfl rfl) ?_
    refine .r0 rfl rfl (.fillR rfl sz_34_VPrt rfl rfl rfl rfl (by assumption) (by first | rfl | exact Nat.le_of_ble_eq_true rfl | simp)) ?_
    rintro _ H2001x2 ⟨rfl, st2001x2, at2001x2⟩
    have nx_H2001x2 := st2001x2.nx
    replace hle := hle.st st2001x2 (fun k hk => ⟨by omega, trivial⟩)
    replace at2 := st2001x2.same _ _ ⟨by omega, trivial⟩ at2
    replace at3 := st2001x2.same _ _ ⟨by omega, trivial⟩ at3
    have lt_at2001x2 := GHeap.lt_of_get at2001x2
    replace hin := base_hin.mono hle
    replace hin1 := base_hin1.mono hle
    clear hb2 fs2 ft2 c142 i22 hm2 hi2 hms2 his2 hmt2 hit2
    have hb2 : SMap.At _ g2 0 m p := ⟨Mem.of_get at2, hin⟩
    obtain ⟨fs2, ft2, c142, i22⟩ := hb2.get
    have hm2 : MemN _ _ _ _ _ := ⟨rfl, hb2.1⟩
    have hi2 := hb2.2
    have hms2 : MemN _ _ _ _ _ := ⟨rfl, fs2.1⟩
    have his2 := fs2.2
    have hmt2 : MemN _ _ _ _ _ := ⟨rfl, ft2.1⟩
    have hit2 := ft2.2
    clear hb3 c03 i03 hm3 hi3
    have hb3 : Prt.At _ g3 0 c q := ⟨Mem.of_get at3, hin1⟩
    obtain ⟨c03, i03⟩ := hb3.get
    have hm3 : MemN _ _ _ _ _ := ⟨rfl, hb3.1⟩
    have hi3 := hb3.2
    have mm2001x2 : MemN _ _ _ _ _ := ⟨rfl, Mem.of_get at2001x2⟩
    refine .m rfl rfl rfl (.assign rfl) ?_
    refine .nil ?_
    refine hK5 _ _ ?_
    refine .ret ?_
    -- leaf e2
    refine hret _ _ ?_
    refine ⟨_, _, _, _, _, rfl, ag_34_VPrt, (by rfl), (Mem.of_get at2001x2), rfl, ?_⟩
    obtain ⟨e1, e2⟩ := SMap.back_not (m := m) (me := c.me) fun hh => h13 hh.2
    rw [e1, e2]
    exact ⟨hle, ⟨none, fun _ => none⟩, rfl, .nil _ _ _⟩
   ·
    simp only [sps] at h13
    have hl : c.me.length = m.pa.length := by
      have e1 := h13.pl
      have e2 := hS.fits.pl
      have e3 := hS.t.1.zl
      have e4 := hS.s.1.zl
      rw [hS.sh] at e4
      omega
    refine .skip ?_
    refine hK2 _ _ ?_
    refine .seq (fun K6 hK6 => ?_)
    refine .region ?_
    refine .m rfl rfl rfl (.loadM ag_34_VPrt rfl ⟨rfl, Mem.of_get at3⟩) ?_
    refine .call rfl rfl rfl rfl @Try.call35 rfl (preimage_c) ?_
    rintro _ H16 ⟨le16, p16, rfl, v16⟩
    have nx_H16 := le16.1
    replace hle := hle.trans le16
    replace at2 := le16.2 _ _ at2
    replace at3 := le16.2 _ _ at3
    replace at4 := le16.2 _ _ at4
    have bs_v16 := v16
    have lv_v16 : Keep H4.next H16 H16 := fun _ _ _ h => h
    replace hin := base_hin.mono hle
    replace hin1 := base_hin1.mono hle
    clear hb2 fs2 ft2 c142 i22 hm2 hi2 hms2 his2 hmt2 hit2
    have hb2 : SMap.At _ g2 0 m p := ⟨Mem.of_get at2, hin⟩
    obtain ⟨fs2, ft2, c142, i22⟩ := hb2.get
    have hm2 : MemN _ _ _ _ _ := ⟨rfl, hb2.1⟩
    have hi2 := hb2.2
    have hms2 : MemN _ _ _ _ _ := ⟨rfl, fs2.1⟩
    have his2 := fs2.2
    have hmt2 : MemN _ _ _ _ _ := ⟨rfl, ft2.1⟩
    have hit2 := ft2.2
    clear hb3 c03 i03 hm3 hi3
    have hb3 : Prt.At _ g3 0 c q := ⟨Mem.of_get at3, hin1⟩
    obtain ⟨c03, i03⟩ := hb3.get
    have hm3 : MemN _ _ _ _ _ := ⟨rfl, hb3.1⟩
    have hi3 := hb3.2
    have i16 := v16.inn
    refine .r0 rfl rfl (.fillR rfl sz_34_VPrt rfl rfl rfl rfl (by assumption) (by first | rfl | exact Nat.le_of_ble_eq_true rfl | simp)) ?_
    rintro _ H3002 ⟨rfl, st3002, at3002⟩
    have nx_H3002 := st3002.nx
    replace hle := hle.st st3002 (fun k hk => ⟨by omega, trivial⟩)
    replace at2 := st3002.same _ _ ⟨by omega, trivial⟩ at2
    replace at3 := st3002.same _ _ ⟨by omega, trivial⟩ at3
    replace lv_v16 := Keep.st lv_v16 st3002 (fun k hb hk => ⟨by omega, trivial⟩)
    replace v16 := bs_v16.keep lv_v16 (Nat.le_refl _)
    have lt_at3002 := GHeap.lt_of_get at3002
    replace hin := base_hin.mono hle
    replace hin1 := base_hin1.mono hle
    clear hb2 fs2 ft2 c142 i22 hm2 hi2 hms2 his2 hmt2 hit2
    have hb2 : SMap.At _ g2 0 m p := ⟨Mem.of_get at2, hin⟩
    obtain ⟨fs2, ft2, c142, i22⟩ := hb2.get
    have hm2 : MemN _ _ _ _ _ := ⟨rfl, hb2.1⟩
    have hi2 := hb2.2
    have hms2 : MemN _ _ _ _ _ := ⟨rfl, fs2.1⟩
    have his2 := fs2.2
    have hmt2 : MemN _ _ _ _ _ := ⟨rfl, ft2.1⟩
    have hit2 := ft2.2
    clear hb3 c03 i03 hm3 hi3
    have hb3 : Prt.At _ g3 0 c q := ⟨Mem.of_get at3, hin1⟩
    obtain ⟨c03, i03⟩ := hb3.get
    have hm3 : MemN _ _ _ _ _ := ⟨rfl, hb3.1⟩
    have hi3 := hb3.2
    clear i16
    have i16 := v16.inn
    have mm3002 : MemN _ _ _ _ _ := ⟨rfl, Mem.of_get at3002⟩
    refine .m rfl rfl rfl (.assign rfl) ?_
    refine .nil ?_
    refine hK6 _ _ ?_
    refine .ret ?_
    -- leaf e3
    refine hret _ _ ?_
    refine ⟨_, _, _, _, _, rfl, ag_34_VPrt, (by rfl), (Mem.of_get at3002), rfl, ?_⟩
    obtain ⟨e1, e2⟩ := SMap.back_ok (m := m) (me := c.me) ⟨h8, h13⟩
    rw [e1, e2]
    exact ⟨hle, p16, rfl, v16.keep (.of_le (.refl _)) (by omega)⟩
end Go.Proofs.Ytbpehbbdodahaaa
