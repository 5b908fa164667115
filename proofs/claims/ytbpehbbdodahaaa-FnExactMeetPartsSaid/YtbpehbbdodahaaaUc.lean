/- Parts made by asking of each element. No condition but those of each statement. -/
import Derived.Test.YtbpehbbdodahaaaUb
namespace Go.Proofs.Ytbpehbbdodahaaa
open Go Go.GL Go.RowKit Go.Proofs
theorem bt_34_Uc : buildT Try.prog 34 = some ([.slice none 0 0], [(0, 1)]) := by kernel_rfl
set_option maxHeartbeats 4000000 in
theorem partOf_c {g o fn : Nat} {f : SFun} {p : SFunP} {cap : Array Value} {Y : Nat → Nat → Bool} {H : GHeap} (h : SFun.At H g o f p := by assumption) (hz : ∀ i, i < f.sz.length → 0 ≤ f.sz.getD i 0 ∧ f.sz.getD i 0 ≤ 16) (hl : f.sz.length ≤ 1048576)
    (hcall : ∀ (xs : Array Value) (w : World), (callFunc fn xs).run Try.prog w = .ok (.enter fn xs) w)
    (hq : ∀ H', H.Le H' → ∀ x e : Nat, x < f.sz.length → (e : Int) < f.sz.getD x 0 → GCalls Try.prog fn ([.int .i64 (x : Int), .int .i64 (e : Int)] ++ cap.toList) H' (Ret (.bool (Y x e)) H')) :
    GCalls Try.prog 66 [.pointer (some ⟨g, o, none⟩), .func (.func fn) #[] cap] H (fun v H' => H.Le H' ∧ ∃ r, v = .agg ((f.pick Y).cells r).toArray ∧ PrtR H.next H' (f.pick Y) r) := by
  refine GCalls.body (N := 43) (rs := [.cell 4 34]) Try.func66 rfl rfl rfl rfl (fun Qx hret hend => ?_)
  refine .forget (fr' := [(0, some _), (1, some _)]) ⟨rfl, rfl, trivial⟩ ?_
  have hle := GHeap.Le.refl H
  have base_h := h
  obtain ⟨fsh, c5, c6, i1, i2⟩ := h.get
  have hm : MemN _ _ _ _ _ := ⟨rfl, h.1⟩
  have hi := h.2
  have hmsh : MemN _ _ _ _ _ := ⟨rfl, fsh.1⟩
  have hish := fsh.2
  refine .seq (fun K1 hK1 => ?_)
  refine .region ?_
  refine .r rfl rfl rfl (.allocR rfl ze_34_VPrt rfl) ?_
  rintro _ H4 ⟨g4, rfl, le4, ge4, at4⟩
  have nx_H4 := le4.1
  replace hle := hle.trans le4
  have lt_at4 := GHeap.lt_of_get at4
  replace h := base_h.mono hle
  clear fsh c5 c6 i1 i2 hm hi hmsh hish
  obtain ⟨fsh, c5, c6, i1, i2⟩ := h.get
  have hm : MemN _ _ _ _ _ := ⟨rfl, h.1⟩
  have hi := h.2
  have hmsh : MemN _ _ _ _ _ := ⟨rfl, fsh.1⟩
  have hish := fsh.2
  refine .nil ?_
  refine hK1 _ _ ?_
  refine .seq (fun K2 hK2 => ?_)
  refine .region ?_
  refine .m rfl rfl rfl (.build bt_34_Uc rfl rfl rfl) ?_
  refine .r rfl rfl rfl (.allocR rfl ze_34_VPrt rfl) ?_
  rintro _ H5 ⟨g5, rfl, le5, ge5, at5⟩
  have nx_H5 := le5.1
  replace hle := hle.trans le5
  replace at4 := le5.2 _ _ at4
  have lt_at5 := GHeap.lt_of_get at5
  replace h := base_h.mono hle
  clear fsh c5 c6 i1 i2 hm hi hmsh hish
  obtain ⟨fsh, c5, c6, i1, i2⟩ := h.get
  have hm : MemN _ _ _ _ _ := ⟨rfl, h.1⟩
  have hi := h.2
  have hmsh : MemN _ _ _ _ _ := ⟨rfl, fsh.1⟩
  have hish := fsh.2
  refine .r0 rfl rfl (.fillR rfl sz_34_VPrt rfl rfl rfl rfl (by assumption) (by first | rfl | exact Nat.le_of_ble_eq_true rfl | simp)) ?_
  rintro _ H1002 ⟨rfl, st1002, at1002⟩
  have nx_H1002 := st1002.nx
  replace hle := hle.st st1002 (fun k hk => ⟨by omega, trivial⟩)
  replace at4 := st1002.same _ _ ⟨by omega, trivial⟩ at4
  have lt_at1002 := GHeap.lt_of_get at1002
  replace h := base_h.mono hle
  clear fsh c5 c6 i1 i2 hm hi hmsh hish
  obtain ⟨fsh, c5, c6, i1, i2⟩ := h.get
  have hm : MemN _ _ _ _ _ := ⟨rfl, h.1⟩
  have hi := h.2
  have hmsh : MemN _ _ _ _ _ := ⟨rfl, fsh.1⟩
  have hish := fsh.2
  have mm1002 : MemN _ _ _ _ _ := ⟨rfl, Mem.of_get at1002⟩
  refine .nil ?_
  refine hK2 _ _ ?_
  refine .seq (fun K3 hK3 => ?_)
  refine .seq (fun K4 hK4 => ?_)
  refine .region ?_
  refine .m rfl rfl rfl (.move rfl) ?_
  refine .m rfl rfl rfl (.nilCheck rfl) ?_
  refine .m rfl rfl rfl (.fieldAddr fo_39_1_P rfl) ?_
  refine .m rfl rfl rfl (.load on_22_B rfl (by assumption)) ?_
  refine .m rfl rfl rfl (.len sl_22_A rfl) ?_
  refine .m rfl rfl rfl (.move rfl) ?_
  refine .nil ?_
  refine hK4 _ _ ?_
  refine .block ?_
  refine .loopR (σ := Nat × (Nat → Option Addr) × Option Addr × Nat) [(1, some _), (4, some _), (5, some _), (14, some _), (15, some _)] (fun (k, rr, a, gB) => [(16, some (.int .i64 (k : Int)))]) (fun (k, rr, a, gB) H' => St [g5] H1002 H' ∧ H'.get g5 = some (.row ([.slice a k k]) 34 true) ∧ k ≤ f.sz.length ∧ OwnRows H.next H' 2 rr (fun x => filtN (f.sz.getD x 0).toNat (Y x)) k ∧ NilOr H1002.next H' a gB (slsOf rr (fun x => filtN (f.sz.getD x 0).toNat (Y x)) k) 22 k) (fun (k, rr, a, gB) => f.sz.length - k) ((0, fun _ => none, none, 0)) ⟨rfl, rfl, rfl, rfl, rfl, trivial⟩ ⟨rfl, trivial⟩ ?_ ?_
  ·
   refine ⟨.refl _ _, by first | assumption | exact at1002 | simpa using at1002, ?_⟩
   exact ⟨by omega, .zero _ _ _ _ _, .inl ⟨rfl, rfl⟩⟩
  ·
   rintro ⟨k, rr, a, gB⟩ HL1 ⟨lst1, at_L5, hI⟩ KL1 hKL1
   refine .forget (fr' := [(16, some (.int .i64 (k : Int))), (1, some _), (4, some _), (5, some _), (14, some _), (15, some _)]) ⟨rfl, rfl, rfl, rfl, rfl, rfl, trivial⟩ ?_
   have nx_HL1 := lst1.nx
   replace hle := hle.st lst1 (fun k hk => ⟨by omega, trivial⟩)
   replace at4 := lst1.same _ _ ⟨by omega, trivial⟩ at4
   have lt_at_L5 := GHeap.lt_of_get at_L5
   replace h := base_h.mono hle
   clear fsh c5 c6 i1 i2 hm hi hmsh hish
   obtain ⟨fsh, c5, c6, i1, i2⟩ := h.get
   have hm : MemN _ _ _ _ _ := ⟨rfl, h.1⟩
   have hi := h.2
   have hmsh : MemN _ _ _ _ _ := ⟨rfl, fsh.1⟩
   have hish := fsh.2
   clear mm1002
   have mm1002 : MemN _ _ _ _ _ := ⟨rfl, Mem.of_get at1002⟩
   have rk := St.refl [g5] HL1
   obtain ⟨hk, hR, hA⟩ := hI
   have hat5 := at_L5
   refine .seq (fun K5 hK5 => ?_)
   refine .region ?_
   refine .m rfl rfl rfl (.cmp rfl rfl rfl) ?_
   refine .nil ?_
   refine hK5 _ _ ?_
   refine .seq (fun K6 hK6 => ?_)
   refine .cond rfl (fun h17 => ?_) (fun h17 => ?_)
   ·
    simp only [sps] at h17
    have r1 := hz k (by omega)
    refine .skip ?_
    refine hK6 _ _ ?_
    refine .seq (fun K7 hK7 => ?_)
    refine .block ?_
    refine .seq (fun K8 hK8 => ?_)
    refine .region ?_
    refine .m rfl rfl rfl (.move rfl) ?_
    refine .m rfl rfl rfl (.idxN sl_22_A (by assumption) rfl rfl (by omega)) ?_
    refine .m rfl rfl rfl (.loadI on_2_A (by assumption) rfl (by omega)) ?_
    refine .m rfl rfl rfl (.assign rfl) ?_
    refine .m rfl rfl rfl (.assign rfl) ?_
    refine .nil ?_
    refine hK8 _ _ ?_
    refine .seq (fun K9 hK9 => ?_)
    refine .region ?_
    refine .r rfl rfl rfl (.litR rfl sl_22_A ze_2_E rfl rfl (by omega) (by omega) rfl rfl) ?_
    rintro _ H21 ⟨g21, rfl, le21, ge21, at21⟩
    have nx_H21 := le21.1
    replace hle := hle.trans le21
    replace lst1 := lst1.le le21
    replace rk := rk.le le21
    replace at4 := le21.2 _ _ at4
    replace at_L5 := le21.2 _ _ at_L5
    have lt_at21 := GHeap.lt_of_get at21
    replace h := base_h.mono hle
    clear fsh c5 c6 i1 i2 hm hi hmsh hish
    obtain ⟨fsh, c5, c6, i1, i2⟩ := h.get
    have hm : MemN _ _ _ _ _ := ⟨rfl, h.1⟩
    have hi := h.2
    have hmsh : MemN _ _ _ _ _ := ⟨rfl, fsh.1⟩
    have hish := fsh.2
    clear mm1002
    have mm1002 : MemN _ _ _ _ _ := ⟨rfl, Mem.of_get at1002⟩
    replace at21 : GHeap.get H21 g21 = some (.row (ints []) 2 true) := at21
    refine .m rfl rfl rfl (.assign rfl) ?_
    refine .nil ?_
    refine hK9 _ _ ?_
    refine .seq (fun K10 hK10 => ?_)
    refine .seq (fun K11 hK11 => ?_)
    refine .region ?_
    refine .m rfl rfl rfl (.move rfl) ?_
    refine .m rfl rfl rfl (.move rfl) ?_
    refine .nil ?_
    refine hK11 _ _ ?_
    refine .block ?_
    refine .loopR (σ := Nat × Nat × Nat) [(1, some _), (4, some _), (5, some _), (6, some _), (14, some _), (15, some _), (16, some _), (22, some _)] (fun (e, gL8, nL8) => [(23, some (.int .i64 (e : Int))), (8, some (.slice (some ⟨gL8, 0, none⟩) nL8 nL8))]) (fun (e, gL8, nL8) H' => St [g21] H21 H' ∧ H'.get gL8 = some (.row (ints (filtN e (Y k))) 2 true) ∧ (gL8 = g21 ∨ H21.next ≤ gL8) ∧ nL8 = (filtN e (Y k)).length ∧ e ≤ (f.sz.getD k 0).toNat) (fun (e, gL8, nL8) => (f.sz.getD k 0).toNat - e) ((0, _, _)) ⟨rfl, rfl, rfl, rfl, rfl, rfl, rfl, rfl, trivial⟩ ⟨rfl, rfl, trivial⟩ ?_ ?_
    ·
     refine ⟨.refl _ _, by first | assumption | exact at21 | simpa using at21, .inl rfl, by first | rfl | simp | omega, ?_⟩
     omega
    ·
     rintro ⟨e, gL8, nL8⟩ HL2 ⟨lst2, at_L8, pl_L8, ln_L8, hI⟩ KL2 hKL2
     refine .forget (fr' := [(23, some (.int .i64 (e : Int))), (8, some (.slice (some ⟨gL8, 0, none⟩) nL8 nL8)), (1, some _), (4, some _), (5, some _), (6, some _), (14, some _), (15, some _), (16, some _), (22, some _)]) ⟨rfl, rfl, rfl, rfl, rfl, rfl, rfl, rfl, rfl, rfl, trivial⟩ ?_
     have ge_L8 : H.next ≤ gL8 := by omega
     have nx_HL2 := lst2.nx
     replace hle := hle.st lst2 (fun k hk => ⟨by omega, trivial⟩)
     replace lst1 := lst1.st lst2 (fun k hk ho => by simp only [out, and_true] at ho ⊢ <;> omega)
     replace rk := rk.st lst2 (fun k hk ho => by simp only [out, and_true] at ho ⊢ <;> omega)
     replace at4 := lst2.same _ _ ⟨by omega, trivial⟩ at4
     replace at_L5 := lst2.same _ _ ⟨by omega, trivial⟩ at_L5
     have lt_at_L8 := GHeap.lt_of_get at_L8
     replace h := base_h.mono hle
     clear fsh c5 c6 i1 i2 hm hi hmsh hish
     obtain ⟨fsh, c5, c6, i1, i2⟩ := h.get
     have hm : MemN _ _ _ _ _ := ⟨rfl, h.1⟩
     have hi := h.2
     have hmsh : MemN _ _ _ _ _ := ⟨rfl, fsh.1⟩
     have hish := fsh.2
     clear mm1002
     have mm1002 : MemN _ _ _ _ _ := ⟨rfl, Mem.of_get at1002⟩
     have hfl2 := filtN_le e (Y k)
     refine .seq (fun K12 hK12 => ?_)
     refine .region ?_
     refine .m rfl rfl rfl (.cmp rfl rfl rfl) ?_
     refine .nil ?_
     refine hK12 _ _ ?_
     refine .seq (fun K13 hK13 => ?_)
     refine .cond rfl (fun h24 => ?_) (fun h24 => ?_)
     ·
      simp only [sps] at h24
      refine .skip ?_
      refine hK13 _ _ ?_
      refine .seq (fun K14 hK14 => ?_)
      refine .block ?_
      refine .seq (fun K15 hK15 => ?_)
      refine .region ?_
      refine .m rfl rfl rfl (.move rfl) ?_
      refine .m rfl rfl rfl (.assign rfl) ?_
      refine .nil ?_
      refine hK15 _ _ ?_
      refine .seq (fun K16 hK16 => ?_)
      refine .region ?_
      refine .m rfl rfl rfl (.move rfl) ?_
      refine .m rfl rfl rfl (.move rfl) ?_
      refine .m rfl rfl rfl (.move rfl) ?_
      refine .callV rfl rfl rfl rfl rfl hcall rfl ((hq _ hle k e (by omega) (by omega))) ?_
      rintro _ _ ⟨rfl, rfl⟩
      refine .nil ?_
      refine hK16 _ _ ?_
      refine .cond rfl (fun h29 => ?_) (fun h29 => ?_)
      ·
       try simp only [sps] at h29
       refine .region ?_
       refine .m rfl rfl rfl (.move rfl) ?_
       refine .m rfl rfl rfl (.move rfl) ?_
       refine .r rfl rfl rfl (.litR rfl sl_22_A ze_2_E rfl rfl (by omega) (by omega) rfl rfl) ?_
       rintro _ H32 ⟨g32, rfl, le32, ge32, at32⟩
       have nx_H32 := le32.1
       replace hle := hle.trans le32
       replace lst1 := lst1.le le32
       replace rk := rk.le le32
       replace lst2 := lst2.le le32
       replace at4 := le32.2 _ _ at4
       replace at_L5 := le32.2 _ _ at_L5
       replace at_L8 := le32.2 _ _ at_L8
       have lt_at32 := GHeap.lt_of_get at32
       replace h := base_h.mono hle
       clear fsh c5 c6 i1 i2 hm hi hmsh hish
       obtain ⟨fsh, c5, c6, i1, i2⟩ := h.get
       have hm : MemN _ _ _ _ _ := ⟨rfl, h.1⟩
       have hi := h.2
       have hmsh : MemN _ _ _ _ _ := ⟨rfl, fsh.1⟩
       have hish := fsh.2
       clear mm1002
       have mm1002 : MemN _ _ _ _ _ := ⟨rfl, Mem.of_get at1002⟩
       refine .r rfl rfl rfl (.appendI rfl sl_22_A ze_2_E rfl by_2_E sl_22_A rfl rfl (by assumption) (by assumption) (by first | omega | (simp <;> omega)) (by omega) (by omega)) ?_
       rintro _ H33 ⟨g33, rfl, st33, ge33, at33⟩
       have nx_H33 := st33.nx
       replace hle := hle.st st33 (fun k hk => ⟨by omega, trivial⟩)
       replace lst1 := lst1.st st33 (fun k hk ho => by simp only [out, and_true] at ho ⊢ <;> omega)
       replace rk := rk.st st33 (fun k hk ho => by simp only [out, and_true] at ho ⊢ <;> omega)
       replace lst2 := lst2.st st33 (fun k hk ho => by simp only [out, and_true] at ho ⊢ <;> omega)
       replace at4 := st33.same _ _ ⟨by omega, trivial⟩ at4
       replace at_L5 := st33.same _ _ ⟨by omega, trivial⟩ at_L5
       replace at32 := st33.same _ _ ⟨by omega, trivial⟩ at32
       have lt_at33 := GHeap.lt_of_get at33
       replace h := base_h.mono hle
       clear fsh c5 c6 i1 i2 hm hi hmsh hish
       obtain ⟨fsh, c5, c6, i1, i2⟩ := h.get
       have hm : MemN _ _ _ _ _ := ⟨rfl, h.1⟩
       have hi := h.2
       have hmsh : MemN _ _ _ _ _ := ⟨rfl, fsh.1⟩
       have hish := fsh.2
       clear mm1002
       have mm1002 : MemN _ _ _ _ _ := ⟨rfl, Mem.of_get at1002⟩
       refine .m rfl rfl rfl (.assign rfl) ?_
       refine .nil ?_
       refine hK14 _ _ ?_
       refine .region ?_
       refine .m rfl rfl rfl (.add rfl rfl rfl (by omega) (by omega)) ?_
       refine .m rfl rfl rfl (.move rfl) ?_
       refine .nil ?_
       refine hKL2 ((e + 1, _, _)) _ _ ?_ ?_ ⟨rfl, rfl, rfl, rfl, rfl, rfl, rfl, rfl, rfl, rfl, trivial⟩
       ·
        refine ⟨lst2, by first | assumption | (rw [filtN_T h29]; assumption) | (rw [filtN_F (by simpa using h29)]; assumption), by omega, by first | omega | (simp only [List.length_append, List.length_cons, List.length_nil] <;> omega) | (rw [filtN_T h29] <;> (first | omega | (simp only [List.length_append, List.length_cons, List.length_nil] <;> omega))) | (rw [filtN_F (by simpa using h29)] <;> (first | omega | (simp only [List.length_append, List.length_cons, List.length_nil] <;> omega))), ?_⟩
        omega
       ·
        (dsimp only; omega)
      ·
       try simp only [sps] at h29
       refine .skip ?_
       refine hK14 _ _ ?_
       refine .region ?_
       refine .m rfl rfl rfl (.add rfl rfl rfl (by omega) (by omega)) ?_
       refine .m rfl rfl rfl (.move rfl) ?_
       refine .nil ?_
       refine hKL2 ((e + 1, _, _)) _ _ ?_ ?_ ⟨rfl, rfl, rfl, rfl, rfl, rfl, rfl, rfl, rfl, rfl, trivial⟩
       ·
        refine ⟨lst2, by first | assumption | (rw [filtN_T h29]; assumption) | (rw [filtN_F (by simpa using h29)]; assumption), by omega, by first | omega | (simp only [List.length_append, List.length_cons, List.length_nil] <;> omega) | (rw [filtN_T h29] <;> (first | omega | (simp only [List.length_append, List.length_cons, List.length_nil] <;> omega))) | (rw [filtN_F (by simpa using h29)] <;> (first | omega | (simp only [List.length_append, List.length_cons, List.length_nil] <;> omega))), ?_⟩
        omega
       ·
        (dsimp only; omega)
     ·
      try simp only [sps] at h24
      refine .exit ?_
      refine hK10 _ _ ?_
      refine .region ?_
      obtain rfl : e = (f.sz.getD k 0).toNat := by omega
      obtain rfl := ln_L8
      refine .m rfl rfl rfl (.fieldAddr fo_34_0_VPrt rfl) ?_
      have c5 : GHeap.cell HL2 g5 (0 + 0) = some (.slice a k k) := by rw [GHeap.cell_of at_L5]; rfl
      refine .m rfl rfl rfl (.load on_23_B rfl (by assumption)) ?_
      refine .m rfl rfl rfl (.move rfl) ?_
      refine .r rfl rfl rfl (.litR rfl sl_23_B ze_22_E rfl rfl (by omega) (by omega) rfl rfl) ?_
      rintro _ H38 ⟨g38, rfl, le38, ge38, at38⟩
      have nx_H38 := le38.1
      replace hle := hle.trans le38
      replace lst1 := lst1.le le38
      replace rk := rk.le le38
      replace at4 := le38.2 _ _ at4
      replace at_L5 := le38.2 _ _ at_L5
      replace at_L8 := le38.2 _ _ at_L8
      have lt_at38 := GHeap.lt_of_get at38
      replace h := base_h.mono hle
      clear fsh c5 c6 i1 i2 hm hi hmsh hish
      obtain ⟨fsh, c5, c6, i1, i2⟩ := h.get
      have hm : MemN _ _ _ _ _ := ⟨rfl, h.1⟩
      have hi := h.2
      have hmsh : MemN _ _ _ _ _ := ⟨rfl, fsh.1⟩
      have hish := fsh.2
      clear mm1002
      have mm1002 : MemN _ _ _ _ _ := ⟨rfl, Mem.of_get at1002⟩
      have hA2 := hA.st rk (by omega)
      have L1 : Lasts 2 HL1 H38 := rk.lasts1 hat5 rfl
      have hsl : (slsOf rr (fun x => filtN (f.sz.getD x 0).toNat (Y x)) k).length = k := length_slsOf _ _ _
      obtain ⟨gA, w1, w2, w3, w4⟩ := hA2.where_ hA (Nat.le_refl _) (by omega) (by omega)
      refine .r rfl rfl rfl (.appendVN rfl sl_23_B ze_22_E rfl by_22_E sl_23_B rfl rfl hA2 w1 (by assumption) (by simp) (by omega) rfl rfl (by omega) (by omega)) ?_
      rintro _ H39 ⟨g39, rfl, st39, ge39, at39⟩
      have nx_H39 := st39.nx
      replace hle := hle.st st39 (fun k hk => ⟨by omega, trivial⟩)
      replace lst1 := lst1.st st39 (fun k hk ho => by simp only [out, and_true] at ho ⊢ <;> omega)
      replace at4 := st39.same _ _ ⟨by omega, trivial⟩ at4
      replace at_L5 := st39.same _ _ ⟨by omega, trivial⟩ at_L5
      replace at_L8 := st39.same _ _ ⟨by omega, trivial⟩ at_L8
      replace at38 := st39.same _ _ ⟨by omega, trivial⟩ at38
      have lt_at39 := GHeap.lt_of_get at39
      replace h := base_h.mono hle
      clear fsh c5 c6 i1 i2 hm hi hmsh hish
      obtain ⟨fsh, c5, c6, i1, i2⟩ := h.get
      have hm : MemN _ _ _ _ _ := ⟨rfl, h.1⟩
      have hi := h.2
      have hmsh : MemN _ _ _ _ _ := ⟨rfl, fsh.1⟩
      have hish := fsh.2
      clear mm1002
      have mm1002 : MemN _ _ _ _ _ := ⟨rfl, Mem.of_get at1002⟩
      refine .m rfl rfl rfl (.fieldAddr fo_34_0_VPrt rfl) ?_
      have at5b := at_L5
      refine .r0 rfl rfl (.storeR rfl sz_23_E rfl rfl rfl (by assumption) (by first | exact Nat.le_of_ble_eq_true rfl | simp)) ?_
      rintro _ H12006 ⟨rfl, st12006, at12006⟩
      have nx_H12006 := st12006.nx
      replace hle := hle.st st12006 (fun k hk => ⟨by omega, trivial⟩)
      replace lst1 := lst1.st st12006 (fun k hk ho => by simp only [out, and_true] at ho ⊢ <;> omega)
      replace at4 := st12006.same _ _ ⟨by omega, trivial⟩ at4
      replace at_L8 := st12006.same _ _ ⟨by omega, trivial⟩ at_L8
      replace at38 := st12006.same _ _ ⟨by omega, trivial⟩ at38
      replace at39 := st12006.same _ _ ⟨by omega, trivial⟩ at39
      have lt_at12006 := GHeap.lt_of_get at12006
      replace h := base_h.mono hle
      clear fsh c5 c6 i1 i2 hm hi hmsh hish
      obtain ⟨fsh, c5, c6, i1, i2⟩ := h.get
      have hm : MemN _ _ _ _ _ := ⟨rfl, h.1⟩
      have hi := h.2
      have hmsh : MemN _ _ _ _ _ := ⟨rfl, fsh.1⟩
      have hish := fsh.2
      clear mm1002
      have mm1002 : MemN _ _ _ _ _ := ⟨rfl, Mem.of_get at1002⟩
      refine .nil ?_
      refine hK7 _ _ ?_
      refine .region ?_
      refine .m rfl rfl rfl (.add rfl rfl rfl (by omega) (by omega)) ?_
      refine .m rfl rfl rfl (.move rfl) ?_
      refine .nil ?_
      refine hKL1 ((k + 1, upd rr k (some ⟨gL8, 0, none⟩), some ⟨g39, 0, none⟩, g39)) _ _ ?_ ?_ ⟨rfl, rfl, rfl, rfl, rfl, rfl, trivial⟩
      ·
       refine ⟨lst1, by assumption, ?_⟩
       exact ⟨by omega, hR.succ' ((L1.trans (st39.lastsA w2 rfl)).trans (st12006.lasts1 at5b rfl)) (by assumption) (by omega) (by omega), .inr ⟨rfl, by omega, by omega, by rw [slsOf_succ]; assumption⟩⟩
      ·
       (dsimp only; omega)
   ·
    try simp only [sps] at h17
    refine .exit ?_
    refine hK3 _ _ ?_
    refine .seq (fun K17 hK17 => ?_)
    refine .region ?_
    have mm5 : MemN HL1 g5 0 1 [.slice a k k] := ⟨rfl, Mem.of_get at_L5⟩
    refine .m rfl rfl rfl (.loadM ag_34_VPrt rfl ⟨rfl, Mem.of_get at_L5⟩) ?_
    refine .r0 rfl rfl (.fillR rfl sz_34_VPrt rfl rfl rfl rfl (by assumption) (by first | rfl | exact Nat.le_of_ble_eq_true rfl | simp)) ?_
    rintro _ H14001 ⟨rfl, st14001, at14001⟩
    have nx_H14001 := st14001.nx
    replace hle := hle.st st14001 (fun k hk => ⟨by omega, trivial⟩)
    replace at_L5 := st14001.same _ _ ⟨by omega, trivial⟩ at_L5
    have lt_at14001 := GHeap.lt_of_get at14001
    replace h := base_h.mono hle
    clear fsh c5 c6 i1 i2 hm hi hmsh hish
    obtain ⟨fsh, c5, c6, i1, i2⟩ := h.get
    have hm : MemN _ _ _ _ _ := ⟨rfl, h.1⟩
    have hi := h.2
    have hmsh : MemN _ _ _ _ _ := ⟨rfl, fsh.1⟩
    have hish := fsh.2
    clear mm1002
    have mm1002 : MemN _ _ _ _ _ := ⟨rfl, Mem.of_get at1002⟩
    have mm14001 : MemN _ _ _ _ _ := ⟨rfl, Mem.of_get at14001⟩
    refine .nil ?_
    refine hK17 _ _ ?_
    refine .ret ?_
    -- leaf e1
    refine hret _ _ ?_
    refine ⟨_, _, _, _, rfl, ag_34_VPrt, (by rfl), (Mem.of_get at14001), ?_⟩
    obtain rfl : k = f.sz.length := by omega
    exact ⟨hle, ⟨a, rr⟩, by simp only [SFun.pick, Prt.cells, length_rowsOf], (hR.keep (st14001.lasts1 at4 rfl)).done' (hA.st st14001 (by omega)) (by omega)⟩
end Go.Proofs.Ytbpehbbdodahaaa
