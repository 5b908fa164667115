/- Parts that connectives and maps make: the reference. No condition but those of each statement. -/
import Derived.Test.YtbpehbbdodahaaaUe
namespace Go.Proofs.Ytbpehbbdodahaaa
open Go Go.GL Go.RowKit Go.Proofs
set_option maxHeartbeats 4000000 in
theorem l26Meet_c {f : SFun} {p : SFunP} {a a' : Option Addr} {me me' : List (List Int)} {r r' : Nat → Option Addr} {H : GHeap} (hin : f.In H p := by assumption) (hm : Intss H a me r := by assumption) (hm' : Intss H a' me' r' := by assumption) (hs : f.Small := by assumption) (hI : f.Is) (hp : f.Part me) (hp' : f.Part me')
    (hl : ∀ i, (me.getD i []).length ≤ 1048576 := by assumption) (hl' : ∀ i, (me'.getD i []).length ≤ 1048576 := by assumption) :
    GCalls Try.prog 42 [.agg (f.cells p).toArray, .slice a me.length me.length, .slice a' me'.length me'.length] H (NewIntssR H (f.conn (· && ·) me me').me) := by
  have hz := hI.1.sz
  have hn : f.sz.length ≤ 1048576 := hs.2.1
  have e1 := hp.pl
  have e2 := hp'.pl
  refine GCalls.body (N := 56) (rs := [.tmp 6]) Try.func42 rfl rfl rfl rfl (fun Qx hret hend => ?_)
  refine .forget (fr' := [(0, some _), (1, some _), (2, some _)]) ⟨rfl, rfl, rfl, trivial⟩ ?_
  have hle := GHeap.Le.refl H
  have base_hin := hin
  have base_hm := hm
  have base_hm' := hm'
  refine .seq (fun K1 hK1 => ?_)
  refine .region ?_
  refine .r rfl rfl rfl (.boxR rfl sz_39_VSFun rfl) ?_
  rintro _ H3 ⟨g3, rfl, le3, ge3, at3⟩
  have nx_H3 := le3.1
  replace hle := hle.trans le3
  have lt_at3 := GHeap.lt_of_get at3
  replace hin := base_hin.mono hle
  replace hm := base_hm.mono hle
  replace hm' := base_hm'.mono hle
  have hb3 : SFun.At _ g3 0 f p := ⟨Mem.of_get at3, hin⟩
  obtain ⟨fsh3, c53, c63, i13, i23⟩ := hb3.get
  have hm3 : MemN _ _ _ _ _ := ⟨rfl, hb3.1⟩
  have hi3 := hb3.2
  have hmsh3 : MemN _ _ _ _ _ := ⟨rfl, fsh3.1⟩
  have hish3 := fsh3.2
  refine .m rfl rfl rfl (.assign rfl) ?_
  refine .nil ?_
  refine hK1 _ _ ?_
  refine .seq (fun K2 hK2 => ?_)
  refine .regionD mixed_orders_B (.q 0 (.q 1 (.q 3 (.q 4 (.c 2 1 (.c 5 0 (.q 6 (.q 7 (.done))))))))) (by kernel_rfl) ?_
  refine .m rfl rfl rfl rfl (.refl _) (.loadM ag_39_VSFun rfl ⟨rfl, Mem.of_get at3⟩) ?_
  refine .m rfl rfl rfl rfl (.refl _) (.move rfl) ?_
  refine .m rfl rfl rfl rfl (.refl _) (.loadM ag_39_VSFun rfl ⟨rfl, Mem.of_get at3⟩) ?_
  refine .m rfl rfl rfl rfl (.refl _) (.move rfl) ?_
  refine .call1 rfl rfl rfl rfl rfl @Try.call71 rfl (l26Marks_c (a := a) (r := r) (hz := hz) (hml := e1) (hme := fun x hx => ⟨hl x, (hp.rs x hx).2⟩)) ?_
  rintro _ H13 ⟨le13, g13, r13, rfl, v13⟩
  have hbl := le13
  refine ⟨hbl, ?_⟩
  have nx_H13 := le13.1
  replace hle := hle.trans le13
  replace at3 := le13.2 _ _ at3
  have bs_v13 := v13
  have lv_v13 : Keep H3.next H13 H13 := fun _ _ _ h => h
  replace hin := base_hin.mono hle
  replace hm := base_hm.mono hle
  replace hm' := base_hm'.mono hle
  clear hb3 fsh3 c53 c63 i13 i23 hm3 hi3 hmsh3 hish3
  have hb3 : SFun.At _ g3 0 f p := ⟨Mem.of_get at3, hin⟩
  obtain ⟨fsh3, c53, c63, i13, i23⟩ := hb3.get
  have hm3 : MemN _ _ _ _ _ := ⟨rfl, hb3.1⟩
  have hi3 := hb3.2
  have hmsh3 : MemN _ _ _ _ _ := ⟨rfl, fsh3.1⟩
  have hish3 := fsh3.2
  have i13 := v13.sl
  refine .call0 rfl rfl rfl rfl rfl @Try.call71 rfl (l26Marks_c (a := a') (r := r') (hz := hz) (hml := e2) (hme := fun x hx => ⟨hl' x, (hp'.rs x hx).2⟩)) ?_
  rintro _ H16 ⟨le16, g16, r16, rfl, v16⟩
  have nx_H16 := le16.1
  replace hle := hle.trans le16
  replace at3 := le16.2 _ _ at3
  replace lv_v13 := Keep.le lv_v13 le16
  replace v13 := bs_v13.keep lv_v13 (Nat.le_refl _)
  have bs_v16 := v16
  have lv_v16 : Keep H13.next H16 H16 := fun _ _ _ h => h
  replace hin := base_hin.mono hle
  replace hm := base_hm.mono hle
  replace hm' := base_hm'.mono hle
  clear hb3 fsh3 c53 c63 i13 i23 hm3 hi3 hmsh3 hish3
  have hb3 : SFun.At _ g3 0 f p := ⟨Mem.of_get at3, hin⟩
  obtain ⟨fsh3, c53, c63, i13, i23⟩ := hb3.get
  have hm3 : MemN _ _ _ _ _ := ⟨rfl, hb3.1⟩
  have hi3 := hb3.2
  have hmsh3 : MemN _ _ _ _ _ := ⟨rfl, fsh3.1⟩
  have hish3 := fsh3.2
  clear i13
  have i13 := v13.sl
  have i16 := v16.sl
  refine .m rfl rfl rfl rfl (.refl _) (.assign rfl) ?_
  refine .m rfl rfl rfl rfl (.refl _) (.assign rfl) ?_
  refine .done ?_
  refine hK2 _ _ ?_
  refine .seq (fun K3 hK3 => ?_)
  refine .seq (fun K4 hK4 => ?_)
  refine .region ?_
  refine .m rfl rfl rfl (.assign rfl) ?_
  refine .nil ?_
  refine hK4 _ _ ?_
  refine .block ?_
  have q1 : ∀ i, i < f.sz.length → r13 i < H13.next := fun i hi => (bs_v13.lt (i := i)).2 hi
  clear i13 i16
  refine .loopR (σ := Nat) [(7, some _), (8, some _)] (fun k => [(9, some (.int .i64 (k : Int)))]) (fun k H' => k ≤ f.sz.length ∧ H.Le H' ∧ BMat H.next H' g13 90 4 r13 (fun x => (f.sz.getD x 0).toNat) (meetM (opL (· && ·) me me') (hasL me) k 0) f.sz.length ∧ BMat H13.next H' g16 90 4 r16 (fun x => (f.sz.getD x 0).toNat) (hasL me') f.sz.length) (fun k => f.sz.length - k) (0) ⟨rfl, rfl, trivial⟩ ⟨rfl, trivial⟩ ?_ ?_
  ·
   exact ⟨by omega, hle, by rw [meetM_zero]; exact v13.keep (.of_le (.refl _)) (by omega), v16⟩
  ·
   rintro k HL1 hI KL1 hKL1
   refine .forget (fr' := [(9, some (.int .i64 (k : Int))), (7, some _), (8, some _)]) ⟨rfl, rfl, rfl, trivial⟩ ?_
   obtain ⟨hk, hle, m1, m2⟩ := hI
   have nx_HL1 := hle.1
   replace hin := base_hin.mono hle
   replace hm := base_hm.mono hle
   replace hm' := base_hm'.mono hle
   have i13 := m1.sl
   refine .seq (fun K5 hK5 => ?_)
   refine .seq (fun K6 hK6 => ?_)
   refine .region ?_
   refine .m rfl rfl rfl (.move rfl) ?_
   refine .m rfl rfl rfl (.move rfl) ?_
   refine .m rfl rfl rfl (.len sl_88_Ue rfl) ?_
   refine .m rfl rfl rfl (.cmp rfl rfl rfl) ?_
   refine .nil ?_
   refine hK6 _ _ ?_
   refine .cond rfl (fun h20 => ?_) (fun h20 => ?_)
   ·
    simp only [sps] at h20
    have r2 := hz k (by omega)
    refine .skip ?_
    refine hK5 _ _ ?_
    refine .seq (fun K7 hK7 => ?_)
    refine .block ?_
    refine .seq (fun K8 hK8 => ?_)
    refine .region ?_
    refine .m rfl rfl rfl (.assign rfl) ?_
    refine .nil ?_
    refine hK8 _ _ ?_
    refine .block ?_
    refine .loopR (σ := Nat) [(7, some _), (8, some _), (9, some _)] (fun l => [(10, some (.int .i64 (l : Int)))]) (fun l H' => l ≤ (f.sz.getD k 0).toNat ∧ H.Le H' ∧ BMat H.next H' g13 90 4 r13 (fun x => (f.sz.getD x 0).toNat) (meetM (opL (· && ·) me me') (hasL me) k l) f.sz.length ∧ BMat H13.next H' g16 90 4 r16 (fun x => (f.sz.getD x 0).toNat) (hasL me') f.sz.length) (fun l => (f.sz.getD k 0).toNat - l) (0) ⟨rfl, rfl, rfl, trivial⟩ ⟨rfl, trivial⟩ ?_ ?_
    ·
     exact ⟨by omega, hle, m1, m2⟩
    ·
     rintro l HL2 hI KL2 hKL2
     refine .forget (fr' := [(10, some (.int .i64 (l : Int))), (7, some _), (8, some _), (9, some _)]) ⟨rfl, rfl, rfl, rfl, trivial⟩ ?_
     obtain ⟨hl0, hle, m1, m2⟩ := hI
     have r3 := m1.row (i := k) (by omega)
     have r4 := m2.row (i := k) (by omega)
     have r5 := r3.tabS
     have r6 := r4.tabS
     have b1 := length_tabB (f.sz.getD k 0).toNat (meetM (opL (· && ·) me me') (hasL me) k l k)
     have b2 := length_tabB (f.sz.getD k 0).toNat (hasL me' k)
     obtain ⟨rg, g1⟩ := m1.own.row k (by omega)
     have nx_HL2 := hle.1
     replace hin := base_hin.mono hle
     replace hm := base_hm.mono hle
     replace hm' := base_hm'.mono hle
     have i13 := m1.sl
     have i16 := m2.sl
     refine .seq (fun K9 hK9 => ?_)
     refine .seq (fun K10 hK10 => ?_)
     refine .region ?_
     refine .m rfl rfl rfl (.move rfl) ?_
     refine .m rfl rfl rfl (.move rfl) ?_
     refine .m rfl rfl rfl (.move rfl) ?_
     refine .m rfl rfl rfl (.idxN sl_88_Ue (by assumption) rfl rfl (by omega)) ?_
     refine .m rfl rfl rfl (.loadE on_90_Ue (by assumption) rfl (by omega)) ?_
     refine .m rfl rfl rfl (.len sl_90_Ue rfl) ?_
     refine .m rfl rfl rfl (.cmp rfl rfl rfl) ?_
     refine .nil ?_
     refine hK10 _ _ ?_
     refine .cond rfl (fun h29 => ?_) (fun h29 => ?_)
     ·
      simp only [sps] at h29
      refine .skip ?_
      refine hK9 _ _ ?_
      refine .seq (fun K11 hK11 => ?_)
      refine .block ?_
      refine .regionD mixed_orders_B (.q 0 (.q 1 (.q 2 (.q 3 (.q 4 (.q 5 (.q 6 (.q 7 (.q 8 (.q 9 (.q 10 (.q 11 (.q 12 (.q 13 (.q 14 (.q 15 (.q 16 (.q 17 (.q 18 (.q 19 (.q 20 (.q 21 (.c 22 0 (.done)))))))))))))))))))))))) (by kernel_rfl) ?_
      refine .m rfl rfl rfl rfl (.refl _) (.move rfl) ?_
      refine .m rfl rfl rfl rfl (.refl _) (.move rfl) ?_
      refine .m rfl rfl rfl rfl (.refl _) (.idxN sl_88_Ue (by assumption) rfl rfl (by omega)) ?_
      refine .m rfl rfl rfl rfl (.refl _) (.loadE on_90_Ue (by assumption) rfl (by omega)) ?_
      refine .m rfl rfl rfl rfl (.refl _) (.move rfl) ?_
      refine .m rfl rfl rfl rfl (.refl _) (.move rfl) ?_
      refine .m rfl rfl rfl rfl (.refl _) (.move rfl) ?_
      refine .m rfl rfl rfl rfl (.refl _) (.idxN sl_88_Ue (by assumption) rfl rfl (by omega)) ?_
      refine .m rfl rfl rfl rfl (.refl _) (.loadE on_90_Ue (by assumption) rfl (by omega)) ?_
      refine .m rfl rfl rfl rfl (.refl _) (.move rfl) ?_
      refine .m rfl rfl rfl rfl (.refl _) (.idxN sl_90_Ue (by assumption) rfl rfl (by omega)) ?_
      refine .m rfl rfl rfl rfl (.refl _) (.loadB on_4_Ue (by assumption) rfl (by omega)) ?_
      refine .m rfl rfl rfl rfl (.refl _) (.move rfl) ?_
      refine .split (fun h44 => ?_) (fun h44 => ?_)
      ·
       rw [tabB_get (by omega), meetM_at] at h44
       refine .mg rfl rfl rfl rfl rfl rfl (.refl _) (.move rfl) ?_
       refine .mg rfl rfl rfl rfl rfl rfl (.refl _) (.move rfl) ?_
       refine .mg rfl rfl rfl rfl rfl rfl (.refl _) (.idxN sl_88_Ue (by assumption) rfl rfl (by omega)) ?_
       refine .mg rfl rfl rfl rfl rfl rfl (.refl _) (.loadE on_90_Ue (by assumption) rfl (by omega)) ?_
       refine .mg rfl rfl rfl rfl rfl rfl (.refl _) (.move rfl) ?_
       refine .mg rfl rfl rfl rfl rfl rfl (.refl _) (.idxN sl_90_Ue (by assumption) rfl rfl (by omega)) ?_
       refine .mg rfl rfl rfl rfl rfl rfl (.refl _) (.loadB on_4_Ue (by assumption) rfl (by omega)) ?_
       refine .m rfl rfl rfl rfl (.refl _) (.pickT rfl rfl) ?_
       refine .m rfl rfl rfl rfl (.refl _) (.idxN sl_90_Ue (by assumption) rfl rfl (by omega)) ?_
       refine .r0 rfl rfl rfl (.storeB rfl sz_4_Ue rfl rfl (by assumption) (by first | omega | (simp <;> omega))) ?_
       rintro _ H8022 ⟨rfl, st8022, at8022⟩
       have nx_H8022 := st8022.nx
       replace hle := hle.st st8022 (fun k hk => ⟨by omega, trivial⟩)
       have lt_at8022 := GHeap.lt_of_get at8022
       replace hin := base_hin.mono hle
       replace hm := base_hm.mono hle
       replace hm' := base_hm'.mono hle
       clear i13
       have i13 := m1.sl
       clear i16
       have i16 := m2.sl
       have e8 := at8022
       rw [Nat.zero_add, meetM_set (N := opL (· && ·) me me') ?_] at e8
       rotate_left
       · first | (rw [tabB_get (by omega)]; simp [opL, h44]; done) | (simp [opL, h44]; done)
       have m1' := m1.put (i := k) (M' := meetM (opL (· && ·) me me') (hasL me) k (l + 1)) (by omega) st8022 e8 meetM_other rfl
       have m2' := m2.st st8022 (q1 k (by omega))
       refine .done ?_
       refine hK11 _ _ ?_
       refine .region ?_
       refine .m rfl rfl rfl (.move rfl) ?_
       refine .m rfl rfl rfl (.add rfl rfl rfl (by omega) (by omega)) ?_
       refine .m rfl rfl rfl (.assign rfl) ?_
       refine .nil ?_
       refine hKL2 (l + 1) _ _ ?_ ?_ ⟨rfl, rfl, rfl, rfl, trivial⟩
       ·
        exact ⟨by omega, hle, m1', m2'⟩
       ·
        omega
      ·
       rw [tabB_get (by omega), meetM_at] at h44
       refine .sg rfl rfl rfl rfl rfl rfl ?_
       refine .sg rfl rfl rfl rfl rfl rfl ?_
       refine .sg rfl rfl rfl rfl rfl rfl ?_
       refine .sg rfl rfl rfl rfl rfl rfl ?_
       refine .sg rfl rfl rfl rfl rfl rfl ?_
       refine .sg rfl rfl rfl rfl rfl rfl ?_
       refine .sg rfl rfl rfl rfl rfl rfl ?_
       refine .m rfl rfl rfl rfl (.refl _) (.pickF rfl rfl) ?_
       refine .m rfl rfl rfl rfl (.refl _) (.idxN sl_90_Ue (by assumption) rfl rfl (by omega)) ?_
       refine .r0 rfl rfl rfl (.storeB rfl sz_4_Ue rfl rfl (by assumption) (by first | omega | (simp <;> omega))) ?_
       rintro _ H8022x2 ⟨rfl, st8022x2, at8022x2⟩
       have nx_H8022x2 := st8022x2.nx
       replace hle := hle.st st8022x2 (fun k hk => ⟨by omega, trivial⟩)
       have lt_at8022x2 := GHeap.lt_of_get at8022x2
       replace hin := base_hin.mono hle
       replace hm := base_hm.mono hle
       replace hm' := base_hm'.mono hle
       clear i13
       have i13 := m1.sl
       clear i16
       have i16 := m2.sl
       have e8 := at8022x2
       rw [Nat.zero_add, meetM_set (N := opL (· && ·) me me') ?_] at e8
       rotate_left
       · first | (rw [tabB_get (by omega)]; simp [opL, h44]; done) | (simp [opL, h44]; done)
       have m1' := m1.put (i := k) (M' := meetM (opL (· && ·) me me') (hasL me) k (l + 1)) (by omega) st8022x2 e8 meetM_other rfl
       have m2' := m2.st st8022x2 (q1 k (by omega))
       refine .done ?_
       refine hK11 _ _ ?_
       refine .region ?_
       refine .m rfl rfl rfl (.move rfl) ?_
       refine .m rfl rfl rfl (.add rfl rfl rfl (by omega) (by omega)) ?_
       refine .m rfl rfl rfl (.assign rfl) ?_
       refine .nil ?_
       refine hKL2 (l + 1) _ _ ?_ ?_ ⟨rfl, rfl, rfl, rfl, trivial⟩
       ·
        exact ⟨by omega, hle, m1', m2'⟩
       ·
        omega
     ·
      try simp only [sps] at h29
      refine .exit ?_
      refine hK7 _ _ ?_
      refine .region ?_
      refine .m rfl rfl rfl (.move rfl) ?_
      refine .m rfl rfl rfl (.add rfl rfl rfl (by omega) (by omega)) ?_
      refine .m rfl rfl rfl (.assign rfl) ?_
      refine .nil ?_
      refine hKL1 (k + 1) _ _ ?_ ?_ ⟨rfl, rfl, rfl, trivial⟩
      ·
       obtain rfl : l = (f.sz.getD k 0).toNat := by omega
       exact ⟨by omega, hle, m1.congr meetM_next, m2⟩
      ·
       omega
   ·
    try simp only [sps] at h20
    refine .exit ?_
    refine hK3 _ _ ?_
    refine .seq (fun K12 hK12 => ?_)
    refine .region ?_
    refine .m rfl rfl rfl (.move rfl) ?_
    obtain rfl : k = f.sz.length := by omega
    have m1d := m1.congr (M' := opL (· && ·) me me') (fun j hj d _ => meetM_done j hj d)
    refine .call rfl rfl rfl rfl @Try.call72 rfl (l26Marked_c (h := m1d) (hL := fun i hi => by have := hz i hi; omega)) ?_
    rintro _ H55 ⟨le55, a55, r55, rfl, v55⟩
    have nx_H55 := le55.1
    replace hle := hle.trans le55
    have bs_v55 := v55
    have lv_v55 : Keep HL1.next H55 H55 := fun _ _ _ h => h
    replace hin := base_hin.mono hle
    replace hm := base_hm.mono hle
    replace hm' := base_hm'.mono hle
    clear i13
    have i13 := m1.sl
    have i55 := v55.intss
    refine .m rfl rfl rfl (.assign rfl) ?_
    refine .nil ?_
    refine hK12 _ _ ?_
    refine .ret ?_
    -- leaf e1
    refine hret _ _ ?_
    refine ⟨_, rfl, ?_⟩
    exact ⟨hle, a55, r55, rfl, v55.keep (.of_le (.refl _)) (by omega)⟩
theorem specMeetParts_c {f : SFun} {p : SFunP} {m m' : Prt} {q q' : PrtP} {H : GHeap} (hin : f.In H p := by assumption) (hin1 : m.In H q := by assumption) (hin2 : m'.In H q' := by assumption) (hs : f.Small := by assumption) (hs1 : m.Small := by assumption) (hs2 : m'.Small := by assumption) :
    GCalls Try.prog 19 [.agg (f.cells p).toArray, .agg (m.cells q).toArray, .agg (m'.cells q').toArray] H (fun v H' => H.Le H' ∧ ∃ r, v = .tuple #[.agg ((f.con (· && ·) m.me m'.me).cells r).toArray, .int .i64 (f.conC m.me m'.me)] ∧ PrtR H.next H' (f.con (· && ·) m.me m'.me) r) := by
  obtain ⟨_, w1⟩ := id hs1
  obtain ⟨_, w2⟩ := id hs2
  refine GCalls.body (N := 21) (rs := [.cell 6 34, .tmp 7]) Try.func19 rfl rfl rfl rfl (fun Qx hret hend => ?_)
  refine .forget (fr' := [(0, some _), (1, some _), (2, some _)]) ⟨rfl, rfl, rfl, trivial⟩ ?_
  have hle := GHeap.Le.refl H
  have base_hin := hin
  have base_hin1 := hin1
  have base_hin2 := hin2
  refine .seq (fun K1 hK1 => ?_)
  refine .region ?_
  refine .r rfl rfl rfl (.boxR rfl sz_39_VSFun rfl) ?_
  rintro _ H3 ⟨g3, rfl, le3, ge3, at3⟩
  have nx_H3 := le3.1
  replace hle := hle.trans le3
  have lt_at3 := GHeap.lt_of_get at3
  replace hin := base_hin.mono hle
  replace hin1 := base_hin1.mono hle
  replace hin2 := base_hin2.mono hle
  have hb3 : SFun.At _ g3 0 f p := ⟨Mem.of_get at3, hin⟩
  obtain ⟨fsh3, c53, c63, i13, i23⟩ := hb3.get
  have hm3 : MemN _ _ _ _ _ := ⟨rfl, hb3.1⟩
  have hi3 := hb3.2
  have hmsh3 : MemN _ _ _ _ _ := ⟨rfl, fsh3.1⟩
  have hish3 := fsh3.2
  refine .r rfl rfl rfl (.boxR rfl sz_34_VPrt rfl) ?_
  rintro _ H4 ⟨g4, rfl, le4, ge4, at4⟩
  have nx_H4 := le4.1
  replace hle := hle.trans le4
  replace at3 := le4.2 _ _ at3
  have lt_at4 := GHeap.lt_of_get at4
  replace hin := base_hin.mono hle
  replace hin1 := base_hin1.mono hle
  replace hin2 := base_hin2.mono hle
  clear hb3 fsh3 c53 c63 i13 i23 hm3 hi3 hmsh3 hish3
  have hb3 : SFun.At _ g3 0 f p := ⟨Mem.of_get at3, hin⟩
  obtain ⟨fsh3, c53, c63, i13, i23⟩ := hb3.get
  have hm3 : MemN _ _ _ _ _ := ⟨rfl, hb3.1⟩
  have hi3 := hb3.2
  have hmsh3 : MemN _ _ _ _ _ := ⟨rfl, fsh3.1⟩
  have hish3 := fsh3.2
  have hb4 : Prt.At _ g4 0 m q := ⟨Mem.of_get at4, hin1⟩
  obtain ⟨c04, i04⟩ := hb4.get
  have hm4 : MemN _ _ _ _ _ := ⟨rfl, hb4.1⟩
  have hi4 := hb4.2
  refine .r rfl rfl rfl (.boxR rfl sz_34_VPrt rfl) ?_
  rintro _ H5 ⟨g5, rfl, le5, ge5, at5⟩
  have nx_H5 := le5.1
  replace hle := hle.trans le5
  replace at3 := le5.2 _ _ at3
  replace at4 := le5.2 _ _ at4
  have lt_at5 := GHeap.lt_of_get at5
  replace hin := base_hin.mono hle
  replace hin1 := base_hin1.mono hle
  replace hin2 := base_hin2.mono hle
  clear hb3 fsh3 c53 c63 i13 i23 hm3 hi3 hmsh3 hish3
  have hb3 : SFun.At _ g3 0 f p := ⟨Mem.of_get at3, hin⟩
  obtain ⟨fsh3, c53, c63, i13, i23⟩ := hb3.get
  have hm3 : MemN _ _ _ _ _ := ⟨rfl, hb3.1⟩
  have hi3 := hb3.2
  have hmsh3 : MemN _ _ _ _ _ := ⟨rfl, fsh3.1⟩
  have hish3 := fsh3.2
  clear hb4 c04 i04 hm4 hi4
  have hb4 : Prt.At _ g4 0 m q := ⟨Mem.of_get at4, hin1⟩
  obtain ⟨c04, i04⟩ := hb4.get
  have hm4 : MemN _ _ _ _ _ := ⟨rfl, hb4.1⟩
  have hi4 := hb4.2
  have hb5 : Prt.At _ g5 0 m' q' := ⟨Mem.of_get at5, hin2⟩
  obtain ⟨c05, i05⟩ := hb5.get
  have hm5 : MemN _ _ _ _ _ := ⟨rfl, hb5.1⟩
  have hi5 := hb5.2
  refine .r rfl rfl rfl (.allocR rfl ze_34_VPrt rfl) ?_
  rintro _ H6 ⟨g6, rfl, le6, ge6, at6⟩
  have nx_H6 := le6.1
  replace hle := hle.trans le6
  replace at3 := le6.2 _ _ at3
  replace at4 := le6.2 _ _ at4
  replace at5 := le6.2 _ _ at5
  have lt_at6 := GHeap.lt_of_get at6
  replace hin := base_hin.mono hle
  replace hin1 := base_hin1.mono hle
  replace hin2 := base_hin2.mono hle
  clear hb3 fsh3 c53 c63 i13 i23 hm3 hi3 hmsh3 hish3
  have hb3 : SFun.At _ g3 0 f p := ⟨Mem.of_get at3, hin⟩
  obtain ⟨fsh3, c53, c63, i13, i23⟩ := hb3.get
  have hm3 : MemN _ _ _ _ _ := ⟨rfl, hb3.1⟩
  have hi3 := hb3.2
  have hmsh3 : MemN _ _ _ _ _ := ⟨rfl, fsh3.1⟩
  have hish3 := fsh3.2
  clear hb4 c04 i04 hm4 hi4
  have hb4 : Prt.At _ g4 0 m q := ⟨Mem.of_get at4, hin1⟩
  obtain ⟨c04, i04⟩ := hb4.get
  have hm4 : MemN _ _ _ _ _ := ⟨rfl, hb4.1⟩
  have hi4 := hb4.2
  clear hb5 c05 i05 hm5 hi5
  have hb5 : Prt.At _ g5 0 m' q' := ⟨Mem.of_get at5, hin2⟩
  obtain ⟨c05, i05⟩ := hb5.get
  have hm5 : MemN _ _ _ _ _ := ⟨rfl, hb5.1⟩
  have hi5 := hb5.2
  refine .m rfl rfl rfl (.assign rfl) ?_
  refine .nil ?_
  refine hK1 _ _ ?_
  refine .seq (fun K2 hK2 => ?_)
  refine .seq (fun K3 hK3 => ?_)
  refine .region ?_
  refine .m rfl rfl rfl (.loadM ag_39_VSFun rfl ⟨rfl, Mem.of_get at3⟩) ?_
  refine .m rfl rfl rfl (.loadM ag_34_VPrt rfl ⟨rfl, Mem.of_get at4⟩) ?_
  refine .m rfl rfl rfl (.loadM ag_34_VPrt rfl ⟨rfl, Mem.of_get at5⟩) ?_
  refine .callQ rfl rfl rfl rfl @Try.call41 rfl (l26Two_c) ?_
  refine .m rfl rfl rfl (.not rfl) ?_
  refine .nil ?_
  refine hK3 _ _ ?_
  refine .cond rfl (fun h12 => ?_) (fun h12 => ?_)
  ·
   simp only [sps] at h12
   refine .seq (fun K4 hK4 => ?_)
   refine .region ?_
   refine .m rfl rfl rfl (.build bt_34_Uc rfl rfl rfl) ?_
   refine .r0 rfl rfl (.fillR rfl sz_34_VPrt rfl rfl rfl rfl (by assumption) (by first | rfl | exact Nat.le_of_ble_eq_true rfl | simp)) ?_
   rintro _ H2001 ⟨rfl, st2001, at2001⟩
   have nx_H2001 := st2001.nx
   replace hle := hle.st st2001 (fun k hk => ⟨by omega, trivial⟩)
   replace at3 := st2001.same _ _ ⟨by omega, trivial⟩ at3
   replace at4 := st2001.same _ _ ⟨by omega, trivial⟩ at4
   replace at5 := st2001.same _ _ ⟨by omega, trivial⟩ at5
   have lt_at2001 := GHeap.lt_of_get at2001
   replace hin := base_hin.mono hle
   replace hin1 := base_hin1.mono hle
   replace hin2 := base_hin2.mono hle
   clear hb3 fsh3 c53 c63 i13 i23 hm3 hi3 hmsh3 hish3
   have hb3 : SFun.At _ g3 0 f p := ⟨Mem.of_get at3, hin⟩
   obtain ⟨fsh3, c53, c63, i13, i23⟩ := hb3.get
   have hm3 : MemN _ _ _ _ _ := ⟨rfl, hb3.1⟩
   have hi3 := hb3.2
   have hmsh3 : MemN _ _ _ _ _ := ⟨rfl, fsh3.1⟩
   have hish3 := fsh3.2
   clear hb4 c04 i04 hm4 hi4
   have hb4 : Prt.At _ g4 0 m q := ⟨Mem.of_get at4, hin1⟩
   obtain ⟨c04, i04⟩ := hb4.get
   have hm4 : MemN _ _ _ _ _ := ⟨rfl, hb4.1⟩
   have hi4 := hb4.2
   clear hb5 c05 i05 hm5 hi5
   have hb5 : Prt.At _ g5 0 m' q' := ⟨Mem.of_get at5, hin2⟩
   obtain ⟨c05, i05⟩ := hb5.get
   have hm5 : MemN _ _ _ _ _ := ⟨rfl, hb5.1⟩
   have hi5 := hb5.2
   have mm2001 : MemN _ _ _ _ _ := ⟨rfl, Mem.of_get at2001⟩
   refine .m rfl rfl rfl (.assign rfl) ?_
   refine .nil ?_
   refine hK4 _ _ ?_
   refine .ret ?_
   -- leaf e1
   refine hret _ _ ?_
   refine ⟨_, _, _, _, _, rfl, ag_34_VPrt, (by rfl), (Mem.of_get at2001), rfl, ?_⟩
   obtain ⟨e1, e2⟩ := SFun.con_not (op := (· && ·)) h12
   rw [e1, e2]
   exact ⟨hle, ⟨none, fun _ => none⟩, rfl, .nil _ _ _⟩
  ·
   simp only [sps] at h12
   refine .skip ?_
   refine hK2 _ _ ?_
   refine .seq (fun K5 hK5 => ?_)
   refine .region ?_
   refine .m rfl rfl rfl (.loadM ag_39_VSFun rfl ⟨rfl, Mem.of_get at3⟩) ?_
   refine .m rfl rfl rfl (.fieldAddr fo_34_0_VPrt rfl) ?_
   refine .m rfl rfl rfl (.load on_23_B rfl (by assumption)) ?_
   refine .m rfl rfl rfl (.fieldAddr fo_34_0_VPrt rfl) ?_
   refine .m rfl rfl rfl (.load on_23_B rfl (by assumption)) ?_
   refine .call rfl rfl rfl rfl @Try.call42 rfl (l26Meet_c (hI := h12.1) (hp := h12.2.1) (hp' := h12.2.2)) ?_
   rintro _ H19 ⟨le19, a19, r19, rfl, v19⟩
   have nx_H19 := le19.1
   replace hle := hle.trans le19
   replace at3 := le19.2 _ _ at3
   replace at4 := le19.2 _ _ at4
   replace at5 := le19.2 _ _ at5
   replace at6 := le19.2 _ _ at6
   have bs_v19 := v19
   have lv_v19 : Keep H6.next H19 H19 := fun _ _ _ h => h
   replace hin := base_hin.mono hle
   replace hin1 := base_hin1.mono hle
   replace hin2 := base_hin2.mono hle
   clear hb3 fsh3 c53 c63 i13 i23 hm3 hi3 hmsh3 hish3
   have hb3 : SFun.At _ g3 0 f p := ⟨Mem.of_get at3, hin⟩
   obtain ⟨fsh3, c53, c63, i13, i23⟩ := hb3.get
   have hm3 : MemN _ _ _ _ _ := ⟨rfl, hb3.1⟩
   have hi3 := hb3.2
   have hmsh3 : MemN _ _ _ _ _ := ⟨rfl, fsh3.1⟩
   have hish3 := fsh3.2
   clear hb4 c04 i04 hm4 hi4
   have hb4 : Prt.At _ g4 0 m q := ⟨Mem.of_get at4, hin1⟩
   obtain ⟨c04, i04⟩ := hb4.get
   have hm4 : MemN _ _ _ _ _ := ⟨rfl, hb4.1⟩
   have hi4 := hb4.2
   clear hb5 c05 i05 hm5 hi5
   have hb5 : Prt.At _ g5 0 m' q' := ⟨Mem.of_get at5, hin2⟩
   obtain ⟨c05, i05⟩ := hb5.get
   have hm5 : MemN _ _ _ _ _ := ⟨rfl, hb5.1⟩
   have hi5 := hb5.2
   have i19 := v19.intss
   refine .m rfl rfl rfl (.build bt_34_Uc rfl rfl rfl) ?_
   refine .r0 rfl rfl (.fillR rfl sz_34_VPrt rfl rfl rfl rfl (by assumption) (by first | rfl | exact Nat.le_of_ble_eq_true rfl | simp)) ?_
   rintro _ H3007 ⟨rfl, st3007, at3007⟩
   have nx_H3007 := st3007.nx
   replace hle := hle.st st3007 (fun k hk => ⟨by omega, trivial⟩)
   replace at3 := st3007.same _ _ ⟨by omega, trivial⟩ at3
   replace at4 := st3007.same _ _ ⟨by omega, trivial⟩ at4
   replace at5 := st3007.same _ _ ⟨by omega, trivial⟩ at5
   replace lv_v19 := Keep.st lv_v19 st3007 (fun k hb hk => ⟨by omega, trivial⟩)
   replace v19 := bs_v19.keep lv_v19 (Nat.le_refl _)
   have lt_at3007 := GHeap.lt_of_get at3007
   replace hin := base_hin.mono hle
   replace hin1 := base_hin1.mono hle
   replace hin2 := base_hin2.mono hle
   clear hb3 fsh3 c53 c63 i13 i23 hm3 hi3 hmsh3 hish3
   have hb3 : SFun.At _ g3 0 f p := ⟨Mem.of_get at3, hin⟩
   obtain ⟨fsh3, c53, c63, i13, i23⟩ := hb3.get
   have hm3 : MemN _ _ _ _ _ := ⟨rfl, hb3.1⟩
   have hi3 := hb3.2
   have hmsh3 : MemN _ _ _ _ _ := ⟨rfl, fsh3.1⟩
   have hish3 := fsh3.2
   clear hb4 c04 i04 hm4 hi4
   have hb4 : Prt.At _ g4 0 m q := ⟨Mem.of_get at4, hin1⟩
   obtain ⟨c04, i04⟩ := hb4.get
   have hm4 : MemN _ _ _ _ _ := ⟨rfl, hb4.1⟩
   have hi4 := hb4.2
   clear hb5 c05 i05 hm5 hi5
   have hb5 : Prt.At _ g5 0 m' q' := ⟨Mem.of_get at5, hin2⟩
   obtain ⟨c05, i05⟩ := hb5.get
   have hm5 : MemN _ _ _ _ _ := ⟨rfl, hb5.1⟩
   have hi5 := hb5.2
   clear i19
   have i19 := v19.intss
   have mm3007 : MemN _ _ _ _ _ := ⟨rfl, Mem.of_get at3007⟩
   refine .m rfl rfl rfl (.assign rfl) ?_
   refine .nil ?_
   refine hK5 _ _ ?_
   refine .ret ?_
   -- leaf e2
   refine hret _ _ ?_
   refine ⟨_, _, _, _, _, rfl, ag_34_VPrt, (by rfl), (Mem.of_get at3007), rfl, ?_⟩
   obtain ⟨e1, e2⟩ := SFun.con_ok (op := (· && ·)) h12
   rw [e1, e2]
   exact ⟨hle, ⟨a19, r19⟩, rfl, v19.keep (.of_le (.refl _)) (by omega)⟩
end Go.Proofs.Ytbpehbbdodahaaa
