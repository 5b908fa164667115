/- Parts that connectives and maps make: the program. No condition but those of each statement. -/
import Derived.Test.YtbpehbbdodahaaaUf
namespace Go.Proofs.Ytbpehbbdodahaaa
open Go Go.GL Go.RowKit Go.Proofs
theorem meet1_c {m m' : Prt} {q q' : PrtP} {g2 g3 x e : Nat} {H : GHeap} (h2 : Prt.At H g2 0 m q) (h3 : Prt.At H g3 0 m' q') (hs1 : m.Small := by assumption) (hs2 : m'.Small := by assumption) (hx : x < m.me.length) (hx' : x < m'.me.length) :
    GCalls Try.prog 74 [.int .i64 (x : Int), .int .i64 (e : Int), .pointer (some ⟨g2, 0, none⟩), .pointer (some ⟨g3, 0, none⟩)] H (Ret (.bool (opL (· && ·) m.me m'.me x e)) H) := by
  have hm2 : MemN _ _ _ _ _ := ⟨rfl, h2.1⟩
  have hm3 : MemN _ _ _ _ _ := ⟨rfl, h3.1⟩
  have hi2 := h2.2
  have hi3 := h3.2
  refine GCalls.body (N := 17) (rs := [.tmp 6]) Try.func74 rfl rfl rfl rfl (fun Qx hret hend => ?_)
  refine .forget (fr' := [(0, some _), (1, some _), (2, some _), (3, some _)]) ⟨rfl, rfl, rfl, rfl, trivial⟩ ?_
  refine .seq (fun K1 hK1 => ?_)
  refine .region ?_
  refine .m rfl rfl rfl (.assign rfl) ?_
  refine .nil ?_
  refine hK1 _ _ ?_
  refine .seq (fun K2 hK2 => ?_)
  refine .region ?_
  refine .m rfl rfl rfl (.loadM ag_34_VPrt rfl (by assumption)) ?_
  refine .m rfl rfl rfl (.move rfl) ?_
  refine .m rfl rfl rfl (.move rfl) ?_
  refine .callQ rfl rfl rfl rfl @Try.call68 rfl (holds_c) ?_
  refine .m rfl rfl rfl (.move rfl) ?_
  refine .split (fun h11 => ?_) (fun h11 => ?_)
  ·
   try simp only [sps] at h11
   refine .mg rfl rfl rfl rfl rfl (.loadM ag_34_VPrt rfl (by assumption)) ?_
   refine .mg rfl rfl rfl rfl rfl (.move rfl) ?_
   refine .mg rfl rfl rfl rfl rfl (.move rfl) ?_
   refine .callQg rfl rfl rfl rfl rfl rfl @Try.call68 rfl (holds_c) ?_
   refine .m rfl rfl rfl (.pickT rfl rfl) ?_
   refine .m rfl rfl rfl (.assign rfl) ?_
   refine .nil ?_
   refine hK2 _ _ ?_
   refine .ret ?_
   -- leaf e1
   refine hret _ _ ?_
   refine ⟨_, rfl, ?_⟩
   exact .of (congrArg _ (by simp only [opL, hasL, h11, Bool.true_and, Bool.false_and]))
  ·
   try simp only [sps] at h11
   refine .sg rfl rfl rfl rfl rfl ?_
   refine .sg rfl rfl rfl rfl rfl ?_
   refine .sg rfl rfl rfl rfl rfl ?_
   refine .sg rfl rfl rfl rfl rfl ?_
   refine .m rfl rfl rfl (.pickF rfl rfl) ?_
   refine .m rfl rfl rfl (.assign rfl) ?_
   refine .nil ?_
   refine hK2 _ _ ?_
   refine .ret ?_
   -- leaf e2
   refine hret _ _ ?_
   refine ⟨_, rfl, ?_⟩
   exact .of (congrArg _ (by simp only [opL, hasL, h11, Bool.true_and, Bool.false_and]))
theorem sfMeet_c {f : SFun} {p : SFunP} {m m' : Prt} {q q' : PrtP} {g o : Nat} {H : GHeap} (h : SFun.At H g o f p) (hin1 : m.In H q) (hin2 : m'.In H q') (hs : f.Small) (hs1 : m.Small) (hs2 : m'.Small) (hI : f.Is) (hp : f.Part m.me) (hp' : f.Part m'.me) :
    GCalls Try.prog 46 [.pointer (some ⟨g, o, none⟩), .agg (m.cells q).toArray, .agg (m'.cells q').toArray] H (fun v H' => H.Le H' ∧ ∃ r, v = .agg ((f.conn (· && ·) m.me m'.me).cells r).toArray ∧ PrtR H.next H' (f.conn (· && ·) m.me m'.me) r) := by
  have e1 := hp.pl
  have e2 := hp'.pl
  have hn : f.sz.length ≤ 1048576 := hs.2.1
  refine GCalls.body (N := 10) (rs := [.cell 6 34]) Try.func46 rfl rfl rfl rfl (fun Qx hret hend => ?_)
  refine .forget (fr' := [(0, some _), (1, some _), (2, some _)]) ⟨rfl, rfl, rfl, trivial⟩ ?_
  have hle := GHeap.Le.refl H
  have base_h := h
  have base_hin1 := hin1
  have base_hin2 := hin2
  refine .seq (fun K1 hK1 => ?_)
  refine .region ?_
  refine .r rfl rfl rfl (.boxR rfl sz_34_VPrt rfl) ?_
  rintro _ H4 ⟨g4, rfl, le4, ge4, at4⟩
  have nx_H4 := le4.1
  replace hle := hle.trans le4
  have lt_at4 := GHeap.lt_of_get at4
  replace h := base_h.mono hle
  replace hin1 := base_hin1.mono hle
  replace hin2 := base_hin2.mono hle
  have hb4 : Prt.At _ g4 0 m q := ⟨Mem.of_get at4, hin1⟩
  obtain ⟨c04, i04⟩ := hb4.get
  have hm4 : MemN _ _ _ _ _ := ⟨rfl, hb4.1⟩
  have hi4 := hb4.2
  refine .r rfl rfl rfl (.boxR rfl sz_34_VPrt rfl) ?_
  rintro _ H5 ⟨g5, rfl, le5, ge5, at5⟩
  have nx_H5 := le5.1
  replace hle := hle.trans le5
  replace at4 := le5.2 _ _ at4
  have lt_at5 := GHeap.lt_of_get at5
  replace h := base_h.mono hle
  replace hin1 := base_hin1.mono hle
  replace hin2 := base_hin2.mono hle
  clear hb4 c04 i04 hm4 hi4
  have hb4 : Prt.At _ g4 0 m q := ⟨Mem.of_get at4, hin1⟩
  obtain ⟨c04, i04⟩ := hb4.get
  have hm4 : MemN _ _ _ _ _ := ⟨rfl, hb4.1⟩
  have hi4 := hb4.2
  have hb5 : Prt.At _ g5 0 m' q' := ⟨Mem.of_get at5, hin2⟩
  obtain ⟨c05, i05⟩ := hb5.get
  have hm5 : MemN _ _ _ _ _ := ⟨rfl, hb5.1⟩
  have hi5 := hb5.2
  refine .r rfl rfl rfl (.allocR rfl ze_34_VPrt rfl) ?_
  rintro _ H6 ⟨g6, rfl, le6, ge6, at6⟩
  have nx_H6 := le6.1
  replace hle := hle.trans le6
  replace at4 := le6.2 _ _ at4
  replace at5 := le6.2 _ _ at5
  have lt_at6 := GHeap.lt_of_get at6
  replace h := base_h.mono hle
  replace hin1 := base_hin1.mono hle
  replace hin2 := base_hin2.mono hle
  clear hb4 c04 i04 hm4 hi4
  have hb4 : Prt.At _ g4 0 m q := ⟨Mem.of_get at4, hin1⟩
  obtain ⟨c04, i04⟩ := hb4.get
  have hm4 : MemN _ _ _ _ _ := ⟨rfl, hb4.1⟩
  have hi4 := hb4.2
  clear hb5 c05 i05 hm5 hi5
  have hb5 : Prt.At _ g5 0 m' q' := ⟨Mem.of_get at5, hin2⟩
  obtain ⟨c05, i05⟩ := hb5.get
  have hm5 : MemN _ _ _ _ _ := ⟨rfl, hb5.1⟩
  have hi5 := hb5.2
  refine .nil ?_
  refine hK1 _ _ ?_
  refine .seq (fun K2 hK2 => ?_)
  refine .region ?_
  refine .m rfl rfl rfl (.move rfl) ?_
  refine .m rfl rfl rfl (.makeFunc rfl) ?_
  refine .call rfl rfl rfl rfl @Try.call66 rfl (partOf_c (Y := opL (· && ·) m.me m'.me) h hI.1.sz (by omega) @Try.call74 (fun H' hle' x e hx he => meet1_c (hb4.mono hle') (hb5.mono hle') hs1 hs2 (by omega) (by omega))) ?_
  rintro _ H9 ⟨le9, p9, rfl, v9⟩
  have nx_H9 := le9.1
  replace hle := hle.trans le9
  replace at4 := le9.2 _ _ at4
  replace at5 := le9.2 _ _ at5
  replace at6 := le9.2 _ _ at6
  have bs_v9 := v9
  have lv_v9 : Keep H6.next H9 H9 := fun _ _ _ h => h
  replace h := base_h.mono hle
  replace hin1 := base_hin1.mono hle
  replace hin2 := base_hin2.mono hle
  clear hb4 c04 i04 hm4 hi4
  have hb4 : Prt.At _ g4 0 m q := ⟨Mem.of_get at4, hin1⟩
  obtain ⟨c04, i04⟩ := hb4.get
  have hm4 : MemN _ _ _ _ _ := ⟨rfl, hb4.1⟩
  have hi4 := hb4.2
  clear hb5 c05 i05 hm5 hi5
  have hb5 : Prt.At _ g5 0 m' q' := ⟨Mem.of_get at5, hin2⟩
  obtain ⟨c05, i05⟩ := hb5.get
  have hm5 : MemN _ _ _ _ _ := ⟨rfl, hb5.1⟩
  have hi5 := hb5.2
  have i9 := v9.inn
  refine .r0 rfl rfl (.fillR rfl sz_34_VPrt rfl rfl rfl rfl (by assumption) (by first | rfl | exact Nat.le_of_ble_eq_true rfl | simp)) ?_
  rintro _ H1003 ⟨rfl, st1003, at1003⟩
  have nx_H1003 := st1003.nx
  replace hle := hle.st st1003 (fun k hk => ⟨by omega, trivial⟩)
  replace at4 := st1003.same _ _ ⟨by omega, trivial⟩ at4
  replace at5 := st1003.same _ _ ⟨by omega, trivial⟩ at5
  replace lv_v9 := Keep.st lv_v9 st1003 (fun k hb hk => ⟨by omega, trivial⟩)
  replace v9 := bs_v9.keep lv_v9 (Nat.le_refl _)
  have lt_at1003 := GHeap.lt_of_get at1003
  replace h := base_h.mono hle
  replace hin1 := base_hin1.mono hle
  replace hin2 := base_hin2.mono hle
  clear hb4 c04 i04 hm4 hi4
  have hb4 : Prt.At _ g4 0 m q := ⟨Mem.of_get at4, hin1⟩
  obtain ⟨c04, i04⟩ := hb4.get
  have hm4 : MemN _ _ _ _ _ := ⟨rfl, hb4.1⟩
  have hi4 := hb4.2
  clear hb5 c05 i05 hm5 hi5
  have hb5 : Prt.At _ g5 0 m' q' := ⟨Mem.of_get at5, hin2⟩
  obtain ⟨c05, i05⟩ := hb5.get
  have hm5 : MemN _ _ _ _ _ := ⟨rfl, hb5.1⟩
  have hi5 := hb5.2
  clear i9
  have i9 := v9.inn
  have mm1003 : MemN _ _ _ _ _ := ⟨rfl, Mem.of_get at1003⟩
  refine .nil ?_
  refine hK2 _ _ ?_
  refine .ret ?_
  -- leaf e1
  refine hret _ _ ?_
  refine ⟨_, _, _, _, rfl, ag_34_VPrt, (by rfl), (Mem.of_get at1003), ?_⟩
  exact ⟨hle, p9, rfl, v9.keep (.of_le (.refl _)) (by omega)⟩
theorem connective_c {op : Bool → Bool → Bool} {fn g o : Nat} {f : SFun} {p : SFunP} {m m' : Prt} {q q' : PrtP} {H : GHeap} (h : SFun.At H g o f p) (hin1 : m.In H q) (hin2 : m'.In H q') (hs : f.Small) (hs1 : m.Small) (hs2 : m'.Small)
    (hcall : ∀ (xs : Array Value) (w : World), (callFunc fn xs).run Try.prog w = .ok (.enter fn xs) w)
    (hq : ∀ H', H.Le H' → f.Is → f.Part m.me → f.Part m'.me → GCalls Try.prog fn [.pointer (some ⟨g, o, none⟩), .agg (m.cells q).toArray, .agg (m'.cells q').toArray] H' (fun v H'' => H'.Le H'' ∧ ∃ r, v = .agg ((f.conn op m.me m'.me).cells r).toArray ∧ PrtR H'.next H'' (f.conn op m.me m'.me) r)) :
    GCalls Try.prog 45 [.pointer (some ⟨g, o, none⟩), .agg (m.cells q).toArray, .agg (m'.cells q').toArray, .func (.func fn) #[] #[]] H (fun v H' => H.Le H' ∧ ∃ r, v = .tuple #[.agg ((f.con op m.me m'.me).cells r).toArray, .int .i64 (f.conC m.me m'.me)] ∧ PrtR H.next H' (f.con op m.me m'.me) r) := by
  refine GCalls.body (N := 22) (rs := [.cell 8 34, .tmp 9]) Try.func45 rfl rfl rfl rfl (fun Qx hret hend => ?_)
  refine .forget (fr' := [(0, some _), (1, some _), (2, some _), (3, some _)]) ⟨rfl, rfl, rfl, rfl, trivial⟩ ?_
  have hle := GHeap.Le.refl H
  have base_h := h
  have base_hin1 := hin1
  have base_hin2 := hin2
  refine .seq (fun K1 hK1 => ?_)
  refine .region ?_
  refine .r rfl rfl rfl (.boxR rfl sz_34_VPrt rfl) ?_
  rintro _ H5 ⟨g5, rfl, le5, ge5, at5⟩
  have nx_H5 := le5.1
  replace hle := hle.trans le5
  have lt_at5 := GHeap.lt_of_get at5
  replace h := base_h.mono hle
  replace hin1 := base_hin1.mono hle
  replace hin2 := base_hin2.mono hle
  have hb5 : Prt.At _ g5 0 m q := ⟨Mem.of_get at5, hin1⟩
  obtain ⟨c05, i05⟩ := hb5.get
  have hm5 : MemN _ _ _ _ _ := ⟨rfl, hb5.1⟩
  have hi5 := hb5.2
  refine .r rfl rfl rfl (.boxR rfl sz_34_VPrt rfl) ?_
  rintro _ H6 ⟨g6, rfl, le6, ge6, at6⟩
  have nx_H6 := le6.1
  replace hle := hle.trans le6
  replace at5 := le6.2 _ _ at5
  have lt_at6 := GHeap.lt_of_get at6
  replace h := base_h.mono hle
  replace hin1 := base_hin1.mono hle
  replace hin2 := base_hin2.mono hle
  clear hb5 c05 i05 hm5 hi5
  have hb5 : Prt.At _ g5 0 m q := ⟨Mem.of_get at5, hin1⟩
  obtain ⟨c05, i05⟩ := hb5.get
  have hm5 : MemN _ _ _ _ _ := ⟨rfl, hb5.1⟩
  have hi5 := hb5.2
  have hb6 : Prt.At _ g6 0 m' q' := ⟨Mem.of_get at6, hin2⟩
  obtain ⟨c06, i06⟩ := hb6.get
  have hm6 : MemN _ _ _ _ _ := ⟨rfl, hb6.1⟩
  have hi6 := hb6.2
  refine .r rfl rfl rfl (.allocR rfl ze_34_VPrt rfl) ?_
  rintro _ H8 ⟨g8, rfl, le8, ge8, at8⟩
  have nx_H8 := le8.1
  replace hle := hle.trans le8
  replace at5 := le8.2 _ _ at5
  replace at6 := le8.2 _ _ at6
  have lt_at8 := GHeap.lt_of_get at8
  replace h := base_h.mono hle
  replace hin1 := base_hin1.mono hle
  replace hin2 := base_hin2.mono hle
  clear hb5 c05 i05 hm5 hi5
  have hb5 : Prt.At _ g5 0 m q := ⟨Mem.of_get at5, hin1⟩
  obtain ⟨c05, i05⟩ := hb5.get
  have hm5 : MemN _ _ _ _ _ := ⟨rfl, hb5.1⟩
  have hi5 := hb5.2
  clear hb6 c06 i06 hm6 hi6
  have hb6 : Prt.At _ g6 0 m' q' := ⟨Mem.of_get at6, hin2⟩
  obtain ⟨c06, i06⟩ := hb6.get
  have hm6 : MemN _ _ _ _ _ := ⟨rfl, hb6.1⟩
  have hi6 := hb6.2
  refine .m rfl rfl rfl (.assign rfl) ?_
  refine .nil ?_
  refine hK1 _ _ ?_
  refine .seq (fun K2 hK2 => ?_)
  refine .seq (fun K3 hK3 => ?_)
  refine .region ?_
  refine .m rfl rfl rfl (.move rfl) ?_
  refine .m rfl rfl rfl (.loadM ag_34_VPrt rfl ⟨rfl, Mem.of_get at5⟩) ?_
  refine .m rfl rfl rfl (.loadM ag_34_VPrt rfl ⟨rfl, Mem.of_get at6⟩) ?_
  refine .r rfl rfl rfl (.litR rfl sl_99_S ze_34_VPrt rfl rfl (by omega) (by omega) rfl rfl) ?_
  rintro _ H13 ⟨g13, rfl, le13, ge13, at13⟩
  have nx_H13 := le13.1
  replace hle := hle.trans le13
  replace at5 := le13.2 _ _ at5
  replace at6 := le13.2 _ _ at6
  replace at8 := le13.2 _ _ at8
  have lt_at13 := GHeap.lt_of_get at13
  replace h := base_h.mono hle
  replace hin1 := base_hin1.mono hle
  replace hin2 := base_hin2.mono hle
  clear hb5 c05 i05 hm5 hi5
  have hb5 : Prt.At _ g5 0 m q := ⟨Mem.of_get at5, hin1⟩
  obtain ⟨c05, i05⟩ := hb5.get
  have hm5 : MemN _ _ _ _ _ := ⟨rfl, hb5.1⟩
  have hi5 := hb5.2
  clear hb6 c06 i06 hm6 hi6
  have hb6 : Prt.At _ g6 0 m' q' := ⟨Mem.of_get at6, hin2⟩
  obtain ⟨c06, i06⟩ := hb6.get
  have hm6 : MemN _ _ _ _ _ := ⟨rfl, hb6.1⟩
  have hi6 := hb6.2
  refine .callQ rfl rfl rfl rfl @Try.call73 rfl (areParts2_c) ?_
  refine .m rfl rfl rfl (.not rfl) ?_
  refine .nil ?_
  refine hK3 _ _ ?_
  refine .cond rfl (fun h15 => ?_) (fun h15 => ?_)
  ·
   try simp only [sps] at h15
   refine .seq (fun K4 hK4 => ?_)
   refine .region ?_
   refine .m rfl rfl rfl (.build bt_34_Uc rfl rfl rfl) ?_
   refine .r0 rfl rfl (.fillR rfl sz_34_VPrt rfl rfl rfl rfl (by assumption) (by first | rfl | exact Nat.le_of_ble_eq_true rfl | simp)) ?_
   rintro _ H2001 ⟨rfl, st2001, at2001⟩
   have nx_H2001 := st2001.nx
   replace hle := hle.st st2001 (fun k hk => ⟨by omega, trivial⟩)
   replace at5 := st2001.same _ _ ⟨by omega, trivial⟩ at5
   replace at6 := st2001.same _ _ ⟨by omega, trivial⟩ at6
   replace at13 := st2001.same _ _ ⟨by omega, trivial⟩ at13
   have lt_at2001 := GHeap.lt_of_get at2001
   replace h := base_h.mono hle
   replace hin1 := base_hin1.mono hle
   replace hin2 := base_hin2.mono hle
   clear hb5 c05 i05 hm5 hi5
   have hb5 : Prt.At _ g5 0 m q := ⟨Mem.of_get at5, hin1⟩
   obtain ⟨c05, i05⟩ := hb5.get
   have hm5 : MemN _ _ _ _ _ := ⟨rfl, hb5.1⟩
   have hi5 := hb5.2
   clear hb6 c06 i06 hm6 hi6
   have hb6 : Prt.At _ g6 0 m' q' := ⟨Mem.of_get at6, hin2⟩
   obtain ⟨c06, i06⟩ := hb6.get
   have hm6 : MemN _ _ _ _ _ := ⟨rfl, hb6.1⟩
   have hi6 := hb6.2
   have mm2001 : MemN _ _ _ _ _ := ⟨rfl, Mem.of_get at2001⟩
   refine .m rfl rfl rfl (.assign rfl) ?_
   refine .nil ?_
   refine hK4 _ _ ?_
   refine .ret ?_
   -- leaf e1
   refine hret _ _ ?_
   refine ⟨_, _, _, _, _, rfl, ag_34_VPrt, (by rfl), (Mem.of_get at2001), rfl, ?_⟩
   obtain ⟨e1, e2⟩ := SFun.con_not (op := op) (by simpa only [sps] using h15)
   rw [e1, e2]
   exact ⟨hle, ⟨none, fun _ => none⟩, rfl, .nil _ _ _⟩
  ·
   simp only [sps] at h15
   refine .skip ?_
   refine hK2 _ _ ?_
   refine .seq (fun K5 hK5 => ?_)
   refine .region ?_
   refine .m rfl rfl rfl (.move rfl) ?_
   refine .m rfl rfl rfl (.move rfl) ?_
   refine .m rfl rfl rfl (.loadM ag_34_VPrt rfl ⟨rfl, Mem.of_get at5⟩) ?_
   refine .m rfl rfl rfl (.loadM ag_34_VPrt rfl ⟨rfl, Mem.of_get at6⟩) ?_
   refine .callV rfl rfl rfl rfl rfl hcall rfl ((hq _ hle h15.1 h15.2.1 h15.2.2)) ?_
   rintro _ H21 ⟨le21, p21, rfl, v21⟩
   have nx_H21 := le21.1
   replace hle := hle.trans le21
   replace at5 := le21.2 _ _ at5
   replace at6 := le21.2 _ _ at6
   replace at8 := le21.2 _ _ at8
   replace at13 := le21.2 _ _ at13
   have bs_v21 := v21
   have lv_v21 : Keep H13.next H21 H21 := fun _ _ _ h => h
   replace h := base_h.mono hle
   replace hin1 := base_hin1.mono hle
   replace hin2 := base_hin2.mono hle
   clear hb5 c05 i05 hm5 hi5
   have hb5 : Prt.At _ g5 0 m q := ⟨Mem.of_get at5, hin1⟩
   obtain ⟨c05, i05⟩ := hb5.get
   have hm5 : MemN _ _ _ _ _ := ⟨rfl, hb5.1⟩
   have hi5 := hb5.2
   clear hb6 c06 i06 hm6 hi6
   have hb6 : Prt.At _ g6 0 m' q' := ⟨Mem.of_get at6, hin2⟩
   obtain ⟨c06, i06⟩ := hb6.get
   have hm6 : MemN _ _ _ _ _ := ⟨rfl, hb6.1⟩
   have hi6 := hb6.2
   have i21 := v21.inn
   refine .r0 rfl rfl (.fillR rfl sz_34_VPrt rfl rfl rfl rfl (by assumption) (by first | rfl | exact Nat.le_of_ble_eq_true rfl | simp)) ?_
   rintro _ H3005 ⟨rfl, st3005, at3005⟩
   have nx_H3005 := st3005.nx
   replace hle := hle.st st3005 (fun k hk => ⟨by omega, trivial⟩)
   replace at5 := st3005.same _ _ ⟨by omega, trivial⟩ at5
   replace at6 := st3005.same _ _ ⟨by omega, trivial⟩ at6
   replace at13 := st3005.same _ _ ⟨by omega, trivial⟩ at13
   replace lv_v21 := Keep.st lv_v21 st3005 (fun k hb hk => ⟨by omega, trivial⟩)
   replace v21 := bs_v21.keep lv_v21 (Nat.le_refl _)
   have lt_at3005 := GHeap.lt_of_get at3005
   replace h := base_h.mono hle
   replace hin1 := base_hin1.mono hle
   replace hin2 := base_hin2.mono hle
   clear hb5 c05 i05 hm5 hi5
   have hb5 : Prt.At _ g5 0 m q := ⟨Mem.of_get at5, hin1⟩
   obtain ⟨c05, i05⟩ := hb5.get
   have hm5 : MemN _ _ _ _ _ := ⟨rfl, hb5.1⟩
   have hi5 := hb5.2
   clear hb6 c06 i06 hm6 hi6
   have hb6 : Prt.At _ g6 0 m' q' := ⟨Mem.of_get at6, hin2⟩
   obtain ⟨c06, i06⟩ := hb6.get
   have hm6 : MemN _ _ _ _ _ := ⟨rfl, hb6.1⟩
   have hi6 := hb6.2
   clear i21
   have i21 := v21.inn
   have mm3005 : MemN _ _ _ _ _ := ⟨rfl, Mem.of_get at3005⟩
   refine .m rfl rfl rfl (.assign rfl) ?_
   refine .nil ?_
   refine hK5 _ _ ?_
   refine .ret ?_
   -- leaf e2
   refine hret _ _ ?_
   refine ⟨_, _, _, _, _, rfl, ag_34_VPrt, (by rfl), (Mem.of_get at3005), rfl, ?_⟩
   obtain ⟨e1, e2⟩ := SFun.con_ok (op := op) h15
   rw [e1, e2]
   exact ⟨hle, p21, rfl, v21.keep (.of_le (.refl _)) (by omega)⟩
theorem implMeetParts_c {f : SFun} {p : SFunP} {m m' : Prt} {q q' : PrtP} {H : GHeap} (hin : f.In H p := by assumption) (hin1 : m.In H q := by assumption) (hin2 : m'.In H q' := by assumption) (hs : f.Small := by assumption) (hs1 : m.Small := by assumption) (hs2 : m'.Small := by assumption) :
    GCalls Try.prog 21 [.agg (f.cells p).toArray, .agg (m.cells q).toArray, .agg (m'.cells q').toArray] H (fun v H' => H.Le H' ∧ ∃ r, v = .tuple #[.agg ((f.con (· && ·) m.me m'.me).cells r).toArray, .int .i64 (f.conC m.me m'.me)] ∧ PrtR H.next H' (f.con (· && ·) m.me m'.me) r) := by
  refine GCalls.body (N := 13) (rs := [.cell 6 34, .tmp 7]) Try.func21 rfl rfl rfl rfl (fun Qx hret hend => ?_)
  refine .forget (fr' := [(0, some _), (1, some _), (2, some _)]) ⟨rfl, rfl, rfl, trivial⟩ ?_
  have hle := GHeap.Le.refl H
  have base_hin := hin
  have base_hin1 := hin1
  have base_hin2 := hin2
  refine .seq (fun K1 hK1 => ?_)
  refine .region ?_
  refine .r rfl rfl rfl (.boxR rfl sz_39_VSFun rfl) ?_
  rintro _ H3 ⟨g3, rfl, le3, ge3, at3⟩
  have nx_H3 := le3.1
  replace hle := hle.trans le3
  have lt_at3 := GHeap.lt_of_get at3
  replace hin := base_hin.mono hle
  replace hin1 := base_hin1.mono hle
  replace hin2 := base_hin2.mono hle
  have hb3 : SFun.At _ g3 0 f p := ⟨Mem.of_get at3, hin⟩
  obtain ⟨fsh3, c53, c63, i13, i23⟩ := hb3.get
  have hm3 : MemN _ _ _ _ _ := ⟨rfl, hb3.1⟩
  have hi3 := hb3.2
  have hmsh3 : MemN _ _ _ _ _ := ⟨rfl, fsh3.1⟩
  have hish3 := fsh3.2
  refine .r rfl rfl rfl (.boxR rfl sz_34_VPrt rfl) ?_
  rintro _ H4 ⟨g4, rfl, le4, ge4, at4⟩
  have nx_H4 := le4.1
  replace hle := hle.trans le4
  replace at3 := le4.2 _ _ at3
  have lt_at4 := GHeap.lt_of_get at4
  replace hin := base_hin.mono hle
  replace hin1 := base_hin1.mono hle
  replace hin2 := base_hin2.mono hle
  clear hb3 fsh3 c53 c63 i13 i23 hm3 hi3 hmsh3 hish3
  have hb3 : SFun.At _ g3 0 f p := ⟨Mem.of_get at3, hin⟩
  obtain ⟨fsh3, c53, c63, i13, i23⟩ := hb3.get
  have hm3 : MemN _ _ _ _ _ := ⟨rfl, hb3.1⟩
  have hi3 := hb3.2
  have hmsh3 : MemN _ _ _ _ _ := ⟨rfl, fsh3.1⟩
  have hish3 := fsh3.2
  have hb4 : Prt.At _ g4 0 m q := ⟨Mem.of_get at4, hin1⟩
  obtain ⟨c04, i04⟩ := hb4.get
  have hm4 : MemN _ _ _ _ _ := ⟨rfl, hb4.1⟩
  have hi4 := hb4.2
  refine .r rfl rfl rfl (.boxR rfl sz_34_VPrt rfl) ?_
  rintro _ H5 ⟨g5, rfl, le5, ge5, at5⟩
  have nx_H5 := le5.1
  replace hle := hle.trans le5
  replace at3 := le5.2 _ _ at3
  replace at4 := le5.2 _ _ at4
  have lt_at5 := GHeap.lt_of_get at5
  replace hin := base_hin.mono hle
  replace hin1 := base_hin1.mono hle
  replace hin2 := base_hin2.mono hle
  clear hb3 fsh3 c53 c63 i13 i23 hm3 hi3 hmsh3 hish3
  have hb3 : SFun.At _ g3 0 f p := ⟨Mem.of_get at3, hin⟩
  obtain ⟨fsh3, c53, c63, i13, i23⟩ := hb3.get
  have hm3 : MemN _ _ _ _ _ := ⟨rfl, hb3.1⟩
  have hi3 := hb3.2
  have hmsh3 : MemN _ _ _ _ _ := ⟨rfl, fsh3.1⟩
  have hish3 := fsh3.2
  clear hb4 c04 i04 hm4 hi4
  have hb4 : Prt.At _ g4 0 m q := ⟨Mem.of_get at4, hin1⟩
  obtain ⟨c04, i04⟩ := hb4.get
  have hm4 : MemN _ _ _ _ _ := ⟨rfl, hb4.1⟩
  have hi4 := hb4.2
  have hb5 : Prt.At _ g5 0 m' q' := ⟨Mem.of_get at5, hin2⟩
  obtain ⟨c05, i05⟩ := hb5.get
  have hm5 : MemN _ _ _ _ _ := ⟨rfl, hb5.1⟩
  have hi5 := hb5.2
  refine .r rfl rfl rfl (.allocR rfl ze_34_VPrt rfl) ?_
  rintro _ H6 ⟨g6, rfl, le6, ge6, at6⟩
  have nx_H6 := le6.1
  replace hle := hle.trans le6
  replace at3 := le6.2 _ _ at3
  replace at4 := le6.2 _ _ at4
  replace at5 := le6.2 _ _ at5
  have lt_at6 := GHeap.lt_of_get at6
  replace hin := base_hin.mono hle
  replace hin1 := base_hin1.mono hle
  replace hin2 := base_hin2.mono hle
  clear hb3 fsh3 c53 c63 i13 i23 hm3 hi3 hmsh3 hish3
  have hb3 : SFun.At _ g3 0 f p := ⟨Mem.of_get at3, hin⟩
  obtain ⟨fsh3, c53, c63, i13, i23⟩ := hb3.get
  have hm3 : MemN _ _ _ _ _ := ⟨rfl, hb3.1⟩
  have hi3 := hb3.2
  have hmsh3 : MemN _ _ _ _ _ := ⟨rfl, fsh3.1⟩
  have hish3 := fsh3.2
  clear hb4 c04 i04 hm4 hi4
  have hb4 : Prt.At _ g4 0 m q := ⟨Mem.of_get at4, hin1⟩
  obtain ⟨c04, i04⟩ := hb4.get
  have hm4 : MemN _ _ _ _ _ := ⟨rfl, hb4.1⟩
  have hi4 := hb4.2
  clear hb5 c05 i05 hm5 hi5
  have hb5 : Prt.At _ g5 0 m' q' := ⟨Mem.of_get at5, hin2⟩
  obtain ⟨c05, i05⟩ := hb5.get
  have hm5 : MemN _ _ _ _ _ := ⟨rfl, hb5.1⟩
  have hi5 := hb5.2
  refine .m rfl rfl rfl (.assign rfl) ?_
  refine .nil ?_
  refine hK1 _ _ ?_
  refine .seq (fun K2 hK2 => ?_)
  refine .region ?_
  refine .m rfl rfl rfl (.loadM ag_34_VPrt rfl ⟨rfl, Mem.of_get at4⟩) ?_
  refine .m rfl rfl rfl (.loadM ag_34_VPrt rfl ⟨rfl, Mem.of_get at5⟩) ?_
  refine .call rfl rfl rfl rfl @Try.call45 rfl (connective_c (op := (· && ·)) hb3 hin1 hin2 hs hs1 hs2 @Try.call46 (fun H' hle' hI hp hp' => sfMeet_c (hb3.mono hle') (hin1.mono hle') (hin2.mono hle') hs hs1 hs2 hI hp hp')) ?_
  rintro _ H10 ⟨le10, p10, rfl, v10⟩
  have nx_H10 := le10.1
  replace hle := hle.trans le10
  replace at3 := le10.2 _ _ at3
  replace at4 := le10.2 _ _ at4
  replace at5 := le10.2 _ _ at5
  replace at6 := le10.2 _ _ at6
  have bs_v10 := v10
  have lv_v10 : Keep H6.next H10 H10 := fun _ _ _ h => h
  replace hin := base_hin.mono hle
  replace hin1 := base_hin1.mono hle
  replace hin2 := base_hin2.mono hle
  clear hb3 fsh3 c53 c63 i13 i23 hm3 hi3 hmsh3 hish3
  have hb3 : SFun.At _ g3 0 f p := ⟨Mem.of_get at3, hin⟩
  obtain ⟨fsh3, c53, c63, i13, i23⟩ := hb3.get
  have hm3 : MemN _ _ _ _ _ := ⟨rfl, hb3.1⟩
  have hi3 := hb3.2
  have hmsh3 : MemN _ _ _ _ _ := ⟨rfl, fsh3.1⟩
  have hish3 := fsh3.2
  clear hb4 c04 i04 hm4 hi4
  have hb4 : Prt.At _ g4 0 m q := ⟨Mem.of_get at4, hin1⟩
  obtain ⟨c04, i04⟩ := hb4.get
  have hm4 : MemN _ _ _ _ _ := ⟨rfl, hb4.1⟩
  have hi4 := hb4.2
  clear hb5 c05 i05 hm5 hi5
  have hb5 : Prt.At _ g5 0 m' q' := ⟨Mem.of_get at5, hin2⟩
  obtain ⟨c05, i05⟩ := hb5.get
  have hm5 : MemN _ _ _ _ _ := ⟨rfl, hb5.1⟩
  have hi5 := hb5.2
  have i10 := v10.inn
  refine .m rfl rfl rfl (.extract rfl rfl) ?_
  refine .m rfl rfl rfl (.extract rfl rfl) ?_
  refine .r0 rfl rfl (.fillR rfl sz_34_VPrt rfl rfl rfl rfl (by assumption) (by first | rfl | exact Nat.le_of_ble_eq_true rfl | simp)) ?_
  rintro _ H1005 ⟨rfl, st1005, at1005⟩
  have nx_H1005 := st1005.nx
  replace hle := hle.st st1005 (fun k hk => ⟨by omega, trivial⟩)
  replace at3 := st1005.same _ _ ⟨by omega, trivial⟩ at3
  replace at4 := st1005.same _ _ ⟨by omega, trivial⟩ at4
  replace at5 := st1005.same _ _ ⟨by omega, trivial⟩ at5
  replace lv_v10 := Keep.st lv_v10 st1005 (fun k hb hk => ⟨by omega, trivial⟩)
  replace v10 := bs_v10.keep lv_v10 (Nat.le_refl _)
  have lt_at1005 := GHeap.lt_of_get at1005
  replace hin := base_hin.mono hle
  replace hin1 := base_hin1.mono hle
  replace hin2 := base_hin2.mono hle
  clear hb3 fsh3 c53 c63 i13 i23 hm3 hi3 hmsh3 hish3
  have hb3 : SFun.At _ g3 0 f p := ⟨Mem.of_get at3, hin⟩
  obtain ⟨fsh3, c53, c63, i13, i23⟩ := hb3.get
  have hm3 : MemN _ _ _ _ _ := ⟨rfl, hb3.1⟩
  have hi3 := hb3.2
  have hmsh3 : MemN _ _ _ _ _ := ⟨rfl, fsh3.1⟩
  have hish3 := fsh3.2
  clear hb4 c04 i04 hm4 hi4
  have hb4 : Prt.At _ g4 0 m q := ⟨Mem.of_get at4, hin1⟩
  obtain ⟨c04, i04⟩ := hb4.get
  have hm4 : MemN _ _ _ _ _ := ⟨rfl, hb4.1⟩
  have hi4 := hb4.2
  clear hb5 c05 i05 hm5 hi5
  have hb5 : Prt.At _ g5 0 m' q' := ⟨Mem.of_get at5, hin2⟩
  obtain ⟨c05, i05⟩ := hb5.get
  have hm5 : MemN _ _ _ _ _ := ⟨rfl, hb5.1⟩
  have hi5 := hb5.2
  clear i10
  have i10 := v10.inn
  have mm1005 : MemN _ _ _ _ _ := ⟨rfl, Mem.of_get at1005⟩
  refine .m rfl rfl rfl (.assign rfl) ?_
  refine .nil ?_
  refine hK2 _ _ ?_
  refine .ret ?_
  -- leaf e1
  refine hret _ _ ?_
  refine ⟨_, _, _, _, _, rfl, ag_34_VPrt, (by rfl), (Mem.of_get at1005), rfl, ?_⟩
  exact ⟨hle, p10, rfl, v10.keep (.of_le (.refl _)) (by omega)⟩
end Go.Proofs.Ytbpehbbdodahaaa
