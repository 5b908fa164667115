/- The law of IsTransformation. No condition but those of each statement. -/
import Derived.Test.YtcnopbgnadkikaaI
namespace Go.Proofs.Ytcnopbgnadkikaa
open Go Go.GL Go.RowKit Go.Proofs
theorem ag_29 : aggT Try.prog 29 = some 25 := by kernel_rfl
theorem bo_4 : isBoolT Try.prog 4 = true := by kernel_rfl
theorem lawIsTransformation_c {m : Tra} {p : TraP} {H : GHeap} (hin : m.In H p) (hw : m.Wide) : GCalls Try.prog 3 [.agg (m.cells p).toArray] H (fun v _ => v = .bool true) := by
  refine GCalls.body (N := 27) (rs := [.tmp 2]) Try.func3 rfl rfl rfl rfl (fun Qx hret hend => ?_)
  refine .forget (fr' := [(0, some _)]) ⟨rfl, trivial⟩ ?_
  refine .seq (fun K1 hK1 => ?_)
  refine .region ?_
  refine .d rfl rfl rfl (.box rfl sz_29 rfl CIs.mk) ?_
  show GRun _ _ _ _ _ _ (H.push (.row (m.cells p) 29 true))
  have hle := GHeap.le_push H (.row (m.cells p) 29 true)
  have hb : Tra.At (H.push (.row (m.cells p) 29 true)) H.next 0 m p := ⟨Mem.new _ _ _ _, hin.mono hle⟩
  generalize H.push (.row (m.cells p) 29 true) = H1 at *
  generalize H.next = g at *
  obtain ⟨ms, mt, c24, k1⟩ := hb.get
  have hm : MemN _ _ _ _ _ := ⟨rfl, hb.1⟩
  have hin1 := hb.2
  have hms : MemN _ _ _ _ _ := ⟨rfl, ms.1⟩
  have hins1 := ms.2
  have hmt : MemN _ _ _ _ _ := ⟨rfl, mt.1⟩
  have hint1 := mt.2
  refine .m rfl rfl rfl (.assign rfl) ?_
  refine .nil ?_
  refine hK1 _ _ ?_
  refine .seq (fun K2 hK2 => ?_)
  refine .region ?_
  refine .m rfl rfl rfl (.assign rfl) ?_
  refine .nil ?_
  refine hK2 _ _ ?_
  refine .seq (fun K3 hK3 => ?_)
  refine .region ?_
  refine .m rfl rfl rfl (.loadM ag_29 rfl (by assumption)) ?_
  refine .m rfl rfl rfl (.move rfl) ?_
  refine .call rfl rfl rfl rfl @Try.call7 rfl (szTransformation_c) ?_
  rintro _ _ ⟨rfl, lf, rfl, z1, z2, z3⟩
  refine .m rfl rfl rfl (.assign rfl) ?_
  refine .nil ?_
  refine hK3 _ _ ?_
  refine .seq (fun K4 hK4 => ?_)
  refine .seq (fun K5 hK5 => ?_)
  refine .region ?_
  refine .m rfl rfl rfl (.move rfl) ?_
  refine .m rfl rfl rfl (.cmp rfl rfl rfl) ?_
  refine .nil ?_
  refine hK5 _ _ ?_
  refine .cond rfl (fun h11 => ?_) (fun h11 => ?_)
  ·
   try simp only [sps] at h11
   refine .seq (fun K6 hK6 => ?_)
   refine .region ?_
   refine .m rfl rfl rfl (.assign rfl) ?_
   refine .nil ?_
   refine hK6 _ _ ?_
   refine .ret ?_
   -- leaf e1
   refine hret _ _ ?_
   refine ⟨_, rfl, ?_⟩
   exact rfl
  ·
   try simp only [sps] at h11
   refine .skip ?_
   refine hK4 _ _ ?_
   refine .seq (fun K7 hK7 => ?_)
   refine .region ?_
   have hsm := z3 (by omega)
   refine .m rfl rfl rfl (.loadM ag_29 rfl (by assumption)) ?_
   refine .call rfl rfl rfl rfl @Try.call9 rfl (toTransformation_c) ?_
   rintro _ H2 ⟨hl2, p2, rfl, hat2⟩
   replace hb := hb.mono hl2
   have in2 := hat2.inn
   have hm : MemN _ _ _ _ _ := ⟨rfl, hb.1⟩
   have hin1 := hb.2
   refine .callQ rfl rfl rfl rfl @Try.call8 rfl (specIsTransformation_c) ?_
   refine .m rfl rfl rfl (.assign rfl) ?_
   refine .nil ?_
   refine hK7 _ _ ?_
   refine .seq (fun K8 hK8 => ?_)
   refine .region ?_
   refine .m rfl rfl rfl (.loadM ag_29 rfl (by assumption)) ?_
   refine .call rfl rfl rfl rfl @Try.call9 rfl (toTransformation_c) ?_
   rintro _ H2 ⟨hl2, p2, rfl, hat2⟩
   replace hb := hb.mono hl2
   refine .d rfl rfl rfl (.alloc rfl ze_36 rfl CIs.mk) ?_
   show GRun _ _ _ _ _ _ (H2.push (.row [(.int .i64 0 : Value), (.slice none 0 0 : Value), (.slice none 0 0 : Value), (.slice none 0 0 : Value), (.slice none 0 0 : Value), (.int .i64 0 : Value), (.slice none 0 0 : Value), (.slice none 0 0 : Value), (.slice none 0 0 : Value), (.slice none 0 0 : Value), (.slice none 0 0 : Value), (.slice none 0 0 : Value), (.int .i64 0 : Value), (.slice none 0 0 : Value), (.slice none 0 0 : Value), (.slice none 0 0 : Value), (.slice none 0 0 : Value), (.int .i64 0 : Value), (.slice none 0 0 : Value), (.slice none 0 0 : Value), (.slice none 0 0 : Value), (.slice none 0 0 : Value), (.slice none 0 0 : Value), (.slice none 0 0 : Value), (.slice none 0 0 : Value)] 36 true))
   have lp := GHeap.le_push H2 (.row [(.int .i64 0 : Value), (.slice none 0 0 : Value), (.slice none 0 0 : Value), (.slice none 0 0 : Value), (.slice none 0 0 : Value), (.int .i64 0 : Value), (.slice none 0 0 : Value), (.slice none 0 0 : Value), (.slice none 0 0 : Value), (.slice none 0 0 : Value), (.slice none 0 0 : Value), (.slice none 0 0 : Value), (.int .i64 0 : Value), (.slice none 0 0 : Value), (.slice none 0 0 : Value), (.slice none 0 0 : Value), (.slice none 0 0 : Value), (.int .i64 0 : Value), (.slice none 0 0 : Value), (.slice none 0 0 : Value), (.slice none 0 0 : Value), (.slice none 0 0 : Value), (.slice none 0 0 : Value), (.slice none 0 0 : Value), (.slice none 0 0 : Value)] 36 true)
   have hn := GHeap.get_push_new H2 (.row [(.int .i64 0 : Value), (.slice none 0 0 : Value), (.slice none 0 0 : Value), (.slice none 0 0 : Value), (.slice none 0 0 : Value), (.int .i64 0 : Value), (.slice none 0 0 : Value), (.slice none 0 0 : Value), (.slice none 0 0 : Value), (.slice none 0 0 : Value), (.slice none 0 0 : Value), (.slice none 0 0 : Value), (.int .i64 0 : Value), (.slice none 0 0 : Value), (.slice none 0 0 : Value), (.slice none 0 0 : Value), (.slice none 0 0 : Value), (.int .i64 0 : Value), (.slice none 0 0 : Value), (.slice none 0 0 : Value), (.slice none 0 0 : Value), (.slice none 0 0 : Value), (.slice none 0 0 : Value), (.slice none 0 0 : Value), (.slice none 0 0 : Value)] 36 true)
   have hnx := GHeap.next_push H2 (.row [(.int .i64 0 : Value), (.slice none 0 0 : Value), (.slice none 0 0 : Value), (.slice none 0 0 : Value), (.slice none 0 0 : Value), (.int .i64 0 : Value), (.slice none 0 0 : Value), (.slice none 0 0 : Value), (.slice none 0 0 : Value), (.slice none 0 0 : Value), (.slice none 0 0 : Value), (.slice none 0 0 : Value), (.int .i64 0 : Value), (.slice none 0 0 : Value), (.slice none 0 0 : Value), (.slice none 0 0 : Value), (.slice none 0 0 : Value), (.int .i64 0 : Value), (.slice none 0 0 : Value), (.slice none 0 0 : Value), (.slice none 0 0 : Value), (.slice none 0 0 : Value), (.slice none 0 0 : Value), (.slice none 0 0 : Value), (.slice none 0 0 : Value)] 36 true)
   generalize H2.push (.row [(.int .i64 0 : Value), (.slice none 0 0 : Value), (.slice none 0 0 : Value), (.slice none 0 0 : Value), (.slice none 0 0 : Value), (.int .i64 0 : Value), (.slice none 0 0 : Value), (.slice none 0 0 : Value), (.slice none 0 0 : Value), (.slice none 0 0 : Value), (.slice none 0 0 : Value), (.slice none 0 0 : Value), (.int .i64 0 : Value), (.slice none 0 0 : Value), (.slice none 0 0 : Value), (.slice none 0 0 : Value), (.slice none 0 0 : Value), (.int .i64 0 : Value), (.slice none 0 0 : Value), (.slice none 0 0 : Value), (.slice none 0 0 : Value), (.slice none 0 0 : Value), (.slice none 0 0 : Value), (.slice none 0 0 : Value), (.slice none 0 0 : Value)] 36 true) = H3 at *
   refine .d0 rfl rfl (.storeN rfl sz_36 rfl rfl rfl rfl hn (Nat.le_of_ble_eq_true rfl) CIs.mk) ?_
   rw [setAll_all _ _ (by rfl)]
   have le4 : H2.Le (H3.set H2.next (some (.row (m.cells p2) 36 true))) := lp.set_new (Nat.le_refl _)
   have hn4 : (H3.set H2.next (some (.row (m.cells p2) 36 true))).get H2.next = some (.row (m.cells p2) 36 true) := GHeap.get_set_eq (GHeap.lt_of_get hn)
   show GRun _ _ _ _ _ _ (H3.set H2.next (some (.row (m.cells p2) 36 true)))
   generalize H3.set H2.next (some (.row (m.cells p2) 36 true)) = H4 at *
   replace hb := hb.mono le4
   have in2 := hat2.inn.mono le4
   have hm5 : MemN H4 H2.next 0 25 (m.cells p2) := ⟨rfl, Mem.of_get hn4⟩
   have hm : MemN _ _ _ _ _ := ⟨rfl, hb.1⟩
   have hin1 := hb.2
   refine .nil ?_
   refine hK8 _ _ ?_
   refine .seq (fun K9 hK9 => ?_)
   refine .region ?_
   refine .m rfl rfl rfl (.loadM ag_36 rfl (by assumption)) ?_
   refine .callQ rfl rfl rfl rfl @Try.call10 rfl (IsTransformation_c) ?_
   refine .m rfl rfl rfl (.assign rfl) ?_
   refine .nil ?_
   refine hK9 _ _ ?_
   refine .seq (fun K10 hK10 => ?_)
   refine .seq (fun K11 hK11 => ?_)
   refine .region ?_
   refine .m rfl rfl rfl (.move rfl) ?_
   refine .m rfl rfl rfl (.move rfl) ?_
   refine .m rfl rfl rfl (.boolNe bo_4 rfl rfl) ?_
   refine .nil ?_
   refine hK11 _ _ ?_
   refine .cond rfl (fun h21 => ?_) (fun h21 => ?_)
   ·
    try simp only [sps] at h21
    refine .seq (fun K12 hK12 => ?_)
    refine .region ?_
    refine .m rfl rfl rfl (.assign rfl) ?_
    refine .nil ?_
    refine hK12 _ _ ?_
    refine .ret ?_
    -- leaf e2
    refine hret _ _ ?_
    refine ⟨_, rfl, ?_⟩
    exact absurd trivial h21
   ·
    try simp only [sps] at h21
    refine .skip ?_
    refine hK10 _ _ ?_
    refine .seq (fun K13 hK13 => ?_)
    refine .seq (fun K14 hK14 => ?_)
    refine .regionD mixed_orders (.q 0 (.q 1 (.c 2 1 (.c 3 0 (.q 4 (.done)))))) (by kernel_rfl) ?_
    refine .m rfl rfl rfl rfl (.refl _) (.loadM ag_36 rfl (by assumption)) ?_
    refine .m rfl rfl rfl rfl (.refl _) (.loadM ag_29 rfl (by assumption)) ?_
    refine .call1 rfl rfl rfl rfl rfl @Try.call9 rfl (toTransformation_c) ?_
    rintro _ H2 ⟨hl2, p2, rfl, hat2⟩
    refine ⟨(by assumption), ?_⟩
    have inA := in2.mono hl2
    have inB := hat2.inn
    refine .callQ0 rfl rfl rfl rfl rfl @Try.call11 rfl (eqTransformation_c) ?_
    refine .m rfl rfl rfl rfl (.refl _) (.not rfl) ?_
    refine .done ?_
    refine hK14 _ _ ?_
    refine .cond rfl (fun h26 => ?_) (fun h26 => ?_)
    ·
     try simp only [sps] at h26
     refine .seq (fun K15 hK15 => ?_)
     refine .region ?_
     refine .m rfl rfl rfl (.assign rfl) ?_
     refine .nil ?_
     refine hK15 _ _ ?_
     refine .ret ?_
     -- leaf e3
     refine hret _ _ ?_
     refine ⟨_, rfl, ?_⟩
     first
     | cases h26
     | exact absurd rfl h26
     | exact absurd trivial h26
    ·
     try simp only [sps] at h26
     refine .skip ?_
     refine hK13 _ _ ?_
     refine .seq (fun K16 hK16 => ?_)
     refine .region ?_
     refine .m rfl rfl rfl (.assign rfl) ?_
     refine .nil ?_
     refine hK16 _ _ ?_
     refine .ret ?_
     -- leaf e4
     refine hret _ _ ?_
     refine ⟨_, rfl, ?_⟩
     exact rfl
end Go.Proofs.Ytcnopbgnadkikaa
