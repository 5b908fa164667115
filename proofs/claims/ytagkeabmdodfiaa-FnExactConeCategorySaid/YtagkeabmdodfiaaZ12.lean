/- Categories of cones: the program's. No condition but those of each statement. -/
import Derived.Test.YtagkeabmdodfiaaZ11
import Derived.ChangeKeysEq
namespace Go.Proofs.Ytagkeabmdodfiaa
open Go Go.GL Go.RowKit Go.Proofs
theorem sz_108_El : (Try.prog.info? 108).map (·.size) = some 3 := by kernel_rfl
theorem sl_105_El : sliceT Try.prog 105 = some (108, 3) := by kernel_rfl
theorem ag_108_El : aggT Try.prog 108 = some 3 := by kernel_rfl
theorem eg_108_El : Try.prog.eqGuardType Try.prog.depth 108 = false := by kernel_rfl
theorem on_105_El : oneT Try.prog 105 = true := by kernel_rfl
theorem ze_108_El : zeroT Try.prog 108 = some ([.int .i64 0, .int .i64 0, .int .i64 0], 3) := by kernel_rfl
theorem ar_108_El : arrayT Try.prog 108 = some (3, 1) := by kernel_rfl
theorem bta_108_El : buildAT Try.prog 108 = some ([.int .i64 0, .int .i64 0, .int .i64 0], 1) := by kernel_rfl
theorem aggEq_108 (a0 a1 a2 b0 b1 b2 : Int) : ∀ w, (Op.equal 108 (.agg #[.int .i64 a0, .int .i64 a1, .int .i64 a2]) (.agg #[.int .i64 b0, .int .i64 b1, .int .i64 b2])).run Try.prog w = .ok (a0 == b0 && a1 == b1 && a2 == b2) w := by
  intro w
  unfold Op.equal Op.maxDepth
  obtain ⟨i, hi⟩ : ∃ i, Try.prog.info? 2 = some i := Option.isSome_iff_exists.1 (by kernel_rfl)
  have hu : Try.prog.underlying 108 = some (.array 3 2) := by kernel_rfl
  have h2 : Try.prog.underlying 2 = some (.int .i64) := by kernel_rfl
  have hc : Try.prog.cellsOf 2 = 1 := by kernel_rfl
  have h1 : oneT Try.prog 2 = true := by kernel_rfl
  rw [show (10000 : Nat) = 9999 + 1 from rfl, run_equalIn_array w 9999 _ _ hu hi, hc]
  have hp : ∀ (cs : Array Value) (off : Nat) (v : Value), cs[off]? = some v → (part 2 cs off).run Try.prog w = .ok v w := fun cs off v hv => part_one h1 hv
  have he : ∀ a b : Int, (Op.equalIn 9999 2 (.int .i64 a) (.int .i64 b)).run Try.prog w = .ok (a == b) w := fun a b => run_equalIn_int w 9998 2 .i64 .i64 a b h2
  show (Op.eqItems 9999 2 1 _ _ [0, 1, 2]).run Try.prog w = _
  have p0 := hp #[.int .i64 a0, .int .i64 a1, .int .i64 a2] 0 (.int .i64 a0) rfl
  have p1 := hp #[.int .i64 a0, .int .i64 a1, .int .i64 a2] 1 (.int .i64 a1) rfl
  have p2 := hp #[.int .i64 a0, .int .i64 a1, .int .i64 a2] 2 (.int .i64 a2) rfl
  have q0 := hp #[.int .i64 b0, .int .i64 b1, .int .i64 b2] 0 (.int .i64 b0) rfl
  have q1 := hp #[.int .i64 b0, .int .i64 b1, .int .i64 b2] 1 (.int .i64 b1) rfl
  have q2 := hp #[.int .i64 b0, .int .i64 b1, .int .i64 b2] 2 (.int .i64 b2) rfl
  simp only [Op.eqItems, Sem.run_bind, Nat.mul_one, p0, q0, Result.andThen_ok, he]
  cases a0 == b0
  · simp
  · simp only [Bool.not_true, Bool.false_eq_true, if_false, Sem.run_bind, p1, q1, Result.andThen_ok, he, Bool.true_and]
    cases a1 == b1
    · simp
    · simp only [Bool.not_true, Bool.false_eq_true, if_false, Sem.run_bind, p2, q2, Result.andThen_ok, he, Bool.true_and]
      cases a2 == b2 <;> simp
theorem isIdentity_c {g o : Nat} {c : Cat} {p : CatP} {u : Int} {H : GHeap} (h : Cat.At H g o c p := by assumption) (hS : c.Shape := by assumption) (h0 : 0 ≤ u := by omega) (h1 : u < c.src.length := by omega) :
    GCalls Try.prog 61 [.pointer (some ⟨g, o, none⟩), .int .i64 u] H (Ret (.bool (decide (c.idn.getD (c.src.getD u.toNat 0).toNat 0 = u))) H) := by
  refine GCalls.ret rfl ?_
  have q1 := hS.src u.toNat (by omega)
  have q2 := hS.il
  refine GCalls.body (N := 20) (rs := [.tmp 4]) Try.func61 rfl rfl rfl rfl (fun Qx hret hend => ?_)
  refine .forget (fr' := [(0, some _), (1, some _)]) ⟨rfl, rfl, trivial⟩ ?_
  have hle := GHeap.Le.refl H
  obtain ⟨-, c1, -, c3, -, i1, -, i3, -⟩ := h.get
  refine .seq (fun K1 hK1 => .region (.mv rfl (.nil (hK1 _ _ (.seq (fun K2 hK2 => ?_))))))
  refine .regionD mo_B (.q 0 (.q 1 (.q 2 (.q 3 (.q 4 (.q 5 (.q 6 (.q 7 (.q 8 (.q 9 (.q 10 (.q 11 (.q 12 (.q 13 (.q 14 (.q 15 (.done))))))))))))))))) (by kernel_rfl) ?_
  refine .mv rfl rfl (.m rfl rfl rfl rfl (.refl _) (.nilCheck rfl) (.m rfl rfl rfl rfl (.refl _) (.fieldAddr fo_31_3_B rfl) ?_))
  refine .m rfl rfl rfl rfl (.refl _) (.load on_22_B rfl (by assumption)) ?_
  refine .mv rfl rfl (.m rfl rfl rfl rfl (.refl _) (.nilCheck rfl) (.m rfl rfl rfl rfl (.refl _) (.fieldAddr fo_31_1_B rfl) ?_))
  refine .m rfl rfl rfl rfl (.refl _) (.load on_22_B rfl (by assumption)) ?_
  refine .mv rfl rfl ?_
  refine .m rfl rfl rfl rfl (.refl _) (.idx1 sl_22_A (by assumption) rfl rfl (by omega) (by omega)) ?_
  refine .m rfl rfl rfl rfl (.refl _) (.loadI on_2_A (by assumption) rfl (by omega)) ?_
  refine .m rfl rfl rfl rfl (.refl _) (.idx1 sl_22_A (by assumption) rfl rfl (by omega) (by omega)) ?_
  refine .m rfl rfl rfl rfl (.refl _) (.loadI on_2_A (by assumption) rfl (by omega)) ?_
  refine .mv rfl rfl (.m rfl rfl rfl rfl (.refl _) (.cmp rfl rfl rfl) (.mv rfl rfl ?_))
  refine .done ?_
  refine hK2 _ _ ?_
  refine .ret ?_
  refine hret _ _ ?_
  refine ⟨_, rfl, ?_⟩
  exact ⟨rfl, hle⟩
theorem index3_c {g : Nat} {xss : List (List Int)} {T : TypeId} {t0 t1 t2 : Int} {H : GHeap} (hg : H.get g = some (.row (tcells xss) T true)) (h3 : ∀ x ∈ xss, x.length = 3) (hl : xss.length ≤ 1000000) :
    GCalls Try.prog 105 [.slice (some ⟨g, 0, none⟩) xss.length xss.length, .agg #[.int .i64 t0, .int .i64 t1, .int .i64 t2]] H (Ret (.int .i64 (idxLL xss [t0, t1, t2])) H) := by
  refine GCalls.ret rfl ?_
  refine GCalls.body (N := 19) (rs := [.tmp 4]) Try.func105 rfl rfl rfl rfl (fun Qx hret hend => ?_)
  refine .forget (fr' := [(0, some _), (1, some _)]) ⟨rfl, rfl, trivial⟩ ?_
  have hle := GHeap.Le.refl H
  refine .seq (fun K1 hK1 => .region ?_)
  refine .r rfl rfl rfl (.boxR rfl sz_108_El rfl) ?_
  rintro _ H3 ⟨g3, rfl, le3, ge3, at3⟩
  replace hle := hle.trans le3
  replace hg := le3.2 _ _ hg
  refine .mv rfl (.nil (hK1 _ _ (.seq (fun K2 hK2 => .seq (fun K3 hK3 => .region (.mv rfl (.m rfl rfl rfl (.len sl_105_El rfl) (.mv rfl (.nil (hK3 _ _ ?_))))))))))
  refine .block ?_
  refine .loopR (σ := Nat) [(0, some _), (3, some _), (7, some _)] (fun k => [(8, some (.int .i64 (k : Int)))]) (fun k H' => St [] H3 H' ∧ k ≤ xss.length ∧ ∀ j, j < k → ¬ xss.getD j [] = [t0, t1, t2]) (fun k => xss.length - k) (0) ⟨rfl, rfl, rfl, trivial⟩ ⟨rfl, trivial⟩ ?_ ?_
  ·
   refine ⟨.refl _ _, ?_⟩
   exact ⟨by omega, fun _ _ => by omega⟩
  rintro k HL1 ⟨lst1, hI⟩ KL1 hKL1
  refine .forget (fr' := [(8, some (.int .i64 (k : Int))), (0, some _), (3, some _), (7, some _)]) ⟨rfl, rfl, rfl, rfl, trivial⟩ ?_
  replace hle := hle.st lst1 (fun k hk => trivial)
  replace hg := lst1.same _ _ trivial hg
  replace at3 := lst1.same _ _ trivial at3
  have sA := tcells_slA h3 hg
  obtain ⟨hi, ha⟩ := hI
  refine .seq (fun K4 hK4 => .region (.m rfl rfl rfl (.cmp rfl rfl rfl) (.nil (hK4 _ _ (.seq (fun K5 hK5 => ?_))))))
  refine .cond rfl (fun h9 => ?_) (fun h9 => ?_)
  ·
   simp only [sps] at h9
   have mk := tcells_mem h3 hg (i := k) (by omega)
   refine .skip ?_
   refine hK5 _ _ (.seq (fun K6 hK6 => ?_))
   refine .block ?_
   refine .seq (fun K7 hK7 => .region (.mv rfl (.mv rfl (.nil (hK7 _ _ (.seq (fun K8 hK8 => ?_)))))))
   refine .regionD mo_B (.q 0 (.q 1 (.q 2 (.q 3 (.q 4 (.q 5 (.done))))))) (by kernel_rfl) ?_
   refine .m rfl rfl rfl rfl (.refl _) (.loadM ag_108_El rfl ⟨rfl, Mem.of_get at3⟩) ?_
   refine .mv rfl rfl (.mv rfl rfl ?_)
   refine .m rfl rfl rfl rfl (.refl _) (.idx sl_105_El (by assumption) (by omega) rfl rfl (by omega) (by omega) rfl) ?_
   refine .m rfl rfl rfl rfl (.refl _) (.loadM ag_108_El rfl (by assumption)) ?_
   refine .m rfl rfl rfl rfl (.refl _) (.aggEq eg_108_El rfl rfl rfl rfl (aggEq_108 _ _ _ _ _ _)) ?_
   refine .done ?_
   refine hK8 _ _ ?_
   refine .cond rfl (fun h16 => ?_) (fun h16 => ?_)
   ·
    simp only [sps, beq_iff_eq, Bool.and_eq_true, and_assoc] at h16
    refine .seq (fun K9 hK9 => .region (.mv rfl (.mv rfl (.nil (hK9 _ _ ?_)))))
    refine .ret ?_
    refine hret _ _ ?_
    refine ⟨_, rfl, ?_⟩
    refine ⟨?_, hle⟩
    have e1 := getD3 (h3 _ (getD_mem_list (d := []) (show k < xss.length by omega)))
    rw [← h16.1, ← h16.2.1, ← h16.2.2] at e1
    rw [idxLL_some (by omega) e1 ha]
   refine .skip ?_
   refine hK6 _ _ (.region ?_)
   refine .m rfl rfl rfl (.add rfl rfl rfl (by omega) (by omega)) ?_
   refine .mv rfl (.nil ?_)
   refine hKL1 (k + 1) _ _ ?_ ?_ ⟨rfl, rfl, rfl, rfl, trivial⟩
   ·
    refine ⟨lst1, ?_⟩
    refine ⟨by omega, fun j hj => ?_⟩
    by_cases e : j < k
    · exact ha j e
    · obtain rfl : j = k := by omega
      intro e2
      rw [e2] at h16
      simp at h16
   omega
  try simp only [sps] at h9
  refine .exit ?_
  refine hK2 _ _ (.seq (fun K10 hK10 => .region (.mv rfl (.nil (hK10 _ _ ?_)))))
  refine .ret ?_
  refine hret _ _ ?_
  refine ⟨_, rfl, ?_⟩
  obtain rfl : k = xss.length := by omega
  exact ⟨by rw [idxLL_none ha], hle⟩
theorem indexA3_c {g : Nat} {xss : List (List Int)} {T : TypeId} {t0 t1 t2 : Int} {H : GHeap} (hg : H.get g = some (.row (tcells xss) T true)) (h3 : ∀ x ∈ xss, x.length = 3) (hl : xss.length ≤ 1000000) :
    GCalls Try.prog 64 [.slice (some ⟨g, 0, none⟩) xss.length xss.length, .agg #[.int .i64 t0, .int .i64 t1, .int .i64 t2]] H (Ret (.int .i64 (idxLL xss [t0, t1, t2])) H) := by
  refine GCalls.ret rfl ?_
  refine GCalls.body (N := 8) (rs := [.tmp 4]) Try.func64 rfl rfl rfl rfl (fun Qx hret hend => ?_)
  refine .forget (fr' := [(0, some _), (1, some _)]) ⟨rfl, rfl, trivial⟩ ?_
  have hle := GHeap.Le.refl H
  refine .seq (fun K1 hK1 => .region ?_)
  refine .r rfl rfl rfl (.boxR rfl sz_108_El rfl) ?_
  rintro _ H3 ⟨g3, rfl, le3, ge3, at3⟩
  replace hle := hle.trans le3
  replace hg := le3.2 _ _ hg
  refine .mv rfl (.nil (hK1 _ _ (.seq (fun K2 hK2 => .region (.mv rfl ?_)))))
  refine .m rfl rfl rfl (.loadM ag_108_El rfl ⟨rfl, Mem.of_get at3⟩) ?_
  refine .callQ rfl rfl rfl rfl @Try.call105 rfl (index3_c hg h3 hl) ?_
  refine .mv rfl (.nil (hK2 _ _ ?_))
  refine .ret ?_
  refine hret _ _ ?_
  refine ⟨_, rfl, ?_⟩
  exact ⟨rfl, hle⟩
set_option maxHeartbeats 4000000 in
theorem coneCategory1_c {gb gL g a b : Nat} {d : Fun} {p : FunP} {e1 T : TypeId} {H : GHeap} (hA : H.get gb = some (.row [.slice (some ⟨gL, 0, none⟩) d.ckA.length d.ckA.length] e1 true)) (hL : H.get gL = some (.row (tcells d.ckA) T true)) (hd : Fun.At H g 0 d p) (hI : d.Is) (hl : d.ckA.length ≤ 1000000) (ha : a < d.ckA.length) (hb : b < d.ckA.length) :
    GCalls Try.prog 63 [.int .i64 (a : Int), .int .i64 (b : Int), .pointer (some ⟨gb, 0, none⟩), .pointer (some ⟨g, 0, none⟩)] H (fun v H' => H.Le H' ∧ v = .int .i64 (idxLL d.ckA (d.ckK a b))) := by
  have hS := hI.2.1.1
  obtain ⟨-, -, -, -, oa5, oa6, -⟩ := d.ckA_get ha
  obtain ⟨-, -, -, -, ob5, ob6, -⟩ := d.ckA_get hb
  have h3 : ∀ x ∈ d.ckA, x.length = 3 := Fun.ckL_three
  refine GCalls.body (N := 30) (rs := [.tmp 6]) Try.func63 rfl rfl rfl rfl (fun Qx hret hend => ?_)
  refine .forget (fr' := [(0, some _), (1, some _), (2, some _), (3, some _)]) ⟨rfl, rfl, rfl, rfl, trivial⟩ ?_
  have hle := GHeap.Le.refl H
  have base_hd := hd
  have sA := tcells_slA h3 hL
  have ma := tcells_mem h3 hL ha
  have mb := tcells_mem h3 hL hb
  refine .seq (fun K1 hK1 => .region (.mv rfl (.nil (hK1 _ _ (.seq (fun K2 hK2 => ?_))))))
  refine .regionD mo_B (.q 0 (.q 1 (.q 2 (.q 3 (.q 4 (.q 5 (.q 6 (.q 7 (.or (.c 8 1 (.c 9 1 (.c 10 1 (.c 11 1 (.done))))) (.c 9 1 (.c 8 1 (.c 10 1 (.c 11 1 (.done)))))))))))))) (by kernel_rfl) ?_
  refine .cut [(0, some _), (1, some _), (2, some _), (3, some _), (6, some _)] ⟨rfl, rfl, rfl, rfl, rfl, trivial⟩ (fun rest fr' H' => ∃ g7 g8, Sub ((7, some (.pointer (some ⟨g7, 0, none⟩))) :: (8, some (.pointer (some ⟨g8, 0, none⟩))) :: rest) fr' ∧ H.Le H' ∧ H.next ≤ g7 ∧ H.next ≤ g8 ∧ H'.get g7 = some (.row ([.int .i64 ((d.ckA.getD a []).getD 0 0), .int .i64 ((d.ckA.getD a []).getD 1 0), .int .i64 ((d.ckA.getD a []).getD 2 0)]) 108 true) ∧ H'.get g8 = some (.row ([.int .i64 ((d.ckA.getD b []).getD 0 0), .int .i64 ((d.ckA.getD b []).getD 1 0), .int .i64 ((d.ckA.getD b []).getD 2 0)]) 108 true) ∧ g7 ≠ g8) ?_ ?_
  ·
   have hf0 := GHeap.Le.refl H
   refine .m rfl rfl rfl rfl (.refl _) (.load on_105_El rfl (by first | assumption | exact Mem.of_get hA 0 _ rfl)) ?_
   refine .mB rfl rfl rfl rfl (.refl _) (.move rfl) ?_
   refine .m rfl rfl rfl rfl (.refl _) (.idx sl_105_El (by assumption) (by omega) rfl rfl (by omega) (by omega) rfl) ?_
   refine .m rfl rfl rfl rfl (.refl _) (.loadM ag_108_El rfl (by assumption)) ?_
   refine .m rfl rfl rfl rfl (.refl _) (.load on_105_El rfl (by first | assumption | exact Mem.of_get hA 0 _ rfl)) ?_
   refine .mB rfl rfl rfl rfl (.refl _) (.move rfl) ?_
   refine .m rfl rfl rfl rfl (.refl _) (.idx sl_105_El (by assumption) (by omega) rfl rfl (by omega) (by omega) rfl) ?_
   refine .m rfl rfl rfl rfl (.refl _) (.loadM ag_108_El rfl (by assumption)) ?_
   refine .orI ?_ ?_
   ·
    refine .c1 rfl rfl rfl rfl (.allocR rfl ze_108_El rfl) ?_
    rintro _ H7x2 ⟨g7x2, rfl, le7x2, ge7x2, at7x2⟩
    have hbl := le7x2
    refine ⟨hbl, ?_⟩
    have lt_at7x2 := GHeap.ltg at7x2
    replace hf0 := hf0.trans le7x2
    refine .c1 rfl rfl rfl rfl (.allocR rfl ze_108_El rfl) ?_
    rintro _ H8x2 ⟨g8x2, rfl, le8x2, ge8x2, at8x2⟩
    replace hbl := hbl.trans le8x2
    refine ⟨hbl, ?_⟩
    replace at7x2 := le8x2.2 _ _ at7x2
    replace hf0 := hf0.trans le8x2
    refine .r1 rfl rfl rfl (.fillR rfl sz_108_El rfl rfl rfl rfl (by assumption) (by first | rfl | exact Nat.le_of_ble_eq_true rfl | simp)) ?_
    rintro _ H1010 ⟨rfl, st1010, at1010⟩
    replace hbl := hbl.st st1010 (fun k hk => ⟨by omega, trivial⟩)
    refine ⟨hbl, ?_⟩
    have ne_g8x2_g7x2 : NE g8x2 g7x2 := ⟨by first | assumption | omega⟩
    replace at8x2 := st1010.same _ _ ⟨ne_g8x2_g7x2.ne, trivial⟩ at8x2
    replace hf0 := hf0.st st1010 (fun k hk => ⟨by omega, trivial⟩)
    refine .r1 rfl rfl rfl (.fillR rfl sz_108_El rfl rfl rfl rfl (by assumption) (by first | rfl | exact Nat.le_of_ble_eq_true rfl | simp)) ?_
    rintro _ H1011 ⟨rfl, st1011, at1011⟩
    replace hbl := hbl.st st1011 (fun k hk => ⟨by omega, trivial⟩)
    refine ⟨hbl, ?_⟩
    replace at1010 := st1011.same _ _ ⟨(Ne.symm ne_g8x2_g7x2.ne), trivial⟩ at1010
    replace hf0 := hf0.st st1011 (fun k hk => ⟨by omega, trivial⟩)
    refine .done ?_
    exact ⟨g7x2, g8x2, ⟨rfl, rfl, rfl, rfl, rfl, rfl, rfl, trivial⟩, hf0, by omega, by omega, by first | assumption | simpa using at1010, by first | assumption | simpa using at1011, by omega⟩
   refine .c1 rfl rfl rfl rfl (.allocR rfl ze_108_El rfl) ?_
   rintro _ H8x3 ⟨g8x3, rfl, le8x3, ge8x3, at8x3⟩
   have hbl := le8x3
   refine ⟨hbl, ?_⟩
   have lt_at8x3 := GHeap.ltg at8x3
   replace hf0 := hf0.trans le8x3
   refine .c1 rfl rfl rfl rfl (.allocR rfl ze_108_El rfl) ?_
   rintro _ H7x3 ⟨g7x3, rfl, le7x3, ge7x3, at7x3⟩
   replace hbl := hbl.trans le7x3
   refine ⟨hbl, ?_⟩
   replace at8x3 := le7x3.2 _ _ at8x3
   replace hf0 := hf0.trans le7x3
   refine .r1 rfl rfl rfl (.fillR rfl sz_108_El rfl rfl rfl rfl (by assumption) (by first | rfl | exact Nat.le_of_ble_eq_true rfl | simp)) ?_
   rintro _ H1010x2 ⟨rfl, st1010x2, at1010x2⟩
   replace hbl := hbl.st st1010x2 (fun k hk => ⟨by omega, trivial⟩)
   refine ⟨hbl, ?_⟩
   have ne_g8x3_g7x3 : NE g8x3 g7x3 := ⟨by first | assumption | omega⟩
   replace at8x3 := st1010x2.same _ _ ⟨ne_g8x3_g7x3.ne, trivial⟩ at8x3
   replace hf0 := hf0.st st1010x2 (fun k hk => ⟨by omega, trivial⟩)
   refine .r1 rfl rfl rfl (.fillR rfl sz_108_El rfl rfl rfl rfl (by assumption) (by first | rfl | exact Nat.le_of_ble_eq_true rfl | simp)) ?_
   rintro _ H1011x2 ⟨rfl, st1011x2, at1011x2⟩
   replace hbl := hbl.st st1011x2 (fun k hk => ⟨by omega, trivial⟩)
   refine ⟨hbl, ?_⟩
   replace at1010x2 := st1011x2.same _ _ ⟨(Ne.symm ne_g8x3_g7x3.ne), trivial⟩ at1010x2
   replace hf0 := hf0.st st1011x2 (fun k hk => ⟨by omega, trivial⟩)
   refine .done ?_
   exact ⟨g7x3, g8x3, ⟨rfl, rfl, rfl, rfl, rfl, rfl, rfl, trivial⟩, hf0, by omega, by omega, by first | assumption | simpa using at1010x2, by first | assumption | simpa using at1011x2, by omega⟩
  rintro fr8 H8 ⟨g7, g8, hsub8, le8, ge7, ge8, at7, at8, ne8_0⟩
  replace hle := hle.trans le8
  replace hA := le8.2 _ _ hA
  replace hL := le8.2 _ _ hL
  replace hd := base_hd.mono hle
  clear sA ma mb
  obtain ⟨-, ft, -, -, -, -⟩ := hd.get
  refine hK2 _ _ ?_
  refine .forget hsub8 ?_
  refine .seq (fun K3 hK3 => ?_)
  refine .regionD mo_B (.q 0 (.q 1 (.q 2 (.q 3 (.q 4 (.q 5 (.q 6 (.q 7 (.q 8 (.q 9 (.c 10 1 (.q 11 (.c 12 0 (.q 13 (.done))))))))))))))) (by kernel_rfl) ?_
  refine .m rfl rfl rfl rfl (.refl _) (.load on_105_El rfl (by first | assumption | exact Mem.of_get hA 0 _ rfl)) ?_
  refine .m rfl rfl rfl rfl (.refl _) (.indexArr ar_108_El rfl rfl (by omega) (by omega)) ?_
  refine .m rfl rfl rfl rfl (.refl _) (.load on_2_A rfl (Mem.of_get at7 0 _ rfl)) ?_
  refine .m rfl rfl rfl rfl (.refl _) (.indexArr ar_108_El rfl rfl (by omega) (by omega)) ?_
  refine .m rfl rfl rfl rfl (.refl _) (.load on_2_A rfl (Mem.of_get at8 1 _ rfl)) (.m rfl rfl rfl rfl (.refl _) (.fieldAddr fo_33_1_E rfl) ?_)
  refine .m rfl rfl rfl rfl (.refl _) (.indexArr ar_108_El rfl rfl (by omega) (by omega)) ?_
  refine .m rfl rfl rfl rfl (.refl _) (.load on_2_A rfl (Mem.of_get at7 2 _ rfl)) ?_
  refine .m rfl rfl rfl rfl (.refl _) (.indexArr ar_108_El rfl rfl (by omega) (by omega)) ?_
  refine .m rfl rfl rfl rfl (.refl _) (.load on_2_A rfl (Mem.of_get at8 2 _ rfl)) ?_
  refine .callQ1 rfl rfl rfl rfl rfl @Try.call65 rfl (then_s) (.refl _) ?_
  refine .m rfl rfl rfl rfl (.refl _) (.buildA bta_108_El rfl rfl rfl) ?_
  refine .callQ0 rfl rfl rfl rfl rfl @Try.call64 rfl (indexA3_c hL h3 hl) ?_
  refine .mv rfl rfl ?_
  refine .done ?_
  refine hK3 _ _ ?_
  refine .ret ?_
  refine hret _ _ ?_
  refine ⟨_, rfl, ?_⟩
  exact ⟨hle, rfl⟩
end Go.Proofs.Ytagkeabmdodfiaa
namespace Go.Proofs.Ytagkeabmdodfiaa
open Go Go.GL Go.RowKit Go.Proofs
theorem ze_105_Em : zeroT Try.prog 105 = some ([.slice none 0 0], 1) := by kernel_rfl
theorem sz_105_Em : (Try.prog.info? 105).map (·.size) = some 1 := by kernel_rfl
theorem by_108_Em : (Try.prog.info? 108).map (·.bytes) = some 24 := by kernel_rfl
set_option maxHeartbeats 16000000 in
theorem implConeCategory0_c {d : Fun} {p : FunP} {H : GHeap} (hin : d.In H p := by assumption) (hs : d.Small := by assumption) (hb : (d.coneL d.t.obj.toNat).length ≤ 400) :
    GCalls Try.prog 29 [.agg (d.cells p).toArray] H (CkNew H d) := by
  have hN : d.ckN = (d.coneL d.t.obj.toNat).length := rfl
  refine GCalls.body (N := 101) (rs := [.cell 2 31, .tmp 3]) Try.func29 rfl rfl rfl rfl (fun Qx hret hend => ?_)
  refine .forget (fr' := [(0, some _)]) ⟨rfl, trivial⟩ ?_
  have hle := GHeap.Le.refl H
  have base_hin := hin
  refine .seq (fun K1 hK1 => .region ?_)
  refine .r rfl rfl rfl (.boxR rfl sz_33_E rfl) ?_
  rintro _ H1 ⟨g1, rfl, le1, ge1, at1⟩
  replace hle := hle.trans le1
  have lt_at1 := GHeap.ltg at1
  replace hin := base_hin.mono hle
  have hb1 : Fun.At _ g1 0 d p := ⟨Mem.of_get at1, hin⟩
  refine .r rfl rfl rfl (.allocR rfl ze_31_E rfl) ?_
  rintro _ H2 ⟨g2, rfl, le2, ge2, at2⟩
  replace hle := hle.trans le2
  replace at1 := le2.2 _ _ at1
  have lt_at2 := GHeap.ltg at2
  replace hin := base_hin.mono hle
  clear hb1
  have hb1 : Fun.At _ g1 0 d p := ⟨Mem.of_get at1, hin⟩
  refine .mv rfl (.nil (hK1 _ _ (.seq (fun K2 hK2 => .seq (fun K3 hK3 => .region ?_)))))
  refine .callQ rfl rfl rfl rfl @Try.call58 rfl (isFunctor_c) ?_
  refine .m rfl rfl rfl (.not rfl) (.nil (hK3 _ _ ?_))
  refine .cond rfl (fun h15 => ?_) (fun h15 => ?_)
  ·
   simp only [sps] at h15
   refine .seq (fun K4 hK4 => .region (.m rfl rfl rfl (.build bt_31_Hj rfl rfl rfl) ?_))
   refine .r0 rfl rfl (.fillR rfl sz_31_D rfl rfl rfl rfl (by assumption) (by first | rfl | exact Nat.le_of_ble_eq_true rfl | simp)) ?_
   rintro _ H2001 ⟨rfl, st2001, at2001⟩
   replace hle := hle.st st2001 (fun k hk => ⟨by omega, trivial⟩)
   have ne_g1_g2 : NE g1 g2 := ⟨by first | assumption | omega⟩
   replace at1 := st2001.same _ _ ⟨ne_g1_g2.ne, trivial⟩ at1
   replace hin := base_hin.mono hle
   clear hb1
   have hb1 : Fun.At _ g1 0 d p := ⟨Mem.of_get at1, hin⟩
   refine .mv rfl (.nil (hK4 _ _ ?_))
   refine .ret ?_
   refine hret _ _ ?_
   refine ⟨_, _, _, _, _, rfl, ag_31_D, (by rfl), (Mem.of_get at2001), rfl, ?_⟩
   obtain ⟨e1, e2⟩ := Fun.ck_1 h15
   unfold CkNew
   rw [e1, e2]
   exact ⟨hle, .zero, rfl, .zero _ _⟩
  simp only [sps] at h15
  have hI0 := h15
  have hS := h15.2.1.1
  obtain ⟨-, -, b3, -, -, -, -, b8, -, -, -⟩ := id hS
  refine .skip ?_
  refine hK2 _ _ (.seq (fun K5 hK5 => .region ?_))
  refine .call rfl rfl rfl rfl @Try.call59 rfl (allCones0_c (h := by assumption) h15 hb) ?_
  rintro _ H18 ⟨le18, g18, r18, rfl, v18⟩
  have nx_H18 := le18.1
  replace hle := hle.trans le18
  replace at1 := le18.2 _ _ at1
  replace at2 := le18.2 _ _ at2
  have bs_v18 := v18
  have lv_v18 : Keep H2.next H18 H18 := fun _ _ _ h => h
  replace hin := base_hin.mono hle
  have hb1 : Fun.At _ g1 0 d p := ⟨Mem.of_get at1, hin⟩
  refine .mv rfl (.m rfl rfl rfl (.extract rfl rfl) (.m rfl rfl rfl (.extract rfl rfl) (.mv rfl (.mv rfl (.nil (hK5 _ _ (.seq (fun K6 hK6 => .seq (fun K7 hK7 => .region (.mv rfl (.m rfl rfl rfl (.not rfl) (.mv rfl ?_))))))))))))
  refine .split (fun h23 => ?_) (fun h23 => ?_)
  ·
   exact absurd h23 (by decide)
  try simp only [sps] at h23
  refine .mg rfl rfl rfl rfl rfl (.move rfl) (.mg rfl rfl rfl rfl rfl (.len sl_93_Hk rfl) (.mg rfl rfl rfl rfl rfl (.cmp rfl rfl rfl) (.m rfl rfl rfl (.pickF rfl rfl) (.nil (hK7 _ _ ?_)))))
  refine .cond rfl (fun h27 => ?_) (fun h27 => ?_)
  ·
   simp only [sps] at h27
   refine .seq (fun K8 hK8 => .region (.m rfl rfl rfl (.build bt_31_Hj rfl rfl rfl) ?_))
   refine .r0 rfl rfl (.fillR rfl sz_31_D rfl rfl rfl rfl (by assumption) (by first | rfl | exact Nat.le_of_ble_eq_true rfl | simp)) ?_
   rintro _ H5001 ⟨rfl, st5001, at5001⟩
   replace hle := hle.st st5001 (fun k hk => ⟨by omega, trivial⟩)
   have ne_g1_g2 : NE g1 g2 := ⟨by first | assumption | omega⟩
   replace at1 := st5001.same _ _ ⟨ne_g1_g2.ne, trivial⟩ at1
   replace hin := base_hin.mono hle
   clear hb1
   have hb1 : Fun.At _ g1 0 d p := ⟨Mem.of_get at1, hin⟩
   refine .mv rfl (.nil (hK8 _ _ ?_))
   refine .ret ?_
   refine hret _ _ ?_
   refine ⟨_, _, _, _, _, rfl, ag_31_D, (by rfl), (Mem.of_get at5001), rfl, ?_⟩
   obtain ⟨e1, e2⟩ := Fun.ck_3 h15 (fun h => by have := h.1; omega)
   unfold CkNew
   rw [e1, e2]
   exact ⟨hle, .zero, rfl, .zero _ _⟩
  simp only [sps] at h27
  have hn8 : d.ckN ≤ 8 := by omega
  refine .skip ?_
  refine hK6 _ _ (.seq (fun K9 hK9 => .region (.mv rfl (.m rfl rfl rfl (.len sl_93_Hk rfl) (.mv rfl (.m rfl rfl rfl (.len sl_93_Hk rfl) ?_))))))
  refine .r rfl rfl rfl (.makeIN rfl sl_22_A ze_2_E by_2_E rfl rfl (by omega) (by omega) (by omega)) ?_
  rintro _ H33 ⟨g33, rfl, le33, ge33, at33⟩
  replace hle := hle.trans le33
  replace at1 := le33.2 _ _ at1
  replace at2 := le33.2 _ _ at2
  replace lv_v18 := Keep.le lv_v18 le33
  have lt_at33 := GHeap.ltg at33
  replace hin := base_hin.mono hle
  have hb1 : Fun.At _ g1 0 d p := ⟨Mem.of_get at1, hin⟩
  refine .m rfl rfl rfl (.build bt_31_Hj rfl rfl rfl) ?_
  refine .r rfl rfl rfl (.allocR rfl ze_31_E rfl) ?_
  rintro _ H6 ⟨g6, rfl, le6, ge6, at6⟩
  replace hle := hle.trans le6
  replace at1 := le6.2 _ _ at1
  replace at2 := le6.2 _ _ at2
  replace at33 := le6.2 _ _ at33
  replace lv_v18 := Keep.le lv_v18 le6
  replace hin := base_hin.mono hle
  clear hb1
  have hb1 : Fun.At _ g1 0 d p := ⟨Mem.of_get at1, hin⟩
  refine .r0 rfl rfl (.fillR rfl sz_31_D rfl rfl rfl rfl (by assumption) (by first | rfl | exact Nat.le_of_ble_eq_true rfl | simp)) ?_
  rintro _ H6007 ⟨rfl, st6007, at6007⟩
  replace hle := hle.st st6007 (fun k hk => ⟨by omega, trivial⟩)
  have ne_g1_g6 : NE g1 g6 := ⟨by first | assumption | omega⟩
  replace at1 := st6007.same _ _ ⟨ne_g1_g6.ne, trivial⟩ at1
  have ne_g2_g6 : NE g2 g6 := ⟨by first | assumption | omega⟩
  replace at2 := st6007.same _ _ ⟨ne_g2_g6.ne, trivial⟩ at2
  replace at33 := st6007.same _ _ ⟨(by first | assumption | omega), trivial⟩ at33
  replace lv_v18 := Keep.st lv_v18 st6007 (fun k hb hk => ⟨(by omega), trivial⟩)
  have lt_at6007 := GHeap.ltg at6007
  replace hin := base_hin.mono hle
  clear hb1
  have hb1 : Fun.At _ g1 0 d p := ⟨Mem.of_get at1, hin⟩
  refine .nil (hK9 _ _ (.seq (fun K10 hK10 => .region ?_)))
  refine .r rfl rfl rfl (.litR rfl sl_105_El ze_108_El rfl rfl (by omega) (by omega) rfl rfl) ?_
  rintro _ H35 ⟨g35, rfl, le35, ge35, at35⟩
  replace hle := hle.trans le35
  replace at1 := le35.2 _ _ at1
  replace at2 := le35.2 _ _ at2
  replace at33 := le35.2 _ _ at33
  replace at6007 := le35.2 _ _ at6007
  replace lv_v18 := Keep.le lv_v18 le35
  have lt_at35 := GHeap.ltg at35
  replace hin := base_hin.mono hle
  clear hb1
  have hb1 : Fun.At _ g1 0 d p := ⟨Mem.of_get at1, hin⟩
  refine .r rfl rfl rfl (.allocR rfl ze_105_Em rfl) ?_
  rintro _ H7 ⟨g7, rfl, le7, ge7, at7⟩
  have nx_H7 := le7.1
  replace hle := hle.trans le7
  replace at1 := le7.2 _ _ at1
  replace at2 := le7.2 _ _ at2
  replace at33 := le7.2 _ _ at33
  replace at6007 := le7.2 _ _ at6007
  replace at35 := le7.2 _ _ at35
  replace lv_v18 := Keep.le lv_v18 le7
  replace hin := base_hin.mono hle
  clear hb1
  have hb1 : Fun.At _ g1 0 d p := ⟨Mem.of_get at1, hin⟩
  refine .r0 rfl rfl (.storeR rfl sz_105_Em rfl rfl rfl (by assumption) (by first | exact Nat.le_of_ble_eq_true rfl | (simp; done) | (simp <;> omega))) ?_
  rintro _ H7002 ⟨rfl, st7002, at7002⟩
  have nx_H7002 := st7002.nx
  replace hle := hle.st st7002 (fun k hk => ⟨by omega, trivial⟩)
  have ne_g1_g7 : NE g1 g7 := ⟨by first | assumption | omega⟩
  replace at1 := st7002.same _ _ ⟨ne_g1_g7.ne, trivial⟩ at1
  have ne_g2_g7 : NE g2 g7 := ⟨by first | assumption | omega⟩
  replace at2 := st7002.same _ _ ⟨ne_g2_g7.ne, trivial⟩ at2
  replace at33 := st7002.same _ _ ⟨(by first | assumption | omega), trivial⟩ at33
  have ne_g6_g7 : NE g6 g7 := ⟨by first | assumption | omega⟩
  replace at6007 := st7002.same _ _ ⟨ne_g6_g7.ne, trivial⟩ at6007
  replace at35 := st7002.same _ _ ⟨(by first | assumption | omega), trivial⟩ at35
  replace lv_v18 := Keep.st lv_v18 st7002 (fun k hb hk => ⟨(by omega), trivial⟩)
  have lt_at7002 := GHeap.ltg at7002
  replace hin := base_hin.mono hle
  clear hb1
  have hb1 : Fun.At _ g1 0 d p := ⟨Mem.of_get at1, hin⟩
  try simp only [Nat.zero_add, List.set_cons_succ, List.set_cons_zero] at at7002
  refine .nil (hK10 _ _ (.seq (fun K11 hK11 => .seq (fun K12 hK12 => .region (.mv rfl (.m rfl rfl rfl (.len sl_93_Hk rfl) (.mv rfl (.nil (hK12 _ _ ?_)))))))))
  refine .block ?_
  refine .hold (fun HhF lehF nxhF => ?_)
  obtain ⟨ghF, hghF⟩ : ∃ g, g = GHeap.next H7002 := ⟨_, rfl⟩
  have no_hF : NO HhF ghF [] 2 0 := NO.start (by omega) rfl rfl
  replace hle := hle.trans lehF
  replace at1 := lehF.2 _ _ at1
  replace at2 := lehF.2 _ _ at2
  replace at33 := lehF.2 _ _ at33
  replace at6007 := lehF.2 _ _ at6007
  replace at35 := lehF.2 _ _ at35
  replace at7002 := lehF.2 _ _ at7002
  replace lv_v18 := Keep.le lv_v18 lehF
  replace hin := base_hin.mono hle
  clear hb1
  have hb1 : Fun.At _ g1 0 d p := ⟨Mem.of_get at1, hin⟩
  refine .hold (fun HhT lehT nxhT => ?_)
  obtain ⟨ghT, hghT⟩ : ∃ g, g = GHeap.next HhF := ⟨_, rfl⟩
  have no_hT : NO HhT ghT [] 2 0 := NO.start (by omega) rfl rfl
  replace hle := hle.trans lehT
  replace at1 := lehT.2 _ _ at1
  replace at2 := lehT.2 _ _ at2
  replace at33 := lehT.2 _ _ at33
  replace at6007 := lehT.2 _ _ at6007
  replace at35 := lehT.2 _ _ at35
  replace at7002 := lehT.2 _ _ at7002
  replace no_hF := no_hF.le lehT
  replace lv_v18 := Keep.le lv_v18 lehT
  replace hin := base_hin.mono hle
  clear hb1
  have hb1 : Fun.At _ g1 0 d p := ⟨Mem.of_get at1, hin⟩
  refine .loopR (σ := Nat × Nat × Nat × Nat) [(1, some _), (2, some _), (4, some _), (6, some _), (7, some _), (36, some _), (37, some _)] (fun (i, gLA, gLF, gLT) => [(38, some (.int .i64 (i : Int)))]) (fun (i, gLA, gLF, gLT) H' => St [g33, g35, g7, ghF, ghT, g6] HhT H' ∧ H'.get g33 = some (.row (ints (d.ckT (d.ckL i 0 0))) 2 true) ∧ H'.get gLA = some (.row ((tcells (d.ckL i 0 0))) 108 true) ∧ PL gLA g35 HhT.next ∧ H'.get g7 = some (.row ([.slice (some ⟨gLA, 0, none⟩) (d.ckL i 0 0).length (d.ckL i 0 0).length]) 105 true) ∧ NO H' gLF (ints (colI (d.ckL i 0 0) 0)) 2 ((d.ckL i 0 0).length) ∧ PL gLF ghF HhT.next ∧ NO H' gLT (ints (colI (d.ckL i 0 0) 1)) 2 ((d.ckL i 0 0).length) ∧ PL gLT ghT HhT.next ∧ H'.get g6 = some (.row ([.int .i64 ((d.coneL d.t.obj.toNat).length : Int), .slice (nz (d.ckL i 0 0).length gLF) (d.ckL i 0 0).length (d.ckL i 0 0).length, .slice (nz (d.ckL i 0 0).length gLT) (d.ckL i 0 0).length (d.ckL i 0 0).length, .slice (some ⟨g33, 0, none⟩) (d.coneL d.t.obj.toNat).length (d.coneL d.t.obj.toNat).length, .slice none 0 0]) 31 true) ∧ g33 ≠ gLA ∧ g33 ≠ g7 ∧ g33 ≠ gLF ∧ g33 ≠ gLT ∧ g33 ≠ g6 ∧ gLA ≠ g7 ∧ gLA ≠ gLF ∧ gLA ≠ gLT ∧ gLA ≠ g6 ∧ g7 ≠ gLF ∧ g7 ≠ gLT ∧ g7 ≠ g6 ∧ gLF ≠ gLT ∧ gLF ≠ g6 ∧ gLT ≠ g6 ∧ i ≤ (d.coneL d.t.obj.toNat).length) (fun (i, gLA, gLF, gLT) => (d.coneL d.t.obj.toNat).length - i) ((0, g35, ghF, ghT)) ⟨rfl, rfl, rfl, rfl, rfl, rfl, rfl, trivial⟩ ⟨rfl, trivial⟩ ?_ ?_
  ·
   refine ⟨.refl _ _, by first | assumption | (rw [show d.ckL 0 0 0 = [] from rfl, Fun.ckT_nil]; simpa using at33), by first | assumption | (rw [show d.ckL 0 0 0 = [] from rfl, Fun.ckT_nil]; simpa using at33), ⟨.inl rfl⟩, by first | assumption | (rw [show d.ckL 0 0 0 = [] from rfl, Fun.ckT_nil]; simpa using at33), by first | assumption | exact NO.start (by omega) (by first | rfl | (simp; done) | omega) (by first | rfl | (simp; done)), ⟨.inl rfl⟩, by first | assumption | exact NO.start (by omega) (by first | rfl | (simp; done) | omega) (by first | rfl | (simp; done)), ⟨.inl rfl⟩, by first | assumption | (rw [show d.ckL 0 0 0 = [] from rfl, Fun.ckT_nil]; simpa using at33), by omega, by omega, by omega, by omega, by omega, by omega, by omega, by omega, by omega, by omega, by omega, by omega, by omega, by omega, by omega, ?_⟩
   omega
  rintro ⟨i, gLA, gLF, gLT⟩ HL1 ⟨lst1, at_Lg33, at_LA, pl_LA, at_Lg7, no_LF, pl_LF, no_LT, pl_LT, at_Lg6, ap1_0, ap1_1, ap1_2, ap1_3, ap1_4, ap1_5, ap1_6, ap1_7, ap1_8, ap1_9, ap1_10, ap1_11, ap1_12, ap1_13, ap1_14, hI⟩ KL1 hKL1
  refine .forget (fr' := [(38, some (.int .i64 (i : Int))), (1, some _), (2, some _), (4, some _), (6, some _), (7, some _), (36, some _), (37, some _)]) ⟨rfl, rfl, rfl, rfl, rfl, rfl, rfl, rfl, trivial⟩ ?_
  have ge_LA : H.next ≤ gLA := pl_LA.ge (by omega) (by omega)
  have ge_LF : H.next ≤ gLF := pl_LF.ge (by omega) (by omega)
  have ge_LT : H.next ≤ gLT := pl_LT.ge (by omega) (by omega)
  have nx_HL1 := lst1.nx
  replace hle := hle.st lst1 (fun k hk => ⟨by omega, by omega, by omega, by omega, by omega, by omega, trivial⟩)
  have ne_g1_g33 : NE g1 g33 := ⟨by first | assumption | omega⟩
  have ne_g1_g35 : NE g1 g35 := ⟨by first | assumption | omega⟩
  have ne_g1_ghF : NE g1 ghF := ⟨by first | assumption | omega⟩
  have ne_g1_ghT : NE g1 ghT := ⟨by first | assumption | omega⟩
  replace at1 := lst1.same _ _ ⟨ne_g1_g33.ne, ne_g1_g35.ne, ne_g1_g7.ne, ne_g1_ghF.ne, ne_g1_ghT.ne, ne_g1_g6.ne, trivial⟩ at1
  have ne_g2_g33 : NE g2 g33 := ⟨by first | assumption | omega⟩
  have ne_g2_ghF : NE g2 ghF := ⟨by first | assumption | omega⟩
  have ne_g2_ghT : NE g2 ghT := ⟨by first | assumption | omega⟩
  replace at2 := lst1.same _ _ ⟨ne_g2_g33.ne, (by first | assumption | omega), ne_g2_g7.ne, ne_g2_ghF.ne, ne_g2_ghT.ne, ne_g2_g6.ne, trivial⟩ at2
  replace lv_v18 := Keep.st lv_v18 lst1 (fun k hb hk => ⟨(by omega), (by omega), (by omega), (by omega), (by omega), (by omega), trivial⟩)
  replace v18 := bs_v18.keep lv_v18 (Nat.le_refl _)
  have lt_at_Lg33 := GHeap.ltg at_Lg33
  have lt_at_LA := GHeap.ltg at_LA
  have lt_at_Lg7 := GHeap.ltg at_Lg7
  have lt_no_LF := no_LF.lt
  have lt_no_LT := no_LT.lt
  have lt_at_Lg6 := GHeap.ltg at_Lg6
  replace hin := base_hin.mono hle
  clear hb1
  have hb1 : Fun.At _ g1 0 d p := ⟨Mem.of_get at1, hin⟩
  have sl18 := v18.sl
  refine .seq (fun K13 hK13 => .region (.m rfl rfl rfl (.cmp rfl rfl rfl) (.nil (hK13 _ _ (.seq (fun K14 hK14 => ?_))))))
  refine .cond rfl (fun h39 => ?_) (fun h39 => ?_)
  ·
   simp only [sps] at h39
   have hm1 := v18.mem i (by omega)
   refine .skip ?_
   refine hK14 _ _ (.seq (fun K15 hK15 => ?_))
   refine .block ?_
   refine .seq (fun K16 hK16 => .region (.mv rfl ?_))
   refine .m rfl rfl rfl (.idx sl_93_Hk (by assumption) (by omega) rfl rfl (by omega) (by omega) rfl) ?_
   refine .m rfl rfl rfl (.loadM ag_98_Ek rfl (by assumption)) ?_
   refine .r rfl rfl rfl (.allocR rfl ze_98_Hk rfl) ?_
   rintro _ H9 ⟨g9, rfl, le9, ge9, at9⟩
   have nx_H9 := le9.1
   replace hle := hle.trans le9
   replace lst1 := lst1.le le9
   replace at1 := le9.2 _ _ at1
   replace at_Lg33 := le9.2 _ _ at_Lg33
   replace at_LA := le9.2 _ _ at_LA
   replace at_Lg7 := le9.2 _ _ at_Lg7
   replace no_LF := no_LF.le le9
   replace no_LT := no_LT.le le9
   replace at_Lg6 := le9.2 _ _ at_Lg6
   replace lv_v18 := Keep.le lv_v18 le9
   replace hin := base_hin.mono hle
   clear hb1 hm1
   have hb1 : Fun.At _ g1 0 d p := ⟨Mem.of_get at1, hin⟩
   clear sl18
   refine .mv rfl ?_
   refine .r0 rfl rfl (.fillR rfl sz_98_Cm rfl rfl rfl rfl (by assumption) (by first | rfl | exact Nat.le_of_ble_eq_true rfl | simp)) ?_
   rintro _ H10005 ⟨rfl, st10005, at10005⟩
   have nx_H10005 := st10005.nx
   replace hle := hle.st st10005 (fun k hk => ⟨by omega, trivial⟩)
   replace lst1 := lst1.st st10005 (fun k hk ho => by simp only [out, and_true] at ho ⊢ <;> first | exact ho | exact ho.1 | exact ho.2 | exact ho.2.1 | exact ho.2.2 | exact ho.2.2.1 | exact ho.2.2.2 | omega)
   replace at1 := st10005.same _ _ ⟨(by first | assumption | omega), trivial⟩ at1
   have ne_g33_g9 : NE g33 g9 := ⟨by first | assumption | omega⟩
   replace at_Lg33 := st10005.same _ _ ⟨ne_g33_g9.ne, trivial⟩ at_Lg33
   have ne_gLA_g9 : NE gLA g9 := ⟨by first | assumption | omega⟩
   replace at_LA := st10005.same _ _ ⟨ne_gLA_g9.ne, trivial⟩ at_LA
   have ne_g7_g9 : NE g7 g9 := ⟨by first | assumption | omega⟩
   replace at_Lg7 := st10005.same _ _ ⟨ne_g7_g9.ne, trivial⟩ at_Lg7
   have ne_gLF_g9 : NE gLF g9 := ⟨by first | assumption | omega⟩
   replace no_LF := no_LF.st st10005 ⟨ne_gLF_g9.ne, trivial⟩
   have ne_gLT_g9 : NE gLT g9 := ⟨by first | assumption | omega⟩
   replace no_LT := no_LT.st st10005 ⟨ne_gLT_g9.ne, trivial⟩
   have ne_g6_g9 : NE g6 g9 := ⟨by first | assumption | omega⟩
   replace at_Lg6 := st10005.same _ _ ⟨ne_g6_g9.ne, trivial⟩ at_Lg6
   replace lv_v18 := Keep.st lv_v18 st10005 (fun k hb hk => ⟨(by omega), trivial⟩)
   have lt_at10005 := GHeap.ltg at10005
   replace hin := base_hin.mono hle
   clear hb1
   have hb1 : Fun.At _ g1 0 d p := ⟨Mem.of_get at1, hin⟩
   refine .nil (hK16 _ _ (.seq (fun K17 hK17 => .region (.mv rfl (.m rfl rfl rfl (.len sl_93_Hk rfl) (.mv rfl (.nil (hK17 _ _ ?_))))))))
   refine .block ?_
   refine .loopR (σ := Nat × Nat × Nat × Nat) [(1, some _), (2, some _), (4, some _), (6, some _), (7, some _), (8, some _), (9, some _), (36, some _), (37, some _), (38, some _), (43, some _), (44, some _)] (fun (j, gLA2, gLF2, gLT2) => [(45, some (.int .i64 (j : Int)))]) (fun (j, gLA2, gLF2, gLT2) H' => St [g33, gLA, g7, gLF, gLT, g6] H10005 H' ∧ H'.get g33 = some (.row (ints (d.ckT (d.ckL i j 0))) 2 true) ∧ H'.get gLA2 = some (.row ((tcells (d.ckL i j 0))) 108 true) ∧ PL gLA2 gLA H10005.next ∧ H'.get g7 = some (.row ([.slice (some ⟨gLA2, 0, none⟩) (d.ckL i j 0).length (d.ckL i j 0).length]) 105 true) ∧ NO H' gLF2 (ints (colI (d.ckL i j 0) 0)) 2 ((d.ckL i j 0).length) ∧ PL gLF2 gLF H10005.next ∧ NO H' gLT2 (ints (colI (d.ckL i j 0) 1)) 2 ((d.ckL i j 0).length) ∧ PL gLT2 gLT H10005.next ∧ H'.get g6 = some (.row ([.int .i64 ((d.coneL d.t.obj.toNat).length : Int), .slice (nz (d.ckL i j 0).length gLF2) (d.ckL i j 0).length (d.ckL i j 0).length, .slice (nz (d.ckL i j 0).length gLT2) (d.ckL i j 0).length (d.ckL i j 0).length, .slice (some ⟨g33, 0, none⟩) (d.coneL d.t.obj.toNat).length (d.coneL d.t.obj.toNat).length, .slice none 0 0]) 31 true) ∧ g33 ≠ gLA2 ∧ g33 ≠ g7 ∧ g33 ≠ gLF2 ∧ g33 ≠ gLT2 ∧ g33 ≠ g6 ∧ gLA2 ≠ g7 ∧ gLA2 ≠ gLF2 ∧ gLA2 ≠ gLT2 ∧ gLA2 ≠ g6 ∧ g7 ≠ gLF2 ∧ g7 ≠ gLT2 ∧ g7 ≠ g6 ∧ gLF2 ≠ gLT2 ∧ gLF2 ≠ g6 ∧ gLT2 ≠ g6 ∧ j ≤ (d.coneL d.t.obj.toNat).length) (fun (j, gLA2, gLF2, gLT2) => (d.coneL d.t.obj.toNat).length - j) ((0, gLA, gLF, gLT)) ⟨rfl, rfl, rfl, rfl, rfl, rfl, rfl, rfl, rfl, rfl, rfl, rfl, trivial⟩ ⟨rfl, trivial⟩ ?_ ?_
   ·
    refine ⟨.refl _ _, by first | assumption | exact at_Lg33 | simpa using at_Lg33, by first | assumption | exact at_LA | simpa using at_LA, ⟨.inl rfl⟩, by first | assumption | exact at_Lg7 | simpa using at_Lg7, by first | assumption | exact NO.start (by omega) (by first | rfl | (simp; done) | omega) (by first | rfl | (simp; done)), ⟨.inl rfl⟩, by first | assumption | exact NO.start (by omega) (by first | rfl | (simp; done) | omega) (by first | rfl | (simp; done)), ⟨.inl rfl⟩, by first | assumption | exact at_Lg6 | simpa using at_Lg6, by omega, by omega, by omega, by omega, by omega, by omega, by omega, by omega, by omega, by omega, by omega, by omega, by omega, by omega, by omega, ?_⟩
    omega
   rintro ⟨j, gLA2, gLF2, gLT2⟩ HL2 ⟨lst2, at_Lg33, at_LA2, pl_LA2, at_Lg7, no_LF2, pl_LF2, no_LT2, pl_LT2, at_Lg6, ap2_0, ap2_1, ap2_2, ap2_3, ap2_4, ap2_5, ap2_6, ap2_7, ap2_8, ap2_9, ap2_10, ap2_11, ap2_12, ap2_13, ap2_14, hI⟩ KL2 hKL2
   refine .forget (fr' := [(45, some (.int .i64 (j : Int))), (1, some _), (2, some _), (4, some _), (6, some _), (7, some _), (8, some _), (9, some _), (36, some _), (37, some _), (38, some _), (43, some _), (44, some _)]) ⟨rfl, rfl, rfl, rfl, rfl, rfl, rfl, rfl, rfl, rfl, rfl, rfl, rfl, trivial⟩ ?_
   have ge_LA2 : H.next ≤ gLA2 := pl_LA2.ge (by omega) (by omega)
   have ge_LF2 : H.next ≤ gLF2 := pl_LF2.ge (by omega) (by omega)
   have ge_LT2 : H.next ≤ gLT2 := pl_LT2.ge (by omega) (by omega)
   have nx_HL2 := lst2.nx
   replace hle := hle.st lst2 (fun k hk => ⟨by omega, by omega, by omega, by omega, by omega, by omega, trivial⟩)
   replace lst1 := lst1.st lst2 (fun k hk ho => by simp only [out, and_true] at ho ⊢ <;> exact ⟨by first | exact ho | exact ho.1 | exact ho.2 | exact ho.2.1 | exact ho.2.2 | exact ho.2.2.1 | exact ho.2.2.2 | omega, by first | exact ho | exact ho.1 | exact ho.2 | exact ho.2.1 | exact ho.2.2 | exact ho.2.2.1 | exact ho.2.2.2 | exact pl_LA.ne (by first | exact ho | exact ho.1 | exact ho.2 | exact ho.2.1 | exact ho.2.2 | exact ho.2.2.1 | exact ho.2.2.2 | omega) (by omega) | omega, by first | exact ho | exact ho.1 | exact ho.2 | exact ho.2.1 | exact ho.2.2 | exact ho.2.2.1 | exact ho.2.2.2 | omega, by first | exact ho | exact ho.1 | exact ho.2 | exact ho.2.1 | exact ho.2.2 | exact ho.2.2.1 | exact ho.2.2.2 | exact pl_LF.ne (by first | exact ho | exact ho.1 | exact ho.2 | exact ho.2.1 | exact ho.2.2 | exact ho.2.2.1 | exact ho.2.2.2 | omega) (by omega) | omega, by first | exact ho | exact ho.1 | exact ho.2 | exact ho.2.1 | exact ho.2.2 | exact ho.2.2.1 | exact ho.2.2.2 | exact pl_LT.ne (by first | exact ho | exact ho.1 | exact ho.2 | exact ho.2.1 | exact ho.2.2 | exact ho.2.2.1 | exact ho.2.2.2 | omega) (by omega) | omega, by first | exact ho | exact ho.1 | exact ho.2 | exact ho.2.1 | exact ho.2.2 | exact ho.2.2.1 | exact ho.2.2.2 | omega⟩)
   have ne_g1_gLA : NE g1 gLA := ⟨pl_LA.ne ne_g1_g35.ne (by omega)⟩
   have ne_g1_gLF : NE g1 gLF := ⟨pl_LF.ne ne_g1_ghF.ne (by omega)⟩
   have ne_g1_gLT : NE g1 gLT := ⟨pl_LT.ne ne_g1_ghT.ne (by omega)⟩
   replace at1 := lst2.same _ _ ⟨ne_g1_g33.ne, ne_g1_gLA.ne, ne_g1_g7.ne, ne_g1_gLF.ne, ne_g1_gLT.ne, ne_g1_g6.ne, trivial⟩ at1
   replace at10005 := lst2.same _ _ ⟨(Ne.symm ne_g33_g9.ne), (Ne.symm ne_gLA_g9.ne), (Ne.symm ne_g7_g9.ne), (Ne.symm ne_gLF_g9.ne), (Ne.symm ne_gLT_g9.ne), (Ne.symm ne_g6_g9.ne), trivial⟩ at10005
   replace lv_v18 := Keep.st lv_v18 lst2 (fun k hb hk => ⟨(by omega), (by first | exact pl_LA.ne (by omega) (by omega) | omega), (by omega), (by first | exact pl_LF.ne (by omega) (by omega) | omega), (by first | exact pl_LT.ne (by omega) (by omega) | omega), (by omega), trivial⟩)
   replace v18 := bs_v18.keep lv_v18 (Nat.le_refl _)
   have lt_at_Lg33 := GHeap.ltg at_Lg33
   have lt_at_LA2 := GHeap.ltg at_LA2
   have lt_at_Lg7 := GHeap.ltg at_Lg7
   have lt_no_LF2 := no_LF2.lt
   have lt_no_LT2 := no_LT2.lt
   have lt_at_Lg6 := GHeap.ltg at_Lg6
   replace hin := base_hin.mono hle
   clear hb1
   have hb1 : Fun.At _ g1 0 d p := ⟨Mem.of_get at1, hin⟩
   have sl18 := v18.sl
   refine .seq (fun K18 hK18 => .region (.m rfl rfl rfl (.cmp rfl rfl rfl) (.nil (hK18 _ _ (.seq (fun K19 hK19 => ?_))))))
   refine .cond rfl (fun h46 => ?_) (fun h46 => ?_)
   ·
    simp only [sps] at h46
    have hMM : (d.ckM i j).length = (d.coneMaps (d.ckC i) (d.ckC j)).length := rfl
    have hM40 := d.ckM_le hI0 i j
    have hm2 := v18.mem j (by omega)
    refine .skip ?_
    refine hK19 _ _ (.seq (fun K20 hK20 => ?_))
    refine .block ?_
    refine .seq (fun K21 hK21 => .region (.mv rfl ?_))
    refine .m rfl rfl rfl (.idx sl_93_Hk (by assumption) (by omega) rfl rfl (by omega) (by omega) rfl) ?_
    refine .m rfl rfl rfl (.loadM ag_98_Ek rfl (by assumption)) ?_
    refine .r rfl rfl rfl (.allocR rfl ze_98_Hk rfl) ?_
    rintro _ H11 ⟨g11, rfl, le11, ge11, at11⟩
    replace hle := hle.trans le11
    replace lst2 := lst2.le le11
    replace at1 := le11.2 _ _ at1
    replace at10005 := le11.2 _ _ at10005
    replace at_Lg33 := le11.2 _ _ at_Lg33
    replace at_LA2 := le11.2 _ _ at_LA2
    replace at_Lg7 := le11.2 _ _ at_Lg7
    replace no_LF2 := no_LF2.le le11
    replace no_LT2 := no_LT2.le le11
    replace at_Lg6 := le11.2 _ _ at_Lg6
    replace lv_v18 := Keep.le lv_v18 le11
    replace hin := base_hin.mono hle
    clear hb1
    have hb1 : Fun.At _ g1 0 d p := ⟨Mem.of_get at1, hin⟩
    clear sl18
    clear hm2
    refine .mv rfl ?_
    refine .r0 rfl rfl (.fillR rfl sz_98_Cm rfl rfl rfl rfl (by assumption) (by first | rfl | exact Nat.le_of_ble_eq_true rfl | simp)) ?_
    rintro _ H13005 ⟨rfl, st13005, at13005⟩
    replace hle := hle.st st13005 (fun k hk => ⟨by omega, trivial⟩)
    replace lst2 := lst2.st st13005 (fun k hk ho => by simp only [out, and_true] at ho ⊢ <;> first | exact ho | exact ho.1 | exact ho.2 | exact ho.2.1 | exact ho.2.2 | exact ho.2.2.1 | exact ho.2.2.2 | omega)
    replace at1 := st13005.same _ _ ⟨(by first | assumption | omega), trivial⟩ at1
    replace at10005 := st13005.same _ _ ⟨(by first | assumption | omega), trivial⟩ at10005
    have ne_g33_g11 : NE g33 g11 := ⟨by first | assumption | omega⟩
    replace at_Lg33 := st13005.same _ _ ⟨ne_g33_g11.ne, trivial⟩ at_Lg33
    have ne_gLA2_g11 : NE gLA2 g11 := ⟨by first | assumption | omega⟩
    replace at_LA2 := st13005.same _ _ ⟨ne_gLA2_g11.ne, trivial⟩ at_LA2
    have ne_g7_g11 : NE g7 g11 := ⟨by first | assumption | omega⟩
    replace at_Lg7 := st13005.same _ _ ⟨ne_g7_g11.ne, trivial⟩ at_Lg7
    have ne_gLF2_g11 : NE gLF2 g11 := ⟨by first | assumption | omega⟩
    replace no_LF2 := no_LF2.st st13005 ⟨ne_gLF2_g11.ne, trivial⟩
    have ne_gLT2_g11 : NE gLT2 g11 := ⟨by first | assumption | omega⟩
    replace no_LT2 := no_LT2.st st13005 ⟨ne_gLT2_g11.ne, trivial⟩
    have ne_g6_g11 : NE g6 g11 := ⟨by first | assumption | omega⟩
    replace at_Lg6 := st13005.same _ _ ⟨ne_g6_g11.ne, trivial⟩ at_Lg6
    replace lv_v18 := Keep.st lv_v18 st13005 (fun k hb hk => ⟨(by omega), trivial⟩)
    replace v18 := bs_v18.keep lv_v18 (Nat.le_refl _)
    have lt_at13005 := GHeap.ltg at13005
    replace hin := base_hin.mono hle
    clear hb1
    have hb1 : Fun.At _ g1 0 d p := ⟨Mem.of_get at1, hin⟩
    have hin1 := v18.inn i (by omega)
    have hin2 := v18.inn j (by omega)
    refine .nil (hK21 _ _ (.seq (fun K22 hK22 => .region ?_)))
    refine .m rfl rfl rfl (.loadM ag_98_Ek rfl ⟨rfl, Mem.of_get at10005⟩) ?_
    refine .m rfl rfl rfl (.loadM ag_98_Ek rfl ⟨rfl, Mem.of_get at13005⟩) ?_
    refine .call rfl rfl rfl rfl @Try.call60 rfl (coneMaps_c (m := d.ckC i) (m' := d.ckC j) (by assumption) hin1 hin2 hI0 (d.ckCone hI0 (by omega)) (d.ckCone hI0 (by omega))) ?_
    rintro _ H52 ⟨le52, g52, rfl, at52, ge52⟩
    replace hle := hle.trans le52
    replace lst2 := lst2.le le52
    replace at1 := le52.2 _ _ at1
    replace at_Lg33 := le52.2 _ _ at_Lg33
    replace at_LA2 := le52.2 _ _ at_LA2
    replace at_Lg7 := le52.2 _ _ at_Lg7
    replace no_LF2 := no_LF2.le le52
    replace no_LT2 := no_LT2.le le52
    replace at_Lg6 := le52.2 _ _ at_Lg6
    replace at13005 := le52.2 _ _ at13005
    replace lv_v18 := Keep.le lv_v18 le52
    have lt_at52 := GHeap.ltg at52
    replace hin := base_hin.mono hle
    clear hb1
    have hb1 : Fun.At _ g1 0 d p := ⟨Mem.of_get at1, hin⟩
    clear hin1
    clear hin2
    refine .m rfl rfl rfl (.len sl_22_A rfl) (.mv rfl (.nil (hK22 _ _ ?_)))
    refine .block ?_
    refine .loopR (σ := Nat × Nat × Nat × Nat) [(1, some _), (2, some _), (4, some _), (6, some _), (7, some _), (8, some _), (9, some _), (10, some _), (36, some _), (37, some _), (38, some _), (43, some _), (44, some _), (45, some _), (52, some _), (53, some _)] (fun (k, gLA3, gLF3, gLT3) => [(54, some (.int .i64 (k : Int)))]) (fun (k, gLA3, gLF3, gLT3) H' => St [g33, gLA2, g7, gLF2, gLT2, g6] H52 H' ∧ H'.get g33 = some (.row (ints (d.ckT (d.ckL i j k))) 2 true) ∧ H'.get gLA3 = some (.row ((tcells (d.ckL i j k))) 108 true) ∧ PL gLA3 gLA2 H52.next ∧ H'.get g7 = some (.row ([.slice (some ⟨gLA3, 0, none⟩) (d.ckL i j k).length (d.ckL i j k).length]) 105 true) ∧ NO H' gLF3 (ints (colI (d.ckL i j k) 0)) 2 ((d.ckL i j k).length) ∧ PL gLF3 gLF2 H52.next ∧ NO H' gLT3 (ints (colI (d.ckL i j k) 1)) 2 ((d.ckL i j k).length) ∧ PL gLT3 gLT2 H52.next ∧ H'.get g6 = some (.row ([.int .i64 ((d.coneL d.t.obj.toNat).length : Int), .slice (nz (d.ckL i j k).length gLF3) (d.ckL i j k).length (d.ckL i j k).length, .slice (nz (d.ckL i j k).length gLT3) (d.ckL i j k).length (d.ckL i j k).length, .slice (some ⟨g33, 0, none⟩) (d.coneL d.t.obj.toNat).length (d.coneL d.t.obj.toNat).length, .slice none 0 0]) 31 true) ∧ g33 ≠ gLA3 ∧ g33 ≠ g7 ∧ g33 ≠ gLF3 ∧ g33 ≠ gLT3 ∧ g33 ≠ g6 ∧ gLA3 ≠ g7 ∧ gLA3 ≠ gLF3 ∧ gLA3 ≠ gLT3 ∧ gLA3 ≠ g6 ∧ g7 ≠ gLF3 ∧ g7 ≠ gLT3 ∧ g7 ≠ g6 ∧ gLF3 ≠ gLT3 ∧ gLF3 ≠ g6 ∧ gLT3 ≠ g6 ∧ k ≤ (d.coneMaps (d.ckC i) (d.ckC j)).length) (fun (k, gLA3, gLF3, gLT3) => (d.coneMaps (d.ckC i) (d.ckC j)).length - k) ((0, gLA2, gLF2, gLT2)) ⟨rfl, rfl, rfl, rfl, rfl, rfl, rfl, rfl, rfl, rfl, rfl, rfl, rfl, rfl, rfl, rfl, trivial⟩ ⟨rfl, trivial⟩ ?_ ?_
    ·
     refine ⟨.refl _ _, by first | assumption | exact at_Lg33 | simpa using at_Lg33, by first | assumption | exact at_LA2 | simpa using at_LA2, ⟨.inl rfl⟩, by first | assumption | exact at_Lg7 | simpa using at_Lg7, by first | assumption | exact NO.start (by omega) (by first | rfl | (simp; done) | omega) (by first | rfl | (simp; done)), ⟨.inl rfl⟩, by first | assumption | exact NO.start (by omega) (by first | rfl | (simp; done) | omega) (by first | rfl | (simp; done)), ⟨.inl rfl⟩, by first | assumption | exact at_Lg6 | simpa using at_Lg6, by omega, by omega, by omega, by omega, by omega, by omega, by omega, by omega, by omega, by omega, by omega, by omega, by omega, by omega, by omega, ?_⟩
     omega
    rintro ⟨k, gLA3, gLF3, gLT3⟩ HL3 ⟨lst3, at_Lg33, at_LA3, pl_LA3, at_Lg7, no_LF3, pl_LF3, no_LT3, pl_LT3, at_Lg6, ap3_0, ap3_1, ap3_2, ap3_3, ap3_4, ap3_5, ap3_6, ap3_7, ap3_8, ap3_9, ap3_10, ap3_11, ap3_12, ap3_13, ap3_14, hI⟩ KL3 hKL3
    refine .forget (fr' := [(54, some (.int .i64 (k : Int))), (1, some _), (2, some _), (4, some _), (6, some _), (7, some _), (8, some _), (9, some _), (10, some _), (36, some _), (37, some _), (38, some _), (43, some _), (44, some _), (45, some _), (52, some _), (53, some _)]) ⟨rfl, rfl, rfl, rfl, rfl, rfl, rfl, rfl, rfl, rfl, rfl, rfl, rfl, rfl, rfl, rfl, rfl, trivial⟩ ?_
    have ge_LA3 : H.next ≤ gLA3 := pl_LA3.ge (by omega) (by omega)
    have ge_LF3 : H.next ≤ gLF3 := pl_LF3.ge (by omega) (by omega)
    have ge_LT3 : H.next ≤ gLT3 := pl_LT3.ge (by omega) (by omega)
    have nx_HL3 := lst3.nx
    replace hle := hle.st lst3 (fun k hk => ⟨by omega, by omega, by omega, by omega, by omega, by omega, trivial⟩)
    replace lst2 := lst2.st lst3 (fun k hk ho => by simp only [out, and_true] at ho ⊢ <;> exact ⟨by first | exact ho | exact ho.1 | exact ho.2 | exact ho.2.1 | exact ho.2.2 | exact ho.2.2.1 | exact ho.2.2.2 | omega, by first | exact ho | exact ho.1 | exact ho.2 | exact ho.2.1 | exact ho.2.2 | exact ho.2.2.1 | exact ho.2.2.2 | exact pl_LA2.ne (by first | exact ho | exact ho.1 | exact ho.2 | exact ho.2.1 | exact ho.2.2 | exact ho.2.2.1 | exact ho.2.2.2 | exact pl_LA.ne (by first | exact ho | exact ho.1 | exact ho.2 | exact ho.2.1 | exact ho.2.2 | exact ho.2.2.1 | exact ho.2.2.2 | omega) (by omega) | omega) (by omega) | omega, by first | exact ho | exact ho.1 | exact ho.2 | exact ho.2.1 | exact ho.2.2 | exact ho.2.2.1 | exact ho.2.2.2 | omega, by first | exact ho | exact ho.1 | exact ho.2 | exact ho.2.1 | exact ho.2.2 | exact ho.2.2.1 | exact ho.2.2.2 | exact pl_LF2.ne (by first | exact ho | exact ho.1 | exact ho.2 | exact ho.2.1 | exact ho.2.2 | exact ho.2.2.1 | exact ho.2.2.2 | exact pl_LF.ne (by first | exact ho | exact ho.1 | exact ho.2 | exact ho.2.1 | exact ho.2.2 | exact ho.2.2.1 | exact ho.2.2.2 | omega) (by omega) | omega) (by omega) | omega, by first | exact ho | exact ho.1 | exact ho.2 | exact ho.2.1 | exact ho.2.2 | exact ho.2.2.1 | exact ho.2.2.2 | exact pl_LT2.ne (by first | exact ho | exact ho.1 | exact ho.2 | exact ho.2.1 | exact ho.2.2 | exact ho.2.2.1 | exact ho.2.2.2 | exact pl_LT.ne (by first | exact ho | exact ho.1 | exact ho.2 | exact ho.2.1 | exact ho.2.2 | exact ho.2.2.1 | exact ho.2.2.2 | omega) (by omega) | omega) (by omega) | omega, by first | exact ho | exact ho.1 | exact ho.2 | exact ho.2.1 | exact ho.2.2 | exact ho.2.2.1 | exact ho.2.2.2 | omega⟩)
    have ne_g1_gLA2 : NE g1 gLA2 := ⟨pl_LA2.ne ne_g1_gLA.ne (by omega)⟩
    have ne_g1_gLF2 : NE g1 gLF2 := ⟨pl_LF2.ne ne_g1_gLF.ne (by omega)⟩
    have ne_g1_gLT2 : NE g1 gLT2 := ⟨pl_LT2.ne ne_g1_gLT.ne (by omega)⟩
    replace at1 := lst3.same _ _ ⟨ne_g1_g33.ne, ne_g1_gLA2.ne, ne_g1_g7.ne, ne_g1_gLF2.ne, ne_g1_gLT2.ne, ne_g1_g6.ne, trivial⟩ at1
    replace at13005 := lst3.same _ _ ⟨(Ne.symm ne_g33_g11.ne), (Ne.symm ne_gLA2_g11.ne), (Ne.symm ne_g7_g11.ne), (Ne.symm ne_gLF2_g11.ne), (Ne.symm ne_gLT2_g11.ne), (Ne.symm ne_g6_g11.ne), trivial⟩ at13005
    replace at52 := lst3.same _ _ ⟨(by first | assumption | omega), (by first | assumption | omega), (by first | assumption | omega), (by first | assumption | omega), (by first | assumption | omega), (by first | assumption | omega), trivial⟩ at52
    replace lv_v18 := Keep.st lv_v18 lst3 (fun k hb hk => ⟨(by omega), (by first | exact pl_LA2.ne (by first | exact pl_LA.ne (by omega) (by omega) | omega) (by omega) | omega), (by omega), (by first | exact pl_LF2.ne (by first | exact pl_LF.ne (by omega) (by omega) | omega) (by omega) | omega), (by first | exact pl_LT2.ne (by first | exact pl_LT.ne (by omega) (by omega) | omega) (by omega) | omega), (by omega), trivial⟩)
    replace v18 := bs_v18.keep lv_v18 (Nat.le_refl _)
    have lt_at_Lg33 := GHeap.ltg at_Lg33
    have lt_at_Lg7 := GHeap.ltg at_Lg7
    have lt_no_LF3 := no_LF3.lt
    have lt_no_LT3 := no_LT3.lt
    have lt_at_Lg6 := GHeap.ltg at_Lg6
    replace hin := base_hin.mono hle
    clear hb1
    have hb1 : Fun.At _ g1 0 d p := ⟨Mem.of_get at1, hin⟩
    obtain ⟨-, ft1, -, -, -, -⟩ := hb1.get
    have hm2 := v18.mem j (by omega)
    have hin2 := v18.inn j (by omega)
    have mm13005 : MemN _ _ _ _ _ := ⟨rfl, Mem.of_get at13005⟩
    have i52 := Ints.of_get at52
    have hln := d.ckL_le hI0 hn8 (i := i) (j := j) (k := k) (by omega) (by omega) (by omega)
    have htl : (tcells (d.ckL i j k)).length = (d.ckL i j k).length * 3 := tcells_len Fun.ckL_three
    have hc0 : (colI (d.ckL i j k) 0).length = (d.ckL i j k).length := length_colI _ _
    have hc1 : (colI (d.ckL i j k) 1).length = (d.ckL i j k).length := length_colI _ _
    have htt : (d.ckT (d.ckL i j k)).length = d.ckN := d.length_ckT _
    have hE : d.ckL i j (k + 1) = d.ckL i j k ++ [d.ckP i j k] := Fun.ckL_snoc
    have hEl : (d.ckL i j (k + 1)).length = (d.ckL i j k).length + 1 := by rw [hE, List.length_append]; rfl
    have hE0 : colI (d.ckL i j (k + 1)) 0 = colI (d.ckL i j k) 0 ++ [(i : Int)] := by rw [hE]; unfold colI; rw [List.map_append]; rfl
    have hE1 : colI (d.ckL i j (k + 1)) 1 = colI (d.ckL i j k) 1 ++ [(j : Int)] := by rw [hE]; unfold colI; rw [List.map_append]; rfl
    refine .seq (fun K23 hK23 => .region (.m rfl rfl rfl (.cmp rfl rfl rfl) (.nil (hK23 _ _ (.seq (fun K24 hK24 => ?_))))))
    refine .cond rfl (fun h55 => ?_) (fun h55 => ?_)
    ·
     simp only [sps] at h55
     have hg := d.ckM_get (i := i) (j := j) (k := k) (show k < (d.ckM i j).length from (by omega : k < (d.coneMaps (d.ckC i) (d.ckC j)).length))
     simp only [Fun.ckM] at hg
     refine .skip ?_
     refine hK24 _ _ (.seq (fun K25 hK25 => ?_))
     refine .block ?_
     refine .seq (fun K26 hK26 => .region ?_)
     refine .m rfl rfl rfl (.idxN sl_22_A (by first | assumption | exact SlA.of_row at52 (by first | rfl | (simp; done) | (simp <;> omega))) rfl rfl (by omega)) ?_
     refine .m rfl rfl rfl (.loadI on_2_A (by first | assumption | exact Ints.of_get at52) rfl (by omega)) ?_
     refine .mv rfl (.nil (hK26 _ _ (.seq (fun K27 hK27 => .seq (fun K28 hK28 => .region (.mv rfl (.mv rfl (.m rfl rfl rfl (.cmp rfl rfl rfl) (.mv rfl ?_)))))))))
     refine .split (fun h61 => ?_) (fun h61 => ?_)
     ·
      simp only [sps] at h61
      refine .mg rfl rfl rfl rfl rfl (.fieldAddr fo_33_1_E rfl) (.mg rfl rfl rfl rfl rfl (.move rfl) ?_)
      refine .callQg rfl rfl rfl rfl rfl rfl @Try.call61 rfl (isIdentity_c) ?_
      refine .m rfl rfl rfl (.pickT rfl rfl) (.nil (hK28 _ _ ?_))
      refine .cond rfl (fun h65 => ?_) (fun h65 => ?_)
      ·
       simp only [sps] at h65
       have hij : i = j := by omega
       have hT : d.ckT (d.ckL i j (k + 1)) = (d.ckT (d.ckL i j k)).set i ((d.ckL i j k).length : Int) := by
         subst hij
         exact Fun.ckT_T (by omega) (show k < (d.ckM i i).length from (by omega : k < (d.coneMaps (d.ckC i) (d.ckC i)).length)) (by rw [← hg.2.2]; exact h65)
       refine .region (.m rfl rfl rfl (.fieldAddr fo_31_3_B rfl) ?_)
       refine .m rfl rfl rfl (.load on_22_B rfl (by first | assumption | exact Mem.of_get at_Lg6 3 _ rfl)) ?_
       refine .mv rfl ?_
       refine .m rfl rfl rfl (.load on_105_El rfl (by first | assumption | exact Mem.of_get at_Lg7 0 _ rfl)) ?_
       refine .m rfl rfl rfl (.len sl_105_El rfl) ?_
       refine .m rfl rfl rfl (.idxN sl_22_A (by first | assumption | exact SlA.of_row at_Lg33 (by first | rfl | (simp; done) | (simp <;> omega))) rfl rfl (by omega)) ?_
       refine .r0 rfl rfl (.storeI rfl sz_2_E rfl rfl (by assumption) (by first | omega | (simp <;> omega))) ?_
       rintro _ H18006 ⟨rfl, st18006, at18006⟩
       have nx_H18006 := st18006.nx
       replace hle := hle.st st18006 (fun k hk => ⟨by omega, trivial⟩)
       replace lst3 := lst3.st st18006 (fun k hk ho => by simp only [out, and_true] at ho ⊢ <;> first | exact ho | exact ho.1 | exact ho.2 | exact ho.2.1 | exact ho.2.2 | exact ho.2.2.1 | exact ho.2.2.2 | omega)
       replace at1 := st18006.same _ _ ⟨ne_g1_g33.ne, trivial⟩ at1
       replace at_LA3 := st18006.same _ _ ⟨(Ne.symm ap3_0), trivial⟩ at_LA3
       replace at_Lg7 := st18006.same _ _ ⟨(Ne.symm ap3_1), trivial⟩ at_Lg7
       replace no_LF3 := no_LF3.st st18006 ⟨(Ne.symm ap3_2), trivial⟩
       replace no_LT3 := no_LT3.st st18006 ⟨(Ne.symm ap3_3), trivial⟩
       replace at_Lg6 := st18006.same _ _ ⟨(Ne.symm ap3_4), trivial⟩ at_Lg6
       have lt_at18006 := GHeap.ltg at18006
       replace hin := base_hin.mono hle
       clear hb1 ft1
       have hb1 : Fun.At _ g1 0 d p := ⟨Mem.of_get at1, hin⟩
       clear hm2 hin2
       clear mm13005
       clear i52
       rw [Nat.zero_add] at at18006
       refine .nil (hK27 _ _ (.seq (fun K29 hK29 => .region ?_)))
       refine .m rfl rfl rfl (.load on_105_El rfl (by first | assumption | exact Mem.of_get at_Lg7 0 _ rfl)) ?_
       refine .mv rfl (.mv rfl (.mv rfl (.m rfl rfl rfl (.buildA bta_108_El rfl rfl rfl) ?_)))
       refine .r rfl rfl rfl (.litR rfl sl_105_El ze_108_El rfl rfl (by omega) (by omega) rfl rfl) ?_
       rintro _ H77 ⟨g77, rfl, le77, ge77, at77⟩
       replace hle := hle.trans le77
       replace lst3 := lst3.le le77
       replace at1 := le77.2 _ _ at1
       replace at_LA3 := le77.2 _ _ at_LA3
       replace at_Lg7 := le77.2 _ _ at_Lg7
       replace no_LF3 := no_LF3.le le77
       replace no_LT3 := no_LT3.le le77
       replace at_Lg6 := le77.2 _ _ at_Lg6
       replace at18006 := le77.2 _ _ at18006
       have lt_at77 := GHeap.ltg at77
       replace hin := base_hin.mono hle
       clear hb1
       have hb1 : Fun.At _ g1 0 d p := ⟨Mem.of_get at1, hin⟩
       refine .r rfl rfl rfl (.appendV rfl sl_105_El ze_108_El rfl by_108_Em sl_105_El rfl rfl (by assumption) (by assumption) (by first | omega | (simp <;> omega)) rfl rfl (by omega) (by omega)) ?_
       rintro _ H78 ⟨g78, rfl, st78, ge78, at78⟩
       replace hle := hle.st st78 (fun k hk => ⟨by omega, trivial⟩)
       replace lst3 := lst3.st st78 (fun k hk ho => by simp only [out, and_true] at ho ⊢ <;> first | exact ho | exact ho.1 | exact ho.2 | exact ho.2.1 | exact ho.2.2 | exact ho.2.2.1 | exact ho.2.2.2 | exact pl_LA3.ne (by first | exact ho | exact ho.1 | exact ho.2 | exact ho.2.1 | exact ho.2.2 | exact ho.2.2.1 | exact ho.2.2.2 | exact pl_LA2.ne (by first | exact ho | exact ho.1 | exact ho.2 | exact ho.2.1 | exact ho.2.2 | exact ho.2.2.1 | exact ho.2.2.2 | exact pl_LA.ne (by first | exact ho | exact ho.1 | exact ho.2 | exact ho.2.1 | exact ho.2.2 | exact ho.2.2.1 | exact ho.2.2.2 | omega) (by omega) | omega) (by omega) | omega) (by omega) | omega)
       have ne_g1_gLA3 : NE g1 gLA3 := ⟨pl_LA3.ne ne_g1_gLA2.ne (by omega)⟩
       replace at1 := st78.same _ _ ⟨ne_g1_gLA3.ne, trivial⟩ at1
       replace at_Lg7 := st78.same _ _ ⟨(Ne.symm ap3_5), trivial⟩ at_Lg7
       replace no_LF3 := no_LF3.st st78 ⟨(Ne.symm ap3_6), trivial⟩
       replace no_LT3 := no_LT3.st st78 ⟨(Ne.symm ap3_7), trivial⟩
       replace at_Lg6 := st78.same _ _ ⟨(Ne.symm ap3_8), trivial⟩ at_Lg6
       replace at18006 := st78.same _ _ ⟨ap3_0, trivial⟩ at18006
       have lt_at78 := GHeap.ltg at78
       replace hin := base_hin.mono hle
       clear hb1
       have hb1 : Fun.At _ g1 0 d p := ⟨Mem.of_get at1, hin⟩
       refine .r0 rfl rfl (.storeR rfl sz_105_Em rfl rfl rfl (by assumption) (by first | exact Nat.le_of_ble_eq_true rfl | (simp; done) | (simp <;> omega))) ?_
       rintro _ H19007 ⟨rfl, st19007, at19007⟩
       have nx_H19007 := st19007.nx
       replace hle := hle.st st19007 (fun k hk => ⟨by omega, trivial⟩)
       replace lst3 := lst3.st st19007 (fun k hk ho => by simp only [out, and_true] at ho ⊢ <;> first | exact ho | exact ho.1 | exact ho.2 | exact ho.2.1 | exact ho.2.2 | exact ho.2.2.1 | exact ho.2.2.2 | omega)
       replace at1 := st19007.same _ _ ⟨ne_g1_g7.ne, trivial⟩ at1
       replace no_LF3 := no_LF3.st st19007 ⟨(Ne.symm ap3_9), trivial⟩
       replace no_LT3 := no_LT3.st st19007 ⟨(Ne.symm ap3_10), trivial⟩
       replace at_Lg6 := st19007.same _ _ ⟨ne_g6_g7.ne, trivial⟩ at_Lg6
       replace at18006 := st19007.same _ _ ⟨ap3_1, trivial⟩ at18006
       replace at78 := st19007.same _ _ ⟨(by first | assumption | omega), trivial⟩ at78
       have lt_at19007 := GHeap.ltg at19007
       replace hin := base_hin.mono hle
       clear hb1
       have hb1 : Fun.At _ g1 0 d p := ⟨Mem.of_get at1, hin⟩
       try simp only [Nat.zero_add, List.set_cons_succ, List.set_cons_zero] at at19007
       refine .nil (hK29 _ _ (.seq (fun K30 hK30 => .region (.m rfl rfl rfl (.fieldAddr fo_31_1_B rfl) ?_))))
       refine .m rfl rfl rfl (.load on_22_B rfl (by first | assumption | exact Mem.of_get at_Lg6 1 _ rfl)) ?_
       refine .mv rfl ?_
       refine .r rfl rfl rfl (.litR rfl sl_22_A ze_2_E rfl rfl (by omega) (by omega) rfl rfl) ?_
       rintro _ H82 ⟨g82, rfl, le82, ge82, at82⟩
       replace hle := hle.trans le82
       replace lst3 := lst3.le le82
       replace at1 := le82.2 _ _ at1
       replace no_LF3 := no_LF3.le le82
       replace no_LT3 := no_LT3.le le82
       replace at_Lg6 := le82.2 _ _ at_Lg6
       replace at18006 := le82.2 _ _ at18006
       replace at78 := le82.2 _ _ at78
       replace at19007 := le82.2 _ _ at19007
       have lt_at82 := GHeap.ltg at82
       replace hin := base_hin.mono hle
       clear hb1
       have hb1 : Fun.At _ g1 0 d p := ⟨Mem.of_get at1, hin⟩
       refine .r rfl rfl rfl (.appendNOI rfl sl_22_A ze_2_E rfl by_2_E sl_22_A rfl rfl no_LF3 (by assumption) (by first | omega | (simp <;> omega)) (by omega) (by omega)) ?_
       rintro _ H83 ⟨g83, rfl, st83, ge83, at83⟩
       replace hle := hle.st st83 (fun k hk => ⟨by omega, trivial⟩)
       replace lst3 := lst3.st st83 (fun k hk ho => by simp only [out, and_true] at ho ⊢ <;> first | exact ho | exact ho.1 | exact ho.2 | exact ho.2.1 | exact ho.2.2 | exact ho.2.2.1 | exact ho.2.2.2 | exact pl_LF3.ne (by first | exact ho | exact ho.1 | exact ho.2 | exact ho.2.1 | exact ho.2.2 | exact ho.2.2.1 | exact ho.2.2.2 | exact pl_LF2.ne (by first | exact ho | exact ho.1 | exact ho.2 | exact ho.2.1 | exact ho.2.2 | exact ho.2.2.1 | exact ho.2.2.2 | exact pl_LF.ne (by first | exact ho | exact ho.1 | exact ho.2 | exact ho.2.1 | exact ho.2.2 | exact ho.2.2.1 | exact ho.2.2.2 | omega) (by omega) | omega) (by omega) | omega) (by omega) | omega)
       have ne_g1_gLF3 : NE g1 gLF3 := ⟨pl_LF3.ne ne_g1_gLF2.ne (by omega)⟩
       replace at1 := st83.same _ _ ⟨ne_g1_gLF3.ne, trivial⟩ at1
       replace no_LT3 := no_LT3.st st83 ⟨(Ne.symm ap3_12), trivial⟩
       replace at_Lg6 := st83.same _ _ ⟨(Ne.symm ap3_13), trivial⟩ at_Lg6
       replace at18006 := st83.same _ _ ⟨ap3_2, trivial⟩ at18006
       replace at78 := st83.same _ _ ⟨(by first | assumption | omega), trivial⟩ at78
       replace at19007 := st83.same _ _ ⟨ap3_9, trivial⟩ at19007
       have lt_at83 := GHeap.ltg at83
       replace hin := base_hin.mono hle
       clear hb1
       have hb1 : Fun.At _ g1 0 d p := ⟨Mem.of_get at1, hin⟩
       refine .m rfl rfl rfl (.fieldAddr fo_31_1_B rfl) ?_
       refine .r0 rfl rfl (.storeR rfl sz_22_E rfl rfl rfl (by assumption) (by first | exact Nat.le_of_ble_eq_true rfl | (simp; done) | (simp <;> omega))) ?_
       rintro _ H20006 ⟨rfl, st20006, at20006⟩
       have nx_H20006 := st20006.nx
       replace hle := hle.st st20006 (fun k hk => ⟨by omega, trivial⟩)
       replace lst3 := lst3.st st20006 (fun k hk ho => by simp only [out, and_true] at ho ⊢ <;> first | exact ho | exact ho.1 | exact ho.2 | exact ho.2.1 | exact ho.2.2 | exact ho.2.2.1 | exact ho.2.2.2 | omega)
       replace at1 := st20006.same _ _ ⟨ne_g1_g6.ne, trivial⟩ at1
       replace no_LT3 := no_LT3.st st20006 ⟨ap3_14, trivial⟩
       replace at18006 := st20006.same _ _ ⟨ap3_4, trivial⟩ at18006
       have ne_g78_g6 : NE g78 g6 := ⟨by first | assumption | omega⟩
       replace at78 := st20006.same _ _ ⟨ne_g78_g6.ne, trivial⟩ at78
       replace at19007 := st20006.same _ _ ⟨ap3_11, trivial⟩ at19007
       have ne_g83_g6 : NE g83 g6 := ⟨by first | assumption | omega⟩
       replace at83 := st20006.same _ _ ⟨ne_g83_g6.ne, trivial⟩ at83
       have lt_at20006 := GHeap.ltg at20006
       replace hin := base_hin.mono hle
       clear hb1
       have hb1 : Fun.At _ g1 0 d p := ⟨Mem.of_get at1, hin⟩
       try simp only [Nat.zero_add, List.set_cons_succ, List.set_cons_zero] at at20006
       refine .nil (hK30 _ _ (.region (.m rfl rfl rfl (.fieldAddr fo_31_2_B rfl) ?_)))
       refine .m rfl rfl rfl (.load on_22_B rfl (by first | assumption | exact Mem.of_get at20006 2 _ rfl)) ?_
       refine .mv rfl ?_
       refine .r rfl rfl rfl (.litR rfl sl_22_A ze_2_E rfl rfl (by omega) (by omega) rfl rfl) ?_
       rintro _ H88 ⟨g88, rfl, le88, ge88, at88⟩
       replace hle := hle.trans le88
       replace lst3 := lst3.le le88
       replace at1 := le88.2 _ _ at1
       replace no_LT3 := no_LT3.le le88
       replace at18006 := le88.2 _ _ at18006
       replace at78 := le88.2 _ _ at78
       replace at19007 := le88.2 _ _ at19007
       replace at83 := le88.2 _ _ at83
       replace at20006 := le88.2 _ _ at20006
       have lt_at88 := GHeap.ltg at88
       replace hin := base_hin.mono hle
       clear hb1
       have hb1 : Fun.At _ g1 0 d p := ⟨Mem.of_get at1, hin⟩
       refine .r rfl rfl rfl (.appendNOI rfl sl_22_A ze_2_E rfl by_2_E sl_22_A rfl rfl no_LT3 (by assumption) (by first | omega | (simp <;> omega)) (by omega) (by omega)) ?_
       rintro _ H89 ⟨g89, rfl, st89, ge89, at89⟩
       replace hle := hle.st st89 (fun k hk => ⟨by omega, trivial⟩)
       replace lst3 := lst3.st st89 (fun k hk ho => by simp only [out, and_true] at ho ⊢ <;> first | exact ho | exact ho.1 | exact ho.2 | exact ho.2.1 | exact ho.2.2 | exact ho.2.2.1 | exact ho.2.2.2 | exact pl_LT3.ne (by first | exact ho | exact ho.1 | exact ho.2 | exact ho.2.1 | exact ho.2.2 | exact ho.2.2.1 | exact ho.2.2.2 | exact pl_LT2.ne (by first | exact ho | exact ho.1 | exact ho.2 | exact ho.2.1 | exact ho.2.2 | exact ho.2.2.1 | exact ho.2.2.2 | exact pl_LT.ne (by first | exact ho | exact ho.1 | exact ho.2 | exact ho.2.1 | exact ho.2.2 | exact ho.2.2.1 | exact ho.2.2.2 | omega) (by omega) | omega) (by omega) | omega) (by omega) | omega)
       have ne_g1_gLT3 : NE g1 gLT3 := ⟨pl_LT3.ne ne_g1_gLT2.ne (by omega)⟩
       replace at1 := st89.same _ _ ⟨ne_g1_gLT3.ne, trivial⟩ at1
       replace at18006 := st89.same _ _ ⟨ap3_3, trivial⟩ at18006
       replace at78 := st89.same _ _ ⟨(by first | assumption | omega), trivial⟩ at78
       replace at19007 := st89.same _ _ ⟨ap3_10, trivial⟩ at19007
       replace at83 := st89.same _ _ ⟨(by first | assumption | omega), trivial⟩ at83
       replace at20006 := st89.same _ _ ⟨(Ne.symm ap3_14), trivial⟩ at20006
       replace hin := base_hin.mono hle
       clear hb1
       have hb1 : Fun.At _ g1 0 d p := ⟨Mem.of_get at1, hin⟩
       refine .m rfl rfl rfl (.fieldAddr fo_31_2_B rfl) ?_
       refine .r0 rfl rfl (.storeR rfl sz_22_E rfl rfl rfl (by assumption) (by first | exact Nat.le_of_ble_eq_true rfl | (simp; done) | (simp <;> omega))) ?_
       rintro _ H21006 ⟨rfl, st21006, at21006⟩
       replace hle := hle.st st21006 (fun k hk => ⟨by omega, trivial⟩)
       replace lst3 := lst3.st st21006 (fun k hk ho => by simp only [out, and_true] at ho ⊢ <;> first | exact ho | exact ho.1 | exact ho.2 | exact ho.2.1 | exact ho.2.2 | exact ho.2.2.1 | exact ho.2.2.2 | omega)
       replace at1 := st21006.same _ _ ⟨ne_g1_g6.ne, trivial⟩ at1
       replace at18006 := st21006.same _ _ ⟨ap3_4, trivial⟩ at18006
       replace at78 := st21006.same _ _ ⟨ne_g78_g6.ne, trivial⟩ at78
       replace at19007 := st21006.same _ _ ⟨ap3_11, trivial⟩ at19007
       replace at83 := st21006.same _ _ ⟨ne_g83_g6.ne, trivial⟩ at83
       replace at89 := st21006.same _ _ ⟨(by first | assumption | omega), trivial⟩ at89
       replace hin := base_hin.mono hle
       clear hb1
       have hb1 : Fun.At _ g1 0 d p := ⟨Mem.of_get at1, hin⟩
       try simp only [Nat.zero_add, List.set_cons_succ, List.set_cons_zero] at at21006
       refine .nil (hK25 _ _ (.region ?_))
       refine .m rfl rfl rfl (.add rfl rfl rfl (by omega) (by omega)) ?_
       refine .mv rfl (.nil ?_)
       refine hKL3 ((k + 1, g78, g83, g89)) _ _ ?_ ?_ ⟨rfl, rfl, rfl, rfl, rfl, rfl, rfl, rfl, rfl, rfl, rfl, rfl, rfl, rfl, rfl, rfl, rfl, trivial⟩
       ·
        refine ⟨lst3, by first | assumption | (rw [hEl]; assumption) | (rw [hE0]; assumption) | (rw [hE1]; assumption) | (rw [hT]; assumption) | (rw [hE, tcells_snoc]; assumption), by first | assumption | (rw [hEl]; assumption) | (rw [hE0]; assumption) | (rw [hE1]; assumption) | (rw [hT]; assumption) | (rw [hE, tcells_snoc]; assumption), by first | assumption | exact ⟨.inr (by omega)⟩ | exact ⟨.inl rfl⟩, by first | assumption | (rw [hEl]; assumption) | (rw [hE0]; assumption) | (rw [hE1]; assumption) | (rw [hT]; assumption) | (rw [hE, tcells_snoc]; assumption), by first | (first | assumption | (rw [hEl]; assumption) | (rw [hE0]; assumption) | (rw [hE1]; assumption) | (rw [hT]; assumption) | (rw [hE, tcells_snoc]; assumption)) | exact NO.of (by first | assumption | (rw [hEl]; assumption) | (rw [hE0]; assumption) | (rw [hE1]; assumption) | (rw [hT]; assumption) | (rw [hE, tcells_snoc]; assumption)) (by omega), by first | assumption | exact ⟨.inr (by omega)⟩ | exact ⟨.inl rfl⟩, by first | (first | assumption | (rw [hEl]; assumption) | (rw [hE0]; assumption) | (rw [hE1]; assumption) | (rw [hT]; assumption) | (rw [hE, tcells_snoc]; assumption)) | exact NO.of (by first | assumption | (rw [hEl]; assumption) | (rw [hE0]; assumption) | (rw [hE1]; assumption) | (rw [hT]; assumption) | (rw [hE, tcells_snoc]; assumption)) (by omega), by first | assumption | exact ⟨.inr (by omega)⟩ | exact ⟨.inl rfl⟩, by first | assumption | (rw [hEl]; assumption) | (rw [hE0]; assumption) | (rw [hE1]; assumption) | (rw [hT]; assumption) | (rw [hE, tcells_snoc]; assumption), by first | assumption | omega, by first | assumption | omega, by first | assumption | omega, by first | assumption | omega, by first | assumption | omega, by first | assumption | omega, by first | assumption | omega, by first | assumption | omega, by first | assumption | omega, by first | assumption | omega, by first | assumption | omega, by first | assumption | omega, by first | assumption | omega, by first | assumption | omega, by first | assumption | omega, ?_⟩
        omega
       (dsimp only; omega)
      simp only [sps] at h65
      have hT : d.ckT (d.ckL i j (k + 1)) = d.ckT (d.ckL i j k) := Fun.ckT_F (fun hh => h65 (by rw [hg.2.2]; exact hh.2))
      refine .skip ?_
      refine hK27 _ _ (.seq (fun K31 hK31 => .region ?_))
      refine .m rfl rfl rfl (.load on_105_El rfl (by first | assumption | exact Mem.of_get at_Lg7 0 _ rfl)) ?_
      refine .mv rfl (.mv rfl (.mv rfl (.m rfl rfl rfl (.buildA bta_108_El rfl rfl rfl) ?_)))
      refine .r rfl rfl rfl (.litR rfl sl_105_El ze_108_El rfl rfl (by omega) (by omega) rfl rfl) ?_
      rintro _ H77x2 ⟨g77x2, rfl, le77x2, ge77x2, at77x2⟩
      replace hle := hle.trans le77x2
      replace lst3 := lst3.le le77x2
      replace at1 := le77x2.2 _ _ at1
      replace at_Lg33 := le77x2.2 _ _ at_Lg33
      replace at_LA3 := le77x2.2 _ _ at_LA3
      replace at_Lg7 := le77x2.2 _ _ at_Lg7
      replace no_LF3 := no_LF3.le le77x2
      replace no_LT3 := no_LT3.le le77x2
      replace at_Lg6 := le77x2.2 _ _ at_Lg6
      have lt_at77x2 := GHeap.ltg at77x2
      replace hin := base_hin.mono hle
      have hb1 : Fun.At _ g1 0 d p := ⟨Mem.of_get at1, hin⟩
      refine .r rfl rfl rfl (.appendV rfl sl_105_El ze_108_El rfl by_108_Em sl_105_El rfl rfl (by assumption) (by assumption) (by first | omega | (simp <;> omega)) rfl rfl (by omega) (by omega)) ?_
      rintro _ H78x2 ⟨g78x2, rfl, st78x2, ge78x2, at78x2⟩
      replace hle := hle.st st78x2 (fun k hk => ⟨by omega, trivial⟩)
      replace lst3 := lst3.st st78x2 (fun k hk ho => by simp only [out, and_true] at ho ⊢ <;> first | exact ho | exact ho.1 | exact ho.2 | exact ho.2.1 | exact ho.2.2 | exact ho.2.2.1 | exact ho.2.2.2 | exact pl_LA3.ne (by first | exact ho | exact ho.1 | exact ho.2 | exact ho.2.1 | exact ho.2.2 | exact ho.2.2.1 | exact ho.2.2.2 | exact pl_LA2.ne (by first | exact ho | exact ho.1 | exact ho.2 | exact ho.2.1 | exact ho.2.2 | exact ho.2.2.1 | exact ho.2.2.2 | exact pl_LA.ne (by first | exact ho | exact ho.1 | exact ho.2 | exact ho.2.1 | exact ho.2.2 | exact ho.2.2.1 | exact ho.2.2.2 | omega) (by omega) | omega) (by omega) | omega) (by omega) | omega)
      have ne_g1_gLA3 : NE g1 gLA3 := ⟨pl_LA3.ne ne_g1_gLA2.ne (by omega)⟩
      replace at1 := st78x2.same _ _ ⟨ne_g1_gLA3.ne, trivial⟩ at1
      replace at_Lg33 := st78x2.same _ _ ⟨ap3_0, trivial⟩ at_Lg33
      replace at_Lg7 := st78x2.same _ _ ⟨(Ne.symm ap3_5), trivial⟩ at_Lg7
      replace no_LF3 := no_LF3.st st78x2 ⟨(Ne.symm ap3_6), trivial⟩
      replace no_LT3 := no_LT3.st st78x2 ⟨(Ne.symm ap3_7), trivial⟩
      replace at_Lg6 := st78x2.same _ _ ⟨(Ne.symm ap3_8), trivial⟩ at_Lg6
      have lt_at78x2 := GHeap.ltg at78x2
      replace hin := base_hin.mono hle
      clear hb1
      have hb1 : Fun.At _ g1 0 d p := ⟨Mem.of_get at1, hin⟩
      refine .r0 rfl rfl (.storeR rfl sz_105_Em rfl rfl rfl (by assumption) (by first | exact Nat.le_of_ble_eq_true rfl | (simp; done) | (simp <;> omega))) ?_
      rintro _ H19007x2 ⟨rfl, st19007x2, at19007x2⟩
      have nx_H19007x2 := st19007x2.nx
      replace hle := hle.st st19007x2 (fun k hk => ⟨by omega, trivial⟩)
      replace lst3 := lst3.st st19007x2 (fun k hk ho => by simp only [out, and_true] at ho ⊢ <;> first | exact ho | exact ho.1 | exact ho.2 | exact ho.2.1 | exact ho.2.2 | exact ho.2.2.1 | exact ho.2.2.2 | omega)
      replace at1 := st19007x2.same _ _ ⟨ne_g1_g7.ne, trivial⟩ at1
      replace at_Lg33 := st19007x2.same _ _ ⟨ap3_1, trivial⟩ at_Lg33
      replace no_LF3 := no_LF3.st st19007x2 ⟨(Ne.symm ap3_9), trivial⟩
      replace no_LT3 := no_LT3.st st19007x2 ⟨(Ne.symm ap3_10), trivial⟩
      replace at_Lg6 := st19007x2.same _ _ ⟨ne_g6_g7.ne, trivial⟩ at_Lg6
      replace at78x2 := st19007x2.same _ _ ⟨(by first | assumption | omega), trivial⟩ at78x2
      have lt_at19007x2 := GHeap.ltg at19007x2
      replace hin := base_hin.mono hle
      clear hb1
      have hb1 : Fun.At _ g1 0 d p := ⟨Mem.of_get at1, hin⟩
      try simp only [Nat.zero_add, List.set_cons_succ, List.set_cons_zero] at at19007x2
      refine .nil (hK31 _ _ (.seq (fun K32 hK32 => .region (.m rfl rfl rfl (.fieldAddr fo_31_1_B rfl) ?_))))
      refine .m rfl rfl rfl (.load on_22_B rfl (by first | assumption | exact Mem.of_get at_Lg6 1 _ rfl)) ?_
      refine .mv rfl ?_
      refine .r rfl rfl rfl (.litR rfl sl_22_A ze_2_E rfl rfl (by omega) (by omega) rfl rfl) ?_
      rintro _ H82x2 ⟨g82x2, rfl, le82x2, ge82x2, at82x2⟩
      replace hle := hle.trans le82x2
      replace lst3 := lst3.le le82x2
      replace at1 := le82x2.2 _ _ at1
      replace at_Lg33 := le82x2.2 _ _ at_Lg33
      replace no_LF3 := no_LF3.le le82x2
      replace no_LT3 := no_LT3.le le82x2
      replace at_Lg6 := le82x2.2 _ _ at_Lg6
      replace at78x2 := le82x2.2 _ _ at78x2
      replace at19007x2 := le82x2.2 _ _ at19007x2
      have lt_at82x2 := GHeap.ltg at82x2
      replace hin := base_hin.mono hle
      clear hb1
      have hb1 : Fun.At _ g1 0 d p := ⟨Mem.of_get at1, hin⟩
      refine .r rfl rfl rfl (.appendNOI rfl sl_22_A ze_2_E rfl by_2_E sl_22_A rfl rfl no_LF3 (by assumption) (by first | omega | (simp <;> omega)) (by omega) (by omega)) ?_
      rintro _ H83x2 ⟨g83x2, rfl, st83x2, ge83x2, at83x2⟩
      replace hle := hle.st st83x2 (fun k hk => ⟨by omega, trivial⟩)
      replace lst3 := lst3.st st83x2 (fun k hk ho => by simp only [out, and_true] at ho ⊢ <;> first | exact ho | exact ho.1 | exact ho.2 | exact ho.2.1 | exact ho.2.2 | exact ho.2.2.1 | exact ho.2.2.2 | exact pl_LF3.ne (by first | exact ho | exact ho.1 | exact ho.2 | exact ho.2.1 | exact ho.2.2 | exact ho.2.2.1 | exact ho.2.2.2 | exact pl_LF2.ne (by first | exact ho | exact ho.1 | exact ho.2 | exact ho.2.1 | exact ho.2.2 | exact ho.2.2.1 | exact ho.2.2.2 | exact pl_LF.ne (by first | exact ho | exact ho.1 | exact ho.2 | exact ho.2.1 | exact ho.2.2 | exact ho.2.2.1 | exact ho.2.2.2 | omega) (by omega) | omega) (by omega) | omega) (by omega) | omega)
      have ne_g1_gLF3 : NE g1 gLF3 := ⟨pl_LF3.ne ne_g1_gLF2.ne (by omega)⟩
      replace at1 := st83x2.same _ _ ⟨ne_g1_gLF3.ne, trivial⟩ at1
      replace at_Lg33 := st83x2.same _ _ ⟨ap3_2, trivial⟩ at_Lg33
      replace no_LT3 := no_LT3.st st83x2 ⟨(Ne.symm ap3_12), trivial⟩
      replace at_Lg6 := st83x2.same _ _ ⟨(Ne.symm ap3_13), trivial⟩ at_Lg6
      replace at78x2 := st83x2.same _ _ ⟨(by first | assumption | omega), trivial⟩ at78x2
      replace at19007x2 := st83x2.same _ _ ⟨ap3_9, trivial⟩ at19007x2
      have lt_at83x2 := GHeap.ltg at83x2
      replace hin := base_hin.mono hle
      clear hb1
      have hb1 : Fun.At _ g1 0 d p := ⟨Mem.of_get at1, hin⟩
      refine .m rfl rfl rfl (.fieldAddr fo_31_1_B rfl) ?_
      refine .r0 rfl rfl (.storeR rfl sz_22_E rfl rfl rfl (by assumption) (by first | exact Nat.le_of_ble_eq_true rfl | (simp; done) | (simp <;> omega))) ?_
      rintro _ H20006x2 ⟨rfl, st20006x2, at20006x2⟩
      have nx_H20006x2 := st20006x2.nx
      replace hle := hle.st st20006x2 (fun k hk => ⟨by omega, trivial⟩)
      replace lst3 := lst3.st st20006x2 (fun k hk ho => by simp only [out, and_true] at ho ⊢ <;> first | exact ho | exact ho.1 | exact ho.2 | exact ho.2.1 | exact ho.2.2 | exact ho.2.2.1 | exact ho.2.2.2 | omega)
      replace at1 := st20006x2.same _ _ ⟨ne_g1_g6.ne, trivial⟩ at1
      replace at_Lg33 := st20006x2.same _ _ ⟨ap3_4, trivial⟩ at_Lg33
      replace no_LT3 := no_LT3.st st20006x2 ⟨ap3_14, trivial⟩
      have ne_g78x2_g6 : NE g78x2 g6 := ⟨by first | assumption | omega⟩
      replace at78x2 := st20006x2.same _ _ ⟨ne_g78x2_g6.ne, trivial⟩ at78x2
      replace at19007x2 := st20006x2.same _ _ ⟨ap3_11, trivial⟩ at19007x2
      have ne_g83x2_g6 : NE g83x2 g6 := ⟨by first | assumption | omega⟩
      replace at83x2 := st20006x2.same _ _ ⟨ne_g83x2_g6.ne, trivial⟩ at83x2
      have lt_at20006x2 := GHeap.ltg at20006x2
      replace hin := base_hin.mono hle
      clear hb1
      have hb1 : Fun.At _ g1 0 d p := ⟨Mem.of_get at1, hin⟩
      try simp only [Nat.zero_add, List.set_cons_succ, List.set_cons_zero] at at20006x2
      refine .nil (hK32 _ _ (.region (.m rfl rfl rfl (.fieldAddr fo_31_2_B rfl) ?_)))
      refine .m rfl rfl rfl (.load on_22_B rfl (by first | assumption | exact Mem.of_get at20006x2 2 _ rfl)) ?_
      refine .mv rfl ?_
      refine .r rfl rfl rfl (.litR rfl sl_22_A ze_2_E rfl rfl (by omega) (by omega) rfl rfl) ?_
      rintro _ H88x2 ⟨g88x2, rfl, le88x2, ge88x2, at88x2⟩
      replace hle := hle.trans le88x2
      replace lst3 := lst3.le le88x2
      replace at1 := le88x2.2 _ _ at1
      replace at_Lg33 := le88x2.2 _ _ at_Lg33
      replace no_LT3 := no_LT3.le le88x2
      replace at78x2 := le88x2.2 _ _ at78x2
      replace at19007x2 := le88x2.2 _ _ at19007x2
      replace at83x2 := le88x2.2 _ _ at83x2
      replace at20006x2 := le88x2.2 _ _ at20006x2
      have lt_at88x2 := GHeap.ltg at88x2
      replace hin := base_hin.mono hle
      clear hb1
      have hb1 : Fun.At _ g1 0 d p := ⟨Mem.of_get at1, hin⟩
      refine .r rfl rfl rfl (.appendNOI rfl sl_22_A ze_2_E rfl by_2_E sl_22_A rfl rfl no_LT3 (by assumption) (by first | omega | (simp <;> omega)) (by omega) (by omega)) ?_
      rintro _ H89x2 ⟨g89x2, rfl, st89x2, ge89x2, at89x2⟩
      replace hle := hle.st st89x2 (fun k hk => ⟨by omega, trivial⟩)
      replace lst3 := lst3.st st89x2 (fun k hk ho => by simp only [out, and_true] at ho ⊢ <;> first | exact ho | exact ho.1 | exact ho.2 | exact ho.2.1 | exact ho.2.2 | exact ho.2.2.1 | exact ho.2.2.2 | exact pl_LT3.ne (by first | exact ho | exact ho.1 | exact ho.2 | exact ho.2.1 | exact ho.2.2 | exact ho.2.2.1 | exact ho.2.2.2 | exact pl_LT2.ne (by first | exact ho | exact ho.1 | exact ho.2 | exact ho.2.1 | exact ho.2.2 | exact ho.2.2.1 | exact ho.2.2.2 | exact pl_LT.ne (by first | exact ho | exact ho.1 | exact ho.2 | exact ho.2.1 | exact ho.2.2 | exact ho.2.2.1 | exact ho.2.2.2 | omega) (by omega) | omega) (by omega) | omega) (by omega) | omega)
      have ne_g1_gLT3 : NE g1 gLT3 := ⟨pl_LT3.ne ne_g1_gLT2.ne (by omega)⟩
      replace at1 := st89x2.same _ _ ⟨ne_g1_gLT3.ne, trivial⟩ at1
      replace at_Lg33 := st89x2.same _ _ ⟨ap3_3, trivial⟩ at_Lg33
      replace at78x2 := st89x2.same _ _ ⟨(by first | assumption | omega), trivial⟩ at78x2
      replace at19007x2 := st89x2.same _ _ ⟨ap3_10, trivial⟩ at19007x2
      replace at83x2 := st89x2.same _ _ ⟨(by first | assumption | omega), trivial⟩ at83x2
      replace at20006x2 := st89x2.same _ _ ⟨(Ne.symm ap3_14), trivial⟩ at20006x2
      replace hin := base_hin.mono hle
      clear hb1
      have hb1 : Fun.At _ g1 0 d p := ⟨Mem.of_get at1, hin⟩
      refine .m rfl rfl rfl (.fieldAddr fo_31_2_B rfl) ?_
      refine .r0 rfl rfl (.storeR rfl sz_22_E rfl rfl rfl (by assumption) (by first | exact Nat.le_of_ble_eq_true rfl | (simp; done) | (simp <;> omega))) ?_
      rintro _ H21006x2 ⟨rfl, st21006x2, at21006x2⟩
      replace hle := hle.st st21006x2 (fun k hk => ⟨by omega, trivial⟩)
      replace lst3 := lst3.st st21006x2 (fun k hk ho => by simp only [out, and_true] at ho ⊢ <;> first | exact ho | exact ho.1 | exact ho.2 | exact ho.2.1 | exact ho.2.2 | exact ho.2.2.1 | exact ho.2.2.2 | omega)
      replace at1 := st21006x2.same _ _ ⟨ne_g1_g6.ne, trivial⟩ at1
      replace at_Lg33 := st21006x2.same _ _ ⟨ap3_4, trivial⟩ at_Lg33
      replace at78x2 := st21006x2.same _ _ ⟨ne_g78x2_g6.ne, trivial⟩ at78x2
      replace at19007x2 := st21006x2.same _ _ ⟨ap3_11, trivial⟩ at19007x2
      replace at83x2 := st21006x2.same _ _ ⟨ne_g83x2_g6.ne, trivial⟩ at83x2
      replace at89x2 := st21006x2.same _ _ ⟨(by first | assumption | omega), trivial⟩ at89x2
      replace hin := base_hin.mono hle
      clear hb1
      have hb1 : Fun.At _ g1 0 d p := ⟨Mem.of_get at1, hin⟩
      try simp only [Nat.zero_add, List.set_cons_succ, List.set_cons_zero] at at21006x2
      refine .nil (hK25 _ _ (.region ?_))
      refine .m rfl rfl rfl (.add rfl rfl rfl (by omega) (by omega)) ?_
      refine .mv rfl (.nil ?_)
      refine hKL3 ((k + 1, g78x2, g83x2, g89x2)) _ _ ?_ ?_ ⟨rfl, rfl, rfl, rfl, rfl, rfl, rfl, rfl, rfl, rfl, rfl, rfl, rfl, rfl, rfl, rfl, rfl, trivial⟩
      ·
       refine ⟨lst3, by first | assumption | (rw [hEl]; assumption) | (rw [hE0]; assumption) | (rw [hE1]; assumption) | (rw [hT]; assumption) | (rw [hE, tcells_snoc]; assumption), by first | assumption | (rw [hEl]; assumption) | (rw [hE0]; assumption) | (rw [hE1]; assumption) | (rw [hT]; assumption) | (rw [hE, tcells_snoc]; assumption), by first | assumption | exact ⟨.inr (by omega)⟩ | exact ⟨.inl rfl⟩, by first | assumption | (rw [hEl]; assumption) | (rw [hE0]; assumption) | (rw [hE1]; assumption) | (rw [hT]; assumption) | (rw [hE, tcells_snoc]; assumption), by first | (first | assumption | (rw [hEl]; assumption) | (rw [hE0]; assumption) | (rw [hE1]; assumption) | (rw [hT]; assumption) | (rw [hE, tcells_snoc]; assumption)) | exact NO.of (by first | assumption | (rw [hEl]; assumption) | (rw [hE0]; assumption) | (rw [hE1]; assumption) | (rw [hT]; assumption) | (rw [hE, tcells_snoc]; assumption)) (by omega), by first | assumption | exact ⟨.inr (by omega)⟩ | exact ⟨.inl rfl⟩, by first | (first | assumption | (rw [hEl]; assumption) | (rw [hE0]; assumption) | (rw [hE1]; assumption) | (rw [hT]; assumption) | (rw [hE, tcells_snoc]; assumption)) | exact NO.of (by first | assumption | (rw [hEl]; assumption) | (rw [hE0]; assumption) | (rw [hE1]; assumption) | (rw [hT]; assumption) | (rw [hE, tcells_snoc]; assumption)) (by omega), by first | assumption | exact ⟨.inr (by omega)⟩ | exact ⟨.inl rfl⟩, by first | assumption | (rw [hEl]; assumption) | (rw [hE0]; assumption) | (rw [hE1]; assumption) | (rw [hT]; assumption) | (rw [hE, tcells_snoc]; assumption), by first | assumption | omega, by first | assumption | omega, by first | assumption | omega, by first | assumption | omega, by first | assumption | omega, by first | assumption | omega, by first | assumption | omega, by first | assumption | omega, by first | assumption | omega, by first | assumption | omega, by first | assumption | omega, by first | assumption | omega, by first | assumption | omega, by first | assumption | omega, by first | assumption | omega, ?_⟩
       omega
      (dsimp only; omega)
     simp only [sps] at h61
     have hT : d.ckT (d.ckL i j (k + 1)) = d.ckT (d.ckL i j k) := Fun.ckT_F (fun hh => h61 (by omega))
     refine .sg rfl rfl rfl rfl rfl (.sg rfl rfl rfl rfl rfl (.sg rfl rfl rfl rfl rfl (.m rfl rfl rfl (.pickF rfl rfl) (.nil (hK28 _ _ ?_)))))
     refine .condF rfl ?_
     refine .skip ?_
     refine hK27 _ _ (.seq (fun K33 hK33 => .region ?_))
     refine .m rfl rfl rfl (.load on_105_El rfl (by first | assumption | exact Mem.of_get at_Lg7 0 _ rfl)) ?_
     refine .mv rfl (.mv rfl (.mv rfl (.m rfl rfl rfl (.buildA bta_108_El rfl rfl rfl) ?_)))
     refine .r rfl rfl rfl (.litR rfl sl_105_El ze_108_El rfl rfl (by omega) (by omega) rfl rfl) ?_
     rintro _ H77x3 ⟨g77x3, rfl, le77x3, ge77x3, at77x3⟩
     replace hle := hle.trans le77x3
     replace lst3 := lst3.le le77x3
     replace at1 := le77x3.2 _ _ at1
     replace at_Lg33 := le77x3.2 _ _ at_Lg33
     replace at_LA3 := le77x3.2 _ _ at_LA3
     replace at_Lg7 := le77x3.2 _ _ at_Lg7
     replace no_LF3 := no_LF3.le le77x3
     replace no_LT3 := no_LT3.le le77x3
     replace at_Lg6 := le77x3.2 _ _ at_Lg6
     have lt_at77x3 := GHeap.ltg at77x3
     replace hin := base_hin.mono hle
     have hb1 : Fun.At _ g1 0 d p := ⟨Mem.of_get at1, hin⟩
     refine .r rfl rfl rfl (.appendV rfl sl_105_El ze_108_El rfl by_108_Em sl_105_El rfl rfl (by assumption) (by assumption) (by first | omega | (simp <;> omega)) rfl rfl (by omega) (by omega)) ?_
     rintro _ H78x3 ⟨g78x3, rfl, st78x3, ge78x3, at78x3⟩
     replace hle := hle.st st78x3 (fun k hk => ⟨by omega, trivial⟩)
     replace lst3 := lst3.st st78x3 (fun k hk ho => by simp only [out, and_true] at ho ⊢ <;> first | exact ho | exact ho.1 | exact ho.2 | exact ho.2.1 | exact ho.2.2 | exact ho.2.2.1 | exact ho.2.2.2 | exact pl_LA3.ne (by first | exact ho | exact ho.1 | exact ho.2 | exact ho.2.1 | exact ho.2.2 | exact ho.2.2.1 | exact ho.2.2.2 | exact pl_LA2.ne (by first | exact ho | exact ho.1 | exact ho.2 | exact ho.2.1 | exact ho.2.2 | exact ho.2.2.1 | exact ho.2.2.2 | exact pl_LA.ne (by first | exact ho | exact ho.1 | exact ho.2 | exact ho.2.1 | exact ho.2.2 | exact ho.2.2.1 | exact ho.2.2.2 | omega) (by omega) | omega) (by omega) | omega) (by omega) | omega)
     have ne_g1_gLA3 : NE g1 gLA3 := ⟨pl_LA3.ne ne_g1_gLA2.ne (by omega)⟩
     replace at1 := st78x3.same _ _ ⟨ne_g1_gLA3.ne, trivial⟩ at1
     replace at_Lg33 := st78x3.same _ _ ⟨ap3_0, trivial⟩ at_Lg33
     replace at_Lg7 := st78x3.same _ _ ⟨(Ne.symm ap3_5), trivial⟩ at_Lg7
     replace no_LF3 := no_LF3.st st78x3 ⟨(Ne.symm ap3_6), trivial⟩
     replace no_LT3 := no_LT3.st st78x3 ⟨(Ne.symm ap3_7), trivial⟩
     replace at_Lg6 := st78x3.same _ _ ⟨(Ne.symm ap3_8), trivial⟩ at_Lg6
     have lt_at78x3 := GHeap.ltg at78x3
     replace hin := base_hin.mono hle
     clear hb1
     have hb1 : Fun.At _ g1 0 d p := ⟨Mem.of_get at1, hin⟩
     refine .r0 rfl rfl (.storeR rfl sz_105_Em rfl rfl rfl (by assumption) (by first | exact Nat.le_of_ble_eq_true rfl | (simp; done) | (simp <;> omega))) ?_
     rintro _ H19007x3 ⟨rfl, st19007x3, at19007x3⟩
     have nx_H19007x3 := st19007x3.nx
     replace hle := hle.st st19007x3 (fun k hk => ⟨by omega, trivial⟩)
     replace lst3 := lst3.st st19007x3 (fun k hk ho => by simp only [out, and_true] at ho ⊢ <;> first | exact ho | exact ho.1 | exact ho.2 | exact ho.2.1 | exact ho.2.2 | exact ho.2.2.1 | exact ho.2.2.2 | omega)
     replace at1 := st19007x3.same _ _ ⟨ne_g1_g7.ne, trivial⟩ at1
     replace at_Lg33 := st19007x3.same _ _ ⟨ap3_1, trivial⟩ at_Lg33
     replace no_LF3 := no_LF3.st st19007x3 ⟨(Ne.symm ap3_9), trivial⟩
     replace no_LT3 := no_LT3.st st19007x3 ⟨(Ne.symm ap3_10), trivial⟩
     replace at_Lg6 := st19007x3.same _ _ ⟨ne_g6_g7.ne, trivial⟩ at_Lg6
     replace at78x3 := st19007x3.same _ _ ⟨(by first | assumption | omega), trivial⟩ at78x3
     have lt_at19007x3 := GHeap.ltg at19007x3
     replace hin := base_hin.mono hle
     clear hb1
     have hb1 : Fun.At _ g1 0 d p := ⟨Mem.of_get at1, hin⟩
     try simp only [Nat.zero_add, List.set_cons_succ, List.set_cons_zero] at at19007x3
     refine .nil (hK33 _ _ (.seq (fun K34 hK34 => .region (.m rfl rfl rfl (.fieldAddr fo_31_1_B rfl) ?_))))
     refine .m rfl rfl rfl (.load on_22_B rfl (by first | assumption | exact Mem.of_get at_Lg6 1 _ rfl)) ?_
     refine .mv rfl ?_
     refine .r rfl rfl rfl (.litR rfl sl_22_A ze_2_E rfl rfl (by omega) (by omega) rfl rfl) ?_
     rintro _ H82x3 ⟨g82x3, rfl, le82x3, ge82x3, at82x3⟩
     replace hle := hle.trans le82x3
     replace lst3 := lst3.le le82x3
     replace at1 := le82x3.2 _ _ at1
     replace at_Lg33 := le82x3.2 _ _ at_Lg33
     replace no_LF3 := no_LF3.le le82x3
     replace no_LT3 := no_LT3.le le82x3
     replace at_Lg6 := le82x3.2 _ _ at_Lg6
     replace at78x3 := le82x3.2 _ _ at78x3
     replace at19007x3 := le82x3.2 _ _ at19007x3
     have lt_at82x3 := GHeap.ltg at82x3
     replace hin := base_hin.mono hle
     clear hb1
     have hb1 : Fun.At _ g1 0 d p := ⟨Mem.of_get at1, hin⟩
     refine .r rfl rfl rfl (.appendNOI rfl sl_22_A ze_2_E rfl by_2_E sl_22_A rfl rfl no_LF3 (by assumption) (by first | omega | (simp <;> omega)) (by omega) (by omega)) ?_
     rintro _ H83x3 ⟨g83x3, rfl, st83x3, ge83x3, at83x3⟩
     replace hle := hle.st st83x3 (fun k hk => ⟨by omega, trivial⟩)
     replace lst3 := lst3.st st83x3 (fun k hk ho => by simp only [out, and_true] at ho ⊢ <;> first | exact ho | exact ho.1 | exact ho.2 | exact ho.2.1 | exact ho.2.2 | exact ho.2.2.1 | exact ho.2.2.2 | exact pl_LF3.ne (by first | exact ho | exact ho.1 | exact ho.2 | exact ho.2.1 | exact ho.2.2 | exact ho.2.2.1 | exact ho.2.2.2 | exact pl_LF2.ne (by first | exact ho | exact ho.1 | exact ho.2 | exact ho.2.1 | exact ho.2.2 | exact ho.2.2.1 | exact ho.2.2.2 | exact pl_LF.ne (by first | exact ho | exact ho.1 | exact ho.2 | exact ho.2.1 | exact ho.2.2 | exact ho.2.2.1 | exact ho.2.2.2 | omega) (by omega) | omega) (by omega) | omega) (by omega) | omega)
     have ne_g1_gLF3 : NE g1 gLF3 := ⟨pl_LF3.ne ne_g1_gLF2.ne (by omega)⟩
     replace at1 := st83x3.same _ _ ⟨ne_g1_gLF3.ne, trivial⟩ at1
     replace at_Lg33 := st83x3.same _ _ ⟨ap3_2, trivial⟩ at_Lg33
     replace no_LT3 := no_LT3.st st83x3 ⟨(Ne.symm ap3_12), trivial⟩
     replace at_Lg6 := st83x3.same _ _ ⟨(Ne.symm ap3_13), trivial⟩ at_Lg6
     replace at78x3 := st83x3.same _ _ ⟨(by first | assumption | omega), trivial⟩ at78x3
     replace at19007x3 := st83x3.same _ _ ⟨ap3_9, trivial⟩ at19007x3
     have lt_at83x3 := GHeap.ltg at83x3
     replace hin := base_hin.mono hle
     clear hb1
     have hb1 : Fun.At _ g1 0 d p := ⟨Mem.of_get at1, hin⟩
     refine .m rfl rfl rfl (.fieldAddr fo_31_1_B rfl) ?_
     refine .r0 rfl rfl (.storeR rfl sz_22_E rfl rfl rfl (by assumption) (by first | exact Nat.le_of_ble_eq_true rfl | (simp; done) | (simp <;> omega))) ?_
     rintro _ H20006x3 ⟨rfl, st20006x3, at20006x3⟩
     have nx_H20006x3 := st20006x3.nx
     replace hle := hle.st st20006x3 (fun k hk => ⟨by omega, trivial⟩)
     replace lst3 := lst3.st st20006x3 (fun k hk ho => by simp only [out, and_true] at ho ⊢ <;> first | exact ho | exact ho.1 | exact ho.2 | exact ho.2.1 | exact ho.2.2 | exact ho.2.2.1 | exact ho.2.2.2 | omega)
     replace at1 := st20006x3.same _ _ ⟨ne_g1_g6.ne, trivial⟩ at1
     replace at_Lg33 := st20006x3.same _ _ ⟨ap3_4, trivial⟩ at_Lg33
     replace no_LT3 := no_LT3.st st20006x3 ⟨ap3_14, trivial⟩
     have ne_g78x3_g6 : NE g78x3 g6 := ⟨by first | assumption | omega⟩
     replace at78x3 := st20006x3.same _ _ ⟨ne_g78x3_g6.ne, trivial⟩ at78x3
     replace at19007x3 := st20006x3.same _ _ ⟨ap3_11, trivial⟩ at19007x3
     have ne_g83x3_g6 : NE g83x3 g6 := ⟨by first | assumption | omega⟩
     replace at83x3 := st20006x3.same _ _ ⟨ne_g83x3_g6.ne, trivial⟩ at83x3
     have lt_at20006x3 := GHeap.ltg at20006x3
     replace hin := base_hin.mono hle
     clear hb1
     have hb1 : Fun.At _ g1 0 d p := ⟨Mem.of_get at1, hin⟩
     try simp only [Nat.zero_add, List.set_cons_succ, List.set_cons_zero] at at20006x3
     refine .nil (hK34 _ _ (.region (.m rfl rfl rfl (.fieldAddr fo_31_2_B rfl) ?_)))
     refine .m rfl rfl rfl (.load on_22_B rfl (by first | assumption | exact Mem.of_get at20006x3 2 _ rfl)) ?_
     refine .mv rfl ?_
     refine .r rfl rfl rfl (.litR rfl sl_22_A ze_2_E rfl rfl (by omega) (by omega) rfl rfl) ?_
     rintro _ H88x3 ⟨g88x3, rfl, le88x3, ge88x3, at88x3⟩
     replace hle := hle.trans le88x3
     replace lst3 := lst3.le le88x3
     replace at1 := le88x3.2 _ _ at1
     replace at_Lg33 := le88x3.2 _ _ at_Lg33
     replace no_LT3 := no_LT3.le le88x3
     replace at78x3 := le88x3.2 _ _ at78x3
     replace at19007x3 := le88x3.2 _ _ at19007x3
     replace at83x3 := le88x3.2 _ _ at83x3
     replace at20006x3 := le88x3.2 _ _ at20006x3
     have lt_at88x3 := GHeap.ltg at88x3
     replace hin := base_hin.mono hle
     clear hb1
     have hb1 : Fun.At _ g1 0 d p := ⟨Mem.of_get at1, hin⟩
     refine .r rfl rfl rfl (.appendNOI rfl sl_22_A ze_2_E rfl by_2_E sl_22_A rfl rfl no_LT3 (by assumption) (by first | omega | (simp <;> omega)) (by omega) (by omega)) ?_
     rintro _ H89x3 ⟨g89x3, rfl, st89x3, ge89x3, at89x3⟩
     replace hle := hle.st st89x3 (fun k hk => ⟨by omega, trivial⟩)
     replace lst3 := lst3.st st89x3 (fun k hk ho => by simp only [out, and_true] at ho ⊢ <;> first | exact ho | exact ho.1 | exact ho.2 | exact ho.2.1 | exact ho.2.2 | exact ho.2.2.1 | exact ho.2.2.2 | exact pl_LT3.ne (by first | exact ho | exact ho.1 | exact ho.2 | exact ho.2.1 | exact ho.2.2 | exact ho.2.2.1 | exact ho.2.2.2 | exact pl_LT2.ne (by first | exact ho | exact ho.1 | exact ho.2 | exact ho.2.1 | exact ho.2.2 | exact ho.2.2.1 | exact ho.2.2.2 | exact pl_LT.ne (by first | exact ho | exact ho.1 | exact ho.2 | exact ho.2.1 | exact ho.2.2 | exact ho.2.2.1 | exact ho.2.2.2 | omega) (by omega) | omega) (by omega) | omega) (by omega) | omega)
     have ne_g1_gLT3 : NE g1 gLT3 := ⟨pl_LT3.ne ne_g1_gLT2.ne (by omega)⟩
     replace at1 := st89x3.same _ _ ⟨ne_g1_gLT3.ne, trivial⟩ at1
     replace at_Lg33 := st89x3.same _ _ ⟨ap3_3, trivial⟩ at_Lg33
     replace at78x3 := st89x3.same _ _ ⟨(by first | assumption | omega), trivial⟩ at78x3
     replace at19007x3 := st89x3.same _ _ ⟨ap3_10, trivial⟩ at19007x3
     replace at83x3 := st89x3.same _ _ ⟨(by first | assumption | omega), trivial⟩ at83x3
     replace at20006x3 := st89x3.same _ _ ⟨(Ne.symm ap3_14), trivial⟩ at20006x3
     replace hin := base_hin.mono hle
     clear hb1
     have hb1 : Fun.At _ g1 0 d p := ⟨Mem.of_get at1, hin⟩
     refine .m rfl rfl rfl (.fieldAddr fo_31_2_B rfl) ?_
     refine .r0 rfl rfl (.storeR rfl sz_22_E rfl rfl rfl (by assumption) (by first | exact Nat.le_of_ble_eq_true rfl | (simp; done) | (simp <;> omega))) ?_
     rintro _ H21006x3 ⟨rfl, st21006x3, at21006x3⟩
     replace hle := hle.st st21006x3 (fun k hk => ⟨by omega, trivial⟩)
     replace lst3 := lst3.st st21006x3 (fun k hk ho => by simp only [out, and_true] at ho ⊢ <;> first | exact ho | exact ho.1 | exact ho.2 | exact ho.2.1 | exact ho.2.2 | exact ho.2.2.1 | exact ho.2.2.2 | omega)
     replace at1 := st21006x3.same _ _ ⟨ne_g1_g6.ne, trivial⟩ at1
     replace at_Lg33 := st21006x3.same _ _ ⟨ap3_4, trivial⟩ at_Lg33
     replace at78x3 := st21006x3.same _ _ ⟨ne_g78x3_g6.ne, trivial⟩ at78x3
     replace at19007x3 := st21006x3.same _ _ ⟨ap3_11, trivial⟩ at19007x3
     replace at83x3 := st21006x3.same _ _ ⟨ne_g83x3_g6.ne, trivial⟩ at83x3
     replace at89x3 := st21006x3.same _ _ ⟨(by first | assumption | omega), trivial⟩ at89x3
     replace hin := base_hin.mono hle
     clear hb1
     have hb1 : Fun.At _ g1 0 d p := ⟨Mem.of_get at1, hin⟩
     try simp only [Nat.zero_add, List.set_cons_succ, List.set_cons_zero] at at21006x3
     refine .nil (hK25 _ _ (.region ?_))
     refine .m rfl rfl rfl (.add rfl rfl rfl (by omega) (by omega)) ?_
     refine .mv rfl (.nil ?_)
     refine hKL3 ((k + 1, g78x3, g83x3, g89x3)) _ _ ?_ ?_ ⟨rfl, rfl, rfl, rfl, rfl, rfl, rfl, rfl, rfl, rfl, rfl, rfl, rfl, rfl, rfl, rfl, rfl, trivial⟩
     ·
      refine ⟨lst3, by first | assumption | (rw [hEl]; assumption) | (rw [hE0]; assumption) | (rw [hE1]; assumption) | (rw [hT]; assumption) | (rw [hE, tcells_snoc]; assumption), by first | assumption | (rw [hEl]; assumption) | (rw [hE0]; assumption) | (rw [hE1]; assumption) | (rw [hT]; assumption) | (rw [hE, tcells_snoc]; assumption), by first | assumption | exact ⟨.inr (by omega)⟩ | exact ⟨.inl rfl⟩, by first | assumption | (rw [hEl]; assumption) | (rw [hE0]; assumption) | (rw [hE1]; assumption) | (rw [hT]; assumption) | (rw [hE, tcells_snoc]; assumption), by first | (first | assumption | (rw [hEl]; assumption) | (rw [hE0]; assumption) | (rw [hE1]; assumption) | (rw [hT]; assumption) | (rw [hE, tcells_snoc]; assumption)) | exact NO.of (by first | assumption | (rw [hEl]; assumption) | (rw [hE0]; assumption) | (rw [hE1]; assumption) | (rw [hT]; assumption) | (rw [hE, tcells_snoc]; assumption)) (by omega), by first | assumption | exact ⟨.inr (by omega)⟩ | exact ⟨.inl rfl⟩, by first | (first | assumption | (rw [hEl]; assumption) | (rw [hE0]; assumption) | (rw [hE1]; assumption) | (rw [hT]; assumption) | (rw [hE, tcells_snoc]; assumption)) | exact NO.of (by first | assumption | (rw [hEl]; assumption) | (rw [hE0]; assumption) | (rw [hE1]; assumption) | (rw [hT]; assumption) | (rw [hE, tcells_snoc]; assumption)) (by omega), by first | assumption | exact ⟨.inr (by omega)⟩ | exact ⟨.inl rfl⟩, by first | assumption | (rw [hEl]; assumption) | (rw [hE0]; assumption) | (rw [hE1]; assumption) | (rw [hT]; assumption) | (rw [hE, tcells_snoc]; assumption), by first | assumption | omega, by first | assumption | omega, by first | assumption | omega, by first | assumption | omega, by first | assumption | omega, by first | assumption | omega, by first | assumption | omega, by first | assumption | omega, by first | assumption | omega, by first | assumption | omega, by first | assumption | omega, by first | assumption | omega, by first | assumption | omega, by first | assumption | omega, by first | assumption | omega, ?_⟩
      omega
     (dsimp only; omega)
    try simp only [sps] at h55
    refine .exit ?_
    refine hK20 _ _ (.region ?_)
    refine .m rfl rfl rfl (.add rfl rfl rfl (by omega) (by omega)) ?_
    refine .mv rfl (.nil ?_)
    obtain rfl : k = (d.coneMaps (d.ckC i) (d.ckC j)).length := by omega
    have hnx : d.ckL i (j + 1) 0 = d.ckL i j (d.coneMaps (d.ckC i) (d.ckC j)).length := Fun.ckL_next2
    refine hKL2 ((j + 1, gLA3, gLF3, gLT3)) _ _ ?_ ?_ ⟨rfl, rfl, rfl, rfl, rfl, rfl, rfl, rfl, rfl, rfl, rfl, rfl, rfl, trivial⟩
    ·
     refine ⟨lst2, by first | assumption | (rw [hnx]; assumption), by first | assumption | (rw [hnx]; assumption), by first | assumption | exact pl_LA3.trans pl_LA2 (by omega) | exact ⟨.inr (by omega)⟩ | exact ⟨.inl rfl⟩, by first | assumption | (rw [hnx]; assumption), by first | (first | assumption | (rw [hnx]; assumption)) | exact NO.of (by first | assumption | (rw [hnx]; assumption)) (by omega), by first | assumption | exact pl_LF3.trans pl_LF2 (by omega) | exact ⟨.inr (by omega)⟩ | exact ⟨.inl rfl⟩, by first | (first | assumption | (rw [hnx]; assumption)) | exact NO.of (by first | assumption | (rw [hnx]; assumption)) (by omega), by first | assumption | exact pl_LT3.trans pl_LT2 (by omega) | exact ⟨.inr (by omega)⟩ | exact ⟨.inl rfl⟩, by first | assumption | (rw [hnx]; assumption), by first | assumption | omega, by first | assumption | omega, by first | assumption | omega, by first | assumption | omega, by first | assumption | omega, by first | assumption | omega, by first | assumption | omega, by first | assumption | omega, by first | assumption | omega, by first | assumption | omega, by first | assumption | omega, by first | assumption | omega, by first | assumption | omega, by first | assumption | omega, by first | assumption | omega, ?_⟩
     omega
    (dsimp only; omega)
   try simp only [sps] at h46
   refine .exit ?_
   refine hK15 _ _ (.region ?_)
   refine .m rfl rfl rfl (.add rfl rfl rfl (by omega) (by omega)) ?_
   refine .mv rfl (.nil ?_)
   obtain rfl : j = (d.coneL d.t.obj.toNat).length := by omega
   refine hKL1 ((i + 1, gLA2, gLF2, gLT2)) _ _ ?_ ?_ ⟨rfl, rfl, rfl, rfl, rfl, rfl, rfl, rfl, trivial⟩
   ·
    refine ⟨lst1, by first | assumption | (rw [Fun.ckL_next1]; assumption), by first | assumption | (rw [Fun.ckL_next1]; assumption), by first | assumption | exact pl_LA2.trans pl_LA (by omega) | exact ⟨.inr (by omega)⟩ | exact ⟨.inl rfl⟩, by first | assumption | (rw [Fun.ckL_next1]; assumption), by first | (first | assumption | (rw [Fun.ckL_next1]; assumption)) | exact NO.of (by first | assumption | (rw [Fun.ckL_next1]; assumption)) (by omega), by first | assumption | exact pl_LF2.trans pl_LF (by omega) | exact ⟨.inr (by omega)⟩ | exact ⟨.inl rfl⟩, by first | (first | assumption | (rw [Fun.ckL_next1]; assumption)) | exact NO.of (by first | assumption | (rw [Fun.ckL_next1]; assumption)) (by omega), by first | assumption | exact pl_LT2.trans pl_LT (by omega) | exact ⟨.inr (by omega)⟩ | exact ⟨.inl rfl⟩, by first | assumption | (rw [Fun.ckL_next1]; assumption), by first | assumption | omega, by first | assumption | omega, by first | assumption | omega, by first | assumption | omega, by first | assumption | omega, by first | assumption | omega, by first | assumption | omega, by first | assumption | omega, by first | assumption | omega, by first | assumption | omega, by first | assumption | omega, by first | assumption | omega, by first | assumption | omega, by first | assumption | omega, by first | assumption | omega, ?_⟩
    omega
   (dsimp only; omega)
  try simp only [sps] at h39
  refine .exit ?_
  refine hK11 _ _ (.seq (fun K35 hK35 => .seq (fun K36 hK36 => .region ?_)))
  obtain rfl : i = (d.coneL d.t.obj.toNat).length := by omega
  rw [show d.ckL (d.coneL d.t.obj.toNat).length 0 0 = d.ckA from rfl] at at_Lg33 at_LA at_Lg7 no_LF no_LT at_Lg6
  have hal := d.ckA_le hI0 hn8
  have nF33 : g33 ≠ gLF := pl_LF.ne (by omega) (by omega)
  have nT33 : g33 ≠ gLT := pl_LT.ne (by omega) (by omega)
  have nF6 : g6 ≠ gLF := pl_LF.ne (by omega) (by omega)
  have nT6 : g6 ≠ gLT := pl_LT.ne (by omega) (by omega)
  have nA6 : g6 ≠ gLA := pl_LA.ne (by omega) (by omega)
  refine .m rfl rfl rfl (.load on_105_El rfl (by first | assumption | exact Mem.of_get at_Lg7 0 _ rfl)) ?_
  refine .m rfl rfl rfl (.len sl_105_El rfl) (.m rfl rfl rfl (.cmp rfl rfl rfl) (.nil (hK36 _ _ ?_)))
  refine .cond rfl (fun h96 => ?_) (fun h96 => ?_)
  ·
   simp only [sps] at h96
   refine .seq (fun K37 hK37 => .region (.m rfl rfl rfl (.build bt_31_Hj rfl rfl rfl) ?_))
   refine .r0 rfl rfl (.fillR rfl sz_31_D rfl rfl rfl rfl (by assumption) (by first | rfl | exact Nat.le_of_ble_eq_true rfl | simp)) ?_
   rintro _ H26001 ⟨rfl, st26001, at26001⟩
   replace hle := hle.st st26001 (fun k hk => ⟨by omega, trivial⟩)
   have ne_g1_g2 : NE g1 g2 := ⟨by first | assumption | omega⟩
   replace at1 := st26001.same _ _ ⟨ne_g1_g2.ne, trivial⟩ at1
   replace hin := base_hin.mono hle
   have hb1 : Fun.At _ g1 0 d p := ⟨Mem.of_get at1, hin⟩
   refine .mv rfl (.nil (hK37 _ _ ?_))
   refine .ret ?_
   refine hret _ _ ?_
   refine ⟨_, _, _, _, _, rfl, ag_31_D, (by rfl), (Mem.of_get at26001), rfl, ?_⟩
   obtain ⟨e1, e2⟩ := Fun.ck_3 h15 (fun h => by have := h.2; omega)
   unfold CkNew
   rw [e1, e2]
   exact ⟨hle, .zero, rfl, .zero _ _⟩
  simp only [sps] at h96
  have hm40 : d.ckA.length ≤ 40 := by omega
  refine .skip ?_
  refine hK35 _ _ (.seq (fun K38 hK38 => .region (.m rfl rfl rfl (.makeFunc rfl) ?_)))
  refine .call rfl rfl rfl rfl @Try.call62 rfl (tableO_c (src := colI d.ckA 0) (tgt := colI d.ckA 1) (X := fun a b => idxLL d.ckA (d.ckK a b)) (by assumption) (by simp) (by simp) (by omega) (fun H' s => (no_LF.st s ⟨Ne.symm nF6, trivial⟩).isV (by simp)) (fun H' s => (no_LT.st s ⟨Ne.symm nT6, trivial⟩).isV (by simp)) @Try.call63 (fun H' v s hrow i j hi hj e => coneCategory1_c (s.same _ _ ⟨by omega, trivial⟩ at_Lg7) (s.same _ _ ⟨Ne.symm nA6, trivial⟩ at_LA) ⟨Mem.of_get (s.same _ _ ⟨by omega, trivial⟩ at1), base_hin.mono (hle.st s (fun k hk => ⟨by omega, trivial⟩))⟩ hI0 (by omega) hi hj)) ?_
  rintro _ H99 ⟨st99, gC99, rC99, at99, ge99, v99, hr99⟩
  replace hle := hle.st st99 (fun k hk => ⟨by omega, trivial⟩)
  replace at1 := st99.same _ _ ⟨ne_g1_g6.ne, trivial⟩ at1
  replace at2 := st99.same _ _ ⟨ne_g2_g6.ne, trivial⟩ at2
  replace at_Lg33 := st99.same _ _ ⟨ap1_4, trivial⟩ at_Lg33
  replace no_LF := no_LF.st st99 ⟨ap1_13, trivial⟩
  replace no_LT := no_LT.st st99 ⟨ap1_14, trivial⟩
  replace hin := base_hin.mono hle
  have hb1 : Fun.At _ g1 0 d p := ⟨Mem.of_get at1, hin⟩
  refine .nil (hK38 _ _ (.seq (fun K39 hK39 => .region ?_)))
  refine .m rfl rfl rfl (.loadM ag_31_D rfl ⟨rfl, Mem.of_get at99⟩) ?_
  refine .r0 rfl rfl (.fillR rfl sz_31_D rfl rfl rfl rfl (by assumption) (by first | rfl | exact Nat.le_of_ble_eq_true rfl | simp)) ?_
  rintro _ H28001 ⟨rfl, st28001, at28001⟩
  replace hle := hle.st st28001 (fun k hk => ⟨by omega, trivial⟩)
  have ne_g1_g2 : NE g1 g2 := ⟨by first | assumption | omega⟩
  replace at1 := st28001.same _ _ ⟨ne_g1_g2.ne, trivial⟩ at1
  replace at_Lg33 := st28001.same _ _ ⟨(Ne.symm ne_g2_g33.ne), trivial⟩ at_Lg33
  replace no_LF := no_LF.st st28001 ⟨(Ne.symm (pl_LF.ne ne_g2_ghF.ne (by omega))), trivial⟩
  replace no_LT := no_LT.st st28001 ⟨(Ne.symm (pl_LT.ne ne_g2_ghT.ne (by omega))), trivial⟩
  replace hin := base_hin.mono hle
  clear hb1
  have hb1 : Fun.At _ g1 0 d p := ⟨Mem.of_get at1, hin⟩
  refine .mv rfl (.nil (hK39 _ _ ?_))
  refine .ret ?_
  refine hret _ _ ?_
  refine ⟨_, _, _, _, _, rfl, ag_31_D, (by rfl), (Mem.of_get at28001), rfl, ?_⟩
  obtain ⟨e1, e2⟩ := Fun.ck_0 h15 hn8 hm40
  unfold CkNew
  rw [e1, e2]
  rw [Fun.ckT_all hI0] at at_Lg33
  exact ⟨hle, ⟨nz d.ckA.length gLF, nz d.ckA.length gLT, some ⟨g33, 0, none⟩, some ⟨gC99, 0, none⟩, rC99⟩, by simp [Cat.cells, Fun.ckQ, bldC, tabL], .mk (no_LF.isR (by simp [Fun.ckQ, bldC]) ge_LF) (no_LT.isR (by simp [Fun.ckQ, bldC]) ge_LT) (.of_at at_Lg33 (by omega)) ((v99.keep (st28001.keep (b := HL1.next) (fun k hk => ⟨by omega, trivial⟩)) (Nat.le_refl _)).keep (.of_le (.refl _)) (by omega)) (nz_or _ _) (nz_or _ _) (.inr rfl) (by omega) (Ne.symm nF33) (Ne.symm nT33) (fun i hi => by
    have hi' : i < d.ckA.length := by simpa [Fun.ckQ, bldC, tabL] using hi
    exact ⟨fun e => by have := hr99 i hi' _ e; omega, fun e => by have := hr99 i hi' _ e; omega, fun e => by have := hr99 i hi' _ e; omega⟩)⟩
set_option maxHeartbeats 4000000 in
theorem implConeCategory1_c {d : Fun} {p : FunP} {H : GHeap} (hin : d.In H p := by assumption) (hs : d.Small := by assumption) (hb : ¬ (d.coneL d.t.obj.toNat).length ≤ 400) :
    GCalls Try.prog 29 [.agg (d.cells p).toArray] H (CkNew H d) := by
  have hN : d.ckN = (d.coneL d.t.obj.toNat).length := rfl
  refine GCalls.body (N := 101) (rs := [.cell 2 31, .tmp 3]) Try.func29 rfl rfl rfl rfl (fun Qx hret hend => ?_)
  refine .forget (fr' := [(0, some _)]) ⟨rfl, trivial⟩ ?_
  have hle := GHeap.Le.refl H
  have base_hin := hin
  refine .seq (fun K1 hK1 => .region ?_)
  refine .r rfl rfl rfl (.boxR rfl sz_33_E rfl) ?_
  rintro _ H1 ⟨g1, rfl, le1, ge1, at1⟩
  replace hle := hle.trans le1
  have lt_at1 := GHeap.ltg at1
  replace hin := base_hin.mono hle
  have hb1 : Fun.At _ g1 0 d p := ⟨Mem.of_get at1, hin⟩
  refine .r rfl rfl rfl (.allocR rfl ze_31_E rfl) ?_
  rintro _ H2 ⟨g2, rfl, le2, ge2, at2⟩
  replace hle := hle.trans le2
  replace at1 := le2.2 _ _ at1
  replace hin := base_hin.mono hle
  clear hb1
  have hb1 : Fun.At _ g1 0 d p := ⟨Mem.of_get at1, hin⟩
  refine .mv rfl (.nil (hK1 _ _ (.seq (fun K2 hK2 => .seq (fun K3 hK3 => .region ?_)))))
  refine .callQ rfl rfl rfl rfl @Try.call58 rfl (isFunctor_c) ?_
  refine .m rfl rfl rfl (.not rfl) (.nil (hK3 _ _ ?_))
  refine .cond rfl (fun h15 => ?_) (fun h15 => ?_)
  ·
   simp only [sps] at h15
   refine .seq (fun K4 hK4 => .region (.m rfl rfl rfl (.build bt_31_Hj rfl rfl rfl) ?_))
   refine .r0 rfl rfl (.fillR rfl sz_31_D rfl rfl rfl rfl (by assumption) (by first | rfl | exact Nat.le_of_ble_eq_true rfl | simp)) ?_
   rintro _ H2001 ⟨rfl, st2001, at2001⟩
   replace hle := hle.st st2001 (fun k hk => ⟨by omega, trivial⟩)
   have ne_g1_g2 : NE g1 g2 := ⟨by first | assumption | omega⟩
   replace at1 := st2001.same _ _ ⟨ne_g1_g2.ne, trivial⟩ at1
   replace hin := base_hin.mono hle
   clear hb1
   have hb1 : Fun.At _ g1 0 d p := ⟨Mem.of_get at1, hin⟩
   refine .mv rfl (.nil (hK4 _ _ ?_))
   refine .ret ?_
   refine hret _ _ ?_
   refine ⟨_, _, _, _, _, rfl, ag_31_D, (by rfl), (Mem.of_get at2001), rfl, ?_⟩
   obtain ⟨e1, e2⟩ := Fun.ck_1 h15
   unfold CkNew
   rw [e1, e2]
   exact ⟨hle, .zero, rfl, .zero _ _⟩
  simp only [sps] at h15
  refine .skip ?_
  refine hK2 _ _ (.seq (fun K5 hK5 => .region ?_))
  refine .call rfl rfl rfl rfl @Try.call59 rfl (allCones1b_c (h := by assumption) h15 hb) ?_
  rintro _ H18 ⟨le18, rfl⟩
  replace hle := hle.trans le18
  replace at1 := le18.2 _ _ at1
  replace at2 := le18.2 _ _ at2
  replace hin := base_hin.mono hle
  have hb1 : Fun.At _ g1 0 d p := ⟨Mem.of_get at1, hin⟩
  refine .mv rfl (.m rfl rfl rfl (.extract rfl rfl) (.m rfl rfl rfl (.extract rfl rfl) (.mv rfl (.mv rfl (.nil (hK5 _ _ (.seq (fun K6 hK6 => .seq (fun K7 hK7 => .region (.mv rfl (.m rfl rfl rfl (.not rfl) (.mv rfl ?_))))))))))))
  refine .split (fun h23 => ?_) (fun h23 => ?_)
  ·
   try simp only [sps] at h23
   refine .sg rfl rfl rfl rfl rfl (.sg rfl rfl rfl rfl rfl (.sg rfl rfl rfl rfl rfl (.m rfl rfl rfl (.pickT rfl rfl) (.nil (hK7 _ _ ?_)))))
   refine .condT rfl ?_
   refine .seq (fun K8 hK8 => .region (.m rfl rfl rfl (.build bt_31_Hj rfl rfl rfl) ?_))
   refine .r0 rfl rfl (.fillR rfl sz_31_D rfl rfl rfl rfl (by assumption) (by first | rfl | exact Nat.le_of_ble_eq_true rfl | simp)) ?_
   rintro _ H5001 ⟨rfl, st5001, at5001⟩
   replace hle := hle.st st5001 (fun k hk => ⟨by omega, trivial⟩)
   have ne_g1_g2 : NE g1 g2 := ⟨by first | assumption | omega⟩
   replace at1 := st5001.same _ _ ⟨ne_g1_g2.ne, trivial⟩ at1
   replace hin := base_hin.mono hle
   clear hb1
   have hb1 : Fun.At _ g1 0 d p := ⟨Mem.of_get at1, hin⟩
   refine .mv rfl (.nil (hK8 _ _ ?_))
   refine .ret ?_
   refine hret _ _ ?_
   refine ⟨_, _, _, _, _, rfl, ag_31_D, (by rfl), (Mem.of_get at5001), rfl, ?_⟩
   obtain ⟨e1, e2⟩ := Fun.ck_3 h15 (fun h => by have := h.1; omega)
   unfold CkNew
   rw [e1, e2]
   exact ⟨hle, .zero, rfl, .zero _ _⟩
  exact absurd h23 (by decide)
theorem implConeCategory_c {d : Fun} {p : FunP} {H : GHeap} (hin : d.In H p := by assumption) (hs : d.Small := by assumption) :
    GCalls Try.prog 29 [.agg (d.cells p).toArray] H (CkNew H d) := by
  by_cases hb : (d.coneL d.t.obj.toNat).length ≤ 400
  · exact implConeCategory0_c hin hs hb
  · exact implConeCategory1_c hin hs hb
end Go.Proofs.Ytagkeabmdodfiaa
namespace Go.Proofs.Ytagkeabmdodfiaa
open Go Go.GL Go.RowKit Go.Proofs
theorem ag_27_LConeCategory : aggT Try.prog 27 = some 12 := by kernel_rfl
set_option maxHeartbeats 40000000 in
theorem lawConeCategory_c {d : Fun} {p : FunP} {H : GHeap} (h0 : d.In H p) (w0 : d.Wide) :
    GCalls Try.prog 6 [.agg (d.cells p).toArray] H (fun v _ => v = .bool true) := by
  refine GCalls.body (N := 96) (rs := [.tmp 2]) Try.func6 rfl rfl rfl rfl (fun Qx hret hend => ?_)
  refine .forget (fr' := [(0, some _)]) ⟨rfl, trivial⟩ ?_
  have hle := GHeap.Le.refl H
  have base_h0 := h0
  refine .seq (fun K1 hK1 => .region ?_)
  refine .r rfl rfl rfl (.boxR rfl sz_27_E rfl) ?_
  rintro _ H1 ⟨g1, rfl, le1, ge1, at1⟩
  replace hle := hle.trans le1
  have lt_at1 := GHeap.ltg at1
  replace h0 := base_h0.mono hle
  have hb1 : Fun.At _ g1 0 d p := ⟨Mem.of_get at1, h0⟩
  have hi1 := hb1.2
  refine .mv rfl (.nil (hK1 _ _ (.seq (fun K2 hK2 => .region (.mv rfl (.nil (hK2 _ _ (.seq (fun K3 hK3 => .region ?_)))))))))
  refine .m rfl rfl rfl (.loadM ag_27_LConeCategory rfl ⟨rfl, Mem.of_get at1⟩) ?_
  refine .mv rfl ?_
  refine .call rfl rfl rfl rfl @Try.call8 rfl (szFunctor_c) ?_
  rintro _ _ ⟨heq, lf16, rfl, z116, z216, z316⟩
  obtain rfl := heq.symm
  refine .mv rfl (.nil (hK3 _ _ (.seq (fun K4 hK4 => .seq (fun K5 hK5 => .region (.mv rfl (.m rfl rfl rfl (.cmp rfl rfl rfl) (.nil (hK5 _ _ ?_)))))))))
  refine .cond rfl (fun h18 => ?_) (fun h18 => ?_)
  ·
   try simp only [sps] at h18
   refine .seq (fun K6 hK6 => .region (.mv rfl (.nil (hK6 _ _ ?_))))
   refine .ret ?_
   refine hret _ _ ?_
   refine ⟨_, rfl, ?_⟩
   first
   | exact rfl
   | exact absurd trivial (by assumption)
   | contradiction
   | (exfalso; omega)
  simp only [sps] at h18
  have hsR := d.ck_small
  have htR := hsR.tot
  have hsm16 := z316 (by omega)
  have tb16 := hsm16.tot
  refine .skip ?_
  refine hK4 _ _ (.seq (fun K7 hK7 => .region ?_))
  refine .m rfl rfl rfl (.loadM ag_27_LConeCategory rfl ⟨rfl, Mem.of_get at1⟩) ?_
  refine .call rfl rfl rfl rfl @Try.call10 rfl (toFunctor_c) ?_
  rintro _ H21 ⟨le21, p21, rfl, v21⟩
  have nx_H21 := le21.1
  replace hle := hle.trans le21
  replace at1 := le21.2 _ _ at1
  replace h0 := base_h0.mono hle
  clear hb1 hi1
  have hb1 : Fun.At _ g1 0 d p := ⟨Mem.of_get at1, h0⟩
  have i21 := v21.inn
  refine .call rfl rfl rfl rfl @Try.call28 rfl (specConeCategory_c) ?_
  rintro _ H22 ⟨le22, p22, rfl, v22⟩
  have nx_H22 := le22.1
  replace hle := hle.trans le22
  replace at1 := le22.2 _ _ at1
  have bs_v22 := v22
  have lv_v22 : Keep H21.next H22 H22 := fun _ _ _ h => h
  replace h0 := base_h0.mono hle
  clear hb1
  have hb1 : Fun.At _ g1 0 d p := ⟨Mem.of_get at1, h0⟩
  clear i21
  refine .mv rfl (.m rfl rfl rfl (.extract rfl rfl) (.m rfl rfl rfl (.extract rfl rfl) ?_))
  refine .r rfl rfl rfl (.allocR rfl ze_31_E rfl) ?_
  rintro _ H4 ⟨g4, rfl, le4, ge4, at4⟩
  have nx_H4 := le4.1
  replace hle := hle.trans le4
  replace at1 := le4.2 _ _ at1
  replace lv_v22 := Keep.le lv_v22 le4
  replace h0 := base_h0.mono hle
  clear hb1
  have hb1 : Fun.At _ g1 0 d p := ⟨Mem.of_get at1, h0⟩
  refine .r0 rfl rfl (.fillR rfl sz_31_D rfl rfl rfl rfl (by assumption) (by first | rfl | exact Nat.le_of_ble_eq_true rfl | simp)) ?_
  rintro _ H5007 ⟨rfl, st5007, at5007⟩
  have nx_H5007 := st5007.nx
  replace hle := hle.st st5007 (fun k hk => ⟨by omega, trivial⟩)
  replace at1 := st5007.same _ _ ⟨(by first | assumption | omega), trivial⟩ at1
  replace lv_v22 := Keep.st lv_v22 st5007 (fun k hb hk => ⟨by omega, trivial⟩)
  have lt_at5007 := GHeap.ltg at5007
  replace h0 := base_h0.mono hle
  clear hb1
  have hb1 : Fun.At _ g1 0 d p := ⟨Mem.of_get at1, h0⟩
  have hi1 := hb1.2
  refine .mv rfl (.nil (hK7 _ _ (.seq (fun K8 hK8 => .region ?_))))
  refine .m rfl rfl rfl (.loadM ag_27_LConeCategory rfl ⟨rfl, Mem.of_get at1⟩) ?_
  refine .call rfl rfl rfl rfl @Try.call10 rfl (toFunctor_c) ?_
  rintro _ H26 ⟨le26, p26, rfl, v26⟩
  have nx_H26 := le26.1
  replace hle := hle.trans le26
  replace at1 := le26.2 _ _ at1
  replace at5007 := le26.2 _ _ at5007
  replace lv_v22 := Keep.le lv_v22 le26
  have bs_v26 := v26
  have lv_v26 : Keep H5007.next H26 H26 := fun _ _ _ h => h
  replace h0 := base_h0.mono hle
  clear hb1 hi1
  have hb1 : Fun.At _ g1 0 d p := ⟨Mem.of_get at1, h0⟩
  refine .r rfl rfl rfl (.allocR rfl ze_33_E rfl) ?_
  rintro _ H6 ⟨g6, rfl, le6, ge6, at6⟩
  have nx_H6 := le6.1
  replace hle := hle.trans le6
  replace at1 := le6.2 _ _ at1
  replace at5007 := le6.2 _ _ at5007
  replace lv_v22 := Keep.le lv_v22 le6
  replace lv_v26 := Keep.le lv_v26 le6
  replace h0 := base_h0.mono hle
  clear hb1
  have hb1 : Fun.At _ g1 0 d p := ⟨Mem.of_get at1, h0⟩
  refine .r0 rfl rfl (.fillR rfl sz_33_E rfl rfl rfl rfl (by assumption) (by first | rfl | exact Nat.le_of_ble_eq_true rfl | simp)) ?_
  rintro _ H6003 ⟨rfl, st6003, at6003⟩
  have nx_H6003 := st6003.nx
  replace hle := hle.st st6003 (fun k hk => ⟨by omega, trivial⟩)
  replace at1 := st6003.same _ _ ⟨(by first | assumption | omega), trivial⟩ at1
  replace at5007 := st6003.same _ _ ⟨(by first | assumption | omega), trivial⟩ at5007
  replace lv_v22 := Keep.st lv_v22 st6003 (fun k hb hk => ⟨by omega, trivial⟩)
  replace lv_v26 := Keep.st lv_v26 st6003 (fun k hb hk => ⟨by omega, trivial⟩)
  replace v26 := bs_v26.keep lv_v26 (Nat.le_refl _)
  have lt_at6003 := GHeap.ltg at6003
  replace h0 := base_h0.mono hle
  clear hb1
  have hb1 : Fun.At _ g1 0 d p := ⟨Mem.of_get at1, h0⟩
  have i26 := v26.inn
  refine .nil (hK8 _ _ (.seq (fun K9 hK9 => .region ?_)))
  refine .m rfl rfl rfl (.loadM ag_33_E rfl ⟨rfl, Mem.of_get at6003⟩) ?_
  refine .call rfl rfl rfl rfl @Try.call29 rfl (implConeCategory_c) ?_
  rintro _ H29 ⟨le29, p29, rfl, v29⟩
  have nx_H29 := le29.1
  replace hle := hle.trans le29
  replace at1 := le29.2 _ _ at1
  replace at5007 := le29.2 _ _ at5007
  replace at6003 := le29.2 _ _ at6003
  replace lv_v22 := Keep.le lv_v22 le29
  replace lv_v26 := Keep.le lv_v26 le29
  have bs_v29 := v29
  have lv_v29 : Keep H6003.next H29 H29 := fun _ _ _ h => h
  replace h0 := base_h0.mono hle
  clear hb1
  have hb1 : Fun.At _ g1 0 d p := ⟨Mem.of_get at1, h0⟩
  clear i26
  refine .mv rfl (.m rfl rfl rfl (.extract rfl rfl) (.m rfl rfl rfl (.extract rfl rfl) ?_))
  refine .r rfl rfl rfl (.allocR rfl ze_31_E rfl) ?_
  rintro _ H7 ⟨g7, rfl, le7, ge7, at7⟩
  replace hle := hle.trans le7
  replace at1 := le7.2 _ _ at1
  replace at5007 := le7.2 _ _ at5007
  replace at6003 := le7.2 _ _ at6003
  replace lv_v22 := Keep.le lv_v22 le7
  replace lv_v26 := Keep.le lv_v26 le7
  replace lv_v29 := Keep.le lv_v29 le7
  replace h0 := base_h0.mono hle
  clear hb1
  have hb1 : Fun.At _ g1 0 d p := ⟨Mem.of_get at1, h0⟩
  refine .r0 rfl rfl (.fillR rfl sz_31_D rfl rfl rfl rfl (by assumption) (by first | rfl | exact Nat.le_of_ble_eq_true rfl | simp)) ?_
  rintro _ H7006 ⟨rfl, st7006, at7006⟩
  replace hle := hle.st st7006 (fun k hk => ⟨by omega, trivial⟩)
  replace at1 := st7006.same _ _ ⟨(by first | assumption | omega), trivial⟩ at1
  replace at5007 := st7006.same _ _ ⟨(by first | assumption | omega), trivial⟩ at5007
  replace at6003 := st7006.same _ _ ⟨(by first | assumption | omega), trivial⟩ at6003
  replace lv_v22 := Keep.st lv_v22 st7006 (fun k hb hk => ⟨by omega, trivial⟩)
  replace v22 := bs_v22.keep lv_v22 (Nat.le_refl _)
  replace lv_v26 := Keep.st lv_v26 st7006 (fun k hb hk => ⟨by omega, trivial⟩)
  replace lv_v29 := Keep.st lv_v29 st7006 (fun k hb hk => ⟨by omega, trivial⟩)
  replace v29 := bs_v29.keep lv_v29 (Nat.le_refl _)
  have lt_at7006 := GHeap.ltg at7006
  replace h0 := base_h0.mono hle
  clear hb1
  have hb1 : Fun.At _ g1 0 d p := ⟨Mem.of_get at1, h0⟩
  have hi1 := hb1.2
  have i22 := v22.inn
  have i29 := v29.inn
  refine .mv rfl (.nil (hK9 _ _ (.seq (fun K10 hK10 => .seq (fun K11 hK11 => .region ?_)))))
  refine .m rfl rfl rfl (.loadM ag_31_D rfl ⟨rfl, Mem.of_get at7006⟩) ?_
  refine .m rfl rfl rfl (.loadM ag_31_D rfl ⟨rfl, Mem.of_get at5007⟩) ?_
  refine .callQ rfl rfl rfl rfl @Try.call23 rfl (eqCategory_c) ?_
  refine .m rfl rfl rfl (.not rfl) (.mv rfl ?_)
  refine .split (fun h36 => ?_) (fun h36 => ?_)
  ·
   try simp only [sps] at h36
   refine .sg rfl rfl rfl rfl rfl (.sg rfl rfl rfl rfl rfl (.sg rfl rfl rfl rfl rfl (.m rfl rfl rfl (.pickT rfl rfl) (.nil (hK11 _ _ ?_)))))
   refine .condT rfl ?_
   refine .seq (fun K12 hK12 => .region (.mv rfl (.nil (hK12 _ _ ?_))))
   refine .ret ?_
   refine hret _ _ ?_
   refine ⟨_, rfl, ?_⟩
   first
   | exact rfl
   | exact absurd trivial (by assumption)
   | contradiction
   | (exfalso; omega)
  try simp only [sps] at h36
  refine .mg rfl rfl rfl rfl rfl (.move rfl) (.mg rfl rfl rfl rfl rfl (.move rfl) (.mg rfl rfl rfl rfl rfl (.cmp rfl rfl rfl) (.m rfl rfl rfl (.pickF rfl rfl) (.nil (hK11 _ _ ?_)))))
  refine .cond rfl (fun h40 => ?_) (fun h40 => ?_)
  ·
   try simp only [sps] at h40
   refine .seq (fun K13 hK13 => .region (.mv rfl (.nil (hK13 _ _ ?_))))
   refine .ret ?_
   refine hret _ _ ?_
   refine ⟨_, rfl, ?_⟩
   first
   | exact rfl
   | exact absurd trivial (by assumption)
   | contradiction
   | (exfalso; omega)
  try simp only [sps] at h40
  refine .skip ?_
  refine hK10 _ _ (.seq (fun K14 hK14 => .seq (fun K15 hK15 => ?_)))
  refine .regionD mo_B (.q 0 (.q 1 (.c 2 1 (.c 3 0 (.q 4 (.done)))))) (by kernel_rfl) ?_
  refine .m rfl rfl rfl rfl (.refl _) (.loadM ag_33_E rfl ⟨rfl, Mem.of_get at6003⟩) ?_
  refine .m rfl rfl rfl rfl (.refl _) (.loadM ag_27_LConeCategory rfl ⟨rfl, Mem.of_get at1⟩) ?_
  refine .call1 rfl rfl rfl rfl rfl @Try.call10 rfl (toFunctor_c) ?_
  rintro _ H43 ⟨le43, p43, rfl, v43⟩
  have hbl := le43
  refine ⟨hbl, ?_⟩
  have nx_H43 := le43.1
  replace hle := hle.trans le43
  replace at1 := le43.2 _ _ at1
  replace at5007 := le43.2 _ _ at5007
  replace at6003 := le43.2 _ _ at6003
  replace at7006 := le43.2 _ _ at7006
  replace lv_v22 := Keep.le lv_v22 le43
  replace lv_v26 := Keep.le lv_v26 le43
  replace v26 := bs_v26.keep lv_v26 (Nat.le_refl _)
  replace lv_v29 := Keep.le lv_v29 le43
  replace h0 := base_h0.mono hle
  clear hb1 hi1
  have hb1 : Fun.At _ g1 0 d p := ⟨Mem.of_get at1, h0⟩
  clear i22
  have i26 := v26.inn
  clear i29
  have i43 := v43.inn
  refine .callQ0 rfl rfl rfl rfl rfl @Try.call13 rfl (eqFunctor_c) ?_
  refine .m rfl rfl rfl rfl (.refl _) (.not rfl) ?_
  refine .done ?_
  refine hK15 _ _ ?_
  refine .cond rfl (fun h45 => ?_) (fun h45 => ?_)
  ·
   try simp only [sps] at h45
   refine .seq (fun K16 hK16 => .region (.mv rfl (.nil (hK16 _ _ ?_))))
   refine .ret ?_
   refine hret _ _ ?_
   refine ⟨_, rfl, ?_⟩
   first
   | exact rfl
   | exact absurd trivial (by assumption)
   | contradiction
   | (exfalso; omega)
  try simp only [sps] at h45
  refine .skip ?_
  refine hK14 _ _ (.seq (fun K17 hK17 => .region (.mv rfl (.nil (hK17 _ _ (.seq (fun K18 hK18 => .region ?_)))))))
  refine .m rfl rfl rfl (.loadM ag_33_E rfl ⟨rfl, Mem.of_get at6003⟩) ?_
  refine .mv rfl ?_
  have w_v26 := FunW.of_at bs_v26 lv_v26
  refine .call rfl rfl rfl rfl @Try.call14 rfl (markFunctor_c) ?_
  rintro _ H48 ⟨rfl, mk48⟩
  have sm48 := mk48.stm
  have nx_H48 := sm48.nx
  replace hle := StM.le_left hle sm48 (by omega)
  replace at1 := sm48.same _ _ (by omega) at1
  replace at5007 := sm48.same _ _ (by omega) at5007
  replace at7006 := sm48.same _ _ (by omega) at7006
  replace lv_v22 := Keep.stM lv_v22 sm48 (fun k hb hk => by omega)
  replace v22 := bs_v22.keep lv_v22 (Nat.le_refl _)
  replace lv_v29 := Keep.stM lv_v29 sm48 (fun k hb hk => by omega)
  replace v29 := bs_v29.keep lv_v29 (Nat.le_refl _)
  replace h0 := base_h0.mono hle
  clear hb1
  have hb1 : Fun.At _ g1 0 d p := ⟨Mem.of_get at1, h0⟩
  have i22 := v22.inn
  have i29 := v29.inn
  clear i43
  refine .mv rfl (.nil (hK18 _ _ (.seq (fun K19 hK19 => .seq (fun K20 hK20 => .region (.mv rfl (.m rfl rfl rfl (.cmp rfl rfl rfl) (.mv rfl ?_))))))))
  refine .split (fun h51 => ?_) (fun h51 => ?_)
  ·
   try simp only [sps] at h51
   refine .sg rfl rfl rfl rfl rfl (.sg rfl rfl rfl rfl rfl (.sg rfl rfl rfl rfl rfl (.sg rfl rfl rfl rfl rfl (.m rfl rfl rfl (.pickT rfl rfl) (.mv rfl (.sg rfl rfl rfl rfl rfl (.sg rfl rfl rfl rfl rfl (.sg rfl rfl rfl rfl rfl (.m rfl rfl rfl (.pickT rfl rfl) (.nil (hK20 _ _ ?_)))))))))))
   refine .condT rfl ?_
   refine .seq (fun K21 hK21 => .region (.mv rfl (.nil (hK21 _ _ ?_))))
   refine .ret ?_
   refine hret _ _ ?_
   refine ⟨_, rfl, ?_⟩
   first
   | exact rfl
   | exact absurd trivial (by assumption)
   | contradiction
   | (exfalso; omega)
  try simp only [sps] at h51
  refine .mg rfl rfl rfl rfl rfl (.loadM ag_31_D rfl ⟨rfl, Mem.of_get at7006⟩) ?_
  refine .mg rfl rfl rfl rfl rfl (.loadM ag_31_D rfl ⟨rfl, Mem.of_get at5007⟩) ?_
  refine .callQg rfl rfl rfl rfl rfl rfl @Try.call23 rfl (eqCategory_c) ?_
  refine .mg rfl rfl rfl rfl rfl (.not rfl) (.m rfl rfl rfl (.pickF rfl rfl) (.mv rfl ?_))
  refine .split (fun h57 => ?_) (fun h57 => ?_)
  ·
   try simp only [sps] at h57
   refine .sg rfl rfl rfl rfl rfl (.sg rfl rfl rfl rfl rfl (.sg rfl rfl rfl rfl rfl (.m rfl rfl rfl (.pickT rfl rfl) (.nil (hK20 _ _ ?_)))))
   refine .condT rfl ?_
   refine .seq (fun K22 hK22 => .region (.mv rfl (.nil (hK22 _ _ ?_))))
   refine .ret ?_
   refine hret _ _ ?_
   refine ⟨_, rfl, ?_⟩
   first
   | exact rfl
   | exact absurd trivial (by assumption)
   | contradiction
   | (exfalso; omega)
  try simp only [sps] at h57
  refine .mg rfl rfl rfl rfl rfl (.move rfl) (.mg rfl rfl rfl rfl rfl (.move rfl) (.mg rfl rfl rfl rfl rfl (.cmp rfl rfl rfl) (.m rfl rfl rfl (.pickF rfl rfl) (.nil (hK20 _ _ ?_)))))
  refine .cond rfl (fun h61 => ?_) (fun h61 => ?_)
  ·
   try simp only [sps] at h61
   refine .seq (fun K23 hK23 => .region (.mv rfl (.nil (hK23 _ _ ?_))))
   refine .ret ?_
   refine hret _ _ ?_
   refine ⟨_, rfl, ?_⟩
   first
   | exact rfl
   | exact absurd trivial (by assumption)
   | contradiction
   | (exfalso; omega)
  try simp only [sps] at h61
  refine .skip ?_
  refine hK19 _ _ (.seq (fun K24 hK24 => .region (.mv rfl (.nil (hK24 _ _ (.seq (fun K25 hK25 => .region ?_)))))))
  refine .m rfl rfl rfl (.loadM ag_31_D rfl ⟨rfl, Mem.of_get at7006⟩) ?_
  refine .mv rfl ?_
  have w_v29 := CatW.of_r bs_v29 lv_v29
  refine .call rfl rfl rfl rfl @Try.call26 rfl (markCategory_c) ?_
  rintro _ H64 ⟨rfl, mk64⟩
  have sm64 := mk64.stm
  have nx_H64 := sm64.nx
  replace hle := StM.le_left hle sm64 (by omega)
  replace at1 := sm64.same _ _ (by omega) at1
  replace at5007 := sm64.same _ _ (by omega) at5007
  replace at7006 := sm64.same _ _ (by omega) at7006
  replace lv_v22 := Keep.stM lv_v22 sm64 (fun k hb hk => by omega)
  replace h0 := base_h0.mono hle
  clear hb1
  have hb1 : Fun.At _ g1 0 d p := ⟨Mem.of_get at1, h0⟩
  have hi1 := hb1.2
  clear i22
  have hd64 := mk64.held (v29.2)
  have wd64 := w_v29.stm sm64
  have bs_hd64 := hd64
  have lv_hd64 : Keep H6003.next H64 H64 := fun _ _ _ h => h
  have bs_wd64 := wd64
  have lv_wd64 : Keep H6003.next H64 H64 := fun _ _ _ h => h
  refine .mv rfl (.nil (hK25 _ _ (.seq (fun K26 hK26 => .region (.mv rfl (.nil (hK26 _ _ (.seq (fun K27 hK27 => .region ?_)))))))))
  refine .m rfl rfl rfl (.loadM ag_31_D rfl ⟨rfl, Mem.of_get at7006⟩) ?_
  refine .mv rfl ?_
  refine .callQ rfl rfl rfl rfl @Try.call27 rfl (heldCategory_c) ?_
  refine .mv rfl (.nil (hK27 _ _ (.seq (fun K28 hK28 => .seq (fun K29 hK29 => .region (.mv rfl (.m rfl rfl rfl (.cmp rfl rfl rfl) (.nil (hK29 _ _ ?_)))))))))
  refine .cond rfl (fun h69 => ?_) (fun h69 => ?_)
  ·
   try simp only [sps] at h69
   refine .seq (fun K30 hK30 => .region (.mv rfl (.nil (hK30 _ _ ?_))))
   refine .ret ?_
   refine hret _ _ ?_
   refine ⟨_, rfl, ?_⟩
   first
   | exact rfl
   | exact absurd trivial (by assumption)
   | contradiction
   | (exfalso; omega)
  try simp only [sps] at h69
  refine .skip ?_
  refine hK28 _ _ (.seq (fun K31 hK31 => .seq (fun K32 hK32 => .region (.mv rfl (.mv rfl (.m rfl rfl rfl (.cmp rfl rfl rfl) (.nil (hK32 _ _ ?_))))))))
  refine .cond rfl (fun h72 => ?_) (fun h72 => ?_)
  ·
   try simp only [sps] at h72
   refine .seq (fun K33 hK33 => .region (.mv rfl (.nil (hK33 _ _ ?_))))
   refine .ret ?_
   refine hret _ _ ?_
   refine ⟨_, rfl, ?_⟩
   first
   | exact rfl
   | exact absurd trivial (by assumption)
   | contradiction
   | (exfalso; omega)
  try simp only [sps] at h72
  refine .skip ?_
  refine hK31 _ _ (.seq (fun K34 hK34 => .region ?_))
  refine .m rfl rfl rfl (.loadM ag_27_LConeCategory rfl ⟨rfl, Mem.of_get at1⟩) ?_
  refine .call rfl rfl rfl rfl @Try.call10 rfl (toFunctor_c) ?_
  rintro _ H75 ⟨le75, p75, rfl, v75⟩
  have nx_H75 := le75.1
  replace hle := hle.trans le75
  replace at1 := le75.2 _ _ at1
  replace at5007 := le75.2 _ _ at5007
  replace at7006 := le75.2 _ _ at7006
  replace lv_v22 := Keep.le lv_v22 le75
  replace lv_hd64 := Keep.le lv_hd64 le75
  replace lv_wd64 := Keep.le lv_wd64 le75
  replace h0 := base_h0.mono hle
  clear hb1 hi1
  have hb1 : Fun.At _ g1 0 d p := ⟨Mem.of_get at1, h0⟩
  have i75 := v75.inn
  refine .call rfl rfl rfl rfl @Try.call29 rfl (implConeCategory_c) ?_
  rintro _ H76 ⟨le76, p76, rfl, v76⟩
  have nx_H76 := le76.1
  replace hle := hle.trans le76
  replace at1 := le76.2 _ _ at1
  replace at5007 := le76.2 _ _ at5007
  replace at7006 := le76.2 _ _ at7006
  replace lv_v22 := Keep.le lv_v22 le76
  replace lv_hd64 := Keep.le lv_hd64 le76
  replace lv_wd64 := Keep.le lv_wd64 le76
  have bs_v76 := v76
  have lv_v76 : Keep H75.next H76 H76 := fun _ _ _ h => h
  replace h0 := base_h0.mono hle
  clear hb1
  have hb1 : Fun.At _ g1 0 d p := ⟨Mem.of_get at1, h0⟩
  clear i75
  refine .mv rfl (.m rfl rfl rfl (.extract rfl rfl) (.m rfl rfl rfl (.extract rfl rfl) ?_))
  refine .r rfl rfl rfl (.allocR rfl ze_31_E rfl) ?_
  rintro _ H12 ⟨g12, rfl, le12, ge12, at12⟩
  replace hle := hle.trans le12
  replace at1 := le12.2 _ _ at1
  replace at5007 := le12.2 _ _ at5007
  replace at7006 := le12.2 _ _ at7006
  replace lv_v22 := Keep.le lv_v22 le12
  replace lv_hd64 := Keep.le lv_hd64 le12
  replace lv_wd64 := Keep.le lv_wd64 le12
  replace lv_v76 := Keep.le lv_v76 le12
  replace h0 := base_h0.mono hle
  clear hb1
  have hb1 : Fun.At _ g1 0 d p := ⟨Mem.of_get at1, h0⟩
  refine .r0 rfl rfl (.fillR rfl sz_31_D rfl rfl rfl rfl (by assumption) (by first | rfl | exact Nat.le_of_ble_eq_true rfl | simp)) ?_
  rintro _ H24007 ⟨rfl, st24007, at24007⟩
  replace hle := hle.st st24007 (fun k hk => ⟨by omega, trivial⟩)
  replace at1 := st24007.same _ _ ⟨(by first | assumption | omega), trivial⟩ at1
  replace at5007 := st24007.same _ _ ⟨(by first | assumption | omega), trivial⟩ at5007
  replace at7006 := st24007.same _ _ ⟨(by first | assumption | omega), trivial⟩ at7006
  replace lv_v22 := Keep.st lv_v22 st24007 (fun k hb hk => ⟨by omega, trivial⟩)
  replace v22 := bs_v22.keep lv_v22 (Nat.le_refl _)
  replace lv_hd64 := Keep.st lv_hd64 st24007 (fun k hb hk => ⟨by omega, trivial⟩)
  replace hd64 := bs_hd64.keep lv_hd64 (Nat.le_refl _)
  replace lv_wd64 := Keep.st lv_wd64 st24007 (fun k hb hk => ⟨by omega, trivial⟩)
  replace wd64 := bs_wd64.keep lv_wd64 (Nat.le_refl _)
  replace lv_v76 := Keep.st lv_v76 st24007 (fun k hb hk => ⟨by omega, trivial⟩)
  replace v76 := bs_v76.keep lv_v76 (Nat.le_refl _)
  replace h0 := base_h0.mono hle
  clear hb1
  have hb1 : Fun.At _ g1 0 d p := ⟨Mem.of_get at1, h0⟩
  have i22 := v22.inn
  have i76 := v76.inn
  refine .mv rfl (.nil (hK34 _ _ (.seq (fun K35 hK35 => .seq (fun K36 hK36 => .region ?_)))))
  refine .m rfl rfl rfl (.loadM ag_31_D rfl ⟨rfl, Mem.of_get at24007⟩) ?_
  refine .m rfl rfl rfl (.loadM ag_31_D rfl ⟨rfl, Mem.of_get at5007⟩) ?_
  refine .callQ rfl rfl rfl rfl @Try.call23 rfl (eqCategory_c) ?_
  refine .m rfl rfl rfl (.not rfl) (.mv rfl ?_)
  refine .split (fun h83 => ?_) (fun h83 => ?_)
  ·
   try simp only [sps] at h83
   refine .sg rfl rfl rfl rfl rfl (.sg rfl rfl rfl rfl rfl (.sg rfl rfl rfl rfl rfl (.m rfl rfl rfl (.pickT rfl rfl) (.nil (hK36 _ _ ?_)))))
   refine .condT rfl ?_
   refine .seq (fun K37 hK37 => .region (.mv rfl (.nil (hK37 _ _ ?_))))
   refine .ret ?_
   refine hret _ _ ?_
   refine ⟨_, rfl, ?_⟩
   first
   | exact rfl
   | exact absurd trivial (by assumption)
   | contradiction
   | (exfalso; omega)
  try simp only [sps] at h83
  refine .mg rfl rfl rfl rfl rfl (.move rfl) (.mg rfl rfl rfl rfl rfl (.move rfl) (.mg rfl rfl rfl rfl rfl (.cmp rfl rfl rfl) (.m rfl rfl rfl (.pickF rfl rfl) (.nil (hK36 _ _ ?_)))))
  refine .cond rfl (fun h87 => ?_) (fun h87 => ?_)
  ·
   try simp only [sps] at h87
   refine .seq (fun K38 hK38 => .region (.mv rfl (.nil (hK38 _ _ ?_))))
   refine .ret ?_
   refine hret _ _ ?_
   refine ⟨_, rfl, ?_⟩
   first
   | exact rfl
   | exact absurd trivial (by assumption)
   | contradiction
   | (exfalso; omega)
  try simp only [sps] at h87
  refine .skip ?_
  refine hK35 _ _ (.seq (fun K39 hK39 => .region (.mv rfl (.nil (hK39 _ _ (.seq (fun K40 hK40 => .region ?_)))))))
  refine .m rfl rfl rfl (.loadM ag_31_D rfl ⟨rfl, Mem.of_get at7006⟩) ?_
  refine .mv rfl ?_
  refine .callQ rfl rfl rfl rfl @Try.call27 rfl (heldCategory_c) ?_
  refine .mv rfl (.nil (hK40 _ _ (.seq (fun K41 hK41 => .seq (fun K42 hK42 => .region (.mv rfl (.m rfl rfl rfl (.cmp rfl rfl rfl) (.nil (hK42 _ _ ?_)))))))))
  refine .cond rfl (fun h92 => ?_) (fun h92 => ?_)
  ·
   try simp only [sps] at h92
   refine .seq (fun K43 hK43 => .region (.mv rfl (.nil (hK43 _ _ ?_))))
   refine .ret ?_
   refine hret _ _ ?_
   refine ⟨_, rfl, ?_⟩
   first
   | exact rfl
   | exact absurd trivial (by assumption)
   | contradiction
   | (exfalso; omega)
  try simp only [sps] at h92
  refine .skip ?_
  refine hK41 _ _ (.seq (fun K44 hK44 => .seq (fun K45 hK45 => .region (.mv rfl (.mv rfl (.m rfl rfl rfl (.cmp rfl rfl rfl) (.nil (hK45 _ _ ?_))))))))
  refine .cond rfl (fun h95 => ?_) (fun h95 => ?_)
  ·
   try simp only [sps] at h95
   refine .seq (fun K46 hK46 => .region (.mv rfl (.nil (hK46 _ _ ?_))))
   refine .ret ?_
   refine hret _ _ ?_
   refine ⟨_, rfl, ?_⟩
   first
   | exact rfl
   | exact absurd trivial (by assumption)
   | contradiction
   | (exfalso; omega)
  try simp only [sps] at h95
  refine .skip ?_
  refine hK44 _ _ (.seq (fun K47 hK47 => .region (.mv rfl (.nil (hK47 _ _ ?_)))))
  refine .ret ?_
  refine hret _ _ ?_
  refine ⟨_, rfl, ?_⟩
  first
  | exact rfl
  | exact absurd trivial (by assumption)
  | contradiction
  | (exfalso; omega)
end Go.Proofs.Ytagkeabmdodfiaa
namespace Go.GL
open Go.RowKit Go.WideShapes Go.ChangeShapes Go.Deep

structure Imp1 (P : Program) (t : TypeId) (R : GHeap → Value → Prop) : Prop where
  mono : ∀ {H H' : GHeap} {g : Value}, H.Le H' → R H g → R H' g
  imp : ∀ {T : Type} {enc : TypeId × Value → T} {B : Nat} {w0 : World} {ρ : Place} {H : GHeap} {w : World} {held : Bool} {base fuel : Nat} {v : Value} {x : DataW T × List MemPlace}, Sim P B w0 ρ H w → w.heap.size ≤ B →
    DataW.trod enc P w 0 (fun _ => true) held fuel t v.cells.toList = some x → Value.okWide P w .any base t v → ∃ ρ' H' g, Sim P B w0 ρ' H' w ∧ Ext ρ ρ' ∧ H.Le H' ∧ VRel ρ' g v ∧ R H' g

def structT (P : Program) (t : TypeId) : Bool := match P.underlying t with | some (.struct _) => true | _ => false
theorem imp1_struct {P : Program} {t : TypeId} {α β : Type} {cells : α → β → List Value} {I : GHeap → α → β → Prop} {W : α → Prop} (hm : ∀ {H H' : GHeap} {c : α} {p : β}, I H c p → H.Le H' → I H' c p)
    (hI : Imports P t (fun ρ H cs => ∃ (c : α) (p : β), LRel ρ (cells c p) cs ∧ I H c p ∧ W c)) (hst : structT P t = true) : Imp1 P t (fun H g => ∃ (c : α) (p : β), g = .agg (cells c p).toArray ∧ I H c p ∧ W c) where
  mono h := fun ⟨c, p, h1, h2, h3⟩ => ⟨c, p, h1, hm h2 h, h3⟩
  imp := by
    intro T enc B w0 ρ H w held base fuel v x hs hB h hv
    have hagg : ∃ cs, v = .agg cs := by
      unfold Value.okWide at hv
      unfold structT at hst
      split at hst
      · rename_i fs hu
        rw [hu] at hv
        obtain ⟨cs, h, _⟩ := hv
        exact ⟨cs, h⟩
      · cases hst
    obtain ⟨cs, rfl⟩ := hagg
    obtain ⟨ρ', H', h1, h2, h3, c, p, h4, h5, h6⟩ := hI hs hB h
    exact ⟨ρ', H', _, h1, h2, h3, by have := VRel.agg_of h4; simpa [Value.cells] using this, c, p, rfl, h5, h6⟩
structure ImpAll (P : Program) (ts : List TypeId) (R : GHeap → List Value → Prop) : Prop where
  imp : ∀ {T : Type} {enc : TypeId × Value → T} {B : Nat} {w0 : World} {ρ : Place} {H : GHeap} {w : World} {base : Nat} {vs : List Value} {ds : List (DataW T)} {ps : List MemPlace}, Sim P B w0 ρ H w → w.heap.size ≤ B →
    DataW.TrodAll enc P w 0 (fun _ => true) true ts vs ds ps → (∀ (j : Nat) t v, ts[j]? = some t → vs[j]? = some v → Value.okWide P w .any base t v) → ds.length = ts.length ∧ ∃ ρ' H' gs, Sim P B w0 ρ' H' w ∧ Ext ρ ρ' ∧ H.Le H' ∧ LRel ρ' gs vs ∧ R H' gs
theorem ImpAll.nil {P : Program} : ImpAll P [] (fun _ gs => gs = []) where
  imp := by
    intro T enc B w0 ρ H w base vs ds ps hs hB h hv
    obtain ⟨rfl, rfl, rfl⟩ := trodAll_nil h
    exact ⟨rfl, ρ, H, [], hs, .refl ρ, .refl H, .nil ρ, rfl⟩
theorem ImpAll.cons {P : Program} {t : TypeId} {ts : List TypeId} {R1 : GHeap → Value → Prop} {R : GHeap → List Value → Prop} (h1 : Imp1 P t R1) (h2 : ImpAll P ts R) : ImpAll P (t :: ts) (fun H gs => ∃ g r, gs = g :: r ∧ R1 H g ∧ R H r) where
  imp := by
    intro T enc B w0 ρ H w base vs ds ps hs hB h hv
    obtain ⟨v, vs, d, ds, p, q, rfl, rfl, rfl, ⟨fuel, k1⟩, k2⟩ := trodAll_cons h
    obtain ⟨ρ1, H1, g, s1, e1, l1, v1, r1⟩ := h1.imp hs hB k1 (hv 0 t v rfl rfl)
    obtain ⟨hl, ρ2, H2, gs, s2, e2, l2, v2, r2⟩ := h2.imp s1 hB k2 (fun j t v ht hj => hv (j + 1) t v (by simpa using ht) (by simpa using hj))
    exact ⟨by simp [hl], ρ2, H2, g :: gs, s2, e1.trans e2, l1.trans l2, .cons (v1.mono e2) v2, g, gs, rfl, h1.mono l2 r1, r2⟩

theorem law_calls {P : Program} {f : FuncId} {fn : Func} {ts : List TypeId} {tb : TypeId} {R : GHeap → List Value → Prop} (hI : ImpAll P ts R) (hp : fn.params = ts.toArray)
    (hc : ∀ H gs, R H gs → GCalls P f gs H fun v _ => v = .bool true)
    {T : Type} {enc : TypeId × Value → T} {W : World} {base : Nat} {args : Array Value} {s : ChangeSpec} {apart fresh handsOn again : Bool} {ds gs : List (DataW T)} {before : List MemPlace}
    (hval : ∀ (j : Nat) t v, fn.params[j]? = some t → args[j]? = some v → Value.okWide P W .any base t v)
    (hW : DataW.Whole enc P fn.params.toList s.vars apart W args.toList ds gs before)
    (hl : laidOutB P = true) (hr : readB P fn.params.toList = true) (hv : s.vars = []) (hrt : fn.resultTypes = #[tb]) (htb : P.underlying tb = some .bool)
    (hs : ∀ ds : List (DataW T), ds.length = ts.length → (s.fn T ds).results = [.lit (.bool true)] ∧ (s.fn T ds).args = ds ∧ (s.fn T ds).vars = []) :
    Calls P f args W fun e W' => ∃ v, e = .returned v ∧ s.post enc P fn apart fresh handsOn again W args v W' := by
  have hWW := hW
  obtain ⟨p, q, hA, _⟩ := hW
  rw [hp] at hA
  obtain ⟨hlen, ρ, H, gs', hs', _, _, hrel, hR⟩ := hI.imp (base := base) (Sim.start P W) (Nat.le_refl _) (by simpa using hA) (fun j t v ht hj => hval j t v (by rw [hp]; simpa using ht) (by simpa using hj))
  have := (hc H gs' hR) _ _ ρ args.toList W hs' hrel
  rw [Array.toArray_toList] at this
  refine this.mono fun e W' ⟨v, c, ρ', H', he, hv', _, hsim, hrv⟩ => ?_
  subst hv'
  cases hrv
  exact ⟨_, he, law_post hl hr hv hrt htb hWW (hs ds hlen).1 (hs ds hlen).2.1 (hs ds hlen).2.2 hsim.below⟩
end Go.GL
