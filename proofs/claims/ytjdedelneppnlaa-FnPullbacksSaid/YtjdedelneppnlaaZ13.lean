/- Structs of numbers as keys of maps. No condition but those of each statement. -/
import Derived.Test.YtjdedelneppnlaaZ12
import Derived.ChangeKeysEq
namespace Go.GL
open Go.RowKit
theorem forIn_ok {P : Program} {α : Type} {w : World} (f : α → PUnit → Sem (ForInStep PUnit)) : ∀ (l : List α), (∀ a ∈ l, (f a ⟨⟩).run P w = .ok (.yield ⟨⟩) w) → (forIn l PUnit.unit f : Sem PUnit).run P w = .ok ⟨⟩ w
  | [], _ => by simp [Sem.run_pure]
  | a :: l, h => by
    simp only [List.forIn_cons, Sem.run_bind, h a (by simp), Result.andThen_ok]
    exact forIn_ok f l fun b hb => h b (by simp [hb])
def intKeyT (P : Program) (k : TypeId) (n : Nat) : Bool := (P.fieldsOf k).toList.all fun f => P.plainKey f.type && (decide (f.offset < n) && match P.underlying f.type with | some (.int _) => true | _ => false)
theorem checkKeyT {P : Program} {k : TypeId} {n : Nat} (hu : P.underlying k = some (.struct (P.fieldsOf k))) (hf : intKeyT P k n = true) (b : Bool) {t : List Int} (ht : t.length = n) (w : World) : (Instr.checkKey b 10000 k (kvT t)).run P w = .ok () w := by
  show (Instr.checkKey b (9999 + 1) k (.agg (t.map (Value.int .i64)).toArray)).run P w = .ok () w
  unfold Instr.checkKey
  simp only [Sem.run_bind, run_underlying hu, Result.andThen_ok]
  rw [← Array.forIn_toList]
  rw [forIn_ok _ _ (fun f hfm => ?_)]
  · simp [Sem.run_pure]
  have h := List.all_eq_true.1 hf f hfm
  simp only [Bool.and_eq_true, decide_eq_true_eq] at h
  obtain ⟨h1, h2, h3⟩ := h
  have hq : ∃ q, P.underlying f.type = some (.int q) := by
    split at h3
    · rename_i q e; exact ⟨q, e⟩
    · cases h3
  obtain ⟨q, hq⟩ := hq
  have hc : ((t.map (Value.int .i64)).toArray)[f.offset]? = some (.int .i64 (t[f.offset]'(by omega))) := by simp [show f.offset < t.length by omega]
  have hck : ∀ v, (Instr.checkKey b 9999 f.type v).run P w = .ok () w := fun v => by
    show (Instr.checkKey b (9998 + 1) f.type v).run P w = .ok () w
    unfold Instr.checkKey
    simp [Sem.run_bind, run_underlying hq]
  by_cases hn : f.name = "_"
  · simp [hn, Sem.run_pure]
  · simp only [ne_eq, hn, not_false_eq_true, if_true, Sem.run_bind, run_part_plain w h1 hc, Result.andThen_ok, hck, Sem.run_pure]
end Go.GL
namespace Go.Proofs.Ytjdedelneppnlaa
open Go Go.GL Go.RowKit Go.Proofs
theorem bt_125_Li : buildT Try.prog 125 = some ([.pointer none, .int .i64 0, .int .i64 0, .nilFunc, .bool false], [(0, 1), (1, 1), (2, 1), (3, 1), (4, 1)]) := by kernel_rfl
theorem sz_125_Li : (Try.prog.info? 125).map (·.size) = some 5 := by kernel_rfl
theorem sl_100_Li : sliceT Try.prog 100 = some (102, 2) := by kernel_rfl
theorem ze_102_Li : zeroT Try.prog 102 = some ([.int .i64 0, .int .i64 0], 2) := by kernel_rfl
theorem fo_125_0_Li : fieldOff Try.prog 125 0 = some 0 := by kernel_rfl
theorem fo_125_1_Li : fieldOff Try.prog 125 1 = some 1 := by kernel_rfl
theorem fo_125_4_Li : fieldOff Try.prog 125 4 = some 4 := by kernel_rfl
theorem on_4_Li : oneT Try.prog 4 = true := by kernel_rfl
theorem fo_125_3_Li : fieldOff Try.prog 125 3 = some 3 := by kernel_rfl
theorem on_123_Li : oneT Try.prog 123 = true := by kernel_rfl
theorem bt_102_Li : buildT Try.prog 102 = some ([.int .i64 0, .int .i64 0], [(0, 1), (1, 1)]) := by kernel_rfl
theorem by_102_Li : (Try.prog.info? 102).map (·.bytes) = some 16 := by kernel_rfl
theorem fo_125_2_Li : fieldOff Try.prog 125 2 = some 2 := by kernel_rfl
theorem mtt_151_Li : mapTT Try.prog 151 = some (102, 4) := by kernel_rfl
theorem sz_102_Li : (Try.prog.info? 102).map (·.size) = some 2 := by kernel_rfl
theorem fo_102_0_Li : fieldOff Try.prog 102 0 = some 0 := by kernel_rfl
theorem fo_102_1_Li : fieldOff Try.prog 102 1 = some 1 := by kernel_rfl
theorem ag_102_Li : aggT Try.prog 102 = some 2 := by kernel_rfl
theorem pullbacks1_c {c : Cat} {p : CatP} {g g3 g4 g5 : Nat} {e1 e2 e3 : TypeId} {a b f k : Int} {H : GHeap} (h : Cat.At H g 0 c p) (h3 : H.get g3 = some (.row [.pointer (some ⟨g, 0, none⟩)] e1 true)) (h4 : H.get g4 = some (.row [.int .i64 f] e2 true)) (h5 : H.get g5 = some (.row [.int .i64 k] e3 true)) (hS : c.Shape) (ha : 0 ≤ a ∧ a < c.src.length) (hb : 0 ≤ b ∧ b < c.src.length) (hf : 0 ≤ f ∧ f < c.src.length) (hk : 0 ≤ k ∧ k < c.src.length) :
    GCalls Try.prog 112 [.int .i64 a, .int .i64 b, .pointer (some ⟨g3, 0, none⟩), .pointer (some ⟨g4, 0, none⟩), .pointer (some ⟨g5, 0, none⟩)] H (Ret (.bool (decide (c.th a f = c.th b k))) H) := by
  refine GCalls.body (N := 17) (rs := [.tmp 7]) Try.func112 rfl rfl rfl rfl (fun Qx hret hend => ?_)
  refine .fg [0, 1, 2, 3, 4] rfl ?_
  have base_h := h
  refine .seq (fun K1 hK1 => .region (.mv rfl (.nil (hK1 _ _ (.seq (fun K2 hK2 => ?_))))))
  refine .regionD mo_B (.q 0 (.q 1 (.q 2 (.q 4 (.q 5 (.q 6 (.c 3 1 (.c 7 0 (.q 8 (.q 9 (.done))))))))))) (by kernel_rfl) ?_
  refine .q rfl (.load on_69_Fc rfl (by first | assumption | exact Mem.of_get h3 0 _ rfl)) ?_
  refine .mv rfl rfl ?_
  refine .q rfl (.load on_2_A rfl (by first | assumption | exact Mem.of_get h4 0 _ rfl)) ?_
  refine .q rfl (.load on_69_Fc rfl (by first | assumption | exact Mem.of_get h3 0 _ rfl)) ?_
  refine .mv rfl rfl ?_
  refine .q rfl (.load on_2_A rfl (by first | assumption | exact Mem.of_get h5 0 _ rfl)) ?_
  refine .callQ1 rfl rfl rfl rfl rfl @Try.call64 rfl (then_s) (.refl _) ?_
  refine .callQ0 rfl rfl rfl rfl rfl @Try.call64 rfl (then_s) ?_
  refine .q rfl (.cmp rfl rfl rfl) (.mv rfl rfl ?_)
  refine .done ?_
  refine hK2 _ _ ?_
  refine .ret ?_
  refine hret _ _ ?_
  refine ⟨_, rfl, ?_⟩
  exact .of rfl
theorem pullbacks_c {c : Cat} {p : CatP} {g : Nat} {f k : Int} {H : GHeap} (h : Cat.At H g 0 c p := by assumption) (hS : c.Shape := by assumption) (hf : 0 ≤ f ∧ f < c.src.length) (hk : 0 ≤ k ∧ k < c.src.length) :
    GCalls Try.prog 66 [.pointer (some ⟨g, 0, none⟩), .int .i64 f, .int .i64 k] H (fun v H' => H.Le H' ∧ ∃ g', v = .pointer (some ⟨g', 0, none⟩) ∧ H.next ≤ g' ∧ SpnAt Try.prog 125 79 c g p H' g' (c.pull f k)) := by
  refine GCalls.body (N := 25) (rs := [.tmp 6]) Try.func66 rfl rfl rfl rfl (fun Qx hret hend => ?_)
  refine .fg [0, 1, 2] rfl ?_
  have hle := GHeap.Le.refl H
  have base_h := h
  refine .seq (fun K1 hK1 => .region ?_)
  refine .R rfl (.boxR rfl sz_69_Fc rfl) ?_
  rintro _ H3 ⟨g3, rfl, le3, ge3, at3⟩
  replace hle := hle.trans le3
  have lt_at3 := GHeap.ltg at3
  replace h := base_h.mono hle
  refine .R rfl (.boxR rfl sz_2_Tb rfl) ?_
  rintro _ H4 ⟨g4, rfl, le4, ge4, at4⟩
  replace hle := hle.trans le4
  replace at3 := le4.2 _ _ at3
  have lt_at4 := GHeap.ltg at4
  replace h := base_h.mono hle
  refine .R rfl (.boxR rfl sz_2_Tb rfl) ?_
  rintro _ H5 ⟨g5, rfl, le5, ge5, at5⟩
  replace hle := hle.trans le5
  replace at3 := le5.2 _ _ at3
  replace at4 := le5.2 _ _ at4
  have lt_at5 := GHeap.ltg at5
  replace h := base_h.mono hle
  obtain ⟨c0, c1, c2, c3, c4, i1, i2, i3, i4⟩ := h.get
  have hm : MemN _ _ _ _ _ := ⟨rfl, h.1⟩
  have hi := h.2
  refine .mv rfl (.nil (hK1 _ _ (.seq (fun K2 hK2 => ?_))))
  refine .regionD mo_B (.q 0 (.q 1 (.q 2 (.q 3 (.q 4 (.q 5 (.q 6 (.q 7 (.q 8 (.q 9 (.q 10 (.q 11 (.q 12 (.q 13 (.q 14 (.q 15 (.q 16 (.c 17 0 (.q 18 (.done)))))))))))))))))))) (by kernel_rfl) ?_
  refine .q rfl (.load on_69_Fc rfl (by first | assumption | exact Mem.of_get at3 0 _ rfl)) ?_
  refine .q rfl (.load on_69_Fc rfl (by first | assumption | exact Mem.of_get at3 0 _ rfl)) ?_
  refine .q rfl (.nilCheck rfl) (.q rfl (.fieldAddr fo_29_1_B rfl) ?_)
  refine .q rfl (.load on_22_B rfl (by assumption)) ?_
  refine .q rfl (.load on_2_A rfl (by first | assumption | exact Mem.of_get at4 0 _ rfl)) ?_
  refine .q rfl (.idx1 sl_22_A (by assumption) rfl rfl (by omega) (by omega)) ?_
  refine .q rfl (.loadI on_2_A (by assumption) rfl (by omega)) ?_
  refine .q rfl (.load on_69_Fc rfl (by first | assumption | exact Mem.of_get at3 0 _ rfl)) ?_
  refine .q rfl (.nilCheck rfl) (.q rfl (.fieldAddr fo_29_1_B rfl) ?_)
  refine .q rfl (.load on_22_B rfl (by assumption)) ?_
  refine .q rfl (.load on_2_A rfl (by first | assumption | exact Mem.of_get at5 0 _ rfl)) ?_
  refine .q rfl (.idx1 sl_22_A (by assumption) rfl rfl (by omega) (by omega)) ?_
  refine .q rfl (.loadI on_2_A (by assumption) rfl (by omega)) ?_
  refine .q rfl (.makeFunc rfl) (.q rfl (.build bt_125_Li rfl rfl rfl) ?_)
  refine .c0 rfl rfl rfl rfl (.boxR rfl sz_125_Li rfl) ?_
  rintro _ H24 ⟨g24, rfl, le24, ge24, at24⟩
  replace hle := hle.trans le24
  replace at3 := le24.2 _ _ at3
  replace at4 := le24.2 _ _ at4
  replace at5 := le24.2 _ _ at5
  replace h := base_h.mono hle
  clear c0 c1 c2 c3 c4 i1 i2 i3 i4 hm hi
  refine .mv rfl rfl ?_
  refine .done ?_
  refine hK2 _ _ ?_
  refine .ret ?_
  refine hret _ _ ?_
  refine ⟨_, rfl, ?_⟩
  refine ⟨hle, g24, rfl, by omega, _, _, at24, @Try.call112, fun H' l hc w a b ha _ hb => ?_⟩
  obtain ⟨A, a1, _, _, a4⟩ := Cat.mem_hom.1 ha
  obtain ⟨B', b1, _, _, b4⟩ := Cat.mem_hom.1 (hb Bool.false_ne_true)
  exact pullbacks1_c hc (l _ rfl _ _ at3) (l _ rfl _ _ at4) (l _ rfl _ _ at5) hS (by omega) (by omega) hf hk
set_option maxHeartbeats 4000000 in
theorem spansFrom_c {c : Cat} {p : CatP} {gc g w : Nat} {s : Spn} {H : GHeap} (h : Cat.At H gc 0 c p := by assumption) (hs : SpnAt Try.prog 125 79 c gc p H g s := by assumption) (hS : c.Shape := by assumption) :
    GCalls Try.prog 132 [.pointer (some ⟨g, 0, none⟩), .int .i64 (w : Int)] H (fun v H' => H.Le H' ∧ ∃ g', v = .slice (some ⟨g', 0, none⟩) (c.spL s w).length (c.spL s w).length ∧ H.next ≤ g' ∧ H'.get g' = some (.row (prs (c.spL s w)) 102 true)) := by
  obtain ⟨fn, cap, hg, hF⟩ := hs
  have b1 := hS.n40
  refine GCalls.body (N := 74) (rs := [.tmp 4]) Try.func132 rfl rfl rfl rfl (fun Qx hret hend => ?_)
  refine .fg [0, 1] rfl ?_
  have hle := GHeap.Le.refl H
  have lt_hg := GHeap.ltg hg
  have base_h := h
  refine .seq (fun K1 hK1 => .region (.mv rfl (.nil (hK1 _ _ (.seq (fun K2 hK2 => .region ?_))))))
  have q1 := Cat.hom_le c w s.x
  have q2 := Cat.hom_le c w s.y
  refine .R rfl (.litA rfl sl_100_Li ze_102_Li rfl rfl rfl rfl) ?_
  rintro _ H10 ⟨g10, rfl, le10, ge10, at10⟩
  replace hle := hle.trans le10
  replace hg := le10.2 _ _ hg
  have lt_at10 := GHeap.ltg at10
  replace h := base_h.mono hle
  refine .mv rfl (.nil (hK2 _ _ (.seq (fun K3 hK3 => .seq (fun K4 hK4 => ?_)))))
  refine .regionD mo_B (.q 0 (.q 1 (.q 2 (.q 3 (.q 4 (.q 5 (.q 6 (.q 7 (.q 8 (.q 11 (.c 9 1 (.q 10 (.done))))))))))))) (by kernel_rfl) ?_
  refine .mv rfl rfl (.q rfl (.nilCheck rfl) (.q rfl (.fieldAddr fo_125_0_Li rfl) ?_))
  refine .q rfl (.load on_69_Fc rfl (by first | assumption | exact Mem.of_get hg 0 _ rfl)) ?_
  refine .mv rfl rfl (.mv rfl rfl (.q rfl (.nilCheck rfl) (.q rfl (.fieldAddr fo_125_1_Li rfl) ?_)))
  refine .q rfl (.load on_2_A rfl (by first | assumption | exact Mem.of_get hg 1 _ rfl)) ?_
  refine .mv rfl rfl ?_
  refine .call1 rfl rfl rfl rfl rfl @Try.call63 rfl (hom_c) ?_
  rintro _ H20 ⟨le20, g20, rfl, at20, ge20⟩
  have hbl := le20
  refine ⟨hbl, ?_⟩
  replace hle := hle.trans le20
  replace hg := le20.2 _ _ hg
  replace at10 := le20.2 _ _ at10
  have lt_at20 := GHeap.ltg at20
  refine .m rfl rfl rfl rfl hbl (.len sl_22_A rfl) ?_
  refine .done ?_
  refine hK4 _ _ ?_
  refine .block ?_
  have hz0 : (0 : Nat) = (c.spP s w 0).length := by rw [Cat.spP_zero]; rfl
  refine .loopR (σ := Nat × Nat × Nat) [(0, some _), (1, some _), (20, some _), (21, some _)] (fun (i, gL5, nL5) => [(22, some (.int .i64 (i : Int))), (5, some (.slice (some ⟨gL5, 0, none⟩) nL5 nL5))]) (fun (i, gL5, nL5) H' => St [g10] H20 H' ∧ H'.get gL5 = some (.row (prs (c.spP s w i)) 102 true) ∧ (gL5 = g10 ∨ H20.next ≤ gL5) ∧ nL5 = (c.spP s w i).length ∧ i ≤ (c.hom w s.x).length) (fun (i, gL5, nL5) => (c.hom w s.x).length - i) ((0, _, _)) ⟨rfl, rfl, rfl, rfl, trivial⟩ ⟨rfl, rfl, trivial⟩ ?_ ?_
  ·
   refine ⟨.refl _ _, by first | assumption | (rw [Cat.spP_zero]; assumption), .inl rfl, by first | rfl | assumption | simp | omega, ?_⟩
   omega
  rintro ⟨i, gL5, nL5⟩ HL1 ⟨lst1, at_L5, pl_L5, ln_L5, hI⟩ KL1 hKL1
  refine .forget (fr' := [(22, some (.int .i64 (i : Int))), (5, some (.slice (some ⟨gL5, 0, none⟩) nL5 nL5)), (0, some _), (1, some _), (20, some _), (21, some _)]) ⟨rfl, rfl, rfl, rfl, rfl, rfl, trivial⟩ ?_
  have ge_L5 : H.next ≤ gL5 := by omega
  have nx_HL1 := lst1.nx
  replace hle := hle.st lst1 (fun k hk => ⟨by omega, trivial⟩)
  replace hg := lst1.s hg
  replace at20 := lst1.s at20
  have lt_at_L5 := GHeap.ltg at_L5
  replace h := base_h.mono hle
  have i20 := Ints.of_get at20
  have hln := Cat.spP_bound hS s w hI
  have htl := length_prs (c.spP s w i)
  refine .seq (fun K5 hK5 => .region (.q rfl (.cmp rfl rfl rfl) (.nil (hK5 _ _ (.seq (fun K6 hK6 => ?_))))))
  refine .cond rfl (fun h23 => ?_) (fun h23 => ?_)
  ·
   simp only [sps] at h23
   have hma : (c.hom w s.x).getD i 0 ∈ c.hom w s.x := getD_mem_list (by omega)
   refine .skip ?_
   refine hK6 _ _ (.seq (fun K7 hK7 => ?_))
   refine .block ?_
   refine .seq (fun K8 hK8 => .region ?_)
   refine .q rfl (.idxN sl_22_A (by first | assumption | exact SlA.of_row at20 (by first | rfl | (simp; done) | (simp <;> omega))) rfl rfl (by omega)) ?_
   refine .q rfl (.loadI on_2_A (by first | assumption | exact Ints.of_get at20) rfl (by omega)) ?_
   refine .mv rfl (.nil (hK8 _ _ (.seq (fun K9 hK9 => .seq (fun K10 hK10 => .region (.mv rfl (.q rfl (.nilCheck rfl) (.q rfl (.fieldAddr fo_125_4_Li rfl) ?_))))))))
   refine .q rfl (.load on_4_Li rfl (by first | assumption | exact Mem.of_get hg 4 _ rfl)) ?_
   refine .nil (hK10 _ _ ?_)
   refine .cond rfl (fun h29 => ?_) (fun h29 => ?_)
   ·
    refine .seq (fun K11 hK11 => .seq (fun K12 hK12 => .region (.mv rfl (.q rfl (.nilCheck rfl) (.q rfl (.fieldAddr fo_125_3_Li rfl) ?_)))))
    refine .q rfl (.load on_123_Li rfl (by first | assumption | exact Mem.of_get hg 3 _ rfl)) ?_
    refine .mv rfl (.mv rfl ?_)
    refine .callV rfl rfl rfl rfl rfl hF.code rfl ((hF.run _ (.of_le hle) h w _ _ hma (fun _ => rfl) (fun hn => absurd h29 hn))) ?_
    rintro _ _ ⟨rfl, rfl⟩
    refine .nil (hK12 _ _ ?_)
    refine .cond rfl (fun h36 => ?_) (fun h36 => ?_)
    ·
     have hTT : c.spP s w (i + 1) = c.spP s w i ++ [((c.hom w s.x).getD i 0, (c.hom w s.x).getD i 0)] := Cat.spP_aT h29 (by omega) h36
     refine .region (.mv rfl (.mv rfl (.mv rfl (.q rfl (.build bt_102_Li rfl rfl rfl) ?_))))
     refine .R rfl (.litA rfl sl_100_Li ze_102_Li rfl rfl rfl rfl) ?_
     rintro _ H41 ⟨g41, rfl, le41, ge41, at41⟩
     replace lst1 := lst1.le le41
     replace at_L5 := le41.2 _ _ at_L5
     have lt_at41 := GHeap.ltg at41
     clear i20
     refine .R rfl (.appendV rfl sl_100_Li ze_102_Li rfl by_102_Li sl_100_Li rfl rfl (by assumption) (by assumption) (by first | omega | (simp <;> omega)) rfl rfl (by omega) (by omega)) ?_
     rintro _ H42 ⟨g42, rfl, st42, ge42, at42⟩
     replace lst1 := lst1.sA st42
     refine .mv rfl (.nil (hK11 _ _ ?_))
     refine .exit ?_
     refine hK7 _ _ (.region ?_)
     refine .q rfl (.add rfl rfl rfl (by omega) (by omega)) ?_
     refine .mv rfl (.nil ?_)
     refine hKL1 ((i + 1, _, _)) _ _ ?_ ?_ ⟨rfl, rfl, rfl, rfl, rfl, rfl, trivial⟩
     ·
      refine ⟨lst1, by first | assumption | (rw [hTT, prs_snoc]; assumption) | (rw [hTT]; assumption), by omega, by first | omega | (simp only [List.length_append, List.length_cons, List.length_nil] <;> omega) | (rw [hTT, prs_snoc] <;> (first | omega | (simp only [List.length_append, List.length_cons, List.length_nil] <;> omega))) | (rw [hTT] <;> (first | omega | (simp only [List.length_append, List.length_cons, List.length_nil] <;> omega))), ?_⟩
      omega
     (dsimp only; omega)
    have hTT : c.spP s w (i + 1) = c.spP s w i := Cat.spP_aF h29 (by omega) h36
    refine .skip ?_
    refine hK11 _ _ ?_
    refine .exit ?_
    refine hK7 _ _ (.region ?_)
    refine .q rfl (.add rfl rfl rfl (by omega) (by omega)) ?_
    refine .mv rfl (.nil ?_)
    refine hKL1 ((i + 1, _, _)) _ _ ?_ ?_ ⟨rfl, rfl, rfl, rfl, rfl, rfl, trivial⟩
    ·
     refine ⟨lst1, by first | assumption | (rw [hTT, prs_snoc]; assumption) | (rw [hTT]; assumption), by omega, by first | omega | (simp only [List.length_append, List.length_cons, List.length_nil] <;> omega) | (rw [hTT, prs_snoc] <;> (first | omega | (simp only [List.length_append, List.length_cons, List.length_nil] <;> omega))) | (rw [hTT] <;> (first | omega | (simp only [List.length_append, List.length_cons, List.length_nil] <;> omega))), ?_⟩
     omega
    (dsimp only; omega)
   refine .skip ?_
   refine hK9 _ _ (.seq (fun K13 hK13 => ?_))
   refine .regionD mo_B (.q 0 (.q 1 (.q 2 (.q 3 (.q 4 (.q 5 (.q 6 (.q 7 (.q 8 (.q 11 (.c 9 1 (.q 10 (.done))))))))))))) (by kernel_rfl) ?_
   refine .mv rfl rfl (.q rfl (.nilCheck rfl) (.q rfl (.fieldAddr fo_125_0_Li rfl) ?_))
   refine .q rfl (.load on_69_Fc rfl (by first | assumption | exact Mem.of_get hg 0 _ rfl)) ?_
   refine .mv rfl rfl (.mv rfl rfl (.q rfl (.nilCheck rfl) (.q rfl (.fieldAddr fo_125_2_Li rfl) ?_)))
   refine .q rfl (.load on_2_A rfl (by first | assumption | exact Mem.of_get hg 2 _ rfl)) ?_
   refine .mv rfl rfl ?_
   refine .call1 rfl rfl rfl rfl rfl @Try.call63 rfl (hom_c) ?_
   rintro _ H52 ⟨le52, g52, rfl, at52, ge52⟩
   have hbl := le52
   refine ⟨hbl, ?_⟩
   replace hle := hle.trans le52
   replace lst1 := lst1.le le52
   replace hg := le52.2 _ _ hg
   replace at_L5 := le52.2 _ _ at_L5
   have lt_at52 := GHeap.ltg at52
   refine .m rfl rfl rfl rfl hbl (.len sl_22_A rfl) ?_
   refine .done ?_
   refine hK13 _ _ ?_
   refine .block ?_
   have hna : ¬ s.alone = true := fun e => by rw [e] at h29; cases h29
   have hi0 : c.spP s w i ++ c.spR s w ((c.hom w s.x).getD i 0) 0 = c.spP s w i := by rw [Cat.spR_zero, List.append_nil]
   have hl0 : nL5 = (c.spP s w i ++ c.spR s w ((c.hom w s.x).getD i 0) 0).length := by rw [hi0]; assumption
   refine .loopR (σ := Nat × Nat × Nat) [(0, some _), (1, some _), (7, some _), (20, some _), (21, some _), (22, some _), (52, some _), (53, some _)] (fun (j, gL5v2, nL5v2) => [(54, some (.int .i64 (j : Int))), (5, some (.slice (some ⟨gL5v2, 0, none⟩) nL5v2 nL5v2))]) (fun (j, gL5v2, nL5v2) H' => St [gL5] H52 H' ∧ H'.get gL5v2 = some (.row (prs (c.spP s w i ++ c.spR s w ((c.hom w s.x).getD i 0) j)) 102 true) ∧ (gL5v2 = gL5 ∨ H52.next ≤ gL5v2) ∧ nL5v2 = (c.spP s w i ++ c.spR s w ((c.hom w s.x).getD i 0) j).length ∧ j ≤ (c.hom w s.y).length) (fun (j, gL5v2, nL5v2) => (c.hom w s.y).length - j) ((0, _, _)) ⟨rfl, rfl, rfl, rfl, rfl, rfl, rfl, rfl, trivial⟩ ⟨rfl, rfl, trivial⟩ ?_ ?_
   ·
    refine ⟨.refl _ _, by first | assumption | (rw [hi0]; assumption), .inl rfl, by first | rfl | assumption | simp | omega, ?_⟩
    omega
   rintro ⟨j, gL5v2, nL5v2⟩ HL2 ⟨lst2, at_L5v2, pl_L5v2, ln_L5v2, hI⟩ KL2 hKL2
   refine .forget (fr' := [(54, some (.int .i64 (j : Int))), (5, some (.slice (some ⟨gL5v2, 0, none⟩) nL5v2 nL5v2)), (0, some _), (1, some _), (7, some _), (20, some _), (21, some _), (22, some _), (52, some _), (53, some _)]) ⟨rfl, rfl, rfl, rfl, rfl, rfl, rfl, rfl, rfl, rfl, trivial⟩ ?_
   have nx_HL2 := lst2.nx
   replace hle := hle.st lst2 (fun k hk => ⟨by omega, trivial⟩)
   replace lst1 := lst1.sA lst2
   replace hg := lst2.s hg
   replace at52 := lst2.s at52
   replace h := base_h.mono hle
   have i52 := Ints.of_get at52
   have hrl := c.spR_len s w ((c.hom w s.x).getD i 0) j
   have hal : (c.spP s w i ++ c.spR s w ((c.hom w s.x).getD i 0) j).length = (c.spP s w i).length + (c.spR s w ((c.hom w s.x).getD i 0) j).length := List.length_append
   have htl2 := length_prs (c.spP s w i ++ c.spR s w ((c.hom w s.x).getD i 0) j)
   refine .seq (fun K14 hK14 => .region (.q rfl (.cmp rfl rfl rfl) (.nil (hK14 _ _ (.seq (fun K15 hK15 => ?_))))))
   refine .cond rfl (fun h55 => ?_) (fun h55 => ?_)
   ·
    simp only [sps] at h55
    have hmb : (c.hom w s.y).getD j 0 ∈ c.hom w s.y := getD_mem_list (by omega)
    refine .skip ?_
    refine hK15 _ _ (.seq (fun K16 hK16 => ?_))
    refine .block ?_
    refine .seq (fun K17 hK17 => .region ?_)
    refine .q rfl (.idxN sl_22_A (by first | assumption | exact SlA.of_row at52 (by first | rfl | (simp; done) | (simp <;> omega))) rfl rfl (by omega)) ?_
    refine .q rfl (.loadI on_2_A (by first | assumption | exact Ints.of_get at52) rfl (by omega)) ?_
    refine .mv rfl (.nil (hK17 _ _ (.seq (fun K18 hK18 => .region (.mv rfl (.q rfl (.nilCheck rfl) (.q rfl (.fieldAddr fo_125_3_Li rfl) ?_)))))))
    refine .q rfl (.load on_123_Li rfl (by first | assumption | exact Mem.of_get hg 3 _ rfl)) ?_
    refine .mv rfl (.mv rfl ?_)
    refine .callV rfl rfl rfl rfl rfl hF.code rfl ((hF.run _ (.of_le hle) h w _ _ hma (fun e => absurd e hna) (fun _ => hmb))) ?_
    rintro _ _ ⟨rfl, rfl⟩
    refine .nil (hK18 _ _ ?_)
    refine .cond rfl (fun h64 => ?_) (fun h64 => ?_)
    ·
     have hUU : c.spR s w ((c.hom w s.x).getD i 0) (j + 1) = c.spR s w ((c.hom w s.x).getD i 0) j ++ [((c.hom w s.x).getD i 0, (c.hom w s.y).getD j 0)] := Cat.spR_T (by omega) h64
     refine .region (.mv rfl (.mv rfl (.mv rfl (.q rfl (.build bt_102_Li rfl rfl rfl) ?_))))
     refine .R rfl (.litA rfl sl_100_Li ze_102_Li rfl rfl rfl rfl) ?_
     rintro _ H69 ⟨g69, rfl, le69, ge69, at69⟩
     replace lst2 := lst2.le le69
     replace at_L5v2 := le69.2 _ _ at_L5v2
     have lt_at69 := GHeap.ltg at69
     clear i52
     refine .R rfl (.appendV rfl sl_100_Li ze_102_Li rfl by_102_Li sl_100_Li rfl rfl (by assumption) (by assumption) (by first | omega | (simp <;> omega)) rfl rfl (by omega) (by omega)) ?_
     rintro _ H70 ⟨g70, rfl, st70, ge70, at70⟩
     replace lst2 := lst2.sA st70
     refine .mv rfl (.nil (hK16 _ _ (.region ?_)))
     refine .q rfl (.add rfl rfl rfl (by omega) (by omega)) ?_
     refine .mv rfl (.nil ?_)
     refine hKL2 ((j + 1, _, _)) _ _ ?_ ?_ ⟨rfl, rfl, rfl, rfl, rfl, rfl, rfl, rfl, rfl, rfl, trivial⟩
     ·
      refine ⟨lst2, by first | assumption | (rw [hUU, ← List.append_assoc, prs_snoc]; assumption) | (rw [hUU]; assumption), by omega, by first | omega | (simp only [List.length_append, List.length_cons, List.length_nil] <;> omega) | (rw [hUU, ← List.append_assoc, prs_snoc] <;> (first | omega | (simp only [List.length_append, List.length_cons, List.length_nil] <;> omega))) | (rw [hUU] <;> (first | omega | (simp only [List.length_append, List.length_cons, List.length_nil] <;> omega))), ?_⟩
      omega
     (dsimp only; omega)
    have hUU : c.spR s w ((c.hom w s.x).getD i 0) (j + 1) = c.spR s w ((c.hom w s.x).getD i 0) j := Cat.spR_F (by omega) h64
    refine .skip ?_
    refine hK16 _ _ (.region ?_)
    refine .q rfl (.add rfl rfl rfl (by omega) (by omega)) ?_
    refine .mv rfl (.nil ?_)
    refine hKL2 ((j + 1, _, _)) _ _ ?_ ?_ ⟨rfl, rfl, rfl, rfl, rfl, rfl, rfl, rfl, rfl, rfl, trivial⟩
    ·
     refine ⟨lst2, by first | assumption | (rw [hUU, ← List.append_assoc, prs_snoc]; assumption) | (rw [hUU]; assumption), by omega, by first | omega | (simp only [List.length_append, List.length_cons, List.length_nil] <;> omega) | (rw [hUU, ← List.append_assoc, prs_snoc] <;> (first | omega | (simp only [List.length_append, List.length_cons, List.length_nil] <;> omega))) | (rw [hUU] <;> (first | omega | (simp only [List.length_append, List.length_cons, List.length_nil] <;> omega))), ?_⟩
     omega
    (dsimp only; omega)
   obtain rfl : j = (c.hom w s.y).length := by simp only [sps] at h55; omega
   have hTT := Cat.spP_next (c := c) (s := s) (w := w) (k := i) hna (by omega)
   refine .exit ?_
   refine hK7 _ _ (.region ?_)
   refine .q rfl (.add rfl rfl rfl (by omega) (by omega)) ?_
   refine .mv rfl (.nil ?_)
   refine hKL1 ((i + 1, _, _)) _ _ ?_ ?_ ⟨rfl, rfl, rfl, rfl, rfl, rfl, trivial⟩
   ·
    refine ⟨lst1, by first | assumption | (rw [hTT, prs_snoc]; assumption) | (rw [hTT]; assumption), by omega, by first | omega | (simp only [List.length_append, List.length_cons, List.length_nil] <;> omega) | (rw [hTT, prs_snoc] <;> (first | omega | (simp only [List.length_append, List.length_cons, List.length_nil] <;> omega))) | (rw [hTT] <;> (first | omega | (simp only [List.length_append, List.length_cons, List.length_nil] <;> omega))), ?_⟩
    omega
   (dsimp only; omega)
  try simp only [sps] at h23
  refine .exit ?_
  refine hK3 _ _ (.seq (fun K19 hK19 => .region (.mv rfl (.mv rfl (.nil (hK19 _ _ ?_))))))
  refine .ret ?_
  refine hret _ _ ?_
  refine ⟨_, rfl, ?_⟩
  obtain rfl : i = (c.hom w s.x).length := by omega
  rw [Cat.spP_all] at at_L5 ln_L5
  exact ⟨hle, _, by rw [ln_L5], by omega, at_L5⟩
theorem aggEq_102 (a0 a1 b0 b1 : Int) : ∀ w, (Op.equal 102 (.agg #[.int .i64 a0, .int .i64 a1]) (.agg #[.int .i64 b0, .int .i64 b1])).run Try.prog w = .ok (a0 == b0 && a1 == b1) w := by
  intro w
  unfold Op.equal Op.maxDepth
  simp [go_sem, run_equalIn_agg]
  (repeat' split) <;> simp_all
theorem keyT2 : KeyT Try.prog 102 2 := by
  refine ⟨⟨Try.prog.fieldsOf 102, by kernel_rfl⟩, fun s t hs ht w => ?_, fun b s hs w => ?_⟩
  · match s, t, hs, ht with
    | [a0, a1], [b0, b1], _, _ =>
      have := aggEq_102 a0 a1 b0 b1 w
      refine Eq.trans this ?_
      refine congrArg (fun r => Result.ok r w) ?_
      rw [Bool.eq_iff_iff]
      simp
  · exact checkKeyT (by kernel_rfl) (by kernel_rfl) b hs w
set_option maxHeartbeats 4000000 in
theorem isUniversalS_c {c : Cat} {p : CatP} {gc g z : Nat} {s : Spn} {p1 p2 : Int} {H : GHeap} (h : Cat.At H gc 0 c p := by assumption) (hs : SpnAt Try.prog 125 79 c gc p H g s := by assumption) (hS : c.Shape := by assumption) (h1 : 0 ≤ p1 ∧ p1 < c.src.length) (h2 : 0 ≤ p2 ∧ p2 < c.src.length) :
    GCalls Try.prog 133 [.pointer (some ⟨g, 0, none⟩), .int .i64 (z : Int), .agg #[.int .i64 p1, .int .i64 p2]] H (Ret (.bool (B (c.SpV s z (p1, p2)))) H) := by
  refine GCalls.ret rfl ?_
  obtain ⟨fn, cap, hg, -⟩ := id hs
  have b1 := hS.n40
  have b5 := hS.obj
  refine GCalls.body (N := 68) (rs := [.tmp 6]) Try.func133 rfl rfl rfl rfl (fun Qx hret hend => ?_)
  refine .fg [0, 1, 2] rfl ?_
  have hle := GHeap.Le.refl H
  have lt_hg := GHeap.ltg hg
  have base_h := h
  refine .seq (fun K1 hK1 => .region ?_)
  refine .R rfl (.boxR rfl sz_102_Li rfl) ?_
  rintro _ H5 ⟨g5, rfl, le5, ge5, at5⟩
  replace hle := hle.trans le5
  replace hg := le5.2 _ _ hg
  have lt_at5 := GHeap.ltg at5
  replace h := base_h.mono hle
  refine .mv rfl (.nil (hK1 _ _ (.seq (fun K2 hK2 => .seq (fun K3 hK3 => .region (.mv rfl (.nil (hK3 _ _ ?_))))))))
  refine .block ?_
  refine .loopR (σ := Nat) [(0, some _), (1, some _), (5, some _)] (fun w => [(7, some (.int .i64 (w : Int)))]) (fun w H' => St [] H5 H' ∧ w ≤ c.obj.toNat ∧ ∀ w', w' < w → (c.hom (w' : Nat) z).length = (c.spL s w').length ∧ ((c.hom w' z).map (c.spM (p1, p2))).Nodup) (fun w => c.obj.toNat - w) (0) ⟨rfl, rfl, rfl, trivial⟩ ⟨rfl, trivial⟩ ?_ ?_
  ·
   refine ⟨.refl _ _, ?_⟩
   exact ⟨by omega, fun w hw => by omega⟩
  rintro w HL1 ⟨lst1, hI⟩ KL1 hKL1
  refine .forget (fr' := [(7, some (.int .i64 (w : Int))), (0, some _), (1, some _), (5, some _)]) ⟨rfl, rfl, rfl, rfl, trivial⟩ ?_
  have nx_HL1 := lst1.nx
  replace hle := hle.st lst1 (fun k hk => trivial)
  replace hg := lst1.same _ _ trivial hg
  replace at5 := lst1.same _ _ trivial at5
  replace h := base_h.mono hle
  obtain ⟨c0, -, -, -, -, -, -, -, -⟩ := h.get
  obtain ⟨hw, hall⟩ := hI
  refine .seq (fun K4 hK4 => .seq (fun K5 hK5 => .region (.mv rfl (.mv rfl (.q rfl (.nilCheck rfl) (.q rfl (.fieldAddr fo_125_0_Li rfl) ?_))))))
  refine .q rfl (.load on_69_Fc rfl (by first | assumption | exact Mem.of_get hg 0 _ rfl)) ?_
  refine .q rfl (.nilCheck rfl) (.q rfl (.fieldAddr fo_29_0_B rfl) ?_)
  refine .q rfl (.load on_2_A rfl (by assumption)) ?_
  refine .q rfl (.cmp rfl rfl rfl) (.nil (hK5 _ _ ?_))
  refine .cond rfl (fun h20 => ?_) (fun h20 => ?_)
  ·
   simp only [sps] at h20
   have q1 := Cat.hom_le c w z
   refine .skip ?_
   refine hK4 _ _ (.seq (fun K6 hK6 => ?_))
   refine .block ?_
   refine .seq (fun K7 hK7 => .region (.mv rfl (.q rfl (.nilCheck rfl) (.q rfl (.fieldAddr fo_125_0_Li rfl) ?_))))
   refine .q rfl (.load on_69_Fc rfl (by first | assumption | exact Mem.of_get hg 0 _ rfl)) ?_
   refine .mv rfl (.mv rfl ?_)
   refine .call rfl rfl rfl rfl @Try.call63 rfl (hom_c) ?_
   rintro _ H29 ⟨le29, g29, rfl, at29, ge29⟩
   replace hle := hle.trans le29
   replace lst1 := lst1.le le29
   replace hg := le29.2 _ _ hg
   replace at5 := le29.2 _ _ at5
   have lt_at29 := GHeap.ltg at29
   replace h := base_h.mono hle
   clear c0
   refine .mv rfl (.nil (hK7 _ _ (.seq (fun K8 hK8 => .seq (fun K9 hK9 => .region (.mv rfl (.q rfl (.len sl_22_A rfl) (.mv rfl (.mv rfl ?_)))))))))
   refine .call rfl rfl rfl rfl @Try.call132 rfl (spansFrom_c (hs := hs.keep rfl (.of_le hle))) ?_
   rintro _ H34 ⟨le34, g34, rfl, ge34, at34⟩
   replace hle := hle.trans le34
   replace lst1 := lst1.le le34
   replace hg := le34.2 _ _ hg
   replace at5 := le34.2 _ _ at5
   replace at29 := le34.2 _ _ at29
   have lt_at34 := GHeap.ltg at34
   replace h := base_h.mono hle
   refine .q rfl (.len sl_100_Li rfl) (.q rfl (.cmp rfl rfl rfl) (.nil (hK9 _ _ ?_)))
   refine .cond rfl (fun h36 => ?_) (fun h36 => ?_)
   ·
    simp only [sps] at h36
    refine .seq (fun K10 hK10 => .region (.mv rfl (.nil (hK10 _ _ ?_))))
    refine .ret ?_
    refine hret _ _ ?_
    refine ⟨_, rfl, ?_⟩
    exact ⟨congrArg _ (B_false fun hV => h36 (by have := (hV.all w (by omega)).1; omega)), hle⟩
   simp only [sps] at h36
   refine .skip ?_
   refine hK8 _ _ (.seq (fun K11 hK11 => .region ?_))
   refine .R rfl (.makeMapR rfl) ?_
   rintro _ H37 ⟨g37, rfl, le37, ge37, at37⟩
   replace hle := hle.trans le37
   replace lst1 := lst1.le le37
   replace hg := le37.2 _ _ hg
   replace at5 := le37.2 _ _ at5
   replace at29 := le37.2 _ _ at29
   replace at34 := le37.2 _ _ at34
   replace h := base_h.mono hle
   refine .mv rfl (.nil (hK11 _ _ (.seq (fun K12 hK12 => .seq (fun K13 hK13 => .region (.mv rfl (.q rfl (.len sl_22_A rfl) (.mv rfl (.nil (hK13 _ _ ?_))))))))))
   refine .block ?_
   have hb0 : bmap (setB (((c.hom w z).take 0).map (c.sp2 p1 p2))) = [] := rfl
   refine .loopR (σ := Nat) [(0, some _), (1, some _), (5, some _), (7, some _), (8, some _), (9, some _), (38, some _), (39, some _)] (fun k => [(40, some (.int .i64 (k : Int)))]) (fun k H' => St [g37] H37 H' ∧ H'.get g37 = some (.map (bmap (setB (((c.hom w z).take k).map (c.sp2 p1 p2))))) ∧ k ≤ (c.hom w z).length) (fun k => (c.hom w z).length - k) (0) ⟨rfl, rfl, rfl, rfl, rfl, rfl, rfl, rfl, trivial⟩ ⟨rfl, trivial⟩ ?_ ?_
   ·
    refine ⟨.refl _ _, by first | assumption | (rw [hb0]; assumption), ?_⟩
    omega
   rintro k HL2 ⟨lst2, at_L9, hI⟩ KL2 hKL2
   refine .forget (fr' := [(40, some (.int .i64 (k : Int))), (0, some _), (1, some _), (5, some _), (7, some _), (8, some _), (9, some _), (38, some _), (39, some _)]) ⟨rfl, rfl, rfl, rfl, rfl, rfl, rfl, rfl, rfl, trivial⟩ ?_
   replace hle := hle.st lst2 (fun k hk => ⟨by omega, trivial⟩)
   replace lst1 := lst1.sA lst2
   replace hg := lst2.s hg
   replace at5 := lst2.s at5
   replace at29 := lst2.s at29
   replace at34 := lst2.s at34
   replace h := base_h.mono hle
   have i29 := Ints.of_get at29
   refine .seq (fun K14 hK14 => .region (.q rfl (.cmp rfl rfl rfl) (.nil (hK14 _ _ (.seq (fun K15 hK15 => ?_))))))
   refine .cond rfl (fun h41 => ?_) (fun h41 => ?_)
   ·
    simp only [sps] at h41
    obtain ⟨u, u1, -, -, u4⟩ := Cat.hom_get (c := c) (x := w) (y := z) (i := k) (by omega)
    refine .skip ?_
    refine hK15 _ _ (.seq (fun K16 hK16 => ?_))
    refine .block ?_
    refine .seq (fun K17 hK17 => .region ?_)
    refine .q rfl (.idxN sl_22_A (by first | assumption | exact SlA.of_row at29 (by first | rfl | (simp; done) | (simp <;> omega))) rfl rfl (by omega)) ?_
    refine .q rfl (.loadI on_2_A (by first | assumption | exact Ints.of_get at29) rfl (by omega)) ?_
    refine .mv rfl (.nil (hK17 _ _ ?_))
    refine .regionD mo_B (.q 0 (.q 1 (.q 2 (.q 3 (.q 4 (.q 5 (.q 6 (.q 7 (.q 9 (.q 10 (.q 11 (.q 12 (.q 13 (.q 14 (.q 15 (.c 8 1 (.c 16 1 (.q 17 (.c 18 0 (.done)))))))))))))))))))) (by kernel_rfl) ?_
    refine .mv rfl rfl (.mv rfl rfl (.q rfl (.nilCheck rfl) (.q rfl (.fieldAddr fo_125_0_Li rfl) ?_)))
    refine .q rfl (.load on_69_Fc rfl (by first | assumption | exact Mem.of_get hg 0 _ rfl)) ?_
    refine .mv rfl rfl (.q rfl (.fieldAddr fo_102_0_Li rfl) ?_)
    refine .q rfl (.load on_2_A rfl (by first | assumption | exact Mem.of_get at5 0 _ rfl)) ?_
    refine .mv rfl rfl (.q rfl (.nilCheck rfl) (.q rfl (.fieldAddr fo_125_0_Li rfl) ?_))
    refine .q rfl (.load on_69_Fc rfl (by first | assumption | exact Mem.of_get hg 0 _ rfl)) ?_
    refine .mv rfl rfl (.q rfl (.fieldAddr fo_102_1_Li rfl) ?_)
    refine .q rfl (.load on_2_A rfl (by first | assumption | exact Mem.of_get at5 1 _ rfl)) ?_
    refine .callQ1 rfl rfl rfl rfl rfl @Try.call64 rfl (then_s) (.refl _) ?_
    refine .callQ1 rfl rfl rfl rfl rfl @Try.call64 rfl (then_s) (.refl _) ?_
    refine .q rfl (.build bt_102_Li rfl rfl rfl) ?_
    refine .r0 rfl rfl rfl (.mapPutB rfl mtt_151_Li keyT2 rfl rfl rfl (j := [_, _]) rfl (by assumption) (sp2_len _)) ?_
    rintro _ H11018 ⟨rfl, st11018, at11018⟩
    replace hle := hle.st st11018 (fun k hk => ⟨by omega, trivial⟩)
    replace lst2 := lst2.sA st11018
    replace h := base_h.mono hle
    clear i29
    refine .done ?_
    refine hK16 _ _ (.region ?_)
    refine .q rfl (.add rfl rfl rfl (by omega) (by omega)) ?_
    refine .mv rfl (.nil ?_)
    refine hKL2 (k + 1) _ _ ?_ ?_ ⟨rfl, rfl, rfl, rfl, rfl, rfl, rfl, rfl, rfl, trivial⟩
    ·
     refine ⟨lst2, by first | assumption | (rw [take_snoc_getD (by omega), List.map_append, List.map_singleton, setB_snoc]; assumption), ?_⟩
     omega
    omega
   obtain rfl : k = (c.hom w z).length := by simp only [sps] at h41; omega
   refine .exit ?_
   refine hK12 _ _ (.seq (fun K18 hK18 => .region (.mv rfl (.d rfl rfl rfl (.lenMapB rfl mtt_151_Li rfl at_L9 (sp2_len _) CIs.mk) (.mv rfl (.q rfl (.len sl_22_A rfl) (.q rfl (.cmp rfl rfl rfl) (.nil (hK18 _ _ ?_)))))))))
   refine .cond rfl (fun h67 => ?_) (fun h67 => ?_)
   ·
    have hnn : ¬ ((c.hom w z).map (c.spM (p1, p2))).Nodup := fun hn => by
      have := Cat.sp2_set.2 hn
      simp only [sps, List.take_length] at h67
      omega
    refine .seq (fun K19 hK19 => .region (.mv rfl (.nil (hK19 _ _ ?_))))
    refine .ret ?_
    refine hret _ _ ?_
    refine ⟨_, rfl, ?_⟩
    exact ⟨congrArg _ (B_false fun hV => hnn (hV.all w (by omega)).2), hle⟩
   have hnd : ((c.hom w z).map (c.spM (p1, p2))).Nodup := Cat.sp2_set.1 (by
     simp only [sps, List.take_length] at h67
     omega)
   refine .skip ?_
   refine hK6 _ _ (.region (.mv rfl ?_))
   refine .q rfl (.add rfl rfl rfl (by omega) (by omega)) ?_
   refine .mv rfl (.nil ?_)
   refine hKL1 (w + 1) _ _ ?_ ?_ ⟨rfl, rfl, rfl, rfl, trivial⟩
   ·
    refine ⟨lst1, ?_⟩
    refine ⟨by omega, fun w' hw' => ?_⟩
    by_cases e : w' < w
    · exact hall w' e
    · obtain rfl : w' = w := by omega
      exact ⟨by omega, hnd⟩
   omega
  try simp only [sps] at h20
  refine .exit ?_
  refine hK2 _ _ (.seq (fun K20 hK20 => .region (.mv rfl (.nil (hK20 _ _ ?_)))))
  refine .ret ?_
  refine hret _ _ ?_
  refine ⟨_, rfl, ?_⟩
  exact ⟨congrArg _ (B_true ⟨fun w hw => hall w (by omega)⟩), hle⟩
set_option maxHeartbeats 4000000 in
theorem firstS_c {c : Cat} {p : CatP} {gc g : Nat} {s : Spn} {H : GHeap} (h : Cat.At H gc 0 c p := by assumption) (hs : SpnAt Try.prog 125 79 c gc p H g s := by assumption) (hS : c.Shape := by assumption) (hc : c.SpC s := by assumption) :
    GCalls Try.prog 105 [.pointer (some ⟨g, 0, none⟩)] H (fun v H' => H.Le H' ∧ v = .tuple #[.int .i64 ((c.fstL s).getD 0 0), .agg #[.int .i64 ((c.fstL s).getD 1 0), .int .i64 ((c.fstL s).getD 2 0)], .bool (!(c.fstL s).isEmpty)]) := by
  obtain ⟨fn, cap, hg, -⟩ := id hs
  have b5 := hS.obj
  refine GCalls.body (N := 35) (rs := [.tmp 2, .cell 3 102, .tmp 4]) Try.func105 rfl rfl rfl rfl (fun Qx hret hend => ?_)
  refine .fg [0] rfl ?_
  have hle := GHeap.Le.refl H
  have base_h := h
  refine .seq (fun K1 hK1 => .region (.mv rfl ?_))
  refine .R rfl (.allocR rfl ze_102_Li rfl) ?_
  rintro _ H3 ⟨g3, rfl, le3, ge3, at3⟩
  replace hle := hle.trans le3
  replace hg := le3.2 _ _ hg
  have lt_at3 := GHeap.ltg at3
  replace h := base_h.mono hle
  refine .mv rfl (.nil (hK1 _ _ (.seq (fun K2 hK2 => .seq (fun K3 hK3 => .region (.mv rfl (.nil (hK3 _ _ ?_))))))))
  refine .block ?_
  refine .loopR (σ := Nat) [(0, some _), (3, some _)] (fun z => [(5, some (.int .i64 (z : Int)))]) (fun z H' => St [] H3 H' ∧ z ≤ c.obj.toNat ∧ ∀ z' : Nat, z' < z → ∀ q ∈ c.spL s z', ¬ c.SpV s z' q) (fun z => c.obj.toNat - z) (0) ⟨rfl, rfl, trivial⟩ ⟨rfl, trivial⟩ ?_ ?_
  ·
   refine ⟨.refl _ _, ?_⟩
   exact ⟨by omega, fun w hw => by omega⟩
  rintro z HL1 ⟨lst1, hI⟩ KL1 hKL1
  refine .forget (fr' := [(5, some (.int .i64 (z : Int))), (0, some _), (3, some _)]) ⟨rfl, rfl, rfl, trivial⟩ ?_
  have nx_HL1 := lst1.nx
  replace hle := hle.st lst1 (fun k hk => trivial)
  replace hg := lst1.same _ _ trivial hg
  replace at3 := lst1.same _ _ trivial at3
  replace h := base_h.mono hle
  obtain ⟨c0, -, -, -, -, -, -, -, -⟩ := h.get
  obtain ⟨hz, hall⟩ := hI
  refine .seq (fun K4 hK4 => .seq (fun K5 hK5 => .region (.mv rfl (.mv rfl (.q rfl (.nilCheck rfl) (.q rfl (.fieldAddr fo_125_0_Li rfl) ?_))))))
  refine .q rfl (.load on_69_Fc rfl (by first | assumption | exact Mem.of_get hg 0 _ rfl)) ?_
  refine .q rfl (.nilCheck rfl) (.q rfl (.fieldAddr fo_29_0_B rfl) ?_)
  refine .q rfl (.load on_2_A rfl (by assumption)) ?_
  refine .q rfl (.cmp rfl rfl rfl) (.nil (hK5 _ _ ?_))
  refine .cond rfl (fun h16 => ?_) (fun h16 => ?_)
  ·
   simp only [sps] at h16
   refine .skip ?_
   refine hK4 _ _ (.seq (fun K6 hK6 => ?_))
   refine .block ?_
   refine .seq (fun K7 hK7 => .region (.mv rfl (.mv rfl ?_)))
   refine .call rfl rfl rfl rfl @Try.call132 rfl (spansFrom_c (hs := hs.keep rfl (.of_le hle))) ?_
   rintro _ H21 ⟨le21, g21, rfl, ge21, at21⟩
   replace hle := hle.trans le21
   replace lst1 := lst1.le le21
   replace at3 := le21.2 _ _ at3
   have lt_at21 := GHeap.ltg at21
   replace h := base_h.mono hle
   clear c0
   refine .q rfl (.len sl_100_Li rfl) (.mv rfl (.nil (hK7 _ _ ?_)))
   refine .block ?_
   refine .loopR (σ := Nat) [(0, some _), (3, some _), (5, some _), (21, some _), (22, some _)] (fun i => [(23, some (.int .i64 (i : Int)))]) (fun i H' => St [] H21 H' ∧ i ≤ (c.spL s z).length ∧ ∀ j, j < i → ¬ c.SpV s z ((c.spL s z).getD j (0, 0))) (fun i => (c.spL s z).length - i) (0) ⟨rfl, rfl, rfl, rfl, rfl, trivial⟩ ⟨rfl, trivial⟩ ?_ ?_
   ·
    refine ⟨.refl _ _, ?_⟩
    exact ⟨by omega, fun w hw => by omega⟩
   rintro i HL2 ⟨lst2, hI⟩ KL2 hKL2
   refine .forget (fr' := [(23, some (.int .i64 (i : Int))), (0, some _), (3, some _), (5, some _), (21, some _), (22, some _)]) ⟨rfl, rfl, rfl, rfl, rfl, rfl, trivial⟩ ?_
   have nx_HL2 := lst2.nx
   replace hle := hle.st lst2 (fun k hk => trivial)
   replace lst1 := lst1.sA lst2
   replace at3 := lst2.same _ _ trivial at3
   replace at21 := lst2.same _ _ trivial at21
   replace h := base_h.mono hle
   obtain ⟨hi, hno⟩ := hI
   refine .seq (fun K8 hK8 => .region (.q rfl (.cmp rfl rfl rfl) (.nil (hK8 _ _ (.seq (fun K9 hK9 => ?_))))))
   refine .cond rfl (fun h24 => ?_) (fun h24 => ?_)
   ·
    simp only [sps] at h24
    have hr1 := Cat.spL_rg (c := c) (s := s) hS (z := z) (getD_mem_list (d := (0, 0)) (i := i) (by omega))
    have hlb := Cat.spL_bound hS s z
    have hsl := prs_sl at21
    have hpm := prs_mem at21 (i := i) (by omega)
    refine .skip ?_
    refine hK9 _ _ (.seq (fun K10 hK10 => ?_))
    refine .block ?_
    refine .seq (fun K11 hK11 => .region ?_)
    refine .q rfl (.idx sl_100_Li (by assumption) (by omega) rfl rfl (by omega) (by omega) rfl) ?_
    refine .q rfl (.loadM ag_102_Li rfl (by assumption)) ?_
    refine .R rfl (.allocR rfl ze_102_Li rfl) ?_
    rintro _ H7 ⟨g7, rfl, le7, ge7, at7⟩
    replace hle := hle.trans le7
    replace lst2 := lst2.le le7
    replace at3 := le7.2 _ _ at3
    replace h := base_h.mono hle
    clear hi
    refine .r0 rfl rfl (.fillA rfl sz_102_Li rfl rfl rfl rfl) ?_
    rintro _ H6003 ⟨rfl, st6003, at6003⟩
    replace hle := hle.st st6003 (fun k hk => ⟨by omega, trivial⟩)
    replace lst2 := lst2.sA st6003
    replace at3 := st6003.s at3
    replace h := base_h.mono hle
    have mm6003 : MemN _ _ _ _ _ := ⟨rfl, Mem.of_get at6003⟩
    refine .nil (hK11 _ _ (.seq (fun K12 hK12 => .region (.mv rfl (.mv rfl ?_)))))
    refine .q rfl (.loadM ag_102_Li rfl ⟨rfl, Mem.of_get at6003⟩) ?_
    refine .callQ rfl rfl rfl rfl @Try.call133 rfl (isUniversalS_c (hs := hs.keep rfl (.of_le hle)) (h1 := ⟨hr1.1, hr1.2.1⟩) (h2 := hr1.2.2)) ?_
    refine .nil (hK12 _ _ ?_)
    refine .cond rfl (fun h30 => ?_) (fun h30 => ?_)
    ·
     simp only [sps] at h30
     refine .seq (fun K13 hK13 => ?_)
     refine .regionD mo_B (.q 0 (.q 1 (.q 2 (.c 3 0 (.q 4 (.done)))))) (by kernel_rfl) ?_
     refine .mv rfl rfl ?_
     refine .q rfl (.loadM ag_102_Li rfl ⟨rfl, Mem.of_get at6003⟩) ?_
     refine .mv rfl rfl ?_
     refine .r0 rfl rfl rfl (.fillA rfl sz_102_Li rfl rfl rfl rfl) ?_
     rintro _ H8003 ⟨rfl, st8003, at8003⟩
     replace hle := hle.st st8003 (fun k hk => ⟨by omega, trivial⟩)
     replace h := base_h.mono hle
     clear mm6003
     refine .mv rfl rfl ?_
     refine .done ?_
     refine hK13 _ _ ?_
     refine .ret ?_
     refine hret _ _ ?_
     refine ⟨_, _, _, _, _, _, rfl, ag_102_Li, (by rfl), (Mem.of_get at8003), rfl, rfl, ?_⟩
     rw [Cat.fst_hit hc (by omega) hall (by omega) hno h30]; exact ⟨hle, rfl⟩
    simp only [sps] at h30
    refine .skip ?_
    refine hK10 _ _ (.region ?_)
    refine .q rfl (.add rfl rfl rfl (by omega) (by omega)) ?_
    refine .mv rfl (.nil ?_)
    refine hKL2 (i + 1) _ _ ?_ ?_ ⟨rfl, rfl, rfl, rfl, rfl, rfl, trivial⟩
    ·
     refine ⟨lst2, ?_⟩
     refine ⟨by omega, fun j hj => ?_⟩
     by_cases e : j < i
     · exact hno j e
     · obtain rfl : j = i := by omega
       exact h30
    omega
   try simp only [sps] at h24
   refine .exit ?_
   refine hK6 _ _ (.region (.mv rfl ?_))
   refine .q rfl (.add rfl rfl rfl (by omega) (by omega)) ?_
   refine .mv rfl (.nil ?_)
   refine hKL1 (z + 1) _ _ ?_ ?_ ⟨rfl, rfl, rfl, trivial⟩
   ·
    refine ⟨lst1, ?_⟩
    refine ⟨by omega, fun z' hz' q hq => ?_⟩
    by_cases e : z' < z
    · exact hall z' e q hq
    · obtain rfl : z' = z := by omega
      obtain ⟨j, hj, rfl⟩ := mem_iff_getD'.1 hq
      exact hno j (by omega)
   omega
  try simp only [sps] at h16
  refine .exit ?_
  refine hK2 _ _ (.seq (fun K14 hK14 => .region (.q rfl (.build bt_102_Li rfl rfl rfl) (.mv rfl ?_))))
  refine .r0 rfl rfl (.fillA rfl sz_102_Li rfl rfl rfl rfl) ?_
  rintro _ H10002 ⟨rfl, st10002, at10002⟩
  replace hle := hle.st st10002 (fun k hk => ⟨by omega, trivial⟩)
  replace h := base_h.mono hle
  refine .mv rfl (.nil (hK14 _ _ ?_))
  refine .ret ?_
  refine hret _ _ ?_
  refine ⟨_, _, _, _, _, _, rfl, ag_102_Li, (by rfl), (Mem.of_get at10002), rfl, rfl, ?_⟩
  rw [Cat.fst_none hc fun z' hz' => hall z' (by omega)]; exact ⟨hle, rfl⟩
end Go.Proofs.Ytjdedelneppnlaa
namespace Go.Proofs.Ytjdedelneppnlaa
open Go Go.GL Go.RowKit Go.Proofs
theorem tripleS_c {c : Cat} {p : CatP} {gc g : Nat} {s : Spn} {H : GHeap} (h : Cat.At H gc 0 c p := by assumption) (hs : SpnAt Try.prog 125 79 c gc p H g s := by assumption) (hS : c.Shape := by assumption) (hc : c.SpC s := by assumption) :
    GCalls Try.prog 56 [.pointer (some ⟨g, 0, none⟩)] H (fun v H' => H.Le H' ∧ v = trip (c.fstL s) (tripC (c.fstL s))) := by
  refine GCalls.body (N := 22) (rs := [.tmp 2, .tmp 3, .tmp 4, .tmp 5]) Try.func56 rfl rfl rfl rfl (fun Qx hret hend => ?_)
  refine .fg [0] rfl ?_
  have hle := GHeap.Le.refl H
  have base_h := h
  refine .seq (fun K1 hK1 => .region (.mv rfl (.mv rfl (.mv rfl (.mv rfl (.nil (hK1 _ _ (.seq (fun K2 hK2 => .region (.mv rfl ?_))))))))))
  refine .call rfl rfl rfl rfl @Try.call105 rfl (firstS_c (hs := hs.keep rfl (.of_le hle))) ?_
  rintro _ H11 ⟨le11, rfl⟩
  have nx_H11 := le11.1
  replace hle := hle.trans le11
  refine .mv rfl (.q rfl (.extract rfl rfl) (.q rfl (.extract rfl rfl) (.q rfl (.extract rfl rfl) ?_)))
  refine .R rfl (.allocR rfl ze_102_Li rfl) ?_
  rintro _ H7 ⟨g7, rfl, le7, ge7, at7⟩
  replace hle := hle.trans le7
  refine .mv rfl ?_
  refine .r0 rfl rfl (.fillA rfl sz_102_Li rfl rfl rfl rfl) ?_
  rintro _ H1008 ⟨rfl, st1008, at1008⟩
  replace hle := hle.st st1008 (fun k hk => ⟨by omega, trivial⟩)
  refine .mv rfl (.nil (hK2 _ _ (.seq (fun K3 hK3 => .seq (fun K4 hK4 => .region (.mv rfl (.q rfl (.not rfl) (.nil (hK4 _ _ ?_)))))))))
  refine .cond rfl (fun h16 => ?_) (fun h16 => ?_)
  ·
   have ht : c.fstL s = [] := List.isEmpty_iff.1 (by simpa only [sps, Bool.not_eq_true, Bool.not_eq_false] using h16)
   refine .seq (fun K5 hK5 => .region (.mv rfl (.mv rfl (.mv rfl (.mv rfl (.nil (hK5 _ _ ?_)))))))
   refine .ret ?_
   refine hret _ _ ?_
   refine ⟨_, _, _, _, rfl, rfl, rfl, rfl, ?_⟩
   rw [ht]; exact ⟨hle, rfl⟩
  have ht : (c.fstL s).isEmpty = false := by simpa only [sps, Bool.not_eq_true, Bool.not_eq_false] using h16
  refine .skip ?_
  refine hK3 _ _ (.seq (fun K6 hK6 => ?_))
  refine .regionD mo_B (.q 0 (.q 1 (.q 2 (.q 3 (.q 4 (.q 5 (.q 6 (.q 7 (.q 8 (.done)))))))))) (by kernel_rfl) ?_
  refine .mv rfl rfl (.q rfl (.fieldAddr fo_102_0_Li rfl) ?_)
  refine .q rfl (.load on_2_A rfl (by first | assumption | exact Mem.of_get at1008 0 _ rfl)) ?_
  refine .q rfl (.fieldAddr fo_102_1_Li rfl) ?_
  refine .q rfl (.load on_2_A rfl (by first | assumption | exact Mem.of_get at1008 1 _ rfl)) ?_
  refine .mv rfl rfl (.mv rfl rfl (.mv rfl rfl (.mv rfl rfl ?_)))
  refine .done ?_
  refine hK6 _ _ ?_
  refine .ret ?_
  refine hret _ _ ?_
  refine ⟨_, _, _, _, rfl, rfl, rfl, rfl, ?_⟩
  unfold trip tripC; rw [ht]; exact ⟨hle, rfl⟩
theorem l13Triple_c {a : Option Addr} {xs : List Int} {H : GHeap} (hx : Ints H a xs := by assumption) (h3 : xs = [] ∨ xs.length = 3) :
    GCalls Try.prog 58 [.slice a xs.length xs.length] H (Ret (trip xs (tripC xs)) H) := by
  refine GCalls.body (N := 18) (rs := [.tmp 2, .tmp 3, .tmp 4, .tmp 5]) Try.func58 rfl rfl rfl rfl (fun Qx hret hend => ?_)
  refine .fg [0] rfl ?_
  have base_hx := hx
  refine .seq (fun K1 hK1 => .region (.mv rfl (.mv rfl (.mv rfl (.mv rfl (.nil (hK1 _ _ (.seq (fun K2 hK2 => .seq (fun K3 hK3 => .region (.mv rfl (.q rfl (.len sl_22_A rfl) (.q rfl (.cmp rfl rfl rfl) (.nil (hK3 _ _ ?_)))))))))))))))
  refine .cond rfl (fun h8 => ?_) (fun h8 => ?_)
  ·
   have ht : xs = [] := List.length_eq_zero_iff.1 (by simp only [sps] at h8; omega)
   refine .seq (fun K4 hK4 => .region (.mv rfl (.mv rfl (.mv rfl (.mv rfl (.nil (hK4 _ _ ?_)))))))
   refine .ret ?_
   refine hret _ _ ?_
   refine ⟨_, _, _, _, rfl, rfl, rfl, rfl, ?_⟩
   subst ht; exact .of rfl
  have hl : xs.length = 3 := h3.resolve_left fun e => by rw [e] at h8; simp at h8
  have ht : xs.isEmpty = false := by cases xs with
    | nil => simp at hl
    | cons a l => rfl
  refine .skip ?_
  refine hK2 _ _ (.seq (fun K5 hK5 => ?_))
  refine .regionD mo_B (.q 0 (.q 1 (.q 2 (.q 3 (.q 4 (.q 5 (.q 6 (.q 7 (.q 8 (.q 9 (.q 10 (.q 11 (.q 12 (.done)))))))))))))) (by kernel_rfl) ?_
  refine .mv rfl rfl ?_
  refine .q rfl (.idxN (j := 0) sl_22_A (by assumption) rfl rfl (by omega)) ?_
  refine .q rfl (.loadI on_2_A (by assumption) rfl (by omega)) ?_
  refine .mv rfl rfl ?_
  refine .q rfl (.idxN (j := 1) sl_22_A (by assumption) rfl rfl (by omega)) ?_
  refine .q rfl (.loadI on_2_A (by assumption) rfl (by omega)) ?_
  refine .mv rfl rfl ?_
  refine .q rfl (.idxN (j := 2) sl_22_A (by assumption) rfl rfl (by omega)) ?_
  refine .q rfl (.loadI on_2_A (by assumption) rfl (by omega)) ?_
  refine .mv rfl rfl (.mv rfl rfl (.mv rfl rfl (.mv rfl rfl ?_)))
  refine .done ?_
  refine hK5 _ _ ?_
  refine .ret ?_
  refine hret _ _ ?_
  refine ⟨_, _, _, _, rfl, rfl, rfl, rfl, ?_⟩
  refine .of ?_
  unfold trip tripC
  rw [ht]; rfl
theorem l13CodeT_c {c : Cat} {p : CatP} {f k : Int} {H : GHeap} (hin : c.In H p := by assumption) (hs : c.Small := by assumption) :
    GCalls Try.prog 67 [.agg (c.cells p).toArray, .int .i64 f, .int .i64 k, .bool false, .bool true] H (Ret (.int .i64 (if c.code [f, k] = 0 then (if c.T f = c.T k then 0 else 5) else c.code [f, k])) H) := by
  refine GCalls.ret rfl ?_
  refine GCalls.body (N := 52) (rs := [.tmp 10]) Try.func67 rfl rfl rfl rfl (fun Qx hret hend => ?_)
  refine .fg [0, 1, 2, 3, 4] rfl ?_
  have hle := GHeap.Le.refl H
  have base_hin := hin
  refine .seq (fun K1 hK1 => .region ?_)
  refine .R rfl (.boxR rfl sz_29_D rfl) ?_
  rintro _ H5 ⟨g5, rfl, le5, ge5, at5⟩
  replace hle := hle.trans le5
  replace hin := base_hin.mono hle
  have hb5 : Cat.At _ g5 0 c p := ⟨Mem.of_get at5, hin⟩
  refine .mv rfl (.nil (hK1 _ _ (.seq (fun K2 hK2 => .region ?_))))
  refine .q rfl (.loadM ag_29_D rfl ⟨rfl, Mem.of_get at5⟩) ?_
  refine .mv rfl (.mv rfl ?_)
  refine .R rfl (.litA rfl sl_22_A ze_2_L rfl rfl rfl rfl) ?_
  rintro _ H15 ⟨g15, rfl, le15, ge15, at15⟩
  replace hle := hle.trans le15
  replace at5 := le15.2 _ _ at5
  replace hin := base_hin.mono hle
  clear hb5
  have hb5 : Cat.At _ g5 0 c p := ⟨Mem.of_get at5, hin⟩
  obtain ⟨-, -, c25, -, -, -, i25, -, -⟩ := hb5.get
  have hi5 := hb5.2
  refine .callQ rfl rfl rfl rfl @Try.call113 rfl (l02Arrows_c (xs := [f, k]) (hx := Ints.of_get (by assumption)) (hl := by simp)) ?_
  refine .mv rfl (.nil (hK2 _ _ (.seq (fun K3 hK3 => .seq (fun K4 hK4 => ?_)))))
  refine .regionD mo_B (.q 0 (.q 1 (.q 2 (.q 3 (.q 4 (.q 5 (.q 6 (.q 7 (.q 8 (.q 9 (.q 10 (.q 11 (.q 12 (.q 13 (.q 14 (.q 15 (.q 16 (.q 17 (.q 18 (.q 19 (.q 20 (.q 21 (.q 22 (.q 23 (.q 24 (.q 25 (.q 26 (.q 27 (.q 28 (.q 29 (.q 30 (.q 31 (.q 32 (.q 33 (.done))))))))))))))))))))))))))))))))))) (by kernel_rfl) ?_
  refine .mv rfl rfl (.q rfl (.cmp rfl rfl rfl) (.mv rfl rfl ?_))
  refine .split (fun h19 => ?_) (fun h19 => ?_)
  ·
   simp only [sps] at h19
   obtain ⟨hI, ⟨f0, f1⟩, k0, k1⟩ := Cat.code_two.1 h19
   have htl := hI.1.tl
   refine .qg rfl (.move rfl) (.qg rfl (.move rfl) (.z rfl (.z rfl (.z rfl (.z rfl (.z rfl (.z rfl (.z rfl (.z rfl (.z rfl (.z rfl (.z rfl (.qg rfl (.pickF rfl rfl) (.qg rfl (.move rfl) (.qg rfl (.move rfl) ?_)))))))))))))))
   refine .qg rfl (.move rfl) (.qg rfl (.fieldAddr fo_29_2_B rfl) ?_)
   refine .qg rfl (.load on_22_B rfl (by first | assumption | exact Mem.of_get at5 2 _ rfl)) ?_
   refine .qg rfl (.move rfl) ?_
   refine .qg rfl (.idx1 sl_22_A (by assumption) rfl rfl (by omega) (by omega)) ?_
   refine .qg rfl (.loadI on_2_A (by assumption) rfl (by omega)) ?_
   refine .qg rfl (.fieldAddr fo_29_2_B rfl) ?_
   refine .qg rfl (.load on_22_B rfl (by first | assumption | exact Mem.of_get at5 2 _ rfl)) ?_
   refine .qg rfl (.move rfl) ?_
   refine .qg rfl (.idx1 sl_22_A (by assumption) rfl rfl (by omega) (by omega)) ?_
   refine .qg rfl (.loadI on_2_A (by assumption) rfl (by omega)) ?_
   refine .qg rfl (.cmp rfl rfl rfl) (.qg rfl (.pickT rfl rfl) (.qg rfl (.pickF rfl rfl) (.q rfl (.pickT rfl rfl) ?_)))
   refine .done ?_
   refine hK4 _ _ ?_
   refine .cond rfl (fun h50 => ?_) (fun h50 => ?_)
   ·
    simp only [sps] at h50
    refine .region (.mv rfl (.nil (hK3 _ _ (.seq (fun K5 hK5 => .region (.mv rfl (.mv rfl (.nil (hK5 _ _ ?_)))))))))
    refine .ret ?_
    refine hret _ _ ?_
    refine ⟨_, rfl, ?_⟩
    rw [if_pos h19, if_neg (show ¬ c.T f = c.T k from h50)]; exact ⟨rfl, hle⟩
   simp only [sps] at h50
   refine .skip ?_
   refine hK3 _ _ (.seq (fun K6 hK6 => .region (.mv rfl (.mv rfl (.nil (hK6 _ _ ?_))))))
   refine .ret ?_
   refine hret _ _ ?_
   refine ⟨_, rfl, ?_⟩
   rw [if_pos h19, if_pos (show c.T f = c.T k from h50), h19]; exact ⟨rfl, hle⟩
  simp only [sps] at h19
  refine .z rfl (.z rfl ?_)
  refine .sgu rfl rfl rfl rfl rfl rfl ?_
  refine .sgu rfl rfl rfl rfl rfl rfl ?_
  refine .sgu rfl rfl rfl rfl rfl rfl ?_
  refine .sgu rfl rfl rfl rfl rfl rfl ?_
  refine .sgu rfl rfl rfl rfl rfl rfl ?_
  refine .sgu rfl rfl rfl rfl rfl rfl ?_
  refine .sgu rfl rfl rfl rfl rfl rfl ?_
  refine .sgu rfl rfl rfl rfl rfl rfl ?_
  refine .sgu rfl rfl rfl rfl rfl rfl ?_
  refine .sgu rfl rfl rfl rfl rfl rfl ?_
  refine .sgu rfl rfl rfl rfl rfl rfl ?_
  refine .z rfl (.z rfl ?_)
  refine .sgu rfl rfl rfl rfl rfl rfl ?_
  refine .sgu rfl rfl rfl rfl rfl rfl ?_
  refine .sgu rfl rfl rfl rfl rfl rfl ?_
  refine .sgu rfl rfl rfl rfl rfl rfl ?_
  refine .sgu rfl rfl rfl rfl rfl rfl ?_
  refine .sgu rfl rfl rfl rfl rfl rfl ?_
  refine .sgu rfl rfl rfl rfl rfl rfl ?_
  refine .sgu rfl rfl rfl rfl rfl rfl ?_
  refine .sgu rfl rfl rfl rfl rfl rfl ?_
  refine .sgu rfl rfl rfl rfl rfl rfl ?_
  refine .sgu rfl rfl rfl rfl rfl rfl ?_
  refine .sgu rfl rfl rfl rfl rfl rfl ?_
  refine .sgu rfl rfl rfl rfl rfl rfl ?_
  refine .sgu rfl rfl rfl rfl rfl rfl ?_
  refine .z rfl (.q rfl (.pickF rfl rfl) ?_)
  refine .done ?_
  refine hK4 _ _ ?_
  refine .condF rfl ?_
  refine .skip ?_
  refine hK3 _ _ (.seq (fun K7 hK7 => .region (.mv rfl (.mv rfl (.nil (hK7 _ _ ?_))))))
  refine .ret ?_
  refine hret _ _ ?_
  refine ⟨_, rfl, ?_⟩
  rw [if_neg h19]; exact ⟨rfl, hle⟩
theorem specPullbackArrows_c {c : Cat} {p : CatP} {f k : Int} {H : GHeap} (hin : c.In H p := by assumption) (hs : c.Small := by assumption) :
    GCalls Try.prog 25 [.agg (c.cells p).toArray, .int .i64 f, .int .i64 k] H (fun v H' => H.Le H' ∧ v = trip (c.pbL f k) (c.pbC f k)) := by
  refine GCalls.body (N := 36) (rs := [.tmp 6, .tmp 7, .tmp 8, .tmp 9]) Try.func25 rfl rfl rfl rfl (fun Qx hret hend => ?_)
  refine .fg [0, 1, 2] rfl ?_
  have hle := GHeap.Le.refl H
  have base_hin := hin
  refine .seq (fun K1 hK1 => .region ?_)
  refine .R rfl (.boxR rfl sz_29_D rfl) ?_
  rintro _ H3 ⟨g3, rfl, le3, ge3, at3⟩
  replace hle := hle.trans le3
  replace hin := base_hin.mono hle
  have hb3 : Cat.At _ g3 0 c p := ⟨Mem.of_get at3, hin⟩
  have hi3 := hb3.2
  refine .mv rfl (.mv rfl (.mv rfl (.mv rfl (.nil (hK1 _ _ (.seq (fun K2 hK2 => .region ?_)))))))
  refine .q rfl (.loadM ag_29_D rfl ⟨rfl, Mem.of_get at3⟩) ?_
  refine .mv rfl (.mv rfl ?_)
  refine .callQ rfl rfl rfl rfl @Try.call67 rfl (l13CodeT_c) ?_
  refine .mv rfl (.nil (hK2 _ _ (.seq (fun K3 hK3 => .seq (fun K4 hK4 => .region (.mv rfl (.q rfl (.cmp rfl rfl rfl) (.nil (hK4 _ _ ?_)))))))))
  refine .cond rfl (fun h20 => ?_) (fun h20 => ?_)
  ·
   simp only [sps] at h20
   refine .seq (fun K5 hK5 => .region (.mv rfl (.mv rfl (.mv rfl (.mv rfl (.mv rfl (.nil (hK5 _ _ ?_))))))))
   refine .ret ?_
   refine hret _ _ ?_
   refine ⟨_, _, _, _, rfl, rfl, rfl, rfl, ?_⟩
   by_cases hk : c.code [f, k] = 0
   · by_cases ht : c.T f = c.T k
     · rw [if_pos hk, if_pos ht] at h20; exact absurd rfl h20
     · rw [(Cat.pb_st hk ht).1, (Cat.pb_st hk ht).2, if_pos hk, if_neg ht]; exact ⟨hle, rfl⟩
   · rw [(Cat.pb_err hk).1, (Cat.pb_err hk).2, if_neg hk]; exact ⟨hle, rfl⟩
  simp only [sps] at h20
  refine .skip ?_
  refine hK3 _ _ (.seq (fun K6 hK6 => .region ?_))
  have hk : c.code [f, k] = 0 := Classical.byContradiction fun q => by rw [if_neg q] at h20; exact q h20
  have ht : c.T f = c.T k := Classical.byContradiction fun q => by rw [if_pos hk, if_neg q] at h20; exact absurd h20 (by decide)
  obtain ⟨hI, hf, hkk⟩ := Cat.code_two.1 hk
  have hS := hI.1
  refine .q rfl (.loadM ag_29_D rfl ⟨rfl, Mem.of_get at3⟩) ?_
  refine .mv rfl (.mv rfl ?_)
  refine .call rfl rfl rfl rfl @Try.call68 rfl (l13Pullback_c (hf := hf) (hk := hkk)) ?_
  rintro _ H26 ⟨le26, a26, rfl, i26⟩
  replace hle := hle.trans le26
  replace at3 := le26.2 _ _ at3
  replace hin := base_hin.mono hle
  clear hb3 hi3
  have hb3 : Cat.At _ g3 0 c p := ⟨Mem.of_get at3, hin⟩
  refine .callQ rfl rfl rfl rfl @Try.call58 rfl (l13Triple_c (hx := i26) (h3 := Cat.fst_len c _)) ?_
  refine .mv rfl (.q rfl (.extract rfl rfl) (.q rfl (.extract rfl rfl) (.q rfl (.extract rfl rfl) (.q rfl (.extract rfl rfl) (.mv rfl (.mv rfl (.mv rfl (.mv rfl (.nil (hK6 _ _ (.seq (fun K7 hK7 => .region (.mv rfl (.mv rfl (.mv rfl ?_)))))))))))))))
  refine .mv rfl (.mv rfl (.mv rfl (.mv rfl (.mv rfl (.nil (hK7 _ _ ?_))))))
  refine .ret ?_
  refine hret _ _ ?_
  refine ⟨_, _, _, _, rfl, rfl, rfl, rfl, ?_⟩
  rw [(Cat.pb_ok hk ht).1, (Cat.pb_ok hk ht).2]; exact ⟨hle, rfl⟩
theorem implPullbackArrows_c {c : Cat} {p : CatP} {f k : Int} {H : GHeap} (hin : c.In H p := by assumption) (hs : c.Small := by assumption) :
    GCalls Try.prog 24 [.agg (c.cells p).toArray, .int .i64 f, .int .i64 k] H (fun v H' => H.Le H' ∧ v = trip (c.pbL f k) (c.pbC f k)) := by
  refine GCalls.body (N := 37) (rs := [.tmp 6, .tmp 7, .tmp 8, .tmp 9]) Try.func24 rfl rfl rfl rfl (fun Qx hret hend => ?_)
  refine .fg [0, 1, 2] rfl ?_
  have hle := GHeap.Le.refl H
  have base_hin := hin
  refine .seq (fun K1 hK1 => .region ?_)
  refine .R rfl (.boxR rfl sz_29_D rfl) ?_
  rintro _ H3 ⟨g3, rfl, le3, ge3, at3⟩
  replace hle := hle.trans le3
  replace hin := base_hin.mono hle
  have hb3 : Cat.At _ g3 0 c p := ⟨Mem.of_get at3, hin⟩
  refine .mv rfl (.mv rfl (.mv rfl (.mv rfl (.nil (hK1 _ _ (.seq (fun K2 hK2 => .seq (fun K3 hK3 => .region (.mv rfl (.mv rfl ?_))))))))))
  refine .R rfl (.litA rfl sl_22_A ze_2_L rfl rfl rfl rfl) ?_
  rintro _ H13 ⟨g13, rfl, le13, ge13, at13⟩
  replace hle := hle.trans le13
  replace at3 := le13.2 _ _ at3
  replace hin := base_hin.mono hle
  clear hb3
  have hb3 : Cat.At _ g3 0 c p := ⟨Mem.of_get at3, hin⟩
  obtain ⟨-, -, c23, -, -, -, i23, -, -⟩ := hb3.get
  refine .callQ rfl rfl rfl rfl @Try.call62 rfl (arrowCode_c (xs := [f, k]) (hx := Ints.of_get (by assumption)) (hl := by simp)) ?_
  refine .mv rfl (.nil (hK3 _ _ (.seq (fun K4 hK4 => .region (.mv rfl (.q rfl (.cmp rfl rfl rfl) (.nil (hK4 _ _ ?_))))))))
  refine .cond rfl (fun h16 => ?_) (fun h16 => ?_)
  ·
   simp only [sps] at h16
   refine .seq (fun K5 hK5 => .region (.mv rfl (.mv rfl (.mv rfl (.mv rfl (.mv rfl (.nil (hK5 _ _ ?_))))))))
   refine .ret ?_
   refine hret _ _ ?_
   refine ⟨_, _, _, _, rfl, rfl, rfl, rfl, ?_⟩
   rw [(Cat.pb_err h16).1, (Cat.pb_err h16).2]; exact ⟨hle, rfl⟩
  simp only [sps] at h16
  obtain ⟨hI, hf, hkk⟩ := Cat.code_two.1 h16
  have hS := hI.1
  have htl := hS.tl
  refine .skip ?_
  refine hK2 _ _ (.seq (fun K6 hK6 => .seq (fun K7 hK7 => ?_)))
  refine .regionD mo_B (.q 0 (.q 1 (.q 2 (.q 3 (.q 4 (.q 5 (.q 6 (.q 7 (.q 8 (.q 9 (.q 10 (.done)))))))))))) (by kernel_rfl) ?_
  refine .q rfl (.fieldAddr fo_29_2_B rfl) ?_
  refine .q rfl (.load on_22_B rfl (by first | assumption | exact Mem.of_get at3 2 _ rfl)) ?_
  refine .mv rfl rfl ?_
  refine .q rfl (.idx1 sl_22_A (by assumption) rfl rfl (by omega) (by omega)) ?_
  refine .q rfl (.loadI on_2_A (by assumption) rfl (by omega)) ?_
  refine .q rfl (.fieldAddr fo_29_2_B rfl) ?_
  refine .q rfl (.load on_22_B rfl (by first | assumption | exact Mem.of_get at3 2 _ rfl)) ?_
  refine .mv rfl rfl ?_
  refine .q rfl (.idx1 sl_22_A (by assumption) rfl rfl (by omega) (by omega)) ?_
  refine .q rfl (.loadI on_2_A (by assumption) rfl (by omega)) ?_
  refine .q rfl (.cmp rfl rfl rfl) ?_
  refine .done ?_
  refine hK7 _ _ ?_
  refine .cond rfl (fun h28 => ?_) (fun h28 => ?_)
  ·
   simp only [sps] at h28
   refine .seq (fun K8 hK8 => .region (.mv rfl (.mv rfl (.mv rfl (.mv rfl (.nil (hK8 _ _ ?_)))))))
   refine .ret ?_
   refine hret _ _ ?_
   refine ⟨_, _, _, _, rfl, rfl, rfl, rfl, ?_⟩
   rw [(Cat.pb_st h16 h28).1, (Cat.pb_st h16 h28).2]; exact ⟨hle, rfl⟩
  simp only [sps] at h28
  refine .skip ?_
  refine hK6 _ _ (.seq (fun K9 hK9 => .region (.mv rfl (.mv rfl ?_))))
  refine .call rfl rfl rfl rfl @Try.call66 rfl (pullbacks_c (hf := hf) (hk := hkk)) ?_
  rintro _ H31 ⟨le31, g31, rfl, ge31, sp31⟩
  replace hle := hle.trans le31
  replace at3 := le31.2 _ _ at3
  replace hin := base_hin.mono hle
  clear hb3 c23 i23
  have hb3 : Cat.At _ g3 0 c p := ⟨Mem.of_get at3, hin⟩
  refine .call rfl rfl rfl rfl @Try.call56 rfl (tripleS_c (hs := sp31) (hc := Cat.pull_goI hI hf hkk)) ?_
  rintro _ H32 ⟨le32, rfl⟩
  replace hle := hle.trans le32
  replace at3 := le32.2 _ _ at3
  replace hin := base_hin.mono hle
  clear hb3
  have hb3 : Cat.At _ g3 0 c p := ⟨Mem.of_get at3, hin⟩
  refine .q rfl (.extract rfl rfl) (.q rfl (.extract rfl rfl) (.q rfl (.extract rfl rfl) (.q rfl (.extract rfl rfl) (.mv rfl (.mv rfl (.mv rfl (.mv rfl (.nil (hK9 _ _ ?_)))))))))
  refine .ret ?_
  refine hret _ _ ?_
  refine ⟨_, _, _, _, rfl, rfl, rfl, rfl, ?_⟩
  rw [(Cat.pb_ok h16 h28).1, (Cat.pb_ok h16 h28).2]; exact ⟨hle, rfl⟩
theorem kernelPair_c {c : Cat} {p : CatP} {f : Int} {H : GHeap} (hin : c.In H p := by assumption) (hs : c.Small := by assumption) :
    GCalls Try.prog 27 [.agg (c.cells p).toArray, .int .i64 f] H (fun v H' => H.Le H' ∧ v = trip (c.pbL f f) (c.pbC f f)) := by
  refine GCalls.body (N := 16) (rs := [.tmp 4, .tmp 5, .tmp 6, .tmp 7]) Try.func27 rfl rfl rfl rfl (fun Qx hret hend => ?_)
  refine .fg [0, 1] rfl ?_
  have hle := GHeap.Le.refl H
  have base_hin := hin
  refine .seq (fun K1 hK1 => .region ?_)
  refine .R rfl (.boxR rfl sz_29_D rfl) ?_
  rintro _ H2 ⟨g2, rfl, le2, ge2, at2⟩
  replace hle := hle.trans le2
  replace hin := base_hin.mono hle
  have hb2 : Cat.At _ g2 0 c p := ⟨Mem.of_get at2, hin⟩
  have hi2 := hb2.2
  refine .mv rfl (.mv rfl (.mv rfl (.mv rfl (.nil (hK1 _ _ (.seq (fun K2 hK2 => .region ?_)))))))
  refine .q rfl (.loadM ag_29_D rfl ⟨rfl, Mem.of_get at2⟩) ?_
  refine .mv rfl (.mv rfl ?_)
  refine .call rfl rfl rfl rfl @Try.call24 rfl (implPullbackArrows_c) ?_
  rintro _ H11 ⟨le11, rfl⟩
  replace hle := hle.trans le11
  replace at2 := le11.2 _ _ at2
  replace hin := base_hin.mono hle
  clear hb2 hi2
  have hb2 : Cat.At _ g2 0 c p := ⟨Mem.of_get at2, hin⟩
  refine .q rfl (.extract rfl rfl) (.q rfl (.extract rfl rfl) (.q rfl (.extract rfl rfl) (.q rfl (.extract rfl rfl) (.mv rfl (.mv rfl (.mv rfl (.mv rfl (.nil (hK2 _ _ ?_)))))))))
  refine .ret ?_
  refine hret _ _ ?_
  refine ⟨_, _, _, _, rfl, rfl, rfl, rfl, ?_⟩
  exact ⟨hle, rfl⟩
theorem pushout0_c {c : Cat} {p : CatP} {f k : Int} {H : GHeap} (hin : c.In H p := by assumption) (hs : c.Small := by assumption) (hk : c.code [f, k] = 0) :
    GCalls Try.prog 30 [.agg (c.cells p).toArray, .int .i64 f, .int .i64 k] H (fun v H' => H.Le H' ∧ v = trip (c.op.pbL f k) (c.op.pbC f k)) := by
  obtain ⟨hI, -, -⟩ := Cat.code_two.1 hk
  have hS := hI.1
  have hso := hI.op.1.small
  refine GCalls.body (N := 26) (rs := [.tmp 6, .tmp 7, .tmp 8, .tmp 9]) Try.func30 rfl rfl rfl rfl (fun Qx hret hend => ?_)
  refine .fg [0, 1, 2] rfl ?_
  have hle := GHeap.Le.refl H
  have base_hin := hin
  refine .seq (fun K1 hK1 => .region ?_)
  refine .R rfl (.boxR rfl sz_29_D rfl) ?_
  rintro _ H3 ⟨g3, rfl, le3, ge3, at3⟩
  replace hle := hle.trans le3
  replace hin := base_hin.mono hle
  have hb3 : Cat.At _ g3 0 c p := ⟨Mem.of_get at3, hin⟩
  refine .mv rfl (.mv rfl (.mv rfl (.mv rfl (.nil (hK1 _ _ (.seq (fun K2 hK2 => .seq (fun K3 hK3 => .region (.mv rfl (.mv rfl ?_))))))))))
  refine .R rfl (.litA rfl sl_22_A ze_2_L rfl rfl rfl rfl) ?_
  rintro _ H13 ⟨g13, rfl, le13, ge13, at13⟩
  replace hle := hle.trans le13
  replace at3 := le13.2 _ _ at3
  replace hin := base_hin.mono hle
  clear hb3
  have hb3 : Cat.At _ g3 0 c p := ⟨Mem.of_get at3, hin⟩
  refine .callQ rfl rfl rfl rfl @Try.call62 rfl (arrowCode_c (xs := [f, k]) (hx := Ints.of_get (by assumption)) (hl := by simp)) ?_
  refine .mv rfl (.nil (hK3 _ _ (.seq (fun K4 hK4 => .region (.mv rfl (.q rfl (.cmp rfl rfl rfl) (.nil (hK4 _ _ ?_))))))))
  refine .cond rfl (fun h16 => ?_) (fun h16 => ?_)
  ·
   simp only [sps] at h16; exact absurd hk h16
  try simp only [sps] at h16
  refine .skip ?_
  refine hK2 _ _ (.seq (fun K5 hK5 => .region ?_))
  refine .call rfl rfl rfl rfl @Try.call47 rfl (opposite_c) ?_
  rintro _ H18 ⟨le18, p18, rfl, v18⟩
  replace hle := hle.trans le18
  replace at3 := le18.2 _ _ at3
  replace hin := base_hin.mono hle
  clear hb3
  have hb3 : Cat.At _ g3 0 c p := ⟨Mem.of_get at3, hin⟩
  have i18 := v18.inn
  refine .mv rfl (.mv rfl ?_)
  refine .call rfl rfl rfl rfl @Try.call24 rfl (implPullbackArrows_c (c := c.op)) ?_
  rintro _ H21 ⟨le21, rfl⟩
  replace hle := hle.trans le21
  replace at3 := le21.2 _ _ at3
  replace hin := base_hin.mono hle
  clear hb3
  have hb3 : Cat.At _ g3 0 c p := ⟨Mem.of_get at3, hin⟩
  clear i18
  refine .q rfl (.extract rfl rfl) (.q rfl (.extract rfl rfl) (.q rfl (.extract rfl rfl) (.q rfl (.extract rfl rfl) (.mv rfl (.mv rfl (.mv rfl (.mv rfl (.nil (hK5 _ _ ?_)))))))))
  refine .ret ?_
  refine hret _ _ ?_
  refine ⟨_, _, _, _, rfl, rfl, rfl, rfl, ?_⟩
  exact ⟨hle, rfl⟩
end Go.Proofs.Ytjdedelneppnlaa
namespace Go.Proofs.Ytjdedelneppnlaa
open Go Go.GL Go.RowKit Go.Proofs
theorem bo_4_LFnPullbacks : isBoolT Try.prog 4 = true := by kernel_rfl
set_option maxHeartbeats 40000000 in
set_option maxRecDepth 4000 in
theorem lawFnPullbacks_c {a : Option Addr} {xs : List Int} {H : GHeap} (hb : Bytes H a xs) (hl : xs.length ≤ 9223372036854775807) (hlt : ∀ b o t, a = some ⟨b, o, t⟩ → b < H.next) :
    GCalls Try.prog 5 [.slice a xs.length xs.length] H (fun v _ => v = .bool true) := by
  refine GCalls.body (N := 177) (rs := [.tmp 2]) Try.func5 rfl rfl rfl rfl (fun Qx hret hend => ?_)
  refine .fg [0] rfl ?_
  have base_hb := hb
  refine .seq (fun K1 hK1 => .region (.mv rfl (.nil (hK1 _ _ (.seq (fun K2 hK2 => .seq (fun K3 hK3 => .region (.mv rfl ?_))))))))
  refine .callQ rfl rfl rfl rfl @Try.call16 rfl (big_c) ?_
  refine .nil (hK3 _ _ ?_)
  refine .cond rfl (fun h29 => ?_) (fun h29 => ?_)
  ·
   try simp only [sps] at h29
   refine .seq (fun K4 hK4 => .region (.mv rfl (.nil (hK4 _ _ ?_))))
   refine .ret ?_
   refine hret _ _ ?_
   refine ⟨_, rfl, ?_⟩
   first | rfl | exact congrArg Value.bool (beq_iff_eq.2 rfl)
  simp only [sps] at h29
  refine .skip ?_
  refine hK2 _ _ (.seq (fun K5 hK5 => .region (.mv rfl ?_)))
  refine .call rfl rfl rfl rfl @Try.call23 rfl (drawPullbackArrows_c) ?_
  rintro _ H32 ⟨le32, c32, p32, f32, k32, rfl, sm32, v32, bf32, bk32⟩
  have bs_v32 := v32
  have lv_v32 : Keep H.next H32 H32 := fun _ _ _ h => h
  refine .mv rfl (.q rfl (.extract rfl rfl) (.q rfl (.extract rfl rfl) (.q rfl (.extract rfl rfl) ?_)))
  refine .R rfl (.allocR rfl ze_29_Hj rfl) ?_
  rintro _ H3 ⟨g3, rfl, le3, ge3, at3⟩
  replace lv_v32 := Keep.le lv_v32 le3
  refine .r0 rfl rfl (.fillA rfl sz_29_D rfl rfl rfl rfl) ?_
  rintro _ H3007 ⟨rfl, st3007, at3007⟩
  replace lv_v32 := Keep.st lv_v32 st3007 (fun k hb hk => ⟨by omega, trivial⟩)
  replace v32 := bs_v32.keep lv_v32 (Nat.le_refl _)
  have i32 := v32.inn
  refine .mv rfl (.mv rfl (.nil (hK5 _ _ (.seq (fun K6 hK6 => .region ?_)))))
  refine .q rfl (.loadM ag_29_D rfl ⟨rfl, Mem.of_get at3007⟩) ?_
  refine .mv rfl (.mv rfl ?_)
  refine .call rfl rfl rfl rfl @Try.call24 rfl (implPullbackArrows_c) ?_
  rintro _ H40 ⟨le40, rfl⟩
  replace at3007 := le40.2 _ _ at3007
  replace lv_v32 := Keep.le lv_v32 le40
  replace v32 := bs_v32.keep lv_v32 (Nat.le_refl _)
  clear i32
  have i32 := v32.inn
  refine .mv rfl (.q rfl (.extract rfl rfl) (.q rfl (.extract rfl rfl) (.q rfl (.extract rfl rfl) (.q rfl (.extract rfl rfl) (.mv rfl (.mv rfl (.mv rfl (.mv rfl (.nil (hK6 _ _ (.seq (fun K7 hK7 => .region ?_))))))))))))
  refine .q rfl (.loadM ag_29_D rfl ⟨rfl, Mem.of_get at3007⟩) ?_
  refine .mv rfl (.mv rfl ?_)
  refine .call rfl rfl rfl rfl @Try.call25 rfl (specPullbackArrows_c) ?_
  rintro _ H49 ⟨le49, rfl⟩
  replace at3007 := le49.2 _ _ at3007
  replace lv_v32 := Keep.le lv_v32 le49
  replace v32 := bs_v32.keep lv_v32 (Nat.le_refl _)
  clear i32
  have i32 := v32.inn
  refine .mv rfl (.q rfl (.extract rfl rfl) (.q rfl (.extract rfl rfl) (.q rfl (.extract rfl rfl) (.q rfl (.extract rfl rfl) (.mv rfl (.mv rfl (.mv rfl (.mv rfl (.nil (hK7 _ _ (.seq (fun K8 hK8 => .seq (fun K9 hK9 => .region (.mv rfl (.mv rfl ?_)))))))))))))))
  refine .q rfl (.cmp rfl rfl rfl) (.mv rfl ?_)
  refine .split (fun h57 => ?_) (fun h57 => ?_)
  ·
   simp at h57
  try simp only [sps] at h57
  refine .qg rfl (.move rfl) (.qg rfl (.move rfl) (.qg rfl (.cmp rfl rfl rfl) (.q rfl (.pickF rfl rfl) (.mv rfl ?_))))
  refine .split (fun h62 => ?_) (fun h62 => ?_)
  ·
   simp at h62
  try simp only [sps] at h62
  refine .qg rfl (.move rfl) (.qg rfl (.move rfl) (.qg rfl (.cmp rfl rfl rfl) (.q rfl (.pickF rfl rfl) (.mv rfl ?_))))
  refine .split (fun h67 => ?_) (fun h67 => ?_)
  ·
   simp at h67
  try simp only [sps] at h67
  refine .qg rfl (.move rfl) (.qg rfl (.move rfl) (.qg rfl (.cmp rfl rfl rfl) (.q rfl (.pickF rfl rfl) (.nil (hK9 _ _ ?_)))))
  refine .cond rfl (fun h71 => ?_) (fun h71 => ?_)
  ·
   simp at h71
  try simp only [sps] at h71
  refine .skip ?_
  refine hK8 _ _ (.seq (fun K10 hK10 => .seq (fun K11 hK11 => .region (.mv rfl (.q rfl (.cmp rfl rfl rfl) (.mv rfl ?_))))))
  refine .split (fun h74 => ?_) (fun h74 => ?_)
  ·
   simp only [sps] at h74
   refine .qg rfl (.move rfl) (.qg rfl (.cmp rfl rfl rfl) (.q rfl (.pickT rfl rfl) (.nil (hK11 _ _ ?_))))
   refine .cond rfl (fun h77 => ?_) (fun h77 => ?_)
   ·
    simp only [sps] at h77
    refine .seq (fun K12 hK12 => .region (.mv rfl (.nil (hK12 _ _ ?_))))
    refine .ret ?_
    refine hret _ _ ?_
    refine ⟨_, rfl, ?_⟩
    first | rfl | exact congrArg Value.bool (beq_iff_eq.2 rfl)
   simp only [sps] at h77
   refine .skip ?_
   refine hK10 _ _ (.seq (fun K13 hK13 => .region ?_))
   obtain ⟨hk0, hT⟩ := Cat.pb_in (c := c32) (f := f32) (g := k32) (by omega)
   obtain ⟨k1, -, k3, k4, -⟩ := Cat.pb_law hk0 hT
   obtain ⟨hI, ⟨f0, f1⟩, g0, g1⟩ := Cat.code_two.1 hk0
   refine .q rfl (.loadM ag_29_D rfl ⟨rfl, Mem.of_get at3007⟩) ?_
   refine .mv rfl ?_
   refine .callQ rfl rfl rfl rfl @Try.call26 rfl (implIsMono_c) ?_
   refine .mv rfl (.q rfl (.extract rfl rfl) (.q rfl (.extract rfl rfl) (.mv rfl (.mv rfl (.nil (hK13 _ _ (.seq (fun K14 hK14 => .region ?_))))))))
   refine .q rfl (.loadM ag_29_D rfl ⟨rfl, Mem.of_get at3007⟩) ?_
   refine .mv rfl ?_
   refine .call rfl rfl rfl rfl @Try.call27 rfl (kernelPair_c) ?_
   rintro _ H87 ⟨le87, rfl⟩
   clear i32
   refine .mv rfl (.q rfl (.extract rfl rfl) (.q rfl (.extract rfl rfl) (.q rfl (.extract rfl rfl) (.q rfl (.extract rfl rfl) (.mv rfl (.mv rfl (.mv rfl (.mv rfl (.nil (hK14 _ _ (.seq (fun K15 hK15 => .seq (fun K16 hK16 => .region (.mv rfl (.q rfl (.cmp rfl rfl rfl) ?_)))))))))))))))
   refine .mv rfl ?_
   refine .split (fun h94 => ?_) (fun h94 => ?_)
   ·
    simp only [sps] at h94; exact absurd k1 h94
   try simp only [sps] at h94
   refine .qg rfl (.move rfl) (.qg rfl (.cmp rfl rfl rfl) (.qg rfl (.move rfl) ?_))
   refine .split (fun h97 => ?_) (fun h97 => ?_)
   ·
    simp only [sps] at h97
    refine .qg rfl (.move rfl) (.qg rfl (.move rfl) (.qg rfl (.move rfl) (.qg rfl (.cmp rfl rfl rfl) (.qg rfl (.boolNe bo_4_LFnPullbacks rfl rfl) (.qg rfl (.pickT rfl rfl) (.q rfl (.pickF rfl rfl) (.mv rfl ?_)))))))
    refine .split (fun h105 => ?_) (fun h105 => ?_)
    ·
     rw [k3 h97] at h105
     simp [bne] at h105
     exact absurd rfl h105
    try simp only [sps] at h105
    refine .qg rfl (.move rfl) (.qg rfl (.cmp rfl rfl rfl) (.qg rfl (.move rfl) ?_))
    refine .split (fun h108 => ?_) (fun h108 => ?_)
    ·
     simp only [sps] at h108; exact absurd h97 h108
    try simp only [sps] at h108
    refine .z rfl (.z rfl (.z rfl ?_))
    refine .sgu rfl rfl rfl rfl rfl ?_
    refine .z rfl (.qg rfl (.pickF rfl rfl) (.q rfl (.pickF rfl rfl) (.nil (hK16 _ _ ?_))))
    refine .condF rfl ?_
    refine .skip ?_
    refine hK15 _ _ (.seq (fun K17 hK17 => .seq (fun K18 hK18 => .region (.mv rfl (.q rfl (.cmp rfl rfl rfl) (.nil (hK18 _ _ ?_)))))))
    refine .cond rfl (fun h117 => ?_) (fun h117 => ?_)
    ·
     simp only [sps] at h117
     refine .seq (fun K19 hK19 => .region (.mv rfl (.nil (hK19 _ _ ?_))))
     refine .ret ?_
     refine hret _ _ ?_
     refine ⟨_, rfl, ?_⟩
     first | rfl | exact congrArg Value.bool (beq_iff_eq.2 rfl)
    simp only [sps] at h117; omega
   simp only [sps] at h97
   refine .z rfl (.z rfl (.z rfl (.z rfl (.z rfl (.qg rfl (.pickF rfl rfl) (.q rfl (.pickF rfl rfl) (.mv rfl (.qg rfl (.move rfl) (.qg rfl (.cmp rfl rfl rfl) (.qg rfl (.move rfl) ?_))))))))))
   refine .split (fun h108 => ?_) (fun h108 => ?_)
   ·
    try simp only [sps] at h108
    refine .qg rfl (.move rfl) (.qg rfl (.cmp rfl rfl rfl) (.qg rfl (.move rfl) ?_))
    refine .split (fun h111 => ?_) (fun h111 => ?_)
    ·
     simp only [sps] at h111; exact absurd (k4 h97).1 h111
    try simp only [sps] at h111
    refine .qg rfl (.move rfl) (.qg rfl (.pickF rfl rfl) (.qg rfl (.pickT rfl rfl) (.q rfl (.pickF rfl rfl) (.nil (hK16 _ _ ?_)))))
    refine .cond rfl (fun h115 => ?_) (fun h115 => ?_)
    ·
     rw [(k4 h97).2] at h115; cases h115
    try simp only [sps] at h115
    refine .skip ?_
    refine hK15 _ _ (.seq (fun K20 hK20 => .seq (fun K21 hK21 => .region (.mv rfl (.q rfl (.cmp rfl rfl rfl) (.nil (hK21 _ _ ?_)))))))
    refine .cond rfl (fun h117 => ?_) (fun h117 => ?_)
    ·
     simp only [sps] at h117
     refine .seq (fun K22 hK22 => .region (.mv rfl (.nil (hK22 _ _ ?_))))
     refine .ret ?_
     refine hret _ _ ?_
     refine ⟨_, rfl, ?_⟩
     first | rfl | exact congrArg Value.bool (beq_iff_eq.2 rfl)
    simp only [sps] at h117; omega
   simp only [sps] at h108; exact absurd h108 h97
  simp only [sps] at h74
  refine .z rfl (.z rfl (.q rfl (.pickF rfl rfl) (.nil (hK11 _ _ ?_))))
  refine .condF rfl ?_
  refine .skip ?_
  refine hK10 _ _ (.seq (fun K23 hK23 => .region ?_))
  obtain ⟨hk0, hT⟩ := Cat.pb_in (c := c32) (f := f32) (g := k32) (by omega)
  obtain ⟨k1, -, k3, k4, k5⟩ := Cat.pb_law hk0 hT
  obtain ⟨hI, ⟨f0, f1⟩, g0, g1⟩ := Cat.code_two.1 hk0
  have hS := hI.1
  have htl := hS.tl
  refine .q rfl (.loadM ag_29_D rfl ⟨rfl, Mem.of_get at3007⟩) ?_
  refine .mv rfl ?_
  refine .callQ rfl rfl rfl rfl @Try.call26 rfl (implIsMono_c) ?_
  refine .mv rfl (.q rfl (.extract rfl rfl) (.q rfl (.extract rfl rfl) (.mv rfl (.mv rfl (.nil (hK23 _ _ (.seq (fun K24 hK24 => .region ?_))))))))
  refine .q rfl (.loadM ag_29_D rfl ⟨rfl, Mem.of_get at3007⟩) ?_
  refine .mv rfl ?_
  refine .call rfl rfl rfl rfl @Try.call27 rfl (kernelPair_c) ?_
  rintro _ H87x2 ⟨le87x2, rfl⟩
  replace at3007 := le87x2.2 _ _ at3007
  replace lv_v32 := Keep.le lv_v32 le87x2
  replace v32 := bs_v32.keep lv_v32 (Nat.le_refl _)
  have i32 := v32.inn
  refine .mv rfl (.q rfl (.extract rfl rfl) (.q rfl (.extract rfl rfl) (.q rfl (.extract rfl rfl) (.q rfl (.extract rfl rfl) (.mv rfl (.mv rfl (.mv rfl (.mv rfl (.nil (hK24 _ _ (.seq (fun K25 hK25 => .seq (fun K26 hK26 => .region (.mv rfl (.q rfl (.cmp rfl rfl rfl) ?_)))))))))))))))
  refine .mv rfl ?_
  refine .split (fun h94 => ?_) (fun h94 => ?_)
  ·
   simp only [sps] at h94; exact absurd k1 h94
  try simp only [sps] at h94
  refine .qg rfl (.move rfl) (.qg rfl (.cmp rfl rfl rfl) (.qg rfl (.move rfl) ?_))
  refine .split (fun h97 => ?_) (fun h97 => ?_)
  ·
   simp only [sps] at h97
   refine .qg rfl (.move rfl) (.qg rfl (.move rfl) (.qg rfl (.move rfl) (.qg rfl (.cmp rfl rfl rfl) (.qg rfl (.boolNe bo_4_LFnPullbacks rfl rfl) (.qg rfl (.pickT rfl rfl) (.q rfl (.pickF rfl rfl) (.mv rfl ?_)))))))
   refine .split (fun h105 => ?_) (fun h105 => ?_)
   ·
    rw [k3 h97] at h105
    simp [bne] at h105
    exact absurd rfl h105
   try simp only [sps] at h105
   refine .qg rfl (.move rfl) (.qg rfl (.cmp rfl rfl rfl) (.qg rfl (.move rfl) ?_))
   refine .split (fun h108 => ?_) (fun h108 => ?_)
   ·
    simp only [sps] at h108; exact absurd h97 h108
   try simp only [sps] at h108
   refine .z rfl (.z rfl (.z rfl ?_))
   refine .sgu rfl rfl rfl rfl rfl ?_
   refine .z rfl (.qg rfl (.pickF rfl rfl) (.q rfl (.pickF rfl rfl) (.nil (hK26 _ _ ?_))))
   refine .condF rfl ?_
   refine .skip ?_
   refine hK25 _ _ (.seq (fun K27 hK27 => .seq (fun K28 hK28 => .region (.mv rfl (.q rfl (.cmp rfl rfl rfl) (.nil (hK28 _ _ ?_)))))))
   refine .cond rfl (fun h117 => ?_) (fun h117 => ?_)
   ·
    simp only [sps] at h117
    refine .seq (fun K29 hK29 => .region (.mv rfl (.nil (hK29 _ _ ?_))))
    refine .ret ?_
    refine hret _ _ ?_
    refine ⟨_, rfl, ?_⟩
    first | rfl | exact congrArg Value.bool (beq_iff_eq.2 rfl)
   try simp only [sps] at h117
   refine .skip ?_
   refine hK27 _ _ (.seq (fun K30 hK30 => .region ?_))
   obtain ⟨m1, m2, m3, m4⟩ := k5 (by assumption)
   obtain ⟨_, P0, P1⟩ := Cat.code_one.1 m1
   obtain ⟨_, Q0, Q1⟩ := Cat.code_one.1 m2
   have hoR := Cat.op_ok hI
   have e1 : c32.opR.op = c32 := by rw [hoR, Cat.op_op hS]
   have hk' : c32.opR.code [f32, k32] = 0 := by
     rw [hoR]
     have hol : c32.op.src.length = c32.tgt.length := rfl
     exact Cat.code_two.2 ⟨hI.op, by omega, by omega⟩
   have hso : c32.opR.Small := by rw [hoR]; exact hI.op.1.small
   have hcn := Cat.code_nil.2 hI
   refine .q rfl (.loadM ag_29_D rfl ⟨rfl, Mem.of_get at3007⟩) ?_
   refine .mv rfl ?_
   refine .callQ rfl rfl rfl rfl @Try.call26 rfl (implIsMono_c) ?_
   refine .mv rfl (.q rfl (.extract rfl rfl) (.q rfl (.extract rfl rfl) (.mv rfl (.mv rfl (.nil (hK30 _ _ (.seq (fun K31 hK31 => .seq (fun K32 hK32 => ?_)))))))))
   refine .regionD mo_B (.q 0 (.q 1 (.q 2 (.q 3 (.q 4 (.q 5 (.q 6 (.q 7 (.q 8 (.q 9 (.q 10 (.q 11 (.q 12 (.q 14 (.q 15 (.q 16 (.c 13 1 (.c 17 0 (.q 18 (.q 19 (.done))))))))))))))))))))) (by kernel_rfl) ?_
   refine .mv rfl rfl (.q rfl (.cmp rfl rfl rfl) (.mv rfl rfl ?_))
   refine .split (fun h126 => ?_) (fun h126 => ?_)
   ·
    simp only [sps] at h126; exact absurd m2 h126
   try simp only [sps] at h126
   refine .qg rfl (.move rfl) (.qg rfl (.move rfl) ?_)
   refine .split (fun h128 => ?_) (fun h128 => ?_)
   ·
    refine .qg rfl (.move rfl) (.qg rfl (.not rfl) (.qg rfl (.pickT rfl rfl) (.q rfl (.pickF rfl rfl) (.mv rfl rfl ?_))))
    refine .split (fun h133 => ?_) (fun h133 => ?_)
    ·
     rw [m4 h128] at h133; cases h133
    try simp only [sps] at h133
    refine .qg rfl (.loadM ag_29_D rfl ⟨rfl, Mem.of_get at3007⟩) ?_
    refine .qg rfl (.move rfl) (.qg rfl (.move rfl) ?_)
    refine .qg rfl (.loadM ag_29_D rfl ⟨rfl, Mem.of_get at3007⟩) ?_
    refine .qg rfl (.move rfl) (.qg rfl (.move rfl) ?_)
    refine .callQ1g rfl rfl rfl rfl rfl rfl rfl @Try.call28 rfl (then9_c) (.refl _) ?_
    refine .callQ0g rfl rfl rfl rfl rfl rfl rfl @Try.call28 rfl (then9_c) ?_
    refine .qg rfl (.cmp rfl rfl rfl) (.q rfl (.pickF rfl rfl) ?_)
    refine .done ?_
    refine hK32 _ _ ?_
    refine .cond rfl (fun h143 => ?_) (fun h143 => ?_)
    ·
     simp only [sps] at h143; exact absurd m3 h143
    try simp only [sps] at h143
    refine .skip ?_
    refine hK31 _ _ (.seq (fun K33 hK33 => .region ?_))
    refine .q rfl (.loadM ag_29_D rfl ⟨rfl, Mem.of_get at3007⟩) ?_
    refine .call rfl rfl rfl rfl @Try.call29 rfl (oppositeCategory_c) ?_
    rintro _ H146 ⟨le146, p146, rfl, v146⟩
    have bs_v146 := v146
    have lv_v146 : Keep H87x2.next H146 H146 := fun _ _ _ h => h
    clear i32
    refine .mv rfl (.q rfl (.extract rfl rfl) (.q rfl (.extract rfl rfl) ?_))
    refine .R rfl (.allocR rfl ze_29_Hj rfl) ?_
    rintro _ H22 ⟨g22, rfl, le22, ge22, at22⟩
    replace lv_v146 := Keep.le lv_v146 le22
    refine .r0 rfl rfl (.fillA rfl sz_29_D rfl rfl rfl rfl) ?_
    rintro _ H19006 ⟨rfl, st19006, at19006⟩
    replace lv_v146 := Keep.st lv_v146 st19006 (fun k hb hk => ⟨by omega, trivial⟩)
    replace v146 := bs_v146.keep lv_v146 (Nat.le_refl _)
    have i146 := v146.inn
    refine .mv rfl (.nil (hK33 _ _ (.seq (fun K34 hK34 => .region ?_))))
    refine .q rfl (.loadM ag_29_D rfl ⟨rfl, Mem.of_get at19006⟩) ?_
    refine .mv rfl (.mv rfl ?_)
    refine .call rfl rfl rfl rfl @Try.call30 rfl (pushout0_c (c := c32.opR) (hk := hk')) ?_
    rintro _ H153 ⟨le153, rfl⟩
    rw [e1]
    clear i146
    refine .mv rfl (.q rfl (.extract rfl rfl) (.q rfl (.extract rfl rfl) (.q rfl (.extract rfl rfl) (.q rfl (.extract rfl rfl) (.mv rfl (.mv rfl (.mv rfl (.mv rfl (.nil (hK34 _ _ (.seq (fun K35 hK35 => .region (.mv rfl (.mv rfl ?_))))))))))))))
    refine .q rfl (.add rfl rfl rfl (by omega) (by omega)) ?_
    refine .q rfl (.cmp rfl rfl rfl) (.mv rfl ?_)
    refine .split (fun h162 => ?_) (fun h162 => ?_)
    ·
     try simp only [sps] at h162
     refine .qg rfl (.move rfl) (.qg rfl (.move rfl) (.qg rfl (.cmp rfl rfl rfl) (.q rfl (.pickT rfl rfl) (.mv rfl ?_))))
     refine .split (fun h167 => ?_) (fun h167 => ?_)
     ·
      try simp only [sps] at h167
      refine .qg rfl (.move rfl) (.qg rfl (.move rfl) (.qg rfl (.cmp rfl rfl rfl) (.q rfl (.pickT rfl rfl) (.mv rfl ?_))))
      refine .split (fun h172 => ?_) (fun h172 => ?_)
      ·
       try simp only [sps] at h172
       refine .qg rfl (.move rfl) (.qg rfl (.move rfl) (.qg rfl (.cmp rfl rfl rfl) (.q rfl (.pickT rfl rfl) (.mv rfl (.nil (hK35 _ _ ?_))))))
       refine .ret ?_
       refine hret _ _ ?_
       refine ⟨_, rfl, ?_⟩
       first | rfl | exact congrArg Value.bool (beq_iff_eq.2 rfl)
      simp at h172
     simp at h167
    simp only [sps] at h162; omega
   refine .z rfl (.z rfl (.qg rfl (.pickF rfl rfl) (.q rfl (.pickF rfl rfl) (.mv rfl rfl ?_))))
   refine .qg rfl (.loadM ag_29_D rfl ⟨rfl, Mem.of_get at3007⟩) ?_
   refine .qg rfl (.move rfl) (.qg rfl (.move rfl) ?_)
   refine .qg rfl (.loadM ag_29_D rfl ⟨rfl, Mem.of_get at3007⟩) ?_
   refine .qg rfl (.move rfl) (.qg rfl (.move rfl) ?_)
   refine .callQ1g rfl rfl rfl rfl rfl rfl rfl @Try.call28 rfl (then9_c) (.refl _) ?_
   refine .callQ0g rfl rfl rfl rfl rfl rfl rfl @Try.call28 rfl (then9_c) ?_
   refine .qg rfl (.cmp rfl rfl rfl) (.q rfl (.pickF rfl rfl) ?_)
   refine .done ?_
   refine hK32 _ _ ?_
   refine .cond rfl (fun h143 => ?_) (fun h143 => ?_)
   ·
    simp only [sps] at h143; exact absurd m3 h143
   try simp only [sps] at h143
   refine .skip ?_
   refine hK31 _ _ (.seq (fun K36 hK36 => .region ?_))
   refine .q rfl (.loadM ag_29_D rfl ⟨rfl, Mem.of_get at3007⟩) ?_
   refine .call rfl rfl rfl rfl @Try.call29 rfl (oppositeCategory_c) ?_
   rintro _ H146x2 ⟨le146x2, p146x2, rfl, v146x2⟩
   have bs_v146x2 := v146x2
   have lv_v146x2 : Keep H87x2.next H146x2 H146x2 := fun _ _ _ h => h
   refine .mv rfl (.q rfl (.extract rfl rfl) (.q rfl (.extract rfl rfl) ?_))
   refine .R rfl (.allocR rfl ze_29_Hj rfl) ?_
   rintro _ H22x2 ⟨g22x2, rfl, le22x2, ge22x2, at22x2⟩
   replace lv_v146x2 := Keep.le lv_v146x2 le22x2
   refine .r0 rfl rfl (.fillA rfl sz_29_D rfl rfl rfl rfl) ?_
   rintro _ H19006x2 ⟨rfl, st19006x2, at19006x2⟩
   replace lv_v146x2 := Keep.st lv_v146x2 st19006x2 (fun k hb hk => ⟨by omega, trivial⟩)
   replace v146x2 := bs_v146x2.keep lv_v146x2 (Nat.le_refl _)
   have i146x2 := v146x2.inn
   refine .mv rfl (.nil (hK36 _ _ (.seq (fun K37 hK37 => .region ?_))))
   refine .q rfl (.loadM ag_29_D rfl ⟨rfl, Mem.of_get at19006x2⟩) ?_
   refine .mv rfl (.mv rfl ?_)
   refine .call rfl rfl rfl rfl @Try.call30 rfl (pushout0_c (c := c32.opR) (hk := hk')) ?_
   rintro _ H153x2 ⟨le153x2, rfl⟩
   rw [e1]
   clear i146x2
   refine .mv rfl (.q rfl (.extract rfl rfl) (.q rfl (.extract rfl rfl) (.q rfl (.extract rfl rfl) (.q rfl (.extract rfl rfl) (.mv rfl (.mv rfl (.mv rfl (.mv rfl (.nil (hK37 _ _ (.seq (fun K38 hK38 => .region (.mv rfl (.mv rfl ?_))))))))))))))
   refine .q rfl (.add rfl rfl rfl (by omega) (by omega)) ?_
   refine .q rfl (.cmp rfl rfl rfl) (.mv rfl ?_)
   refine .split (fun h162 => ?_) (fun h162 => ?_)
   ·
    try simp only [sps] at h162
    refine .qg rfl (.move rfl) (.qg rfl (.move rfl) (.qg rfl (.cmp rfl rfl rfl) (.q rfl (.pickT rfl rfl) (.mv rfl ?_))))
    refine .split (fun h167 => ?_) (fun h167 => ?_)
    ·
     try simp only [sps] at h167
     refine .qg rfl (.move rfl) (.qg rfl (.move rfl) (.qg rfl (.cmp rfl rfl rfl) (.q rfl (.pickT rfl rfl) (.mv rfl ?_))))
     refine .split (fun h172 => ?_) (fun h172 => ?_)
     ·
      try simp only [sps] at h172
      refine .qg rfl (.move rfl) (.qg rfl (.move rfl) (.qg rfl (.cmp rfl rfl rfl) (.q rfl (.pickT rfl rfl) (.mv rfl (.nil (hK38 _ _ ?_))))))
      refine .ret ?_
      refine hret _ _ ?_
      refine ⟨_, rfl, ?_⟩
      first | rfl | exact congrArg Value.bool (beq_iff_eq.2 rfl)
     simp at h172
    simp at h167
   simp only [sps] at h162; omega
  simp only [sps] at h97
  refine .z rfl (.z rfl (.z rfl (.z rfl (.z rfl (.qg rfl (.pickF rfl rfl) (.q rfl (.pickF rfl rfl) (.mv rfl (.qg rfl (.move rfl) (.qg rfl (.cmp rfl rfl rfl) (.qg rfl (.move rfl) ?_))))))))))
  refine .split (fun h108 => ?_) (fun h108 => ?_)
  ·
   try simp only [sps] at h108
   refine .qg rfl (.move rfl) (.qg rfl (.cmp rfl rfl rfl) (.qg rfl (.move rfl) ?_))
   refine .split (fun h111 => ?_) (fun h111 => ?_)
   ·
    simp only [sps] at h111; exact absurd (k4 h97).1 h111
   try simp only [sps] at h111
   refine .qg rfl (.move rfl) (.qg rfl (.pickF rfl rfl) (.qg rfl (.pickT rfl rfl) (.q rfl (.pickF rfl rfl) (.nil (hK26 _ _ ?_)))))
   refine .cond rfl (fun h115 => ?_) (fun h115 => ?_)
   ·
    rw [(k4 h97).2] at h115; cases h115
   try simp only [sps] at h115
   refine .skip ?_
   refine hK25 _ _ (.seq (fun K39 hK39 => .seq (fun K40 hK40 => .region (.mv rfl (.q rfl (.cmp rfl rfl rfl) (.nil (hK40 _ _ ?_)))))))
   refine .cond rfl (fun h117 => ?_) (fun h117 => ?_)
   ·
    simp only [sps] at h117
    refine .seq (fun K41 hK41 => .region (.mv rfl (.nil (hK41 _ _ ?_))))
    refine .ret ?_
    refine hret _ _ ?_
    refine ⟨_, rfl, ?_⟩
    first | rfl | exact congrArg Value.bool (beq_iff_eq.2 rfl)
   try simp only [sps] at h117
   refine .skip ?_
   refine hK39 _ _ (.seq (fun K42 hK42 => .region ?_))
   obtain ⟨m1, m2, m3, m4⟩ := k5 (by assumption)
   obtain ⟨_, P0, P1⟩ := Cat.code_one.1 m1
   obtain ⟨_, Q0, Q1⟩ := Cat.code_one.1 m2
   have hoR := Cat.op_ok hI
   have e1 : c32.opR.op = c32 := by rw [hoR, Cat.op_op hS]
   have hk' : c32.opR.code [f32, k32] = 0 := by
     rw [hoR]
     have hol : c32.op.src.length = c32.tgt.length := rfl
     exact Cat.code_two.2 ⟨hI.op, by omega, by omega⟩
   have hso : c32.opR.Small := by rw [hoR]; exact hI.op.1.small
   have hcn := Cat.code_nil.2 hI
   refine .q rfl (.loadM ag_29_D rfl ⟨rfl, Mem.of_get at3007⟩) ?_
   refine .mv rfl ?_
   refine .callQ rfl rfl rfl rfl @Try.call26 rfl (implIsMono_c) ?_
   refine .mv rfl (.q rfl (.extract rfl rfl) (.q rfl (.extract rfl rfl) (.mv rfl (.mv rfl (.nil (hK42 _ _ (.seq (fun K43 hK43 => .seq (fun K44 hK44 => ?_)))))))))
   refine .regionD mo_B (.q 0 (.q 1 (.q 2 (.q 3 (.q 4 (.q 5 (.q 6 (.q 7 (.q 8 (.q 9 (.q 10 (.q 11 (.q 12 (.q 14 (.q 15 (.q 16 (.c 13 1 (.c 17 0 (.q 18 (.q 19 (.done))))))))))))))))))))) (by kernel_rfl) ?_
   refine .mv rfl rfl (.q rfl (.cmp rfl rfl rfl) (.mv rfl rfl ?_))
   refine .split (fun h126 => ?_) (fun h126 => ?_)
   ·
    simp only [sps] at h126; exact absurd m2 h126
   try simp only [sps] at h126
   refine .qg rfl (.move rfl) (.qg rfl (.move rfl) ?_)
   refine .split (fun h128 => ?_) (fun h128 => ?_)
   ·
    refine .qg rfl (.move rfl) (.qg rfl (.not rfl) (.qg rfl (.pickT rfl rfl) (.q rfl (.pickF rfl rfl) (.mv rfl rfl ?_))))
    refine .split (fun h133 => ?_) (fun h133 => ?_)
    ·
     rw [m4 h128] at h133; cases h133
    try simp only [sps] at h133
    refine .qg rfl (.loadM ag_29_D rfl ⟨rfl, Mem.of_get at3007⟩) ?_
    refine .qg rfl (.move rfl) (.qg rfl (.move rfl) ?_)
    refine .qg rfl (.loadM ag_29_D rfl ⟨rfl, Mem.of_get at3007⟩) ?_
    refine .qg rfl (.move rfl) (.qg rfl (.move rfl) ?_)
    refine .callQ1g rfl rfl rfl rfl rfl rfl rfl @Try.call28 rfl (then9_c) (.refl _) ?_
    refine .callQ0g rfl rfl rfl rfl rfl rfl rfl @Try.call28 rfl (then9_c) ?_
    refine .qg rfl (.cmp rfl rfl rfl) (.q rfl (.pickF rfl rfl) ?_)
    refine .done ?_
    refine hK44 _ _ ?_
    refine .cond rfl (fun h143 => ?_) (fun h143 => ?_)
    ·
     simp only [sps] at h143; exact absurd m3 h143
    try simp only [sps] at h143
    refine .skip ?_
    refine hK43 _ _ (.seq (fun K45 hK45 => .region ?_))
    refine .q rfl (.loadM ag_29_D rfl ⟨rfl, Mem.of_get at3007⟩) ?_
    refine .call rfl rfl rfl rfl @Try.call29 rfl (oppositeCategory_c) ?_
    rintro _ H146x3 ⟨le146x3, p146x3, rfl, v146x3⟩
    have bs_v146x3 := v146x3
    have lv_v146x3 : Keep H87x2.next H146x3 H146x3 := fun _ _ _ h => h
    refine .mv rfl (.q rfl (.extract rfl rfl) (.q rfl (.extract rfl rfl) ?_))
    refine .R rfl (.allocR rfl ze_29_Hj rfl) ?_
    rintro _ H22x3 ⟨g22x3, rfl, le22x3, ge22x3, at22x3⟩
    replace lv_v146x3 := Keep.le lv_v146x3 le22x3
    refine .r0 rfl rfl (.fillA rfl sz_29_D rfl rfl rfl rfl) ?_
    rintro _ H19006x3 ⟨rfl, st19006x3, at19006x3⟩
    replace lv_v146x3 := Keep.st lv_v146x3 st19006x3 (fun k hb hk => ⟨by omega, trivial⟩)
    replace v146x3 := bs_v146x3.keep lv_v146x3 (Nat.le_refl _)
    have i146x3 := v146x3.inn
    refine .mv rfl (.nil (hK45 _ _ (.seq (fun K46 hK46 => .region ?_))))
    refine .q rfl (.loadM ag_29_D rfl ⟨rfl, Mem.of_get at19006x3⟩) ?_
    refine .mv rfl (.mv rfl ?_)
    refine .call rfl rfl rfl rfl @Try.call30 rfl (pushout0_c (c := c32.opR) (hk := hk')) ?_
    rintro _ H153x3 ⟨le153x3, rfl⟩
    rw [e1]
    clear i146x3
    refine .mv rfl (.q rfl (.extract rfl rfl) (.q rfl (.extract rfl rfl) (.q rfl (.extract rfl rfl) (.q rfl (.extract rfl rfl) (.mv rfl (.mv rfl (.mv rfl (.mv rfl (.nil (hK46 _ _ (.seq (fun K47 hK47 => .region (.mv rfl (.mv rfl ?_))))))))))))))
    refine .q rfl (.add rfl rfl rfl (by omega) (by omega)) ?_
    refine .q rfl (.cmp rfl rfl rfl) (.mv rfl ?_)
    refine .split (fun h162 => ?_) (fun h162 => ?_)
    ·
     try simp only [sps] at h162
     refine .qg rfl (.move rfl) (.qg rfl (.move rfl) (.qg rfl (.cmp rfl rfl rfl) (.q rfl (.pickT rfl rfl) (.mv rfl ?_))))
     refine .split (fun h167 => ?_) (fun h167 => ?_)
     ·
      try simp only [sps] at h167
      refine .qg rfl (.move rfl) (.qg rfl (.move rfl) (.qg rfl (.cmp rfl rfl rfl) (.q rfl (.pickT rfl rfl) (.mv rfl ?_))))
      refine .split (fun h172 => ?_) (fun h172 => ?_)
      ·
       try simp only [sps] at h172
       refine .qg rfl (.move rfl) (.qg rfl (.move rfl) (.qg rfl (.cmp rfl rfl rfl) (.q rfl (.pickT rfl rfl) (.mv rfl (.nil (hK47 _ _ ?_))))))
       refine .ret ?_
       refine hret _ _ ?_
       refine ⟨_, rfl, ?_⟩
       first | rfl | exact congrArg Value.bool (beq_iff_eq.2 rfl)
      simp at h172
     simp at h167
    simp only [sps] at h162; omega
   refine .z rfl (.z rfl (.qg rfl (.pickF rfl rfl) (.q rfl (.pickF rfl rfl) (.mv rfl rfl ?_))))
   refine .qg rfl (.loadM ag_29_D rfl ⟨rfl, Mem.of_get at3007⟩) ?_
   refine .qg rfl (.move rfl) (.qg rfl (.move rfl) ?_)
   refine .qg rfl (.loadM ag_29_D rfl ⟨rfl, Mem.of_get at3007⟩) ?_
   refine .qg rfl (.move rfl) (.qg rfl (.move rfl) ?_)
   refine .callQ1g rfl rfl rfl rfl rfl rfl rfl @Try.call28 rfl (then9_c) (.refl _) ?_
   refine .callQ0g rfl rfl rfl rfl rfl rfl rfl @Try.call28 rfl (then9_c) ?_
   refine .qg rfl (.cmp rfl rfl rfl) (.q rfl (.pickF rfl rfl) ?_)
   refine .done ?_
   refine hK44 _ _ ?_
   refine .cond rfl (fun h143 => ?_) (fun h143 => ?_)
   ·
    simp only [sps] at h143; exact absurd m3 h143
   try simp only [sps] at h143
   refine .skip ?_
   refine hK43 _ _ (.seq (fun K48 hK48 => .region ?_))
   refine .q rfl (.loadM ag_29_D rfl ⟨rfl, Mem.of_get at3007⟩) ?_
   refine .call rfl rfl rfl rfl @Try.call29 rfl (oppositeCategory_c) ?_
   rintro _ H146x4 ⟨le146x4, p146x4, rfl, v146x4⟩
   have bs_v146x4 := v146x4
   have lv_v146x4 : Keep H87x2.next H146x4 H146x4 := fun _ _ _ h => h
   refine .mv rfl (.q rfl (.extract rfl rfl) (.q rfl (.extract rfl rfl) ?_))
   refine .R rfl (.allocR rfl ze_29_Hj rfl) ?_
   rintro _ H22x4 ⟨g22x4, rfl, le22x4, ge22x4, at22x4⟩
   replace lv_v146x4 := Keep.le lv_v146x4 le22x4
   refine .r0 rfl rfl (.fillA rfl sz_29_D rfl rfl rfl rfl) ?_
   rintro _ H19006x4 ⟨rfl, st19006x4, at19006x4⟩
   replace lv_v146x4 := Keep.st lv_v146x4 st19006x4 (fun k hb hk => ⟨by omega, trivial⟩)
   replace v146x4 := bs_v146x4.keep lv_v146x4 (Nat.le_refl _)
   have i146x4 := v146x4.inn
   refine .mv rfl (.nil (hK48 _ _ (.seq (fun K49 hK49 => .region ?_))))
   refine .q rfl (.loadM ag_29_D rfl ⟨rfl, Mem.of_get at19006x4⟩) ?_
   refine .mv rfl (.mv rfl ?_)
   refine .call rfl rfl rfl rfl @Try.call30 rfl (pushout0_c (c := c32.opR) (hk := hk')) ?_
   rintro _ H153x4 ⟨le153x4, rfl⟩
   rw [e1]
   clear i146x4
   refine .mv rfl (.q rfl (.extract rfl rfl) (.q rfl (.extract rfl rfl) (.q rfl (.extract rfl rfl) (.q rfl (.extract rfl rfl) (.mv rfl (.mv rfl (.mv rfl (.mv rfl (.nil (hK49 _ _ (.seq (fun K50 hK50 => .region (.mv rfl (.mv rfl ?_))))))))))))))
   refine .q rfl (.add rfl rfl rfl (by omega) (by omega)) ?_
   refine .q rfl (.cmp rfl rfl rfl) (.mv rfl ?_)
   refine .split (fun h162 => ?_) (fun h162 => ?_)
   ·
    try simp only [sps] at h162
    refine .qg rfl (.move rfl) (.qg rfl (.move rfl) (.qg rfl (.cmp rfl rfl rfl) (.q rfl (.pickT rfl rfl) (.mv rfl ?_))))
    refine .split (fun h167 => ?_) (fun h167 => ?_)
    ·
     try simp only [sps] at h167
     refine .qg rfl (.move rfl) (.qg rfl (.move rfl) (.qg rfl (.cmp rfl rfl rfl) (.q rfl (.pickT rfl rfl) (.mv rfl ?_))))
     refine .split (fun h172 => ?_) (fun h172 => ?_)
     ·
      try simp only [sps] at h172
      refine .qg rfl (.move rfl) (.qg rfl (.move rfl) (.qg rfl (.cmp rfl rfl rfl) (.q rfl (.pickT rfl rfl) (.mv rfl (.nil (hK50 _ _ ?_))))))
      refine .ret ?_
      refine hret _ _ ?_
      refine ⟨_, rfl, ?_⟩
      first | rfl | exact congrArg Value.bool (beq_iff_eq.2 rfl)
     simp at h172
    simp at h167
   simp only [sps] at h162; omega
  simp only [sps] at h108; exact absurd h108 h97
end Go.Proofs.Ytjdedelneppnlaa
