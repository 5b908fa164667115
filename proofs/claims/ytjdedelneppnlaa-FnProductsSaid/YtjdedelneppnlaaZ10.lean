/- Structs of numbers as keys of maps. No condition but those of each statement. -/
import Derived.Test.YtjdedelneppnlaaZ9
import Derived.ChangeKeysEq
namespace Go.GL
open Go.RowKit
theorem forIn_ok {P : Program} {α : Type} {w : World} (f : α → PUnit → Sem (ForInStep PUnit)) : ∀ (l : List α), (∀ a ∈ l, (f a ⟨⟩).run P w = .ok (.yield ⟨⟩) w) → (forIn l PUnit.unit f : Sem PUnit).run P w = .ok ⟨⟩ w
  | [], _ => by simp [Sem.run_pure]
  | a :: l, h => by
    simp only [List.forIn_cons, Sem.run_bind, h a (by simp), Result.andThen_ok]
    exact forIn_ok f l fun b hb => h b (by simp [hb])
def intKeyT (P : Program) (k : TypeId) (n : Nat) : Bool := (P.fieldsOf k).toList.all fun f => P.plainKey f.type && (decide (f.offset < n) && match P.underlying f.type with | some (.int _) => true | _ => false)
theorem checkKeyT {P : Program} {k : TypeId} {n : Nat} (hu : P.underlying k = some (.struct (P.fieldsOf k))) (hf : intKeyT P k n = true) (b : Bool) {t : List Int} (ht : t.length = n) (w : World) : (Instr.checkKey b 10000 k (kvT t)).run P w = .ok () w := by
  show (Instr.checkKey b (9999 + 1) k (.agg (t.map (Value.int .i64)).toArray)).run P w = .ok () w
  unfold Instr.checkKey
  simp only [Sem.run_bind, run_underlying hu, Result.andThen_ok]
  rw [← Array.forIn_toList]
  rw [forIn_ok _ _ (fun f hfm => ?_)]
  · simp [Sem.run_pure]
  have h := List.all_eq_true.1 hf f hfm
  simp only [Bool.and_eq_true, decide_eq_true_eq] at h
  obtain ⟨h1, h2, h3⟩ := h
  have hq : ∃ q, P.underlying f.type = some (.int q) := by
    split at h3
    · rename_i q e; exact ⟨q, e⟩
    · cases h3
  obtain ⟨q, hq⟩ := hq
  have hc : ((t.map (Value.int .i64)).toArray)[f.offset]? = some (.int .i64 (t[f.offset]'(by omega))) := by simp [show f.offset < t.length by omega]
  have hck : ∀ v, (Instr.checkKey b 9999 f.type v).run P w = .ok () w := fun v => by
    show (Instr.checkKey b (9998 + 1) f.type v).run P w = .ok () w
    unfold Instr.checkKey
    simp [Sem.run_bind, run_underlying hq]
  by_cases hn : f.name = "_"
  · simp [hn, Sem.run_pure]
  · simp only [ne_eq, hn, not_false_eq_true, if_true, Sem.run_bind, run_part_plain w h1 hc, Result.andThen_ok, hck, Sem.run_pure]
end Go.GL
namespace Go.Proofs.Ytjdedelneppnlaa
open Go Go.GL Go.RowKit Go.Proofs
theorem bt_125_Li : buildT Try.prog 125 = some ([.pointer none, .int .i64 0, .int .i64 0, .nilFunc, .bool false], [(0, 1), (1, 1), (2, 1), (3, 1), (4, 1)]) := by kernel_rfl
theorem sz_125_Li : (Try.prog.info? 125).map (·.size) = some 5 := by kernel_rfl
theorem sl_100_Li : sliceT Try.prog 100 = some (102, 2) := by kernel_rfl
theorem ze_102_Li : zeroT Try.prog 102 = some ([.int .i64 0, .int .i64 0], 2) := by kernel_rfl
theorem fo_125_0_Li : fieldOff Try.prog 125 0 = some 0 := by kernel_rfl
theorem fo_125_1_Li : fieldOff Try.prog 125 1 = some 1 := by kernel_rfl
theorem fo_125_4_Li : fieldOff Try.prog 125 4 = some 4 := by kernel_rfl
theorem on_4_Li : oneT Try.prog 4 = true := by kernel_rfl
theorem fo_125_3_Li : fieldOff Try.prog 125 3 = some 3 := by kernel_rfl
theorem on_123_Li : oneT Try.prog 123 = true := by kernel_rfl
theorem bt_102_Li : buildT Try.prog 102 = some ([.int .i64 0, .int .i64 0], [(0, 1), (1, 1)]) := by kernel_rfl
theorem by_102_Li : (Try.prog.info? 102).map (·.bytes) = some 16 := by kernel_rfl
theorem fo_125_2_Li : fieldOff Try.prog 125 2 = some 2 := by kernel_rfl
theorem mtt_151_Li : mapTT Try.prog 151 = some (102, 4) := by kernel_rfl
theorem sz_102_Li : (Try.prog.info? 102).map (·.size) = some 2 := by kernel_rfl
theorem fo_102_0_Li : fieldOff Try.prog 102 0 = some 0 := by kernel_rfl
theorem fo_102_1_Li : fieldOff Try.prog 102 1 = some 1 := by kernel_rfl
theorem ag_102_Li : aggT Try.prog 102 = some 2 := by kernel_rfl
theorem products1_c {a b : Int} {H : GHeap} : GCalls Try.prog 104 [.int .i64 a, .int .i64 b] H (Ret (.bool true) H) := by
  refine GCalls.body (N := 5) (rs := [.tmp 4]) Try.func104 rfl rfl rfl rfl (fun Qx c hend => ?_)
  refine .fg [0, 1] rfl ?_
  have hle := GHeap.Le.refl H
  refine .seq (fun K1 e => .region (.mv rfl (.nil (e _ _ (.seq (fun K2 d => .region (.mv rfl (.nil (d _ _ ?_)))))))))
  refine .ret ?_
  refine c _ _ ?_
  refine ⟨_, rfl, ?_⟩
  exact .mk
theorem products_c {c : Cat} {p : CatP} {g : Nat} {x y : Int} {H : GHeap} (h : Cat.At H g 0 c p := by assumption) :
    GCalls Try.prog 55 [.pointer (some ⟨g, 0, none⟩), .int .i64 x, .int .i64 y] H (fun v H' => H.Le H' ∧ ∃ g', v = .pointer (some ⟨g', 0, none⟩) ∧ H.next ≤ g' ∧ SpnAt Try.prog 125 79 c g p H' g' (.prod x y)) := by
  refine GCalls.body (N := 12) (rs := [.tmp 6]) Try.func55 rfl rfl rfl rfl (fun Qx e hend => ?_)
  refine .fg [0, 1, 2] rfl ?_
  have f := GHeap.Le.refl H
  refine .seq (fun K1 k => .region (.mv rfl (.nil (k _ _ (.seq (fun K2 j => .region (.mv rfl (.mv rfl (.mv rfl (.q rfl (.build bt_125_Li rfl rfl rfl) ?_))))))))))
  refine .R rfl (.boxR rfl sz_125_Li rfl) ?_
  rintro _ H11 ⟨l, rfl, i, ge11, d⟩
  replace f := f.trans i
  refine .mv rfl (.nil (j _ _ ?_))
  refine .ret ?_
  refine e _ _ ?_
  refine ⟨_, rfl, ?_⟩
  exact ⟨f, l, rfl, by omega, _, _, d, @Try.call104, fun H' _ _ w a b _ _ _ => products1_c⟩
set_option maxHeartbeats 4000000 in
theorem spansFrom_c {c : Cat} {p : CatP} {gc g w : Nat} {s : Spn} {H : GHeap} (h : Cat.At H gc 0 c p := by assumption) (hs : SpnAt Try.prog 125 79 c gc p H g s := by assumption) (hS : c.Shape := by assumption) :
    GCalls Try.prog 132 [.pointer (some ⟨g, 0, none⟩), .int .i64 (w : Int)] H (fun v H' => H.Le H' ∧ ∃ g', v = .slice (some ⟨g', 0, none⟩) (c.spL s w).length (c.spL s w).length ∧ H.next ≤ g' ∧ H'.get g' = some (.row (prs (c.spL s w)) 102 true)) := by
  obtain ⟨fn, cap, hg, hF⟩ := hs
  have b1 := hS.n40
  refine GCalls.body (N := 74) (rs := [.tmp 4]) Try.func132 rfl rfl rfl rfl (fun Qx b5 hend => ?_)
  refine .fg [0, 1] rfl ?_
  have n := GHeap.Le.refl H
  have lt_hg := GHeap.ltg hg
  have o := h
  refine .seq (fun K1 e6 => .region (.mv rfl (.nil (e6 _ _ (.seq (fun K2 e2 => .region ?_))))))
  have q1 := Cat.hom_le c w s.x
  have q2 := Cat.hom_le c w s.y
  refine .R rfl (.litA rfl sl_100_Li ze_102_Li rfl rfl rfl rfl) ?_
  rintro _ H10 ⟨d3, rfl, a7, ge10, a4⟩
  replace n := n.trans a7
  replace hg := a7.2 _ _ hg
  have lt_at10 := GHeap.ltg a4
  replace h := o.mono n
  refine .mv rfl (.nil (e2 _ _ (.seq (fun K3 e4 => .seq (fun K4 e0 => ?_)))))
  refine .regionD mo_B (.q 0 (.q 1 (.q 2 (.q 3 (.q 4 (.q 5 (.q 6 (.q 7 (.q 8 (.q 11 (.c 9 1 (.q 10 (.done))))))))))))) (by kernel_rfl) ?_
  refine .mv rfl rfl (.q rfl (.nilCheck rfl) (.q rfl (.fieldAddr fo_125_0_Li rfl) ?_))
  refine .q rfl (.load on_69_F rfl (by first | assumption | exact Mem.of_get hg 0 _ rfl)) ?_
  refine .mv rfl rfl (.mv rfl rfl (.q rfl (.nilCheck rfl) (.q rfl (.fieldAddr fo_125_1_Li rfl) ?_)))
  refine .q rfl (.load on_2_A rfl (by first | assumption | exact Mem.of_get hg 1 _ rfl)) ?_
  refine .mv rfl rfl ?_
  refine .call1 rfl rfl rfl rfl rfl @Try.call63 rfl (hom_c) ?_
  rintro _ d5 ⟨a1, g20, rfl, t, ge20⟩
  have a9 := a1
  refine ⟨a9, ?_⟩
  replace n := n.trans a1
  replace hg := a1.2 _ _ hg
  replace a4 := a1.2 _ _ a4
  have lt_at20 := GHeap.ltg t
  refine .m rfl rfl rfl rfl a9 (.len sl_22_A rfl) ?_
  refine .done ?_
  refine e0 _ _ ?_
  refine .block ?_
  have hz0 : (0 : Nat) = (c.spP s w 0).length := by rw [Cat.spP_zero]; rfl
  refine .loopR (σ := Nat × Nat × Nat) [(0, some _), (1, some _), (20, some _), (21, some _)] (fun (i, a0, a2) => [(22, some (.int .i64 (i : Int))), (5, some (.slice (some ⟨a0, 0, none⟩) a2 a2))]) (fun (i, a0, a2) H' => St [d3] d5 H' ∧ H'.get a0 = some (.row (prs (c.spP s w i)) 102 true) ∧ (a0 = d3 ∨ d5.next ≤ a0) ∧ a2 = (c.spP s w i).length ∧ i ≤ (c.hom w s.x).length) (fun (i, a0, a2) => (c.hom w s.x).length - i) ((0, _, _)) ⟨rfl, rfl, rfl, rfl, trivial⟩ ⟨rfl, rfl, trivial⟩ ?_ ?_
  ·
   refine ⟨.refl _ _, by first | assumption | (rw [Cat.spP_zero]; assumption), .inl rfl, by first | rfl | assumption | simp | omega, ?_⟩
   omega
  rintro ⟨i, a0, a2⟩ HL1 ⟨a, l, pl_L5, a3, hI⟩ KL1 a5
  refine .forget (fr' := [(22, some (.int .i64 (i : Int))), (5, some (.slice (some ⟨a0, 0, none⟩) a2 a2)), (0, some _), (1, some _), (20, some _), (21, some _)]) ⟨rfl, rfl, rfl, rfl, rfl, rfl, trivial⟩ ?_
  have ge_L5 : H.next ≤ a0 := by omega
  have nx_HL1 := a.nx
  replace n := n.st a (fun k hk => ⟨by omega, trivial⟩)
  replace hg := a.s hg
  replace t := a.s t
  have lt_at_L5 := GHeap.ltg l
  replace h := o.mono n
  have d8 := Ints.of_get t
  have hln := Cat.spP_bound hS s w hI
  have htl := length_prs (c.spP s w i)
  refine .seq (fun K5 d9 => .region (.q rfl (.cmp rfl rfl rfl) (.nil (d9 _ _ (.seq (fun K6 e5 => ?_))))))
  refine .cond rfl (fun c3 => ?_) (fun c3 => ?_)
  ·
   simp only [sps] at c3
   have hma : (c.hom w s.x).getD i 0 ∈ c.hom w s.x := getD_mem_list (by omega)
   refine .skip ?_
   refine e5 _ _ (.seq (fun K7 b6 => ?_))
   refine .block ?_
   refine .seq (fun K8 d7 => .region ?_)
   refine .q rfl (.idxN sl_22_A (by first | assumption | exact SlA.of_row t (by first | rfl | (simp; done) | (simp <;> omega))) rfl rfl (by omega)) ?_
   refine .q rfl (.loadI on_2_A (by first | assumption | exact Ints.of_get t) rfl (by omega)) ?_
   refine .mv rfl (.nil (d7 _ _ (.seq (fun K9 e3 => .seq (fun K10 c9 => .region (.mv rfl (.q rfl (.nilCheck rfl) (.q rfl (.fieldAddr fo_125_4_Li rfl) ?_))))))))
   refine .q rfl (.load on_4_Li rfl (by first | assumption | exact Mem.of_get hg 4 _ rfl)) ?_
   refine .nil (c9 _ _ ?_)
   refine .cond rfl (fun a6 => ?_) (fun a6 => ?_)
   ·
    refine .seq (fun K11 b0 => .seq (fun K12 c6 => .region (.mv rfl (.q rfl (.nilCheck rfl) (.q rfl (.fieldAddr fo_125_3_Li rfl) ?_)))))
    refine .q rfl (.load on_123_Li rfl (by first | assumption | exact Mem.of_get hg 3 _ rfl)) ?_
    refine .mv rfl (.mv rfl ?_)
    refine .callV rfl rfl rfl rfl rfl hF.code rfl ((hF.run _ (.of_le n) h w _ _ hma (fun _ => rfl) (fun hn => absurd a6 hn))) ?_
    rintro _ _ ⟨rfl, rfl⟩
    refine .nil (c6 _ _ ?_)
    refine .cond rfl (fun d0 => ?_) (fun d0 => ?_)
    ·
     have hTT : c.spP s w (i + 1) = c.spP s w i ++ [((c.hom w s.x).getD i 0, (c.hom w s.x).getD i 0)] := Cat.spP_aT a6 (by omega) d0
     refine .region (.mv rfl (.mv rfl (.mv rfl (.q rfl (.build bt_102_Li rfl rfl rfl) ?_))))
     refine .R rfl (.litA rfl sl_100_Li ze_102_Li rfl rfl rfl rfl) ?_
     rintro _ H41 ⟨g41, rfl, a8, ge41, c8⟩
     replace a := a.le a8
     replace l := a8.2 _ _ l
     have lt_at41 := GHeap.ltg c8
     clear d8
     refine .R rfl (.appendV rfl sl_100_Li ze_102_Li rfl by_102_Li sl_100_Li rfl rfl (by assumption) (by assumption) (by first | omega | (simp <;> omega)) rfl rfl (by omega) (by omega)) ?_
     rintro _ H42 ⟨g42, rfl, b8, ge42, at42⟩
     replace a := a.sA b8
     refine .mv rfl (.nil (b0 _ _ ?_))
     refine .exit ?_
     refine b6 _ _ (.region ?_)
     refine .q rfl (.add rfl rfl rfl (by omega) (by omega)) ?_
     refine .mv rfl (.nil ?_)
     refine a5 ((i + 1, _, _)) _ _ ?_ ?_ ⟨rfl, rfl, rfl, rfl, rfl, rfl, trivial⟩
     ·
      refine ⟨a, by first | assumption | (rw [hTT, prs_snoc]; assumption) | (rw [hTT]; assumption), by omega, by first | omega | (simp only [List.length_append, List.length_cons, List.length_nil] <;> omega) | (rw [hTT, prs_snoc] <;> (first | omega | (simp only [List.length_append, List.length_cons, List.length_nil] <;> omega))) | (rw [hTT] <;> (first | omega | (simp only [List.length_append, List.length_cons, List.length_nil] <;> omega))), ?_⟩
      omega
     (dsimp only; omega)
    have hTT : c.spP s w (i + 1) = c.spP s w i := Cat.spP_aF a6 (by omega) d0
    refine .skip ?_
    refine b0 _ _ ?_
    refine .exit ?_
    refine b6 _ _ (.region ?_)
    refine .q rfl (.add rfl rfl rfl (by omega) (by omega)) ?_
    refine .mv rfl (.nil ?_)
    refine a5 ((i + 1, _, _)) _ _ ?_ ?_ ⟨rfl, rfl, rfl, rfl, rfl, rfl, trivial⟩
    ·
     refine ⟨a, by first | assumption | (rw [hTT, prs_snoc]; assumption) | (rw [hTT]; assumption), by omega, by first | omega | (simp only [List.length_append, List.length_cons, List.length_nil] <;> omega) | (rw [hTT, prs_snoc] <;> (first | omega | (simp only [List.length_append, List.length_cons, List.length_nil] <;> omega))) | (rw [hTT] <;> (first | omega | (simp only [List.length_append, List.length_cons, List.length_nil] <;> omega))), ?_⟩
     omega
    (dsimp only; omega)
   refine .skip ?_
   refine e3 _ _ (.seq (fun K13 c4 => ?_))
   refine .regionD mo_B (.q 0 (.q 1 (.q 2 (.q 3 (.q 4 (.q 5 (.q 6 (.q 7 (.q 8 (.q 11 (.c 9 1 (.q 10 (.done))))))))))))) (by kernel_rfl) ?_
   refine .mv rfl rfl (.q rfl (.nilCheck rfl) (.q rfl (.fieldAddr fo_125_0_Li rfl) ?_))
   refine .q rfl (.load on_69_F rfl (by first | assumption | exact Mem.of_get hg 0 _ rfl)) ?_
   refine .mv rfl rfl (.mv rfl rfl (.q rfl (.nilCheck rfl) (.q rfl (.fieldAddr fo_125_2_Li rfl) ?_)))
   refine .q rfl (.load on_2_A rfl (by first | assumption | exact Mem.of_get hg 2 _ rfl)) ?_
   refine .mv rfl rfl ?_
   refine .call1 rfl rfl rfl rfl rfl @Try.call63 rfl (hom_c) ?_
   rintro _ d4 ⟨z, g52, rfl, u, ge52⟩
   have a9 := z
   refine ⟨a9, ?_⟩
   replace n := n.trans z
   replace a := a.le z
   replace hg := z.2 _ _ hg
   replace l := z.2 _ _ l
   have lt_at52 := GHeap.ltg u
   refine .m rfl rfl rfl rfl a9 (.len sl_22_A rfl) ?_
   refine .done ?_
   refine c4 _ _ ?_
   refine .block ?_
   have hna : ¬ s.alone = true := fun e => by rw [e] at a6; cases a6
   have d6 : c.spP s w i ++ c.spR s w ((c.hom w s.x).getD i 0) 0 = c.spP s w i := by rw [Cat.spR_zero, List.append_nil]
   have hl0 : a2 = (c.spP s w i ++ c.spR s w ((c.hom w s.x).getD i 0) 0).length := by rw [d6]; assumption
   refine .loopR (σ := Nat × Nat × Nat) [(0, some _), (1, some _), (7, some _), (20, some _), (21, some _), (22, some _), (52, some _), (53, some _)] (fun (j, d, b) => [(54, some (.int .i64 (j : Int))), (5, some (.slice (some ⟨d, 0, none⟩) b b))]) (fun (j, d, b) H' => St [a0] d4 H' ∧ H'.get d = some (.row (prs (c.spP s w i ++ c.spR s w ((c.hom w s.x).getD i 0) j)) 102 true) ∧ (d = a0 ∨ d4.next ≤ d) ∧ b = (c.spP s w i ++ c.spR s w ((c.hom w s.x).getD i 0) j).length ∧ j ≤ (c.hom w s.y).length) (fun (j, d, b) => (c.hom w s.y).length - j) ((0, _, _)) ⟨rfl, rfl, rfl, rfl, rfl, rfl, rfl, rfl, trivial⟩ ⟨rfl, rfl, trivial⟩ ?_ ?_
   ·
    refine ⟨.refl _ _, by first | assumption | (rw [d6]; assumption), .inl rfl, by first | rfl | assumption | simp | omega, ?_⟩
    omega
   rintro ⟨j, d, b⟩ HL2 ⟨f, r, pl_L5v2, ln_L5v2, hI⟩ KL2 b4
   refine .forget (fr' := [(54, some (.int .i64 (j : Int))), (5, some (.slice (some ⟨d, 0, none⟩) b b)), (0, some _), (1, some _), (7, some _), (20, some _), (21, some _), (22, some _), (52, some _), (53, some _)]) ⟨rfl, rfl, rfl, rfl, rfl, rfl, rfl, rfl, rfl, rfl, trivial⟩ ?_
   have nx_HL2 := f.nx
   replace n := n.st f (fun k hk => ⟨by omega, trivial⟩)
   replace a := a.sA f
   replace hg := f.s hg
   replace u := f.s u
   replace h := o.mono n
   have e1 := Ints.of_get u
   have hrl := c.spR_len s w ((c.hom w s.x).getD i 0) j
   have hal : (c.spP s w i ++ c.spR s w ((c.hom w s.x).getD i 0) j).length = (c.spP s w i).length + (c.spR s w ((c.hom w s.x).getD i 0) j).length := List.length_append
   have htl2 := length_prs (c.spP s w i ++ c.spR s w ((c.hom w s.x).getD i 0) j)
   refine .seq (fun K14 b7 => .region (.q rfl (.cmp rfl rfl rfl) (.nil (b7 _ _ (.seq (fun K15 c1 => ?_))))))
   refine .cond rfl (fun b9 => ?_) (fun b9 => ?_)
   ·
    simp only [sps] at b9
    have hmb : (c.hom w s.y).getD j 0 ∈ c.hom w s.y := getD_mem_list (by omega)
    refine .skip ?_
    refine c1 _ _ (.seq (fun K16 b3 => ?_))
    refine .block ?_
    refine .seq (fun K17 d1 => .region ?_)
    refine .q rfl (.idxN sl_22_A (by first | assumption | exact SlA.of_row u (by first | rfl | (simp; done) | (simp <;> omega))) rfl rfl (by omega)) ?_
    refine .q rfl (.loadI on_2_A (by first | assumption | exact Ints.of_get u) rfl (by omega)) ?_
    refine .mv rfl (.nil (d1 _ _ (.seq (fun K18 c7 => .region (.mv rfl (.q rfl (.nilCheck rfl) (.q rfl (.fieldAddr fo_125_3_Li rfl) ?_)))))))
    refine .q rfl (.load on_123_Li rfl (by first | assumption | exact Mem.of_get hg 3 _ rfl)) ?_
    refine .mv rfl (.mv rfl ?_)
    refine .callV rfl rfl rfl rfl rfl hF.code rfl ((hF.run _ (.of_le n) h w _ _ hma (fun e => absurd e hna) (fun _ => hmb))) ?_
    rintro _ _ ⟨rfl, rfl⟩
    refine .nil (c7 _ _ ?_)
    refine .cond rfl (fun d2 => ?_) (fun d2 => ?_)
    ·
     have hUU : c.spR s w ((c.hom w s.x).getD i 0) (j + 1) = c.spR s w ((c.hom w s.x).getD i 0) j ++ [((c.hom w s.x).getD i 0, (c.hom w s.y).getD j 0)] := Cat.spR_T (by omega) d2
     refine .region (.mv rfl (.mv rfl (.mv rfl (.q rfl (.build bt_102_Li rfl rfl rfl) ?_))))
     refine .R rfl (.litA rfl sl_100_Li ze_102_Li rfl rfl rfl rfl) ?_
     rintro _ H69 ⟨g69, rfl, b2, ge69, c5⟩
     replace f := f.le b2
     replace r := b2.2 _ _ r
     have lt_at69 := GHeap.ltg c5
     clear e1
     refine .R rfl (.appendV rfl sl_100_Li ze_102_Li rfl by_102_Li sl_100_Li rfl rfl (by assumption) (by assumption) (by first | omega | (simp <;> omega)) rfl rfl (by omega) (by omega)) ?_
     rintro _ H70 ⟨g70, rfl, c0, ge70, at70⟩
     replace f := f.sA c0
     refine .mv rfl (.nil (b3 _ _ (.region ?_)))
     refine .q rfl (.add rfl rfl rfl (by omega) (by omega)) ?_
     refine .mv rfl (.nil ?_)
     refine b4 ((j + 1, _, _)) _ _ ?_ ?_ ⟨rfl, rfl, rfl, rfl, rfl, rfl, rfl, rfl, rfl, rfl, trivial⟩
     ·
      refine ⟨f, by first | assumption | (rw [hUU, ← List.append_assoc, prs_snoc]; assumption) | (rw [hUU]; assumption), by omega, by first | omega | (simp only [List.length_append, List.length_cons, List.length_nil] <;> omega) | (rw [hUU, ← List.append_assoc, prs_snoc] <;> (first | omega | (simp only [List.length_append, List.length_cons, List.length_nil] <;> omega))) | (rw [hUU] <;> (first | omega | (simp only [List.length_append, List.length_cons, List.length_nil] <;> omega))), ?_⟩
      omega
     (dsimp only; omega)
    have hUU : c.spR s w ((c.hom w s.x).getD i 0) (j + 1) = c.spR s w ((c.hom w s.x).getD i 0) j := Cat.spR_F (by omega) d2
    refine .skip ?_
    refine b3 _ _ (.region ?_)
    refine .q rfl (.add rfl rfl rfl (by omega) (by omega)) ?_
    refine .mv rfl (.nil ?_)
    refine b4 ((j + 1, _, _)) _ _ ?_ ?_ ⟨rfl, rfl, rfl, rfl, rfl, rfl, rfl, rfl, rfl, rfl, trivial⟩
    ·
     refine ⟨f, by first | assumption | (rw [hUU, ← List.append_assoc, prs_snoc]; assumption) | (rw [hUU]; assumption), by omega, by first | omega | (simp only [List.length_append, List.length_cons, List.length_nil] <;> omega) | (rw [hUU, ← List.append_assoc, prs_snoc] <;> (first | omega | (simp only [List.length_append, List.length_cons, List.length_nil] <;> omega))) | (rw [hUU] <;> (first | omega | (simp only [List.length_append, List.length_cons, List.length_nil] <;> omega))), ?_⟩
     omega
    (dsimp only; omega)
   obtain rfl : j = (c.hom w s.y).length := by simp only [sps] at b9; omega
   have hTT := Cat.spP_next (c := c) (s := s) (w := w) (k := i) hna (by omega)
   refine .exit ?_
   refine b6 _ _ (.region ?_)
   refine .q rfl (.add rfl rfl rfl (by omega) (by omega)) ?_
   refine .mv rfl (.nil ?_)
   refine a5 ((i + 1, _, _)) _ _ ?_ ?_ ⟨rfl, rfl, rfl, rfl, rfl, rfl, trivial⟩
   ·
    refine ⟨a, by first | assumption | (rw [hTT, prs_snoc]; assumption) | (rw [hTT]; assumption), by omega, by first | omega | (simp only [List.length_append, List.length_cons, List.length_nil] <;> omega) | (rw [hTT, prs_snoc] <;> (first | omega | (simp only [List.length_append, List.length_cons, List.length_nil] <;> omega))) | (rw [hTT] <;> (first | omega | (simp only [List.length_append, List.length_cons, List.length_nil] <;> omega))), ?_⟩
    omega
   (dsimp only; omega)
  try simp only [sps] at c3
  refine .exit ?_
  refine e4 _ _ (.seq (fun K19 c2 => .region (.mv rfl (.mv rfl (.nil (c2 _ _ ?_))))))
  refine .ret ?_
  refine b5 _ _ ?_
  refine ⟨_, rfl, ?_⟩
  obtain rfl : i = (c.hom w s.x).length := by omega
  rw [Cat.spP_all] at l a3
  exact ⟨n, _, by rw [a3], by omega, l⟩
theorem aggEq_102 (a0 a1 b0 b1 : Int) : ∀ w, (Op.equal 102 (.agg #[.int .i64 a0, .int .i64 a1]) (.agg #[.int .i64 b0, .int .i64 b1])).run Try.prog w = .ok (a0 == b0 && a1 == b1) w := by
  intro w
  unfold Op.equal Op.maxDepth
  simp [go_sem, run_equalIn_agg]
  (repeat' split) <;> simp_all
theorem keyT2 : KeyT Try.prog 102 2 := by
  refine ⟨⟨Try.prog.fieldsOf 102, by kernel_rfl⟩, fun s t hs ht w => ?_, fun b s hs w => ?_⟩
  · match s, t, hs, ht with
    | [a0, a1], [b0, b1], _, _ =>
      have := aggEq_102 a0 a1 b0 b1 w
      refine Eq.trans this ?_
      refine congrArg (fun r => Result.ok r w) ?_
      rw [Bool.eq_iff_iff]
      simp
  · exact checkKeyT (by kernel_rfl) (by kernel_rfl) b hs w
set_option maxHeartbeats 4000000 in
theorem isUniversalS_c {c : Cat} {p : CatP} {gc g z : Nat} {s : Spn} {p1 p2 : Int} {H : GHeap} (h : Cat.At H gc 0 c p := by assumption) (hs : SpnAt Try.prog 125 79 c gc p H g s := by assumption) (hS : c.Shape := by assumption) (h1 : 0 ≤ p1 ∧ p1 < c.src.length) (h2 : 0 ≤ p2 ∧ p2 < c.src.length) :
    GCalls Try.prog 133 [.pointer (some ⟨g, 0, none⟩), .int .i64 (z : Int), .agg #[.int .i64 p1, .int .i64 p2]] H (Ret (.bool (B (c.SpV s z (p1, p2)))) H) := by
  refine GCalls.ret rfl ?_
  obtain ⟨fn, cap, hg, -⟩ := id hs
  have b1 := hS.n40
  have b5 := hS.obj
  refine GCalls.body (N := 68) (rs := [.tmp 6]) Try.func133 rfl rfl rfl rfl (fun Qx a1 hend => ?_)
  refine .fg [0, 1, 2] rfl ?_
  have f := GHeap.Le.refl H
  have lt_hg := GHeap.ltg hg
  have a := h
  refine .seq (fun K1 d6 => .region ?_)
  refine .R rfl (.boxR rfl sz_102_Li rfl) ?_
  rintro _ H5 ⟨g5, rfl, c5, ge5, o⟩
  replace f := f.trans c5
  replace hg := c5.2 _ _ hg
  have lt_at5 := GHeap.ltg o
  replace h := a.mono f
  refine .mv rfl (.nil (d6 _ _ (.seq (fun K2 d2 => .seq (fun K3 d4 => .region (.mv rfl (.nil (d4 _ _ ?_))))))))
  refine .block ?_
  refine .loopR (σ := Nat) [(0, some _), (1, some _), (5, some _)] (fun w => [(7, some (.int .i64 (w : Int)))]) (fun w H' => St [] H5 H' ∧ w ≤ c.obj.toNat ∧ ∀ w', w' < w → (c.hom (w' : Nat) z).length = (c.spL s w').length ∧ ((c.hom w' z).map (c.spM (p1, p2))).Nodup) (fun w => c.obj.toNat - w) (0) ⟨rfl, rfl, rfl, trivial⟩ ⟨rfl, trivial⟩ ?_ ?_
  ·
   refine ⟨.refl _ _, ?_⟩
   exact ⟨by omega, fun w hw => by omega⟩
  rintro w HL1 ⟨b, hI⟩ KL1 b2
  refine .forget (fr' := [(7, some (.int .i64 (w : Int))), (0, some _), (1, some _), (5, some _)]) ⟨rfl, rfl, rfl, rfl, trivial⟩ ?_
  have nx_HL1 := b.nx
  replace f := f.st b (fun k hk => trivial)
  replace hg := b.same _ _ trivial hg
  replace o := b.same _ _ trivial o
  replace h := a.mono f
  obtain ⟨c0, -, -, -, -, -, -, -, -⟩ := h.get
  obtain ⟨hw, a2⟩ := hI
  refine .seq (fun K4 d0 => .seq (fun K5 c9 => .region (.mv rfl (.mv rfl (.q rfl (.nilCheck rfl) (.q rfl (.fieldAddr fo_125_0_Li rfl) ?_))))))
  refine .q rfl (.load on_69_F rfl (by first | assumption | exact Mem.of_get hg 0 _ rfl)) ?_
  refine .q rfl (.nilCheck rfl) (.q rfl (.fieldAddr fo_29_0_B rfl) ?_)
  refine .q rfl (.load on_2_A rfl (by assumption)) ?_
  refine .q rfl (.cmp rfl rfl rfl) (.nil (c9 _ _ ?_))
  refine .cond rfl (fun a5 => ?_) (fun a5 => ?_)
  ·
   simp only [sps] at a5
   have q1 := Cat.hom_le c w z
   refine .skip ?_
   refine d0 _ _ (.seq (fun K6 d5 => ?_))
   refine .block ?_
   refine .seq (fun K7 c6 => .region (.mv rfl (.q rfl (.nilCheck rfl) (.q rfl (.fieldAddr fo_125_0_Li rfl) ?_))))
   refine .q rfl (.load on_69_F rfl (by first | assumption | exact Mem.of_get hg 0 _ rfl)) ?_
   refine .mv rfl (.mv rfl ?_)
   refine .call rfl rfl rfl rfl @Try.call63 rfl (hom_c) ?_
   rintro _ H29 ⟨a0, g29, rfl, l, ge29⟩
   replace f := f.trans a0
   replace b := b.le a0
   replace hg := a0.2 _ _ hg
   replace o := a0.2 _ _ o
   have lt_at29 := GHeap.ltg l
   replace h := a.mono f
   clear c0
   refine .mv rfl (.nil (c6 _ _ (.seq (fun K8 c8 => .seq (fun K9 d3 => .region (.mv rfl (.q rfl (.len sl_22_A rfl) (.mv rfl (.mv rfl ?_)))))))))
   refine .call rfl rfl rfl rfl @Try.call132 rfl (spansFrom_c (hs := hs.keep rfl (.of_le f))) ?_
   rintro _ H34 ⟨t, g34, rfl, ge34, v⟩
   replace f := f.trans t
   replace b := b.le t
   replace hg := t.2 _ _ hg
   replace o := t.2 _ _ o
   replace l := t.2 _ _ l
   have lt_at34 := GHeap.ltg v
   replace h := a.mono f
   refine .q rfl (.len sl_100_Li rfl) (.q rfl (.cmp rfl rfl rfl) (.nil (d3 _ _ ?_)))
   refine .cond rfl (fun a4 => ?_) (fun a4 => ?_)
   ·
    simp only [sps] at a4
    refine .seq (fun K10 b9 => .region (.mv rfl (.nil (b9 _ _ ?_))))
    refine .ret ?_
    refine a1 _ _ ?_
    refine ⟨_, rfl, ?_⟩
    exact ⟨congrArg _ (B_false fun hV => a4 (by have := (hV.all w (by omega)).1; omega)), f⟩
   simp only [sps] at a4
   refine .skip ?_
   refine c8 _ _ (.seq (fun K11 b6 => .region ?_))
   refine .R rfl (.makeMapR rfl) ?_
   rintro _ d1 ⟨c4, rfl, r, ge37, at37⟩
   replace f := f.trans r
   replace b := b.le r
   replace hg := r.2 _ _ hg
   replace o := r.2 _ _ o
   replace l := r.2 _ _ l
   replace v := r.2 _ _ v
   replace h := a.mono f
   refine .mv rfl (.nil (b6 _ _ (.seq (fun K12 b0 => .seq (fun K13 a9 => .region (.mv rfl (.q rfl (.len sl_22_A rfl) (.mv rfl (.nil (a9 _ _ ?_))))))))))
   refine .block ?_
   have c7 : bmap (setB (((c.hom w z).take 0).map (c.sp2 p1 p2))) = [] := rfl
   refine .loopR (σ := Nat) [(0, some _), (1, some _), (5, some _), (7, some _), (8, some _), (9, some _), (38, some _), (39, some _)] (fun k => [(40, some (.int .i64 (k : Int)))]) (fun k H' => St [c4] d1 H' ∧ H'.get c4 = some (.map (bmap (setB (((c.hom w z).take k).map (c.sp2 p1 p2))))) ∧ k ≤ (c.hom w z).length) (fun k => (c.hom w z).length - k) (0) ⟨rfl, rfl, rfl, rfl, rfl, rfl, rfl, rfl, trivial⟩ ⟨rfl, trivial⟩ ?_ ?_
   ·
    refine ⟨.refl _ _, by first | assumption | (rw [c7]; assumption), ?_⟩
    omega
   rintro k HL2 ⟨m, a3, hI⟩ KL2 c3
   refine .forget (fr' := [(40, some (.int .i64 (k : Int))), (0, some _), (1, some _), (5, some _), (7, some _), (8, some _), (9, some _), (38, some _), (39, some _)]) ⟨rfl, rfl, rfl, rfl, rfl, rfl, rfl, rfl, rfl, trivial⟩ ?_
   replace f := f.st m (fun k hk => ⟨by omega, trivial⟩)
   replace b := b.sA m
   replace hg := m.s hg
   replace o := m.s o
   replace l := m.s l
   replace v := m.s v
   replace h := a.mono f
   have d7 := Ints.of_get l
   refine .seq (fun K14 a6 => .region (.q rfl (.cmp rfl rfl rfl) (.nil (a6 _ _ (.seq (fun K15 a7 => ?_))))))
   refine .cond rfl (fun c2 => ?_) (fun c2 => ?_)
   ·
    simp only [sps] at c2
    obtain ⟨u, u1, -, -, u4⟩ := Cat.hom_get (c := c) (x := w) (y := z) (i := k) (by omega)
    refine .skip ?_
    refine a7 _ _ (.seq (fun K16 b7 => ?_))
    refine .block ?_
    refine .seq (fun K17 b8 => .region ?_)
    refine .q rfl (.idxN sl_22_A (by first | assumption | exact SlA.of_row l (by first | rfl | (simp; done) | (simp <;> omega))) rfl rfl (by omega)) ?_
    refine .q rfl (.loadI on_2_A (by first | assumption | exact Ints.of_get l) rfl (by omega)) ?_
    refine .mv rfl (.nil (b8 _ _ ?_))
    refine .regionD mo_B (.q 0 (.q 1 (.q 2 (.q 3 (.q 4 (.q 5 (.q 6 (.q 7 (.q 9 (.q 10 (.q 11 (.q 12 (.q 13 (.q 14 (.q 15 (.c 8 1 (.c 16 1 (.q 17 (.c 18 0 (.done)))))))))))))))))))) (by kernel_rfl) ?_
    refine .mv rfl rfl (.mv rfl rfl (.q rfl (.nilCheck rfl) (.q rfl (.fieldAddr fo_125_0_Li rfl) ?_)))
    refine .q rfl (.load on_69_F rfl (by first | assumption | exact Mem.of_get hg 0 _ rfl)) ?_
    refine .mv rfl rfl (.q rfl (.fieldAddr fo_102_0_Li rfl) ?_)
    refine .q rfl (.load on_2_A rfl (by first | assumption | exact Mem.of_get o 0 _ rfl)) ?_
    refine .mv rfl rfl (.q rfl (.nilCheck rfl) (.q rfl (.fieldAddr fo_125_0_Li rfl) ?_))
    refine .q rfl (.load on_69_F rfl (by first | assumption | exact Mem.of_get hg 0 _ rfl)) ?_
    refine .mv rfl rfl (.q rfl (.fieldAddr fo_102_1_Li rfl) ?_)
    refine .q rfl (.load on_2_A rfl (by first | assumption | exact Mem.of_get o 1 _ rfl)) ?_
    refine .callQ1 rfl rfl rfl rfl rfl @Try.call64 rfl (then_s) (.refl _) ?_
    refine .callQ1 rfl rfl rfl rfl rfl @Try.call64 rfl (then_s) (.refl _) ?_
    refine .q rfl (.build bt_102_Li rfl rfl rfl) ?_
    refine .r0 rfl rfl rfl (.mapPutB rfl mtt_151_Li keyT2 rfl rfl rfl (j := [_, _]) rfl (by assumption) (sp2_len _)) ?_
    rintro _ H11018 ⟨rfl, n, at11018⟩
    replace f := f.st n (fun k hk => ⟨by omega, trivial⟩)
    replace m := m.sA n
    replace h := a.mono f
    clear d7
    refine .done ?_
    refine b7 _ _ (.region ?_)
    refine .q rfl (.add rfl rfl rfl (by omega) (by omega)) ?_
    refine .mv rfl (.nil ?_)
    refine c3 (k + 1) _ _ ?_ ?_ ⟨rfl, rfl, rfl, rfl, rfl, rfl, rfl, rfl, rfl, trivial⟩
    ·
     refine ⟨m, by first | assumption | (rw [take_snoc_getD (by omega), List.map_append, List.map_singleton, setB_snoc]; assumption), ?_⟩
     omega
    omega
   obtain rfl : k = (c.hom w z).length := by simp only [sps] at c2; omega
   refine .exit ?_
   refine b0 _ _ (.seq (fun K18 b3 => .region (.mv rfl (.d rfl rfl rfl (.lenMapB rfl mtt_151_Li rfl a3 (sp2_len _) CIs.mk) (.mv rfl (.q rfl (.len sl_22_A rfl) (.q rfl (.cmp rfl rfl rfl) (.nil (b3 _ _ ?_)))))))))
   refine .cond rfl (fun c1 => ?_) (fun c1 => ?_)
   ·
    have hnn : ¬ ((c.hom w z).map (c.spM (p1, p2))).Nodup := fun hn => by
      have := Cat.sp2_set.2 hn
      simp only [sps, List.take_length] at c1
      omega
    refine .seq (fun K19 a8 => .region (.mv rfl (.nil (a8 _ _ ?_))))
    refine .ret ?_
    refine a1 _ _ ?_
    refine ⟨_, rfl, ?_⟩
    exact ⟨congrArg _ (B_false fun hV => hnn (hV.all w (by omega)).2), f⟩
   have hnd : ((c.hom w z).map (c.spM (p1, p2))).Nodup := Cat.sp2_set.1 (by
     simp only [sps, List.take_length] at c1
     omega)
   refine .skip ?_
   refine d5 _ _ (.region (.mv rfl ?_))
   refine .q rfl (.add rfl rfl rfl (by omega) (by omega)) ?_
   refine .mv rfl (.nil ?_)
   refine b2 (w + 1) _ _ ?_ ?_ ⟨rfl, rfl, rfl, rfl, trivial⟩
   ·
    refine ⟨b, ?_⟩
    refine ⟨by omega, fun w' hw' => ?_⟩
    by_cases e : w' < w
    · exact a2 w' e
    · obtain rfl : w' = w := by omega
      exact ⟨by omega, hnd⟩
   omega
  try simp only [sps] at a5
  refine .exit ?_
  refine d2 _ _ (.seq (fun K20 b4 => .region (.mv rfl (.nil (b4 _ _ ?_)))))
  refine .ret ?_
  refine a1 _ _ ?_
  refine ⟨_, rfl, ?_⟩
  exact ⟨congrArg _ (B_true ⟨fun w hw => a2 w (by omega)⟩), f⟩
set_option maxHeartbeats 4000000 in
theorem firstS_c {c : Cat} {p : CatP} {gc g : Nat} {s : Spn} {H : GHeap} (h : Cat.At H gc 0 c p := by assumption) (hs : SpnAt Try.prog 125 79 c gc p H g s := by assumption) (hS : c.Shape := by assumption) (hc : c.SpC s := by assumption) :
    GCalls Try.prog 105 [.pointer (some ⟨g, 0, none⟩)] H (fun v H' => H.Le H' ∧ v = .tuple #[.int .i64 ((c.fstL s).getD 0 0), .agg #[.int .i64 ((c.fstL s).getD 1 0), .int .i64 ((c.fstL s).getD 2 0)], .bool (!(c.fstL s).isEmpty)]) := by
  obtain ⟨fn, cap, hg, -⟩ := id hs
  have b5 := hS.obj
  refine GCalls.body (N := 35) (rs := [.tmp 2, .cell 3 102, .tmp 4]) Try.func105 rfl rfl rfl rfl (fun Qx a3 hend => ?_)
  refine .fg [0] rfl ?_
  have b := GHeap.Le.refl H
  have a := h
  refine .seq (fun K1 c8 => .region (.mv rfl ?_))
  refine .R rfl (.allocR rfl ze_102_Li rfl) ?_
  rintro _ H3 ⟨g3, rfl, b7, ge3, o⟩
  replace b := b.trans b7
  replace hg := b7.2 _ _ hg
  have lt_at3 := GHeap.ltg o
  replace h := a.mono b
  refine .mv rfl (.nil (c8 _ _ (.seq (fun K2 c4 => .seq (fun K3 c6 => .region (.mv rfl (.nil (c6 _ _ ?_))))))))
  refine .block ?_
  refine .loopR (σ := Nat) [(0, some _), (3, some _)] (fun z => [(5, some (.int .i64 (z : Int)))]) (fun z H' => St [] H3 H' ∧ z ≤ c.obj.toNat ∧ ∀ z' : Nat, z' < z → ∀ q ∈ c.spL s z', ¬ c.SpV s z' q) (fun z => c.obj.toNat - z) (0) ⟨rfl, rfl, trivial⟩ ⟨rfl, trivial⟩ ?_ ?_
  ·
   refine ⟨.refl _ _, ?_⟩
   exact ⟨by omega, fun w hw => by omega⟩
  rintro z HL1 ⟨l, hI⟩ KL1 b1
  refine .forget (fr' := [(5, some (.int .i64 (z : Int))), (0, some _), (3, some _)]) ⟨rfl, rfl, rfl, trivial⟩ ?_
  have nx_HL1 := l.nx
  replace b := b.st l (fun k hk => trivial)
  replace hg := l.same _ _ trivial hg
  replace o := l.same _ _ trivial o
  replace h := a.mono b
  obtain ⟨c0, -, -, -, -, -, -, -, -⟩ := h.get
  obtain ⟨hz, a1⟩ := hI
  refine .seq (fun K4 c3 => .seq (fun K5 c2 => .region (.mv rfl (.mv rfl (.q rfl (.nilCheck rfl) (.q rfl (.fieldAddr fo_125_0_Li rfl) ?_))))))
  refine .q rfl (.load on_69_F rfl (by first | assumption | exact Mem.of_get hg 0 _ rfl)) ?_
  refine .q rfl (.nilCheck rfl) (.q rfl (.fieldAddr fo_29_0_B rfl) ?_)
  refine .q rfl (.load on_2_A rfl (by assumption)) ?_
  refine .q rfl (.cmp rfl rfl rfl) (.nil (c2 _ _ ?_))
  refine .cond rfl (fun a6 => ?_) (fun a6 => ?_)
  ·
   simp only [sps] at a6
   refine .skip ?_
   refine c3 _ _ (.seq (fun K6 c7 => ?_))
   refine .block ?_
   refine .seq (fun K7 b8 => .region (.mv rfl (.mv rfl ?_)))
   refine .call rfl rfl rfl rfl @Try.call132 rfl (spansFrom_c (hs := hs.keep rfl (.of_le b))) ?_
   rintro _ c1 ⟨x, g21, rfl, ge21, r⟩
   replace b := b.trans x
   replace l := l.le x
   replace o := x.2 _ _ o
   have lt_at21 := GHeap.ltg r
   replace h := a.mono b
   clear c0
   refine .q rfl (.len sl_100_Li rfl) (.mv rfl (.nil (b8 _ _ ?_)))
   refine .block ?_
   refine .loopR (σ := Nat) [(0, some _), (3, some _), (5, some _), (21, some _), (22, some _)] (fun i => [(23, some (.int .i64 (i : Int)))]) (fun i H' => St [] c1 H' ∧ i ≤ (c.spL s z).length ∧ ∀ j, j < i → ¬ c.SpV s z ((c.spL s z).getD j (0, 0))) (fun i => (c.spL s z).length - i) (0) ⟨rfl, rfl, rfl, rfl, rfl, trivial⟩ ⟨rfl, trivial⟩ ?_ ?_
   ·
    refine ⟨.refl _ _, ?_⟩
    exact ⟨by omega, fun w hw => by omega⟩
   rintro i HL2 ⟨f, hI⟩ KL2 b6
   refine .forget (fr' := [(23, some (.int .i64 (i : Int))), (0, some _), (3, some _), (5, some _), (21, some _), (22, some _)]) ⟨rfl, rfl, rfl, rfl, rfl, rfl, trivial⟩ ?_
   have nx_HL2 := f.nx
   replace b := b.st f (fun k hk => trivial)
   replace l := l.sA f
   replace o := f.same _ _ trivial o
   replace r := f.same _ _ trivial r
   replace h := a.mono b
   obtain ⟨hi, hno⟩ := hI
   refine .seq (fun K8 b9 => .region (.q rfl (.cmp rfl rfl rfl) (.nil (b9 _ _ (.seq (fun K9 c5 => ?_))))))
   refine .cond rfl (fun b4 => ?_) (fun b4 => ?_)
   ·
    simp only [sps] at b4
    have a8 := Cat.spL_rg (c := c) (s := s) hS (z := z) (getD_mem_list (d := (0, 0)) (i := i) (by omega))
    have hlb := Cat.spL_bound hS s z
    have hsl := prs_sl r
    have hpm := prs_mem r (i := i) (by omega)
    refine .skip ?_
    refine c5 _ _ (.seq (fun K10 b3 => ?_))
    refine .block ?_
    refine .seq (fun K11 b2 => .region ?_)
    refine .q rfl (.idx sl_100_Li (by assumption) (by omega) rfl rfl (by omega) (by omega) rfl) ?_
    refine .q rfl (.loadM ag_102_Li rfl (by assumption)) ?_
    refine .R rfl (.allocR rfl ze_102_Li rfl) ?_
    rintro _ H7 ⟨g7, rfl, a9, ge7, at7⟩
    replace b := b.trans a9
    replace f := f.le a9
    replace o := a9.2 _ _ o
    replace h := a.mono b
    clear hi
    refine .r0 rfl rfl (.fillA rfl sz_102_Li rfl rfl rfl rfl) ?_
    rintro _ H6003 ⟨rfl, n, m⟩
    replace b := b.st n (fun k hk => ⟨by omega, trivial⟩)
    replace f := f.sA n
    replace o := n.s o
    replace h := a.mono b
    have a0 : MemN _ _ _ _ _ := ⟨rfl, Mem.of_get m⟩
    refine .nil (b2 _ _ (.seq (fun K12 b0 => .region (.mv rfl (.mv rfl ?_)))))
    refine .q rfl (.loadM ag_102_Li rfl ⟨rfl, Mem.of_get m⟩) ?_
    refine .callQ rfl rfl rfl rfl @Try.call133 rfl (isUniversalS_c (hs := hs.keep rfl (.of_le b)) (h1 := ⟨a8.1, a8.2.1⟩) (h2 := a8.2.2)) ?_
    refine .nil (b0 _ _ ?_)
    refine .cond rfl (fun a4 => ?_) (fun a4 => ?_)
    ·
     simp only [sps] at a4
     refine .seq (fun K13 a7 => ?_)
     refine .regionD mo_B (.q 0 (.q 1 (.q 2 (.c 3 0 (.q 4 (.done)))))) (by kernel_rfl) ?_
     refine .mv rfl rfl ?_
     refine .q rfl (.loadM ag_102_Li rfl ⟨rfl, Mem.of_get m⟩) ?_
     refine .mv rfl rfl ?_
     refine .r0 rfl rfl rfl (.fillA rfl sz_102_Li rfl rfl rfl rfl) ?_
     rintro _ H8003 ⟨rfl, y, a2⟩
     replace b := b.st y (fun k hk => ⟨by omega, trivial⟩)
     replace h := a.mono b
     clear a0
     refine .mv rfl rfl ?_
     refine .done ?_
     refine a7 _ _ ?_
     refine .ret ?_
     refine a3 _ _ ?_
     refine ⟨_, _, _, _, _, _, rfl, ag_102_Li, (by rfl), (Mem.of_get a2), rfl, rfl, ?_⟩
     rw [Cat.fst_hit hc (by omega) a1 (by omega) hno a4]; exact ⟨b, rfl⟩
    simp only [sps] at a4
    refine .skip ?_
    refine b3 _ _ (.region ?_)
    refine .q rfl (.add rfl rfl rfl (by omega) (by omega)) ?_
    refine .mv rfl (.nil ?_)
    refine b6 (i + 1) _ _ ?_ ?_ ⟨rfl, rfl, rfl, rfl, rfl, rfl, trivial⟩
    ·
     refine ⟨f, ?_⟩
     refine ⟨by omega, fun j hj => ?_⟩
     by_cases e : j < i
     · exact hno j e
     · obtain rfl : j = i := by omega
       exact a4
    omega
   try simp only [sps] at b4
   refine .exit ?_
   refine c7 _ _ (.region (.mv rfl ?_))
   refine .q rfl (.add rfl rfl rfl (by omega) (by omega)) ?_
   refine .mv rfl (.nil ?_)
   refine b1 (z + 1) _ _ ?_ ?_ ⟨rfl, rfl, rfl, trivial⟩
   ·
    refine ⟨l, ?_⟩
    refine ⟨by omega, fun z' hz' q hq => ?_⟩
    by_cases e : z' < z
    · exact a1 z' e q hq
    · obtain rfl : z' = z := by omega
      obtain ⟨j, hj, rfl⟩ := mem_iff_getD'.1 hq
      exact hno j (by omega)
   omega
  try simp only [sps] at a6
  refine .exit ?_
  refine c4 _ _ (.seq (fun K14 a5 => .region (.q rfl (.build bt_102_Li rfl rfl rfl) (.mv rfl ?_))))
  refine .r0 rfl rfl (.fillA rfl sz_102_Li rfl rfl rfl rfl) ?_
  rintro _ H10002 ⟨rfl, u, t⟩
  replace b := b.st u (fun k hk => ⟨by omega, trivial⟩)
  replace h := a.mono b
  refine .mv rfl (.nil (a5 _ _ ?_))
  refine .ret ?_
  refine a3 _ _ ?_
  refine ⟨_, _, _, _, _, _, rfl, ag_102_Li, (by rfl), (Mem.of_get t), rfl, rfl, ?_⟩
  rw [Cat.fst_none hc fun z' hz' => a1 z' (by omega)]; exact ⟨b, rfl⟩
end Go.Proofs.Ytjdedelneppnlaa
namespace Go.GL
abbrev hd (l : List Int) : Int := l.getD 0 0
structure EqvOn (P : Int → Prop) (E : Int → Int → Bool) : Prop where
  refl : ∀ x, P x → E x x = true
  symm : ∀ x y, E x y = true → E y x = true
  trans : ∀ x y z, P x → P y → P z → E x y = true → E y z = true → E x z = true
structure ClsOk (P : Int → Prop) (E : Int → Int → Bool) (T : List (List Int)) : Prop where
  ne : ∀ i, i < T.length → 0 < (T.getD i []).length
  mem : ∀ i, i < T.length → ∀ x ∈ T.getD i [], P x ∧ E x (hd (T.getD i [])) = true
  ap : ∀ i j, i < T.length → j < T.length → i ≠ j → E (hd (T.getD i [])) (hd (T.getD j [])) = false
structure Cat.ToX (c : Cat) (x m : Int) : Prop where
  ge : 0 ≤ m
  lt : m < c.src.length
  tg : c.T m = x
  mono : c.Mono m
noncomputable def Cat.codeO (c : Cat) (xs : List Int) : Int := if B c.Is = true then (if allIn xs c.obj = true then 0 else 2) else 1
theorem Cat.codeO_ok {c : Cat} {xs : List Int} : c.codeO xs = 0 ↔ c.Is ∧ allIn xs c.obj = true := by
  unfold Cat.codeO
  by_cases h : c.Is
  · rw [if_pos (B_iff.2 h)]
    split
    · exact ⟨fun _ => ⟨h, by assumption⟩, fun _ => rfl⟩
    · exact ⟨fun e => by omega, fun e => absurd e.2 (by assumption)⟩
  · rw [if_neg (fun e => h (B_iff.1 e))]
    exact ⟨fun e => by omega, fun e => absurd e.1 h⟩
theorem Cat.codeO_not {c : Cat} {xs : List Int} (h : ¬ c.Is) : c.codeO xs = 1 := by
  unfold Cat.codeO
  rw [if_neg (fun e => h (B_iff.1 e))]
theorem Cat.codeO_out {c : Cat} {xs : List Int} (h : c.Is) (h' : ¬ allIn xs c.obj = true) : c.codeO xs = 2 := by
  unfold Cat.codeO
  rw [if_pos (B_iff.2 h), if_neg h']
end Go.GL
namespace Go.Proofs.Ytjdedelneppnlaa
open Go Go.GL Go.RowKit Go.Proofs
theorem objectCode_c {g o : Nat} {c : Cat} {p : CatP} {a : Option Addr} {xs : List Int} {H : GHeap} (h : Cat.At H g o c p := by assumption) (hs : c.Small := by assumption) (hx : Ints H a xs := by assumption) (hl : xs.length ≤ 1048576 := by omega) :
    GCalls Try.prog 54 [.pointer (some ⟨g, o, none⟩), .slice a xs.length xs.length] H (Ret (.int .i64 (c.codeO xs)) H) := by
  refine GCalls.ret rfl ?_
  obtain ⟨-, -, -, -, -, n6⟩ := id hs
  refine GCalls.body (N := 15) (rs := [.tmp 4]) Try.func54 rfl rfl rfl rfl (fun Qx b hend => ?_)
  refine .fg [0, 1] rfl ?_
  have e := GHeap.Le.refl H
  have base_h := h
  obtain ⟨c0, -, -, -, -, -, -, -, -⟩ := h.get
  refine .seq (fun K1 n => .region (.mv rfl (.nil (n _ _ (.seq (fun K2 k => .seq (fun K3 i => .region (.mv rfl ?_))))))))
  refine .callQ rfl rfl rfl rfl @Try.call46 rfl (isCategory_c) ?_
  refine .q rfl (.not rfl) (.nil (i _ _ ?_))
  refine .cond rfl (fun h7 => ?_) (fun h7 => ?_)
  ·
   try simp only [sps] at h7
   refine .seq (fun K4 f => .region (.mv rfl (.nil (f _ _ ?_))))
   refine .ret ?_
   refine b _ _ ?_
   refine ⟨_, rfl, ?_⟩
   exact ⟨congrArg _ (Cat.codeO_not h7), e⟩
  simp only [sps] at h7
  have hob := h7.1.obj
  refine .skip ?_
  refine k _ _ (.seq (fun K5 r => .seq (fun K6 m => .region (.mv rfl (.mv rfl (.q rfl (.nilCheck rfl) (.q rfl (.fieldAddr fo_29_0_B rfl) ?_)))))))
  refine .q rfl (.load on_2_A rfl (by assumption)) ?_
  refine .callQ rfl rfl rfl rfl @Try.call103 rfl (within_c) ?_
  refine .q rfl (.not rfl) (.nil (m _ _ ?_))
  refine .cond rfl (fun d => ?_) (fun d => ?_)
  ·
   try simp only [sps] at d
   refine .seq (fun K7 j => .region (.mv rfl (.nil (j _ _ ?_))))
   refine .ret ?_
   refine b _ _ ?_
   refine ⟨_, rfl, ?_⟩
   exact ⟨congrArg _ (Cat.codeO_out h7 (by rw [d]; simp)), e⟩
  try simp only [sps] at d
  refine .skip ?_
  refine r _ _ (.seq (fun K8 l => .region (.mv rfl (.nil (l _ _ ?_)))))
  refine .ret ?_
  refine b _ _ ?_
  refine ⟨_, rfl, ?_⟩
  exact ⟨congrArg _ (Cat.codeO_ok.2 ⟨h7, allIn_iff.2 d⟩), e⟩
end Go.Proofs.Ytjdedelneppnlaa
namespace Go.Proofs.Ytjdedelneppnlaa
open Go Go.GL Go.RowKit Go.Proofs
theorem sz_160_Dg : (Try.prog.info? 160).map (·.size) = some 3 := by kernel_rfl
theorem fo_160_0_Dg : fieldOff Try.prog 160 0 = some 0 := by kernel_rfl
theorem fo_160_1_Dg : fieldOff Try.prog 160 1 = some 1 := by kernel_rfl
theorem fo_160_2_Dg : fieldOff Try.prog 160 2 = some 2 := by kernel_rfl
theorem l01Less_c {a b : Option Addr} {xs ys : List Int} {H : GHeap} (ha : Ints H a xs := by assumption) (hb : Ints H b ys := by assumption) (hx : xs.length ≤ 1048576 := by omega) :
    GCalls Try.prog 156 [.slice a xs.length xs.length, .slice b ys.length ys.length] H (fun v H' => H.Le H' ∧ ∃ q, v = .bool q) := by
  refine GCalls.body (N := 41) (rs := [.tmp 4]) Try.func156 rfl rfl rfl rfl (fun Qx c hend => ?_)
  refine .fg [0, 1] rfl ?_
  have e := GHeap.Le.refl H
  have base_ha := ha
  have base_hb := hb
  refine .seq (fun K1 t => .region (.mv rfl (.nil (t _ _ (.seq (fun K2 k => .seq (fun K3 o => .region (.mv rfl (.nil (o _ _ ?_))))))))))
  refine .block ?_
  refine .loopR (σ := Nat) [(0, some _), (1, some _)] (fun i => [(5, some (.int .i64 (i : Int)))]) (fun i H' => H = H' ∧ i ≤ xs.length) (fun i => xs.length - i) (0) ⟨rfl, rfl, trivial⟩ ⟨rfl, trivial⟩ ?_ ?_
  ·
   refine ⟨rfl, ?_⟩
   omega
  rintro i _ ⟨rfl, hI⟩ KL1 g
  refine .forget (fr' := [(5, some (.int .i64 (i : Int))), (0, some _), (1, some _)]) ⟨rfl, rfl, rfl, trivial⟩ ?_
  refine .seq (fun K4 n => .seq (fun K5 l => .region (.mv rfl (.mv rfl (.q rfl (.len sl_22_A rfl) (.q rfl (.cmp rfl rfl rfl) (.mv rfl ?_)))))))
  refine .split (fun h => ?_) (fun h => ?_)
  ·
   simp only [sps] at h
   refine .qg rfl (.move rfl) (.qg rfl (.move rfl) (.qg rfl (.len sl_22_A rfl) (.qg rfl (.cmp rfl rfl rfl) (.q rfl (.pickT rfl rfl) (.nil (l _ _ ?_))))))
   refine .cond rfl (fun j => ?_) (fun j => ?_)
   ·
    simp only [sps] at j
    refine .skip ?_
    refine n _ _ (.seq (fun K6 s => ?_))
    refine .block ?_
    refine .seq (fun K7 p => ?_)
    refine .regionD mo_B (.q 0 (.q 1 (.q 2 (.q 3 (.q 4 (.q 5 (.q 6 (.q 7 (.q 8 (.done)))))))))) (by kernel_rfl) ?_
    refine .mv rfl rfl (.mv rfl rfl ?_)
    refine .q rfl (.idxN sl_22_A (by assumption) rfl rfl (by omega)) ?_
    refine .q rfl (.loadI on_2_A (by assumption) rfl (by omega)) ?_
    refine .mv rfl rfl (.mv rfl rfl ?_)
    refine .q rfl (.idxN sl_22_A (by assumption) rfl rfl (by omega)) ?_
    refine .q rfl (.loadI on_2_A (by assumption) rfl (by omega)) ?_
    refine .q rfl (.cmp rfl rfl rfl) ?_
    refine .done ?_
    refine p _ _ ?_
    refine .cond rfl (fun d => ?_) (fun d => ?_)
    ·
     try simp only [sps] at d
     refine .seq (fun K8 r => ?_)
     refine .regionD mo_B (.q 0 (.q 1 (.q 2 (.q 3 (.q 4 (.q 5 (.q 6 (.q 7 (.q 8 (.q 9 (.done))))))))))) (by kernel_rfl) ?_
     refine .mv rfl rfl (.mv rfl rfl ?_)
     refine .q rfl (.idxN sl_22_A (by assumption) rfl rfl (by omega)) ?_
     refine .q rfl (.loadI on_2_A (by assumption) rfl (by omega)) ?_
     refine .mv rfl rfl (.mv rfl rfl ?_)
     refine .q rfl (.idxN sl_22_A (by assumption) rfl rfl (by omega)) ?_
     refine .q rfl (.loadI on_2_A (by assumption) rfl (by omega)) ?_
     refine .q rfl (.cmp rfl rfl rfl) (.mv rfl rfl ?_)
     refine .done ?_
     refine r _ _ ?_
     refine .ret ?_
     refine c _ _ ?_
     refine ⟨_, rfl, ?_⟩
     exact ⟨e, _, rfl⟩
    try simp only [sps] at d
    refine .skip ?_
    refine s _ _ (.region (.mv rfl ?_))
    refine .q rfl (.add rfl rfl rfl (by omega) (by omega)) ?_
    refine .mv rfl (.nil ?_)
    refine g (i + 1) _ _ ?_ ?_ ⟨rfl, rfl, rfl, trivial⟩
    ·
     refine ⟨rfl, ?_⟩
     omega
    omega
   simp only [sps] at j
   refine .exit ?_
   refine k _ _ (.seq (fun K9 m => .region (.mv rfl (.q rfl (.len sl_22_A rfl) (.mv rfl (.q rfl (.len sl_22_A rfl) (.q rfl (.cmp rfl rfl rfl) (.mv rfl (.nil (m _ _ ?_))))))))))
   refine .ret ?_
   refine c _ _ ?_
   refine ⟨_, rfl, ?_⟩
   exact ⟨e, _, rfl⟩
  simp only [sps] at h
  refine .z rfl (.z rfl (.z rfl (.z rfl (.q rfl (.pickF rfl rfl) (.nil (l _ _ ?_))))))
  refine .condF rfl ?_
  refine .exit ?_
  refine k _ _ (.seq (fun K10 f => .region (.mv rfl (.q rfl (.len sl_22_A rfl) (.mv rfl (.q rfl (.len sl_22_A rfl) (.q rfl (.cmp rfl rfl rfl) (.mv rfl (.nil (f _ _ ?_))))))))))
  refine .ret ?_
  refine c _ _ ?_
  refine ⟨_, rfl, ?_⟩
  exact ⟨e, _, rfl⟩
theorem l03Before_c {a b : Option Addr} {xs ys : List Int} {x1 x2 y1 y2 : Int} {H : GHeap} (ha : Ints H a xs := by assumption) (hb : Ints H b ys := by assumption) (hx : xs.length ≤ 1048576 := by omega) :
    GCalls Try.prog 155 [.agg #[.int .i64 x1, .int .i64 y1, .slice a xs.length xs.length], .agg #[.int .i64 x2, .int .i64 y2, .slice b ys.length ys.length]] H (fun v H' => H.Le H' ∧ ∃ q, v = .bool q) := by
  refine GCalls.body (N := 30) (rs := [.tmp 4]) Try.func155 rfl rfl rfl rfl (fun Qx f hend => ?_)
  refine .fg [0, 1] rfl ?_
  have c := GHeap.Le.refl H
  have d := ha
  have e := hb
  refine .seq (fun K1 t => .region ?_)
  refine .R rfl (.boxR rfl sz_160_Dg rfl) ?_
  rintro _ H2 ⟨g2, rfl, n, ge2, g⟩
  replace c := c.trans n
  refine .R rfl (.boxR rfl sz_160_Dg rfl) ?_
  rintro _ H3 ⟨g3, rfl, k, ge3, h⟩
  replace c := c.trans k
  replace g := k.2 _ _ g
  replace ha := d.mono c
  replace hb := e.mono c
  refine .mv rfl (.nil (t _ _ (.seq (fun K2 p => .seq (fun K3 m => .region (.q rfl (.fieldAddr fo_160_0_Dg rfl) ?_))))))
  refine .q rfl (.load on_2_A rfl (by first | assumption | exact Mem.of_get g 0 _ rfl)) ?_
  refine .q rfl (.fieldAddr fo_160_0_Dg rfl) ?_
  refine .q rfl (.load on_2_A rfl (by first | assumption | exact Mem.of_get h 0 _ rfl)) ?_
  refine .q rfl (.cmp rfl rfl rfl) (.nil (m _ _ ?_))
  refine .cond rfl (fun h9 => ?_) (fun h9 => ?_)
  ·
   try simp only [sps] at h9
   refine .seq (fun K4 l => .region (.q rfl (.fieldAddr fo_160_0_Dg rfl) ?_))
   refine .q rfl (.load on_2_A rfl (by first | assumption | exact Mem.of_get g 0 _ rfl)) ?_
   refine .q rfl (.fieldAddr fo_160_0_Dg rfl) ?_
   refine .q rfl (.load on_2_A rfl (by first | assumption | exact Mem.of_get h 0 _ rfl)) ?_
   refine .q rfl (.cmp rfl rfl rfl) (.mv rfl (.nil (l _ _ ?_)))
   refine .ret ?_
   refine f _ _ ?_
   refine ⟨_, rfl, ?_⟩
   exact ⟨c, _, rfl⟩
  try simp only [sps] at h9
  refine .skip ?_
  refine p _ _ (.seq (fun K5 u => .seq (fun K6 s => .region (.q rfl (.fieldAddr fo_160_1_Dg rfl) ?_))))
  refine .q rfl (.load on_2_A rfl (by first | assumption | exact Mem.of_get g 1 _ rfl)) ?_
  refine .q rfl (.fieldAddr fo_160_1_Dg rfl) ?_
  refine .q rfl (.load on_2_A rfl (by first | assumption | exact Mem.of_get h 1 _ rfl)) ?_
  refine .q rfl (.cmp rfl rfl rfl) (.nil (s _ _ ?_))
  refine .cond rfl (fun j => ?_) (fun j => ?_)
  ·
   try simp only [sps] at j
   refine .seq (fun K7 o => .region (.q rfl (.fieldAddr fo_160_1_Dg rfl) ?_))
   refine .q rfl (.load on_2_A rfl (by first | assumption | exact Mem.of_get g 1 _ rfl)) ?_
   refine .q rfl (.fieldAddr fo_160_1_Dg rfl) ?_
   refine .q rfl (.load on_2_A rfl (by first | assumption | exact Mem.of_get h 1 _ rfl)) ?_
   refine .q rfl (.cmp rfl rfl rfl) (.mv rfl (.nil (o _ _ ?_)))
   refine .ret ?_
   refine f _ _ ?_
   refine ⟨_, rfl, ?_⟩
   exact ⟨c, _, rfl⟩
  try simp only [sps] at j
  refine .skip ?_
  refine u _ _ (.seq (fun K8 r => .region (.q rfl (.fieldAddr fo_160_2_Dg rfl) ?_)))
  refine .q rfl (.load on_22_B rfl (by first | assumption | exact Mem.of_get g 2 _ rfl)) ?_
  refine .q rfl (.fieldAddr fo_160_2_Dg rfl) ?_
  refine .q rfl (.load on_22_B rfl (by first | assumption | exact Mem.of_get h 2 _ rfl)) ?_
  refine .call rfl rfl rfl rfl @Try.call156 rfl (l01Less_c) ?_
  rintro _ H29 ⟨i, q29, rfl⟩
  replace c := c.trans i
  refine .mv rfl (.nil (r _ _ ?_))
  refine .ret ?_
  refine f _ _ ?_
  refine ⟨_, rfl, ?_⟩
  exact ⟨c, _, rfl⟩
end Go.Proofs.Ytjdedelneppnlaa
namespace Go.Proofs.Ytjdedelneppnlaa
open Go Go.GL Go.RowKit Go.Proofs
theorem sl_157_Di : sliceT Try.prog 157 = some (160, 3) := by kernel_rfl
theorem ze_160_Di : zeroT Try.prog 160 = some ([.int .i64 0, .int .i64 0, .slice none 0 0], 3) := by kernel_rfl
theorem bt_160_Di : buildT Try.prog 160 = some ([.int .i64 0, .int .i64 0, .slice none 0 0], [(0, 1), (1, 1), (2, 1)]) := by kernel_rfl
theorem by_160_Di : (Try.prog.info? 160).map (·.bytes) = some 40 := by kernel_rfl
theorem ag_160_Di : aggT Try.prog 160 = some 3 := by kernel_rfl
set_option maxHeartbeats 8000000 in
theorem l03All_c {a b : Option Addr} {xs ys : List Int} {n : Nat} {H : GHeap} (ha : Ints H a xs := by assumption) (hb : Ints H b ys := by assumption) (hl : ys.length = xs.length) (hx : xs.length ≤ 3) (hn : n ≤ 3) (hy : Bd 0 ((n : Int) - 1) ys) (hup : ∀ e, e < xs.length → xs.getD e 0 < ys.getD e 0) :
    GCalls Try.prog 153 [.int .i64 (n : Int), .slice a xs.length xs.length, .slice b ys.length ys.length] H (NewPaths 2 160 ((n : Int) - 1) H) := by
  refine GCalls.body (N := 117) (rs := [.tmp 6]) Try.func153 rfl rfl rfl rfl (fun Qx h6 hend => ?_)
  refine .fg [0, 1, 2] rfl ?_
  have c5 := GHeap.Le.refl H
  have e8 := ha
  have e9 := hb
  refine .seq (fun K1 o8 => .region (.mv rfl (.nil (o8 _ _ (.seq (fun K2 o1 => .region ?_))))))
  refine .R rfl (.litA rfl sl_157_Di ze_160_Di rfl rfl rfl rfl) ?_
  rintro _ n2 ⟨n6, rfl, i6, ge14, j5⟩
  have nx_H14 := i6.1
  replace c5 := c5.trans i6
  have lt_at14 := GHeap.ltg j5
  refine .mv rfl (.nil (o1 _ _ (.seq (fun K3 o7 => .seq (fun K4 n9 => .region (.mv rfl (.nil (n9 _ _ ?_))))))))
  refine .block ?_
  refine .loopR (σ := Nat × List Pth × Nat × Nat) [(0, some _), (1, some _), (2, some _)] (fun (x, ps, d7, f5) => [(8, some (.int .i64 (x : Int))), (7, some (.slice (some ⟨d7, 0, none⟩) f5 f5))]) (fun (x, ps, d7, f5) H' => St [n6] n2 H' ∧ H'.get d7 = some (.row (pcells ps) 160 true) ∧ PL d7 n6 n2.next ∧ f5 = ps.length ∧ (x ≤ n ∧ ps.length = x ∧ pws ps ≤ pwn x) ∧ PthOk H.next 2 ((n : Int) - 1) H' ps) (fun (x, ps, d7, f5) => n - x) ((0, [], _, _)) ⟨rfl, rfl, rfl, trivial⟩ ⟨rfl, rfl, trivial⟩ ?_ ?_
  ·
   refine ⟨.refl _ _, by assumption, ⟨.inl rfl⟩, by rfl, ?_⟩
   exact ⟨⟨by omega, rfl, Nat.le_refl _⟩, .nil _ _ _ _⟩
  rintro ⟨x, ps, d7, f5⟩ HL1 ⟨b6, d, h7, ln_L7, hI⟩ KL1 l2
  refine .forget (fr' := [(8, some (.int .i64 (x : Int))), (7, some (.slice (some ⟨d7, 0, none⟩) f5 f5)), (0, some _), (1, some _), (2, some _)]) ⟨rfl, rfl, rfl, rfl, rfl, trivial⟩ ?_
  have ge_L7 : H.next ≤ d7 := h7.ge (by omega) (by omega)
  have nx_HL1 := b6.nx
  replace c5 := c5.st b6 (fun k hk => ⟨by omega, trivial⟩)
  have d9 := GHeap.ltg d
  have rk := St.refl [d7] HL1
  obtain ⟨⟨hxn, hpl, hw⟩, hP⟩ := hI
  have htl := pcells_len ps
  have b7 := d
  refine .seq (fun K5 n8 => .seq (fun K6 o2 => .region (.mv rfl (.mv rfl (.q rfl (.cmp rfl rfl rfl) (.nil (o2 _ _ ?_)))))))
  refine .cond rfl (fun j3 => ?_) (fun j3 => ?_)
  ·
   simp only [sps] at j3
   refine .skip ?_
   refine n8 _ _ (.seq (fun K7 p0 => ?_))
   refine .block ?_
   refine .region (.mv rfl (.mv rfl (.mv rfl ?_)))
   refine .R rfl (.litA rfl sl_22_A ze_2_L rfl rfl rfl rfl) ?_
   rintro _ o6 ⟨n5, rfl, g7, ge23, d1⟩
   replace b6 := b6.le g7
   replace rk := rk.le g7
   replace d := g7.2 _ _ d
   have lt_at23 := GHeap.ltg d1
   replace d1 : GHeap.get o6 n5 = some (.row (ints []) 2 true) := d1
   refine .q rfl (.build bt_160_Di rfl rfl rfl) ?_
   refine .R rfl (.litA rfl sl_157_Di ze_160_Di rfl rfl rfl rfl) ?_
   rintro _ H25 ⟨g25, rfl, f1, ge25, j1⟩
   replace b6 := b6.le f1
   replace rk := rk.le f1
   replace d := f1.2 _ _ d
   replace d1 := f1.2 _ _ d1
   have lt_at25 := GHeap.ltg j1
   refine .R rfl (.appendV rfl sl_157_Di ze_160_Di rfl by_160_Di sl_157_Di rfl rfl (by assumption) (by assumption) (by first | omega | (simp <;> omega)) rfl rfl (by omega) (by omega)) ?_
   rintro _ H26 ⟨g26, rfl, f8, ge26, at26⟩
   replace b6 := b6.sP f8
   replace rk := rk.sP f8
   replace d1 := f8.s d1
   refine .mv rfl (.nil (p0 _ _ (.region (.mv rfl ?_))))
   refine .q rfl (.add rfl rfl rfl (by omega) (by omega)) ?_
   refine .mv rfl (.nil ?_)
   refine l2 ((x + 1, ps ++ [⟨(x : Int), (x : Int), [], n5⟩], _, _)) _ _ ?_ ?_ ⟨rfl, rfl, rfl, rfl, rfl, trivial⟩
   ·
    refine ⟨b6, by (rw [pcells_snoc]; assumption), by exact ⟨.inr (by omega)⟩, by (simp only [List.length_append, List.length_cons, List.length_nil] <;> omega), ?_⟩
    exact ⟨⟨by omega, by simp; omega, by rw [pws_snoc, ← pwn_succ (by omega)]; exact Nat.add_le_add_right hw _⟩, (hP.keep (rk.lasts1 b7 rfl)).snoc ⟨by simp, by simp; omega⟩ ⟨by simp, by simp; omega⟩ (by simp) (by simp; omega) (by assumption)⟩
   (dsimp only; omega)
  try simp only [sps] at j3
  refine .exit ?_
  refine o7 _ _ (.seq (fun K8 n4 => .seq (fun K9 o4 => .region (.mv rfl (.nil (o4 _ _ ?_))))))
  refine .block ?_
  refine .loopR (σ := Nat × List Pth × Nat × Nat) [(1, some _), (2, some _)] (fun (k, ps, l, a6) => [(9, some (.int .i64 (k : Int))), (7, some (.slice (some ⟨l, 0, none⟩) a6 a6))]) (fun (k, ps, l, a6) H' => St [d7] HL1 H' ∧ H'.get l = some (.row (pcells ps) 160 true) ∧ PL l d7 HL1.next ∧ a6 = ps.length ∧ (k ≤ ps.length ∧ k + pws (ps.drop k) ≤ 18) ∧ PthOk H.next 2 ((n : Int) - 1) H' ps) (fun (k, ps, l, a6) => 60 - k) ((0, ps, _, _)) ⟨rfl, rfl, trivial⟩ ⟨rfl, rfl, trivial⟩ ?_ ?_
  ·
   refine ⟨.refl _ _, by assumption, ⟨.inl rfl⟩, by assumption, ?_⟩
   exact ⟨⟨by omega, by have := pwn_le x; rw [List.drop_zero]; omega⟩, hP⟩
  rintro ⟨k, ps, l, a6⟩ HL2 ⟨d8, at_L7v2, d5, d6, hI⟩ KL2 l8
  refine .forget (fr' := [(9, some (.int .i64 (k : Int))), (7, some (.slice (some ⟨l, 0, none⟩) a6 a6)), (1, some _), (2, some _)]) ⟨rfl, rfl, rfl, rfl, trivial⟩ ?_
  have ge_L7v2 : H.next ≤ l := d5.ge (by omega) (by omega)
  have nx_HL2 := d8.nx
  replace c5 := c5.st d8 (fun k hk => ⟨by omega, trivial⟩)
  obtain ⟨⟨hk, hwk⟩, hP⟩ := hI
  have hpl := pws_len hk hwk
  refine .seq (fun K10 k6 => .seq (fun K11 h8 => .region (.mv rfl (.mv rfl (.q rfl (.len sl_157_Di rfl) (.q rfl (.cmp rfl rfl rfl) (.mv rfl ?_)))))))
  refine .split (fun k8 => ?_) (fun k8 => ?_)
  ·
   simp only [sps] at k8
   refine .qg rfl (.move rfl) (.qg rfl (.len sl_157_Di rfl) (.qg rfl (.cmp rfl rfl rfl) (.q rfl (.pickT rfl rfl) (.nil (h8 _ _ ?_)))))
   refine .cond rfl (fun m7 => ?_) (fun m7 => ?_)
   ·
    simp only [sps] at m7
    refine .skip ?_
    refine k6 _ _ (.seq (fun K12 k4 => ?_))
    refine .block ?_
    refine .seq (fun K13 j7 => .region (.mv rfl (.nil (j7 _ _ ?_))))
    refine .block ?_
    refine .loopR (σ := Nat × List Pth × Nat × Nat) [(1, some _), (2, some _), (9, some _), (32, some _), (33, some _), (34, some _)] (fun (e, p2, a0, a5) => [(10, some (.int .i64 (e : Int))), (7, some (.slice (some ⟨a0, 0, none⟩) a5 a5))]) (fun (e, p2, a0, a5) H' => St [l] HL2 H' ∧ H'.get a0 = some (.row (pcells p2) 160 true) ∧ PL a0 l HL2.next ∧ a5 = p2.length ∧ (e ≤ xs.length ∧ ps.length ≤ p2.length ∧ p2.getD k pz = ps.getD k pz ∧ k + 1 + pws (p2.drop (k + 1)) + 3 * ((pw (ps.getD k pz).t - 1) / 3) ≤ 18 + e * ((pw (ps.getD k pz).t - 1) / 3)) ∧ PthOk H.next 2 ((n : Int) - 1) H' p2) (fun (e, p2, a0, a5) => xs.length - e) ((0, ps, _, _)) ⟨rfl, rfl, rfl, rfl, rfl, rfl, trivial⟩ ⟨rfl, rfl, trivial⟩ ?_ ?_
    ·
     refine ⟨.refl _ _, by assumption, ⟨.inl rfl⟩, by assumption, ?_⟩
     have hd := pws_drop (ps := ps) (k := k) (by omega)
     have h1 := pw_pos (ps.getD k pz).t
     exact ⟨⟨by omega, by omega, rfl, by omega⟩, hP⟩
    rintro ⟨e, p2, a0, a5⟩ HL3 ⟨c9, g, e7, f3, hI⟩ KL3 i5
    refine .forget (fr' := [(10, some (.int .i64 (e : Int))), (7, some (.slice (some ⟨a0, 0, none⟩) a5 a5)), (1, some _), (2, some _), (9, some _), (32, some _), (33, some _), (34, some _)]) ⟨rfl, rfl, rfl, rfl, rfl, rfl, rfl, rfl, trivial⟩ ?_
    have nx_HL3 := c9.nx
    replace c5 := c5.st c9 (fun k hk => ⟨by omega, trivial⟩)
    replace d8 := d8.sQ c9
    have lt_at_L7v3 := GHeap.ltg g
    replace ha := e8.mono c5
    replace hb := e9.mono c5
    obtain ⟨⟨he, hp1, i7, hwe⟩, hP⟩ := hI
    have hl18 : p2.length ≤ 18 := by
      have hB := Nat.mul_le_mul_right ((pw (ps.getD k pz).t - 1) / 3) (show e ≤ 3 by omega)
      exact pws_len (k := k + 1) (by omega) (by omega)
    have htl := pcells_len p2
    refine .seq (fun K14 m0 => .seq (fun K15 k9 => .region (.mv rfl (.mv rfl (.q rfl (.len sl_22_A rfl) (.q rfl (.cmp rfl rfl rfl) (.nil (k9 _ _ ?_))))))))
    refine .cond rfl (fun n1 => ?_) (fun n1 => ?_)
    ·
     simp only [sps] at n1
     refine .skip ?_
     refine m0 _ _ (.seq (fun K16 i4 => ?_))
     refine .block ?_
     refine .seq (fun K17 l7 => ?_)
     refine .regionD mo_B (.q 0 (.q 1 (.q 2 (.q 3 (.q 4 (.q 5 (.q 6 (.q 7 (.q 8 (.q 9 (.done))))))))))) (by kernel_rfl) ?_
     obtain rfl := f3
     have sA := pcells_slA g
     have mk := pcells_mem g (i := k) (by omega)
     refine .mv rfl rfl (.mv rfl rfl ?_)
     refine .q rfl (.idxN sl_22_A (by assumption) rfl rfl (by omega)) ?_
     refine .q rfl (.loadI on_2_A (by assumption) rfl (by omega)) ?_
     refine .mv rfl rfl (.mv rfl rfl ?_)
     refine .q rfl (.idx sl_157_Di (by assumption) (by omega) rfl rfl (by omega) (by omega) rfl) ?_
     refine .q rfl (.fieldAddr fo_160_1_Dg rfl) (.q rfl (.load on_2_A rfl (mk.2 1 _ rfl)) (.q rfl (.cmp rfl rfl rfl) ?_))
     refine .done ?_
     refine l7 _ _ ?_
     refine .cond rfl (fun n3 => ?_) (fun n3 => ?_)
     ·
      simp only [sps] at n3
      have pk := hP.at (i := k) (by omega)
      have iE := Ints.of_get pk.2.2.2.2
      have yb := hy e (by omega)
      have p1 := pk.1
      have hh : ((p2.getD k pz).e ++ [(e : Int)]).length = (p2.getD k pz).e.length + 1 := by rw [List.length_append]; rfl
      refine .regionD mo_B (.q 0 (.q 1 (.q 2 (.q 3 (.q 4 (.q 5 (.q 6 (.q 7 (.q 8 (.q 9 (.q 10 (.q 11 (.q 12 (.q 13 (.q 14 (.q 16 (.or (.c 15 1 (.c 17 1 (.c 18 1 (.q 19 (.c 20 1 (.c 21 0 (.c 22 0 (.done)))))))) (.c 17 1 (.c 15 1 (.c 18 1 (.q 19 (.c 20 1 (.c 21 0 (.c 22 0 (.done))))))))))))))))))))))))) (by kernel_rfl) ?_
      refine .cut [(1, some _), (2, some _), (9, some _), (10, some _), (32, some _), (33, some _), (34, some _), (38, some _), (39, some _), (40, some _), (41, some _), (44, some _), (45, some _), (46, some _), (47, some _), (48, some _), (49, some _), (50, some _), (51, some _), (52, some _), (53, some _)] ⟨rfl, rfl, rfl, rfl, rfl, rfl, rfl, rfl, rfl, rfl, rfl, rfl, rfl, rfl, rfl, rfl, rfl, rfl, rfl, rfl, rfl, trivial⟩ (fun rest fr' H' => ∃ (gE : Nat) (gV : Nat), Sub ((7, some (.slice (some ⟨gV, 0, none⟩) (p2.length + 1) (p2.length + 1))) :: rest) fr' ∧ St [a0] HL3 H' ∧ H'.get gE = some (.row (ints ((p2.getD k pz).e ++ [(e : Int)])) 2 true) ∧ HL3.next ≤ gE ∧ H'.get gV = some (.row (pcells (p2 ++ [⟨(p2.getD k pz).f, ys.getD e 0, (p2.getD k pz).e ++ [(e : Int)], gE⟩])) 160 true) ∧ HL3.next ≤ gV) ?_ ?_
      ·
       have b0 := St.refl [a0] HL3
       refine .qB rfl (.refl _) (.move rfl) (.qB rfl (.refl _) (.move rfl) (.qB rfl (.refl _) (.move rfl) ?_))
       refine .q rfl (.idx sl_157_Di (by assumption) (by omega) rfl rfl (by omega) (by omega) rfl) ?_
       refine .qB rfl (.refl _) (.fieldAddr fo_160_0_Dg rfl) (.q rfl (.load on_2_A rfl (mk.2 0 _ rfl)) (.qB rfl (.refl _) (.move rfl) (.qB rfl (.refl _) (.move rfl) ?_)))
       refine .q rfl (.idxN sl_22_A (by assumption) rfl rfl (by omega)) ?_
       refine .q rfl (.loadI on_2_A (by assumption) rfl (by omega)) ?_
       refine .qB rfl (.refl _) (.move rfl) (.qB rfl (.refl _) (.move rfl) ?_)
       refine .q rfl (.idx sl_157_Di (by assumption) (by omega) rfl rfl (by omega) (by omega) rfl) ?_
       refine .qB rfl (.refl _) (.fieldAddr fo_160_2_Dg rfl) (.q rfl (.load on_22_B rfl (mk.2 2 _ rfl)) (.qB rfl (.refl _) (.move rfl) ?_))
       refine .orI ?_ ?_
       ·
        refine .call1 rfl rfl rfl rfl rfl @Try.call92 rfl (l01Own_c (by first | exact iE | exact Ints.mono iE (by assumption))) ?_
        rintro _ H69 ⟨g8, g69, rfl, g1, ge69⟩
        have a8 := g8
        refine ⟨a8, ?_⟩
        replace b0 := b0.le g8
        replace g := g8.2 _ _ g
        have lt_at69 := GHeap.ltg g1
        refine .c1 rfl rfl rfl rfl (.litA rfl sl_22_A ze_2_L rfl rfl rfl rfl) ?_
        rintro _ H71 ⟨g71, rfl, f4, ge71, j0⟩
        replace a8 := a8.trans f4
        refine ⟨a8, ?_⟩
        replace b0 := b0.le f4
        replace g := f4.2 _ _ g
        replace g1 := f4.2 _ _ g1
        have lt_at71 := GHeap.ltg j0
        refine .c1 rfl rfl rfl rfl (.appendI rfl sl_22_A ze_2_L rfl by_2_L sl_22_A rfl rfl (by assumption) (by assumption) (by first | omega | (simp <;> omega)) (by omega) (by omega)) ?_
        rintro _ H72 ⟨g72, rfl, f9, ge72, e4⟩
        replace a8 := a8.st f9 (fun k hk => ⟨by omega, trivial⟩)
        refine ⟨a8, ?_⟩
        replace b0 := b0.sA f9
        replace g := f9.s g
        have lt_at72 := GHeap.ltg e4
        refine .qB rfl a8 (.build bt_160_Di rfl rfl rfl) ?_
        refine .c1 rfl rfl rfl rfl (.litA rfl sl_157_Di ze_160_Di rfl rfl rfl rfl) ?_
        rintro _ H74 ⟨g74, rfl, e6, ge74, j4⟩
        replace a8 := a8.trans e6
        refine ⟨a8, ?_⟩
        replace b0 := b0.le e6
        replace g := e6.2 _ _ g
        replace e4 := e6.2 _ _ e4
        have lt_at74 := GHeap.ltg j4
        refine .c0 rfl rfl rfl rfl (.appendV rfl sl_157_Di ze_160_Di rfl by_160_Di sl_157_Di rfl rfl (by assumption) (by assumption) (by first | omega | (simp <;> omega)) rfl rfl (by omega) (by omega)) ?_
        rintro _ H75 ⟨g75, rfl, h4, ge75, at75⟩
        replace b0 := b0.sQ h4
        replace e4 := h4.s e4
        refine .d0 rfl rfl rfl rfl (.quiet (.assign rfl) CIs.mk) ?_
        refine .done ?_
        exact ⟨_, _, ⟨rfl, rfl, rfl, rfl, rfl, rfl, rfl, rfl, rfl, rfl, rfl, rfl, rfl, rfl, rfl, rfl, rfl, rfl, rfl, rfl, rfl, rfl, trivial⟩, b0, by assumption, by omega, by (rw [pcells_snoc]; unfold Pth.cs; dsimp only; rw [hh]; assumption), by omega⟩
       refine .c1 rfl rfl rfl rfl (.litA rfl sl_22_A ze_2_L rfl rfl rfl rfl) ?_
       rintro _ H71x2 ⟨g71x2, rfl, d2, ge71x2, c6⟩
       have a8 := d2
       refine ⟨a8, ?_⟩
       replace b0 := b0.le d2
       replace g := d2.2 _ _ g
       have lt_at71x2 := GHeap.ltg c6
       refine .call1 rfl rfl rfl rfl rfl @Try.call92 rfl (l01Own_c (by first | exact iE | exact Ints.mono iE (by assumption))) ?_
       rintro _ H69x2 ⟨b5, g69x2, rfl, g6, ge69x2⟩
       replace a8 := a8.trans b5
       refine ⟨a8, ?_⟩
       replace b0 := b0.le b5
       replace g := b5.2 _ _ g
       replace c6 := b5.2 _ _ c6
       have lt_at69x2 := GHeap.ltg g6
       refine .c1 rfl rfl rfl rfl (.appendI rfl sl_22_A ze_2_L rfl by_2_L sl_22_A rfl rfl (by assumption) (by assumption) (by first | omega | (simp <;> omega)) (by omega) (by omega)) ?_
       rintro _ H72x2 ⟨g72x2, rfl, c7, ge72x2, a7⟩
       replace a8 := a8.st c7 (fun k hk => ⟨by omega, trivial⟩)
       refine ⟨a8, ?_⟩
       replace b0 := b0.sA c7
       replace g := c7.s g
       have lt_at72x2 := GHeap.ltg a7
       refine .qB rfl a8 (.build bt_160_Di rfl rfl rfl) ?_
       refine .c1 rfl rfl rfl rfl (.litA rfl sl_157_Di ze_160_Di rfl rfl rfl rfl) ?_
       rintro _ H74x2 ⟨g74x2, rfl, b3, ge74x2, g5⟩
       replace a8 := a8.trans b3
       refine ⟨a8, ?_⟩
       replace b0 := b0.le b3
       replace g := b3.2 _ _ g
       replace a7 := b3.2 _ _ a7
       have lt_at74x2 := GHeap.ltg g5
       refine .c0 rfl rfl rfl rfl (.appendV rfl sl_157_Di ze_160_Di rfl by_160_Di sl_157_Di rfl rfl (by assumption) (by assumption) (by first | omega | (simp <;> omega)) rfl rfl (by omega) (by omega)) ?_
       rintro _ H75x2 ⟨g75x2, rfl, e2, ge75x2, at75x2⟩
       replace b0 := b0.sQ e2
       replace a7 := e2.s a7
       refine .d0 rfl rfl rfl rfl (.quiet (.assign rfl) CIs.mk) ?_
       refine .done ?_
       exact ⟨_, _, ⟨rfl, rfl, rfl, rfl, rfl, rfl, rfl, rfl, rfl, rfl, rfl, rfl, rfl, rfl, rfl, rfl, rfl, rfl, rfl, rfl, rfl, rfl, trivial⟩, b0, by assumption, by omega, by (rw [pcells_snoc]; unfold Pth.cs; dsimp only; rw [hh]; assumption), by omega⟩
      rintro fr913 j2 ⟨h2, gV13, f0, f6, aE, ge913, i0, gv913⟩
      have hpu := pw_up (t := (ps.getD k pz).t) (u := ys.getD e 0) (by rw [← i7]; exact pk.2.1.1) (by rw [← i7]; have := hup e (by omega); omega) (by omega)
      obtain ⟨p3, j8, o0, m4, n7, m6⟩ : ∃ p3, p3 = p2 ++ [⟨(p2.getD k pz).f, ys.getD e 0, (p2.getD k pz).e ++ [(e : Int)], h2⟩] ∧ p3.length = p2.length + 1 ∧ p3.getD k pz = p2.getD k pz ∧ pws (p3.drop (k + 1)) ≤ pws (p2.drop (k + 1)) + (pw (ps.getD k pz).t - 1) / 3 ∧ PthOk H.next 2 ((n : Int) - 1) j2 p3 := ⟨_, rfl, by simp, by rw [getD_snoc, if_pos (by omega)], by rw [pws_drop_snoc (by omega)]; dsimp only; omega, PthOk.snoc (p := ⟨(p2.getD k pz).f, ys.getD e 0, (p2.getD k pz).e ++ [(e : Int)], h2⟩) (hP.keep (f6.lasts1 g rfl)) p1 yb (by dsimp only; omega) (by dsimp only; omega) aE⟩
      rw [← j8] at i0
      replace c9 := c9.sQ f6
      refine i4 _ _ ?_
      refine .forget f0 ?_
      refine .region (.mv rfl ?_)
      refine .q rfl (.add rfl rfl rfl (by omega) (by omega)) ?_
      refine .mv rfl (.nil ?_)
      refine i5 ((e + 1, p3, _, _)) _ _ ?_ ?_ ⟨rfl, rfl, rfl, rfl, rfl, rfl, rfl, rfl, trivial⟩
      ·
       refine ⟨c9, by assumption, by exact ⟨.inr (by omega)⟩, by omega, ?_⟩
       have e1 := sm e ((pw (ps.getD k pz).t - 1) / 3)
       exact ⟨⟨by omega, by omega, by rw [m4, i7], by omega⟩, m6⟩
      (dsimp only; omega)
     obtain ⟨p3, j8, o0, m4, n7, m6⟩ : ∃ p3, p3 = p2 ∧ p3.length = p2.length ∧ p3.getD k pz = p2.getD k pz ∧ pws (p3.drop (k + 1)) ≤ pws (p2.drop (k + 1)) + (pw (ps.getD k pz).t - 1) / 3 ∧ PthOk H.next 2 ((n : Int) - 1) HL3 p3 := ⟨_, rfl, rfl, rfl, by omega, hP⟩
     refine .skip ?_
     refine i4 _ _ (.region (.mv rfl ?_))
     refine .q rfl (.add rfl rfl rfl (by omega) (by omega)) ?_
     refine .mv rfl (.nil ?_)
     refine i5 ((e + 1, p3, _, _)) _ _ ?_ ?_ ⟨rfl, rfl, rfl, rfl, rfl, rfl, rfl, rfl, trivial⟩
     ·
      refine ⟨c9, by (rw [j8]; assumption), by assumption, by omega, ?_⟩
      have e1 := sm e ((pw (ps.getD k pz).t - 1) / 3)
      exact ⟨⟨by omega, by omega, by rw [m4, i7], by omega⟩, m6⟩
     (dsimp only; omega)
    try simp only [sps] at n1
    refine .exit ?_
    refine k4 _ _ (.region (.mv rfl ?_))
    refine .q rfl (.add rfl rfl rfl (by omega) (by omega)) ?_
    refine .mv rfl (.nil ?_)
    refine l8 ((k + 1, p2, _, _)) _ _ ?_ ?_ ⟨rfl, rfl, rfl, rfl, trivial⟩
    ·
     refine ⟨d8, by assumption, by exact e7.trans d5 (by omega), by omega, ?_⟩
     have hB := Nat.mul_le_mul_right ((pw (ps.getD k pz).t - 1) / 3) (show e ≤ 3 by omega)
     exact ⟨⟨by omega, by omega⟩, hP⟩
    (dsimp only; omega)
   try simp only [sps] at m7
   refine .exit ?_
   refine n4 _ _ (.seq (fun K18 l3 => .seq (fun K19 j6 => .region ?_)))
   obtain rfl := d6
   refine .mv rfl (.nil (j6 _ _ ?_))
   refine .block ?_
   refine .loopR (σ := Nat × List Pth) [(7, some _)] (fun (i, q4) => [(11, some (.int .i64 (i : Int)))]) (fun (i, q4) H' => St [l] HL2 H' ∧ H'.get l = some (.row (pcells q4) 160 true) ∧ (i ≤ 44 ∧ q4.length = ps.length) ∧ PthOk H.next 2 ((n : Int) - 1) H' q4) (fun (i, q4) => 60 - i) ((1, ps)) ⟨rfl, trivial⟩ ⟨rfl, trivial⟩ ?_ ?_
   ·
    refine ⟨.refl _ _, by assumption, ?_⟩
    exact ⟨⟨by omega, by omega⟩, hP⟩
   rintro ⟨i, q4⟩ HL4 ⟨v, d, hI⟩ KL4 e3
   refine .forget (fr' := [(11, some (.int .i64 (i : Int))), (7, some _)]) ⟨rfl, rfl, trivial⟩ ?_
   replace c5 := c5.st v (fun k hk => ⟨by omega, trivial⟩)
   obtain ⟨⟨o5, hpl⟩, hP⟩ := hI
   refine .seq (fun K20 l5 => .seq (fun K21 k0 => .region (.mv rfl (.mv rfl (.q rfl (.len sl_157_Di rfl) (.q rfl (.cmp rfl rfl rfl) (.nil (k0 _ _ ?_))))))))
   refine .cond rfl (fun f7 => ?_) (fun f7 => ?_)
   ·
    simp only [sps] at f7
    refine .skip ?_
    refine l5 _ _ (.seq (fun K22 i3 => ?_))
    refine .block ?_
    refine .seq (fun K23 k2 => .region (.mv rfl (.mv rfl (.nil (k2 _ _ ?_)))))
    refine .block ?_
    refine .loopR (σ := Nat × List Pth) [(7, some _), (11, some _)] (fun (z, qs) => [(12, some (.int .i64 (z : Int)))]) (fun (z, qs) H' => St [l] HL4 H' ∧ H'.get l = some (.row (pcells qs) 160 true) ∧ (z < qs.length ∧ qs.length = ps.length) ∧ PthOk H.next 2 ((n : Int) - 1) H' qs) (fun (z, qs) => z) ((i, q4)) ⟨rfl, rfl, trivial⟩ ⟨rfl, trivial⟩ ?_ ?_
    ·
     refine ⟨.refl _ _, by assumption, ?_⟩
     exact ⟨⟨by omega, by omega⟩, hP⟩
    rintro ⟨z, qs⟩ HL5 ⟨m, d, hI⟩ KL5 g0
    refine .forget (fr' := [(12, some (.int .i64 (z : Int))), (7, some _), (11, some _)]) ⟨rfl, rfl, rfl, trivial⟩ ?_
    replace v := v.sQ m
    have rk := St.refl [l] HL5
    obtain ⟨⟨hz, hql⟩, hP⟩ := hI
    have b7 := d
    refine .seq (fun K24 i8 => .seq (fun K25 i1 => ?_))
    refine .regionD mo_B (.q 0 (.q 1 (.q 2 (.q 3 (.q 4 (.q 5 (.q 6 (.q 7 (.q 8 (.q 9 (.q 10 (.q 11 (.c 12 0 (.q 13 (.done))))))))))))))) (by kernel_rfl) ?_
    refine .mv rfl rfl (.q rfl (.cmp rfl rfl rfl) (.mv rfl rfl ?_))
    refine .split (fun g2 => ?_) (fun g2 => ?_)
    ·
     simp only [sps] at g2
     obtain ⟨w, rfl⟩ : ∃ w, z = w + 1 := ⟨z - 1, by omega⟩
     have sA := pcells_slA d
     rw [hql] at sA
     have mz := pcells_mem d (i := w + 1) (by omega)
     have mw := pcells_mem d (i := w) (by omega)
     have m3 := hP.at (i := w + 1) (by omega)
     have l6 := hP.at (i := w) (by omega)
     refine .qg rfl (.move rfl) (.qg rfl (.move rfl) ?_)
     refine .qg rfl (.idx sl_157_Di (by assumption) (by omega) rfl rfl (by omega) (by omega) rfl) ?_
     refine .qg rfl (.loadM ag_160_Di rfl (by assumption)) ?_
     refine .qg rfl (.move rfl) (.qg rfl (.move rfl) ?_)
     refine .qg rfl (.sub (r := (w : Int)) rfl rfl (by omega) (by omega) (by omega)) ?_
     refine .qg rfl (.idx sl_157_Di (by assumption) (by omega) rfl rfl (by omega) (by omega) rfl) ?_
     refine .qg rfl (.loadM ag_160_Di rfl (by assumption)) ?_
     refine .call0g rfl rfl rfl rfl rfl rfl rfl @Try.call155 rfl (l03Before_c (Ints.of_get m3.2.2.2.2) (Ints.of_get l6.2.2.2.2) (by omega)) ?_
     rintro _ H95 ⟨f2, q95, rfl⟩
     replace v := v.le f2
     replace m := m.le f2
     replace rk := rk.le f2
     replace d := f2.2 _ _ d
     refine .q rfl (.pickT rfl rfl) ?_
     refine .done ?_
     refine i1 _ _ ?_
     refine .cond rfl (fun g3 => ?_) (fun g3 => ?_)
     ·
      try simp only [sps] at g3
      refine .skip ?_
      refine i8 _ _ (.seq (fun K26 n0 => ?_))
      refine .block ?_
      refine .seq (fun K27 m2 => .region ?_)
      have mz := pcells_mem d (i := w + 1) (by omega)
      have sA := pcells_slA d
      rw [hql] at sA
      refine .mv rfl (.mv rfl ?_)
      refine .q rfl (.idx sl_157_Di (by assumption) (by omega) rfl rfl (by omega) (by omega) rfl) ?_
      refine .q rfl (.loadM ag_160_Di rfl (by assumption)) ?_
      refine .R rfl (.allocR rfl ze_160_Di rfl) ?_
      rintro _ H13 ⟨p4, rfl, g9, ge13, at13⟩
      replace m := m.le g9
      replace rk := rk.le g9
      replace d := g9.2 _ _ d
      refine .r0 rfl rfl (.fillA rfl sz_160_Dg rfl rfl rfl rfl) ?_
      rintro _ H20005 ⟨rfl, b8, c2⟩
      replace m := m.sA b8
      replace rk := rk.sA b8
      have y : NE l p4 := .a
      replace d := b8.s d y.ne
      refine .nil (m2 _ _ (.seq (fun K28 i9 => .region ?_)))
      have mw := pcells_mem d (i := w) (by omega)
      have sA := pcells_slA d
      rw [hql] at sA
      refine .mv rfl (.mv rfl (.mv rfl (.mv rfl ?_)))
      refine .q rfl (.sub (r := (w : Int)) rfl rfl (by omega) (by omega) (by omega)) ?_
      refine .q rfl (.idx sl_157_Di (by assumption) (by omega) rfl rfl (by omega) (by omega) rfl) ?_
      refine .q rfl (.loadM ag_160_Di rfl (by assumption)) ?_
      refine .q rfl (.idx sl_157_Di (by assumption) (by omega) rfl rfl (by omega) (by omega) rfl) ?_
      refine .r0 rfl rfl (.storeNR rfl sz_160_Dg rfl rfl rfl rfl (by assumption) (by rw [pcells_len]; simp; omega)) ?_
      rintro _ e0 ⟨rfl, b4, b9⟩
      replace m := m.sQ b4
      replace rk := rk.sQ b4
      replace c2 := b4.s c2 (Ne.symm y.ne)
      obtain ⟨q5, i2, g4, o3⟩ : ∃ q5, q5 = qs.set (w + 1) (qs.getD w pz) ∧ q5.length = qs.length ∧ PthOk H.next 2 ((n : Int) - 1) e0 q5 := ⟨_, rfl, by simp, (hP.keep (rk.lasts1 b7 rfl)).set (by omega)⟩
      replace b9 : GHeap.get e0 l = some (.row (pcells q5) 160 true) := by
        have hx := b9
        simp only [Int.toNat_natCast, Nat.zero_add] at hx
        rw [i2, ← pcells_set _ (by omega)]
        exact hx
      have sA := pcells_slA b9
      rw [g4, hql] at sA
      refine .nil (i9 _ _ (.region (.mv rfl (.mv rfl ?_))))
      refine .q rfl (.sub (r := (w : Int)) rfl rfl (by omega) (by omega) (by omega)) ?_
      refine .q rfl (.loadM ag_160_Di rfl ⟨rfl, Mem.of_get c2⟩) ?_
      refine .q rfl (.idx sl_157_Di (by assumption) (by omega) rfl rfl (by omega) (by omega) rfl) ?_
      refine .r0 rfl rfl (.storeNR rfl sz_160_Dg rfl rfl rfl rfl (by assumption) (by rw [pcells_len]; simp; omega)) ?_
      rintro _ e5 ⟨rfl, d4, d3⟩
      replace m := m.sQ d4
      replace rk := rk.sQ d4
      obtain ⟨q6, k5, o9, m9⟩ : ∃ q6, q6 = q5.set w (qs.getD (w + 1) pz) ∧ q6.length = qs.length ∧ PthOk H.next 2 ((n : Int) - 1) e5 q6 := ⟨_, rfl, by simp; omega, fun p hp => by
        rcases List.mem_or_eq_of_mem_set hp with h | rfl
        · have h9 := (hP.keep (rk.lasts1 b7 rfl)).set (i := w + 1) (j := w) (by omega) p (by rw [← i2]; exact h)
          rw [List.length_set] at h9 ⊢
          rw [g4]
          exact h9
        · have h9 := (hP.keep (rk.lasts1 b7 rfl)).at (i := w + 1) (by omega)
          rw [List.length_set, g4]
          exact h9⟩
      replace d3 : GHeap.get e5 l = some (.row (pcells q6) 160 true) := by
        have hx := d3
        simp only [Int.toNat_natCast, Nat.zero_add] at hx
        rw [k5, ← pcells_set _ (by omega)]
        exact hx
      refine .nil (n0 _ _ (.region (.mv rfl ?_)))
      refine .q rfl (.sub (r := (w : Int)) rfl rfl (by omega) (by omega) (by omega)) ?_
      refine .mv rfl (.nil ?_)
      refine g0 ((w, q6)) _ _ ?_ ?_ ⟨rfl, rfl, rfl, trivial⟩
      ·
       refine ⟨m, by assumption, ?_⟩
       exact ⟨⟨by omega, by omega⟩, m9⟩
      (dsimp only; omega)
     try simp only [sps] at g3
     refine .exit ?_
     refine i3 _ _ (.region (.mv rfl ?_))
     refine .q rfl (.add rfl rfl rfl (by omega) (by omega)) ?_
     refine .mv rfl (.nil ?_)
     refine e3 ((i + 1, qs)) _ _ ?_ ?_ ⟨rfl, rfl, trivial⟩
     ·
      refine ⟨v, by assumption, ?_⟩
      exact ⟨⟨by omega, by omega⟩, by first | exact hP | exact hP.keep (.of_le (by assumption))⟩
     (dsimp only; omega)
    try simp only [sps] at g2
    refine .z rfl (.z rfl (.z rfl (.z rfl (.z rfl (.z rfl (.z rfl (.z rfl (.z rfl (.sgc rfl rfl rfl rfl rfl rfl (.q rfl (.pickF rfl rfl) ?_))))))))))
    refine .done ?_
    refine i1 _ _ ?_
    refine .condF rfl ?_
    refine .exit ?_
    refine i3 _ _ (.region (.mv rfl ?_))
    refine .q rfl (.add rfl rfl rfl (by omega) (by omega)) ?_
    refine .mv rfl (.nil ?_)
    refine e3 ((i + 1, qs)) _ _ ?_ ?_ ⟨rfl, rfl, trivial⟩
    ·
     refine ⟨v, by assumption, ?_⟩
     exact ⟨⟨by omega, by omega⟩, by first | exact hP | exact hP.keep (.of_le (by assumption))⟩
    (dsimp only; omega)
   try simp only [sps] at f7
   refine .exit ?_
   refine l3 _ _ (.seq (fun K29 l9 => .region (.mv rfl (.mv rfl (.nil (l9 _ _ ?_))))))
   refine .ret ?_
   refine h6 _ _ ?_
   refine ⟨_, rfl, ?_⟩
   exact ⟨c5, l, q4, by rw [‹q4.length = _›], by omega, by assumption, hP, by omega⟩
  try simp only [sps] at k8
  refine .z rfl (.z rfl (.z rfl (.q rfl (.pickF rfl rfl) (.nil (h8 _ _ ?_)))))
  refine .condF rfl ?_
  refine .exit ?_
  refine n4 _ _ (.seq (fun K30 l4 => .seq (fun K31 m5 => .region ?_)))
  obtain rfl := d6
  refine .mv rfl (.nil (m5 _ _ ?_))
  refine .block ?_
  refine .loopR (σ := Nat × List Pth) [(7, some _)] (fun (i, q4) => [(11, some (.int .i64 (i : Int)))]) (fun (i, q4) H' => St [l] HL2 H' ∧ H'.get l = some (.row (pcells q4) 160 true) ∧ (i ≤ 44 ∧ q4.length = ps.length) ∧ PthOk H.next 2 ((n : Int) - 1) H' q4) (fun (i, q4) => 60 - i) ((1, ps)) ⟨rfl, trivial⟩ ⟨rfl, trivial⟩ ?_ ?_
  ·
   refine ⟨.refl _ _, by assumption, ?_⟩
   exact ⟨⟨by omega, by omega⟩, hP⟩
  rintro ⟨i, q4⟩ HL4 ⟨v, d, hI⟩ KL4 e3
  refine .forget (fr' := [(11, some (.int .i64 (i : Int))), (7, some _)]) ⟨rfl, rfl, trivial⟩ ?_
  replace c5 := c5.st v (fun k hk => ⟨by omega, trivial⟩)
  obtain ⟨⟨o5, hpl⟩, hP⟩ := hI
  refine .seq (fun K32 k3 => .seq (fun K33 m1 => .region (.mv rfl (.mv rfl (.q rfl (.len sl_157_Di rfl) (.q rfl (.cmp rfl rfl rfl) (.nil (m1 _ _ ?_))))))))
  refine .cond rfl (fun f7 => ?_) (fun f7 => ?_)
  ·
   simp only [sps] at f7
   refine .skip ?_
   refine k3 _ _ (.seq (fun K34 h5 => ?_))
   refine .block ?_
   refine .seq (fun K35 k1 => .region (.mv rfl (.mv rfl (.nil (k1 _ _ ?_)))))
   refine .block ?_
   refine .loopR (σ := Nat × List Pth) [(7, some _), (11, some _)] (fun (z, qs) => [(12, some (.int .i64 (z : Int)))]) (fun (z, qs) H' => St [l] HL4 H' ∧ H'.get l = some (.row (pcells qs) 160 true) ∧ (z < qs.length ∧ qs.length = ps.length) ∧ PthOk H.next 2 ((n : Int) - 1) H' qs) (fun (z, qs) => z) ((i, q4)) ⟨rfl, rfl, trivial⟩ ⟨rfl, trivial⟩ ?_ ?_
   ·
    refine ⟨.refl _ _, by assumption, ?_⟩
    exact ⟨⟨by omega, by omega⟩, hP⟩
   rintro ⟨z, qs⟩ HL5 ⟨m, d, hI⟩ KL5 g0
   refine .forget (fr' := [(12, some (.int .i64 (z : Int))), (7, some _), (11, some _)]) ⟨rfl, rfl, rfl, trivial⟩ ?_
   have nx_HL5 := m.nx
   replace v := v.sQ m
   have d9 := GHeap.ltg d
   have rk := St.refl [l] HL5
   obtain ⟨⟨hz, hql⟩, hP⟩ := hI
   have b7 := d
   refine .seq (fun K36 j9 => .seq (fun K37 h0 => ?_))
   refine .regionD mo_B (.q 0 (.q 1 (.q 2 (.q 3 (.q 4 (.q 5 (.q 6 (.q 7 (.q 8 (.q 9 (.q 10 (.q 11 (.c 12 0 (.q 13 (.done))))))))))))))) (by kernel_rfl) ?_
   refine .mv rfl rfl (.q rfl (.cmp rfl rfl rfl) (.mv rfl rfl ?_))
   refine .split (fun g2 => ?_) (fun g2 => ?_)
   ·
    simp only [sps] at g2
    obtain ⟨w, rfl⟩ : ∃ w, z = w + 1 := ⟨z - 1, by omega⟩
    have sA := pcells_slA d
    rw [hql] at sA
    have mz := pcells_mem d (i := w + 1) (by omega)
    have mw := pcells_mem d (i := w) (by omega)
    have m3 := hP.at (i := w + 1) (by omega)
    have l6 := hP.at (i := w) (by omega)
    refine .qg rfl (.move rfl) (.qg rfl (.move rfl) ?_)
    refine .qg rfl (.idx sl_157_Di (by assumption) (by omega) rfl rfl (by omega) (by omega) rfl) ?_
    refine .qg rfl (.loadM ag_160_Di rfl (by assumption)) ?_
    refine .qg rfl (.move rfl) (.qg rfl (.move rfl) ?_)
    refine .qg rfl (.sub (r := (w : Int)) rfl rfl (by omega) (by omega) (by omega)) ?_
    refine .qg rfl (.idx sl_157_Di (by assumption) (by omega) rfl rfl (by omega) (by omega) rfl) ?_
    refine .qg rfl (.loadM ag_160_Di rfl (by assumption)) ?_
    refine .call0g rfl rfl rfl rfl rfl rfl rfl @Try.call155 rfl (l03Before_c (Ints.of_get m3.2.2.2.2) (Ints.of_get l6.2.2.2.2) (by omega)) ?_
    rintro _ H95x2 ⟨a9, q95x2, rfl⟩
    have nx_H95x2 := a9.1
    replace v := v.le a9
    replace m := m.le a9
    replace rk := rk.le a9
    replace d := a9.2 _ _ d
    refine .q rfl (.pickT rfl rfl) ?_
    refine .done ?_
    refine h0 _ _ ?_
    refine .cond rfl (fun g3 => ?_) (fun g3 => ?_)
    ·
     try simp only [sps] at g3
     refine .skip ?_
     refine j9 _ _ (.seq (fun K38 m8 => ?_))
     refine .block ?_
     refine .seq (fun K39 l1 => .region ?_)
     have mz := pcells_mem d (i := w + 1) (by omega)
     have sA := pcells_slA d
     rw [hql] at sA
     refine .mv rfl (.mv rfl ?_)
     refine .q rfl (.idx sl_157_Di (by assumption) (by omega) rfl rfl (by omega) (by omega) rfl) ?_
     refine .q rfl (.loadM ag_160_Di rfl (by assumption)) ?_
     refine .R rfl (.allocR rfl ze_160_Di rfl) ?_
     rintro _ H13x2 ⟨h3, rfl, c8, ge13x2, at13x2⟩
     replace m := m.le c8
     replace rk := rk.le c8
     replace d := c8.2 _ _ d
     refine .r0 rfl rfl (.fillA rfl sz_160_Dg rfl rfl rfl rfl) ?_
     rintro _ H20005x2 ⟨rfl, a3, a4⟩
     replace m := m.sA a3
     replace rk := rk.sA a3
     have o : NE l h3 := .a
     replace d := a3.s d o.ne
     refine .nil (l1 _ _ (.seq (fun K40 l0 => .region ?_)))
     have mw := pcells_mem d (i := w) (by omega)
     have sA := pcells_slA d
     rw [hql] at sA
     refine .mv rfl (.mv rfl (.mv rfl (.mv rfl ?_)))
     refine .q rfl (.sub (r := (w : Int)) rfl rfl (by omega) (by omega) (by omega)) ?_
     refine .q rfl (.idx sl_157_Di (by assumption) (by omega) rfl rfl (by omega) (by omega) rfl) ?_
     refine .q rfl (.loadM ag_160_Di rfl (by assumption)) ?_
     refine .q rfl (.idx sl_157_Di (by assumption) (by omega) rfl rfl (by omega) (by omega) rfl) ?_
     refine .r0 rfl rfl (.storeNR rfl sz_160_Dg rfl rfl rfl rfl (by assumption) (by rw [pcells_len]; simp; omega)) ?_
     rintro _ c4 ⟨rfl, a1, a2⟩
     replace m := m.sQ a1
     replace rk := rk.sQ a1
     replace a4 := a1.s a4 (Ne.symm o.ne)
     obtain ⟨q5, i2, g4, o3⟩ : ∃ q5, q5 = qs.set (w + 1) (qs.getD w pz) ∧ q5.length = qs.length ∧ PthOk H.next 2 ((n : Int) - 1) c4 q5 := ⟨_, rfl, by simp, (hP.keep (rk.lasts1 b7 rfl)).set (by omega)⟩
     replace a2 : GHeap.get c4 l = some (.row (pcells q5) 160 true) := by
       have hx := a2
       simp only [Int.toNat_natCast, Nat.zero_add] at hx
       rw [i2, ← pcells_set _ (by omega)]
       exact hx
     have sA := pcells_slA a2
     rw [g4, hql] at sA
     refine .nil (l0 _ _ (.region (.mv rfl (.mv rfl ?_))))
     refine .q rfl (.sub (r := (w : Int)) rfl rfl (by omega) (by omega) (by omega)) ?_
     refine .q rfl (.loadM ag_160_Di rfl ⟨rfl, Mem.of_get a4⟩) ?_
     refine .q rfl (.idx sl_157_Di (by assumption) (by omega) rfl rfl (by omega) (by omega) rfl) ?_
     refine .r0 rfl rfl (.storeNR rfl sz_160_Dg rfl rfl rfl rfl (by assumption) (by rw [pcells_len]; simp; omega)) ?_
     rintro _ c3 ⟨rfl, b1, b2⟩
     replace m := m.sQ b1
     replace rk := rk.sQ b1
     obtain ⟨q6, k5, o9, m9⟩ : ∃ q6, q6 = q5.set w (qs.getD (w + 1) pz) ∧ q6.length = qs.length ∧ PthOk H.next 2 ((n : Int) - 1) c3 q6 := ⟨_, rfl, by simp; omega, fun p hp => by
       rcases List.mem_or_eq_of_mem_set hp with h | rfl
       · have h9 := (hP.keep (rk.lasts1 b7 rfl)).set (i := w + 1) (j := w) (by omega) p (by rw [← i2]; exact h)
         rw [List.length_set] at h9 ⊢
         rw [g4]
         exact h9
       · have h9 := (hP.keep (rk.lasts1 b7 rfl)).at (i := w + 1) (by omega)
         rw [List.length_set, g4]
         exact h9⟩
     replace b2 : GHeap.get c3 l = some (.row (pcells q6) 160 true) := by
       have hx := b2
       simp only [Int.toNat_natCast, Nat.zero_add] at hx
       rw [k5, ← pcells_set _ (by omega)]
       exact hx
     refine .nil (m8 _ _ (.region (.mv rfl ?_)))
     refine .q rfl (.sub (r := (w : Int)) rfl rfl (by omega) (by omega) (by omega)) ?_
     refine .mv rfl (.nil ?_)
     refine g0 ((w, q6)) _ _ ?_ ?_ ⟨rfl, rfl, rfl, trivial⟩
     ·
      refine ⟨m, by assumption, ?_⟩
      exact ⟨⟨by omega, by omega⟩, m9⟩
     (dsimp only; omega)
    try simp only [sps] at g3
    refine .exit ?_
    refine h5 _ _ (.region (.mv rfl ?_))
    refine .q rfl (.add rfl rfl rfl (by omega) (by omega)) ?_
    refine .mv rfl (.nil ?_)
    refine e3 ((i + 1, qs)) _ _ ?_ ?_ ⟨rfl, rfl, trivial⟩
    ·
     refine ⟨v, by assumption, ?_⟩
     exact ⟨⟨by omega, by omega⟩, by first | exact hP | exact hP.keep (.of_le (by assumption))⟩
    (dsimp only; omega)
   try simp only [sps] at g2
   refine .z rfl (.z rfl (.z rfl (.z rfl (.z rfl (.z rfl (.z rfl (.z rfl (.z rfl (.sgc rfl rfl rfl rfl rfl rfl (.q rfl (.pickF rfl rfl) ?_))))))))))
   refine .done ?_
   refine h0 _ _ ?_
   refine .condF rfl ?_
   refine .exit ?_
   refine h5 _ _ (.region (.mv rfl ?_))
   refine .q rfl (.add rfl rfl rfl (by omega) (by omega)) ?_
   refine .mv rfl (.nil ?_)
   refine e3 ((i + 1, qs)) _ _ ?_ ?_ ⟨rfl, rfl, trivial⟩
   ·
    refine ⟨v, by assumption, ?_⟩
    exact ⟨⟨by omega, by omega⟩, by first | exact hP | exact hP.keep (.of_le (by assumption))⟩
   (dsimp only; omega)
  try simp only [sps] at f7
  refine .exit ?_
  refine l4 _ _ (.seq (fun K41 k7 => .region (.mv rfl (.mv rfl (.nil (k7 _ _ ?_))))))
  refine .ret ?_
  refine h6 _ _ ?_
  refine ⟨_, rfl, ?_⟩
  exact ⟨c5, l, q4, by rw [‹q4.length = _›], by omega, by assumption, hP, by omega⟩
end Go.Proofs.Ytjdedelneppnlaa
namespace Go.Proofs.Ytjdedelneppnlaa
open Go Go.GL Go.RowKit Go.Proofs
set_option maxHeartbeats 8000000 in
theorem l03Paths_c {a b : Option Addr} {xs ys : List Int} {n : Nat} {H : GHeap} (ha : Ints H a xs := by assumption) (hb : Ints H b ys := by assumption) (hl : ys.length = xs.length) (hx : xs.length ≤ 3) (hn : n ≤ 3) (hy : Bd 0 ((n : Int) - 1) ys) (hup : ∀ e, e < xs.length → xs.getD e 0 < ys.getD e 0) :
    GCalls Try.prog 147 [.int .i64 (n : Int), .slice a xs.length xs.length, .slice b ys.length ys.length] H (NewRc 2 22 18 H) := by
  refine GCalls.body (N := 147) (rs := [.cell 6 29]) Try.func147 rfl rfl rfl rfl (fun Qx l9 hend => ?_)
  refine .fg [0, 1, 2] rfl ?_
  have b0 := GHeap.Le.refl H
  have g4 := ha
  have g5 := hb
  refine .seq (fun K1 q4 => .region ?_)
  refine .R rfl (.allocR rfl ze_29_Hj rfl) ?_
  rintro _ H6 ⟨g6, rfl, p2, ge6, c6⟩
  replace b0 := b0.trans p2
  have lt_at6 := GHeap.ltg c6
  replace ha := g4.mono b0
  replace hb := g5.mono b0
  refine .nil (q4 _ _ (.seq (fun K2 p6 => .region (.mv rfl (.mv rfl (.mv rfl ?_))))))
  refine .call rfl rfl rfl rfl @Try.call153 rfl (l03All_c ha hb hl hx hn hy hup) ?_
  rintro _ m5 ⟨j3, gP, ps, rfl, bP, aP, p7, hp18⟩
  have hK : PthK _ _ _ m5 ps := ⟨p7⟩
  replace b0 := b0.trans j3
  replace c6 := j3.2 _ _ c6
  have lt_aP := GHeap.ltg aP
  have f0 := hK
  have m : Keep H6.next m5 m5 := fun _ _ _ h => h
  refine .mv rfl (.nil (p6 _ _ (.seq (fun K3 q3 => .region (.mv rfl ?_)))))
  refine .R rfl (.litA rfl sl_22_A ze_2_L rfl rfl rfl rfl) ?_
  rintro _ p5 ⟨i1, rfl, g2, ge21, a6⟩
  replace b0 := b0.trans g2
  replace c6 := g2.2 _ _ c6
  replace aP := g2.2 _ _ aP
  replace m := Keep.le m g2
  have lt_at21 := GHeap.ltg a6
  replace a6 : GHeap.get p5 i1 = some (.row (ints []) 2 true) := a6
  refine .R rfl (.litA rfl sl_22_A ze_2_L rfl rfl rfl rfl) ?_
  rintro _ q6 ⟨i0, rfl, f5, ge22, b8⟩
  replace b0 := b0.trans f5
  replace c6 := f5.2 _ _ c6
  replace aP := f5.2 _ _ aP
  replace a6 := f5.2 _ _ a6
  replace m := Keep.le m f5
  have lt_at22 := GHeap.ltg b8
  replace b8 : GHeap.get q6 i0 = some (.row (ints []) 2 true) := b8
  refine .mv rfl ?_
  refine .R rfl (.makeI rfl sl_22_A ze_2_L by_2_L rfl rfl (by omega) (by omega) (by omega) (by omega)) ?_
  rintro _ H24 ⟨d5, rfl, e1, ge24, d9⟩
  have nx_H24 := e1.1
  replace b0 := b0.trans e1
  replace c6 := e1.2 _ _ c6
  replace aP := e1.2 _ _ aP
  replace a6 := e1.2 _ _ a6
  replace b8 := e1.2 _ _ b8
  replace m := Keep.le m e1
  have lt_at24 := GHeap.ltg d9
  simp only [Int.toNat_natCast] at d9
  refine .R rfl (.litA rfl sl_23_B ze_22_Hj rfl rfl rfl rfl) ?_
  rintro _ H25 ⟨f8, rfl, e5, ge25, d6⟩
  replace b0 := b0.trans e5
  replace c6 := e5.2 _ _ c6
  replace aP := e5.2 _ _ aP
  replace a6 := e5.2 _ _ a6
  replace b8 := e5.2 _ _ b8
  replace d9 := e5.2 _ _ d9
  replace m := Keep.le m e5
  have lt_at25 := GHeap.ltg d6
  refine .q rfl (.build bt_29_Hj rfl rfl rfl) ?_
  refine .R rfl (.allocR rfl ze_29_Hj rfl) ?_
  rintro _ H8 ⟨g8, rfl, g1, ge8, at8⟩
  have nx_H8 := g1.1
  replace b0 := b0.trans g1
  replace c6 := g1.2 _ _ c6
  replace aP := g1.2 _ _ aP
  replace a6 := g1.2 _ _ a6
  replace b8 := g1.2 _ _ b8
  replace d9 := g1.2 _ _ d9
  replace d6 := g1.2 _ _ d6
  replace m := Keep.le m g1
  refine .r0 rfl rfl (.fillA rfl sz_29_D rfl rfl rfl rfl) ?_
  rintro _ f4 ⟨rfl, a0, at2008⟩
  have nx_H2008 := a0.nx
  replace b0 := b0.st a0 (fun k hk => ⟨by omega, trivial⟩)
  have a5 : NE g6 g8 := .a
  replace c6 := a0.s c6 a5.ne
  have a2 : NE gP g8 := .a
  replace aP := a0.s aP a2.ne
  replace a6 := a0.s a6
  replace b8 := a0.s b8
  replace d9 := a0.s d9
  have c9 : NE f8 g8 := .a
  replace d6 := a0.s d6 c9.ne
  replace m := Keep.st m a0 (fun k hb hk => ⟨(by omega), trivial⟩)
  refine .nil (q3 _ _ (.seq (fun K4 p1 => .seq (fun K5 p0 => .region (.mv rfl (.nil (p0 _ _ ?_)))))))
  refine .block ?_
  refine .loopR (σ := Nat × List Int × List Int × List Int × Nat × Nat) [(6, some _), (7, some _), (8, some _)] (fun (i, ss, ts, is, gLF, gLT) => [(9, some (.int .i64 (i : Int)))]) (fun (i, ss, ts, is, gLF, gLT) H' => St [i1, i0, d5, g8] f4 H' ∧ H'.get gLF = some (.row (ints ss) 2 true) ∧ PL gLF i1 f4.next ∧ H'.get gLT = some (.row (ints ts) 2 true) ∧ PL gLT i0 f4.next ∧ H'.get d5 = some (.row (ints is) 2 true) ∧ H'.get g8 = some (.row ([.int .i64 (n : Int), .slice (some ⟨gLF, 0, none⟩) i i, .slice (some ⟨gLT, 0, none⟩) i i, .slice (some ⟨d5, 0, none⟩) n n, .slice (some ⟨f8, 0, none⟩) 0 0]) 29 true) ∧ gLF ≠ gLT ∧ gLF ≠ d5 ∧ gLF ≠ g8 ∧ gLT ≠ d5 ∧ gLT ≠ g8 ∧ d5 ≠ g8 ∧ (i ≤ ps.length ∧ ss.length = i ∧ ts.length = i ∧ is.length = n) ∧ Bd 0 18 ss ∧ Bd 0 18 ts ∧ Bd 0 18 is) (fun (i, ss, ts, is, gLF, gLT) => ps.length - i) ((0, [], [], List.replicate n 0, i1, i0)) ⟨rfl, rfl, rfl, trivial⟩ ⟨rfl, trivial⟩ ?_ ?_
  ·
   refine ⟨.refl _ _, by assumption, ⟨.inl rfl⟩, by assumption, ⟨.inl rfl⟩, by assumption, by assumption, by omega, by omega, by omega, by omega, by omega, by omega, ?_⟩
   exact ⟨⟨by omega, rfl, rfl, by simp⟩, .nil _ _, .nil _ _, .rep _ (by omega) (by omega)⟩
  rintro ⟨i, ss, ts, is, gLF, gLT⟩ HL1 ⟨u, a4, c2, r, d2, d, l, k1, i8, h4, j2, f6, e9, hI⟩ KL1 j5
  refine .forget (fr' := [(9, some (.int .i64 (i : Int))), (6, some _), (7, some _), (8, some _)]) ⟨rfl, rfl, rfl, rfl, trivial⟩ ?_
  have ge_LF : H.next ≤ gLF := c2.ge (by omega) (by omega)
  have ge_LT : H.next ≤ gLT := d2.ge (by omega) (by omega)
  have nx_HL1 := u.nx
  replace b0 := b0.st u (fun k hk => ⟨by omega, by omega, by omega, by omega, trivial⟩)
  have c3 : NE g6 i1 := .a
  have b9 : NE g6 i0 := .a
  have c7 : NE g6 d5 := .a
  replace c6 := u.same _ _ ⟨c3.ne, b9.ne, c7.ne, a5.ne, trivial⟩ c6
  have c8 : NE gP i1 := .a
  have c4 : NE gP i0 := .a
  replace aP := u.same _ _ ⟨c8.ne, c4.ne, (by first | assumption | omega), a2.ne, trivial⟩ aP
  have b5 : NE f8 i1 := .a
  have b7 : NE f8 i0 := .a
  have b2 : NE f8 d5 := .a
  replace d6 := u.same _ _ ⟨b5.ne, b7.ne, b2.ne, c9.ne, trivial⟩ d6
  replace m := Keep.st m u (fun k hb hk => ⟨(by omega), (by omega), (by omega), (by omega), trivial⟩)
  replace hK := f0.keep m (Nat.le_refl _)
  have lt_at_LF := GHeap.ltg a4
  have lt_at_LT := GHeap.ltg r
  have lt_at_Lg24 := GHeap.ltg d
  have f2 := GHeap.ltg l
  have hP := hK.ok
  obtain ⟨⟨hi, hsl, htl, hil⟩, hS, hT, hI⟩ := hI
  refine .seq (fun K6 p8 => .seq (fun K7 q5 => .region (.mv rfl (.mv rfl (.q rfl (.len sl_157_Di rfl) (.q rfl (.cmp rfl rfl rfl) (.nil (q5 _ _ ?_))))))))
  refine .cond rfl (fun m2 => ?_) (fun m2 => ?_)
  ·
   simp only [sps] at m2
   have o7 := (hP.at (i := i) (by omega)).1
   have o6 := (hP.at (i := i) (by omega)).2.1
   refine .skip ?_
   refine p8 _ _ (.seq (fun K8 o3 => ?_))
   refine .block ?_
   refine .seq (fun K9 p9 => ?_)
   refine .regionD mo_B (.q 0 (.q 1 (.q 2 (.q 3 (.q 4 (.q 5 (.q 6 (.c 7 1 (.c 8 0 (.q 9 (.c 10 0 (.done)))))))))))) (by kernel_rfl) ?_
   have sA := pcells_slA aP
   have mk := pcells_mem aP (i := i) (by omega)
   refine .q rfl (.fieldAddr fo_29_1_B rfl) ?_
   refine .q rfl (.load on_22_B rfl (by first | assumption | exact Mem.of_get l 1 _ rfl)) ?_
   refine .mv rfl rfl (.mv rfl rfl ?_)
   refine .q rfl (.idx sl_157_Di (by assumption) (by omega) rfl rfl (by omega) (by omega) rfl) ?_
   refine .q rfl (.fieldAddr fo_160_0_Dg rfl) (.q rfl (.load on_2_A rfl (mk.2 0 _ rfl)) ?_)
   refine .c1 rfl rfl rfl rfl (.litA rfl sl_22_A ze_2_L rfl rfl rfl rfl) ?_
   rintro _ H40 ⟨g40, rfl, e3, ge40, l2⟩
   have j6 := e3
   refine ⟨j6, ?_⟩
   replace u := u.le e3
   replace aP := e3.2 _ _ aP
   replace a4 := e3.2 _ _ a4
   replace r := e3.2 _ _ r
   replace d := e3.2 _ _ d
   replace l := e3.2 _ _ l
   have lt_at40 := GHeap.ltg l2
   clear hP
   refine .c0 rfl rfl rfl rfl (.appendI rfl sl_22_A ze_2_L rfl by_2_L sl_22_A rfl rfl (by assumption) (by assumption) (by first | omega | (simp <;> omega)) (by omega) (by omega)) ?_
   rintro _ H41 ⟨m0, rfl, f7, ge41, b4⟩
   replace u := u.sP f7
   replace aP := f7.same _ _ ⟨(c2.ne c8.ne (by omega)), trivial⟩ aP
   replace r := f7.same _ _ ⟨(Ne.symm k1), trivial⟩ r
   replace d := f7.same _ _ ⟨(Ne.symm i8), trivial⟩ d
   replace l := f7.same _ _ ⟨(Ne.symm h4), trivial⟩ l
   have lt_at41 := GHeap.ltg b4
   refine .q rfl (.fieldAddr fo_29_1_B rfl) ?_
   refine .r0 rfl rfl rfl (.storeR rfl sz_22_Ch rfl rfl rfl (by assumption) (by first | exact Nat.le_of_ble_eq_true rfl | (simp; done) | (simp <;> omega))) ?_
   rintro _ H6010 ⟨rfl, a7, a9⟩
   have nx_H6010 := a7.nx
   replace u := u.sA a7
   replace aP := a7.s aP a2.ne
   replace r := a7.same _ _ ⟨f6, trivial⟩ r
   replace d := a7.same _ _ ⟨e9, trivial⟩ d
   have c5 : NE m0 g8 := .a
   replace b4 := a7.s b4 c5.ne
   try simp only [Nat.zero_add, List.set_cons_succ, List.set_cons_zero] at a9
   refine .done ?_
   refine p9 _ _ (.seq (fun K10 l8 => ?_))
   refine .regionD mo_B (.q 0 (.q 1 (.q 2 (.q 3 (.q 4 (.q 5 (.q 6 (.c 7 1 (.c 8 0 (.q 9 (.c 10 0 (.done)))))))))))) (by kernel_rfl) ?_
   have sA := pcells_slA aP
   have mk := pcells_mem aP (i := i) (by omega)
   refine .q rfl (.fieldAddr fo_29_2_B rfl) ?_
   refine .q rfl (.load on_22_B rfl (by first | assumption | exact Mem.of_get a9 2 _ rfl)) ?_
   refine .mv rfl rfl (.mv rfl rfl ?_)
   refine .q rfl (.idx sl_157_Di (by assumption) (by omega) rfl rfl (by omega) (by omega) rfl) ?_
   refine .q rfl (.fieldAddr fo_160_1_Dg rfl) (.q rfl (.load on_2_A rfl (mk.2 1 _ rfl)) ?_)
   refine .c1 rfl rfl rfl rfl (.litA rfl sl_22_A ze_2_L rfl rfl rfl rfl) ?_
   rintro _ H50 ⟨g50, rfl, e4, ge50, k4⟩
   have j6 := e4
   refine ⟨j6, ?_⟩
   replace u := u.le e4
   replace aP := e4.2 _ _ aP
   replace r := e4.2 _ _ r
   replace d := e4.2 _ _ d
   replace b4 := e4.2 _ _ b4
   replace a9 := e4.2 _ _ a9
   have lt_at50 := GHeap.ltg k4
   refine .c0 rfl rfl rfl rfl (.appendI rfl sl_22_A ze_2_L rfl by_2_L sl_22_A rfl rfl (by assumption) (by assumption) (by first | omega | (simp <;> omega)) (by omega) (by omega)) ?_
   rintro _ H51 ⟨o8, rfl, f3, ge51, g7⟩
   replace u := u.sP f3
   replace aP := f3.same _ _ ⟨(d2.ne c4.ne (by omega)), trivial⟩ aP
   replace d := f3.same _ _ ⟨(Ne.symm j2), trivial⟩ d
   replace b4 := f3.s b4
   replace a9 := f3.same _ _ ⟨(Ne.symm f6), trivial⟩ a9
   refine .q rfl (.fieldAddr fo_29_2_B rfl) ?_
   refine .r0 rfl rfl rfl (.storeR rfl sz_22_Ch rfl rfl rfl (by assumption) (by first | exact Nat.le_of_ble_eq_true rfl | (simp; done) | (simp <;> omega))) ?_
   rintro _ H7010 ⟨rfl, b6, d4⟩
   replace u := u.sA b6
   replace aP := b6.s aP a2.ne
   replace d := b6.same _ _ ⟨e9, trivial⟩ d
   replace b4 := b6.s b4 c5.ne
   replace g7 := b6.s g7
   try simp only [Nat.zero_add, List.set_cons_succ, List.set_cons_zero] at d4
   refine .done ?_
   refine l8 _ _ (.seq (fun K11 m7 => .region ?_))
   have sA := pcells_slA aP
   have mk := pcells_mem aP (i := i) (by omega)
   refine .mv rfl (.mv rfl ?_)
   refine .q rfl (.idx sl_157_Di (by assumption) (by omega) rfl rfl (by omega) (by omega) rfl) ?_
   refine .q rfl (.fieldAddr fo_160_2_Dg rfl) (.q rfl (.load on_22_B rfl (mk.2 2 _ rfl)) (.q rfl (.len sl_22_A rfl) (.q rfl (.cmp rfl rfl rfl) (.nil (m7 _ _ ?_)))))
   refine .cond rfl (fun q0 => ?_) (fun q0 => ?_)
   ·
    obtain ⟨i9, o1, q1, n0⟩ : ∃ i9, i9 = is.set (ps.getD i pz).f.toNat (i : Int) ∧ i9.length = is.length ∧ Bd 0 18 i9 := ⟨_, rfl, by simp, bd_iff.2 fun x hx => by
      rcases List.mem_or_eq_of_mem_set hx with h | rfl
      · exact bd_iff.1 hI x h
      · omega⟩
    refine .regionD mo_B (.q 0 (.q 1 (.q 2 (.q 3 (.q 4 (.q 5 (.q 6 (.q 7 (.q 8 (.c 9 0 (.done))))))))))) (by kernel_rfl) ?_
    refine .q rfl (.fieldAddr fo_29_3_B rfl) ?_
    refine .q rfl (.load on_22_B rfl (by first | assumption | exact Mem.of_get d4 3 _ rfl)) ?_
    refine .mv rfl rfl (.mv rfl rfl ?_)
    refine .q rfl (.idx sl_157_Di (by assumption) (by omega) rfl rfl (by omega) (by omega) rfl) ?_
    refine .q rfl (.fieldAddr fo_160_0_Dg rfl) (.q rfl (.load on_2_A rfl (mk.2 0 _ rfl)) (.mv rfl rfl ?_))
    refine .q rfl (.idx1 sl_22_A (by first | assumption | exact SlA.of_row d (by first | rfl | (simp; done) | (simp <;> omega))) rfl rfl (by omega) (by omega)) ?_
    refine .r0 rfl rfl rfl (.storeI rfl sz_2_Ch rfl rfl (by assumption) (by first | omega | (simp <;> omega))) ?_
    rintro _ H9009 ⟨rfl, d3, h9⟩
    replace u := u.sA d3
    replace b4 := d3.s b4
    replace g7 := d3.s g7
    replace d4 := d3.same _ _ ⟨(Ne.symm e9), trivial⟩ d4
    rw [Nat.zero_add] at h9
    refine .done ?_
    refine o3 _ _ (.region (.mv rfl ?_))
    refine .q rfl (.add rfl rfl rfl (by omega) (by omega)) ?_
    refine .mv rfl (.nil ?_)
    refine j5 ((i + 1, ss ++ [(ps.getD i pz).f], ts ++ [(ps.getD i pz).t], i9, m0, o8)) _ _ ?_ ?_ ⟨rfl, rfl, rfl, rfl, trivial⟩
    ·
     refine ⟨u, by assumption, by exact ⟨.inr (by omega)⟩, by assumption, by exact ⟨.inr (by omega)⟩, by (rw [o1]; assumption), by assumption, by omega, by omega, by omega, by omega, by omega, by assumption, ?_⟩
     exact ⟨⟨by omega, by simp; omega, by simp; omega, by omega⟩, hS.snoc o7.1 (by omega), hT.snoc o6.1 (by omega), n0⟩
    (dsimp only; omega)
   obtain ⟨i9, o1, q1, n0⟩ : ∃ i9, i9 = is ∧ i9.length = is.length ∧ Bd 0 18 i9 := ⟨_, rfl, rfl, hI⟩
   refine .skip ?_
   refine o3 _ _ (.region (.mv rfl ?_))
   refine .q rfl (.add rfl rfl rfl (by omega) (by omega)) ?_
   refine .mv rfl (.nil ?_)
   refine j5 ((i + 1, ss ++ [(ps.getD i pz).f], ts ++ [(ps.getD i pz).t], i9, m0, o8)) _ _ ?_ ?_ ⟨rfl, rfl, rfl, rfl, trivial⟩
   ·
    refine ⟨u, by assumption, by exact ⟨.inr (by omega)⟩, by assumption, by exact ⟨.inr (by omega)⟩, by (rw [o1]; assumption), by assumption, by omega, by omega, by omega, by omega, by omega, by assumption, ?_⟩
    exact ⟨⟨by omega, by simp; omega, by simp; omega, by omega⟩, hS.snoc o7.1 (by omega), hT.snoc o6.1 (by omega), n0⟩
   (dsimp only; omega)
  try simp only [sps] at m2
  refine .exit ?_
  refine p1 _ _ (.seq (fun K12 l6 => .seq (fun K13 l3 => .region ?_)))
  have q2 : gLF ≠ d5 := c2.ne' (by omega) (by omega)
  have p3 : gLT ≠ d5 := d2.ne' (by omega) (by omega)
  have k5 : (Cat.mk (n : Int) ss ts is []).In HL1 (ownP gLF gLT d5 f8 fun _ => none) := (OwnCat.catR (b := H.next) ⟨a4, r, d, d6, by omega, by omega, by omega, by omega, by omega, by omega, by omega, .nil _ _ _ _, fun _ h => by simp at h, fun _ h => by simp at h, fun _ h => by simp at h⟩).inn
  refine .q rfl (.loadM ag_29_D rfl ⟨rfl, Mem.of_get l⟩) ?_
  refine .callQ rfl rfl rfl rfl @Try.call141 rfl ((by have hh := l02Fits_c (c := Cat.mk (n : Int) ss ts is []) (p := ownP gLF gLT d5 f8 fun _ => none) k5; simp only [Cat.cells, ownP, hsl, htl, hil, List.length_nil] at hh; exact hh)) ?_
  refine .q rfl (.not rfl) (.nil (l3 _ _ ?_))
  refine .cond rfl (fun l0 => ?_) (fun l0 => ?_)
  ·
   exact absurd l0 (by simp [B]; omega)
  try simp only [sps] at l0
  refine .skip ?_
  refine l6 _ _ (.seq (fun K14 n5 => .seq (fun K15 m1 => .region ?_)))
  obtain rfl : i = ps.length := by omega
  refine .mv rfl (.nil (m1 _ _ ?_))
  refine .block ?_
  refine .loopR (σ := Nat × (Nat → Option Addr) × List (List Int) × Nat) [(6, some _), (7, some _), (8, some _)] (fun (f, rr, cs, gLC) => [(10, some (.int .i64 (f : Int)))]) (fun (f, rr, cs, gLC) H' => St [f8, g8] HL1 H' ∧ H'.get gLC = some (.row ((slsL rr cs)) 22 true) ∧ PL gLC f8 HL1.next ∧ H'.get g8 = some (.row ([.int .i64 (n : Int), .slice (some ⟨gLF, 0, none⟩) ps.length ps.length, .slice (some ⟨gLT, 0, none⟩) ps.length ps.length, .slice (some ⟨d5, 0, none⟩) n n, .slice (some ⟨gLC, 0, none⟩) f f]) 29 true) ∧ gLC ≠ g8 ∧ (f ≤ ps.length ∧ cs.length = f) ∧ Tb (-1) 18 ps.length cs ∧ OwnL H.next H' 2 rr cs ∧ (∀ j, j < cs.length → rr j ≠ some ⟨gLF, 0, none⟩) ∧ (∀ j, j < cs.length → rr j ≠ some ⟨gLT, 0, none⟩) ∧ ∀ j, j < cs.length → rr j ≠ some ⟨d5, 0, none⟩) (fun (f, rr, cs, gLC) => ps.length - f) ((0, fun _ => none, [], f8)) ⟨rfl, rfl, rfl, trivial⟩ ⟨rfl, trivial⟩ ?_ ?_
  ·
   refine ⟨.refl _ _, by assumption, ⟨.inl rfl⟩, by assumption, by omega, ?_⟩
   exact ⟨⟨by omega, rfl⟩, .nil _ _ _, .nil _ _ _ _, fun _ h => by simp at h, fun _ h => by simp at h, fun _ h => by simp at h⟩
  rintro ⟨f, rr, cs, gLC⟩ HL2 ⟨w, a1, h1, l, i6, hI⟩ KL2 n2
  refine .forget (fr' := [(10, some (.int .i64 (f : Int))), (6, some _), (7, some _), (8, some _)]) ⟨rfl, rfl, rfl, rfl, trivial⟩ ?_
  have ge_LC : H.next ≤ gLC := h1.ge (by omega) (by omega)
  have nx_HL2 := w.nx
  replace b0 := b0.st w (fun k hk => ⟨by omega, by omega, trivial⟩)
  have d1 : NE g6 f8 := .a
  replace c6 := w.same _ _ ⟨d1.ne, a5.ne, trivial⟩ c6
  replace aP := w.same _ _ ⟨(by first | assumption | omega), a2.ne, trivial⟩ aP
  replace a4 := w.same _ _ ⟨(Ne.symm (c2.ne b5.ne (by omega))), h4, trivial⟩ a4
  replace r := w.same _ _ ⟨(Ne.symm (d2.ne b7.ne (by omega))), f6, trivial⟩ r
  replace d := w.same _ _ ⟨(Ne.symm b2.ne), e9, trivial⟩ d
  replace m := Keep.st m w (fun k hb hk => ⟨(by omega), (by omega), trivial⟩)
  have lt_at_LC := GHeap.ltg a1
  have f2 := GHeap.ltg l
  have rk := St.refl [gLC, g8] HL2
  obtain ⟨⟨hf, hcl⟩, hC, hR, o5, o9, o2⟩ := hI
  have hatC := a1
  have k9 := l
  have hfl : (slsL rr cs).length = cs.length := length_slsL _ _
  refine .seq (fun K16 n9 => .seq (fun K17 m9 => .region (.mv rfl (.mv rfl (.q rfl (.len sl_157_Di rfl) (.q rfl (.cmp rfl rfl rfl) (.nil (m9 _ _ ?_))))))))
  refine .cond rfl (fun o0 => ?_) (fun o0 => ?_)
  ·
   simp only [sps] at o0
   refine .skip ?_
   refine n9 _ _ (.seq (fun K18 m3 => ?_))
   refine .block ?_
   refine .seq (fun K19 l1 => .region ?_)
   refine .R rfl (.litA rfl sl_22_A ze_2_L rfl rfl rfl rfl) ?_
   rintro _ k8 ⟨i7, rfl, e2, ge79, i4⟩
   have nx_H79 := e2.1
   replace w := w.le e2
   replace rk := rk.le e2
   replace aP := e2.2 _ _ aP
   replace a1 := e2.2 _ _ a1
   replace l := e2.2 _ _ l
   replace m := Keep.le m e2
   have lt_at79 := GHeap.ltg i4
   replace i4 : GHeap.get k8 i7 = some (.row (ints []) 2 true) := i4
   refine .mv rfl (.nil (l1 _ _ (.seq (fun K20 m6 => .seq (fun K21 l4 => .region (.mv rfl (.nil (l4 _ _ ?_))))))))
   refine .block ?_
   refine .loopR (σ := Nat × List Int × Nat × Nat) [(6, some _), (7, some _), (8, some _), (10, some _)] (fun (g, row, a8, d7) => [(12, some (.int .i64 (g : Int))), (11, some (.slice (some ⟨a8, 0, none⟩) d7 d7))]) (fun (g, row, a8, d7) H' => St [i7] k8 H' ∧ H'.get a8 = some (.row (ints row) 2 true) ∧ PL a8 i7 k8.next ∧ d7 = row.length ∧ (g ≤ ps.length ∧ row.length = g) ∧ Bd (-1) 18 row) (fun (g, row, a8, d7) => ps.length - g) ((0, [], _, _)) ⟨rfl, rfl, rfl, rfl, trivial⟩ ⟨rfl, rfl, trivial⟩ ?_ ?_
   ·
    refine ⟨.refl _ _, by assumption, ⟨.inl rfl⟩, by rfl, ?_⟩
    exact ⟨⟨by omega, rfl⟩, .nil _ _⟩
   rintro ⟨g, row, a8, d7⟩ HL3 ⟨v, o, a3, i2, hI⟩ KL3 k0
   refine .forget (fr' := [(12, some (.int .i64 (g : Int))), (11, some (.slice (some ⟨a8, 0, none⟩) d7 d7)), (6, some _), (7, some _), (8, some _), (10, some _)]) ⟨rfl, rfl, rfl, rfl, rfl, rfl, trivial⟩ ?_
   have ge_L11 : H.next ≤ a8 := a3.ge (by omega) (by omega)
   have nx_HL3 := v.nx
   replace w := w.sA v
   replace rk := rk.sA v
   replace aP := v.s aP
   have b3 : NE gLC i7 := .a
   replace a1 := v.s a1 b3.ne
   have d0 : NE g8 i7 := .a
   replace l := v.s l d0.ne
   replace m := Keep.st m v (fun k hb hk => ⟨(by omega), trivial⟩)
   replace hK := f0.keep m (Nat.le_refl _)
   have lt_at_L11 := GHeap.ltg o
   have hP := hK.ok
   obtain ⟨⟨hg, hrl⟩, hW⟩ := hI
   refine .seq (fun K22 n8 => .seq (fun K23 l5 => .region (.mv rfl (.mv rfl (.q rfl (.len sl_157_Di rfl) (.q rfl (.cmp rfl rfl rfl) (.nil (l5 _ _ ?_))))))))
   refine .cond rfl (fun k7 => ?_) (fun k7 => ?_)
   ·
    simp only [sps] at k7
    refine .skip ?_
    refine n8 _ _ (.seq (fun K24 i5 => ?_))
    refine .block ?_
    refine .seq (fun K25 n4 => .region (.mv rfl (.nil (n4 _ _ (.seq (fun K26 j9 => .seq (fun K27 n6 => ?_)))))))
    refine .regionD mo_B (.q 0 (.q 1 (.q 2 (.q 3 (.q 4 (.q 5 (.q 6 (.q 7 (.q 8 (.q 9 (.q 10 (.done)))))))))))) (by kernel_rfl) ?_
    have sA := pcells_slA aP
    have mf := pcells_mem aP (i := f) (by omega)
    have mg := pcells_mem aP (i := g) (by omega)
    refine .mv rfl rfl (.mv rfl rfl ?_)
    refine .q rfl (.idx sl_157_Di (by assumption) (by omega) rfl rfl (by omega) (by omega) rfl) ?_
    refine .q rfl (.fieldAddr fo_160_1_Dg rfl) (.q rfl (.load on_2_A rfl (mf.2 1 _ rfl)) (.mv rfl rfl (.mv rfl rfl ?_)))
    refine .q rfl (.idx sl_157_Di (by assumption) (by omega) rfl rfl (by omega) (by omega) rfl) ?_
    refine .q rfl (.fieldAddr fo_160_0_Dg rfl) (.q rfl (.load on_2_A rfl (mg.2 0 _ rfl)) (.q rfl (.cmp rfl rfl rfl) ?_))
    refine .done ?_
    refine n6 _ _ ?_
    refine .cond rfl (fun o4 => ?_) (fun o4 => ?_)
    ·
     try simp only [sps] at o4
     refine .seq (fun K28 k6 => ?_)
     refine .regionD mo_B (.q 0 (.q 1 (.q 2 (.q 3 (.q 4 (.q 6 (.q 7 (.q 8 (.q 9 (.q 10 (.c 5 1 (.c 11 0 (.q 12 (.done)))))))))))))) (by kernel_rfl) ?_
     have pf := hP.at (i := f) (by omega)
     have pg := hP.at (i := g) (by omega)
     refine .mv rfl rfl (.mv rfl rfl ?_)
     refine .q rfl (.idx sl_157_Di (by assumption) (by omega) rfl rfl (by omega) (by omega) rfl) ?_
     refine .q rfl (.fieldAddr fo_160_2_Dg rfl) (.q rfl (.load on_22_B rfl (mf.2 2 _ rfl)) (.mv rfl rfl (.mv rfl rfl ?_)))
     refine .q rfl (.idx sl_157_Di (by assumption) (by omega) rfl rfl (by omega) (by omega) rfl) ?_
     refine .q rfl (.fieldAddr fo_160_2_Dg rfl) (.q rfl (.load on_22_B rfl (mg.2 2 _ rfl)) ?_)
     refine .call1 rfl rfl rfl rfl rfl @Try.call92 rfl (l01Own_c (Ints.of_get pf.2.2.2.2)) ?_
     rintro _ H102 ⟨d8, g102, rfl, j4, ge102⟩
     have j6 := d8
     refine ⟨j6, ?_⟩
     replace v := v.le d8
     replace aP := d8.2 _ _ aP
     replace o := d8.2 _ _ o
     replace m := Keep.le m d8
     replace hK := f0.keep m (Nat.le_refl _)
     have lt_at102 := GHeap.ltg j4
     clear hP
     have hP := hK.ok
     have iG := Ints.of_get (hP.at (i := g) (by omega)).2.2.2.2
     refine .c0 rfl rfl rfl rfl (.appendL rfl sl_22_A ze_2_L rfl by_2_L sl_22_A rfl rfl (by assumption) (by first | assumption | exact Ints.of_get (by assumption)) (by first | omega | (simp <;> omega)) (by omega) (by omega)) ?_
     rintro _ k2 ⟨g108, rfl, e6, ge108, h0⟩
     replace v := v.sA e6
     replace aP := e6.s aP
     replace o := e6.s o
     replace m := Keep.st m e6 (fun k hb hk => ⟨(by omega), trivial⟩)
     replace hK := f0.keep m (Nat.le_refl _)
     have lt_at108 := GHeap.ltg h0
     clear hP
     have hP := hK.ok
     refine .mv rfl rfl ?_
     refine .done ?_
     refine k6 _ _ (.seq (fun K29 n1 => .region (.mv rfl (.nil (n1 _ _ ?_)))))
     refine .block ?_
     refine .loopR (σ := Nat × Int) [(6, some _), (7, some _), (8, some _), (10, some _), (11, some _), (12, some _), (14, some _)] (fun (k, h3) => [(15, some (.int .i64 (k : Int))), (13, some (.int .i64 h3))]) (fun (k, h3) H' => k2 = H' ∧ k ≤ ps.length ∧ -1 ≤ h3 ∧ h3 ≤ 18) (fun (k, h3) => ps.length - k) ((0, -1)) ⟨rfl, rfl, rfl, rfl, rfl, rfl, rfl, trivial⟩ ⟨rfl, rfl, trivial⟩ ?_ ?_
     ·
      refine ⟨rfl, ?_⟩
      exact ⟨by omega, by omega, by omega⟩
     rintro ⟨k, h3⟩ _ ⟨rfl, hI⟩ KL4 h6
     refine .forget (fr' := [(15, some (.int .i64 (k : Int))), (13, some (.int .i64 h3)), (6, some _), (7, some _), (8, some _), (10, some _), (11, some _), (12, some _), (14, some _)]) ⟨rfl, rfl, rfl, rfl, rfl, rfl, rfl, rfl, rfl, trivial⟩ ?_
     obtain ⟨hk, n3⟩ := hI
     refine .seq (fun K30 m4 => .seq (fun K31 n7 => .region (.mv rfl (.mv rfl (.q rfl (.len sl_157_Di rfl) (.q rfl (.cmp rfl rfl rfl) (.nil (n7 _ _ ?_))))))))
     refine .cond rfl (fun h8 => ?_) (fun h8 => ?_)
     ·
      simp only [sps] at h8
      refine .skip ?_
      refine m4 _ _ (.seq (fun K32 h5 => ?_))
      refine .block ?_
      refine .seq (fun K33 j8 => ?_)
      refine .regionD mo_B (.q 0 (.q 1 (.q 2 (.q 3 (.q 4 (.q 5 (.q 6 (.q 7 (.q 8 (.q 9 (.q 10 (.q 11 (.q 12 (.q 13 (.q 14 (.q 15 (.q 16 (.q 17 (.c 18 0 (.q 19 (.done))))))))))))))))))))) (by kernel_rfl) ?_
      have sA := pcells_slA aP
      have mk := pcells_mem aP (i := k) (by omega)
      have mf := pcells_mem aP (i := f) (by omega)
      have pk := hP.at (i := k) (by omega)
      refine .mv rfl rfl (.mv rfl rfl ?_)
      refine .q rfl (.idx sl_157_Di (by assumption) (by omega) rfl rfl (by omega) (by omega) rfl) ?_
      refine .q rfl (.fieldAddr fo_160_0_Dg rfl) (.q rfl (.load on_2_A rfl (mk.2 0 _ rfl)) (.mv rfl rfl (.mv rfl rfl ?_)))
      refine .q rfl (.idx sl_157_Di (by assumption) (by omega) rfl rfl (by omega) (by omega) rfl) ?_
      refine .q rfl (.fieldAddr fo_160_0_Dg rfl) (.q rfl (.load on_2_A rfl (mf.2 0 _ rfl)) (.q rfl (.cmp rfl rfl rfl) (.mv rfl rfl ?_)))
      refine .split (fun i3 => ?_) (fun i3 => ?_)
      ·
       try simp only [sps] at i3
       refine .qg rfl (.move rfl) (.qg rfl (.move rfl) ?_)
       refine .qg rfl (.idx sl_157_Di (by assumption) (by omega) rfl rfl (by omega) (by omega) rfl) ?_
       refine .qg rfl (.fieldAddr fo_160_2_Dg rfl) (.qg rfl (.load on_22_B rfl (mk.2 2 _ rfl)) (.qg rfl (.move rfl) ?_))
       refine .callQ0g rfl rfl rfl rfl rfl rfl rfl @Try.call154 rfl ((by have hh := l01Same_c (h := Ints.of_get pk.2.2.2.2) (h' := Ints.of_get h0) (hy := by rw [List.length_append]; omega); rw [List.length_append] at hh; exact hh)) ?_
       refine .q rfl (.pickT rfl rfl) ?_
       refine .done ?_
       refine j8 _ _ ?_
       refine .cond rfl (fun h7 => ?_) (fun h7 => ?_)
       ·
        try simp only [sps] at h7
        refine .region (.mv rfl (.mv rfl (.nil (h5 _ _ (.region (.mv rfl ?_))))))
        refine .q rfl (.add rfl rfl rfl (by omega) (by omega)) ?_
        refine .mv rfl (.nil ?_)
        refine h6 ((k + 1, _)) _ _ ?_ ?_ ⟨rfl, rfl, rfl, rfl, rfl, rfl, rfl, rfl, rfl, trivial⟩
        ·
         refine ⟨rfl, ?_⟩
         exact ⟨by omega, by omega, by omega⟩
        (dsimp only; omega)
       try simp only [sps] at h7
       refine .skip ?_
       refine h5 _ _ (.region (.mv rfl ?_))
       refine .q rfl (.add rfl rfl rfl (by omega) (by omega)) ?_
       refine .mv rfl (.nil ?_)
       refine h6 ((k + 1, _)) _ _ ?_ ?_ ⟨rfl, rfl, rfl, rfl, rfl, rfl, rfl, rfl, rfl, trivial⟩
       ·
        refine ⟨rfl, ?_⟩
        exact ⟨by omega, by omega, by omega⟩
       (dsimp only; omega)
      try simp only [sps] at i3
      refine .z rfl (.z rfl (.z rfl (.z rfl (.z rfl (.z rfl (.sgc rfl rfl rfl rfl rfl rfl (.q rfl (.pickF rfl rfl) ?_)))))))
      refine .done ?_
      refine j8 _ _ ?_
      refine .condF rfl ?_
      refine .skip ?_
      refine h5 _ _ (.region (.mv rfl ?_))
      refine .q rfl (.add rfl rfl rfl (by omega) (by omega)) ?_
      refine .mv rfl (.nil ?_)
      refine h6 ((k + 1, _)) _ _ ?_ ?_ ⟨rfl, rfl, rfl, rfl, rfl, rfl, rfl, rfl, rfl, trivial⟩
      ·
       refine ⟨rfl, ?_⟩
       exact ⟨by omega, by omega, by omega⟩
      (dsimp only; omega)
     try simp only [sps] at h8
     refine .exit ?_
     refine j9 _ _ (.region (.mv rfl (.mv rfl ?_)))
     refine .R rfl (.litA rfl sl_22_A ze_2_L rfl rfl rfl rfl) ?_
     rintro _ H138 ⟨g138, rfl, h2, ge138, j7⟩
     replace v := v.le h2
     replace o := h2.2 _ _ o
     have lt_at138 := GHeap.ltg j7
     clear hP
     refine .R rfl (.appendI rfl sl_22_A ze_2_L rfl by_2_L sl_22_A rfl rfl (by assumption) (by assumption) (by first | omega | (simp <;> omega)) (by omega) (by omega)) ?_
     rintro _ H139 ⟨g139, rfl, j1, ge139, at139⟩
     replace v := v.sP j1
     refine .mv rfl (.nil (i5 _ _ (.region (.mv rfl ?_))))
     refine .q rfl (.add rfl rfl rfl (by omega) (by omega)) ?_
     refine .mv rfl (.nil ?_)
     refine k0 ((g + 1, row ++ [h3], _, _)) _ _ ?_ ?_ ⟨rfl, rfl, rfl, rfl, rfl, rfl, trivial⟩
     ·
      refine ⟨v, by assumption, by exact ⟨.inr (by omega)⟩, by (simp only [List.length_append, List.length_cons, List.length_nil] <;> omega), ?_⟩
      exact ⟨⟨by omega, by simp; omega⟩, hW.snoc (by omega) (by omega)⟩
     (dsimp only; omega)
    obtain ⟨h3, q7, n3⟩ : ∃ h3 : Int, h3 = -1 ∧ -1 ≤ h3 ∧ h3 ≤ 18 := ⟨_, rfl, by omega, by omega⟩
    refine .skip ?_
    refine j9 _ _ (.region (.mv rfl (.mv rfl ?_)))
    refine .R rfl (.litA rfl sl_22_A ze_2_L rfl rfl rfl rfl) ?_
    rintro _ H138x2 ⟨g138x2, rfl, f1, ge138x2, g0⟩
    replace v := v.le f1
    replace o := f1.2 _ _ o
    have lt_at138x2 := GHeap.ltg g0
    refine .R rfl (.appendI rfl sl_22_A ze_2_L rfl by_2_L sl_22_A rfl rfl (by assumption) (by assumption) (by first | omega | (simp <;> omega)) (by omega) (by omega)) ?_
    rintro _ H139x2 ⟨g139x2, rfl, f9, ge139x2, at139x2⟩
    replace v := v.sP f9
    refine .mv rfl (.nil (i5 _ _ (.region (.mv rfl ?_))))
    refine .q rfl (.add rfl rfl rfl (by omega) (by omega)) ?_
    refine .mv rfl (.nil ?_)
    refine k0 ((g + 1, row ++ [h3], _, _)) _ _ ?_ ?_ ⟨rfl, rfl, rfl, rfl, rfl, rfl, trivial⟩
    ·
     refine ⟨v, by (rw [q7]; assumption), by exact ⟨.inr (by omega)⟩, by (simp only [List.length_append, List.length_cons, List.length_nil] <;> omega), ?_⟩
     exact ⟨⟨by omega, by simp; omega⟩, hW.snoc (by omega) (by omega)⟩
    (dsimp only; omega)
   try simp only [sps] at k7
   refine .exit ?_
   refine m6 _ _ (.region ?_)
   obtain rfl : g = ps.length := by omega
   obtain rfl := i2
   refine .q rfl (.fieldAddr fo_29_4_B rfl) ?_
   refine .q rfl (.load on_23_B rfl (by first | assumption | exact Mem.of_get l 4 _ rfl)) ?_
   refine .mv rfl ?_
   refine .R rfl (.litA rfl sl_23_B ze_22_Hj rfl rfl rfl rfl) ?_
   rintro _ H143 ⟨g143, rfl, e0, ge143, j0⟩
   replace w := w.le e0
   replace rk := rk.le e0
   replace a1 := e0.2 _ _ a1
   replace l := e0.2 _ _ l
   replace o := e0.2 _ _ o
   have lt_at143 := GHeap.ltg j0
   refine .R rfl (.appendV rfl sl_23_B ze_22_Hj rfl by_22_Hj sl_23_B rfl rfl (by assumption) (by assumption) (by first | omega | (simp <;> omega)) rfl rfl (by omega) (by omega)) ?_
   rintro _ H144 ⟨m8, rfl, e8, ge144, g9⟩
   replace w := w.sP e8
   replace rk := rk.sP e8
   replace l := e8.same _ _ ⟨(Ne.symm i6), trivial⟩ l
   replace o := e8.same _ _ ⟨(Ne.symm (a3.ne b3.ne (by omega))), trivial⟩ o
   refine .q rfl (.fieldAddr fo_29_4_B rfl) ?_
   refine .r0 rfl rfl (.storeR rfl sz_23_Ch rfl rfl rfl (by assumption) (by first | exact Nat.le_of_ble_eq_true rfl | (simp; done) | (simp <;> omega))) ?_
   rintro _ H28006 ⟨rfl, b1, g3⟩
   replace w := w.sA b1
   replace rk := rk.sA b1
   replace o := b1.same _ _ ⟨(Ne.symm (a3.ne d0.ne (by omega))), trivial⟩ o
   replace g9 := b1.s g9
   try simp only [Nat.zero_add, List.set_cons_succ, List.set_cons_zero] at g3
   refine .nil (m3 _ _ (.region (.mv rfl ?_)))
   refine .q rfl (.add rfl rfl rfl (by omega) (by omega)) ?_
   refine .mv rfl (.nil ?_)
   refine n2 ((f + 1, upd rr cs.length (some ⟨a8, 0, none⟩), cs ++ [row], m8)) _ _ ?_ ?_ ⟨rfl, rfl, rfl, rfl, trivial⟩
   ·
    refine ⟨w, by (rw [slsL_snoc]; assumption), by exact ⟨.inr (by omega)⟩, by assumption, by omega, ?_⟩
    have hR' := hR.st rk (.cons (hR.neT hatC rfl) (.cons (hR.neT k9 rfl) (.nil _ _)))
    have p4 := hR.ne (g := a8) (a3.ge (by omega) (by omega))
    have hx1 : a8 ≠ gLF := a3.ne' (by omega) (by omega)
    have hx2 : a8 ≠ gLT := a3.ne' (by omega) (by omega)
    have hx3 : a8 ≠ d5 := a3.ne' (by omega) (by omega)
    exact ⟨⟨by omega, by simp; omega⟩, hC.snoc (by omega) hW, hR'.snoc2 (by assumption) p4 (by omega), ne_snoc o5 (by omega), ne_snoc o9 (by omega), ne_snoc o2 (by omega)⟩
   (dsimp only; omega)
  try simp only [sps] at o0
  refine .exit ?_
  refine n5 _ _ (.seq (fun K34 l7 => .region ?_))
  refine .q rfl (.loadM ag_29_D rfl ⟨rfl, Mem.of_get l⟩) ?_
  refine .r0 rfl rfl (.fillA rfl sz_29_D rfl rfl rfl rfl) ?_
  rintro _ H29001 ⟨rfl, y, e7⟩
  replace b0 := b0.st y (fun k hk => ⟨by omega, trivial⟩)
  replace a4 := y.same _ _ ⟨(Ne.symm (c2.ne c3.ne (by omega))), trivial⟩ a4
  replace r := y.same _ _ ⟨(Ne.symm (d2.ne b9.ne (by omega))), trivial⟩ r
  replace d := y.s d (Ne.symm c7.ne)
  replace a1 := y.same _ _ ⟨(Ne.symm (h1.ne d1.ne (by omega))), trivial⟩ a1
  replace l := y.s l (Ne.symm a5.ne)
  have mm29001 : MemN _ _ _ _ _ := ⟨rfl, Mem.of_get e7⟩
  refine .nil (l7 _ _ ?_)
  refine .ret ?_
  refine l9 _ _ ?_
  refine ⟨_, _, _, _, rfl, ag_29_D, (by rfl), (Mem.of_get e7), ?_⟩
  obtain rfl : f = ps.length := by omega
  have q2 : gLF ≠ d5 := c2.ne' (by omega) (by omega)
  have p3 : gLT ≠ d5 := d2.ne' (by omega) (by omega)
  have k3 := c6
  have hR' := hR.st y (.cons (hR.neT k3 rfl) (.nil _ _))
  exact ⟨⟨n, ss, ts, is, cs⟩, rect_mk (by omega) (by omega) (by omega) (hS.mono (by omega) (by omega)) (hT.mono (by omega) (by omega)) (by omega) (hI.mono (by omega) (by omega)) (by omega) (by rw [hsl]; exact hC.mono (by omega) (by omega)), b0, gLF, gLT, d5, gLC, rr, by simp [Cat.cells, ownP, hsl, htl, hil, hcl], ⟨a4, r, d, a1, by omega, by omega, by omega, by omega, by omega, by omega, by omega, hR', o5, o9, o2⟩⟩
end Go.Proofs.Ytjdedelneppnlaa
namespace Go.Proofs.Ytjdedelneppnlaa
open Go Go.GL Go.RowKit Go.Proofs
set_option maxHeartbeats 8000000 in
theorem l02Relation_c {gS n : Nat} {H : GHeap} (hs : DSrc 120 H gS := by assumption) (hn : n ≤ 8) :
    GCalls Try.prog 72 [.pointer (some ⟨gS, 0, none⟩), .int .i64 (n : Int)] H (NewRel 120 gS n H) := by
  have hlS := hs.lt
  refine GCalls.body (N := 95) (rs := [.tmp 4]) Try.func72 rfl rfl rfl rfl (fun Qx c1 hend => ?_)
  refine .fg [0, 1] rfl ?_
  have b := St.refl [gS] H
  refine .seq (fun K1 j8 => .region (.mv rfl (.nil (j8 _ _ (.seq (fun K2 j2 => .region ?_))))))
  refine .R rfl (.litA rfl sl_23_B ze_22_Hj rfl rfl rfl rfl) ?_
  rintro _ H12 ⟨j1, rfl, d0, ge12, h0⟩
  replace b := b.le d0
  refine .mv rfl (.nil (j2 _ _ (.seq (fun K3 j7 => .seq (fun K4 i9 => .region (.mv rfl (.nil (i9 _ _ ?_))))))))
  refine .block ?_
  refine .loopR (σ := Nat × Nat × List (List Int) × (Nat → Option Addr)) [(0, some _), (1, some _)] (fun (i, gV, T, rr) => [(6, some (.int .i64 (i : Int))), (5, some (.slice (some ⟨gV, 0, none⟩) i i))]) (fun (i, gV, T, rr) H' => i ≤ n ∧ RelSt 120 2 22 H H' gS gV n i rr T) (fun (i, gV, T, rr) => n - i) ((0, j1, [], fun _ => none)) ⟨rfl, rfl, trivial⟩ ⟨rfl, rfl, trivial⟩ ?_ ?_
  ·
   exact ⟨by omega, b, h0, by omega, .nil _ _ _ _, rfl, fun i hi => by simp at hi, hs.le d0⟩
  rintro ⟨i, gV, T, rr⟩ HL1 hI KL1 g2
  refine .forget (fr' := [(6, some (.int .i64 (i : Int))), (5, some (.slice (some ⟨gV, 0, none⟩) i i)), (0, some _), (1, some _)]) ⟨rfl, rfl, rfl, rfl, trivial⟩ ?_
  obtain ⟨hi, hS⟩ := hI
  obtain ⟨b, a5, b5, hR, hlen, hrow, hs⟩ := id hS
  have rk := St.refl [gS] HL1
  have hfl : (slsL rr T).length = T.length := length_slsL _ _
  have lt_a5 := GHeap.ltg a5
  refine .seq (fun K5 i7 => .seq (fun K6 j3 => .region (.mv rfl (.mv rfl (.q rfl (.cmp rfl rfl rfl) (.nil (j3 _ _ ?_)))))))
  refine .cond rfl (fun g1 => ?_) (fun g1 => ?_)
  ·
   simp only [sps] at g1
   refine .skip ?_
   refine i7 _ _ (.seq (fun K7 j9 => ?_))
   refine .block ?_
   refine .seq (fun K8 j4 => .region (.mv rfl ?_))
   refine .R rfl (.makeI rfl sl_22_A ze_2_L by_2_L rfl rfl (by omega) (by omega) (by omega) (by omega)) ?_
   rintro _ H19 ⟨c5, rfl, b1, ge19, c6⟩
   replace b := b.le b1
   replace hs := hs.le b1
   replace rk := rk.le b1
   replace a5 := b1.2 _ _ a5
   simp only [Int.toNat_natCast] at c6
   refine .mv rfl (.nil (j4 _ _ (.seq (fun K9 j5 => .region (.mv rfl (.mv rfl ?_))))))
   refine .q rfl (.idxN sl_22_A (by first | assumption | exact SlA.of_row c6 (by first | rfl | (simp; done) | (simp <;> omega))) rfl rfl (by omega)) ?_
   refine .r0 rfl rfl (.storeI rfl sz_2_Ch rfl rfl (by assumption) (by first | omega | (simp <;> omega))) ?_
   rintro _ H6003 ⟨rfl, m, a1⟩
   replace b := b.sA m
   replace hs := hs.sA m
   replace rk := rk.sA m
   have e : NE gV c5 := .a
   replace a5 := m.s a5 e.ne
   rw [Nat.zero_add] at a1
   refine .nil (j5 _ _ (.seq (fun K10 f7 => .seq (fun K11 g5 => .region (.mv rfl ?_)))))
   refine .q rfl (.add rfl rfl rfl (by omega) (by omega)) ?_
   refine .mv rfl (.nil (g5 _ _ ?_))
   refine .block ?_
   refine .loopR (σ := Nat × List Int) [(0, some _), (1, some _), (5, some _), (6, some _), (7, some _)] (fun (j, row) => [(8, some (.int .i64 (j : Int)))]) (fun (j, row) H' => (j ≤ n ∧ row.length = n) ∧ RelSt 120 2 22 H H' gS gV n i rr T ∧ H'.get c5 = some (.row (ints row) 2 true) ∧ ∀ j, j < T.length → rr j ≠ some ⟨c5, 0, none⟩) (fun (j, row) => n - j) ((i + 1, (List.replicate n 0).set i 1)) ⟨rfl, rfl, rfl, rfl, rfl, trivial⟩ ⟨rfl, trivial⟩ ?_ ?_
   ·
    exact ⟨⟨by omega, by simp⟩, ⟨b, a5, b5, hR.st rk (.cons (hR.lowNe hlS) (.nil _ _)), hlen, hrow, hs⟩, a1, hR.ne (by omega)⟩
   rintro ⟨j, row⟩ HL2 hI KL2 g7
   refine .forget (fr' := [(8, some (.int .i64 (j : Int))), (0, some _), (1, some _), (5, some _), (6, some _), (7, some _)]) ⟨rfl, rfl, rfl, rfl, rfl, rfl, trivial⟩ ?_
   obtain ⟨⟨hj, hrl⟩, hS, a7, h7⟩ := hI
   obtain ⟨b, a5, b5, hR, hlen, hrow, hs⟩ := id hS
   have rk := St.refl [gS, c5, gV] HL2
   have lt_a7 := GHeap.ltg a7
   refine .seq (fun K12 f4 => .seq (fun K13 e6 => .region (.mv rfl (.mv rfl (.q rfl (.cmp rfl rfl rfl) (.nil (e6 _ _ ?_)))))))
   refine .cond rfl (fun i0 => ?_) (fun i0 => ?_)
   ·
    try simp only [sps] at i0
    refine .skip ?_
    refine f4 _ _ (.seq (fun K14 h1 => ?_))
    refine .block ?_
    refine .region (.mv rfl (.mv rfl (.mv rfl ?_)))
    refine .call rfl rfl rfl rfl @Try.call70 rfl (l01Next_c) ?_
    rintro _ H33 ⟨j6, rfl, ka33, kb33, kc33, b3, hs⟩
    replace b := b.sA b3
    replace rk := rk.sA b3
    have d : NE gV gS := .a
    replace a5 := b3.s a5 d.ne
    replace a7 := b3.s a7
    refine .q rfl (.idxN sl_22_A (by first | assumption | exact SlA.of_row a7 (by first | rfl | (simp; done) | (simp <;> omega))) rfl rfl (by omega)) ?_
    refine .r0 rfl rfl (.storeI rfl sz_2_Ch rfl rfl (by assumption) (by first | omega | (simp <;> omega))) ?_
    rintro _ H10005 ⟨rfl, f, b6⟩
    replace b := b.sA f
    replace rk := rk.sA f
    replace hs := hs.sA f
    have e : NE gV c5 := .a
    replace a5 := f.s a5 e.ne
    rw [Nat.zero_add] at b6
    refine .nil (h1 _ _ (.region (.mv rfl ?_)))
    refine .q rfl (.add rfl rfl rfl (by omega) (by omega)) ?_
    refine .mv rfl (.nil ?_)
    refine g7 ((j + 1, row.set j j6)) _ _ ?_ ?_ ⟨rfl, rfl, rfl, rfl, rfl, rfl, trivial⟩
    ·
     exact ⟨⟨by omega, by simp; omega⟩, ⟨b, a5, b5, hR.st rk (.cons (hR.lowNe hlS) (.cons h7 (.cons (hR.neT hS.a5 rfl) (.nil _ _)))), hlen, hrow, hs⟩, by assumption, h7⟩
    (dsimp only; omega)
   try simp only [sps] at i0
   refine .exit ?_
   refine f7 _ _ (.region (.mv rfl (.mv rfl ?_)))
   refine .R rfl (.litA rfl sl_23_B ze_22_Hj rfl rfl rfl rfl) ?_
   rintro _ H37 ⟨g37, rfl, a0, ge37, d5⟩
   replace b := b.le a0
   replace hs := hs.le a0
   replace rk := rk.le a0
   replace a5 := a0.2 _ _ a5
   replace a7 := a0.2 _ _ a7
   have lt_at37 := GHeap.ltg d5
   refine .R rfl (.appendV rfl sl_23_B ze_22_Hj rfl by_22_Hj sl_23_B rfl rfl (by assumption) (by assumption) (by first | omega | (simp <;> omega)) rfl rfl (by omega) (by omega)) ?_
   rintro _ H38 ⟨j0, rfl, b4, ge38, at38⟩
   replace b := b.sA b4
   replace hs := hs.sA b4
   replace rk := rk.sA b4
   replace a7 := b4.s a7
   refine .mv rfl (.nil (j9 _ _ (.region (.mv rfl ?_))))
   refine .q rfl (.add rfl rfl rfl (by omega) (by omega)) ?_
   refine .mv rfl (.nil ?_)
   refine g2 ((i + 1, j0, T ++ [row], upd rr T.length (some ⟨c5, 0, none⟩))) _ _ ?_ ?_ ⟨rfl, rfl, rfl, rfl, trivial⟩
   ·
    exact ⟨by omega, b, by rw [slsL_snoc, hrl]; assumption, by omega, (hR.st rk (.cons (hR.lowNe hlS) (.cons h7 (.cons (hR.neT hS.a5 rfl) (.nil _ _))))).snoc2 a7 h7 (by omega), by simp; omega, rows_snoc hrow hrl, hs⟩
   (dsimp only; omega)
  try simp only [sps] at g1
  refine .exit ?_
  refine j7 _ _ (.seq (fun K15 c2 => .seq (fun K16 d1 => .region (.mv rfl (.q rfl (.cmp rfl rfl rfl) (.mv rfl ?_))))))
  refine .split (fun i3 => ?_) (fun i3 => ?_)
  ·
   try simp only [sps] at i3
   refine .qg rfl (.move rfl) ?_
   refine .callg rfl rfl rfl rfl rfl rfl @Try.call70 rfl (l01Next_c) ?_
   rintro _ i6 ⟨k43, rfl, ka43, kb43, kc43, c0, hs⟩
   replace b := b.sA c0
   replace rk := rk.sA c0
   have d : NE gV gS := .a
   replace a5 := c0.s a5 d.ne
   refine .qg rfl (.cmp rfl rfl rfl) (.q rfl (.pickT rfl rfl) (.nil (d1 _ _ ?_)))
   refine .cond rfl (fun e2 => ?_) (fun e2 => ?_)
   ·
    simp only [sps] at e2
    have i8 := hR.st rk (.cons (hR.lowNe hlS) (.nil _ _))
    obtain ⟨gi, hgi, hbi, hati⟩ := i8.row ((n : Int) - 1).toNat (by omega)
    have m3 := row_ne a5 hati rfl
    have hrw := hrow ((n : Int) - 1).toNat (by omega)
    refine .regionDB mo_B (.q 0 (.q 1 (.q 2 (.q 3 (.q 4 (.q 5 (.q 6 (.c 7 1 (.q 8 (.c 9 0 (.done))))))))))) (by kernel_rfl) (GHeap.le_erase i6 gS) ?_
    have a2 := GHeap.le_erase i6 gS
    have i5 := GHeap.get_erase_of (g := gS) a5 (by omega)
    have hatiB := GHeap.get_erase_of (g := gS) hati (by omega)
    have cC := slsL_cell i5 (i := ((n : Int) - 1).toNat) (by omega)
    rw [hgi] at cC
    refine .qB rfl a2 (.move rfl) (.qB rfl a2 (.move rfl) ?_)
    refine .qB rfl a2 (.sub rfl rfl rfl (by omega) (by omega)) ?_
    refine .qB rfl a2 (.idx1 sl_23_B (SlA.of_row i5 (by first | rfl | (simp; done) | (simp <;> omega))) rfl rfl (by omega) (by omega)) ?_
    refine .qB rfl a2 (.load on_22_B rfl cC) (.qB rfl a2 (.move rfl) (.qB rfl a2 (.move rfl) ?_))
    refine .call1 rfl rfl rfl rfl rfl @Try.call70 rfl (l01Next_c) ?_
    rintro _ H53 ⟨k53, rfl, ka53, kb53, kc53, w, hs⟩
    replace a2 := a2.erase_st w
    refine ⟨a2, ?_⟩
    replace b := b.sA w
    replace rk := rk.sA w
    replace a5 := w.s a5 d.ne
    replace hati := w.s hati
    refine .qB rfl a2 (.idx1 sl_22_A (SlA.of_row hatiB (by first | rfl | (simp; done) | (simp <;> omega))) rfl rfl (by omega) (by omega)) ?_
    have hSb := RelSt.mk b a5 b5 (hR.st rk (.cons (hR.lowNe hlS) (.nil _ _))) hlen hrow hs
    refine .r0 rfl rfl rfl (.storeI rfl sz_2_Ch rfl rfl (by assumption) (by first | omega | (simp <;> omega))) ?_
    rintro _ H13009 ⟨rfl, a9, a8⟩
    obtain ⟨T1, l⟩ := (hSb.set1 (by omega) hgi hbi a9 a8 (by rw [List.length_set]; exact hrw) m3 hlS).ex
    refine .done ?_
    refine c2 _ _ (.seq (fun K17 g6 => .seq (fun K18 g3 => .region (.mv rfl (.nil (g3 _ _ ?_))))))
    refine .block ?_
    refine .loopR (σ := Nat × List (List Int)) [(1, some _), (5, some _)] (fun (x, T) => [(9, some (.int .i64 (x : Int)))]) (fun (x, T) H' => x ≤ n ∧ RelSt 120 2 22 H H' gS gV n i rr T) (fun (x, T) => n - x) ((0, T1)) ⟨rfl, rfl, trivial⟩ ⟨rfl, trivial⟩ ?_ ?_
    ·
     exact ⟨by omega, l⟩
    rintro ⟨x, T⟩ HL3 hI KL3 a6
    refine .forget (fr' := [(9, some (.int .i64 (x : Int))), (1, some _), (5, some _)]) ⟨rfl, rfl, rfl, trivial⟩ ?_
    obtain ⟨-, hS⟩ := hI
    obtain ⟨b, a5, b5, hR, hlen, hrow, hs⟩ := id hS
    refine .seq (fun K19 e4 => .seq (fun K20 g4 => .region (.mv rfl (.mv rfl (.q rfl (.cmp rfl rfl rfl) (.nil (g4 _ _ ?_)))))))
    refine .cond rfl (fun a3 => ?_) (fun a3 => ?_)
    ·
     simp only [sps] at a3
     refine .skip ?_
     refine e4 _ _ (.seq (fun K21 e9 => ?_))
     refine .block ?_
     refine .seq (fun K22 h9 => .region (.mv rfl (.nil (h9 _ _ ?_))))
     refine .block ?_
     refine .loopR (σ := Nat × List (List Int)) [(1, some _), (5, some _), (9, some _)] (fun (y, T) => [(10, some (.int .i64 (y : Int)))]) (fun (y, T) H' => y ≤ n ∧ RelSt 120 2 22 H H' gS gV n i rr T) (fun (y, T) => n - y) ((0, T)) ⟨rfl, rfl, rfl, trivial⟩ ⟨rfl, trivial⟩ ?_ ?_
     ·
      exact ⟨by omega, hS⟩
     rintro ⟨y, T⟩ HL4 hI KL4 u
     refine .forget (fr' := [(10, some (.int .i64 (y : Int))), (1, some _), (5, some _), (9, some _)]) ⟨rfl, rfl, rfl, rfl, trivial⟩ ?_
     obtain ⟨-, hS⟩ := hI
     obtain ⟨-, -, -, -, hlen, -, -⟩ := id hS
     refine .seq (fun K23 f1 => .seq (fun K24 d2 => .region (.mv rfl (.mv rfl (.q rfl (.cmp rfl rfl rfl) (.nil (d2 _ _ ?_)))))))
     refine .cond rfl (fun a4 => ?_) (fun a4 => ?_)
     ·
      simp only [sps] at a4
      refine .skip ?_
      refine f1 _ _ (.seq (fun K25 g9 => ?_))
      refine .block ?_
      refine .seq (fun K26 i2 => .region (.mv rfl (.nil (i2 _ _ ?_))))
      refine .block ?_
      refine .loopR (σ := Nat × List (List Int)) [(1, some _), (5, some _), (9, some _), (10, some _)] (fun (z, T) => [(11, some (.int .i64 (z : Int)))]) (fun (z, T) H' => z ≤ n ∧ RelSt 120 2 22 H H' gS gV n i rr T) (fun (z, T) => n - z) ((0, T)) ⟨rfl, rfl, rfl, rfl, trivial⟩ ⟨rfl, trivial⟩ ?_ ?_
      ·
       exact ⟨by omega, hS⟩
      rintro ⟨z, T⟩ HL5 hI KL5 h
      refine .forget (fr' := [(11, some (.int .i64 (z : Int))), (1, some _), (5, some _), (9, some _), (10, some _)]) ⟨rfl, rfl, rfl, rfl, rfl, trivial⟩ ?_
      obtain ⟨-, hS⟩ := hI
      obtain ⟨-, a5, b5, hR, hlen, hrow, -⟩ := id hS
      refine .seq (fun K27 h4 => .seq (fun K28 d8 => .region (.mv rfl (.mv rfl (.q rfl (.cmp rfl rfl rfl) (.nil (d8 _ _ ?_)))))))
      refine .cond rfl (fun v => ?_) (fun v => ?_)
      ·
       simp only [sps] at v
       have iT := hR.intss a5 b5
       have u1 := iT.2 y (by omega)
       have u2 := iT.2 x (by omega)
       have w1 := hrow y (by omega)
       have w2 := hrow x (by omega)
       refine .skip ?_
       refine h4 _ _ (.seq (fun K29 c3 => ?_))
       refine .block ?_
       refine .seq (fun K30 c9 => .region (.mv rfl (.mv rfl ?_)))
       refine .q rfl (.idxN sl_23_B (by first | exact (Intss.sl (by assumption)) | exact SlA.of_row a5 (by first | rfl | (simp; done) | (simp <;> omega))) rfl rfl (by omega)) ?_
       refine .q rfl (.loadR on_22_B (by assumption) rfl (by omega)) ?_
       refine .mv rfl ?_
       refine .q rfl (.idxN sl_22_A (by assumption) rfl rfl (by omega)) ?_
       refine .q rfl (.loadI on_2_A (by assumption) rfl (by omega)) ?_
       refine .q rfl (.cmp rfl rfl rfl) (.mv rfl ?_)
       refine .split (fun b7 => ?_) (fun b7 => ?_)
       ·
        try simp only [sps] at b7
        refine .qg rfl (.move rfl) (.qg rfl (.move rfl) ?_)
        refine .qg rfl (.idxN sl_23_B (by first | exact (Intss.sl (by assumption)) | exact SlA.of_row a5 (by first | rfl | (simp; done) | (simp <;> omega))) rfl rfl (by omega)) ?_
        refine .qg rfl (.loadR on_22_B (by assumption) rfl (by omega)) ?_
        refine .qg rfl (.move rfl) ?_
        refine .qg rfl (.idxN sl_22_A (by assumption) rfl rfl (by omega)) ?_
        refine .qg rfl (.loadI on_2_A (by assumption) rfl (by omega)) ?_
        refine .qg rfl (.cmp rfl rfl rfl) (.q rfl (.pickT rfl rfl) (.nil (c9 _ _ ?_)))
        refine .cond rfl (fun b8 => ?_) (fun b8 => ?_)
        ·
         try simp only [sps] at b8
         refine .region ?_
         obtain ⟨gi, hgi, hbi, hati⟩ := hR.row y (by omega)
         have m3 := row_ne a5 hati rfl
         have cC := slsL_cell a5 (i := y) (by omega)
         rw [hgi] at cC
         refine .mv rfl (.mv rfl ?_)
         refine .q rfl (.idxN sl_23_B (by first | exact (Intss.sl (by assumption)) | exact SlA.of_row a5 (by first | rfl | (simp; done) | (simp <;> omega))) rfl rfl (by omega)) ?_
         refine .q rfl (.load on_22_B rfl cC) (.mv rfl ?_)
         refine .q rfl (.idxN sl_22_A (by first | assumption | exact SlA.of_row hati (by first | rfl | (simp; done) | (simp <;> omega))) rfl rfl (by omega)) ?_
         refine .r0 rfl rfl (.storeI rfl sz_2_Ch rfl rfl (by assumption) (by first | omega | (simp <;> omega))) ?_
         rintro _ H24006 ⟨rfl, b2, b0⟩
         obtain ⟨T2, l⟩ := (hS.set1 (by omega) hgi hbi b2 b0 (by rw [List.length_set]; exact w1) m3 hlS).ex
         refine .nil (c3 _ _ (.region (.mv rfl ?_)))
         refine .q rfl (.add rfl rfl rfl (by omega) (by omega)) ?_
         refine .mv rfl (.nil ?_)
         refine h ((z + 1, T2)) _ _ ?_ ?_ ⟨rfl, rfl, rfl, rfl, rfl, trivial⟩
         ·
          exact ⟨by omega, l⟩
         (dsimp only; omega)
        obtain ⟨T2, l⟩ := hS.ex
        refine .skip ?_
        refine c3 _ _ (.region (.mv rfl ?_))
        refine .q rfl (.add rfl rfl rfl (by omega) (by omega)) ?_
        refine .mv rfl (.nil ?_)
        refine h ((z + 1, T2)) _ _ ?_ ?_ ⟨rfl, rfl, rfl, rfl, rfl, trivial⟩
        ·
         exact ⟨by omega, l⟩
        (dsimp only; omega)
       obtain ⟨T2, l⟩ := hS.ex
       refine .z rfl (.z rfl (.z rfl (.z rfl (.z rfl (.z rfl (.z rfl (.z rfl (.q rfl (.pickF rfl rfl) (.nil (c9 _ _ ?_))))))))))
       refine .condF rfl ?_
       refine .skip ?_
       refine c3 _ _ (.region (.mv rfl ?_))
       refine .q rfl (.add rfl rfl rfl (by omega) (by omega)) ?_
       refine .mv rfl (.nil ?_)
       refine h ((z + 1, T2)) _ _ ?_ ?_ ⟨rfl, rfl, rfl, rfl, rfl, trivial⟩
       ·
        exact ⟨by omega, l⟩
       (dsimp only; omega)
      try simp only [sps] at v
      refine .exit ?_
      refine g9 _ _ (.region (.mv rfl ?_))
      refine .q rfl (.add rfl rfl rfl (by omega) (by omega)) ?_
      refine .mv rfl (.nil ?_)
      refine u ((y + 1, T)) _ _ ?_ ?_ ⟨rfl, rfl, rfl, rfl, trivial⟩
      ·
       exact ⟨by omega, hS⟩
      (dsimp only; omega)
     try simp only [sps] at a4
     refine .exit ?_
     refine e9 _ _ (.region (.mv rfl ?_))
     refine .q rfl (.add rfl rfl rfl (by omega) (by omega)) ?_
     refine .mv rfl (.nil ?_)
     refine a6 ((x + 1, T)) _ _ ?_ ?_ ⟨rfl, rfl, rfl, trivial⟩
     ·
      exact ⟨by omega, hS⟩
     (dsimp only; omega)
    try simp only [sps] at a3
    refine .exit ?_
    refine g6 _ _ (.seq (fun K31 h8 => .region (.mv rfl (.mv rfl (.nil (h8 _ _ ?_))))))
    refine .ret ?_
    refine c1 _ _ ?_
    refine ⟨_, rfl, ?_⟩
    exact ⟨some ⟨gV, 0, none⟩, T, rr, by rw [hlen], hR.done a5 b5, by omega, fun k hk => by rw [hrow k hk]; omega, b, hs⟩
   simp only [sps] at e2
   obtain ⟨T1, l⟩ := (RelSt.mk b a5 b5 (hR.st rk (.cons (hR.lowNe hlS) (.nil _ _))) hlen hrow hs).ex
   refine .skip ?_
   refine c2 _ _ (.seq (fun K32 f3 => .seq (fun K33 h2 => .region (.mv rfl (.nil (h2 _ _ ?_))))))
   refine .block ?_
   refine .loopR (σ := Nat × List (List Int)) [(1, some _), (5, some _)] (fun (x, T) => [(9, some (.int .i64 (x : Int)))]) (fun (x, T) H' => x ≤ n ∧ RelSt 120 2 22 H H' gS gV n i rr T) (fun (x, T) => n - x) ((0, T1)) ⟨rfl, rfl, trivial⟩ ⟨rfl, trivial⟩ ?_ ?_
   ·
    exact ⟨by omega, l⟩
   rintro ⟨x, T⟩ HL3 hI KL3 a6
   refine .forget (fr' := [(9, some (.int .i64 (x : Int))), (1, some _), (5, some _)]) ⟨rfl, rfl, rfl, trivial⟩ ?_
   obtain ⟨-, hS⟩ := hI
   obtain ⟨b, a5, b5, hR, hlen, hrow, hs⟩ := id hS
   refine .seq (fun K34 f5 => .seq (fun K35 f0 => .region (.mv rfl (.mv rfl (.q rfl (.cmp rfl rfl rfl) (.nil (f0 _ _ ?_)))))))
   refine .cond rfl (fun a3 => ?_) (fun a3 => ?_)
   ·
    simp only [sps] at a3
    refine .skip ?_
    refine f5 _ _ (.seq (fun K36 e8 => ?_))
    refine .block ?_
    refine .seq (fun K37 d4 => .region (.mv rfl (.nil (d4 _ _ ?_))))
    refine .block ?_
    refine .loopR (σ := Nat × List (List Int)) [(1, some _), (5, some _), (9, some _)] (fun (y, T) => [(10, some (.int .i64 (y : Int)))]) (fun (y, T) H' => y ≤ n ∧ RelSt 120 2 22 H H' gS gV n i rr T) (fun (y, T) => n - y) ((0, T)) ⟨rfl, rfl, rfl, trivial⟩ ⟨rfl, trivial⟩ ?_ ?_
    ·
     exact ⟨by omega, hS⟩
    rintro ⟨y, T⟩ HL4 hI KL4 u
    refine .forget (fr' := [(10, some (.int .i64 (y : Int))), (1, some _), (5, some _), (9, some _)]) ⟨rfl, rfl, rfl, rfl, trivial⟩ ?_
    obtain ⟨-, hS⟩ := hI
    obtain ⟨-, -, -, -, hlen, -, -⟩ := id hS
    refine .seq (fun K38 i1 => .seq (fun K39 g0 => .region (.mv rfl (.mv rfl (.q rfl (.cmp rfl rfl rfl) (.nil (g0 _ _ ?_)))))))
    refine .cond rfl (fun a4 => ?_) (fun a4 => ?_)
    ·
     simp only [sps] at a4
     refine .skip ?_
     refine i1 _ _ (.seq (fun K40 f9 => ?_))
     refine .block ?_
     refine .seq (fun K41 f8 => .region (.mv rfl (.nil (f8 _ _ ?_))))
     refine .block ?_
     refine .loopR (σ := Nat × List (List Int)) [(1, some _), (5, some _), (9, some _), (10, some _)] (fun (z, T) => [(11, some (.int .i64 (z : Int)))]) (fun (z, T) H' => z ≤ n ∧ RelSt 120 2 22 H H' gS gV n i rr T) (fun (z, T) => n - z) ((0, T)) ⟨rfl, rfl, rfl, rfl, trivial⟩ ⟨rfl, trivial⟩ ?_ ?_
     ·
      exact ⟨by omega, hS⟩
     rintro ⟨z, T⟩ HL5 hI KL5 h
     refine .forget (fr' := [(11, some (.int .i64 (z : Int))), (1, some _), (5, some _), (9, some _), (10, some _)]) ⟨rfl, rfl, rfl, rfl, rfl, trivial⟩ ?_
     obtain ⟨-, hS⟩ := hI
     obtain ⟨-, a5, b5, hR, hlen, hrow, -⟩ := id hS
     refine .seq (fun K42 f6 => .seq (fun K43 i4 => .region (.mv rfl (.mv rfl (.q rfl (.cmp rfl rfl rfl) (.nil (i4 _ _ ?_)))))))
     refine .cond rfl (fun v => ?_) (fun v => ?_)
     ·
      simp only [sps] at v
      have iT := hR.intss a5 b5
      have u1 := iT.2 y (by omega)
      have u2 := iT.2 x (by omega)
      have w1 := hrow y (by omega)
      have w2 := hrow x (by omega)
      refine .skip ?_
      refine f6 _ _ (.seq (fun K44 c4 => ?_))
      refine .block ?_
      refine .seq (fun K45 c7 => .region (.mv rfl (.mv rfl ?_)))
      refine .q rfl (.idxN sl_23_B (by first | exact (Intss.sl (by assumption)) | exact SlA.of_row a5 (by first | rfl | (simp; done) | (simp <;> omega))) rfl rfl (by omega)) ?_
      refine .q rfl (.loadR on_22_B (by assumption) rfl (by omega)) ?_
      refine .mv rfl ?_
      refine .q rfl (.idxN sl_22_A (by assumption) rfl rfl (by omega)) ?_
      refine .q rfl (.loadI on_2_A (by assumption) rfl (by omega)) ?_
      refine .q rfl (.cmp rfl rfl rfl) (.mv rfl ?_)
      refine .split (fun b7 => ?_) (fun b7 => ?_)
      ·
       try simp only [sps] at b7
       refine .qg rfl (.move rfl) (.qg rfl (.move rfl) ?_)
       refine .qg rfl (.idxN sl_23_B (by first | exact (Intss.sl (by assumption)) | exact SlA.of_row a5 (by first | rfl | (simp; done) | (simp <;> omega))) rfl rfl (by omega)) ?_
       refine .qg rfl (.loadR on_22_B (by assumption) rfl (by omega)) ?_
       refine .qg rfl (.move rfl) ?_
       refine .qg rfl (.idxN sl_22_A (by assumption) rfl rfl (by omega)) ?_
       refine .qg rfl (.loadI on_2_A (by assumption) rfl (by omega)) ?_
       refine .qg rfl (.cmp rfl rfl rfl) (.q rfl (.pickT rfl rfl) (.nil (c7 _ _ ?_)))
       refine .cond rfl (fun b8 => ?_) (fun b8 => ?_)
       ·
        try simp only [sps] at b8
        refine .region ?_
        obtain ⟨gi, hgi, hbi, hati⟩ := hR.row y (by omega)
        have m3 := row_ne a5 hati rfl
        have cC := slsL_cell a5 (i := y) (by omega)
        rw [hgi] at cC
        refine .mv rfl (.mv rfl ?_)
        refine .q rfl (.idxN sl_23_B (by first | exact (Intss.sl (by assumption)) | exact SlA.of_row a5 (by first | rfl | (simp; done) | (simp <;> omega))) rfl rfl (by omega)) ?_
        refine .q rfl (.load on_22_B rfl cC) (.mv rfl ?_)
        refine .q rfl (.idxN sl_22_A (by first | assumption | exact SlA.of_row hati (by first | rfl | (simp; done) | (simp <;> omega))) rfl rfl (by omega)) ?_
        refine .r0 rfl rfl (.storeI rfl sz_2_Ch rfl rfl (by assumption) (by first | omega | (simp <;> omega))) ?_
        rintro _ H24006x2 ⟨rfl, r, p⟩
        obtain ⟨T2, l⟩ := (hS.set1 (by omega) hgi hbi r p (by rw [List.length_set]; exact w1) m3 hlS).ex
        refine .nil (c4 _ _ (.region (.mv rfl ?_)))
        refine .q rfl (.add rfl rfl rfl (by omega) (by omega)) ?_
        refine .mv rfl (.nil ?_)
        refine h ((z + 1, T2)) _ _ ?_ ?_ ⟨rfl, rfl, rfl, rfl, rfl, trivial⟩
        ·
         exact ⟨by omega, l⟩
        (dsimp only; omega)
       obtain ⟨T2, l⟩ := hS.ex
       refine .skip ?_
       refine c4 _ _ (.region (.mv rfl ?_))
       refine .q rfl (.add rfl rfl rfl (by omega) (by omega)) ?_
       refine .mv rfl (.nil ?_)
       refine h ((z + 1, T2)) _ _ ?_ ?_ ⟨rfl, rfl, rfl, rfl, rfl, trivial⟩
       ·
        exact ⟨by omega, l⟩
       (dsimp only; omega)
      obtain ⟨T2, l⟩ := hS.ex
      refine .z rfl (.z rfl (.z rfl (.z rfl (.z rfl (.z rfl (.z rfl (.z rfl (.q rfl (.pickF rfl rfl) (.nil (c7 _ _ ?_))))))))))
      refine .condF rfl ?_
      refine .skip ?_
      refine c4 _ _ (.region (.mv rfl ?_))
      refine .q rfl (.add rfl rfl rfl (by omega) (by omega)) ?_
      refine .mv rfl (.nil ?_)
      refine h ((z + 1, T2)) _ _ ?_ ?_ ⟨rfl, rfl, rfl, rfl, rfl, trivial⟩
      ·
       exact ⟨by omega, l⟩
      (dsimp only; omega)
     try simp only [sps] at v
     refine .exit ?_
     refine f9 _ _ (.region (.mv rfl ?_))
     refine .q rfl (.add rfl rfl rfl (by omega) (by omega)) ?_
     refine .mv rfl (.nil ?_)
     refine u ((y + 1, T)) _ _ ?_ ?_ ⟨rfl, rfl, rfl, rfl, trivial⟩
     ·
      exact ⟨by omega, hS⟩
     (dsimp only; omega)
    try simp only [sps] at a4
    refine .exit ?_
    refine e8 _ _ (.region (.mv rfl ?_))
    refine .q rfl (.add rfl rfl rfl (by omega) (by omega)) ?_
    refine .mv rfl (.nil ?_)
    refine a6 ((x + 1, T)) _ _ ?_ ?_ ⟨rfl, rfl, rfl, trivial⟩
    ·
     exact ⟨by omega, hS⟩
    (dsimp only; omega)
   try simp only [sps] at a3
   refine .exit ?_
   refine f3 _ _ (.seq (fun K46 f2 => .region (.mv rfl (.mv rfl (.nil (f2 _ _ ?_))))))
   refine .ret ?_
   refine c1 _ _ ?_
   refine ⟨_, rfl, ?_⟩
   exact ⟨some ⟨gV, 0, none⟩, T, rr, by rw [hlen], hR.done a5 b5, by omega, fun k hk => by rw [hrow k hk]; omega, b, hs⟩
  simp only [sps] at i3
  obtain ⟨T1, l⟩ := hS.ex
  refine .z rfl (.z rfl (.z rfl (.q rfl (.pickF rfl rfl) (.nil (d1 _ _ ?_)))))
  refine .condF rfl ?_
  refine .skip ?_
  refine c2 _ _ (.seq (fun K47 e0 => .seq (fun K48 d6 => .region (.mv rfl (.nil (d6 _ _ ?_))))))
  refine .block ?_
  refine .loopR (σ := Nat × List (List Int)) [(1, some _), (5, some _)] (fun (x, T) => [(9, some (.int .i64 (x : Int)))]) (fun (x, T) H' => x ≤ n ∧ RelSt 120 2 22 H H' gS gV n i rr T) (fun (x, T) => n - x) ((0, T1)) ⟨rfl, rfl, trivial⟩ ⟨rfl, trivial⟩ ?_ ?_
  ·
   exact ⟨by omega, l⟩
  rintro ⟨x, T⟩ HL3 hI KL3 a6
  refine .forget (fr' := [(9, some (.int .i64 (x : Int))), (1, some _), (5, some _)]) ⟨rfl, rfl, rfl, trivial⟩ ?_
  obtain ⟨-, hS⟩ := hI
  obtain ⟨b, a5, b5, hR, hlen, hrow, hs⟩ := id hS
  refine .seq (fun K49 e7 => .seq (fun K50 g8 => .region (.mv rfl (.mv rfl (.q rfl (.cmp rfl rfl rfl) (.nil (g8 _ _ ?_)))))))
  refine .cond rfl (fun a3 => ?_) (fun a3 => ?_)
  ·
   simp only [sps] at a3
   refine .skip ?_
   refine e7 _ _ (.seq (fun K51 h3 => ?_))
   refine .block ?_
   refine .seq (fun K52 e3 => .region (.mv rfl (.nil (e3 _ _ ?_))))
   refine .block ?_
   refine .loopR (σ := Nat × List (List Int)) [(1, some _), (5, some _), (9, some _)] (fun (y, T) => [(10, some (.int .i64 (y : Int)))]) (fun (y, T) H' => y ≤ n ∧ RelSt 120 2 22 H H' gS gV n i rr T) (fun (y, T) => n - y) ((0, T)) ⟨rfl, rfl, rfl, trivial⟩ ⟨rfl, trivial⟩ ?_ ?_
   ·
    exact ⟨by omega, hS⟩
   rintro ⟨y, T⟩ HL4 hI KL4 u
   refine .forget (fr' := [(10, some (.int .i64 (y : Int))), (1, some _), (5, some _), (9, some _)]) ⟨rfl, rfl, rfl, rfl, trivial⟩ ?_
   obtain ⟨-, hS⟩ := hI
   obtain ⟨-, -, -, -, hlen, -, -⟩ := id hS
   refine .seq (fun K53 d3 => .seq (fun K54 h5 => .region (.mv rfl (.mv rfl (.q rfl (.cmp rfl rfl rfl) (.nil (h5 _ _ ?_)))))))
   refine .cond rfl (fun a4 => ?_) (fun a4 => ?_)
   ·
    simp only [sps] at a4
    refine .skip ?_
    refine d3 _ _ (.seq (fun K55 h6 => ?_))
    refine .block ?_
    refine .seq (fun K56 e1 => .region (.mv rfl (.nil (e1 _ _ ?_))))
    refine .block ?_
    refine .loopR (σ := Nat × List (List Int)) [(1, some _), (5, some _), (9, some _), (10, some _)] (fun (z, T) => [(11, some (.int .i64 (z : Int)))]) (fun (z, T) H' => z ≤ n ∧ RelSt 120 2 22 H H' gS gV n i rr T) (fun (z, T) => n - z) ((0, T)) ⟨rfl, rfl, rfl, rfl, trivial⟩ ⟨rfl, trivial⟩ ?_ ?_
    ·
     exact ⟨by omega, hS⟩
    rintro ⟨z, T⟩ HL5 hI KL5 h
    refine .forget (fr' := [(11, some (.int .i64 (z : Int))), (1, some _), (5, some _), (9, some _), (10, some _)]) ⟨rfl, rfl, rfl, rfl, rfl, trivial⟩ ?_
    obtain ⟨-, hS⟩ := hI
    obtain ⟨-, a5, b5, hR, hlen, hrow, -⟩ := id hS
    refine .seq (fun K57 e5 => .seq (fun K58 d7 => .region (.mv rfl (.mv rfl (.q rfl (.cmp rfl rfl rfl) (.nil (d7 _ _ ?_)))))))
    refine .cond rfl (fun v => ?_) (fun v => ?_)
    ·
     simp only [sps] at v
     have iT := hR.intss a5 b5
     have u1 := iT.2 y (by omega)
     have u2 := iT.2 x (by omega)
     have w1 := hrow y (by omega)
     have w2 := hrow x (by omega)
     refine .skip ?_
     refine e5 _ _ (.seq (fun K59 b9 => ?_))
     refine .block ?_
     refine .seq (fun K60 c8 => .region (.mv rfl (.mv rfl ?_)))
     refine .q rfl (.idxN sl_23_B (by first | exact (Intss.sl (by assumption)) | exact SlA.of_row a5 (by first | rfl | (simp; done) | (simp <;> omega))) rfl rfl (by omega)) ?_
     refine .q rfl (.loadR on_22_B (by assumption) rfl (by omega)) ?_
     refine .mv rfl ?_
     refine .q rfl (.idxN sl_22_A (by assumption) rfl rfl (by omega)) ?_
     refine .q rfl (.loadI on_2_A (by assumption) rfl (by omega)) ?_
     refine .q rfl (.cmp rfl rfl rfl) (.mv rfl ?_)
     refine .split (fun b7 => ?_) (fun b7 => ?_)
     ·
      try simp only [sps] at b7
      refine .qg rfl (.move rfl) (.qg rfl (.move rfl) ?_)
      refine .qg rfl (.idxN sl_23_B (by first | exact (Intss.sl (by assumption)) | exact SlA.of_row a5 (by first | rfl | (simp; done) | (simp <;> omega))) rfl rfl (by omega)) ?_
      refine .qg rfl (.loadR on_22_B (by assumption) rfl (by omega)) ?_
      refine .qg rfl (.move rfl) ?_
      refine .qg rfl (.idxN sl_22_A (by assumption) rfl rfl (by omega)) ?_
      refine .qg rfl (.loadI on_2_A (by assumption) rfl (by omega)) ?_
      refine .qg rfl (.cmp rfl rfl rfl) (.q rfl (.pickT rfl rfl) (.nil (c8 _ _ ?_)))
      refine .cond rfl (fun b8 => ?_) (fun b8 => ?_)
      ·
       try simp only [sps] at b8
       refine .region ?_
       obtain ⟨gi, hgi, hbi, hati⟩ := hR.row y (by omega)
       have m3 := row_ne a5 hati rfl
       have cC := slsL_cell a5 (i := y) (by omega)
       rw [hgi] at cC
       refine .mv rfl (.mv rfl ?_)
       refine .q rfl (.idxN sl_23_B (by first | exact (Intss.sl (by assumption)) | exact SlA.of_row a5 (by first | rfl | (simp; done) | (simp <;> omega))) rfl rfl (by omega)) ?_
       refine .q rfl (.load on_22_B rfl cC) (.mv rfl ?_)
       refine .q rfl (.idxN sl_22_A (by first | assumption | exact SlA.of_row hati (by first | rfl | (simp; done) | (simp <;> omega))) rfl rfl (by omega)) ?_
       refine .r0 rfl rfl (.storeI rfl sz_2_Ch rfl rfl (by assumption) (by first | omega | (simp <;> omega))) ?_
       rintro _ H24006x3 ⟨rfl, o, t⟩
       obtain ⟨T2, l⟩ := (hS.set1 (by omega) hgi hbi o t (by rw [List.length_set]; exact w1) m3 hlS).ex
       refine .nil (b9 _ _ (.region (.mv rfl ?_)))
       refine .q rfl (.add rfl rfl rfl (by omega) (by omega)) ?_
       refine .mv rfl (.nil ?_)
       refine h ((z + 1, T2)) _ _ ?_ ?_ ⟨rfl, rfl, rfl, rfl, rfl, trivial⟩
       ·
        exact ⟨by omega, l⟩
       (dsimp only; omega)
      obtain ⟨T2, l⟩ := hS.ex
      refine .skip ?_
      refine b9 _ _ (.region (.mv rfl ?_))
      refine .q rfl (.add rfl rfl rfl (by omega) (by omega)) ?_
      refine .mv rfl (.nil ?_)
      refine h ((z + 1, T2)) _ _ ?_ ?_ ⟨rfl, rfl, rfl, rfl, rfl, trivial⟩
      ·
       exact ⟨by omega, l⟩
      (dsimp only; omega)
     obtain ⟨T2, l⟩ := hS.ex
     refine .z rfl (.z rfl (.z rfl (.z rfl (.z rfl (.z rfl (.z rfl (.z rfl (.q rfl (.pickF rfl rfl) (.nil (c8 _ _ ?_))))))))))
     refine .condF rfl ?_
     refine .skip ?_
     refine b9 _ _ (.region (.mv rfl ?_))
     refine .q rfl (.add rfl rfl rfl (by omega) (by omega)) ?_
     refine .mv rfl (.nil ?_)
     refine h ((z + 1, T2)) _ _ ?_ ?_ ⟨rfl, rfl, rfl, rfl, rfl, trivial⟩
     ·
      exact ⟨by omega, l⟩
     (dsimp only; omega)
    try simp only [sps] at v
    refine .exit ?_
    refine h6 _ _ (.region (.mv rfl ?_))
    refine .q rfl (.add rfl rfl rfl (by omega) (by omega)) ?_
    refine .mv rfl (.nil ?_)
    refine u ((y + 1, T)) _ _ ?_ ?_ ⟨rfl, rfl, rfl, rfl, trivial⟩
    ·
     exact ⟨by omega, hS⟩
    (dsimp only; omega)
   try simp only [sps] at a4
   refine .exit ?_
   refine h3 _ _ (.region (.mv rfl ?_))
   refine .q rfl (.add rfl rfl rfl (by omega) (by omega)) ?_
   refine .mv rfl (.nil ?_)
   refine a6 ((x + 1, T)) _ _ ?_ ?_ ⟨rfl, rfl, rfl, trivial⟩
   ·
    exact ⟨by omega, hS⟩
   (dsimp only; omega)
  try simp only [sps] at a3
  refine .exit ?_
  refine e0 _ _ (.seq (fun K61 d9 => .region (.mv rfl (.mv rfl (.nil (d9 _ _ ?_))))))
  refine .ret ?_
  refine c1 _ _ ?_
  refine ⟨_, rfl, ?_⟩
  exact ⟨some ⟨gV, 0, none⟩, T, rr, by rw [hlen], hR.done a5 b5, by omega, fun k hk => by rw [hrow k hk]; omega, b, hs⟩
end Go.Proofs.Ytjdedelneppnlaa
