/- Structs of numbers as keys of maps. No condition but those of each statement. -/
import Derived.Test.YtjdedelneppnlaaZ9
import Derived.ChangeKeysEq
namespace Go.GL
open Go.RowKit
theorem forIn_ok {P : Program} {α : Type} {w : World} (f : α → PUnit → Sem (ForInStep PUnit)) : ∀ (l : List α), (∀ a ∈ l, (f a ⟨⟩).run P w = .ok (.yield ⟨⟩) w) → (forIn l PUnit.unit f : Sem PUnit).run P w = .ok ⟨⟩ w
  | [], _ => by simp [Sem.run_pure]
  | a :: l, h => by
    simp only [List.forIn_cons, Sem.run_bind, h a (by simp), Result.andThen_ok]
    exact forIn_ok f l fun b hb => h b (by simp [hb])
def intKeyT (P : Program) (k : TypeId) (n : Nat) : Bool := (P.fieldsOf k).toList.all fun f => P.plainKey f.type && (decide (f.offset < n) && match P.underlying f.type with | some (.int _) => true | _ => false)
theorem checkKeyT {P : Program} {k : TypeId} {n : Nat} (hu : P.underlying k = some (.struct (P.fieldsOf k))) (hf : intKeyT P k n = true) (b : Bool) {t : List Int} (ht : t.length = n) (w : World) : (Instr.checkKey b 10000 k (kvT t)).run P w = .ok () w := by
  show (Instr.checkKey b (9999 + 1) k (.agg (t.map (Value.int .i64)).toArray)).run P w = .ok () w
  unfold Instr.checkKey
  simp only [Sem.run_bind, run_underlying hu, Result.andThen_ok]
  rw [← Array.forIn_toList]
  rw [forIn_ok _ _ (fun f hfm => ?_)]
  · simp [Sem.run_pure]
  have h := List.all_eq_true.1 hf f hfm
  simp only [Bool.and_eq_true, decide_eq_true_eq] at h
  obtain ⟨h1, h2, h3⟩ := h
  have hq : ∃ q, P.underlying f.type = some (.int q) := by
    split at h3
    · rename_i q e; exact ⟨q, e⟩
    · cases h3
  obtain ⟨q, hq⟩ := hq
  have hc : ((t.map (Value.int .i64)).toArray)[f.offset]? = some (.int .i64 (t[f.offset]'(by omega))) := by simp [show f.offset < t.length by omega]
  have hck : ∀ v, (Instr.checkKey b 9999 f.type v).run P w = .ok () w := fun v => by
    show (Instr.checkKey b (9998 + 1) f.type v).run P w = .ok () w
    unfold Instr.checkKey
    simp [Sem.run_bind, run_underlying hq]
  by_cases hn : f.name = "_"
  · simp [hn, Sem.run_pure]
  · simp only [ne_eq, hn, not_false_eq_true, if_true, Sem.run_bind, run_part_plain w h1 hc, Result.andThen_ok, hck, Sem.run_pure]
end Go.GL
namespace Go.Proofs.Ytjdedelneppnlaa
open Go Go.GL Go.RowKit Go.Proofs
theorem bt_125_Li : buildT Try.prog 125 = some ([.pointer none, .int .i64 0, .int .i64 0, .nilFunc, .bool false], [(0, 1), (1, 1), (2, 1), (3, 1), (4, 1)]) := by kernel_rfl
theorem sz_125_Li : (Try.prog.info? 125).map (·.size) = some 5 := by kernel_rfl
theorem sl_100_Li : sliceT Try.prog 100 = some (102, 2) := by kernel_rfl
theorem ze_102_Li : zeroT Try.prog 102 = some ([.int .i64 0, .int .i64 0], 2) := by kernel_rfl
theorem fo_125_0_Li : fieldOff Try.prog 125 0 = some 0 := by kernel_rfl
theorem fo_125_1_Li : fieldOff Try.prog 125 1 = some 1 := by kernel_rfl
theorem fo_125_4_Li : fieldOff Try.prog 125 4 = some 4 := by kernel_rfl
theorem on_4_Li : oneT Try.prog 4 = true := by kernel_rfl
theorem fo_125_3_Li : fieldOff Try.prog 125 3 = some 3 := by kernel_rfl
theorem on_123_Li : oneT Try.prog 123 = true := by kernel_rfl
theorem bt_102_Li : buildT Try.prog 102 = some ([.int .i64 0, .int .i64 0], [(0, 1), (1, 1)]) := by kernel_rfl
theorem by_102_Li : (Try.prog.info? 102).map (·.bytes) = some 16 := by kernel_rfl
theorem fo_125_2_Li : fieldOff Try.prog 125 2 = some 2 := by kernel_rfl
theorem mtt_151_Li : mapTT Try.prog 151 = some (102, 4) := by kernel_rfl
theorem sz_102_Li : (Try.prog.info? 102).map (·.size) = some 2 := by kernel_rfl
theorem fo_102_0_Li : fieldOff Try.prog 102 0 = some 0 := by kernel_rfl
theorem fo_102_1_Li : fieldOff Try.prog 102 1 = some 1 := by kernel_rfl
theorem ag_102_Li : aggT Try.prog 102 = some 2 := by kernel_rfl
theorem products1_c {a b : Int} {H : GHeap} : GCalls Try.prog 104 [.int .i64 a, .int .i64 b] H (Ret (.bool true) H) := by
  refine GCalls.body (N := 5) (rs := [.tmp 4]) Try.func104 rfl rfl rfl rfl (fun Qx hret hend => ?_)
  refine .fg [0, 1] rfl ?_
  have hle := GHeap.Le.refl H
  refine .seq (fun K1 hK1 => .region (.mv rfl (.nil (hK1 _ _ (.seq (fun K2 hK2 => .region (.mv rfl (.nil (hK2 _ _ ?_)))))))))
  refine .ret ?_
  refine hret _ _ ?_
  refine ⟨_, rfl, ?_⟩
  exact .mk
theorem pullbacks1_c {c : Cat} {p : CatP} {g g3 g4 g5 : Nat} {e1 e2 e3 : TypeId} {a b f k : Int} {H : GHeap} (h : Cat.At H g 0 c p) (h3 : H.get g3 = some (.row [.pointer (some ⟨g, 0, none⟩)] e1 true)) (h4 : H.get g4 = some (.row [.int .i64 f] e2 true)) (h5 : H.get g5 = some (.row [.int .i64 k] e3 true)) (hS : c.Shape) (ha : 0 ≤ a ∧ a < c.src.length) (hb : 0 ≤ b ∧ b < c.src.length) (hf : 0 ≤ f ∧ f < c.src.length) (hk : 0 ≤ k ∧ k < c.src.length) :
    GCalls Try.prog 112 [.int .i64 a, .int .i64 b, .pointer (some ⟨g3, 0, none⟩), .pointer (some ⟨g4, 0, none⟩), .pointer (some ⟨g5, 0, none⟩)] H (Ret (.bool (decide (c.th a f = c.th b k))) H) := by
  refine GCalls.body (N := 17) (rs := [.tmp 7]) Try.func112 rfl rfl rfl rfl (fun Qx hret hend => ?_)
  refine .fg [0, 1, 2, 3, 4] rfl ?_
  have hle := GHeap.Le.refl H
  have lt_h3 := GHeap.ltg h3
  have lt_h4 := GHeap.ltg h4
  have lt_h5 := GHeap.ltg h5
  have base_h := h
  refine .seq (fun K1 hK1 => .region (.mv rfl (.nil (hK1 _ _ (.seq (fun K2 hK2 => ?_))))))
  refine .regionD mo_B (.q 0 (.q 1 (.q 2 (.q 4 (.q 5 (.q 6 (.c 3 1 (.c 7 0 (.q 8 (.q 9 (.done))))))))))) (by kernel_rfl) ?_
  refine .q rfl (.load on_69_Fd rfl (by first | assumption | exact Mem.of_get h3 0 _ rfl)) ?_
  refine .mv rfl rfl ?_
  refine .q rfl (.load on_2_A rfl (by first | assumption | exact Mem.of_get h4 0 _ rfl)) ?_
  refine .q rfl (.load on_69_Fd rfl (by first | assumption | exact Mem.of_get h3 0 _ rfl)) ?_
  refine .mv rfl rfl ?_
  refine .q rfl (.load on_2_A rfl (by first | assumption | exact Mem.of_get h5 0 _ rfl)) ?_
  refine .callQ1 rfl rfl rfl rfl rfl @Try.call64 rfl (then_s) (.refl _) ?_
  refine .callQ0 rfl rfl rfl rfl rfl @Try.call64 rfl (then_s) ?_
  refine .q rfl (.cmp rfl rfl rfl) (.mv rfl rfl ?_)
  refine .done ?_
  refine hK2 _ _ ?_
  refine .ret ?_
  refine hret _ _ ?_
  refine ⟨_, rfl, ?_⟩
  exact .of rfl
theorem equalizers1_c {c : Cat} {p : CatP} {g g3 g4 g5 : Nat} {e1 e2 e3 : TypeId} {a b f k : Int} {H : GHeap} (h : Cat.At H g 0 c p) (h3 : H.get g3 = some (.row [.pointer (some ⟨g, 0, none⟩)] e1 true)) (h4 : H.get g4 = some (.row [.int .i64 f] e2 true)) (h5 : H.get g5 = some (.row [.int .i64 k] e3 true)) (hS : c.Shape) (ha : 0 ≤ a ∧ a < c.src.length) (hb : 0 ≤ b ∧ b < c.src.length) (hf : 0 ≤ f ∧ f < c.src.length) (hk : 0 ≤ k ∧ k < c.src.length) :
    GCalls Try.prog 130 [.int .i64 a, .int .i64 b, .pointer (some ⟨g3, 0, none⟩), .pointer (some ⟨g4, 0, none⟩), .pointer (some ⟨g5, 0, none⟩)] H (Ret (.bool (decide (c.th a f = c.th b k))) H) := by
  refine GCalls.body (N := 17) (rs := [.tmp 7]) Try.func130 rfl rfl rfl rfl (fun Qx hret hend => ?_)
  refine .fg [0, 1, 2, 3, 4] rfl ?_
  have hle := GHeap.Le.refl H
  have lt_h3 := GHeap.ltg h3
  have lt_h4 := GHeap.ltg h4
  have lt_h5 := GHeap.ltg h5
  have base_h := h
  refine .seq (fun K1 hK1 => .region (.mv rfl (.nil (hK1 _ _ (.seq (fun K2 hK2 => ?_))))))
  refine .regionD mo_B (.q 0 (.q 1 (.q 2 (.q 4 (.q 5 (.q 6 (.c 3 1 (.c 7 0 (.q 8 (.q 9 (.done))))))))))) (by kernel_rfl) ?_
  refine .q rfl (.load on_69_Fd rfl (by first | assumption | exact Mem.of_get h3 0 _ rfl)) ?_
  refine .mv rfl rfl ?_
  refine .q rfl (.load on_2_A rfl (by first | assumption | exact Mem.of_get h4 0 _ rfl)) ?_
  refine .q rfl (.load on_69_Fd rfl (by first | assumption | exact Mem.of_get h3 0 _ rfl)) ?_
  refine .mv rfl rfl ?_
  refine .q rfl (.load on_2_A rfl (by first | assumption | exact Mem.of_get h5 0 _ rfl)) ?_
  refine .callQ1 rfl rfl rfl rfl rfl @Try.call64 rfl (then_s) (.refl _) ?_
  refine .callQ0 rfl rfl rfl rfl rfl @Try.call64 rfl (then_s) ?_
  refine .q rfl (.cmp rfl rfl rfl) (.mv rfl rfl ?_)
  refine .done ?_
  refine hK2 _ _ ?_
  refine .ret ?_
  refine hret _ _ ?_
  refine ⟨_, rfl, ?_⟩
  exact .of rfl
theorem products_c {c : Cat} {p : CatP} {g : Nat} {x y : Int} {H : GHeap} (h : Cat.At H g 0 c p := by assumption) :
    GCalls Try.prog 55 [.pointer (some ⟨g, 0, none⟩), .int .i64 x, .int .i64 y] H (fun v H' => H.Le H' ∧ ∃ g', v = .pointer (some ⟨g', 0, none⟩) ∧ H.next ≤ g' ∧ SpnAt Try.prog 125 79 c g p H' g' (.prod x y)) := by
  refine GCalls.body (N := 12) (rs := [.tmp 6]) Try.func55 rfl rfl rfl rfl (fun Qx hret hend => ?_)
  refine .fg [0, 1, 2] rfl ?_
  have hle := GHeap.Le.refl H
  have base_h := h
  refine .seq (fun K1 hK1 => .region (.mv rfl (.nil (hK1 _ _ (.seq (fun K2 hK2 => .region (.mv rfl (.mv rfl (.mv rfl (.q rfl (.build bt_125_Li rfl rfl rfl) ?_))))))))))
  refine .R rfl (.boxR rfl sz_125_Li rfl) ?_
  rintro _ H11 ⟨g11, rfl, le11, ge11, at11⟩
  have nx_H11 := le11.1
  replace hle := hle.trans le11
  have lt_at11 := GHeap.ltg at11
  replace h := base_h.mono hle
  have mm11 : MemN _ _ _ _ _ := ⟨rfl, Mem.of_get at11⟩
  refine .mv rfl (.nil (hK2 _ _ ?_))
  refine .ret ?_
  refine hret _ _ ?_
  refine ⟨_, rfl, ?_⟩
  exact ⟨hle, g11, rfl, by omega, _, _, at11, @Try.call104, fun H' _ _ w a b _ _ _ => products1_c⟩
theorem pullbacks_c {c : Cat} {p : CatP} {g : Nat} {f k : Int} {H : GHeap} (h : Cat.At H g 0 c p := by assumption) (hS : c.Shape := by assumption) (hf : 0 ≤ f ∧ f < c.src.length) (hk : 0 ≤ k ∧ k < c.src.length) :
    GCalls Try.prog 66 [.pointer (some ⟨g, 0, none⟩), .int .i64 f, .int .i64 k] H (fun v H' => H.Le H' ∧ ∃ g', v = .pointer (some ⟨g', 0, none⟩) ∧ H.next ≤ g' ∧ SpnAt Try.prog 125 79 c g p H' g' (c.pull f k)) := by
  refine GCalls.body (N := 25) (rs := [.tmp 6]) Try.func66 rfl rfl rfl rfl (fun Qx hret hend => ?_)
  refine .fg [0, 1, 2] rfl ?_
  have hle := GHeap.Le.refl H
  have base_h := h
  obtain ⟨c0, c1, c2, c3, c4, i1, i2, i3, i4⟩ := h.get
  have hm : MemN _ _ _ _ _ := ⟨rfl, h.1⟩
  have hi := h.2
  refine .seq (fun K1 hK1 => .region ?_)
  refine .R rfl (.boxR rfl sz_69_Fd rfl) ?_
  rintro _ H3 ⟨g3, rfl, le3, ge3, at3⟩
  have nx_H3 := le3.1
  replace hle := hle.trans le3
  have lt_at3 := GHeap.ltg at3
  replace h := base_h.mono hle
  clear c0 c1 c2 c3 c4 i1 i2 i3 i4 hm hi
  obtain ⟨c0, c1, c2, c3, c4, i1, i2, i3, i4⟩ := h.get
  have hm : MemN _ _ _ _ _ := ⟨rfl, h.1⟩
  have hi := h.2
  refine .R rfl (.boxR rfl sz_2_E rfl) ?_
  rintro _ H4 ⟨g4, rfl, le4, ge4, at4⟩
  have nx_H4 := le4.1
  replace hle := hle.trans le4
  replace at3 := le4.2 _ _ at3
  have lt_at4 := GHeap.ltg at4
  replace h := base_h.mono hle
  clear c0 c1 c2 c3 c4 i1 i2 i3 i4 hm hi
  obtain ⟨c0, c1, c2, c3, c4, i1, i2, i3, i4⟩ := h.get
  have hm : MemN _ _ _ _ _ := ⟨rfl, h.1⟩
  have hi := h.2
  refine .R rfl (.boxR rfl sz_2_E rfl) ?_
  rintro _ H5 ⟨g5, rfl, le5, ge5, at5⟩
  have nx_H5 := le5.1
  replace hle := hle.trans le5
  replace at3 := le5.2 _ _ at3
  replace at4 := le5.2 _ _ at4
  have lt_at5 := GHeap.ltg at5
  replace h := base_h.mono hle
  clear c0 c1 c2 c3 c4 i1 i2 i3 i4 hm hi
  obtain ⟨c0, c1, c2, c3, c4, i1, i2, i3, i4⟩ := h.get
  have hm : MemN _ _ _ _ _ := ⟨rfl, h.1⟩
  have hi := h.2
  refine .mv rfl (.nil (hK1 _ _ (.seq (fun K2 hK2 => ?_))))
  refine .regionD mo_B (.q 0 (.q 1 (.q 2 (.q 3 (.q 4 (.q 5 (.q 6 (.q 7 (.q 8 (.q 9 (.q 10 (.q 11 (.q 12 (.q 13 (.q 14 (.q 15 (.q 16 (.c 17 0 (.q 18 (.done)))))))))))))))))))) (by kernel_rfl) ?_
  refine .q rfl (.load on_69_Fd rfl (by first | assumption | exact Mem.of_get at3 0 _ rfl)) ?_
  refine .q rfl (.load on_69_Fd rfl (by first | assumption | exact Mem.of_get at3 0 _ rfl)) ?_
  refine .q rfl (.nilCheck rfl) (.q rfl (.fieldAddr fo_29_1_B rfl) ?_)
  refine .q rfl (.load on_22_B rfl (by assumption)) ?_
  refine .q rfl (.load on_2_A rfl (by first | assumption | exact Mem.of_get at4 0 _ rfl)) ?_
  refine .q rfl (.idx1 sl_22_A (by assumption) rfl rfl (by omega) (by omega)) ?_
  refine .q rfl (.loadI on_2_A (by assumption) rfl (by omega)) ?_
  refine .q rfl (.load on_69_Fd rfl (by first | assumption | exact Mem.of_get at3 0 _ rfl)) ?_
  refine .q rfl (.nilCheck rfl) (.q rfl (.fieldAddr fo_29_1_B rfl) ?_)
  refine .q rfl (.load on_22_B rfl (by assumption)) ?_
  refine .q rfl (.load on_2_A rfl (by first | assumption | exact Mem.of_get at5 0 _ rfl)) ?_
  refine .q rfl (.idx1 sl_22_A (by assumption) rfl rfl (by omega) (by omega)) ?_
  refine .q rfl (.loadI on_2_A (by assumption) rfl (by omega)) ?_
  refine .q rfl (.makeFunc rfl) (.q rfl (.build bt_125_Li rfl rfl rfl) ?_)
  refine .c0 rfl rfl rfl rfl (.boxR rfl sz_125_Li rfl) ?_
  rintro _ H24 ⟨g24, rfl, le24, ge24, at24⟩
  have nx_H24 := le24.1
  replace hle := hle.trans le24
  replace at3 := le24.2 _ _ at3
  replace at4 := le24.2 _ _ at4
  replace at5 := le24.2 _ _ at5
  have lt_at24 := GHeap.ltg at24
  replace h := base_h.mono hle
  clear c0 c1 c2 c3 c4 i1 i2 i3 i4 hm hi
  obtain ⟨c0, c1, c2, c3, c4, i1, i2, i3, i4⟩ := h.get
  have hm : MemN _ _ _ _ _ := ⟨rfl, h.1⟩
  have hi := h.2
  have mm24 : MemN _ _ _ _ _ := ⟨rfl, Mem.of_get at24⟩
  refine .mv rfl rfl ?_
  refine .done ?_
  refine hK2 _ _ ?_
  refine .ret ?_
  refine hret _ _ ?_
  refine ⟨_, rfl, ?_⟩
  refine ⟨hle, g24, rfl, by omega, _, _, at24, @Try.call112, fun H' l hc w a b ha _ hb => ?_⟩
  obtain ⟨A, a1, _, _, a4⟩ := Cat.mem_hom.1 ha
  obtain ⟨B', b1, _, _, b4⟩ := Cat.mem_hom.1 (hb Bool.false_ne_true)
  exact pullbacks1_c hc (l _ rfl _ _ at3) (l _ rfl _ _ at4) (l _ rfl _ _ at5) hS (by omega) (by omega) hf hk
theorem equalizers_c {c : Cat} {p : CatP} {g : Nat} {f k : Int} {H : GHeap} (h : Cat.At H g 0 c p := by assumption) (hS : c.Shape := by assumption) (hf : 0 ≤ f ∧ f < c.src.length) (hk : 0 ≤ k ∧ k < c.src.length) :
    GCalls Try.prog 98 [.pointer (some ⟨g, 0, none⟩), .int .i64 f, .int .i64 k] H (fun v H' => H.Le H' ∧ ∃ g', v = .pointer (some ⟨g', 0, none⟩) ∧ H.next ≤ g' ∧ SpnAt Try.prog 125 79 c g p H' g' (c.fork f k)) := by
  refine GCalls.body (N := 25) (rs := [.tmp 6]) Try.func98 rfl rfl rfl rfl (fun Qx hret hend => ?_)
  refine .fg [0, 1, 2] rfl ?_
  have hle := GHeap.Le.refl H
  have base_h := h
  obtain ⟨c0, c1, c2, c3, c4, i1, i2, i3, i4⟩ := h.get
  have hm : MemN _ _ _ _ _ := ⟨rfl, h.1⟩
  have hi := h.2
  refine .seq (fun K1 hK1 => .region ?_)
  refine .R rfl (.boxR rfl sz_69_Fd rfl) ?_
  rintro _ H3 ⟨g3, rfl, le3, ge3, at3⟩
  have nx_H3 := le3.1
  replace hle := hle.trans le3
  have lt_at3 := GHeap.ltg at3
  replace h := base_h.mono hle
  clear c0 c1 c2 c3 c4 i1 i2 i3 i4 hm hi
  obtain ⟨c0, c1, c2, c3, c4, i1, i2, i3, i4⟩ := h.get
  have hm : MemN _ _ _ _ _ := ⟨rfl, h.1⟩
  have hi := h.2
  refine .R rfl (.boxR rfl sz_2_E rfl) ?_
  rintro _ H4 ⟨g4, rfl, le4, ge4, at4⟩
  have nx_H4 := le4.1
  replace hle := hle.trans le4
  replace at3 := le4.2 _ _ at3
  have lt_at4 := GHeap.ltg at4
  replace h := base_h.mono hle
  clear c0 c1 c2 c3 c4 i1 i2 i3 i4 hm hi
  obtain ⟨c0, c1, c2, c3, c4, i1, i2, i3, i4⟩ := h.get
  have hm : MemN _ _ _ _ _ := ⟨rfl, h.1⟩
  have hi := h.2
  refine .R rfl (.boxR rfl sz_2_E rfl) ?_
  rintro _ H5 ⟨g5, rfl, le5, ge5, at5⟩
  have nx_H5 := le5.1
  replace hle := hle.trans le5
  replace at3 := le5.2 _ _ at3
  replace at4 := le5.2 _ _ at4
  have lt_at5 := GHeap.ltg at5
  replace h := base_h.mono hle
  clear c0 c1 c2 c3 c4 i1 i2 i3 i4 hm hi
  obtain ⟨c0, c1, c2, c3, c4, i1, i2, i3, i4⟩ := h.get
  have hm : MemN _ _ _ _ _ := ⟨rfl, h.1⟩
  have hi := h.2
  refine .mv rfl (.nil (hK1 _ _ (.seq (fun K2 hK2 => ?_))))
  refine .regionD mo_B (.q 0 (.q 1 (.q 2 (.q 3 (.q 4 (.q 5 (.q 6 (.q 7 (.q 8 (.q 9 (.q 10 (.q 11 (.q 12 (.q 13 (.q 14 (.q 15 (.q 16 (.c 17 0 (.q 18 (.done)))))))))))))))))))) (by kernel_rfl) ?_
  refine .q rfl (.load on_69_Fd rfl (by first | assumption | exact Mem.of_get at3 0 _ rfl)) ?_
  refine .q rfl (.load on_69_Fd rfl (by first | assumption | exact Mem.of_get at3 0 _ rfl)) ?_
  refine .q rfl (.nilCheck rfl) (.q rfl (.fieldAddr fo_29_1_B rfl) ?_)
  refine .q rfl (.load on_22_B rfl (by assumption)) ?_
  refine .q rfl (.load on_2_A rfl (by first | assumption | exact Mem.of_get at4 0 _ rfl)) ?_
  refine .q rfl (.idx1 sl_22_A (by assumption) rfl rfl (by omega) (by omega)) ?_
  refine .q rfl (.loadI on_2_A (by assumption) rfl (by omega)) ?_
  refine .q rfl (.load on_69_Fd rfl (by first | assumption | exact Mem.of_get at3 0 _ rfl)) ?_
  refine .q rfl (.nilCheck rfl) (.q rfl (.fieldAddr fo_29_1_B rfl) ?_)
  refine .q rfl (.load on_22_B rfl (by assumption)) ?_
  refine .q rfl (.load on_2_A rfl (by first | assumption | exact Mem.of_get at4 0 _ rfl)) ?_
  refine .q rfl (.idx1 sl_22_A (by assumption) rfl rfl (by omega) (by omega)) ?_
  refine .q rfl (.loadI on_2_A (by assumption) rfl (by omega)) ?_
  refine .q rfl (.makeFunc rfl) (.q rfl (.build bt_125_Li rfl rfl rfl) ?_)
  refine .c0 rfl rfl rfl rfl (.boxR rfl sz_125_Li rfl) ?_
  rintro _ H24 ⟨g24, rfl, le24, ge24, at24⟩
  have nx_H24 := le24.1
  replace hle := hle.trans le24
  replace at3 := le24.2 _ _ at3
  replace at4 := le24.2 _ _ at4
  replace at5 := le24.2 _ _ at5
  have lt_at24 := GHeap.ltg at24
  replace h := base_h.mono hle
  clear c0 c1 c2 c3 c4 i1 i2 i3 i4 hm hi
  obtain ⟨c0, c1, c2, c3, c4, i1, i2, i3, i4⟩ := h.get
  have hm : MemN _ _ _ _ _ := ⟨rfl, h.1⟩
  have hi := h.2
  have mm24 : MemN _ _ _ _ _ := ⟨rfl, Mem.of_get at24⟩
  refine .mv rfl rfl ?_
  refine .done ?_
  refine hK2 _ _ ?_
  refine .ret ?_
  refine hret _ _ ?_
  refine ⟨_, rfl, ?_⟩
  refine ⟨hle, g24, rfl, by omega, _, _, at24, @Try.call130, fun H' l hc w a b ha hb _ => ?_⟩
  obtain ⟨A, a1, _, _, a4⟩ := Cat.mem_hom.1 ha
  obtain rfl := hb rfl
  exact equalizers1_c hc (l _ rfl _ _ at3) (l _ rfl _ _ at4) (l _ rfl _ _ at5) hS (by omega) (by omega) hf hk
set_option maxHeartbeats 4000000 in
theorem spansFrom_c {c : Cat} {p : CatP} {gc g w : Nat} {s : Spn} {H : GHeap} (h : Cat.At H gc 0 c p := by assumption) (hs : SpnAt Try.prog 125 79 c gc p H g s := by assumption) (hS : c.Shape := by assumption) :
    GCalls Try.prog 132 [.pointer (some ⟨g, 0, none⟩), .int .i64 (w : Int)] H (fun v H' => H.Le H' ∧ ∃ g', v = .slice (some ⟨g', 0, none⟩) (c.spL s w).length (c.spL s w).length ∧ H.next ≤ g' ∧ H'.get g' = some (.row (prs (c.spL s w)) 102 true)) := by
  obtain ⟨fn, cap, hg, hF⟩ := hs
  have b1 := hS.n40
  refine GCalls.body (N := 74) (rs := [.tmp 4]) Try.func132 rfl rfl rfl rfl (fun Qx hret hend => ?_)
  refine .fg [0, 1] rfl ?_
  have hle := GHeap.Le.refl H
  have lt_hg := GHeap.ltg hg
  have base_h := h
  refine .seq (fun K1 hK1 => .region (.mv rfl (.nil (hK1 _ _ (.seq (fun K2 hK2 => .region ?_))))))
  have q1 := Cat.hom_le c w s.x
  have q2 := Cat.hom_le c w s.y
  refine .R rfl (.litA rfl sl_100_Li ze_102_Li rfl rfl rfl rfl) ?_
  rintro _ H10 ⟨g10, rfl, le10, ge10, at10⟩
  have nx_H10 := le10.1
  replace hle := hle.trans le10
  replace hg := le10.2 _ _ hg
  have lt_at10 := GHeap.ltg at10
  replace h := base_h.mono hle
  refine .mv rfl (.nil (hK2 _ _ (.seq (fun K3 hK3 => .seq (fun K4 hK4 => ?_)))))
  refine .regionD mo_B (.q 0 (.q 1 (.q 2 (.q 3 (.q 4 (.q 5 (.q 6 (.q 7 (.q 8 (.q 11 (.c 9 1 (.q 10 (.done))))))))))))) (by kernel_rfl) ?_
  refine .mv rfl rfl (.q rfl (.nilCheck rfl) (.q rfl (.fieldAddr fo_125_0_Li rfl) ?_))
  refine .q rfl (.load on_69_Fd rfl (by first | assumption | exact Mem.of_get hg 0 _ rfl)) ?_
  refine .mv rfl rfl (.mv rfl rfl (.q rfl (.nilCheck rfl) (.q rfl (.fieldAddr fo_125_1_Li rfl) ?_)))
  refine .q rfl (.load on_2_A rfl (by first | assumption | exact Mem.of_get hg 1 _ rfl)) ?_
  refine .mv rfl rfl ?_
  refine .call1 rfl rfl rfl rfl rfl @Try.call63 rfl (hom_c) ?_
  rintro _ H20 ⟨le20, g20, rfl, at20, ge20⟩
  have hbl := le20
  refine ⟨hbl, ?_⟩
  have nx_H20 := le20.1
  replace hle := hle.trans le20
  replace hg := le20.2 _ _ hg
  replace at10 := le20.2 _ _ at10
  have lt_at20 := GHeap.ltg at20
  replace h := base_h.mono hle
  have i20 := Ints.of_get at20
  refine .m rfl rfl rfl rfl hbl (.len sl_22_A rfl) ?_
  refine .done ?_
  refine hK4 _ _ ?_
  refine .block ?_
  have hz0 : (0 : Nat) = (c.spP s w 0).length := by rw [Cat.spP_zero]; rfl
  refine .loopR (σ := Nat × Nat × Nat) [(0, some _), (1, some _), (20, some _), (21, some _)] (fun (i, gL5, nL5) => [(22, some (.int .i64 (i : Int))), (5, some (.slice (some ⟨gL5, 0, none⟩) nL5 nL5))]) (fun (i, gL5, nL5) H' => St [g10] H20 H' ∧ H'.get gL5 = some (.row (prs (c.spP s w i)) 102 true) ∧ (gL5 = g10 ∨ H20.next ≤ gL5) ∧ nL5 = (c.spP s w i).length ∧ i ≤ (c.hom w s.x).length) (fun (i, gL5, nL5) => (c.hom w s.x).length - i) ((0, _, _)) ⟨rfl, rfl, rfl, rfl, trivial⟩ ⟨rfl, rfl, trivial⟩ ?_ ?_
  ·
   refine ⟨.refl _ _, by first | assumption | (rw [Cat.spP_zero]; assumption), .inl rfl, by first | rfl | assumption | simp | omega, ?_⟩
   omega
  rintro ⟨i, gL5, nL5⟩ HL1 ⟨lst1, at_L5, pl_L5, ln_L5, hI⟩ KL1 hKL1
  refine .forget (fr' := [(22, some (.int .i64 (i : Int))), (5, some (.slice (some ⟨gL5, 0, none⟩) nL5 nL5)), (0, some _), (1, some _), (20, some _), (21, some _)]) ⟨rfl, rfl, rfl, rfl, rfl, rfl, trivial⟩ ?_
  have ge_L5 : H.next ≤ gL5 := by omega
  have nx_HL1 := lst1.nx
  replace hle := hle.st lst1 (fun k hk => ⟨by omega, trivial⟩)
  replace hg := lst1.s hg
  replace at20 := lst1.s at20
  have lt_at_L5 := GHeap.ltg at_L5
  replace h := base_h.mono hle
  clear i20
  have i20 := Ints.of_get at20
  have hln := Cat.spP_bound hS s w hI
  have htl := length_prs (c.spP s w i)
  refine .seq (fun K5 hK5 => .region (.q rfl (.cmp rfl rfl rfl) (.nil (hK5 _ _ (.seq (fun K6 hK6 => ?_))))))
  refine .cond rfl (fun h23 => ?_) (fun h23 => ?_)
  ·
   simp only [sps] at h23
   have hma : (c.hom w s.x).getD i 0 ∈ c.hom w s.x := getD_mem_list (by omega)
   refine .skip ?_
   refine hK6 _ _ (.seq (fun K7 hK7 => ?_))
   refine .block ?_
   refine .seq (fun K8 hK8 => .region ?_)
   refine .q rfl (.idxN sl_22_A (by first | assumption | exact SlA.of_row at20 (by first | rfl | (simp; done) | (simp <;> omega))) rfl rfl (by omega)) ?_
   refine .q rfl (.loadI on_2_A (by first | assumption | exact Ints.of_get at20) rfl (by omega)) ?_
   refine .mv rfl (.nil (hK8 _ _ (.seq (fun K9 hK9 => .seq (fun K10 hK10 => .region (.mv rfl (.q rfl (.nilCheck rfl) (.q rfl (.fieldAddr fo_125_4_Li rfl) ?_))))))))
   refine .q rfl (.load on_4_Li rfl (by first | assumption | exact Mem.of_get hg 4 _ rfl)) ?_
   refine .nil (hK10 _ _ ?_)
   refine .cond rfl (fun h29 => ?_) (fun h29 => ?_)
   ·
    refine .seq (fun K11 hK11 => .seq (fun K12 hK12 => .region (.mv rfl (.q rfl (.nilCheck rfl) (.q rfl (.fieldAddr fo_125_3_Li rfl) ?_)))))
    refine .q rfl (.load on_123_Li rfl (by first | assumption | exact Mem.of_get hg 3 _ rfl)) ?_
    refine .mv rfl (.mv rfl ?_)
    refine .callV rfl rfl rfl rfl rfl hF.code rfl ((hF.run _ (.of_le hle) h w _ _ hma (fun _ => rfl) (fun hn => absurd h29 hn))) ?_
    rintro _ _ ⟨rfl, rfl⟩
    refine .nil (hK12 _ _ ?_)
    refine .cond rfl (fun h36 => ?_) (fun h36 => ?_)
    ·
     have hTT : c.spP s w (i + 1) = c.spP s w i ++ [((c.hom w s.x).getD i 0, (c.hom w s.x).getD i 0)] := Cat.spP_aT h29 (by omega) h36
     refine .region (.mv rfl (.mv rfl (.mv rfl (.q rfl (.build bt_102_Li rfl rfl rfl) ?_))))
     refine .R rfl (.litA rfl sl_100_Li ze_102_Li rfl rfl rfl rfl) ?_
     rintro _ H41 ⟨g41, rfl, le41, ge41, at41⟩
     have nx_H41 := le41.1
     replace hle := hle.trans le41
     replace lst1 := lst1.le le41
     replace hg := le41.2 _ _ hg
     replace at20 := le41.2 _ _ at20
     replace at_L5 := le41.2 _ _ at_L5
     have lt_at41 := GHeap.ltg at41
     replace h := base_h.mono hle
     clear i20
     have i20 := Ints.of_get at20
     refine .R rfl (.appendV rfl sl_100_Li ze_102_Li rfl by_102_Li sl_100_Li rfl rfl (by assumption) (by assumption) (by first | omega | (simp <;> omega)) rfl rfl (by omega) (by omega)) ?_
     rintro _ H42 ⟨g42, rfl, st42, ge42, at42⟩
     have nx_H42 := st42.nx
     replace hle := hle.st st42 (fun k hk => ⟨by omega, trivial⟩)
     replace lst1 := lst1.sA st42
     have ne_g_gL5 : NE g gL5 := .a
     replace hg := st42.s hg ne_g_gL5.ne
     have ne_g20_gL5 : NE g20 gL5 := .a
     replace at20 := st42.s at20 ne_g20_gL5.ne
     replace at41 := st42.s at41
     have lt_at42 := GHeap.ltg at42
     replace h := base_h.mono hle
     clear i20
     have i20 := Ints.of_get at20
     refine .mv rfl (.nil (hK11 _ _ ?_))
     refine .exit ?_
     refine hK7 _ _ (.region ?_)
     refine .q rfl (.add rfl rfl rfl (by omega) (by omega)) ?_
     refine .mv rfl (.nil ?_)
     refine hKL1 ((i + 1, _, _)) _ _ ?_ ?_ ⟨rfl, rfl, rfl, rfl, rfl, rfl, trivial⟩
     ·
      refine ⟨lst1, by first | assumption | (rw [hTT, prs_snoc]; assumption) | (rw [hTT]; assumption), by omega, by first | omega | (simp only [List.length_append, List.length_cons, List.length_nil] <;> omega) | (rw [hTT, prs_snoc] <;> (first | omega | (simp only [List.length_append, List.length_cons, List.length_nil] <;> omega))) | (rw [hTT] <;> (first | omega | (simp only [List.length_append, List.length_cons, List.length_nil] <;> omega))), ?_⟩
      omega
     (dsimp only; omega)
    have hTT : c.spP s w (i + 1) = c.spP s w i := Cat.spP_aF h29 (by omega) h36
    refine .skip ?_
    refine hK11 _ _ ?_
    refine .exit ?_
    refine hK7 _ _ (.region ?_)
    refine .q rfl (.add rfl rfl rfl (by omega) (by omega)) ?_
    refine .mv rfl (.nil ?_)
    refine hKL1 ((i + 1, _, _)) _ _ ?_ ?_ ⟨rfl, rfl, rfl, rfl, rfl, rfl, trivial⟩
    ·
     refine ⟨lst1, by first | assumption | (rw [hTT, prs_snoc]; assumption) | (rw [hTT]; assumption), by omega, by first | omega | (simp only [List.length_append, List.length_cons, List.length_nil] <;> omega) | (rw [hTT, prs_snoc] <;> (first | omega | (simp only [List.length_append, List.length_cons, List.length_nil] <;> omega))) | (rw [hTT] <;> (first | omega | (simp only [List.length_append, List.length_cons, List.length_nil] <;> omega))), ?_⟩
     omega
    (dsimp only; omega)
   refine .skip ?_
   refine hK9 _ _ (.seq (fun K13 hK13 => ?_))
   refine .regionD mo_B (.q 0 (.q 1 (.q 2 (.q 3 (.q 4 (.q 5 (.q 6 (.q 7 (.q 8 (.q 11 (.c 9 1 (.q 10 (.done))))))))))))) (by kernel_rfl) ?_
   refine .mv rfl rfl (.q rfl (.nilCheck rfl) (.q rfl (.fieldAddr fo_125_0_Li rfl) ?_))
   refine .q rfl (.load on_69_Fd rfl (by first | assumption | exact Mem.of_get hg 0 _ rfl)) ?_
   refine .mv rfl rfl (.mv rfl rfl (.q rfl (.nilCheck rfl) (.q rfl (.fieldAddr fo_125_2_Li rfl) ?_)))
   refine .q rfl (.load on_2_A rfl (by first | assumption | exact Mem.of_get hg 2 _ rfl)) ?_
   refine .mv rfl rfl ?_
   refine .call1 rfl rfl rfl rfl rfl @Try.call63 rfl (hom_c) ?_
   rintro _ H52 ⟨le52, g52, rfl, at52, ge52⟩
   have hbl := le52
   refine ⟨hbl, ?_⟩
   have nx_H52 := le52.1
   replace hle := hle.trans le52
   replace lst1 := lst1.le le52
   replace hg := le52.2 _ _ hg
   replace at20 := le52.2 _ _ at20
   replace at_L5 := le52.2 _ _ at_L5
   have lt_at52 := GHeap.ltg at52
   replace h := base_h.mono hle
   clear i20
   have i20 := Ints.of_get at20
   have i52 := Ints.of_get at52
   refine .m rfl rfl rfl rfl hbl (.len sl_22_A rfl) ?_
   refine .done ?_
   refine hK13 _ _ ?_
   refine .block ?_
   have hna : ¬ s.alone = true := fun e => by rw [e] at h29; cases h29
   have hi0 : c.spP s w i ++ c.spR s w ((c.hom w s.x).getD i 0) 0 = c.spP s w i := by rw [Cat.spR_zero, List.append_nil]
   have hl0 : nL5 = (c.spP s w i ++ c.spR s w ((c.hom w s.x).getD i 0) 0).length := by rw [hi0]; assumption
   refine .loopR (σ := Nat × Nat × Nat) [(0, some _), (1, some _), (7, some _), (20, some _), (21, some _), (22, some _), (52, some _), (53, some _)] (fun (j, gL5v2, nL5v2) => [(54, some (.int .i64 (j : Int))), (5, some (.slice (some ⟨gL5v2, 0, none⟩) nL5v2 nL5v2))]) (fun (j, gL5v2, nL5v2) H' => St [gL5] H52 H' ∧ H'.get gL5v2 = some (.row (prs (c.spP s w i ++ c.spR s w ((c.hom w s.x).getD i 0) j)) 102 true) ∧ (gL5v2 = gL5 ∨ H52.next ≤ gL5v2) ∧ nL5v2 = (c.spP s w i ++ c.spR s w ((c.hom w s.x).getD i 0) j).length ∧ j ≤ (c.hom w s.y).length) (fun (j, gL5v2, nL5v2) => (c.hom w s.y).length - j) ((0, _, _)) ⟨rfl, rfl, rfl, rfl, rfl, rfl, rfl, rfl, trivial⟩ ⟨rfl, rfl, trivial⟩ ?_ ?_
   ·
    refine ⟨.refl _ _, by first | assumption | (rw [hi0]; assumption), .inl rfl, by first | rfl | assumption | simp | omega, ?_⟩
    omega
   rintro ⟨j, gL5v2, nL5v2⟩ HL2 ⟨lst2, at_L5v2, pl_L5v2, ln_L5v2, hI⟩ KL2 hKL2
   refine .forget (fr' := [(54, some (.int .i64 (j : Int))), (5, some (.slice (some ⟨gL5v2, 0, none⟩) nL5v2 nL5v2)), (0, some _), (1, some _), (7, some _), (20, some _), (21, some _), (22, some _), (52, some _), (53, some _)]) ⟨rfl, rfl, rfl, rfl, rfl, rfl, rfl, rfl, rfl, rfl, trivial⟩ ?_
   have ge_L5v2 : H.next ≤ gL5v2 := by omega
   have nx_HL2 := lst2.nx
   replace hle := hle.st lst2 (fun k hk => ⟨by omega, trivial⟩)
   replace lst1 := lst1.sA lst2
   have ne_g_gL5 : NE g gL5 := .a
   replace hg := lst2.s hg ne_g_gL5.ne
   have ne_g20_gL5 : NE g20 gL5 := .a
   replace at20 := lst2.s at20 ne_g20_gL5.ne
   replace at52 := lst2.s at52
   have lt_at_L5v2 := GHeap.ltg at_L5v2
   replace h := base_h.mono hle
   clear i20
   have i20 := Ints.of_get at20
   clear i52
   have i52 := Ints.of_get at52
   have hrl := c.spR_len s w ((c.hom w s.x).getD i 0) j
   have hal : (c.spP s w i ++ c.spR s w ((c.hom w s.x).getD i 0) j).length = (c.spP s w i).length + (c.spR s w ((c.hom w s.x).getD i 0) j).length := List.length_append
   have htl2 := length_prs (c.spP s w i ++ c.spR s w ((c.hom w s.x).getD i 0) j)
   refine .seq (fun K14 hK14 => .region (.q rfl (.cmp rfl rfl rfl) (.nil (hK14 _ _ (.seq (fun K15 hK15 => ?_))))))
   refine .cond rfl (fun h55 => ?_) (fun h55 => ?_)
   ·
    simp only [sps] at h55
    have hmb : (c.hom w s.y).getD j 0 ∈ c.hom w s.y := getD_mem_list (by omega)
    refine .skip ?_
    refine hK15 _ _ (.seq (fun K16 hK16 => ?_))
    refine .block ?_
    refine .seq (fun K17 hK17 => .region ?_)
    refine .q rfl (.idxN sl_22_A (by first | assumption | exact SlA.of_row at52 (by first | rfl | (simp; done) | (simp <;> omega))) rfl rfl (by omega)) ?_
    refine .q rfl (.loadI on_2_A (by first | assumption | exact Ints.of_get at52) rfl (by omega)) ?_
    refine .mv rfl (.nil (hK17 _ _ (.seq (fun K18 hK18 => .region (.mv rfl (.q rfl (.nilCheck rfl) (.q rfl (.fieldAddr fo_125_3_Li rfl) ?_)))))))
    refine .q rfl (.load on_123_Li rfl (by first | assumption | exact Mem.of_get hg 3 _ rfl)) ?_
    refine .mv rfl (.mv rfl ?_)
    refine .callV rfl rfl rfl rfl rfl hF.code rfl ((hF.run _ (.of_le hle) h w _ _ hma (fun e => absurd e hna) (fun _ => hmb))) ?_
    rintro _ _ ⟨rfl, rfl⟩
    refine .nil (hK18 _ _ ?_)
    refine .cond rfl (fun h64 => ?_) (fun h64 => ?_)
    ·
     have hUU : c.spR s w ((c.hom w s.x).getD i 0) (j + 1) = c.spR s w ((c.hom w s.x).getD i 0) j ++ [((c.hom w s.x).getD i 0, (c.hom w s.y).getD j 0)] := Cat.spR_T (by omega) h64
     refine .region (.mv rfl (.mv rfl (.mv rfl (.q rfl (.build bt_102_Li rfl rfl rfl) ?_))))
     refine .R rfl (.litA rfl sl_100_Li ze_102_Li rfl rfl rfl rfl) ?_
     rintro _ H69 ⟨g69, rfl, le69, ge69, at69⟩
     have nx_H69 := le69.1
     replace hle := hle.trans le69
     replace lst1 := lst1.le le69
     replace lst2 := lst2.le le69
     replace hg := le69.2 _ _ hg
     replace at20 := le69.2 _ _ at20
     replace at52 := le69.2 _ _ at52
     replace at_L5v2 := le69.2 _ _ at_L5v2
     have lt_at69 := GHeap.ltg at69
     replace h := base_h.mono hle
     clear i20
     have i20 := Ints.of_get at20
     clear i52
     have i52 := Ints.of_get at52
     refine .R rfl (.appendV rfl sl_100_Li ze_102_Li rfl by_102_Li sl_100_Li rfl rfl (by assumption) (by assumption) (by first | omega | (simp <;> omega)) rfl rfl (by omega) (by omega)) ?_
     rintro _ H70 ⟨g70, rfl, st70, ge70, at70⟩
     have nx_H70 := st70.nx
     replace hle := hle.st st70 (fun k hk => ⟨by omega, trivial⟩)
     replace lst1 := lst1.sA st70
     replace lst2 := lst2.sA st70
     replace hg := st70.s hg
     replace at20 := st70.s at20
     replace at52 := st70.s at52
     replace at69 := st70.s at69
     have lt_at70 := GHeap.ltg at70
     replace h := base_h.mono hle
     clear i20
     have i20 := Ints.of_get at20
     clear i52
     have i52 := Ints.of_get at52
     refine .mv rfl (.nil (hK16 _ _ (.region ?_)))
     refine .q rfl (.add rfl rfl rfl (by omega) (by omega)) ?_
     refine .mv rfl (.nil ?_)
     refine hKL2 ((j + 1, _, _)) _ _ ?_ ?_ ⟨rfl, rfl, rfl, rfl, rfl, rfl, rfl, rfl, rfl, rfl, trivial⟩
     ·
      refine ⟨lst2, by first | assumption | (rw [hUU, ← List.append_assoc, prs_snoc]; assumption) | (rw [hUU]; assumption), by omega, by first | omega | (simp only [List.length_append, List.length_cons, List.length_nil] <;> omega) | (rw [hUU, ← List.append_assoc, prs_snoc] <;> (first | omega | (simp only [List.length_append, List.length_cons, List.length_nil] <;> omega))) | (rw [hUU] <;> (first | omega | (simp only [List.length_append, List.length_cons, List.length_nil] <;> omega))), ?_⟩
      omega
     (dsimp only; omega)
    have hUU : c.spR s w ((c.hom w s.x).getD i 0) (j + 1) = c.spR s w ((c.hom w s.x).getD i 0) j := Cat.spR_F (by omega) h64
    refine .skip ?_
    refine hK16 _ _ (.region ?_)
    refine .q rfl (.add rfl rfl rfl (by omega) (by omega)) ?_
    refine .mv rfl (.nil ?_)
    refine hKL2 ((j + 1, _, _)) _ _ ?_ ?_ ⟨rfl, rfl, rfl, rfl, rfl, rfl, rfl, rfl, rfl, rfl, trivial⟩
    ·
     refine ⟨lst2, by first | assumption | (rw [hUU, ← List.append_assoc, prs_snoc]; assumption) | (rw [hUU]; assumption), by omega, by first | omega | (simp only [List.length_append, List.length_cons, List.length_nil] <;> omega) | (rw [hUU, ← List.append_assoc, prs_snoc] <;> (first | omega | (simp only [List.length_append, List.length_cons, List.length_nil] <;> omega))) | (rw [hUU] <;> (first | omega | (simp only [List.length_append, List.length_cons, List.length_nil] <;> omega))), ?_⟩
     omega
    (dsimp only; omega)
   obtain rfl : j = (c.hom w s.y).length := by simp only [sps] at h55; omega
   have hTT := Cat.spP_next (c := c) (s := s) (w := w) (k := i) hna (by omega)
   refine .exit ?_
   refine hK7 _ _ (.region ?_)
   refine .q rfl (.add rfl rfl rfl (by omega) (by omega)) ?_
   refine .mv rfl (.nil ?_)
   refine hKL1 ((i + 1, _, _)) _ _ ?_ ?_ ⟨rfl, rfl, rfl, rfl, rfl, rfl, trivial⟩
   ·
    refine ⟨lst1, by first | assumption | (rw [hTT, prs_snoc]; assumption) | (rw [hTT]; assumption), by omega, by first | omega | (simp only [List.length_append, List.length_cons, List.length_nil] <;> omega) | (rw [hTT, prs_snoc] <;> (first | omega | (simp only [List.length_append, List.length_cons, List.length_nil] <;> omega))) | (rw [hTT] <;> (first | omega | (simp only [List.length_append, List.length_cons, List.length_nil] <;> omega))), ?_⟩
    omega
   (dsimp only; omega)
  try simp only [sps] at h23
  refine .exit ?_
  refine hK3 _ _ (.seq (fun K19 hK19 => .region (.mv rfl (.mv rfl (.nil (hK19 _ _ ?_))))))
  refine .ret ?_
  refine hret _ _ ?_
  refine ⟨_, rfl, ?_⟩
  obtain rfl : i = (c.hom w s.x).length := by omega
  rw [Cat.spP_all] at at_L5 ln_L5
  exact ⟨hle, _, by rw [ln_L5], by omega, at_L5⟩
theorem aggEq_102 (a0 a1 b0 b1 : Int) : ∀ w, (Op.equal 102 (.agg #[.int .i64 a0, .int .i64 a1]) (.agg #[.int .i64 b0, .int .i64 b1])).run Try.prog w = .ok (a0 == b0 && a1 == b1) w := by
  intro w
  unfold Op.equal Op.maxDepth
  simp [go_sem, run_equalIn_agg]
  (repeat' split) <;> simp_all
theorem keyT2 : KeyT Try.prog 102 2 := by
  refine ⟨⟨Try.prog.fieldsOf 102, by kernel_rfl⟩, fun s t hs ht w => ?_, fun b s hs w => ?_⟩
  · match s, t, hs, ht with
    | [a0, a1], [b0, b1], _, _ =>
      have := aggEq_102 a0 a1 b0 b1 w
      refine Eq.trans this ?_
      refine congrArg (fun r => Result.ok r w) ?_
      rw [Bool.eq_iff_iff]
      simp
  · exact checkKeyT (by kernel_rfl) (by kernel_rfl) b hs w
set_option maxHeartbeats 4000000 in
theorem isUniversalS_c {c : Cat} {p : CatP} {gc g z : Nat} {s : Spn} {p1 p2 : Int} {H : GHeap} (h : Cat.At H gc 0 c p := by assumption) (hs : SpnAt Try.prog 125 79 c gc p H g s := by assumption) (hS : c.Shape := by assumption) (h1 : 0 ≤ p1 ∧ p1 < c.src.length) (h2 : 0 ≤ p2 ∧ p2 < c.src.length) :
    GCalls Try.prog 133 [.pointer (some ⟨g, 0, none⟩), .int .i64 (z : Int), .agg #[.int .i64 p1, .int .i64 p2]] H (Ret (.bool (B (c.SpV s z (p1, p2)))) H) := by
  refine GCalls.ret rfl ?_
  obtain ⟨fn, cap, hg, hF⟩ := id hs
  have b1 := hS.n40
  have b5 := hS.obj
  refine GCalls.body (N := 68) (rs := [.tmp 6]) Try.func133 rfl rfl rfl rfl (fun Qx hret hend => ?_)
  refine .fg [0, 1, 2] rfl ?_
  have hle := GHeap.Le.refl H
  have lt_hg := GHeap.ltg hg
  have base_h := h
  obtain ⟨c0, c1, c2, c3, c4, i1, i2, i3, i4⟩ := h.get
  have hm : MemN _ _ _ _ _ := ⟨rfl, h.1⟩
  have hi := h.2
  refine .seq (fun K1 hK1 => .region ?_)
  refine .R rfl (.boxR rfl sz_102_Li rfl) ?_
  rintro _ H5 ⟨g5, rfl, le5, ge5, at5⟩
  have nx_H5 := le5.1
  replace hle := hle.trans le5
  replace hg := le5.2 _ _ hg
  have lt_at5 := GHeap.ltg at5
  replace h := base_h.mono hle
  clear c0 c1 c2 c3 c4 i1 i2 i3 i4 hm hi
  obtain ⟨c0, c1, c2, c3, c4, i1, i2, i3, i4⟩ := h.get
  have hm : MemN _ _ _ _ _ := ⟨rfl, h.1⟩
  have hi := h.2
  have mm5 : MemN _ _ _ _ _ := ⟨rfl, Mem.of_get at5⟩
  refine .mv rfl (.nil (hK1 _ _ (.seq (fun K2 hK2 => .seq (fun K3 hK3 => .region (.mv rfl (.nil (hK3 _ _ ?_))))))))
  refine .block ?_
  refine .loopR (σ := Nat) [(0, some _), (1, some _), (5, some _)] (fun w => [(7, some (.int .i64 (w : Int)))]) (fun w H' => St [] H5 H' ∧ w ≤ c.obj.toNat ∧ ∀ w', w' < w → (c.hom (w' : Nat) z).length = (c.spL s w').length ∧ ((c.hom w' z).map (c.spM (p1, p2))).Nodup) (fun w => c.obj.toNat - w) (0) ⟨rfl, rfl, rfl, trivial⟩ ⟨rfl, trivial⟩ ?_ ?_
  ·
   refine ⟨.refl _ _, ?_⟩
   exact ⟨by omega, fun w hw => by omega⟩
  rintro w HL1 ⟨lst1, hI⟩ KL1 hKL1
  refine .forget (fr' := [(7, some (.int .i64 (w : Int))), (0, some _), (1, some _), (5, some _)]) ⟨rfl, rfl, rfl, rfl, trivial⟩ ?_
  have nx_HL1 := lst1.nx
  replace hle := hle.st lst1 (fun k hk => trivial)
  replace hg := lst1.same _ _ trivial hg
  replace at5 := lst1.same _ _ trivial at5
  replace h := base_h.mono hle
  clear c0 c1 c2 c3 c4 i1 i2 i3 i4 hm hi
  obtain ⟨c0, c1, c2, c3, c4, i1, i2, i3, i4⟩ := h.get
  have hm : MemN _ _ _ _ _ := ⟨rfl, h.1⟩
  have hi := h.2
  clear mm5
  have mm5 : MemN _ _ _ _ _ := ⟨rfl, Mem.of_get at5⟩
  obtain ⟨hw, hall⟩ := hI
  refine .seq (fun K4 hK4 => .seq (fun K5 hK5 => .region (.mv rfl (.mv rfl (.q rfl (.nilCheck rfl) (.q rfl (.fieldAddr fo_125_0_Li rfl) ?_))))))
  refine .q rfl (.load on_69_Fd rfl (by first | assumption | exact Mem.of_get hg 0 _ rfl)) ?_
  refine .q rfl (.nilCheck rfl) (.q rfl (.fieldAddr fo_29_0_B rfl) ?_)
  refine .q rfl (.load on_2_A rfl (by assumption)) ?_
  refine .q rfl (.cmp rfl rfl rfl) (.nil (hK5 _ _ ?_))
  refine .cond rfl (fun h20 => ?_) (fun h20 => ?_)
  ·
   simp only [sps] at h20
   have q1 := Cat.hom_le c w z
   refine .skip ?_
   refine hK4 _ _ (.seq (fun K6 hK6 => ?_))
   refine .block ?_
   refine .seq (fun K7 hK7 => .region (.mv rfl (.q rfl (.nilCheck rfl) (.q rfl (.fieldAddr fo_125_0_Li rfl) ?_))))
   refine .q rfl (.load on_69_Fd rfl (by first | assumption | exact Mem.of_get hg 0 _ rfl)) ?_
   refine .mv rfl (.mv rfl ?_)
   refine .call rfl rfl rfl rfl @Try.call63 rfl (hom_c) ?_
   rintro _ H29 ⟨le29, g29, rfl, at29, ge29⟩
   have nx_H29 := le29.1
   replace hle := hle.trans le29
   replace lst1 := lst1.le le29
   replace hg := le29.2 _ _ hg
   replace at5 := le29.2 _ _ at5
   have lt_at29 := GHeap.ltg at29
   replace h := base_h.mono hle
   clear c0 c1 c2 c3 c4 i1 i2 i3 i4 hm hi
   obtain ⟨c0, c1, c2, c3, c4, i1, i2, i3, i4⟩ := h.get
   have hm : MemN _ _ _ _ _ := ⟨rfl, h.1⟩
   have hi := h.2
   clear mm5
   have mm5 : MemN _ _ _ _ _ := ⟨rfl, Mem.of_get at5⟩
   have i29 := Ints.of_get at29
   refine .mv rfl (.nil (hK7 _ _ (.seq (fun K8 hK8 => .seq (fun K9 hK9 => .region (.mv rfl (.q rfl (.len sl_22_A rfl) (.mv rfl (.mv rfl ?_)))))))))
   refine .call rfl rfl rfl rfl @Try.call132 rfl (spansFrom_c (hs := hs.keep rfl (.of_le hle))) ?_
   rintro _ H34 ⟨le34, g34, rfl, ge34, at34⟩
   have nx_H34 := le34.1
   replace hle := hle.trans le34
   replace lst1 := lst1.le le34
   replace hg := le34.2 _ _ hg
   replace at5 := le34.2 _ _ at5
   replace at29 := le34.2 _ _ at29
   have lt_at34 := GHeap.ltg at34
   replace h := base_h.mono hle
   clear c0 c1 c2 c3 c4 i1 i2 i3 i4 hm hi
   obtain ⟨c0, c1, c2, c3, c4, i1, i2, i3, i4⟩ := h.get
   have hm : MemN _ _ _ _ _ := ⟨rfl, h.1⟩
   have hi := h.2
   clear mm5
   have mm5 : MemN _ _ _ _ _ := ⟨rfl, Mem.of_get at5⟩
   clear i29
   have i29 := Ints.of_get at29
   refine .q rfl (.len sl_100_Li rfl) (.q rfl (.cmp rfl rfl rfl) (.nil (hK9 _ _ ?_)))
   refine .cond rfl (fun h36 => ?_) (fun h36 => ?_)
   ·
    simp only [sps] at h36
    refine .seq (fun K10 hK10 => .region (.mv rfl (.nil (hK10 _ _ ?_))))
    refine .ret ?_
    refine hret _ _ ?_
    refine ⟨_, rfl, ?_⟩
    exact ⟨congrArg _ (B_false fun hV => h36 (by have := (hV.all w (by omega)).1; omega)), hle⟩
   simp only [sps] at h36
   refine .skip ?_
   refine hK8 _ _ (.seq (fun K11 hK11 => .region ?_))
   refine .R rfl (.makeMapR rfl) ?_
   rintro _ H37 ⟨g37, rfl, le37, ge37, at37⟩
   have nx_H37 := le37.1
   replace hle := hle.trans le37
   replace lst1 := lst1.le le37
   replace hg := le37.2 _ _ hg
   replace at5 := le37.2 _ _ at5
   replace at29 := le37.2 _ _ at29
   replace at34 := le37.2 _ _ at34
   have lt_at37 := GHeap.ltg at37
   replace h := base_h.mono hle
   clear c0 c1 c2 c3 c4 i1 i2 i3 i4 hm hi
   obtain ⟨c0, c1, c2, c3, c4, i1, i2, i3, i4⟩ := h.get
   have hm : MemN _ _ _ _ _ := ⟨rfl, h.1⟩
   have hi := h.2
   clear mm5
   have mm5 : MemN _ _ _ _ _ := ⟨rfl, Mem.of_get at5⟩
   clear i29
   have i29 := Ints.of_get at29
   refine .mv rfl (.nil (hK11 _ _ (.seq (fun K12 hK12 => .seq (fun K13 hK13 => .region (.mv rfl (.q rfl (.len sl_22_A rfl) (.mv rfl (.nil (hK13 _ _ ?_))))))))))
   refine .block ?_
   have hb0 : bmap (setB (((c.hom w z).take 0).map (c.sp2 p1 p2))) = [] := rfl
   refine .loopR (σ := Nat) [(0, some _), (1, some _), (5, some _), (7, some _), (8, some _), (9, some _), (38, some _), (39, some _)] (fun k => [(40, some (.int .i64 (k : Int)))]) (fun k H' => St [g37] H37 H' ∧ H'.get g37 = some (.map (bmap (setB (((c.hom w z).take k).map (c.sp2 p1 p2))))) ∧ k ≤ (c.hom w z).length) (fun k => (c.hom w z).length - k) (0) ⟨rfl, rfl, rfl, rfl, rfl, rfl, rfl, rfl, trivial⟩ ⟨rfl, trivial⟩ ?_ ?_
   ·
    refine ⟨.refl _ _, by first | assumption | (rw [hb0]; assumption), ?_⟩
    omega
   rintro k HL2 ⟨lst2, at_L9, hI⟩ KL2 hKL2
   refine .forget (fr' := [(40, some (.int .i64 (k : Int))), (0, some _), (1, some _), (5, some _), (7, some _), (8, some _), (9, some _), (38, some _), (39, some _)]) ⟨rfl, rfl, rfl, rfl, rfl, rfl, rfl, rfl, rfl, trivial⟩ ?_
   have nx_HL2 := lst2.nx
   replace hle := hle.st lst2 (fun k hk => ⟨by omega, trivial⟩)
   replace lst1 := lst1.sA lst2
   have ne_g_g37 : NE g g37 := .a
   replace hg := lst2.s hg ne_g_g37.ne
   have ne_g5_g37 : NE g5 g37 := .a
   replace at5 := lst2.s at5 ne_g5_g37.ne
   have ne_g29_g37 : NE g29 g37 := .a
   replace at29 := lst2.s at29 ne_g29_g37.ne
   have ne_g34_g37 : NE g34 g37 := .a
   replace at34 := lst2.s at34 ne_g34_g37.ne
   have lt_at_L9 := GHeap.ltg at_L9
   replace h := base_h.mono hle
   clear c0 c1 c2 c3 c4 i1 i2 i3 i4 hm hi
   obtain ⟨c0, c1, c2, c3, c4, i1, i2, i3, i4⟩ := h.get
   have hm : MemN _ _ _ _ _ := ⟨rfl, h.1⟩
   have hi := h.2
   clear mm5
   have mm5 : MemN _ _ _ _ _ := ⟨rfl, Mem.of_get at5⟩
   clear i29
   have i29 := Ints.of_get at29
   refine .seq (fun K14 hK14 => .region (.q rfl (.cmp rfl rfl rfl) (.nil (hK14 _ _ (.seq (fun K15 hK15 => ?_))))))
   refine .cond rfl (fun h41 => ?_) (fun h41 => ?_)
   ·
    simp only [sps] at h41
    obtain ⟨u, u1, u2, u3, u4⟩ := Cat.hom_get (c := c) (x := w) (y := z) (i := k) (by omega)
    refine .skip ?_
    refine hK15 _ _ (.seq (fun K16 hK16 => ?_))
    refine .block ?_
    refine .seq (fun K17 hK17 => .region ?_)
    refine .q rfl (.idxN sl_22_A (by first | assumption | exact SlA.of_row at29 (by first | rfl | (simp; done) | (simp <;> omega))) rfl rfl (by omega)) ?_
    refine .q rfl (.loadI on_2_A (by first | assumption | exact Ints.of_get at29) rfl (by omega)) ?_
    refine .mv rfl (.nil (hK17 _ _ ?_))
    refine .regionD mo_B (.q 0 (.q 1 (.q 2 (.q 3 (.q 4 (.q 5 (.q 6 (.q 7 (.q 9 (.q 10 (.q 11 (.q 12 (.q 13 (.q 14 (.q 15 (.c 8 1 (.c 16 1 (.q 17 (.c 18 0 (.done)))))))))))))))))))) (by kernel_rfl) ?_
    refine .mv rfl rfl (.mv rfl rfl (.q rfl (.nilCheck rfl) (.q rfl (.fieldAddr fo_125_0_Li rfl) ?_)))
    refine .q rfl (.load on_69_Fd rfl (by first | assumption | exact Mem.of_get hg 0 _ rfl)) ?_
    refine .mv rfl rfl (.q rfl (.fieldAddr fo_102_0_Li rfl) ?_)
    refine .q rfl (.load on_2_A rfl (by first | assumption | exact Mem.of_get at5 0 _ rfl)) ?_
    refine .mv rfl rfl (.q rfl (.nilCheck rfl) (.q rfl (.fieldAddr fo_125_0_Li rfl) ?_))
    refine .q rfl (.load on_69_Fd rfl (by first | assumption | exact Mem.of_get hg 0 _ rfl)) ?_
    refine .mv rfl rfl (.q rfl (.fieldAddr fo_102_1_Li rfl) ?_)
    refine .q rfl (.load on_2_A rfl (by first | assumption | exact Mem.of_get at5 1 _ rfl)) ?_
    refine .callQ1 rfl rfl rfl rfl rfl @Try.call64 rfl (then_s) (.refl _) ?_
    refine .callQ1 rfl rfl rfl rfl rfl @Try.call64 rfl (then_s) (.refl _) ?_
    refine .q rfl (.build bt_102_Li rfl rfl rfl) ?_
    refine .r0 rfl rfl rfl (.mapPutB rfl mtt_151_Li keyT2 rfl rfl rfl (j := [_, _]) rfl (by assumption) (sp2_len _)) ?_
    rintro _ H11018 ⟨rfl, st11018, at11018⟩
    have nx_H11018 := st11018.nx
    replace hle := hle.st st11018 (fun k hk => ⟨by omega, trivial⟩)
    replace lst1 := lst1.sA st11018
    replace lst2 := lst2.sA st11018
    replace hg := st11018.s hg ne_g_g37.ne
    replace at5 := st11018.s at5 ne_g5_g37.ne
    replace at29 := st11018.s at29 ne_g29_g37.ne
    replace at34 := st11018.s at34 ne_g34_g37.ne
    have lt_at11018 := GHeap.ltg at11018
    replace h := base_h.mono hle
    clear c0 c1 c2 c3 c4 i1 i2 i3 i4 hm hi
    obtain ⟨c0, c1, c2, c3, c4, i1, i2, i3, i4⟩ := h.get
    have hm : MemN _ _ _ _ _ := ⟨rfl, h.1⟩
    have hi := h.2
    clear mm5
    have mm5 : MemN _ _ _ _ _ := ⟨rfl, Mem.of_get at5⟩
    clear i29
    have i29 := Ints.of_get at29
    refine .done ?_
    refine hK16 _ _ (.region ?_)
    refine .q rfl (.add rfl rfl rfl (by omega) (by omega)) ?_
    refine .mv rfl (.nil ?_)
    refine hKL2 (k + 1) _ _ ?_ ?_ ⟨rfl, rfl, rfl, rfl, rfl, rfl, rfl, rfl, rfl, trivial⟩
    ·
     refine ⟨lst2, by first | assumption | (rw [take_snoc_getD (by omega), List.map_append, List.map_singleton, setB_snoc]; assumption), ?_⟩
     omega
    omega
   obtain rfl : k = (c.hom w z).length := by simp only [sps] at h41; omega
   refine .exit ?_
   refine hK12 _ _ (.seq (fun K18 hK18 => .region (.mv rfl (.d rfl rfl rfl (.lenMapB rfl mtt_151_Li rfl at_L9 (sp2_len _) CIs.mk) (.mv rfl (.q rfl (.len sl_22_A rfl) (.q rfl (.cmp rfl rfl rfl) (.nil (hK18 _ _ ?_)))))))))
   refine .cond rfl (fun h67 => ?_) (fun h67 => ?_)
   ·
    have hnn : ¬ ((c.hom w z).map (c.spM (p1, p2))).Nodup := fun hn => by
      have := Cat.sp2_set.2 hn
      simp only [sps, List.take_length] at h67
      omega
    refine .seq (fun K19 hK19 => .region (.mv rfl (.nil (hK19 _ _ ?_))))
    refine .ret ?_
    refine hret _ _ ?_
    refine ⟨_, rfl, ?_⟩
    exact ⟨congrArg _ (B_false fun hV => hnn (hV.all w (by omega)).2), hle⟩
   have hnd : ((c.hom w z).map (c.spM (p1, p2))).Nodup := Cat.sp2_set.1 (by
     simp only [sps, List.take_length] at h67
     omega)
   refine .skip ?_
   refine hK6 _ _ (.region (.mv rfl ?_))
   refine .q rfl (.add rfl rfl rfl (by omega) (by omega)) ?_
   refine .mv rfl (.nil ?_)
   refine hKL1 (w + 1) _ _ ?_ ?_ ⟨rfl, rfl, rfl, rfl, trivial⟩
   ·
    refine ⟨lst1, ?_⟩
    refine ⟨by omega, fun w' hw' => ?_⟩
    by_cases e : w' < w
    · exact hall w' e
    · obtain rfl : w' = w := by omega
      exact ⟨by omega, hnd⟩
   omega
  try simp only [sps] at h20
  refine .exit ?_
  refine hK2 _ _ (.seq (fun K20 hK20 => .region (.mv rfl (.nil (hK20 _ _ ?_)))))
  refine .ret ?_
  refine hret _ _ ?_
  refine ⟨_, rfl, ?_⟩
  exact ⟨congrArg _ (B_true ⟨fun w hw => hall w (by omega)⟩), hle⟩
set_option maxHeartbeats 4000000 in
theorem firstS_c {c : Cat} {p : CatP} {gc g : Nat} {s : Spn} {H : GHeap} (h : Cat.At H gc 0 c p := by assumption) (hs : SpnAt Try.prog 125 79 c gc p H g s := by assumption) (hS : c.Shape := by assumption) (hc : c.SpC s := by assumption) :
    GCalls Try.prog 105 [.pointer (some ⟨g, 0, none⟩)] H (fun v H' => H.Le H' ∧ v = .tuple #[.int .i64 ((c.fstL s).getD 0 0), .agg #[.int .i64 ((c.fstL s).getD 1 0), .int .i64 ((c.fstL s).getD 2 0)], .bool (!(c.fstL s).isEmpty)]) := by
  obtain ⟨fn, cap, hg, hF⟩ := id hs
  have b1 := hS.n40
  have b5 := hS.obj
  refine GCalls.body (N := 35) (rs := [.tmp 2, .cell 3 102, .tmp 4]) Try.func105 rfl rfl rfl rfl (fun Qx hret hend => ?_)
  refine .fg [0] rfl ?_
  have hle := GHeap.Le.refl H
  have lt_hg := GHeap.ltg hg
  have base_h := h
  obtain ⟨c0, c1, c2, c3, c4, i1, i2, i3, i4⟩ := h.get
  have hm : MemN _ _ _ _ _ := ⟨rfl, h.1⟩
  have hi := h.2
  refine .seq (fun K1 hK1 => .region (.mv rfl ?_))
  refine .R rfl (.allocR rfl ze_102_Li rfl) ?_
  rintro _ H3 ⟨g3, rfl, le3, ge3, at3⟩
  have nx_H3 := le3.1
  replace hle := hle.trans le3
  replace hg := le3.2 _ _ hg
  have lt_at3 := GHeap.ltg at3
  replace h := base_h.mono hle
  clear c0 c1 c2 c3 c4 i1 i2 i3 i4 hm hi
  obtain ⟨c0, c1, c2, c3, c4, i1, i2, i3, i4⟩ := h.get
  have hm : MemN _ _ _ _ _ := ⟨rfl, h.1⟩
  have hi := h.2
  refine .mv rfl (.nil (hK1 _ _ (.seq (fun K2 hK2 => .seq (fun K3 hK3 => .region (.mv rfl (.nil (hK3 _ _ ?_))))))))
  refine .block ?_
  refine .loopR (σ := Nat) [(0, some _), (3, some _)] (fun z => [(5, some (.int .i64 (z : Int)))]) (fun z H' => St [] H3 H' ∧ z ≤ c.obj.toNat ∧ ∀ z' : Nat, z' < z → ∀ q ∈ c.spL s z', ¬ c.SpV s z' q) (fun z => c.obj.toNat - z) (0) ⟨rfl, rfl, trivial⟩ ⟨rfl, trivial⟩ ?_ ?_
  ·
   refine ⟨.refl _ _, ?_⟩
   exact ⟨by omega, fun w hw => by omega⟩
  rintro z HL1 ⟨lst1, hI⟩ KL1 hKL1
  refine .forget (fr' := [(5, some (.int .i64 (z : Int))), (0, some _), (3, some _)]) ⟨rfl, rfl, rfl, trivial⟩ ?_
  have nx_HL1 := lst1.nx
  replace hle := hle.st lst1 (fun k hk => trivial)
  replace hg := lst1.same _ _ trivial hg
  replace at3 := lst1.same _ _ trivial at3
  replace h := base_h.mono hle
  clear c0 c1 c2 c3 c4 i1 i2 i3 i4 hm hi
  obtain ⟨c0, c1, c2, c3, c4, i1, i2, i3, i4⟩ := h.get
  have hm : MemN _ _ _ _ _ := ⟨rfl, h.1⟩
  have hi := h.2
  obtain ⟨hz, hall⟩ := hI
  refine .seq (fun K4 hK4 => .seq (fun K5 hK5 => .region (.mv rfl (.mv rfl (.q rfl (.nilCheck rfl) (.q rfl (.fieldAddr fo_125_0_Li rfl) ?_))))))
  refine .q rfl (.load on_69_Fd rfl (by first | assumption | exact Mem.of_get hg 0 _ rfl)) ?_
  refine .q rfl (.nilCheck rfl) (.q rfl (.fieldAddr fo_29_0_B rfl) ?_)
  refine .q rfl (.load on_2_A rfl (by assumption)) ?_
  refine .q rfl (.cmp rfl rfl rfl) (.nil (hK5 _ _ ?_))
  refine .cond rfl (fun h16 => ?_) (fun h16 => ?_)
  ·
   simp only [sps] at h16
   refine .skip ?_
   refine hK4 _ _ (.seq (fun K6 hK6 => ?_))
   refine .block ?_
   refine .seq (fun K7 hK7 => .region (.mv rfl (.mv rfl ?_)))
   refine .call rfl rfl rfl rfl @Try.call132 rfl (spansFrom_c (hs := hs.keep rfl (.of_le hle))) ?_
   rintro _ H21 ⟨le21, g21, rfl, ge21, at21⟩
   have nx_H21 := le21.1
   replace hle := hle.trans le21
   replace lst1 := lst1.le le21
   replace hg := le21.2 _ _ hg
   replace at3 := le21.2 _ _ at3
   have lt_at21 := GHeap.ltg at21
   replace h := base_h.mono hle
   clear c0 c1 c2 c3 c4 i1 i2 i3 i4 hm hi
   obtain ⟨c0, c1, c2, c3, c4, i1, i2, i3, i4⟩ := h.get
   have hm : MemN _ _ _ _ _ := ⟨rfl, h.1⟩
   have hi := h.2
   refine .q rfl (.len sl_100_Li rfl) (.mv rfl (.nil (hK7 _ _ ?_)))
   refine .block ?_
   refine .loopR (σ := Nat) [(0, some _), (3, some _), (5, some _), (21, some _), (22, some _)] (fun i => [(23, some (.int .i64 (i : Int)))]) (fun i H' => St [] H21 H' ∧ i ≤ (c.spL s z).length ∧ ∀ j, j < i → ¬ c.SpV s z ((c.spL s z).getD j (0, 0))) (fun i => (c.spL s z).length - i) (0) ⟨rfl, rfl, rfl, rfl, rfl, trivial⟩ ⟨rfl, trivial⟩ ?_ ?_
   ·
    refine ⟨.refl _ _, ?_⟩
    exact ⟨by omega, fun w hw => by omega⟩
   rintro i HL2 ⟨lst2, hI⟩ KL2 hKL2
   refine .forget (fr' := [(23, some (.int .i64 (i : Int))), (0, some _), (3, some _), (5, some _), (21, some _), (22, some _)]) ⟨rfl, rfl, rfl, rfl, rfl, rfl, trivial⟩ ?_
   have nx_HL2 := lst2.nx
   replace hle := hle.st lst2 (fun k hk => trivial)
   replace lst1 := lst1.sA lst2
   replace hg := lst2.same _ _ trivial hg
   replace at3 := lst2.same _ _ trivial at3
   replace at21 := lst2.same _ _ trivial at21
   replace h := base_h.mono hle
   clear c0 c1 c2 c3 c4 i1 i2 i3 i4 hm hi
   obtain ⟨c0, c1, c2, c3, c4, i1, i2, i3, i4⟩ := h.get
   have hm : MemN _ _ _ _ _ := ⟨rfl, h.1⟩
   have hi := h.2
   obtain ⟨hi, hno⟩ := hI
   refine .seq (fun K8 hK8 => .region (.q rfl (.cmp rfl rfl rfl) (.nil (hK8 _ _ (.seq (fun K9 hK9 => ?_))))))
   refine .cond rfl (fun h24 => ?_) (fun h24 => ?_)
   ·
    simp only [sps] at h24
    have hr1 := Cat.spL_rg (c := c) (s := s) hS (z := z) (getD_mem_list (d := (0, 0)) (i := i) (by omega))
    have hlb := Cat.spL_bound hS s z
    have hsl := prs_sl at21
    have hpm := prs_mem at21 (i := i) (by omega)
    refine .skip ?_
    refine hK9 _ _ (.seq (fun K10 hK10 => ?_))
    refine .block ?_
    refine .seq (fun K11 hK11 => .region ?_)
    refine .q rfl (.idx sl_100_Li (by assumption) (by omega) rfl rfl (by omega) (by omega) rfl) ?_
    refine .q rfl (.loadM ag_102_Li rfl (by assumption)) ?_
    refine .R rfl (.allocR rfl ze_102_Li rfl) ?_
    rintro _ H7 ⟨g7, rfl, le7, ge7, at7⟩
    have nx_H7 := le7.1
    replace hle := hle.trans le7
    replace lst1 := lst1.le le7
    replace lst2 := lst2.le le7
    replace hg := le7.2 _ _ hg
    replace at3 := le7.2 _ _ at3
    replace at21 := le7.2 _ _ at21
    have lt_at7 := GHeap.ltg at7
    replace h := base_h.mono hle
    clear c0 c1 c2 c3 c4 i1 i2 i3 i4 hm hi
    obtain ⟨c0, c1, c2, c3, c4, i1, i2, i3, i4⟩ := h.get
    have hm : MemN _ _ _ _ _ := ⟨rfl, h.1⟩
    have hi := h.2
    refine .r0 rfl rfl (.fillA rfl sz_102_Li rfl rfl rfl rfl) ?_
    rintro _ H6003 ⟨rfl, st6003, at6003⟩
    have nx_H6003 := st6003.nx
    replace hle := hle.st st6003 (fun k hk => ⟨by omega, trivial⟩)
    replace lst1 := lst1.sA st6003
    replace lst2 := lst2.sA st6003
    replace hg := st6003.s hg
    have ne_g3_g7 : NE g3 g7 := .a
    replace at3 := st6003.s at3 ne_g3_g7.ne
    replace at21 := st6003.s at21
    have lt_at6003 := GHeap.ltg at6003
    replace h := base_h.mono hle
    clear c0 c1 c2 c3 c4 i1 i2 i3 i4 hm hi
    obtain ⟨c0, c1, c2, c3, c4, i1, i2, i3, i4⟩ := h.get
    have hm : MemN _ _ _ _ _ := ⟨rfl, h.1⟩
    have hi := h.2
    have mm6003 : MemN _ _ _ _ _ := ⟨rfl, Mem.of_get at6003⟩
    refine .nil (hK11 _ _ (.seq (fun K12 hK12 => .region (.mv rfl (.mv rfl ?_)))))
    refine .q rfl (.loadM ag_102_Li rfl ⟨rfl, Mem.of_get at6003⟩) ?_
    refine .callQ rfl rfl rfl rfl @Try.call133 rfl (isUniversalS_c (hs := hs.keep rfl (.of_le hle)) (h1 := ⟨hr1.1, hr1.2.1⟩) (h2 := hr1.2.2)) ?_
    refine .nil (hK12 _ _ ?_)
    refine .cond rfl (fun h30 => ?_) (fun h30 => ?_)
    ·
     simp only [sps] at h30
     refine .seq (fun K13 hK13 => ?_)
     refine .regionD mo_B (.q 0 (.q 1 (.q 2 (.c 3 0 (.q 4 (.done)))))) (by kernel_rfl) ?_
     refine .mv rfl rfl ?_
     refine .q rfl (.loadM ag_102_Li rfl ⟨rfl, Mem.of_get at6003⟩) ?_
     refine .mv rfl rfl ?_
     refine .r0 rfl rfl rfl (.fillA rfl sz_102_Li rfl rfl rfl rfl) ?_
     rintro _ H8003 ⟨rfl, st8003, at8003⟩
     have nx_H8003 := st8003.nx
     replace hle := hle.st st8003 (fun k hk => ⟨by omega, trivial⟩)
     have ne_g_g3 : NE g g3 := .a
     replace hg := st8003.s hg ne_g_g3.ne
     replace at21 := st8003.s at21
     replace at6003 := st8003.s at6003 (Ne.symm ne_g3_g7.ne)
     have lt_at8003 := GHeap.ltg at8003
     replace h := base_h.mono hle
     clear c0 c1 c2 c3 c4 i1 i2 i3 i4 hm hi
     obtain ⟨c0, c1, c2, c3, c4, i1, i2, i3, i4⟩ := h.get
     have hm : MemN _ _ _ _ _ := ⟨rfl, h.1⟩
     have hi := h.2
     clear mm6003
     have mm6003 : MemN _ _ _ _ _ := ⟨rfl, Mem.of_get at6003⟩
     have mm8003 : MemN _ _ _ _ _ := ⟨rfl, Mem.of_get at8003⟩
     refine .mv rfl rfl ?_
     refine .done ?_
     refine hK13 _ _ ?_
     refine .ret ?_
     refine hret _ _ ?_
     refine ⟨_, _, _, _, _, _, rfl, ag_102_Li, (by rfl), (Mem.of_get at8003), rfl, rfl, ?_⟩
     rw [Cat.fst_hit hc (by omega) hall (by omega) hno h30]; exact ⟨hle, rfl⟩
    simp only [sps] at h30
    refine .skip ?_
    refine hK10 _ _ (.region ?_)
    refine .q rfl (.add rfl rfl rfl (by omega) (by omega)) ?_
    refine .mv rfl (.nil ?_)
    refine hKL2 (i + 1) _ _ ?_ ?_ ⟨rfl, rfl, rfl, rfl, rfl, rfl, trivial⟩
    ·
     refine ⟨lst2, ?_⟩
     refine ⟨by omega, fun j hj => ?_⟩
     by_cases e : j < i
     · exact hno j e
     · obtain rfl : j = i := by omega
       exact h30
    omega
   try simp only [sps] at h24
   refine .exit ?_
   refine hK6 _ _ (.region (.mv rfl ?_))
   refine .q rfl (.add rfl rfl rfl (by omega) (by omega)) ?_
   refine .mv rfl (.nil ?_)
   refine hKL1 (z + 1) _ _ ?_ ?_ ⟨rfl, rfl, rfl, trivial⟩
   ·
    refine ⟨lst1, ?_⟩
    refine ⟨by omega, fun z' hz' q hq => ?_⟩
    by_cases e : z' < z
    · exact hall z' e q hq
    · obtain rfl : z' = z := by omega
      obtain ⟨j, hj, rfl⟩ := mem_iff_getD'.1 hq
      exact hno j (by omega)
   omega
  try simp only [sps] at h16
  refine .exit ?_
  refine hK2 _ _ (.seq (fun K14 hK14 => .region (.q rfl (.build bt_102_Li rfl rfl rfl) (.mv rfl ?_))))
  refine .r0 rfl rfl (.fillA rfl sz_102_Li rfl rfl rfl rfl) ?_
  rintro _ H10002 ⟨rfl, st10002, at10002⟩
  have nx_H10002 := st10002.nx
  replace hle := hle.st st10002 (fun k hk => ⟨by omega, trivial⟩)
  have ne_g_g3 : NE g g3 := .a
  replace hg := st10002.s hg ne_g_g3.ne
  have lt_at10002 := GHeap.ltg at10002
  replace h := base_h.mono hle
  clear c0 c1 c2 c3 c4 i1 i2 i3 i4 hm hi
  obtain ⟨c0, c1, c2, c3, c4, i1, i2, i3, i4⟩ := h.get
  have hm : MemN _ _ _ _ _ := ⟨rfl, h.1⟩
  have hi := h.2
  have mm10002 : MemN _ _ _ _ _ := ⟨rfl, Mem.of_get at10002⟩
  refine .mv rfl (.nil (hK14 _ _ ?_))
  refine .ret ?_
  refine hret _ _ ?_
  refine ⟨_, _, _, _, _, _, rfl, ag_102_Li, (by rfl), (Mem.of_get at10002), rfl, rfl, ?_⟩
  rw [Cat.fst_none hc fun z' hz' => hall z' (by omega)]; exact ⟨hle, rfl⟩
end Go.Proofs.Ytjdedelneppnlaa
namespace Go.Proofs.Ytjdedelneppnlaa
open Go Go.GL Go.RowKit Go.Proofs
theorem on_79_Lj : oneT Try.prog 79 = true := by kernel_rfl
theorem sl_112_Lj : sliceT Try.prog 112 = some (79, 1) := by kernel_rfl
theorem ze_70_Lj : zeroT Try.prog 70 = some ([.bool false, .bool false, .bool false, .bool false], 4) := by kernel_rfl
theorem ze_79_Lj : zeroT Try.prog 79 = some ([.pointer none], 1) := by kernel_rfl
theorem by_79_Lj : (Try.prog.info? 79).map (·.bytes) = some 8 := by kernel_rfl
theorem bta_70_Lj : buildAT Try.prog 70 = some ([.bool false, .bool false, .bool false, .bool false], 1) := by kernel_rfl
theorem sz_70_Lj : (Try.prog.info? 70).map (·.size) = some 4 := by kernel_rfl
theorem ag_70_Lj : aggT Try.prog 70 = some 4 := by kernel_rfl
theorem allExist_c {c : Cat} {p : CatP} {gc gl : Nat} {gs : List Nat} {ss : List Spn} {e : TypeId} {H : GHeap} (h : Cat.At H gc 0 c p := by assumption) (hl : H.get gl = some (.row (ptrs gs) e true)) (hs : SpnsAt Try.prog 125 79 c gc p H gs ss) (hS : c.Shape := by assumption) (hc : ∀ s ∈ ss, c.SpC s) (hn : ss.length ≤ 1048576) :
    GCalls Try.prog 100 [.slice (some ⟨gl, 0, none⟩) ss.length ss.length] H (Ret (.bool (B (∀ s ∈ ss, c.SpE s))) H) := by
  refine GCalls.ret rfl ?_
  have hll := hs.len
  have hlp := length_ptrs gs
  refine GCalls.body (N := 23) (rs := [.tmp 2]) Try.func100 rfl rfl rfl rfl (fun Qx hret hend => ?_)
  refine .fg [0] rfl ?_
  have hle := GHeap.Le.refl H
  have lt_hl := GHeap.ltg hl
  have base_h := h
  refine .seq (fun K1 hK1 => .region (.mv rfl (.nil (hK1 _ _ (.seq (fun K2 hK2 => .seq (fun K3 hK3 => .region (.mv rfl (.q rfl (.len sl_112_Lj rfl) (.mv rfl (.nil (hK3 _ _ ?_))))))))))))
  refine .block ?_
  refine .loopR (σ := Nat) [(8, some _), (9, some _)] (fun i => [(10, some (.int .i64 (i : Int)))]) (fun i H' => St [] H H' ∧ i ≤ ss.length ∧ ∀ j, j < i → c.SpE (ss.getD j .z)) (fun i => ss.length - i) (0) ⟨rfl, rfl, trivial⟩ ⟨rfl, trivial⟩ ?_ ?_
  ·
   refine ⟨.refl _ _, ?_⟩
   exact ⟨by omega, fun w hw => by omega⟩
  rintro i HL1 ⟨lst1, hI⟩ KL1 hKL1
  refine .forget (fr' := [(10, some (.int .i64 (i : Int))), (8, some _), (9, some _)]) ⟨rfl, rfl, rfl, trivial⟩ ?_
  have nx_HL1 := lst1.nx
  replace hle := hle.st lst1 (fun k hk => trivial)
  replace hl := lst1.same _ _ trivial hl
  replace h := base_h.mono hle
  obtain ⟨hi, hall⟩ := hI
  refine .seq (fun K4 hK4 => .region (.q rfl (.cmp rfl rfl rfl) (.nil (hK4 _ _ (.seq (fun K5 hK5 => ?_))))))
  refine .cond rfl (fun h11 => ?_) (fun h11 => ?_)
  ·
   simp only [sps] at h11
   have hmm := getD_mem_list (d := Spn.z) (show i < ss.length by omega)
   refine .skip ?_
   refine hK5 _ _ (.seq (fun K6 hK6 => ?_))
   refine .block ?_
   refine .seq (fun K7 hK7 => .region ?_)
   refine .q rfl (.idxN sl_112_Lj (by first | assumption | exact SlA.of_row hl (by first | rfl | (simp; done) | (simp <;> omega))) rfl rfl (by omega)) ?_
   refine .q rfl (.load on_79_Lj rfl (ptrs_cell hl (by omega))) ?_
   refine .mv rfl (.nil (hK7 _ _ (.seq (fun K8 hK8 => .region (.mv rfl ?_)))))
   refine .call rfl rfl rfl rfl @Try.call105 rfl (firstS_c (hs := (hs.row i (by omega)).keep rfl (.of_le hle)) (hc := hc _ hmm)) ?_
   rintro _ H16 ⟨le16, rfl⟩
   have nx_H16 := le16.1
   replace hle := hle.trans le16
   replace lst1 := lst1.le le16
   replace hl := le16.2 _ _ hl
   replace h := base_h.mono hle
   refine .mv rfl (.q rfl (.extract rfl rfl) (.q rfl (.extract rfl rfl) (.q rfl (.extract rfl rfl) ?_)))
   refine .R rfl (.allocR rfl ze_102_Li rfl) ?_
   rintro _ H6 ⟨g6, rfl, le6, ge6, at6⟩
   have nx_H6 := le6.1
   replace hle := hle.trans le6
   replace lst1 := lst1.le le6
   replace hl := le6.2 _ _ hl
   have lt_at6 := GHeap.ltg at6
   replace h := base_h.mono hle
   refine .mv rfl ?_
   refine .r0 rfl rfl (.fillA rfl sz_102_Li rfl rfl rfl rfl) ?_
   rintro _ H4008 ⟨rfl, st4008, at4008⟩
   have nx_H4008 := st4008.nx
   replace hle := hle.st st4008 (fun k hk => ⟨by omega, trivial⟩)
   replace lst1 := lst1.sA st4008
   replace hl := st4008.s hl
   have lt_at4008 := GHeap.ltg at4008
   replace h := base_h.mono hle
   have mm4008 : MemN _ _ _ _ _ := ⟨rfl, Mem.of_get at4008⟩
   refine .mv rfl (.nil (hK8 _ _ (.seq (fun K9 hK9 => .region (.mv rfl (.q rfl (.not rfl) (.nil (hK9 _ _ ?_))))))))
   refine .cond rfl (fun h21 => ?_) (fun h21 => ?_)
   ·
    rw [Cat.fst_some] at h21
    simp only [sps] at h21
    refine .seq (fun K10 hK10 => .region (.mv rfl (.nil (hK10 _ _ ?_))))
    refine .ret ?_
    refine hret _ _ ?_
    refine ⟨_, rfl, ?_⟩
    exact ⟨congrArg _ (B_false fun q => h21 (q _ hmm)), hle⟩
   rw [Cat.fst_some] at h21
   simp only [sps] at h21
   refine .skip ?_
   refine hK6 _ _ (.region ?_)
   refine .q rfl (.add rfl rfl rfl (by omega) (by omega)) ?_
   refine .mv rfl (.nil ?_)
   refine hKL1 (i + 1) _ _ ?_ ?_ ⟨rfl, rfl, rfl, trivial⟩
   ·
    refine ⟨lst1, ?_⟩
    refine ⟨by omega, fun j hj => ?_⟩
    by_cases e : j < i
    · exact hall j e
    · obtain rfl : j = i := by omega
      exact h21
   omega
  try simp only [sps] at h11
  refine .exit ?_
  refine hK2 _ _ (.seq (fun K11 hK11 => .region (.mv rfl (.nil (hK11 _ _ ?_)))))
  refine .ret ?_
  refine hret _ _ ?_
  refine ⟨_, rfl, ?_⟩
  exact ⟨congrArg _ (B_true fun s hs' => by
    obtain ⟨j, hj, e⟩ := List.mem_iff_getElem.1 hs'
    have := hall j (by omega)
    rw [List.getD_eq_getElem?_getD, List.getElem?_eq_getElem hj] at this
    rw [← e]; exact this), hle⟩
set_option maxHeartbeats 8000000 in
theorem limitFlags_c {c : Cat} {p : CatP} {g : Nat} {H : GHeap} (h : Cat.At H g 0 c p := by assumption) (hI : c.Is := by assumption) :
    GCalls Try.prog 48 [.pointer (some ⟨g, 0, none⟩)] H (fun v H' => H.Le H' ∧ v = .agg #[.bool (B (c.term ≠ [])), .bool (B (∀ x y, x < c.obj.toNat → y < c.obj.toNat → c.Q1 x y)), .bool (B (∀ f g, f < c.src.length → g < c.src.length → c.Q2 f g)), .bool (B (∀ f g, f < c.src.length → g < c.src.length → c.Q3 f g))]) := by
  have hS := hI.1
  have b1 := hS.n40
  have b2 := hS.tl
  have b5 := hS.obj
  refine GCalls.body (N := 101) (rs := [.cell 2 70]) Try.func48 rfl rfl rfl rfl (fun Qx hret hend => ?_)
  refine .fg [0] rfl ?_
  have hle := GHeap.Le.refl H
  have base_h := h
  obtain ⟨c0, c1, c2, c3, c4, i1, i2, i3, i4⟩ := h.get
  have hm : MemN _ _ _ _ _ := ⟨rfl, h.1⟩
  have hi := h.2
  refine .seq (fun K1 hK1 => .region ?_)
  refine .R rfl (.allocR rfl ze_70_Lj rfl) ?_
  rintro _ H2 ⟨g2, rfl, le2, ge2, at2⟩
  have nx_H2 := le2.1
  replace hle := hle.trans le2
  have lt_at2 := GHeap.ltg at2
  replace h := base_h.mono hle
  clear c0 c1 c2 c3 c4 i1 i2 i3 i4 hm hi
  obtain ⟨c0, c1, c2, c3, c4, i1, i2, i3, i4⟩ := h.get
  have hm : MemN _ _ _ _ _ := ⟨rfl, h.1⟩
  have hi := h.2
  refine .nil (hK1 _ _ (.seq (fun K2 hK2 => .region ?_)))
  refine .R rfl (.litA rfl sl_112_Lj ze_79_Lj rfl rfl rfl rfl) ?_
  rintro _ H10 ⟨g10, rfl, le10, ge10, at10⟩
  have nx_H10 := le10.1
  replace hle := hle.trans le10
  replace at2 := le10.2 _ _ at2
  have lt_at10 := GHeap.ltg at10
  replace h := base_h.mono hle
  clear c0 c1 c2 c3 c4 i1 i2 i3 i4 hm hi
  obtain ⟨c0, c1, c2, c3, c4, i1, i2, i3, i4⟩ := h.get
  have hm : MemN _ _ _ _ _ := ⟨rfl, h.1⟩
  have hi := h.2
  refine .R rfl (.litA rfl sl_112_Lj ze_79_Lj rfl rfl rfl rfl) ?_
  rintro _ H11 ⟨g11, rfl, le11, ge11, at11⟩
  have nx_H11 := le11.1
  replace hle := hle.trans le11
  replace at2 := le11.2 _ _ at2
  replace at10 := le11.2 _ _ at10
  have lt_at11 := GHeap.ltg at11
  replace h := base_h.mono hle
  clear c0 c1 c2 c3 c4 i1 i2 i3 i4 hm hi
  obtain ⟨c0, c1, c2, c3, c4, i1, i2, i3, i4⟩ := h.get
  have hm : MemN _ _ _ _ _ := ⟨rfl, h.1⟩
  have hi := h.2
  refine .R rfl (.litA rfl sl_112_Lj ze_79_Lj rfl rfl rfl rfl) ?_
  rintro _ H12 ⟨g12, rfl, le12, ge12, at12⟩
  have nx_H12 := le12.1
  replace hle := hle.trans le12
  replace at2 := le12.2 _ _ at2
  replace at10 := le12.2 _ _ at10
  replace at11 := le12.2 _ _ at11
  have lt_at12 := GHeap.ltg at12
  replace h := base_h.mono hle
  clear c0 c1 c2 c3 c4 i1 i2 i3 i4 hm hi
  obtain ⟨c0, c1, c2, c3, c4, i1, i2, i3, i4⟩ := h.get
  have hm : MemN _ _ _ _ _ := ⟨rfl, h.1⟩
  have hi := h.2
  refine .mv rfl (.mv rfl (.mv rfl (.nil (hK2 _ _ (.seq (fun K3 hK3 => .seq (fun K4 hK4 => .region (.mv rfl (.nil (hK4 _ _ ?_))))))))))
  refine .block ?_
  refine .loopR (σ := Nat × List Nat × List Spn × Nat × Nat) [(0, some _), (2, some _), (4, some _), (5, some _)] (fun (x, gs, ss, gL3, nL3) => [(6, some (.int .i64 (x : Int))), (3, some (.slice (some ⟨gL3, 0, none⟩) nL3 nL3))]) (fun (x, gs, ss, gL3, nL3) H' => St [g10] H12 H' ∧ H'.get gL3 = some (.row (ptrs gs) 79 true) ∧ (gL3 = g10 ∨ H12.next ≤ gL3) ∧ nL3 = gs.length ∧ x ≤ c.obj.toNat ∧ Spns3 Try.prog 125 79 c g p H' gs ss [] [] [] [] ∧ ((∀ s ∈ ss, c.SpE s) ↔ BefA c.obj.toNat x 0 c.Q1) ∧ ss.length ≤ x * 8) (fun (x, gs, ss, gL3, nL3) => c.obj.toNat - x) ((0, [], [], _, _)) ⟨rfl, rfl, rfl, rfl, trivial⟩ ⟨rfl, rfl, trivial⟩ ?_ ?_
  ·
   refine ⟨.refl _ _, by first | assumption | exact at10 | simpa using at10, .inl rfl, by first | rfl | assumption | simp | omega, ?_⟩
   exact ⟨by omega, ⟨.nil _ _ _ _ _ _ _, .nil _ _ _ _ _ _ _, .nil _ _ _ _ _ _ _, fun _ hs => absurd hs List.not_mem_nil, fun _ hs => absurd hs List.not_mem_nil, fun _ hs => absurd hs List.not_mem_nil⟩, ⟨fun _ => .zero _ _, fun _ _ hs => absurd hs List.not_mem_nil⟩, by simp⟩
  rintro ⟨x, gs, ss, gL3, nL3⟩ HL1 ⟨lst1, at_L3, pl_L3, ln_L3, hI⟩ KL1 hKL1
  refine .forget (fr' := [(6, some (.int .i64 (x : Int))), (3, some (.slice (some ⟨gL3, 0, none⟩) nL3 nL3)), (0, some _), (2, some _), (4, some _), (5, some _)]) ⟨rfl, rfl, rfl, rfl, rfl, rfl, trivial⟩ ?_
  have ge_L3 : H.next ≤ gL3 := by omega
  have nx_HL1 := lst1.nx
  replace hle := hle.st lst1 (fun k hk => ⟨by omega, trivial⟩)
  replace at2 := lst1.s at2
  replace at11 := lst1.s at11
  replace at12 := lst1.s at12
  have lt_at_L3 := GHeap.ltg at_L3
  replace h := base_h.mono hle
  clear c0 c1 c2 c3 c4 i1 i2 i3 i4 hm hi
  obtain ⟨c0, c1, c2, c3, c4, i1, i2, i3, i4⟩ := h.get
  have hm : MemN _ _ _ _ _ := ⟨rfl, h.1⟩
  have hi := h.2
  obtain ⟨hx, hS3, hE, hl8⟩ := hI
  refine .seq (fun K5 hK5 => .seq (fun K6 hK6 => .region (.mv rfl (.mv rfl (.q rfl (.nilCheck rfl) (.q rfl (.fieldAddr fo_29_0_B rfl) ?_))))))
  refine .q rfl (.load on_2_A rfl (by assumption)) ?_
  refine .q rfl (.cmp rfl rfl rfl) (.nil (hK6 _ _ ?_))
  refine .cond rfl (fun h18 => ?_) (fun h18 => ?_)
  ·
   simp only [sps] at h18
   refine .skip ?_
   refine hK5 _ _ (.seq (fun K7 hK7 => ?_))
   refine .block ?_
   refine .seq (fun K8 hK8 => .region (.mv rfl (.nil (hK8 _ _ ?_))))
   refine .block ?_
   refine .loopR (σ := Nat × List Nat × List Spn × Nat × Nat) [(0, some _), (2, some _), (4, some _), (5, some _), (6, some _)] (fun (y, gs', ss', gL3v2, nL3v2) => [(7, some (.int .i64 (y : Int))), (3, some (.slice (some ⟨gL3v2, 0, none⟩) nL3v2 nL3v2))]) (fun (y, gs', ss', gL3v2, nL3v2) H' => St [gL3] HL1 H' ∧ H'.get gL3v2 = some (.row (ptrs gs') 79 true) ∧ (gL3v2 = gL3 ∨ HL1.next ≤ gL3v2) ∧ nL3v2 = gs'.length ∧ y ≤ c.obj.toNat ∧ Spns3 Try.prog 125 79 c g p H' gs' ss' [] [] [] [] ∧ ((∀ s ∈ ss', c.SpE s) ↔ BefA c.obj.toNat x y c.Q1) ∧ ss'.length ≤ x * 8 + y) (fun (y, gs', ss', gL3v2, nL3v2) => c.obj.toNat - y) ((0, gs, ss, _, _)) ⟨rfl, rfl, rfl, rfl, rfl, trivial⟩ ⟨rfl, rfl, trivial⟩ ?_ ?_
   ·
    refine ⟨.refl _ _, by first | assumption | exact at_L3 | simpa using at_L3, .inl rfl, by first | rfl | assumption | simp | omega, ?_⟩
    exact ⟨by omega, hS3, hE, by omega⟩
   rintro ⟨y, gs', ss', gL3v2, nL3v2⟩ HL2 ⟨lst2, at_L3v2, pl_L3v2, ln_L3v2, hI⟩ KL2 hKL2
   refine .forget (fr' := [(7, some (.int .i64 (y : Int))), (3, some (.slice (some ⟨gL3v2, 0, none⟩) nL3v2 nL3v2)), (0, some _), (2, some _), (4, some _), (5, some _), (6, some _)]) ⟨rfl, rfl, rfl, rfl, rfl, rfl, rfl, trivial⟩ ?_
   have ge_L3v2 : H.next ≤ gL3v2 := by omega
   have nx_HL2 := lst2.nx
   replace hle := hle.st lst2 (fun k hk => ⟨by omega, trivial⟩)
   replace lst1 := lst1.sA lst2
   replace at2 := lst2.s at2
   replace at11 := lst2.s at11
   replace at12 := lst2.s at12
   have lt_at_L3v2 := GHeap.ltg at_L3v2
   replace h := base_h.mono hle
   clear c0 c1 c2 c3 c4 i1 i2 i3 i4 hm hi
   obtain ⟨c0, c1, c2, c3, c4, i1, i2, i3, i4⟩ := h.get
   have hm : MemN _ _ _ _ _ := ⟨rfl, h.1⟩
   have hi := h.2
   obtain ⟨hy, hS3, hE, hl8⟩ := hI
   have hlg := hS3.a.len
   have hlp := length_ptrs gs'
   refine .seq (fun K9 hK9 => .seq (fun K10 hK10 => .region (.mv rfl (.mv rfl (.q rfl (.nilCheck rfl) (.q rfl (.fieldAddr fo_29_0_B rfl) ?_))))))
   refine .q rfl (.load on_2_A rfl (by assumption)) ?_
   refine .q rfl (.cmp rfl rfl rfl) (.nil (hK10 _ _ ?_))
   refine .cond rfl (fun h26 => ?_) (fun h26 => ?_)
   ·
    simp only [sps] at h26
    refine .skip ?_
    refine hK9 _ _ (.seq (fun K11 hK11 => ?_))
    refine .block ?_
    refine .region (.mv rfl (.mv rfl (.mv rfl (.mv rfl ?_))))
    refine .call rfl rfl rfl rfl @Try.call55 rfl (products_c) ?_
    rintro _ H33 ⟨le33, g33, rfl, ge33, sp33⟩
    have nx_H33 := le33.1
    replace hle := hle.trans le33
    replace lst1 := lst1.le le33
    replace lst2 := lst2.le le33
    replace at2 := le33.2 _ _ at2
    replace at11 := le33.2 _ _ at11
    replace at12 := le33.2 _ _ at12
    replace at_L3v2 := le33.2 _ _ at_L3v2
    replace h := base_h.mono hle
    clear c0 c1 c2 c3 c4 i1 i2 i3 i4 hm hi
    obtain ⟨c0, c1, c2, c3, c4, i1, i2, i3, i4⟩ := h.get
    have hm : MemN _ _ _ _ _ := ⟨rfl, h.1⟩
    have hi := h.2
    refine .R rfl (.litA rfl sl_112_Lj ze_79_Lj rfl rfl rfl rfl) ?_
    rintro _ H34 ⟨g34, rfl, le34, ge34, at34⟩
    have nx_H34 := le34.1
    replace hle := hle.trans le34
    replace lst1 := lst1.le le34
    replace lst2 := lst2.le le34
    replace at2 := le34.2 _ _ at2
    replace at11 := le34.2 _ _ at11
    replace at12 := le34.2 _ _ at12
    replace at_L3v2 := le34.2 _ _ at_L3v2
    have lt_at34 := GHeap.ltg at34
    replace h := base_h.mono hle
    clear c0 c1 c2 c3 c4 i1 i2 i3 i4 hm hi
    obtain ⟨c0, c1, c2, c3, c4, i1, i2, i3, i4⟩ := h.get
    have hm : MemN _ _ _ _ _ := ⟨rfl, h.1⟩
    have hi := h.2
    have hatb := at_L3v2
    refine .R rfl (.appendV rfl sl_112_Lj ze_79_Lj rfl by_79_Lj sl_112_Lj rfl rfl (by assumption) (by assumption) (by first | omega | (simp <;> omega)) rfl rfl (by omega) (by omega)) ?_
    rintro _ H35 ⟨g35, rfl, st35, ge35, at35⟩
    have nx_H35 := st35.nx
    replace hle := hle.st st35 (fun k hk => ⟨by omega, trivial⟩)
    replace lst1 := lst1.sA st35
    replace lst2 := lst2.sA st35
    replace at2 := st35.s at2
    replace at11 := st35.s at11
    replace at12 := st35.s at12
    replace at34 := st35.s at34
    have lt_at35 := GHeap.ltg at35
    replace h := base_h.mono hle
    clear c0 c1 c2 c3 c4 i1 i2 i3 i4 hm hi
    obtain ⟨c0, c1, c2, c3, c4, i1, i2, i3, i4⟩ := h.get
    have hm : MemN _ _ _ _ _ := ⟨rfl, h.1⟩
    have hi := h.2
    have hLN := ((LastsN.of_le (T0 := 79) le34)).trans (st35.lastsN (.inr ⟨_, hatb⟩))
    have hSN := (hS3.keep rfl ((LastsN.of_le le33).trans hLN)).snocA (sp33.keep rfl hLN) (Cat.prod_go hS _ _)
    refine .mv rfl (.nil (hK11 _ _ (.region (.mv rfl ?_))))
    refine .q rfl (.add rfl rfl rfl (by omega) (by omega)) ?_
    refine .mv rfl (.nil ?_)
    refine hKL2 ((y + 1, gs' ++ [g33], ss' ++ [.prod x y], _, _)) _ _ ?_ ?_ ⟨rfl, rfl, rfl, rfl, rfl, rfl, rfl, trivial⟩
    ·
     refine ⟨lst2, by first | assumption | (rw [ptrs_snoc]; assumption), by omega, by first | omega | (simp only [List.length_append, List.length_cons, List.length_nil] <;> omega) | (rw [ptrs_snoc] <;> (first | omega | (simp only [List.length_append, List.length_cons, List.length_nil] <;> omega))), ?_⟩
     exact ⟨by omega, hSN, (all_snoc.trans (and_congr_left' hE)).trans (BefA.step (by omega)).symm, by rw [List.length_append, List.length_singleton]; omega⟩
    (dsimp only; omega)
   try simp only [sps] at h26
   refine .exit ?_
   refine hK7 _ _ (.region (.mv rfl ?_))
   refine .q rfl (.add rfl rfl rfl (by omega) (by omega)) ?_
   refine .mv rfl (.nil ?_)
   obtain rfl : y = c.obj.toNat := by omega
   refine hKL1 ((x + 1, gs', ss', _, _)) _ _ ?_ ?_ ⟨rfl, rfl, rfl, rfl, rfl, rfl, trivial⟩
   ·
    refine ⟨lst1, by assumption, by omega, by first | omega | (simp only [List.length_append, List.length_cons, List.length_nil] <;> omega), ?_⟩
    exact ⟨by omega, hS3, hE.trans BefA.next.symm, by omega⟩
   (dsimp only; omega)
  obtain rfl : x = c.obj.toNat := by simp only [sps] at h18; omega
  refine .exit ?_
  refine hK3 _ _ (.seq (fun K12 hK12 => .seq (fun K13 hK13 => .region (.mv rfl (.q rfl (.nilCheck rfl) (.q rfl (.fieldAddr fo_29_1_B rfl) ?_))))))
  refine .q rfl (.load on_22_B rfl (by assumption)) ?_
  refine .q rfl (.len sl_22_A rfl) (.mv rfl (.nil (hK13 _ _ ?_)))
  refine .block ?_
  refine .loopR (σ := Nat × List Nat × List Spn × List Nat × List Spn × Nat × Nat × Nat × Nat) [(0, some _), (2, some _), (3, some _), (40, some _)] (fun (f, us, es, ws, ps, gL4, nL4, gL5, nL5) => [(41, some (.int .i64 (f : Int))), (4, some (.slice (some ⟨gL4, 0, none⟩) nL4 nL4)), (5, some (.slice (some ⟨gL5, 0, none⟩) nL5 nL5))]) (fun (f, us, es, ws, ps, gL4, nL4, gL5, nL5) H' => St [g11, g12] HL1 H' ∧ H'.get gL4 = some (.row (ptrs us) 79 true) ∧ (gL4 = g11 ∨ HL1.next ≤ gL4) ∧ nL4 = us.length ∧ H'.get gL5 = some (.row (ptrs ws) 79 true) ∧ (gL5 = g12 ∨ HL1.next ≤ gL5) ∧ nL5 = ws.length ∧ gL4 ≠ gL5 ∧ f ≤ c.src.length ∧ Spns3 Try.prog 125 79 c g p H' gs ss us es ws ps ∧ ((∀ s ∈ es, c.SpE s) ↔ BefA c.src.length f 0 c.Q2) ∧ ((∀ s ∈ ps, c.SpE s) ↔ BefA c.src.length f 0 c.Q3) ∧ es.length ≤ f * 40 ∧ ps.length ≤ f * 40) (fun (f, us, es, ws, ps, gL4, nL4, gL5, nL5) => c.src.length - f) ((0, [], [], [], [], _, _, _, _)) ⟨rfl, rfl, rfl, rfl, trivial⟩ ⟨rfl, rfl, rfl, trivial⟩ ?_ ?_
  ·
   refine ⟨.refl _ _, by first | assumption | exact at11 | simpa using at11, .inl rfl, by first | rfl | assumption | simp | omega, by first | assumption | exact at12 | simpa using at12, .inl rfl, by first | rfl | assumption | simp | omega, by omega, ?_⟩
   exact ⟨by omega, ⟨hS3.a, .nil _ _ _ _ _ _ _, .nil _ _ _ _ _ _ _, hS3.ac, fun _ hs => absurd hs List.not_mem_nil, fun _ hs => absurd hs List.not_mem_nil⟩, ⟨fun _ => .zero _ _, fun _ _ hs => absurd hs List.not_mem_nil⟩, ⟨fun _ => .zero _ _, fun _ _ hs => absurd hs List.not_mem_nil⟩, by simp, by simp⟩
  rintro ⟨f, us, es, ws, ps, gL4, nL4, gL5, nL5⟩ HL3 ⟨lst3, at_L4, pl_L4, ln_L4, at_L5, pl_L5, ln_L5, ap3_0, hI⟩ KL3 hKL3
  refine .forget (fr' := [(41, some (.int .i64 (f : Int))), (4, some (.slice (some ⟨gL4, 0, none⟩) nL4 nL4)), (5, some (.slice (some ⟨gL5, 0, none⟩) nL5 nL5)), (0, some _), (2, some _), (3, some _), (40, some _)]) ⟨rfl, rfl, rfl, rfl, rfl, rfl, rfl, trivial⟩ ?_
  have ge_L4 : H.next ≤ gL4 := by omega
  have ge_L5 : H.next ≤ gL5 := by omega
  have nx_HL3 := lst3.nx
  replace hle := hle.st lst3 (fun k hk => ⟨by omega, by omega, trivial⟩)
  replace at2 := lst3.same _ _ ⟨(by first | assumption | omega), (by first | assumption | omega), trivial⟩ at2
  replace at_L3 := lst3.same _ _ ⟨(by first | assumption | omega), (by first | assumption | omega), trivial⟩ at_L3
  have lt_at_L4 := GHeap.ltg at_L4
  have lt_at_L5 := GHeap.ltg at_L5
  replace h := base_h.mono hle
  clear c0 c1 c2 c3 c4 i1 i2 i3 i4 hm hi
  obtain ⟨c0, c1, c2, c3, c4, i1, i2, i3, i4⟩ := h.get
  have hm : MemN _ _ _ _ _ := ⟨rfl, h.1⟩
  have hi := h.2
  obtain ⟨hf, hS3, hE2, hE3, hl2, hl3⟩ := hI
  refine .seq (fun K14 hK14 => .region (.q rfl (.cmp rfl rfl rfl) (.nil (hK14 _ _ (.seq (fun K15 hK15 => ?_))))))
  refine .cond rfl (fun h42 => ?_) (fun h42 => ?_)
  ·
   simp only [sps] at h42
   refine .skip ?_
   refine hK15 _ _ (.seq (fun K16 hK16 => ?_))
   refine .block ?_
   refine .seq (fun K17 hK17 => .region (.mv rfl (.mv rfl (.nil (hK17 _ _ (.seq (fun K18 hK18 => .region (.mv rfl (.q rfl (.nilCheck rfl) (.q rfl (.fieldAddr fo_29_1_B rfl) ?_))))))))))
   refine .q rfl (.load on_22_B rfl (by assumption)) ?_
   refine .q rfl (.len sl_22_A rfl) (.mv rfl (.nil (hK18 _ _ ?_)))
   refine .block ?_
   refine .loopR (σ := Nat × List Nat × List Spn × List Nat × List Spn × Nat × Nat × Nat × Nat) [(0, some _), (2, some _), (3, some _), (8, some _), (40, some _), (41, some _), (48, some _)] (fun (k, us', es', ws', ps', gL4v4, nL4v4, gL5v4, nL5v4) => [(49, some (.int .i64 (k : Int))), (4, some (.slice (some ⟨gL4v4, 0, none⟩) nL4v4 nL4v4)), (5, some (.slice (some ⟨gL5v4, 0, none⟩) nL5v4 nL5v4))]) (fun (k, us', es', ws', ps', gL4v4, nL4v4, gL5v4, nL5v4) H' => St [gL4, gL5] HL3 H' ∧ H'.get gL4v4 = some (.row (ptrs us') 79 true) ∧ (gL4v4 = gL4 ∨ HL3.next ≤ gL4v4) ∧ nL4v4 = us'.length ∧ H'.get gL5v4 = some (.row (ptrs ws') 79 true) ∧ (gL5v4 = gL5 ∨ HL3.next ≤ gL5v4) ∧ nL5v4 = ws'.length ∧ gL4v4 ≠ gL5v4 ∧ k ≤ c.src.length ∧ Spns3 Try.prog 125 79 c g p H' gs ss us' es' ws' ps' ∧ ((∀ s ∈ es', c.SpE s) ↔ BefA c.src.length f k c.Q2) ∧ ((∀ s ∈ ps', c.SpE s) ↔ BefA c.src.length f k c.Q3) ∧ es'.length ≤ f * 40 + k ∧ ps'.length ≤ f * 40 + k) (fun (k, us', es', ws', ps', gL4v4, nL4v4, gL5v4, nL5v4) => c.src.length - k) ((0, us, es, ws, ps, _, _, _, _)) ⟨rfl, rfl, rfl, rfl, rfl, rfl, rfl, trivial⟩ ⟨rfl, rfl, rfl, trivial⟩ ?_ ?_
   ·
    refine ⟨.refl _ _, by first | assumption | exact at_L4 | simpa using at_L4, .inl rfl, by first | rfl | assumption | simp | omega, by first | assumption | exact at_L5 | simpa using at_L5, .inl rfl, by first | rfl | assumption | simp | omega, by omega, ?_⟩
    exact ⟨by omega, hS3, hE2, hE3, by omega, by omega⟩
   rintro ⟨k, us', es', ws', ps', gL4v4, nL4v4, gL5v4, nL5v4⟩ HL4 ⟨lst4, at_L4v4, pl_L4v4, ln_L4v4, at_L5v4, pl_L5v4, ln_L5v4, ap4_0, hI⟩ KL4 hKL4
   refine .forget (fr' := [(49, some (.int .i64 (k : Int))), (4, some (.slice (some ⟨gL4v4, 0, none⟩) nL4v4 nL4v4)), (5, some (.slice (some ⟨gL5v4, 0, none⟩) nL5v4 nL5v4)), (0, some _), (2, some _), (3, some _), (8, some _), (40, some _), (41, some _), (48, some _)]) ⟨rfl, rfl, rfl, rfl, rfl, rfl, rfl, rfl, rfl, rfl, trivial⟩ ?_
   have ge_L4v4 : H.next ≤ gL4v4 := by omega
   have ge_L5v4 : H.next ≤ gL5v4 := by omega
   have nx_HL4 := lst4.nx
   replace hle := hle.st lst4 (fun k hk => ⟨by omega, by omega, trivial⟩)
   replace lst3 := lst3.sA lst4
   replace at2 := lst4.same _ _ ⟨(by first | assumption | omega), (by first | assumption | omega), trivial⟩ at2
   replace at_L3 := lst4.same _ _ ⟨(by first | assumption | omega), (by first | assumption | omega), trivial⟩ at_L3
   have lt_at_L4v4 := GHeap.ltg at_L4v4
   have lt_at_L5v4 := GHeap.ltg at_L5v4
   replace h := base_h.mono hle
   clear c0 c1 c2 c3 c4 i1 i2 i3 i4 hm hi
   obtain ⟨c0, c1, c2, c3, c4, i1, i2, i3, i4⟩ := h.get
   have hm : MemN _ _ _ _ _ := ⟨rfl, h.1⟩
   have hi := h.2
   obtain ⟨hk, hS3, hE2, hE3, hl2, hl3⟩ := hI
   have hlu := hS3.b.len
   have hlw := hS3.d.len
   have hlpu := length_ptrs us'
   have hlpw := length_ptrs ws'
   refine .seq (fun K19 hK19 => .region (.q rfl (.cmp rfl rfl rfl) (.nil (hK19 _ _ (.seq (fun K20 hK20 => ?_))))))
   refine .cond rfl (fun h50 => ?_) (fun h50 => ?_)
   ·
    simp only [sps] at h50
    refine .skip ?_
    refine hK20 _ _ (.seq (fun K21 hK21 => ?_))
    refine .block ?_
    refine .seq (fun K22 hK22 => .region (.mv rfl (.mv rfl (.nil (hK22 _ _ ?_)))))
    refine .seqM (rest := [(0, some _), (2, some _), (3, some _), (5, some _), (8, some _), (9, some _), (40, some _), (41, some _), (48, some _), (49, some _)]) (M := fun rest fr' H' => ∃ (gE : Nat) (nE : Nat) (usN : List Nat) (esN : List Spn), Sub ((4, some (.slice (some ⟨gE, 0, none⟩) nE nE)) :: rest) fr' ∧ St [gL4v4] HL4 H' ∧ H'.get gE = some (.row (ptrs usN) 79 true) ∧ (gE = gL4v4 ∨ HL4.next ≤ gE) ∧ Spns3 Try.prog 125 79 c g p H' gs ss usN esN ws' ps' ∧ ((∀ s ∈ esN, c.SpE s) ↔ BefA c.src.length f k c.Q2 ∧ c.Q2 f k) ∧ (usN.length = esN.length ∧ esN.length ≤ f * 40 + (k + 1) ∧ nE = usN.length)) ⟨rfl, rfl, rfl, rfl, rfl, rfl, rfl, rfl, rfl, rfl, trivial⟩ ?_ ?_
    ·
     rintro fr817 H817 ⟨gE, nE, usN, esN, hsub817, st817, at817, pl817, hSM, hEN, hlu2, hlE, hnE⟩
     have nx_H817 := st817.nx
     replace hle := hle.st st817 (fun k hk => ⟨by omega, trivial⟩)
     replace lst3 := lst3.sA st817
     replace lst4 := lst4.sA st817
     have ne_g2_gL4v4 : NE g2 gL4v4 := .a
     replace at2 := st817.s at2 ne_g2_gL4v4.ne
     have ne_gL3_gL4v4 : NE gL3 gL4v4 := .a
     replace at_L3 := st817.s at_L3 ne_gL3_gL4v4.ne
     replace at_L5v4 := st817.same _ _ ⟨(Ne.symm ap4_0), trivial⟩ at_L5v4
     have lt_at817 := GHeap.ltg at817
     replace h := base_h.mono hle
     clear c0 c1 c2 c3 c4 i1 i2 i3 i4 hm hi
     obtain ⟨c0, c1, c2, c3, c4, i1, i2, i3, i4⟩ := h.get
     have hm : MemN _ _ _ _ _ := ⟨rfl, h.1⟩
     have hi := h.2
     refine .forget hsub817 ?_
     refine .seq (fun K23 hK23 => ?_)
     refine .regionD mo_B (.q 0 (.q 1 (.q 2 (.q 3 (.q 4 (.q 5 (.q 6 (.q 7 (.q 8 (.q 9 (.q 10 (.q 11 (.q 12 (.q 13 (.q 14 (.done)))))))))))))))) (by kernel_rfl) ?_
     refine .mv rfl rfl (.q rfl (.nilCheck rfl) (.q rfl (.fieldAddr fo_29_2_B rfl) ?_))
     refine .q rfl (.load on_22_B rfl (by assumption)) ?_
     refine .mv rfl rfl ?_
     refine .q rfl (.idxN sl_22_A (by assumption) rfl rfl (by omega)) ?_
     refine .q rfl (.loadI on_2_A (by assumption) rfl (by omega)) ?_
     refine .mv rfl rfl (.q rfl (.nilCheck rfl) (.q rfl (.fieldAddr fo_29_2_B rfl) ?_))
     refine .q rfl (.load on_22_B rfl (by assumption)) ?_
     refine .mv rfl rfl ?_
     refine .q rfl (.idxN sl_22_A (by assumption) rfl rfl (by omega)) ?_
     refine .q rfl (.loadI on_2_A (by assumption) rfl (by omega)) ?_
     refine .q rfl (.cmp rfl rfl rfl) ?_
     refine .done ?_
     refine hK23 _ _ ?_
     refine .cond rfl (fun h80 => ?_) (fun h80 => ?_)
     ·
      simp only [sps] at h80
      refine .region (.mv rfl (.mv rfl (.mv rfl (.mv rfl ?_))))
      refine .call rfl rfl rfl rfl @Try.call66 rfl (pullbacks_c (hf := by omega) (hk := by omega)) ?_
      rintro _ H85 ⟨le85, g85, rfl, ge85, sp85⟩
      have nx_H85 := le85.1
      replace hle := hle.trans le85
      replace lst3 := lst3.le le85
      replace lst4 := lst4.le le85
      replace at2 := le85.2 _ _ at2
      replace at_L3 := le85.2 _ _ at_L3
      replace at_L5v4 := le85.2 _ _ at_L5v4
      replace at817 := le85.2 _ _ at817
      replace h := base_h.mono hle
      clear c0 c1 c2 c3 c4 i1 i2 i3 i4 hm hi
      obtain ⟨c0, c1, c2, c3, c4, i1, i2, i3, i4⟩ := h.get
      have hm : MemN _ _ _ _ _ := ⟨rfl, h.1⟩
      have hi := h.2
      refine .R rfl (.litA rfl sl_112_Lj ze_79_Lj rfl rfl rfl rfl) ?_
      rintro _ H86 ⟨g86, rfl, le86, ge86, at86⟩
      have nx_H86 := le86.1
      replace hle := hle.trans le86
      replace lst3 := lst3.le le86
      replace lst4 := lst4.le le86
      replace at2 := le86.2 _ _ at2
      replace at_L3 := le86.2 _ _ at_L3
      replace at_L5v4 := le86.2 _ _ at_L5v4
      replace at817 := le86.2 _ _ at817
      have lt_at86 := GHeap.ltg at86
      replace h := base_h.mono hle
      clear c0 c1 c2 c3 c4 i1 i2 i3 i4 hm hi
      obtain ⟨c0, c1, c2, c3, c4, i1, i2, i3, i4⟩ := h.get
      have hm : MemN _ _ _ _ _ := ⟨rfl, h.1⟩
      have hi := h.2
      have hatc := at_L5v4
      refine .R rfl (.appendV rfl sl_112_Lj ze_79_Lj rfl by_79_Lj sl_112_Lj rfl rfl (by assumption) (by assumption) (by first | omega | (simp <;> omega)) rfl rfl (by omega) (by omega)) ?_
      rintro _ H87 ⟨g87, rfl, st87, ge87, at87⟩
      have nx_H87 := st87.nx
      replace hle := hle.st st87 (fun k hk => ⟨by omega, trivial⟩)
      replace lst3 := lst3.sA st87
      replace lst4 := lst4.sA st87
      replace at2 := st87.s at2
      replace at_L3 := st87.s at_L3
      replace at817 := st87.s at817
      replace at86 := st87.s at86
      have lt_at87 := GHeap.ltg at87
      replace h := base_h.mono hle
      clear c0 c1 c2 c3 c4 i1 i2 i3 i4 hm hi
      obtain ⟨c0, c1, c2, c3, c4, i1, i2, i3, i4⟩ := h.get
      have hm : MemN _ _ _ _ _ := ⟨rfl, h.1⟩
      have hi := h.2
      have hLN := ((LastsN.of_le (T0 := 79) le86)).trans (st87.lastsN (.inr ⟨_, hatc⟩))
      obtain ⟨wsN, hwN⟩ : ∃ u, u = ws' ++ [g85] := ⟨_, rfl⟩
      obtain ⟨psN, hpN⟩ : ∃ u, u = ps' ++ [c.pull f k] := ⟨_, rfl⟩
      have hSN : Spns3 Try.prog 125 79 c g p H87 gs ss usN esN wsN psN := by rw [hwN, hpN]; exact (hSM.keep rfl ((LastsN.of_le le85).trans hLN)).snocD (sp85.keep rfl hLN) (Cat.pull_go hI (by omega) (by omega))
      have hFN : (∀ s ∈ psN, c.SpE s) ↔ BefA c.src.length f k c.Q3 ∧ c.Q3 f k := by rw [hpN]; exact all_snoc.trans (and_congr hE3 ⟨fun q _ => q, fun q => q h80⟩)
      have hlN : wsN.length = ws'.length + 1 ∧ psN.length ≤ f * 40 + (k + 1) := by rw [hwN, hpN, List.length_append, List.length_append, List.length_singleton, List.length_singleton]; omega
      refine .mv rfl (.nil (hK21 _ _ (.region ?_)))
      refine .q rfl (.add rfl rfl rfl (by omega) (by omega)) ?_
      refine .mv rfl (.nil ?_)
      refine hKL4 ((k + 1, usN, esN, wsN, psN, _, _, _, _)) _ _ ?_ ?_ ⟨rfl, rfl, rfl, rfl, rfl, rfl, rfl, rfl, rfl, rfl, trivial⟩
      ·
       refine ⟨lst4, by first | assumption | (rw [hwN, ptrs_snoc]; assumption) | (rw [hwN]; assumption), by omega, by first | omega | (simp only [List.length_append, List.length_cons, List.length_nil] <;> omega) | (rw [hwN, ptrs_snoc] <;> (first | omega | (simp only [List.length_append, List.length_cons, List.length_nil] <;> omega))) | (rw [hwN] <;> (first | omega | (simp only [List.length_append, List.length_cons, List.length_nil] <;> omega))), by first | assumption | (rw [hwN, ptrs_snoc]; assumption) | (rw [hwN]; assumption), by omega, by first | omega | (simp only [List.length_append, List.length_cons, List.length_nil] <;> omega) | (rw [hwN, ptrs_snoc] <;> (first | omega | (simp only [List.length_append, List.length_cons, List.length_nil] <;> omega))) | (rw [hwN] <;> (first | omega | (simp only [List.length_append, List.length_cons, List.length_nil] <;> omega))), by omega, ?_⟩
       exact ⟨by omega, hSN, hEN.trans (BefA.step (by omega)).symm, hFN.trans (BefA.step (by omega)).symm, by omega, by omega⟩
      (dsimp only; omega)
     simp only [sps] at h80
     obtain ⟨wsN, hwN⟩ : ∃ u, u = ws' := ⟨_, rfl⟩
     obtain ⟨psN, hpN⟩ : ∃ u, u = ps' := ⟨_, rfl⟩
     have hSN : Spns3 Try.prog 125 79 c g p H817 gs ss usN esN wsN psN := by rw [hwN, hpN]; exact hSM
     have hFN : (∀ s ∈ psN, c.SpE s) ↔ BefA c.src.length f k c.Q3 ∧ c.Q3 f k := by rw [hpN, hE3]; exact ⟨fun q => ⟨q, fun a => absurd a h80⟩, fun q => q.1⟩
     have hlN : wsN.length = ws'.length ∧ psN.length ≤ f * 40 + (k + 1) := by rw [hwN, hpN]; omega
     refine .skip ?_
     refine hK21 _ _ (.region ?_)
     refine .q rfl (.add rfl rfl rfl (by omega) (by omega)) ?_
     refine .mv rfl (.nil ?_)
     refine hKL4 ((k + 1, usN, esN, wsN, psN, _, _, _, _)) _ _ ?_ ?_ ⟨rfl, rfl, rfl, rfl, rfl, rfl, rfl, rfl, rfl, rfl, trivial⟩
     ·
      refine ⟨lst4, by first | assumption | (rw [hwN, ptrs_snoc]; assumption) | (rw [hwN]; assumption), by omega, by first | omega | (simp only [List.length_append, List.length_cons, List.length_nil] <;> omega) | (rw [hwN, ptrs_snoc] <;> (first | omega | (simp only [List.length_append, List.length_cons, List.length_nil] <;> omega))) | (rw [hwN] <;> (first | omega | (simp only [List.length_append, List.length_cons, List.length_nil] <;> omega))), by first | assumption | (rw [hwN, ptrs_snoc]; assumption) | (rw [hwN]; assumption), by omega, by first | omega | (simp only [List.length_append, List.length_cons, List.length_nil] <;> omega) | (rw [hwN, ptrs_snoc] <;> (first | omega | (simp only [List.length_append, List.length_cons, List.length_nil] <;> omega))) | (rw [hwN] <;> (first | omega | (simp only [List.length_append, List.length_cons, List.length_nil] <;> omega))), by omega, ?_⟩
      exact ⟨by omega, hSN, hEN.trans (BefA.step (by omega)).symm, hFN.trans (BefA.step (by omega)).symm, by omega, by omega⟩
     (dsimp only; omega)
    refine .seq (fun K24 hK24 => .region (.mv rfl (.mv rfl ?_)))
    refine .callQ rfl rfl rfl rfl @Try.call97 rfl (ends_c) ?_
    refine .mv rfl (.mv rfl ?_)
    refine .callQ rfl rfl rfl rfl @Try.call97 rfl (ends_c) ?_
    refine .q rfl (.aggEq eg_114_B rfl rfl rfl rfl (aggEq_114 _ _ _ _)) (.nil (hK24 _ _ ?_))
    refine .cond rfl (fun h58 => ?_) (fun h58 => ?_)
    ·
     simp only [sps] at h58
     refine .region (.mv rfl (.mv rfl (.mv rfl (.mv rfl ?_))))
     refine .call rfl rfl rfl rfl @Try.call98 rfl (equalizers_c (hf := by omega) (hk := by omega)) ?_
     rintro _ H63 ⟨le63, g63, rfl, ge63, sp63⟩
     have nx_H63 := le63.1
     replace hle := hle.trans le63
     replace lst3 := lst3.le le63
     replace lst4 := lst4.le le63
     replace at2 := le63.2 _ _ at2
     replace at_L3 := le63.2 _ _ at_L3
     replace at_L4v4 := le63.2 _ _ at_L4v4
     replace at_L5v4 := le63.2 _ _ at_L5v4
     replace h := base_h.mono hle
     clear c0 c1 c2 c3 c4 i1 i2 i3 i4 hm hi
     obtain ⟨c0, c1, c2, c3, c4, i1, i2, i3, i4⟩ := h.get
     have hm : MemN _ _ _ _ _ := ⟨rfl, h.1⟩
     have hi := h.2
     refine .R rfl (.litA rfl sl_112_Lj ze_79_Lj rfl rfl rfl rfl) ?_
     rintro _ H64 ⟨g64, rfl, le64, ge64, at64⟩
     have nx_H64 := le64.1
     replace hle := hle.trans le64
     replace lst3 := lst3.le le64
     replace lst4 := lst4.le le64
     replace at2 := le64.2 _ _ at2
     replace at_L3 := le64.2 _ _ at_L3
     replace at_L4v4 := le64.2 _ _ at_L4v4
     replace at_L5v4 := le64.2 _ _ at_L5v4
     have lt_at64 := GHeap.ltg at64
     replace h := base_h.mono hle
     clear c0 c1 c2 c3 c4 i1 i2 i3 i4 hm hi
     obtain ⟨c0, c1, c2, c3, c4, i1, i2, i3, i4⟩ := h.get
     have hm : MemN _ _ _ _ _ := ⟨rfl, h.1⟩
     have hi := h.2
     have hatb := at_L4v4
     refine .R rfl (.appendV rfl sl_112_Lj ze_79_Lj rfl by_79_Lj sl_112_Lj rfl rfl (by assumption) (by assumption) (by first | omega | (simp <;> omega)) rfl rfl (by omega) (by omega)) ?_
     rintro _ H65 ⟨g65, rfl, st65, ge65, at65⟩
     have nx_H65 := st65.nx
     replace hle := hle.st st65 (fun k hk => ⟨by omega, trivial⟩)
     replace lst3 := lst3.sA st65
     replace lst4 := lst4.sA st65
     have ne_g2_gL4v4 : NE g2 gL4v4 := .a
     replace at2 := st65.s at2 ne_g2_gL4v4.ne
     have ne_gL3_gL4v4 : NE gL3 gL4v4 := .a
     replace at_L3 := st65.s at_L3 ne_gL3_gL4v4.ne
     replace at_L5v4 := st65.same _ _ ⟨(Ne.symm ap4_0), trivial⟩ at_L5v4
     replace at64 := st65.s at64
     have lt_at65 := GHeap.ltg at65
     replace h := base_h.mono hle
     clear c0 c1 c2 c3 c4 i1 i2 i3 i4 hm hi
     obtain ⟨c0, c1, c2, c3, c4, i1, i2, i3, i4⟩ := h.get
     have hm : MemN _ _ _ _ _ := ⟨rfl, h.1⟩
     have hi := h.2
     have hLN := ((LastsN.of_le (T0 := 79) le64)).trans (st65.lastsN (.inr ⟨_, hatb⟩))
     obtain ⟨usM, husM⟩ : ∃ u, u = us' ++ [g63] := ⟨_, rfl⟩
     obtain ⟨esM, hesM⟩ : ∃ u, u = es' ++ [c.fork f k] := ⟨_, rfl⟩
     have hSM : Spns3 Try.prog 125 79 c g p H65 gs ss usM esM ws' ps' := by rw [husM, hesM]; exact (hS3.keep rfl ((LastsN.of_le le63).trans hLN)).snocB (sp63.keep rfl hLN) (Cat.fork_go hI (by omega) (by omega) h58.1)
     have hEM : (∀ s ∈ esM, c.SpE s) ↔ BefA c.src.length f k c.Q2 ∧ c.Q2 f k := by rw [hesM]; exact all_snoc.trans (and_congr hE2 ⟨fun q _ _ => q, fun q => q h58.1 h58.2⟩)
     have hlM : usM.length = esM.length ∧ esM.length ≤ f * 40 + (k + 1) ∧ nL4v4 + 1 = usM.length := by rw [husM, hesM, List.length_append, List.length_append, List.length_singleton, List.length_singleton]; omega
     have atM : GHeap.get H65 g65 = some (.row (ptrs usM) 79 true) := by rw [husM, ptrs_snoc]; exact at65
     have stM := (((St.refl [gL4v4] HL4).le le63).le le64).st st65 (fun _ _ h => h)
     have plM : g65 = gL4v4 ∨ HL4.next ≤ g65 := .inr (by omega)
     refine .mv rfl (.nil ?_)
     exact ⟨_, _, _, _, ⟨rfl, rfl, rfl, rfl, rfl, rfl, rfl, rfl, rfl, rfl, rfl, trivial⟩, stM, atM, plM, hSM, hEM, hlM⟩
    simp only [sps] at h58
    replace h58 : c.src.getD f 0 = c.src.getD k 0 → c.tgt.getD f 0 = c.tgt.getD k 0 → False := fun a b => h58.elim (fun q => q a) (fun q => q b)
    obtain ⟨usM, husM⟩ : ∃ u, u = us' := ⟨_, rfl⟩
    obtain ⟨esM, hesM⟩ : ∃ u, u = es' := ⟨_, rfl⟩
    have hSM : Spns3 Try.prog 125 79 c g p HL4 gs ss usM esM ws' ps' := by rw [husM, hesM]; exact hS3
    have hEM : (∀ s ∈ esM, c.SpE s) ↔ BefA c.src.length f k c.Q2 ∧ c.Q2 f k := by rw [hesM, hE2]; exact ⟨fun q => ⟨q, fun a b => (h58 a b).elim⟩, fun q => q.1⟩
    have hlM : usM.length = esM.length ∧ esM.length ≤ f * 40 + (k + 1) ∧ nL4v4 = usM.length := by rw [husM, hesM]; omega
    have atM : GHeap.get HL4 gL4v4 = some (.row (ptrs usM) 79 true) := by rw [husM]; assumption
    have stM := St.refl [gL4v4] HL4
    have plM : gL4v4 = gL4v4 ∨ HL4.next ≤ gL4v4 := .inl rfl
    refine .skip ?_
    exact ⟨_, _, _, _, ⟨rfl, rfl, rfl, rfl, rfl, rfl, rfl, rfl, rfl, rfl, rfl, trivial⟩, stM, atM, plM, hSM, hEM, hlM⟩
   try simp only [sps] at h50
   refine .exit ?_
   refine hK16 _ _ (.region ?_)
   refine .q rfl (.add rfl rfl rfl (by omega) (by omega)) ?_
   refine .mv rfl (.nil ?_)
   obtain rfl : k = c.src.length := by omega
   refine hKL3 ((f + 1, us', es', ws', ps', _, _, _, _)) _ _ ?_ ?_ ⟨rfl, rfl, rfl, rfl, rfl, rfl, rfl, trivial⟩
   ·
    refine ⟨lst3, by assumption, by omega, by first | omega | (simp only [List.length_append, List.length_cons, List.length_nil] <;> omega), by assumption, by omega, by first | omega | (simp only [List.length_append, List.length_cons, List.length_nil] <;> omega), by omega, ?_⟩
    exact ⟨by omega, hS3, hE2.trans BefA.next.symm, hE3.trans BefA.next.symm, by omega, by omega⟩
   (dsimp only; omega)
  try simp only [sps] at h42
  refine .exit ?_
  refine hK12 _ _ (.seq (fun K25 hK25 => .region ?_))
  obtain rfl : f = c.src.length := by omega
  have hl1 := hS3.a.len
  have hl2' := hS3.b.len
  have hl3' := hS3.d.len
  obtain rfl : nL3 = ss.length := by omega
  obtain rfl : nL4 = es.length := by omega
  obtain rfl : nL5 = ps.length := by omega
  refine .mv rfl ?_
  refine .call rfl rfl rfl rfl @Try.call99 rfl (terminal_c) ?_
  rintro _ H91 ⟨le91, g91, rfl, at91, ge91⟩
  have nx_H91 := le91.1
  replace hle := hle.trans le91
  replace lst3 := lst3.le le91
  replace at2 := le91.2 _ _ at2
  replace at_L3 := le91.2 _ _ at_L3
  replace at_L4 := le91.2 _ _ at_L4
  replace at_L5 := le91.2 _ _ at_L5
  have lt_at91 := GHeap.ltg at91
  replace h := base_h.mono hle
  clear c0 c1 c2 c3 c4 i1 i2 i3 i4 hm hi
  obtain ⟨c0, c1, c2, c3, c4, i1, i2, i3, i4⟩ := h.get
  have hm : MemN _ _ _ _ _ := ⟨rfl, h.1⟩
  have hi := h.2
  have i91 := Ints.of_get at91
  have hS4 := hS3.keep rfl (.of_le le91)
  refine .q rfl (.len sl_22_A rfl) (.q rfl (.cmp rfl rfl rfl) (.mv rfl ?_))
  refine .callQ rfl rfl rfl rfl @Try.call100 rfl (allExist_c (hl := at_L3) (hs := hS4.a) (hc := hS4.ac) (hn := by omega)) ?_
  refine .mv rfl ?_
  refine .callQ rfl rfl rfl rfl @Try.call100 rfl (allExist_c (hl := at_L4) (hs := hS4.b) (hc := hS4.bc) (hn := by omega)) ?_
  refine .mv rfl ?_
  refine .callQ rfl rfl rfl rfl @Try.call100 rfl (allExist_c (hl := at_L5) (hs := hS4.d) (hc := hS4.dc) (hn := by omega)) ?_
  refine .q rfl (.buildA bta_70_Lj rfl rfl rfl) ?_
  refine .r0 rfl rfl (.fillA rfl sz_70_Lj rfl rfl rfl rfl) ?_
  rintro _ H21011 ⟨rfl, st21011, at21011⟩
  have nx_H21011 := st21011.nx
  replace hle := hle.st st21011 (fun k hk => ⟨by omega, trivial⟩)
  replace at_L3 := st21011.s at_L3
  replace at_L4 := st21011.s at_L4
  replace at_L5 := st21011.s at_L5
  replace at91 := st21011.s at91
  have lt_at21011 := GHeap.ltg at21011
  replace h := base_h.mono hle
  clear c0 c1 c2 c3 c4 i1 i2 i3 i4 hm hi
  obtain ⟨c0, c1, c2, c3, c4, i1, i2, i3, i4⟩ := h.get
  have hm : MemN _ _ _ _ _ := ⟨rfl, h.1⟩
  have hi := h.2
  clear i91
  have i91 := Ints.of_get at91
  have mm21011 : MemN _ _ _ _ _ := ⟨rfl, Mem.of_get at21011⟩
  refine .nil (hK25 _ _ ?_)
  refine .ret ?_
  refine hret _ _ ?_
  refine ⟨_, _, _, _, rfl, ag_70_Lj, (by rfl), (Mem.of_get at21011), ?_⟩
  have e0 : decide ((c.term.length : Int) > 0) = B (c.term ≠ []) := by
    rw [Bool.eq_iff_iff, B_iff, decide_eq_true_eq]
    exact ⟨fun h e => by rw [e] at h; simp at h, fun h => by have := List.length_pos_iff.2 h; omega⟩
  refine ⟨hle, ?_⟩
  rw [← B_congr (hE.trans BefA.done), ← B_congr (hE2.trans BefA.done), ← B_congr (hE3.trans BefA.done), ← e0]
  rfl
end Go.Proofs.Ytjdedelneppnlaa
namespace Go.Proofs.Ytjdedelneppnlaa
open Go Go.GL Go.RowKit Go.Proofs
theorem sz_4_Lk : (Try.prog.info? 4).map (·.size) = some 1 := by kernel_rfl
theorem bta_72_Lk : buildAT Try.prog 72 = some ([.bool false, .bool false, .bool false, .bool false, .bool false, .bool false, .bool false, .bool false], 4) := by kernel_rfl
theorem specLimitFlags_c {c : Cat} {p : CatP} {H : GHeap} (hin : c.In H p := by assumption) (hs : c.Small := by assumption) :
    GCalls Try.prog 8 [.agg (c.cells p).toArray] H (NewLC (c.code []) (codeL (c.code []) c.lfL) H) := by
  refine GCalls.body (N := 35) (rs := [.tmp 2, .tmp 3]) Try.func8 rfl rfl rfl rfl (fun Qx hret hend => ?_)
  refine .fg [0] rfl ?_
  have hle := GHeap.Le.refl H
  have base_hin := hin
  refine .seq (fun K1 hK1 => .region ?_)
  refine .R rfl (.boxR rfl sz_29_D rfl) ?_
  rintro _ H1 ⟨g1, rfl, le1, ge1, at1⟩
  have nx_H1 := le1.1
  replace hle := hle.trans le1
  have lt_at1 := GHeap.ltg at1
  replace hin := base_hin.mono hle
  have hb1 : Cat.At _ g1 0 c p := ⟨Mem.of_get at1, hin⟩
  obtain ⟨c01, c11, c21, c31, c41, i11, i21, i31, i41⟩ := hb1.get
  have hm1 : MemN _ _ _ _ _ := ⟨rfl, hb1.1⟩
  have hi1 := hb1.2
  refine .mv rfl (.mv rfl (.nil (hK1 _ _ (.seq (fun K2 hK2 => .seq (fun K3 hK3 => .region ?_))))))
  refine .q rfl (.loadM ag_29_D rfl ⟨rfl, Mem.of_get at1⟩) ?_
  refine .callQ rfl rfl rfl rfl @Try.call41 rfl (l02Is_c) ?_
  refine .q rfl (.not rfl) (.nil (hK3 _ _ ?_))
  refine .cond rfl (fun h10 => ?_) (fun h10 => ?_)
  ·
   try simp only [sps] at h10
   refine .seq (fun K4 hK4 => .region (.mv rfl (.mv rfl (.nil (hK4 _ _ ?_)))))
   refine .ret ?_
   refine hret _ _ ?_
   refine ⟨_, _, rfl, rfl, ?_⟩
   rw [codeL_err (by rw [Cat.code_nil1 h10]; decide), Cat.code_nil1 h10]; exact ⟨hle, none, rfl, .inl ⟨rfl, rfl⟩⟩
  simp only [sps] at h10
  have hS := h10.1
  have hSo := h10.1.op
  have l1 : c.hasL.length = 4 := rfl
  have l2 : c.op.hasL.length = 4 := rfl
  refine .skip ?_
  refine hK2 _ _ (.seq (fun K5 hK5 => ?_))
  refine .regionD mo_B (.q 0 (.q 2 (.c 1 1 (.c 3 0 (.c 4 0 (.q 5 (.q 6 (.done)))))))) (by kernel_rfl) ?_
  refine .cut [(0, some _), (1, some _), (2, some _), (3, some _), (8, some _), (9, some _), (10, some _)] ⟨rfl, rfl, rfl, rfl, rfl, rfl, rfl, trivial⟩ (fun rest fr' H' => ∃ (gA : Nat) (gB : Nat), Sub ((4, some (.slice (some ⟨gA, 0, none⟩) c.hasL.length c.hasL.length)) :: (5, some (.slice (some ⟨gB, 0, none⟩) c.op.hasL.length c.op.hasL.length)) :: rest) fr' ∧ H1.Le H' ∧ H'.get gA = some (.row (ints c.hasL) 2 true) ∧ H1.next ≤ gA ∧ H'.get gB = some (.row (ints c.op.hasL) 2 true) ∧ H1.next ≤ gB) ?_ ?_
  ·
   have hf0 := St.refl [] H1
   refine .q rfl (.loadM ag_29_D rfl ⟨rfl, Mem.of_get at1⟩) ?_
   refine .q rfl (.loadM ag_29_D rfl ⟨rfl, Mem.of_get at1⟩) ?_
   refine .call1 rfl rfl rfl rfl rfl @Try.call42 rfl (l13Has_c) ?_
   rintro _ H12 ⟨le12, g12, rfl, at12, ge12⟩
   have hbl := le12
   refine ⟨hbl, ?_⟩
   have nx_H12 := le12.1
   replace hle := hle.trans le12
   replace hf0 := hf0.le le12
   replace at1 := le12.2 _ _ at1
   have lt_at12 := GHeap.ltg at12
   replace hin := base_hin.mono hle
   clear hb1 c01 c11 c21 c31 c41 i11 i21 i31 i41 hm1 hi1
   have hb1 : Cat.At _ g1 0 c p := ⟨Mem.of_get at1, hin⟩
   obtain ⟨c01, c11, c21, c31, c41, i11, i21, i31, i41⟩ := hb1.get
   have hm1 : MemN _ _ _ _ _ := ⟨rfl, hb1.1⟩
   have hi1 := hb1.2
   have i12 := Ints.of_get at12
   refine .call0 rfl rfl rfl rfl rfl @Try.call43 rfl (l03OpR_c) ?_
   rintro _ H14 ⟨le14, p14, rfl, v14⟩
   have nx_H14 := le14.1
   replace hle := hle.trans le14
   replace hf0 := hf0.le le14
   replace at1 := le14.2 _ _ at1
   replace at12 := le14.2 _ _ at12
   have bs_v14 := v14
   have lv_v14 : Keep H12.next H14 H14 := fun _ _ _ h => h
   replace hin := base_hin.mono hle
   clear hb1 c01 c11 c21 c31 c41 i11 i21 i31 i41 hm1 hi1
   have hb1 : Cat.At _ g1 0 c p := ⟨Mem.of_get at1, hin⟩
   obtain ⟨c01, c11, c21, c31, c41, i11, i21, i31, i41⟩ := hb1.get
   have hm1 : MemN _ _ _ _ _ := ⟨rfl, hb1.1⟩
   have hi1 := hb1.2
   clear i12
   have i12 := Ints.of_get at12
   have i14 := v14.inn
   refine .call0 rfl rfl rfl rfl rfl @Try.call42 rfl (l13Has_c (c := c.op)) ?_
   rintro _ H15 ⟨le15, g15, rfl, at15, ge15⟩
   have nx_H15 := le15.1
   replace hle := hle.trans le15
   replace hf0 := hf0.le le15
   replace at1 := le15.2 _ _ at1
   replace at12 := le15.2 _ _ at12
   replace lv_v14 := Keep.le lv_v14 le15
   replace v14 := bs_v14.keep lv_v14 (Nat.le_refl _)
   have lt_at15 := GHeap.ltg at15
   replace hin := base_hin.mono hle
   clear hb1 c01 c11 c21 c31 c41 i11 i21 i31 i41 hm1 hi1
   have hb1 : Cat.At _ g1 0 c p := ⟨Mem.of_get at1, hin⟩
   obtain ⟨c01, c11, c21, c31, c41, i11, i21, i31, i41⟩ := hb1.get
   have hm1 : MemN _ _ _ _ _ := ⟨rfl, hb1.1⟩
   have hi1 := hb1.2
   clear i12
   have i12 := Ints.of_get at12
   clear i14
   have i14 := v14.inn
   have i15 := Ints.of_get at15
   refine .qB rfl (.refl _) (.assign rfl) (.qB rfl (.refl _) (.assign rfl) ?_)
   refine .done ?_
   exact ⟨_, _, ⟨rfl, rfl, rfl, rfl, rfl, rfl, rfl, rfl, rfl, trivial⟩, ⟨hf0.nx, fun k o h => hf0.same k o trivial h⟩, by assumption, by omega, by assumption, by omega⟩
  rintro fr903 H903 ⟨gA1, gB1, hsub903, le903, atA, geA, atB, geB⟩
  have nx_H903 := le903.1
  replace hle := hle.trans le903
  replace at1 := le903.2 _ _ at1
  have lt_atA := GHeap.ltg atA
  have lt_atB := GHeap.ltg atB
  replace hin := base_hin.mono hle
  clear hb1 c01 c11 c21 c31 c41 i11 i21 i31 i41 hm1 hi1
  have hb1 : Cat.At _ g1 0 c p := ⟨Mem.of_get at1, hin⟩
  obtain ⟨c01, c11, c21, c31, c41, i11, i21, i31, i41⟩ := hb1.get
  have hm1 : MemN _ _ _ _ _ := ⟨rfl, hb1.1⟩
  have hi1 := hb1.2
  refine hK5 _ _ ?_
  refine .forget hsub903 ?_
  refine .seq (fun K6 hK6 => .region ?_)
  refine .R rfl (.litA rfl sl_22_A ze_2_E rfl rfl rfl rfl) ?_
  rintro _ H16 ⟨g16, rfl, le16, ge16, at16⟩
  have nx_H16 := le16.1
  replace hle := hle.trans le16
  replace at1 := le16.2 _ _ at1
  replace atA := le16.2 _ _ atA
  replace atB := le16.2 _ _ atB
  have lt_at16 := GHeap.ltg at16
  replace hin := base_hin.mono hle
  clear hb1 c01 c11 c21 c31 c41 i11 i21 i31 i41 hm1 hi1
  have hb1 : Cat.At _ g1 0 c p := ⟨Mem.of_get at1, hin⟩
  obtain ⟨c01, c11, c21, c31, c41, i11, i21, i31, i41⟩ := hb1.get
  have hm1 : MemN _ _ _ _ _ := ⟨rfl, hb1.1⟩
  have hi1 := hb1.2
  replace at16 : GHeap.get H16 g16 = some (.row (ints []) 2 true) := at16
  refine .mv rfl (.nil (hK6 _ _ (.seq (fun K7 hK7 => .seq (fun K8 hK8 => .region (.mv rfl (.nil (hK8 _ _ ?_))))))))
  refine .block ?_
  refine .loopR (σ := Nat × Nat × Nat) [(4, some _), (5, some _)] (fun (k, gL6, nL6) => [(7, some (.int .i64 (k : Int))), (6, some (.slice (some ⟨gL6, 0, none⟩) nL6 nL6))]) (fun (k, gL6, nL6) H' => St [g16] H16 H' ∧ H'.get gL6 = some (.row (ints (inter2 c.hasL c.op.hasL k)) 2 true) ∧ (gL6 = g16 ∨ H16.next ≤ gL6) ∧ nL6 = (inter2 c.hasL c.op.hasL k).length ∧ k ≤ 4) (fun (k, gL6, nL6) => 4 - k) ((0, _, _)) ⟨rfl, rfl, trivial⟩ ⟨rfl, rfl, trivial⟩ ?_ ?_
  ·
   refine ⟨.refl _ _, by first | assumption | exact at16 | simpa using at16, .inl rfl, by first | rfl | assumption | simp | omega, ?_⟩
   omega
  rintro ⟨k, gL6, nL6⟩ HL1 ⟨lst1, at_L6, pl_L6, ln_L6, hI⟩ KL1 hKL1
  refine .forget (fr' := [(7, some (.int .i64 (k : Int))), (6, some (.slice (some ⟨gL6, 0, none⟩) nL6 nL6)), (4, some _), (5, some _)]) ⟨rfl, rfl, rfl, rfl, trivial⟩ ?_
  have ge_L6 : H.next ≤ gL6 := by omega
  have nx_HL1 := lst1.nx
  replace hle := hle.st lst1 (fun k hk => ⟨by omega, trivial⟩)
  replace at1 := lst1.s at1
  replace atA := lst1.s atA
  replace atB := lst1.s atB
  have lt_at_L6 := GHeap.ltg at_L6
  replace hin := base_hin.mono hle
  clear hb1 c01 c11 c21 c31 c41 i11 i21 i31 i41 hm1 hi1
  have hb1 : Cat.At _ g1 0 c p := ⟨Mem.of_get at1, hin⟩
  obtain ⟨c01, c11, c21, c31, c41, i11, i21, i31, i41⟩ := hb1.get
  have hm1 : MemN _ _ _ _ _ := ⟨rfl, hb1.1⟩
  have hi1 := hb1.2
  have hli := length_inter2 c.hasL c.op.hasL k
  refine .seq (fun K9 hK9 => .seq (fun K10 hK10 => .region (.mv rfl (.mv rfl (.q rfl (.len sl_22_A rfl) (.q rfl (.cmp rfl rfl rfl) (.nil (hK10 _ _ ?_))))))))
  refine .cond rfl (fun h20 => ?_) (fun h20 => ?_)
  ·
   simp only [sps] at h20
   refine .skip ?_
   refine hK9 _ _ (.seq (fun K11 hK11 => ?_))
   refine .block ?_
   refine .regionD mo_B (.q 0 (.q 1 (.q 2 (.q 3 (.q 4 (.q 5 (.q 6 (.q 7 (.q 8 (.c 9 1 (.c 10 0 (.c 11 0 (.done))))))))))))) (by kernel_rfl) ?_
   refine .mv rfl rfl (.mv rfl rfl (.mv rfl rfl ?_))
   refine .q rfl (.idxN sl_22_A (by first | assumption | exact SlA.of_row atA (by first | rfl | (simp; done) | (simp <;> omega))) rfl rfl (by omega)) ?_
   refine .q rfl (.loadI on_2_A (by first | assumption | exact Ints.of_get atA) rfl (by omega)) ?_
   refine .mv rfl rfl (.mv rfl rfl ?_)
   refine .q rfl (.idxN sl_22_A (by first | assumption | exact SlA.of_row atB (by first | rfl | (simp; done) | (simp <;> omega))) rfl rfl (by omega)) ?_
   refine .q rfl (.loadI on_2_A (by first | assumption | exact Ints.of_get atB) rfl (by omega)) ?_
   refine .c1 rfl rfl rfl rfl (.litA rfl sl_22_A ze_2_E rfl rfl rfl rfl) ?_
   rintro _ H32 ⟨g32, rfl, le32, ge32, at32⟩
   have hbl := le32
   refine ⟨hbl, ?_⟩
   have nx_H32 := le32.1
   replace hle := hle.trans le32
   replace lst1 := lst1.le le32
   replace at1 := le32.2 _ _ at1
   replace atA := le32.2 _ _ atA
   replace atB := le32.2 _ _ atB
   replace at_L6 := le32.2 _ _ at_L6
   have lt_at32 := GHeap.ltg at32
   replace hin := base_hin.mono hle
   clear hb1 c01 c11 c21 c31 c41 i11 i21 i31 i41 hm1 hi1
   have hb1 : Cat.At _ g1 0 c p := ⟨Mem.of_get at1, hin⟩
   obtain ⟨c01, c11, c21, c31, c41, i11, i21, i31, i41⟩ := hb1.get
   have hm1 : MemN _ _ _ _ _ := ⟨rfl, hb1.1⟩
   have hi1 := hb1.2
   refine .c0 rfl rfl rfl rfl (.appendL rfl sl_22_A ze_2_E rfl by_2_E sl_22_A rfl rfl (by assumption) (Ints.of_get (xs := [_, _]) (by assumption)) (by omega) (by simp <;> omega) (by simp <;> omega)) ?_
   rintro _ H33 ⟨g33, rfl, st33, ge33, at33⟩
   have nx_H33 := st33.nx
   replace hle := hle.st st33 (fun k hk => ⟨by omega, trivial⟩)
   replace lst1 := lst1.sA st33
   replace at1 := st33.s at1
   replace atA := st33.s atA
   replace atB := st33.s atB
   replace at32 := st33.s at32
   have lt_at33 := GHeap.ltg at33
   replace hin := base_hin.mono hle
   clear hb1 c01 c11 c21 c31 c41 i11 i21 i31 i41 hm1 hi1
   have hb1 : Cat.At _ g1 0 c p := ⟨Mem.of_get at1, hin⟩
   obtain ⟨c01, c11, c21, c31, c41, i11, i21, i31, i41⟩ := hb1.get
   have hm1 : MemN _ _ _ _ _ := ⟨rfl, hb1.1⟩
   have hi1 := hb1.2
   refine .d0 rfl rfl rfl rfl (.quiet (.assign rfl) CIs.mk) ?_
   refine .done ?_
   refine hK11 _ _ (.region (.mv rfl ?_))
   refine .q rfl (.add rfl rfl rfl (by omega) (by omega)) ?_
   refine .mv rfl (.nil ?_)
   refine hKL1 ((k + 1, _, _)) _ _ ?_ ?_ ⟨rfl, rfl, rfl, rfl, trivial⟩
   ·
    refine ⟨lst1, by first | assumption | (rw [inter2_succ]; assumption), by omega, by first | omega | (simp only [List.length_append, List.length_cons, List.length_nil] <;> omega) | (rw [inter2_succ] <;> (first | omega | (simp only [List.length_append, List.length_cons, List.length_nil] <;> omega))), ?_⟩
    omega
   (dsimp only; omega)
  try simp only [sps] at h20
  refine .exit ?_
  refine hK7 _ _ (.seq (fun K12 hK12 => .region (.mv rfl (.mv rfl (.mv rfl (.nil (hK12 _ _ ?_)))))))
  refine .ret ?_
  refine hret _ _ ?_
  refine ⟨_, _, rfl, rfl, ?_⟩
  obtain rfl : k = 4 := by omega
  rw [codeL_ok (Cat.code_nil.2 h10), Cat.code_nil.2 h10]
  exact ⟨hle, _, by rw [ln_L6]; rfl, .of_at at_L6 (by omega)⟩
theorem und_arr4 : Try.prog.underlying 70 = some (.array 4 4) := by kernel_rfl
theorem und_arr24 : Try.prog.underlying 72 = some (.array 2 70) := by kernel_rfl
theorem implLimitFlags_c {c : Cat} {p : CatP} {H : GHeap} (hin : c.In H p := by assumption) (hs : c.Small := by assumption) :
    GCalls Try.prog 10 [.agg (c.cells p).toArray] H (NewLC (c.code []) (codeL (c.code []) c.lfL) H) := by
  refine GCalls.body (N := 36) (rs := [.tmp 2, .tmp 3]) Try.func10 rfl rfl rfl rfl (fun Qx hret hend => ?_)
  refine .fg [0] rfl ?_
  have hle := GHeap.Le.refl H
  have base_hin := hin
  refine .seq (fun K1 hK1 => .region ?_)
  refine .R rfl (.boxR rfl sz_29_D rfl) ?_
  rintro _ H1 ⟨g1, rfl, le1, ge1, at1⟩
  have nx_H1 := le1.1
  replace hle := hle.trans le1
  have lt_at1 := GHeap.ltg at1
  replace hin := base_hin.mono hle
  have hb1 : Cat.At _ g1 0 c p := ⟨Mem.of_get at1, hin⟩
  obtain ⟨c01, c11, c21, c31, c41, i11, i21, i31, i41⟩ := hb1.get
  have hm1 : MemN _ _ _ _ _ := ⟨rfl, hb1.1⟩
  have hi1 := hb1.2
  refine .mv rfl (.mv rfl (.nil (hK1 _ _ (.seq (fun K2 hK2 => .seq (fun K3 hK3 => .region ?_))))))
  refine .callQ rfl rfl rfl rfl @Try.call46 rfl (isCategory_c) ?_
  refine .q rfl (.not rfl) (.nil (hK3 _ _ ?_))
  refine .cond rfl (fun h11 => ?_) (fun h11 => ?_)
  ·
   try simp only [sps] at h11
   refine .seq (fun K4 hK4 => .region (.mv rfl (.mv rfl (.nil (hK4 _ _ ?_)))))
   refine .ret ?_
   refine hret _ _ ?_
   refine ⟨_, _, rfl, rfl, ?_⟩
   rw [codeL_err (by rw [Cat.code_nil1 h11]; decide), Cat.code_nil1 h11]; exact ⟨hle, none, rfl, .inl ⟨rfl, rfl⟩⟩
  simp only [sps] at h11
  have hS := h11.1
  have hIo := h11.op
  refine .skip ?_
  refine hK2 _ _ (.seq (fun K5 hK5 => .region ?_))
  refine .call rfl rfl rfl rfl @Try.call47 rfl (opposite_c) ?_
  rintro _ H12 ⟨le12, p12, rfl, v12⟩
  have nx_H12 := le12.1
  replace hle := hle.trans le12
  replace at1 := le12.2 _ _ at1
  have bs_v12 := v12
  have lv_v12 : Keep H1.next H12 H12 := fun _ _ _ h => h
  replace hin := base_hin.mono hle
  clear hb1 c01 c11 c21 c31 c41 i11 i21 i31 i41 hm1 hi1
  have hb1 : Cat.At _ g1 0 c p := ⟨Mem.of_get at1, hin⟩
  obtain ⟨c01, c11, c21, c31, c41, i11, i21, i31, i41⟩ := hb1.get
  have hm1 : MemN _ _ _ _ _ := ⟨rfl, hb1.1⟩
  have hi1 := hb1.2
  have i12 := v12.inn
  refine .R rfl (.allocR rfl ze_29_E rfl) ?_
  rintro _ H4 ⟨g4, rfl, le4, ge4, at4⟩
  have nx_H4 := le4.1
  replace hle := hle.trans le4
  replace at1 := le4.2 _ _ at1
  replace lv_v12 := Keep.le lv_v12 le4
  replace v12 := bs_v12.keep lv_v12 (Nat.le_refl _)
  have lt_at4 := GHeap.ltg at4
  replace hin := base_hin.mono hle
  clear hb1 c01 c11 c21 c31 c41 i11 i21 i31 i41 hm1 hi1
  have hb1 : Cat.At _ g1 0 c p := ⟨Mem.of_get at1, hin⟩
  obtain ⟨c01, c11, c21, c31, c41, i11, i21, i31, i41⟩ := hb1.get
  have hm1 : MemN _ _ _ _ _ := ⟨rfl, hb1.1⟩
  have hi1 := hb1.2
  clear i12
  have i12 := v12.inn
  refine .r0 rfl rfl (.fillA rfl sz_29_D rfl rfl rfl rfl) ?_
  rintro _ H3002 ⟨rfl, st3002, at3002⟩
  have nx_H3002 := st3002.nx
  replace hle := hle.st st3002 (fun k hk => ⟨by omega, trivial⟩)
  replace at1 := st3002.s at1
  replace lv_v12 := Keep.st lv_v12 st3002 (fun k hb hk => ⟨by omega, trivial⟩)
  replace v12 := bs_v12.keep lv_v12 (Nat.le_refl _)
  have lt_at3002 := GHeap.ltg at3002
  replace hin := base_hin.mono hle
  clear hb1 c01 c11 c21 c31 c41 i11 i21 i31 i41 hm1 hi1
  have hb1 : Cat.At _ g1 0 c p := ⟨Mem.of_get at1, hin⟩
  obtain ⟨c01, c11, c21, c31, c41, i11, i21, i31, i41⟩ := hb1.get
  have hm1 : MemN _ _ _ _ _ := ⟨rfl, hb1.1⟩
  have hi1 := hb1.2
  clear i12
  have i12 := v12.inn
  have mm3002 : MemN _ _ _ _ _ := ⟨rfl, Mem.of_get at3002⟩
  refine .nil (hK5 _ _ (.seq (fun K6 hK6 => .region ?_)))
  refine .R rfl (.makeI rfl sl_22_A ze_2_E by_2_E rfl rfl (by omega) (by omega) (by omega) (by omega)) ?_
  rintro _ H13 ⟨g13, rfl, le13, ge13, at13⟩
  have nx_H13 := le13.1
  replace hle := hle.trans le13
  replace at1 := le13.2 _ _ at1
  replace at3002 := le13.2 _ _ at3002
  replace lv_v12 := Keep.le lv_v12 le13
  replace v12 := bs_v12.keep lv_v12 (Nat.le_refl _)
  have lt_at13 := GHeap.ltg at13
  replace hin := base_hin.mono hle
  clear hb1 c01 c11 c21 c31 c41 i11 i21 i31 i41 hm1 hi1
  have hb1 : Cat.At _ g1 0 c p := ⟨Mem.of_get at1, hin⟩
  obtain ⟨c01, c11, c21, c31, c41, i11, i21, i31, i41⟩ := hb1.get
  have hm1 : MemN _ _ _ _ _ := ⟨rfl, hb1.1⟩
  have hi1 := hb1.2
  clear i12
  have i12 := v12.inn
  clear mm3002
  have mm3002 : MemN _ _ _ _ _ := ⟨rfl, Mem.of_get at3002⟩
  refine .mv rfl (.nil (hK6 _ _ (.seq (fun K7 hK7 => .seq (fun K8 hK8 => .region ?_)))))
  refine .call rfl rfl rfl rfl @Try.call48 rfl (limitFlags_c) ?_
  rintro _ H14 ⟨le14, rfl⟩
  have nx_H14 := le14.1
  replace hle := hle.trans le14
  replace at1 := le14.2 _ _ at1
  replace at3002 := le14.2 _ _ at3002
  replace at13 := le14.2 _ _ at13
  replace lv_v12 := Keep.le lv_v12 le14
  replace v12 := bs_v12.keep lv_v12 (Nat.le_refl _)
  replace hin := base_hin.mono hle
  clear hb1 c01 c11 c21 c31 c41 i11 i21 i31 i41 hm1 hi1
  have hb1 : Cat.At _ g1 0 c p := ⟨Mem.of_get at1, hin⟩
  obtain ⟨c01, c11, c21, c31, c41, i11, i21, i31, i41⟩ := hb1.get
  have hm1 : MemN _ _ _ _ _ := ⟨rfl, hb1.1⟩
  have hi1 := hb1.2
  clear i12
  have i12 := v12.inn
  clear mm3002
  have mm3002 : MemN _ _ _ _ _ := ⟨rfl, Mem.of_get at3002⟩
  refine .call rfl rfl rfl rfl @Try.call48 rfl (limitFlags_c (c := c.op) (h := ⟨Mem.of_get at3002, v12.inn⟩)) ?_
  rintro _ H15 ⟨le15, rfl⟩
  have nx_H15 := le15.1
  replace hle := hle.trans le15
  replace at1 := le15.2 _ _ at1
  replace at3002 := le15.2 _ _ at3002
  replace at13 := le15.2 _ _ at13
  replace lv_v12 := Keep.le lv_v12 le15
  replace v12 := bs_v12.keep lv_v12 (Nat.le_refl _)
  replace hin := base_hin.mono hle
  clear hb1 c01 c11 c21 c31 c41 i11 i21 i31 i41 hm1 hi1
  have hb1 : Cat.At _ g1 0 c p := ⟨Mem.of_get at1, hin⟩
  obtain ⟨c01, c11, c21, c31, c41, i11, i21, i31, i41⟩ := hb1.get
  have hm1 : MemN _ _ _ _ _ := ⟨rfl, hb1.1⟩
  have hi1 := hb1.2
  clear i12
  have i12 := v12.inn
  clear mm3002
  have mm3002 : MemN _ _ _ _ _ := ⟨rfl, Mem.of_get at3002⟩
  refine .q rfl (.buildA bta_72_Lk rfl rfl rfl) (.mv rfl (.nil (hK8 _ _ ?_)))
  refine .block ?_
  refine .loopR (σ := Nat) [(5, some _), (16, some _)] (fun i => [(17, some (.int .i64 (i : Int)))]) (fun i H' => St [g13] H15 H' ∧ H'.get g13 = some (.row (ints (outF c.flB i 0)) 2 true) ∧ i ≤ 2) (fun i => 2 - i) (0) ⟨rfl, rfl, trivial⟩ ⟨rfl, trivial⟩ ?_ ?_
  ·
   refine ⟨.refl _ _, by first | assumption | (rw [outF_zero]; exact at13), ?_⟩
   omega
  rintro i HL1 ⟨lst1, at_L5, hI⟩ KL1 hKL1
  refine .forget (fr' := [(17, some (.int .i64 (i : Int))), (5, some _), (16, some _)]) ⟨rfl, rfl, rfl, trivial⟩ ?_
  have nx_HL1 := lst1.nx
  replace hle := hle.st lst1 (fun k hk => ⟨by omega, trivial⟩)
  have ne_g1_g13 : NE g1 g13 := .a
  replace at1 := lst1.s at1 ne_g1_g13.ne
  have ne_g4_g13 : NE g4 g13 := .a
  replace at3002 := lst1.s at3002 ne_g4_g13.ne
  replace lv_v12 := Keep.st lv_v12 lst1 (fun k hb hk => ⟨by omega, trivial⟩)
  replace v12 := bs_v12.keep lv_v12 (Nat.le_refl _)
  have lt_at_L5 := GHeap.ltg at_L5
  replace hin := base_hin.mono hle
  clear hb1 c01 c11 c21 c31 c41 i11 i21 i31 i41 hm1 hi1
  have hb1 : Cat.At _ g1 0 c p := ⟨Mem.of_get at1, hin⟩
  obtain ⟨c01, c11, c21, c31, c41, i11, i21, i31, i41⟩ := hb1.get
  have hm1 : MemN _ _ _ _ _ := ⟨rfl, hb1.1⟩
  have hi1 := hb1.2
  clear i12
  have i12 := v12.inn
  clear mm3002
  have mm3002 : MemN _ _ _ _ _ := ⟨rfl, Mem.of_get at3002⟩
  refine .seq (fun K9 hK9 => .region (.q rfl (.cmp rfl rfl rfl) (.nil (hK9 _ _ (.seq (fun K10 hK10 => ?_))))))
  refine .cond rfl (fun h18 => ?_) (fun h18 => ?_)
  ·
   simp only [sps] at h18
   refine .skip ?_
   refine hK10 _ _ (.seq (fun K11 hK11 => ?_))
   refine .block ?_
   refine .seq (fun K12 hK12 => .region (.mv rfl ?_))
   refine .d rfl rfl rfl (.indexA rfl und_arr24 sz_70_Lj ag_70_Lj rfl rfl (by omega) (by omega) (show CIs (some (.agg #[.bool (c.flB i 0), .bool (c.flB i 1), .bool (c.flB i 2), .bool (c.flB i 3)])) _ _ _ from by exact ⟨congrArg (fun x => some (Value.agg x)) (arr24 (by omega)), rfl⟩)) ?_
   refine .R rfl (.allocR rfl ze_70_Lj rfl) ?_
   rintro _ H7 ⟨g7, rfl, le7, ge7, at7⟩
   have nx_H7 := le7.1
   replace hle := hle.trans le7
   replace lst1 := lst1.le le7
   replace at1 := le7.2 _ _ at1
   replace at3002 := le7.2 _ _ at3002
   replace at_L5 := le7.2 _ _ at_L5
   replace lv_v12 := Keep.le lv_v12 le7
   replace v12 := bs_v12.keep lv_v12 (Nat.le_refl _)
   have lt_at7 := GHeap.ltg at7
   replace hin := base_hin.mono hle
   clear hb1 c01 c11 c21 c31 c41 i11 i21 i31 i41 hm1 hi1
   have hb1 : Cat.At _ g1 0 c p := ⟨Mem.of_get at1, hin⟩
   obtain ⟨c01, c11, c21, c31, c41, i11, i21, i31, i41⟩ := hb1.get
   have hm1 : MemN _ _ _ _ _ := ⟨rfl, hb1.1⟩
   have hi1 := hb1.2
   clear i12
   have i12 := v12.inn
   clear mm3002
   have mm3002 : MemN _ _ _ _ _ := ⟨rfl, Mem.of_get at3002⟩
   refine .mv rfl ?_
   refine .r0 rfl rfl (.fillA rfl sz_70_Lj rfl rfl rfl rfl) ?_
   rintro _ H7004 ⟨rfl, st7004, at7004⟩
   have nx_H7004 := st7004.nx
   replace hle := hle.st st7004 (fun k hk => ⟨by omega, trivial⟩)
   replace lst1 := lst1.sA st7004
   replace at1 := st7004.s at1
   replace at3002 := st7004.s at3002
   have ne_g13_g7 : NE g13 g7 := .a
   replace at_L5 := st7004.s at_L5 ne_g13_g7.ne
   replace lv_v12 := Keep.st lv_v12 st7004 (fun k hb hk => ⟨by omega, trivial⟩)
   replace v12 := bs_v12.keep lv_v12 (Nat.le_refl _)
   have lt_at7004 := GHeap.ltg at7004
   replace hin := base_hin.mono hle
   clear hb1 c01 c11 c21 c31 c41 i11 i21 i31 i41 hm1 hi1
   have hb1 : Cat.At _ g1 0 c p := ⟨Mem.of_get at1, hin⟩
   obtain ⟨c01, c11, c21, c31, c41, i11, i21, i31, i41⟩ := hb1.get
   have hm1 : MemN _ _ _ _ _ := ⟨rfl, hb1.1⟩
   have hi1 := hb1.2
   clear i12
   have i12 := v12.inn
   clear mm3002
   have mm3002 : MemN _ _ _ _ _ := ⟨rfl, Mem.of_get at3002⟩
   have mm7004 : MemN _ _ _ _ _ := ⟨rfl, Mem.of_get at7004⟩
   refine .nil (hK12 _ _ (.seq (fun K13 hK13 => .region ?_)))
   refine .q rfl (.loadM ag_70_Lj rfl ⟨rfl, Mem.of_get at7004⟩) ?_
   refine .mv rfl (.nil (hK13 _ _ ?_))
   refine .block ?_
   refine .loopR (σ := Nat) [(5, some _), (6, some _), (16, some _), (17, some _), (21, some _)] (fun k => [(22, some (.int .i64 (k : Int)))]) (fun k H' => St [g13] H7004 H' ∧ H'.get g13 = some (.row (ints (outF c.flB i k)) 2 true) ∧ k ≤ 4) (fun k => 4 - k) (0) ⟨rfl, rfl, rfl, rfl, rfl, trivial⟩ ⟨rfl, trivial⟩ ?_ ?_
   ·
    refine ⟨.refl _ _, by first | assumption | exact at_L5 | simpa using at_L5, ?_⟩
    omega
   rintro k HL2 ⟨lst2, at_L5, hI⟩ KL2 hKL2
   refine .forget (fr' := [(22, some (.int .i64 (k : Int))), (5, some _), (6, some _), (16, some _), (17, some _), (21, some _)]) ⟨rfl, rfl, rfl, rfl, rfl, rfl, trivial⟩ ?_
   have nx_HL2 := lst2.nx
   replace hle := hle.st lst2 (fun k hk => ⟨by omega, trivial⟩)
   replace lst1 := lst1.sA lst2
   replace at1 := lst2.s at1 ne_g1_g13.ne
   replace at3002 := lst2.s at3002 ne_g4_g13.ne
   replace at7004 := lst2.s at7004 (Ne.symm ne_g13_g7.ne)
   replace lv_v12 := Keep.st lv_v12 lst2 (fun k hb hk => ⟨by omega, trivial⟩)
   replace v12 := bs_v12.keep lv_v12 (Nat.le_refl _)
   have lt_at_L5 := GHeap.ltg at_L5
   replace hin := base_hin.mono hle
   clear hb1 c01 c11 c21 c31 c41 i11 i21 i31 i41 hm1 hi1
   have hb1 : Cat.At _ g1 0 c p := ⟨Mem.of_get at1, hin⟩
   obtain ⟨c01, c11, c21, c31, c41, i11, i21, i31, i41⟩ := hb1.get
   have hm1 : MemN _ _ _ _ _ := ⟨rfl, hb1.1⟩
   have hi1 := hb1.2
   clear i12
   have i12 := v12.inn
   clear mm3002
   have mm3002 : MemN _ _ _ _ _ := ⟨rfl, Mem.of_get at3002⟩
   clear mm7004
   have mm7004 : MemN _ _ _ _ _ := ⟨rfl, Mem.of_get at7004⟩
   have hlo := length_outF c.flB i k
   refine .seq (fun K14 hK14 => .region (.q rfl (.cmp rfl rfl rfl) (.nil (hK14 _ _ (.seq (fun K15 hK15 => ?_))))))
   refine .cond rfl (fun h23 => ?_) (fun h23 => ?_)
   ·
    simp only [sps] at h23
    refine .skip ?_
    refine hK15 _ _ (.seq (fun K16 hK16 => ?_))
    refine .block ?_
    refine .seq (fun K17 hK17 => .region (.mv rfl ?_))
    refine .q rfl (.indexV und_arr4 sz_4_Lk on_4_Li rfl rfl (by omega) (by omega) (arr4 (by omega))) ?_
    refine .mv rfl (.mv rfl (.nil (hK17 _ _ (.seq (fun K18 hK18 => .region (.mv rfl (.nil (hK18 _ _ ?_))))))))
    refine .cond rfl (fun h26 => ?_) (fun h26 => ?_)
    ·
     have hkk := outF_T (fl := c.flB) (i := i) (k := k) (by omega) (by omega) (by rw [← getD4 (c.flB i) (by omega)]; exact h26)
     refine .region (.mv rfl (.mv rfl ?_))
     refine .q rfl (.mul rfl rfl rfl (by omega) (by omega)) ?_
     refine .mv rfl ?_
     refine .q rfl (.add rfl rfl rfl (by omega) (by omega)) ?_
     refine .q rfl (.idx1 sl_22_A (by first | assumption | exact SlA.of_row at_L5 (by first | rfl | (simp; done) | (simp <;> omega))) rfl rfl (by omega) (by omega)) ?_
     refine .r0 rfl rfl (.storeI rfl sz_2_E rfl rfl (by assumption) (by first | omega | (simp <;> omega))) ?_
     rintro _ H12006 ⟨rfl, st12006, at12006⟩
     have nx_H12006 := st12006.nx
     replace hle := hle.st st12006 (fun k hk => ⟨by omega, trivial⟩)
     replace lst1 := lst1.sA st12006
     replace lst2 := lst2.sA st12006
     replace at1 := st12006.s at1 ne_g1_g13.ne
     replace at3002 := st12006.s at3002 ne_g4_g13.ne
     replace at7004 := st12006.s at7004 (Ne.symm ne_g13_g7.ne)
     replace lv_v12 := Keep.st lv_v12 st12006 (fun k hb hk => ⟨by omega, trivial⟩)
     replace v12 := bs_v12.keep lv_v12 (Nat.le_refl _)
     have lt_at12006 := GHeap.ltg at12006
     replace hin := base_hin.mono hle
     clear hb1 c01 c11 c21 c31 c41 i11 i21 i31 i41 hm1 hi1
     have hb1 : Cat.At _ g1 0 c p := ⟨Mem.of_get at1, hin⟩
     obtain ⟨c01, c11, c21, c31, c41, i11, i21, i31, i41⟩ := hb1.get
     have hm1 : MemN _ _ _ _ _ := ⟨rfl, hb1.1⟩
     have hi1 := hb1.2
     clear i12
     have i12 := v12.inn
     clear mm3002
     have mm3002 : MemN _ _ _ _ _ := ⟨rfl, Mem.of_get at3002⟩
     clear mm7004
     have mm7004 : MemN _ _ _ _ _ := ⟨rfl, Mem.of_get at7004⟩
     rw [show (2 * (k : Int) + (i : Int)).toNat = 2 * k + i by omega, Nat.zero_add, hkk] at at12006
     refine .nil (hK16 _ _ (.region ?_))
     refine .q rfl (.add rfl rfl rfl (by omega) (by omega)) ?_
     refine .mv rfl (.nil ?_)
     refine hKL2 (k + 1) _ _ ?_ ?_ ⟨rfl, rfl, rfl, rfl, rfl, rfl, trivial⟩
     ·
      refine ⟨lst2, by first | assumption | (rw [hkk]; assumption), ?_⟩
      omega
     omega
    have hkk := outF_F (fl := c.flB) (i := i) (k := k) (by omega) (by omega) (by rw [← getD4 (c.flB i) (by omega)]; exact h26)
    refine .skip ?_
    refine hK16 _ _ (.region ?_)
    refine .q rfl (.add rfl rfl rfl (by omega) (by omega)) ?_
    refine .mv rfl (.nil ?_)
    refine hKL2 (k + 1) _ _ ?_ ?_ ⟨rfl, rfl, rfl, rfl, rfl, rfl, trivial⟩
    ·
     refine ⟨lst2, by first | assumption | (rw [hkk]; assumption), ?_⟩
     omega
    omega
   obtain rfl : k = 4 := by simp only [sps] at h23; omega
   refine .exit ?_
   refine hK11 _ _ (.region ?_)
   refine .q rfl (.add rfl rfl rfl (by omega) (by omega)) ?_
   refine .mv rfl (.nil ?_)
   refine hKL1 (i + 1) _ _ ?_ ?_ ⟨rfl, rfl, rfl, trivial⟩
   ·
    refine ⟨lst1, by first | assumption | (rw [outF_next]; assumption), ?_⟩
    omega
   omega
  try simp only [sps] at h18
  refine .exit ?_
  refine hK7 _ _ (.seq (fun K19 hK19 => .region (.mv rfl (.mv rfl (.mv rfl (.nil (hK19 _ _ ?_)))))))
  refine .ret ?_
  refine hret _ _ ?_
  refine ⟨_, _, rfl, rfl, ?_⟩
  obtain rfl : i = 2 := by omega
  rw [Cat.lfL_eq] at at_L5
  rw [codeL_ok (Cat.code_nil.2 h11), Cat.code_nil.2 h11]
  exact ⟨hle, _, rfl, .of_at at_L5 (by omega)⟩
end Go.Proofs.Ytjdedelneppnlaa
namespace Go.Proofs.Ytjdedelneppnlaa
open Go Go.GL Go.RowKit Go.Proofs
theorem markInt64S_own {g : Nat} {e : TypeId} {xs : List Int} {k : Int} {H : GHeap} (at0 : H.get g = some (.row (ints xs) e true)) (hk : 0 ≤ k) (hk' : k + xs.length ≤ 9223372036854775000) :
    GCalls Try.prog 14 [.slice (some ⟨g, 0, none⟩) xs.length xs.length, .int .i64 k] H (fun v H' => v = .int .i64 (k + xs.length) ∧ St [g] H H' ∧ H'.get g = some (.row (ints (seqL k xs.length)) e true)) := by
  refine GCalls.body (N := 19) (rs := [.tmp 4]) Try.func14 rfl rfl rfl rfl (fun Qx hret hend => ?_)
  refine .fg [0, 1] rfl ?_
  refine .seq (fun K1 hK1 => .region (.mv rfl (.nil (hK1 _ _ (.seq (fun K2 hK2 => .seq (fun K3 hK3 => .region (.mv rfl (.nil (hK3 _ _ ?_))))))))))
  refine .block ?_
  refine .loopR (σ := Nat × Int × List Int) [(0, some _)] (fun (i, q, ys) => [(5, some (.int .i64 (i : Int))), (1, some (.int .i64 q))]) (fun (i, q, ys) H' => St [g] H H' ∧ H'.get g = some (.row (ints ys) e true) ∧ i ≤ xs.length ∧ q = k + i ∧ ys.length = xs.length ∧ ∀ j, j < i → ys.getD j 0 = k + j) (fun (i, q, ys) => xs.length - i) ((0, k, xs)) ⟨rfl, trivial⟩ ⟨rfl, rfl, trivial⟩ ?_ ?_
  ·
   refine ⟨.refl _ _, by first | assumption | exact at0 | simpa using at0, ?_⟩
   exact ⟨by omega, by omega, rfl, fun _ _ => by omega⟩
  rintro ⟨i, q, ys⟩ HL1 ⟨lst1, at_L0, hI⟩ KL1 hKL1
  refine .forget (fr' := [(5, some (.int .i64 (i : Int))), (1, some (.int .i64 q)), (0, some _)]) ⟨rfl, rfl, rfl, trivial⟩ ?_
  obtain ⟨hi, hq, hyl, ha⟩ := hI
  have hsl := SlA.of_ints at_L0 hyl
  refine .seq (fun K4 hK4 => .seq (fun K5 hK5 => .region (.mv rfl (.mv rfl (.q rfl (.len sl_22_A rfl) (.q rfl (.cmp rfl rfl rfl) (.nil (hK5 _ _ ?_))))))))
  refine .cond rfl (fun h9 => ?_) (fun h9 => ?_)
  ·
   try simp only [sps] at h9
   refine .skip ?_
   refine hK4 _ _ (.seq (fun K6 hK6 => ?_))
   refine .block ?_
   refine .seq (fun K7 hK7 => .region (.mv rfl (.mv rfl (.mv rfl ?_))))
   refine .q rfl (.idxN sl_22_A (by first | assumption | exact SlA.of_row at_L0 (by first | rfl | (simp; done) | (simp <;> omega))) rfl rfl (by omega)) ?_
   refine .r0 rfl rfl (.storeI rfl sz_2_E rfl rfl (by assumption) (by first | omega | (simp <;> omega))) ?_
   rintro _ H4004 ⟨rfl, st4004, at4004⟩
   have nx_H4004 := st4004.nx
   replace lst1 := lst1.sA st4004
   have lt_at4004 := GHeap.ltg at4004
   refine .nil (hK7 _ _ (.region (.mv rfl ?_)))
   refine .q rfl (.add rfl rfl rfl (by omega) (by omega)) ?_
   refine .mv rfl (.nil (hK6 _ _ (.region (.mv rfl ?_))))
   refine .q rfl (.add rfl rfl rfl (by omega) (by omega)) ?_
   refine .mv rfl (.nil ?_)
   refine hKL1 ((i + 1, q + 1, ys.set (0 + i) q)) _ _ ?_ ?_ ⟨rfl, rfl, rfl, trivial⟩
   ·
    refine ⟨lst1, by assumption, ?_⟩
    refine ⟨by omega, by omega, by simpa using hyl, fun j hj => ?_⟩
    rw [Nat.zero_add, getD_set (by omega)]
    split
    · rename_i e; rw [e]; exact hq
    · exact ha j (by omega)
   (dsimp only; omega)
  try simp only [sps] at h9
  refine .exit ?_
  refine hK2 _ _ (.seq (fun K8 hK8 => .region (.mv rfl (.mv rfl (.nil (hK8 _ _ ?_))))))
  refine .ret ?_
  refine hret _ _ ?_
  refine ⟨_, rfl, ?_⟩
  obtain rfl : ys = seqL k xs.length := eq_of_getD (by rw [hyl, length_seqL]) fun j hj => by rw [length_seqL] at hj; rw [ha j (by omega), seqL_get hj]
  obtain rfl : i = xs.length := by omega
  exact ⟨by rw [hq], lst1, at_L0⟩
theorem markInt64S_nil {a : Option Addr} {k : Int} {H : GHeap} (hk : 0 ≤ k) (hk' : k ≤ 9223372036854775000) :
    GCalls Try.prog 14 [.slice a 0 0, .int .i64 k] H (fun v H' => v = .int .i64 k ∧ H' = H) := by
  refine GCalls.body (N := 19) (rs := [.tmp 4]) Try.func14 rfl rfl rfl rfl (fun Qx hret hend => ?_)
  refine .fg [0, 1] rfl ?_
  refine .seq (fun K1 hK1 => .region (.mv rfl (.nil (hK1 _ _ (.seq (fun K2 hK2 => .seq (fun K3 hK3 => .region (.mv rfl (.nil (hK3 _ _ ?_))))))))))
  refine .block ?_
  refine .loopR (σ := Unit) [(0, some _)] (fun u => [(5, some (.int .i64 0)), (1, some (.int .i64 k))]) (fun u H' => H = H' ∧ True) (fun u => 0) (()) ⟨rfl, trivial⟩ ⟨rfl, rfl, trivial⟩ ?_ ?_
  ·
   refine ⟨rfl, ?_⟩
   exact trivial
  rintro u _ ⟨rfl, hI⟩ KL1 hKL1
  refine .forget (fr' := [(5, some (.int .i64 0)), (1, some (.int .i64 k)), (0, some _)]) ⟨rfl, rfl, rfl, trivial⟩ ?_
  refine .seq (fun K4 hK4 => .seq (fun K5 hK5 => .region (.mv rfl (.mv rfl (.q rfl (.len sl_22_A rfl) (.q rfl (.cmp rfl rfl rfl) (.nil (hK5 _ _ ?_))))))))
  refine .cond rfl (fun h9 => ?_) (fun h9 => ?_)
  ·
   exact absurd h9 (by simp)
  try simp only [sps] at h9
  refine .exit ?_
  refine hK2 _ _ (.seq (fun K6 hK6 => .region (.mv rfl (.mv rfl (.nil (hK6 _ _ ?_))))))
  refine .ret ?_
  refine hret _ _ ?_
  refine ⟨_, rfl, ?_⟩
  exact ⟨rfl, rfl⟩
theorem markInt64S_c {a : Option Addr} {n lo hi : Nat} {k : Int} {H : GHeap} (h : IntsW lo hi H a n := by assumption) (hk : 0 ≤ k := by omega) (hk' : k + n ≤ 9223372036854775000 := by omega) :
    GCalls Try.prog 14 [.slice a n n, .int .i64 k] H (fun v H' => v = .int .i64 (k + n) ∧ Marked lo hi H H' [(a, n)] k) := by
  by_cases h0 : n = 0
  · subst h0
    refine (markInt64S_nil hk (by omega)).mono fun v H' ⟨h1, h2⟩ => ?_
    subst h2
    exact ⟨by rw [h1]; simp, .refl _ _ _, .refl _ _, fun _ => ⟨.inl rfl, trivial⟩⟩
  · rcases h with h | ⟨g, e, xs, rfl, h2, h3, h4, rfl⟩
    · exact absurd h h0
    · exact (markInt64S_own h4 hk hk').mono fun v H' ⟨k1, k2, k3⟩ => ⟨k1, .one h2 h3 h4 k2 k3 h0⟩
theorem heldInt64S_c {a : Option Addr} {n b : Nat} {k : Int} {H : GHeap} (h : Held b H [(a, n)] k := by assumption) (hk : 0 ≤ k := by omega) (hk' : k + n ≤ 9223372036854775000 := by omega) :
    GCalls Try.prog 15 [.slice a n n, .int .i64 k] H (Ret (.int .i64 (k + n)) H) := by
  have hi := h.ints
  have hl : (seqL k n).length = n := length_seqL k n
  have hsl : SlA H a n (fun i => .int .i64 ((seqL k n).getD i 0)) := by have hi' := hi; unfold Ints at hi'; rw [hl] at hi'; exact hi'
  refine GCalls.body (N := 21) (rs := [.tmp 4]) Try.func15 rfl rfl rfl rfl (fun Qx hret hend => ?_)
  refine .fg [0, 1] rfl ?_
  refine .seq (fun K1 hK1 => .region (.mv rfl (.nil (hK1 _ _ (.seq (fun K2 hK2 => .seq (fun K3 hK3 => .region (.mv rfl (.nil (hK3 _ _ ?_))))))))))
  refine .block ?_
  refine .loopR (σ := Nat × Int) [(0, some _)] (fun (i, q) => [(5, some (.int .i64 (i : Int))), (1, some (.int .i64 q))]) (fun (i, q) H' => H = H' ∧ i ≤ n ∧ q = k + i) (fun (i, q) => n - i) ((0, k)) ⟨rfl, trivial⟩ ⟨rfl, rfl, trivial⟩ ?_ ?_
  ·
   refine ⟨rfl, ?_⟩
   exact ⟨by omega, by omega⟩
  rintro ⟨i, q⟩ _ ⟨rfl, hI⟩ KL1 hKL1
  refine .forget (fr' := [(5, some (.int .i64 (i : Int))), (1, some (.int .i64 q)), (0, some _)]) ⟨rfl, rfl, rfl, trivial⟩ ?_
  obtain ⟨hi, hq⟩ := hI
  refine .seq (fun K4 hK4 => .seq (fun K5 hK5 => .region (.mv rfl (.mv rfl (.q rfl (.len sl_22_A rfl) (.q rfl (.cmp rfl rfl rfl) (.nil (hK5 _ _ ?_))))))))
  refine .cond rfl (fun h9 => ?_) (fun h9 => ?_)
  ·
   try simp only [sps] at h9
   refine .skip ?_
   refine hK4 _ _ (.seq (fun K6 hK6 => ?_))
   refine .block ?_
   refine .seq (fun K7 hK7 => .seq (fun K8 hK8 => .region (.mv rfl (.mv rfl ?_))))
   refine .q rfl (.idxN sl_22_A hsl rfl rfl (by omega)) ?_
   refine .q rfl (.loadE on_2_A hsl rfl (by omega)) ?_
   refine .mv rfl (.q rfl (.cmp rfl rfl rfl) (.nil (hK8 _ _ ?_)))
   refine .cond rfl (fun h17 => ?_) (fun h17 => ?_)
   ·
    simp only [sps] at h17
    rw [seqL_get (by omega)] at h17
    refine .seq (fun K9 hK9 => .region (.mv rfl (.nil (hK9 _ _ ?_))))
    refine .ret ?_
    refine hret _ _ ?_
    refine ⟨_, rfl, ?_⟩
    exact absurd hq.symm (by omega)
   try simp only [sps] at h17
   refine .skip ?_
   refine hK7 _ _ (.region (.mv rfl ?_))
   refine .q rfl (.add rfl rfl rfl (by omega) (by omega)) ?_
   refine .mv rfl (.nil (hK6 _ _ (.region (.mv rfl ?_))))
   refine .q rfl (.add rfl rfl rfl (by omega) (by omega)) ?_
   refine .mv rfl (.nil ?_)
   refine hKL1 ((i + 1, q + 1)) _ _ ?_ ?_ ⟨rfl, rfl, rfl, trivial⟩
   ·
    refine ⟨rfl, ?_⟩
    exact ⟨by omega, by omega⟩
   (dsimp only; omega)
  try simp only [sps] at h9
  refine .exit ?_
  refine hK2 _ _ (.seq (fun K10 hK10 => .region (.mv rfl (.mv rfl (.nil (hK10 _ _ ?_))))))
  refine .ret ?_
  refine hret _ _ ?_
  refine ⟨_, rfl, ?_⟩
  obtain rfl : i = n := by omega
  exact .of (by rw [hq])
theorem markInt64SS_c {a : Option Addr} {xss : List (List Int)} {r : Nat → Option Addr} {lo hi : Nat} {k : Int} {H : GHeap} (h : IntssW lo hi H a xss r := by assumption) (hk : 0 ≤ k := by omega) (hk' : k + sumL xss ≤ 9223372036854775000 := by omega) (hl : xss.length ≤ 1048576 := by omega) :
    GCalls Try.prog 50 [.slice a xss.length xss.length, .int .i64 k] H (fun v H' => v = .int .i64 (k + sumL xss) ∧ Marked lo hi H H' (rowsL r xss xss.length) k) := by
  refine GCalls.body (N := 19) (rs := [.tmp 4]) Try.func50 rfl rfl rfl rfl (fun Qx hret hend => ?_)
  refine .fg [0, 1] rfl ?_
  refine .seq (fun K1 hK1 => .region (.mv rfl (.nil (hK1 _ _ (.seq (fun K2 hK2 => .seq (fun K3 hK3 => .region (.mv rfl (.nil (hK3 _ _ ?_))))))))))
  refine .block ?_
  refine .loopR (σ := Nat × Int) [(0, some _)] (fun (i, q) => [(5, some (.int .i64 (i : Int))), (1, some (.int .i64 q))]) (fun (i, q) H' => i ≤ xss.length ∧ q = k + sumL (xss.take i) ∧ Marked lo hi H H' (rowsL r xss i) k) (fun (i, q) => xss.length - i) ((0, k)) ⟨rfl, trivial⟩ ⟨rfl, rfl, trivial⟩ ?_ ?_
  ·
   exact ⟨by omega, by simp [sumL], .nil _ _ _ _⟩
  rintro ⟨i, q⟩ H' hI KL1 hKL1
  refine .forget (fr' := [(5, some (.int .i64 (i : Int))), (1, some (.int .i64 q)), (0, some _)]) ⟨rfl, rfl, rfl, trivial⟩ ?_
  obtain ⟨hi', hq, hm⟩ := hI
  have hw := h.stm hm.stm
  have hsl := hw.1
  have hle1 := sumL_take_le (xss := xss) (k := i + 1)
  refine .seq (fun K4 hK4 => .seq (fun K5 hK5 => .region (.mv rfl (.mv rfl (.q rfl (.len sl_23_B rfl) (.q rfl (.cmp rfl rfl rfl) (.nil (hK5 _ _ ?_))))))))
  refine .cond rfl (fun h9 => ?_) (fun h9 => ?_)
  ·
   simp only [sps] at h9
   have hts := sumL_take_succ (xss := xss) (k := i) (by omega)
   refine .skip ?_
   refine hK4 _ _ (.seq (fun K6 hK6 => ?_))
   refine .block ?_
   refine .region (.mv rfl (.mv rfl ?_))
   refine .q rfl (.idxN sl_23_B hsl rfl rfl (by omega)) ?_
   refine .q rfl (.loadE on_22_B hsl rfl (by omega)) ?_
   refine .mv rfl ?_
   refine .call rfl rfl rfl rfl @Try.call14 rfl (markInt64S_c (hw.2.1 i (by omega)) (by omega) (by omega)) ?_
   rintro _ H17 ⟨rfl, mk17⟩
   refine .mv rfl (.nil (hK6 _ _ (.region (.mv rfl ?_))))
   refine .q rfl (.add rfl rfl rfl (by omega) (by omega)) ?_
   refine .mv rfl (.nil ?_)
   refine hKL1 ((i + 1, _)) _ _ ?_ ?_ ⟨rfl, rfl, rfl, trivial⟩
   ·
    exact ⟨by omega, by rw [sumL_take_succ (by omega)]; omega, by rw [rowsL_succ]; exact hm.app' mk17 (by rw [lvSum_rowsL _ _ _ (by omega)]; omega)⟩
   (dsimp only; omega)
  try simp only [sps] at h9
  refine .exit ?_
  refine hK2 _ _ (.seq (fun K7 hK7 => .region (.mv rfl (.mv rfl (.nil (hK7 _ _ ?_))))))
  refine .ret ?_
  refine hret _ _ ?_
  refine ⟨_, rfl, ?_⟩
  obtain rfl : i = xss.length := by omega
  rw [List.take_length] at hq
  exact ⟨by rw [hq], hm⟩
theorem markCategory_c {c : Cat} {p : CatP} {lo hi : Nat} {k : Int} {H : GHeap} (w : CatW lo hi H c p := by assumption) (hs : c.Small := by assumption) (hk : 0 ≤ k := by omega) (hk' : k + c.total ≤ 9223372036854775000 := by omega) (hhi : hi ≤ H.next := by omega) :
    GCalls Try.prog 13 [.agg (c.cells p).toArray, .int .i64 k] H (fun v H' => v = .int .i64 (k + c.total) ∧ Marked lo hi H H' (c.leaves p) k) := by
  obtain ⟨w1, w2, w3, w4⟩ := w
  have ht : c.total = c.src.length + (c.tgt.length + (c.idn.length + sumL c.comp)) := rfl
  obtain ⟨s1, s2, s3, s4, -, -⟩ := hs
  refine GCalls.body (N := 22) (rs := [.tmp 4]) Try.func13 rfl rfl rfl rfl (fun Qx hret hend => ?_)
  refine .fg [0, 1] rfl ?_
  refine .seq (fun K1 hK1 => .region ?_)
  refine .R rfl (.boxR rfl sz_29_D rfl) ?_
  rintro _ H2 ⟨g2, rfl, le2, ge2, at2⟩
  replace w1 := w1.stm (.of_le le2)
  replace w2 := w2.stm (.of_le le2)
  replace w3 := w3.stm (.of_le le2)
  replace w4 := w4.stm (.of_le le2)
  refine .mv rfl (.nil (hK1 _ _ (.seq (fun K2 hK2 => .region ?_))))
  have c1 : H2.cell g2 (0 + 1) = some (.slice p.a1 c.src.length c.src.length) := Mem.of_get at2 1 _ rfl
  refine .q rfl (.fieldAddr fo_29_1_B rfl) ?_
  refine .q rfl (.load on_22_B rfl (by first | assumption | exact Mem.of_get at2 1 _ rfl)) ?_
  refine .mv rfl ?_
  refine .call rfl rfl rfl rfl @Try.call14 rfl (markInt64S_c) ?_
  rintro _ H8 ⟨rfl, mk8⟩
  have sm8 := mk8.stm
  replace at2 := sm8.same _ _ (by omega) at2
  replace w2 := w2.stm sm8
  replace w3 := w3.stm sm8
  replace w4 := w4.stm sm8
  refine .mv rfl (.nil (hK2 _ _ (.seq (fun K3 hK3 => .region ?_))))
  have c2 : H8.cell g2 (0 + 2) = some (.slice p.a2 c.tgt.length c.tgt.length) := Mem.of_get at2 2 _ rfl
  refine .q rfl (.fieldAddr fo_29_2_B rfl) ?_
  refine .q rfl (.load on_22_B rfl (by first | assumption | exact Mem.of_get at2 2 _ rfl)) ?_
  refine .mv rfl ?_
  refine .call rfl rfl rfl rfl @Try.call14 rfl (markInt64S_c) ?_
  rintro _ H12 ⟨rfl, mk12⟩
  have sm12 := mk12.stm
  replace at2 := sm12.same _ _ (by omega) at2
  replace w3 := w3.stm sm12
  replace w4 := w4.stm sm12
  refine .mv rfl (.nil (hK3 _ _ (.seq (fun K4 hK4 => .region ?_))))
  have c3 : H12.cell g2 (0 + 3) = some (.slice p.a3 c.idn.length c.idn.length) := Mem.of_get at2 3 _ rfl
  refine .q rfl (.fieldAddr fo_29_3_B rfl) ?_
  refine .q rfl (.load on_22_B rfl (by first | assumption | exact Mem.of_get at2 3 _ rfl)) ?_
  refine .mv rfl ?_
  refine .call rfl rfl rfl rfl @Try.call14 rfl (markInt64S_c) ?_
  rintro _ H16 ⟨rfl, mk16⟩
  have sm16 := mk16.stm
  replace at2 := sm16.same _ _ (by omega) at2
  replace w4 := w4.stm sm16
  refine .mv rfl (.nil (hK4 _ _ (.seq (fun K5 hK5 => .region ?_))))
  have c4 : H16.cell g2 (0 + 4) = some (.slice p.a4 c.comp.length c.comp.length) := Mem.of_get at2 4 _ rfl
  refine .q rfl (.fieldAddr fo_29_4_B rfl) ?_
  refine .q rfl (.load on_23_B rfl (by first | assumption | exact Mem.of_get at2 4 _ rfl)) ?_
  refine .mv rfl ?_
  refine .call rfl rfl rfl rfl @Try.call50 rfl (markInt64SS_c) ?_
  rintro _ H20 ⟨rfl, mk20⟩
  refine .mv rfl (.nil (hK5 _ _ (.seq (fun K6 hK6 => .region (.mv rfl (.mv rfl (.nil (hK6 _ _ ?_))))))))
  refine .ret ?_
  refine hret _ _ ?_
  refine ⟨_, rfl, ?_⟩
  exact ⟨by rw [ht]; congr 1; omega, .le_left le2 (mk8.app' (mk12.app' (mk16.app' mk20 (by simp [lvSum])) (by simp [lvSum])) (by simp [lvSum]))⟩
end Go.Proofs.Ytjdedelneppnlaa
namespace Go.Proofs.Ytjdedelneppnlaa
open Go Go.GL Go.RowKit Go.Proofs
theorem ag_25_LLimitFlags : aggT Try.prog 25 = some 5 := by kernel_rfl
set_option maxHeartbeats 40000000 in
theorem lawLimitFlags_c {c : Cat} {p : CatP} {H : GHeap} (h0 : c.In H p) (w0 : c.Wide) :
    GCalls Try.prog 3 [.agg (c.cells p).toArray] H (fun v _ => v = .bool true) := by
  refine GCalls.body (N := 96) (rs := [.tmp 2]) Try.func3 rfl rfl rfl rfl (fun Qx hret hend => ?_)
  refine .fg [0] rfl ?_
  have hle := GHeap.Le.refl H
  have base_h0 := h0
  refine .seq (fun K1 hK1 => .region ?_)
  refine .R rfl (.boxR rfl sz_25_E rfl) ?_
  rintro _ H1 ⟨g1, rfl, le1, ge1, at1⟩
  have nx_H1 := le1.1
  replace hle := hle.trans le1
  have lt_at1 := GHeap.ltg at1
  replace h0 := base_h0.mono hle
  have hb1 : Cat.At _ g1 0 c p := ⟨Mem.of_get at1, h0⟩
  obtain ⟨c01, c11, c21, c31, c41, i11, i21, i31, i41⟩ := hb1.get
  have hm1 : MemN _ _ _ _ _ := ⟨rfl, hb1.1⟩
  have hi1 := hb1.2
  refine .mv rfl (.nil (hK1 _ _ (.seq (fun K2 hK2 => .region (.mv rfl (.nil (hK2 _ _ (.seq (fun K3 hK3 => .region ?_)))))))))
  refine .q rfl (.loadM ag_25_LLimitFlags rfl ⟨rfl, Mem.of_get at1⟩) ?_
  refine .mv rfl ?_
  refine .call rfl rfl rfl rfl @Try.call7 rfl (szCategory_c) ?_
  rintro _ _ ⟨heq, lf16, rfl, z116, z216, z316⟩
  obtain rfl := heq.symm
  refine .mv rfl (.nil (hK3 _ _ (.seq (fun K4 hK4 => .seq (fun K5 hK5 => .region (.mv rfl (.q rfl (.cmp rfl rfl rfl) (.nil (hK5 _ _ ?_)))))))))
  refine .cond rfl (fun h18 => ?_) (fun h18 => ?_)
  ·
   try simp only [sps] at h18
   refine .seq (fun K6 hK6 => .region (.mv rfl (.nil (hK6 _ _ ?_))))
   refine .ret ?_
   refine hret _ _ ?_
   refine ⟨_, rfl, ?_⟩
   first
   | exact rfl
   | exact absurd trivial (by assumption)
   | contradiction
   | (exfalso; omega)
  simp only [sps] at h18
  have hcl := c.lfR_len
  have hsm16 := z316 (by omega)
  have tb16 := hsm16.tot
  refine .skip ?_
  refine hK4 _ _ (.seq (fun K7 hK7 => .region ?_))
  refine .q rfl (.loadM ag_25_LLimitFlags rfl ⟨rfl, Mem.of_get at1⟩) ?_
  refine .call rfl rfl rfl rfl @Try.call9 rfl (toCategory_c) ?_
  rintro _ H21 ⟨le21, p21, rfl, v21⟩
  have nx_H21 := le21.1
  replace hle := hle.trans le21
  replace at1 := le21.2 _ _ at1
  have bs_v21 := v21
  have lv_v21 : Keep H1.next H21 H21 := fun _ _ _ h => h
  replace h0 := base_h0.mono hle
  clear hb1 c01 c11 c21 c31 c41 i11 i21 i31 i41 hm1 hi1
  have hb1 : Cat.At _ g1 0 c p := ⟨Mem.of_get at1, h0⟩
  obtain ⟨c01, c11, c21, c31, c41, i11, i21, i31, i41⟩ := hb1.get
  have hm1 : MemN _ _ _ _ _ := ⟨rfl, hb1.1⟩
  have hi1 := hb1.2
  have i21 := v21.inn
  refine .call rfl rfl rfl rfl @Try.call8 rfl (specLimitFlags_c) ?_
  rintro _ H22 ⟨le22, a22, rfl, v22⟩
  have nx_H22 := le22.1
  replace hle := hle.trans le22
  replace at1 := le22.2 _ _ at1
  replace lv_v21 := Keep.le lv_v21 le22
  replace v21 := bs_v21.keep lv_v21 (Nat.le_refl _)
  have bs_v22 := v22
  have lv_v22 : Keep H21.next H22 H22 := fun _ _ _ h => h
  replace h0 := base_h0.mono hle
  clear hb1 c01 c11 c21 c31 c41 i11 i21 i31 i41 hm1 hi1
  have hb1 : Cat.At _ g1 0 c p := ⟨Mem.of_get at1, h0⟩
  obtain ⟨c01, c11, c21, c31, c41, i11, i21, i31, i41⟩ := hb1.get
  have hm1 : MemN _ _ _ _ _ := ⟨rfl, hb1.1⟩
  have hi1 := hb1.2
  clear i21
  have i21 := v21.inn
  have i22 := v22.ints
  refine .mv rfl (.q rfl (.extract rfl rfl) (.q rfl (.extract rfl rfl) (.mv rfl (.mv rfl (.nil (hK7 _ _ (.seq (fun K8 hK8 => .region ?_))))))))
  refine .q rfl (.loadM ag_25_LLimitFlags rfl ⟨rfl, Mem.of_get at1⟩) ?_
  refine .call rfl rfl rfl rfl @Try.call9 rfl (toCategory_c) ?_
  rintro _ H26 ⟨le26, p26, rfl, v26⟩
  have nx_H26 := le26.1
  replace hle := hle.trans le26
  replace at1 := le26.2 _ _ at1
  replace lv_v21 := Keep.le lv_v21 le26
  replace v21 := bs_v21.keep lv_v21 (Nat.le_refl _)
  replace lv_v22 := Keep.le lv_v22 le26
  replace v22 := bs_v22.keep lv_v22 (Nat.le_refl _)
  have bs_v26 := v26
  have lv_v26 : Keep H22.next H26 H26 := fun _ _ _ h => h
  replace h0 := base_h0.mono hle
  clear hb1 c01 c11 c21 c31 c41 i11 i21 i31 i41 hm1 hi1
  have hb1 : Cat.At _ g1 0 c p := ⟨Mem.of_get at1, h0⟩
  obtain ⟨c01, c11, c21, c31, c41, i11, i21, i31, i41⟩ := hb1.get
  have hm1 : MemN _ _ _ _ _ := ⟨rfl, hb1.1⟩
  have hi1 := hb1.2
  clear i21
  have i21 := v21.inn
  clear i22
  have i22 := v22.ints
  have i26 := v26.inn
  refine .R rfl (.allocR rfl ze_29_E rfl) ?_
  rintro _ H6 ⟨g6, rfl, le6, ge6, at6⟩
  have nx_H6 := le6.1
  replace hle := hle.trans le6
  replace at1 := le6.2 _ _ at1
  replace lv_v21 := Keep.le lv_v21 le6
  replace v21 := bs_v21.keep lv_v21 (Nat.le_refl _)
  replace lv_v22 := Keep.le lv_v22 le6
  replace v22 := bs_v22.keep lv_v22 (Nat.le_refl _)
  replace lv_v26 := Keep.le lv_v26 le6
  replace v26 := bs_v26.keep lv_v26 (Nat.le_refl _)
  have lt_at6 := GHeap.ltg at6
  replace h0 := base_h0.mono hle
  clear hb1 c01 c11 c21 c31 c41 i11 i21 i31 i41 hm1 hi1
  have hb1 : Cat.At _ g1 0 c p := ⟨Mem.of_get at1, h0⟩
  obtain ⟨c01, c11, c21, c31, c41, i11, i21, i31, i41⟩ := hb1.get
  have hm1 : MemN _ _ _ _ _ := ⟨rfl, hb1.1⟩
  have hi1 := hb1.2
  clear i21
  have i21 := v21.inn
  clear i22
  have i22 := v22.ints
  clear i26
  have i26 := v26.inn
  refine .r0 rfl rfl (.fillA rfl sz_29_D rfl rfl rfl rfl) ?_
  rintro _ H6003 ⟨rfl, st6003, at6003⟩
  have nx_H6003 := st6003.nx
  replace hle := hle.st st6003 (fun k hk => ⟨by omega, trivial⟩)
  replace at1 := st6003.s at1
  replace lv_v21 := Keep.st lv_v21 st6003 (fun k hb hk => ⟨by omega, trivial⟩)
  replace v21 := bs_v21.keep lv_v21 (Nat.le_refl _)
  replace lv_v22 := Keep.st lv_v22 st6003 (fun k hb hk => ⟨by omega, trivial⟩)
  replace v22 := bs_v22.keep lv_v22 (Nat.le_refl _)
  replace lv_v26 := Keep.st lv_v26 st6003 (fun k hb hk => ⟨by omega, trivial⟩)
  replace v26 := bs_v26.keep lv_v26 (Nat.le_refl _)
  have lt_at6003 := GHeap.ltg at6003
  replace h0 := base_h0.mono hle
  clear hb1 c01 c11 c21 c31 c41 i11 i21 i31 i41 hm1 hi1
  have hb1 : Cat.At _ g1 0 c p := ⟨Mem.of_get at1, h0⟩
  obtain ⟨c01, c11, c21, c31, c41, i11, i21, i31, i41⟩ := hb1.get
  have hm1 : MemN _ _ _ _ _ := ⟨rfl, hb1.1⟩
  have hi1 := hb1.2
  clear i21
  have i21 := v21.inn
  clear i22
  have i22 := v22.ints
  clear i26
  have i26 := v26.inn
  have mm6003 : MemN _ _ _ _ _ := ⟨rfl, Mem.of_get at6003⟩
  refine .nil (hK8 _ _ (.seq (fun K9 hK9 => .region ?_)))
  refine .q rfl (.loadM ag_29_D rfl ⟨rfl, Mem.of_get at6003⟩) ?_
  refine .call rfl rfl rfl rfl @Try.call10 rfl (implLimitFlags_c) ?_
  rintro _ H29 ⟨le29, a29, rfl, v29⟩
  have nx_H29 := le29.1
  replace hle := hle.trans le29
  replace at1 := le29.2 _ _ at1
  replace at6003 := le29.2 _ _ at6003
  replace lv_v21 := Keep.le lv_v21 le29
  replace v21 := bs_v21.keep lv_v21 (Nat.le_refl _)
  replace lv_v22 := Keep.le lv_v22 le29
  replace v22 := bs_v22.keep lv_v22 (Nat.le_refl _)
  replace lv_v26 := Keep.le lv_v26 le29
  replace v26 := bs_v26.keep lv_v26 (Nat.le_refl _)
  have bs_v29 := v29
  have lv_v29 : Keep H6003.next H29 H29 := fun _ _ _ h => h
  replace h0 := base_h0.mono hle
  clear hb1 c01 c11 c21 c31 c41 i11 i21 i31 i41 hm1 hi1
  have hb1 : Cat.At _ g1 0 c p := ⟨Mem.of_get at1, h0⟩
  obtain ⟨c01, c11, c21, c31, c41, i11, i21, i31, i41⟩ := hb1.get
  have hm1 : MemN _ _ _ _ _ := ⟨rfl, hb1.1⟩
  have hi1 := hb1.2
  clear i21
  have i21 := v21.inn
  clear i22
  have i22 := v22.ints
  clear i26
  have i26 := v26.inn
  clear mm6003
  have mm6003 : MemN _ _ _ _ _ := ⟨rfl, Mem.of_get at6003⟩
  have i29 := v29.ints
  refine .mv rfl (.q rfl (.extract rfl rfl) (.q rfl (.extract rfl rfl) (.mv rfl (.mv rfl (.nil (hK9 _ _ (.seq (fun K10 hK10 => .seq (fun K11 hK11 => .region (.mv rfl (.mv rfl ?_)))))))))))
  refine .callQ rfl rfl rfl rfl @Try.call11 rfl (eqInt64S_c) ?_
  refine .q rfl (.not rfl) (.mv rfl ?_)
  refine .split (fun h36 => ?_) (fun h36 => ?_)
  ·
   try simp only [sps] at h36
   refine .z rfl (.z rfl (.z rfl (.q rfl (.pickT rfl rfl) (.nil (hK11 _ _ ?_)))))
   refine .condT rfl ?_
   refine .seq (fun K12 hK12 => .region (.mv rfl (.nil (hK12 _ _ ?_))))
   refine .ret ?_
   refine hret _ _ ?_
   refine ⟨_, rfl, ?_⟩
   first
   | exact rfl
   | exact absurd trivial (by assumption)
   | contradiction
   | (exfalso; omega)
  try simp only [sps] at h36
  refine .qg rfl (.move rfl) (.qg rfl (.move rfl) (.qg rfl (.cmp rfl rfl rfl) (.q rfl (.pickF rfl rfl) (.nil (hK11 _ _ ?_)))))
  refine .cond rfl (fun h40 => ?_) (fun h40 => ?_)
  ·
   try simp only [sps] at h40
   refine .seq (fun K13 hK13 => .region (.mv rfl (.nil (hK13 _ _ ?_))))
   refine .ret ?_
   refine hret _ _ ?_
   refine ⟨_, rfl, ?_⟩
   first
   | exact rfl
   | exact absurd trivial (by assumption)
   | contradiction
   | (exfalso; omega)
  try simp only [sps] at h40
  refine .skip ?_
  refine hK10 _ _ (.seq (fun K14 hK14 => .seq (fun K15 hK15 => ?_)))
  refine .regionD mo_B (.q 0 (.q 1 (.c 2 1 (.c 3 0 (.q 4 (.done)))))) (by kernel_rfl) ?_
  refine .q rfl (.loadM ag_29_D rfl ⟨rfl, Mem.of_get at6003⟩) ?_
  refine .q rfl (.loadM ag_25_LLimitFlags rfl ⟨rfl, Mem.of_get at1⟩) ?_
  refine .call1 rfl rfl rfl rfl rfl @Try.call9 rfl (toCategory_c) ?_
  rintro _ H43 ⟨le43, p43, rfl, v43⟩
  have hbl := le43
  refine ⟨hbl, ?_⟩
  have nx_H43 := le43.1
  replace hle := hle.trans le43
  replace at1 := le43.2 _ _ at1
  replace at6003 := le43.2 _ _ at6003
  replace lv_v21 := Keep.le lv_v21 le43
  replace v21 := bs_v21.keep lv_v21 (Nat.le_refl _)
  replace lv_v22 := Keep.le lv_v22 le43
  replace v22 := bs_v22.keep lv_v22 (Nat.le_refl _)
  replace lv_v26 := Keep.le lv_v26 le43
  replace v26 := bs_v26.keep lv_v26 (Nat.le_refl _)
  replace lv_v29 := Keep.le lv_v29 le43
  replace v29 := bs_v29.keep lv_v29 (Nat.le_refl _)
  have bs_v43 := v43
  have lv_v43 : Keep H29.next H43 H43 := fun _ _ _ h => h
  replace h0 := base_h0.mono hle
  clear hb1 c01 c11 c21 c31 c41 i11 i21 i31 i41 hm1 hi1
  have hb1 : Cat.At _ g1 0 c p := ⟨Mem.of_get at1, h0⟩
  obtain ⟨c01, c11, c21, c31, c41, i11, i21, i31, i41⟩ := hb1.get
  have hm1 : MemN _ _ _ _ _ := ⟨rfl, hb1.1⟩
  have hi1 := hb1.2
  clear i21
  have i21 := v21.inn
  clear i22
  have i22 := v22.ints
  clear i26
  have i26 := v26.inn
  clear mm6003
  have mm6003 : MemN _ _ _ _ _ := ⟨rfl, Mem.of_get at6003⟩
  clear i29
  have i29 := v29.ints
  have i43 := v43.inn
  refine .callQ0 rfl rfl rfl rfl rfl @Try.call12 rfl (eqCategory_c) ?_
  refine .q rfl (.not rfl) ?_
  refine .done ?_
  refine hK15 _ _ ?_
  refine .cond rfl (fun h45 => ?_) (fun h45 => ?_)
  ·
   try simp only [sps] at h45
   refine .seq (fun K16 hK16 => .region (.mv rfl (.nil (hK16 _ _ ?_))))
   refine .ret ?_
   refine hret _ _ ?_
   refine ⟨_, rfl, ?_⟩
   first
   | exact rfl
   | exact absurd trivial (by assumption)
   | contradiction
   | (exfalso; omega)
  try simp only [sps] at h45
  refine .skip ?_
  refine hK14 _ _ (.seq (fun K17 hK17 => .region (.mv rfl (.nil (hK17 _ _ (.seq (fun K18 hK18 => .region ?_)))))))
  refine .q rfl (.loadM ag_29_D rfl ⟨rfl, Mem.of_get at6003⟩) ?_
  refine .mv rfl ?_
  have w_v26 := CatW.of_at bs_v26 lv_v26
  refine .call rfl rfl rfl rfl @Try.call13 rfl (markCategory_c) ?_
  rintro _ H48 ⟨rfl, mk48⟩
  have sm48 := mk48.stm
  have nx_H48 := sm48.nx
  replace hle := StM.le_left hle sm48 (by omega)
  replace at1 := sm48.same _ _ (by omega) at1
  replace at6003 := sm48.same _ _ (by omega) at6003
  replace lv_v21 := Keep.stM lv_v21 sm48 (fun k hb hk => by omega)
  replace v21 := bs_v21.keep lv_v21 (Nat.le_refl _)
  replace lv_v22 := Keep.stM lv_v22 sm48 (fun k hb hk => by omega)
  replace v22 := bs_v22.keep lv_v22 (Nat.le_refl _)
  replace lv_v29 := Keep.stM lv_v29 sm48 (fun k hb hk => by omega)
  replace v29 := bs_v29.keep lv_v29 (Nat.le_refl _)
  replace lv_v43 := Keep.stM lv_v43 sm48 (fun k hb hk => by omega)
  replace v43 := bs_v43.keep lv_v43 (Nat.le_refl _)
  replace h0 := base_h0.mono hle
  clear hb1 c01 c11 c21 c31 c41 i11 i21 i31 i41 hm1 hi1
  have hb1 : Cat.At _ g1 0 c p := ⟨Mem.of_get at1, h0⟩
  obtain ⟨c01, c11, c21, c31, c41, i11, i21, i31, i41⟩ := hb1.get
  have hm1 : MemN _ _ _ _ _ := ⟨rfl, hb1.1⟩
  have hi1 := hb1.2
  clear i21
  have i21 := v21.inn
  clear i22
  have i22 := v22.ints
  clear mm6003
  have mm6003 : MemN _ _ _ _ _ := ⟨rfl, Mem.of_get at6003⟩
  clear i29
  have i29 := v29.ints
  clear i43
  have i43 := v43.inn
  refine .mv rfl (.nil (hK18 _ _ (.seq (fun K19 hK19 => .seq (fun K20 hK20 => .region (.mv rfl (.q rfl (.cmp rfl rfl rfl) (.mv rfl ?_))))))))
  refine .split (fun h51 => ?_) (fun h51 => ?_)
  ·
   try simp only [sps] at h51
   refine .z rfl (.z rfl (.z rfl (.z rfl (.q rfl (.pickT rfl rfl) (.mv rfl (.z rfl (.z rfl (.z rfl (.q rfl (.pickT rfl rfl) (.nil (hK20 _ _ ?_)))))))))))
   refine .condT rfl ?_
   refine .seq (fun K21 hK21 => .region (.mv rfl (.nil (hK21 _ _ ?_))))
   refine .ret ?_
   refine hret _ _ ?_
   refine ⟨_, rfl, ?_⟩
   first
   | exact rfl
   | exact absurd trivial (by assumption)
   | contradiction
   | (exfalso; omega)
  try simp only [sps] at h51
  refine .qg rfl (.move rfl) (.qg rfl (.move rfl) ?_)
  refine .callQg rfl rfl rfl rfl rfl rfl @Try.call11 rfl (eqInt64S_c) ?_
  refine .qg rfl (.not rfl) (.q rfl (.pickF rfl rfl) (.mv rfl ?_))
  refine .split (fun h57 => ?_) (fun h57 => ?_)
  ·
   try simp only [sps] at h57
   refine .z rfl (.z rfl (.z rfl (.q rfl (.pickT rfl rfl) (.nil (hK20 _ _ ?_)))))
   refine .condT rfl ?_
   refine .seq (fun K22 hK22 => .region (.mv rfl (.nil (hK22 _ _ ?_))))
   refine .ret ?_
   refine hret _ _ ?_
   refine ⟨_, rfl, ?_⟩
   first
   | exact rfl
   | exact absurd trivial (by assumption)
   | contradiction
   | (exfalso; omega)
  try simp only [sps] at h57
  refine .qg rfl (.move rfl) (.qg rfl (.move rfl) (.qg rfl (.cmp rfl rfl rfl) (.q rfl (.pickF rfl rfl) (.nil (hK20 _ _ ?_)))))
  refine .cond rfl (fun h61 => ?_) (fun h61 => ?_)
  ·
   try simp only [sps] at h61
   refine .seq (fun K23 hK23 => .region (.mv rfl (.nil (hK23 _ _ ?_))))
   refine .ret ?_
   refine hret _ _ ?_
   refine ⟨_, rfl, ?_⟩
   first
   | exact rfl
   | exact absurd trivial (by assumption)
   | contradiction
   | (exfalso; omega)
  try simp only [sps] at h61
  refine .skip ?_
  refine hK19 _ _ (.seq (fun K24 hK24 => .region (.mv rfl (.nil (hK24 _ _ (.seq (fun K25 hK25 => .region (.mv rfl (.mv rfl ?_)))))))))
  have w_v29 := IntsW.of_r bs_v29 lv_v29
  refine .call rfl rfl rfl rfl @Try.call14 rfl (markInt64S_c) ?_
  rintro _ H64 ⟨rfl, mk64⟩
  have sm64 := mk64.stm
  have nx_H64 := sm64.nx
  replace hle := StM.le_left hle sm64 (by omega)
  replace at1 := sm64.same _ _ (by omega) at1
  replace at6003 := sm64.same _ _ (by omega) at6003
  replace lv_v21 := Keep.stM lv_v21 sm64 (fun k hb hk => by omega)
  replace v21 := bs_v21.keep lv_v21 (Nat.le_refl _)
  replace lv_v22 := Keep.stM lv_v22 sm64 (fun k hb hk => by omega)
  replace v22 := bs_v22.keep lv_v22 (Nat.le_refl _)
  replace lv_v43 := Keep.stM lv_v43 sm64 (fun k hb hk => by omega)
  replace v43 := bs_v43.keep lv_v43 (Nat.le_refl _)
  replace h0 := base_h0.mono hle
  clear hb1 c01 c11 c21 c31 c41 i11 i21 i31 i41 hm1 hi1
  have hb1 : Cat.At _ g1 0 c p := ⟨Mem.of_get at1, h0⟩
  obtain ⟨c01, c11, c21, c31, c41, i11, i21, i31, i41⟩ := hb1.get
  have hm1 : MemN _ _ _ _ _ := ⟨rfl, hb1.1⟩
  have hi1 := hb1.2
  clear i21
  have i21 := v21.inn
  clear i22
  have i22 := v22.ints
  clear mm6003
  have mm6003 : MemN _ _ _ _ _ := ⟨rfl, Mem.of_get at6003⟩
  clear i43
  have i43 := v43.inn
  have hd64 := mk64.held (IntsR.nodup)
  have wd64 := w_v29.stm sm64
  have bs_hd64 := hd64
  have lv_hd64 : Keep H6003.next H64 H64 := fun _ _ _ h => h
  have bs_wd64 := wd64
  have lv_wd64 : Keep H6003.next H64 H64 := fun _ _ _ h => h
  refine .mv rfl (.nil (hK25 _ _ (.seq (fun K26 hK26 => .region (.mv rfl (.nil (hK26 _ _ (.seq (fun K27 hK27 => .region (.mv rfl (.mv rfl ?_)))))))))))
  refine .callQ rfl rfl rfl rfl @Try.call15 rfl (heldInt64S_c) ?_
  refine .mv rfl (.nil (hK27 _ _ (.seq (fun K28 hK28 => .seq (fun K29 hK29 => .region (.mv rfl (.q rfl (.cmp rfl rfl rfl) (.nil (hK29 _ _ ?_)))))))))
  refine .cond rfl (fun h69 => ?_) (fun h69 => ?_)
  ·
   try simp only [sps] at h69
   refine .seq (fun K30 hK30 => .region (.mv rfl (.nil (hK30 _ _ ?_))))
   refine .ret ?_
   refine hret _ _ ?_
   refine ⟨_, rfl, ?_⟩
   first
   | exact rfl
   | exact absurd trivial (by assumption)
   | contradiction
   | (exfalso; omega)
  try simp only [sps] at h69
  refine .skip ?_
  refine hK28 _ _ (.seq (fun K31 hK31 => .seq (fun K32 hK32 => .region (.mv rfl (.mv rfl (.q rfl (.cmp rfl rfl rfl) (.nil (hK32 _ _ ?_))))))))
  refine .cond rfl (fun h72 => ?_) (fun h72 => ?_)
  ·
   try simp only [sps] at h72
   refine .seq (fun K33 hK33 => .region (.mv rfl (.nil (hK33 _ _ ?_))))
   refine .ret ?_
   refine hret _ _ ?_
   refine ⟨_, rfl, ?_⟩
   first
   | exact rfl
   | exact absurd trivial (by assumption)
   | contradiction
   | (exfalso; omega)
  try simp only [sps] at h72
  refine .skip ?_
  refine hK31 _ _ (.seq (fun K34 hK34 => .region ?_))
  refine .q rfl (.loadM ag_25_LLimitFlags rfl ⟨rfl, Mem.of_get at1⟩) ?_
  refine .call rfl rfl rfl rfl @Try.call9 rfl (toCategory_c) ?_
  rintro _ H75 ⟨le75, p75, rfl, v75⟩
  have nx_H75 := le75.1
  replace hle := hle.trans le75
  replace at1 := le75.2 _ _ at1
  replace at6003 := le75.2 _ _ at6003
  replace lv_v21 := Keep.le lv_v21 le75
  replace v21 := bs_v21.keep lv_v21 (Nat.le_refl _)
  replace lv_v22 := Keep.le lv_v22 le75
  replace v22 := bs_v22.keep lv_v22 (Nat.le_refl _)
  replace lv_v43 := Keep.le lv_v43 le75
  replace v43 := bs_v43.keep lv_v43 (Nat.le_refl _)
  replace lv_hd64 := Keep.le lv_hd64 le75
  replace hd64 := bs_hd64.keep lv_hd64 (Nat.le_refl _)
  replace lv_wd64 := Keep.le lv_wd64 le75
  replace wd64 := bs_wd64.keep lv_wd64 (Nat.le_refl _)
  have bs_v75 := v75
  have lv_v75 : Keep H64.next H75 H75 := fun _ _ _ h => h
  replace h0 := base_h0.mono hle
  clear hb1 c01 c11 c21 c31 c41 i11 i21 i31 i41 hm1 hi1
  have hb1 : Cat.At _ g1 0 c p := ⟨Mem.of_get at1, h0⟩
  obtain ⟨c01, c11, c21, c31, c41, i11, i21, i31, i41⟩ := hb1.get
  have hm1 : MemN _ _ _ _ _ := ⟨rfl, hb1.1⟩
  have hi1 := hb1.2
  clear i21
  have i21 := v21.inn
  clear i22
  have i22 := v22.ints
  clear mm6003
  have mm6003 : MemN _ _ _ _ _ := ⟨rfl, Mem.of_get at6003⟩
  clear i43
  have i43 := v43.inn
  have i75 := v75.inn
  refine .call rfl rfl rfl rfl @Try.call10 rfl (implLimitFlags_c) ?_
  rintro _ H76 ⟨le76, a76, rfl, v76⟩
  have nx_H76 := le76.1
  replace hle := hle.trans le76
  replace at1 := le76.2 _ _ at1
  replace at6003 := le76.2 _ _ at6003
  replace lv_v21 := Keep.le lv_v21 le76
  replace v21 := bs_v21.keep lv_v21 (Nat.le_refl _)
  replace lv_v22 := Keep.le lv_v22 le76
  replace v22 := bs_v22.keep lv_v22 (Nat.le_refl _)
  replace lv_v43 := Keep.le lv_v43 le76
  replace v43 := bs_v43.keep lv_v43 (Nat.le_refl _)
  replace lv_hd64 := Keep.le lv_hd64 le76
  replace hd64 := bs_hd64.keep lv_hd64 (Nat.le_refl _)
  replace lv_wd64 := Keep.le lv_wd64 le76
  replace wd64 := bs_wd64.keep lv_wd64 (Nat.le_refl _)
  replace lv_v75 := Keep.le lv_v75 le76
  replace v75 := bs_v75.keep lv_v75 (Nat.le_refl _)
  have bs_v76 := v76
  have lv_v76 : Keep H75.next H76 H76 := fun _ _ _ h => h
  replace h0 := base_h0.mono hle
  clear hb1 c01 c11 c21 c31 c41 i11 i21 i31 i41 hm1 hi1
  have hb1 : Cat.At _ g1 0 c p := ⟨Mem.of_get at1, h0⟩
  obtain ⟨c01, c11, c21, c31, c41, i11, i21, i31, i41⟩ := hb1.get
  have hm1 : MemN _ _ _ _ _ := ⟨rfl, hb1.1⟩
  have hi1 := hb1.2
  clear i21
  have i21 := v21.inn
  clear i22
  have i22 := v22.ints
  clear mm6003
  have mm6003 : MemN _ _ _ _ _ := ⟨rfl, Mem.of_get at6003⟩
  clear i43
  have i43 := v43.inn
  clear i75
  have i75 := v75.inn
  have i76 := v76.ints
  refine .mv rfl (.q rfl (.extract rfl rfl) (.q rfl (.extract rfl rfl) (.mv rfl (.mv rfl (.nil (hK34 _ _ (.seq (fun K35 hK35 => .seq (fun K36 hK36 => .region (.mv rfl (.mv rfl ?_)))))))))))
  refine .callQ rfl rfl rfl rfl @Try.call11 rfl (eqInt64S_c) ?_
  refine .q rfl (.not rfl) (.mv rfl ?_)
  refine .split (fun h83 => ?_) (fun h83 => ?_)
  ·
   try simp only [sps] at h83
   refine .z rfl (.z rfl (.z rfl (.q rfl (.pickT rfl rfl) (.nil (hK36 _ _ ?_)))))
   refine .condT rfl ?_
   refine .seq (fun K37 hK37 => .region (.mv rfl (.nil (hK37 _ _ ?_))))
   refine .ret ?_
   refine hret _ _ ?_
   refine ⟨_, rfl, ?_⟩
   first
   | exact rfl
   | exact absurd trivial (by assumption)
   | contradiction
   | (exfalso; omega)
  try simp only [sps] at h83
  refine .qg rfl (.move rfl) (.qg rfl (.move rfl) (.qg rfl (.cmp rfl rfl rfl) (.q rfl (.pickF rfl rfl) (.nil (hK36 _ _ ?_)))))
  refine .cond rfl (fun h87 => ?_) (fun h87 => ?_)
  ·
   try simp only [sps] at h87
   refine .seq (fun K38 hK38 => .region (.mv rfl (.nil (hK38 _ _ ?_))))
   refine .ret ?_
   refine hret _ _ ?_
   refine ⟨_, rfl, ?_⟩
   first
   | exact rfl
   | exact absurd trivial (by assumption)
   | contradiction
   | (exfalso; omega)
  try simp only [sps] at h87
  refine .skip ?_
  refine hK35 _ _ (.seq (fun K39 hK39 => .region (.mv rfl (.nil (hK39 _ _ (.seq (fun K40 hK40 => .region (.mv rfl (.mv rfl ?_)))))))))
  refine .callQ rfl rfl rfl rfl @Try.call15 rfl (heldInt64S_c) ?_
  refine .mv rfl (.nil (hK40 _ _ (.seq (fun K41 hK41 => .seq (fun K42 hK42 => .region (.mv rfl (.q rfl (.cmp rfl rfl rfl) (.nil (hK42 _ _ ?_)))))))))
  refine .cond rfl (fun h92 => ?_) (fun h92 => ?_)
  ·
   try simp only [sps] at h92
   refine .seq (fun K43 hK43 => .region (.mv rfl (.nil (hK43 _ _ ?_))))
   refine .ret ?_
   refine hret _ _ ?_
   refine ⟨_, rfl, ?_⟩
   first
   | exact rfl
   | exact absurd trivial (by assumption)
   | contradiction
   | (exfalso; omega)
  try simp only [sps] at h92
  refine .skip ?_
  refine hK41 _ _ (.seq (fun K44 hK44 => .seq (fun K45 hK45 => .region (.mv rfl (.mv rfl (.q rfl (.cmp rfl rfl rfl) (.nil (hK45 _ _ ?_))))))))
  refine .cond rfl (fun h95 => ?_) (fun h95 => ?_)
  ·
   try simp only [sps] at h95
   refine .seq (fun K46 hK46 => .region (.mv rfl (.nil (hK46 _ _ ?_))))
   refine .ret ?_
   refine hret _ _ ?_
   refine ⟨_, rfl, ?_⟩
   first
   | exact rfl
   | exact absurd trivial (by assumption)
   | contradiction
   | (exfalso; omega)
  try simp only [sps] at h95
  refine .skip ?_
  refine hK44 _ _ (.seq (fun K47 hK47 => .region (.mv rfl (.nil (hK47 _ _ ?_)))))
  refine .ret ?_
  refine hret _ _ ?_
  refine ⟨_, rfl, ?_⟩
  first
  | exact rfl
  | exact absurd trivial (by assumption)
  | contradiction
  | (exfalso; omega)
end Go.Proofs.Ytjdedelneppnlaa
