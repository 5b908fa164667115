/- Images: both sides. No condition but those of each statement. -/
import Derived.Test.YtolfggcanbpknaaZ12
namespace Go.Proofs.Ytolfggcanbpknaa
open Go Go.GL Go.RowKit Go.Proofs
theorem liftsOf_c {c : Cat} {p : CatP} {f k : Int} {H : GHeap} (hin : c.In H p := by assumption) (hs : c.Small := by assumption) :
    GCalls Try.prog 42 [.agg (c.cells p).toArray, .int .i64 f, .int .i64 k] H (NewLC (c.liC f k) (codeL (c.liC f k) (c.lif f k)) H) := by
  refine GCalls.body (N := 30) (rs := [.tmp 6, .tmp 7]) Try.func42 rfl rfl rfl rfl (fun Qx hret hend => ?_)
  refine .fg [0, 1, 2] rfl ?_
  have hle := GHeap.Le.refl H
  have base_hin := hin
  refine .seq (fun K1 hK1 => .region ?_)
  refine .R rfl (.boxR rfl sz_27_D rfl) ?_
  rintro _ H3 ⟨g3, rfl, le3, ge3, at3⟩
  replace hle := hle.trans le3
  have lt_at3 := GHeap.ltg at3
  replace hin := base_hin.mono hle
  have hb3 : Cat.At _ g3 0 c p := ⟨Mem.of_get at3, hin⟩
  refine .mv rfl (.mv rfl (.nil (hK1 _ _ (.seq (fun K2 hK2 => .seq (fun K3 hK3 => .region (.mv rfl (.mv rfl ?_))))))))
  refine .R rfl (.litA rfl sl_24_A ze_2_L rfl rfl rfl rfl) ?_
  rintro _ H11 ⟨g11, rfl, le11, ge11, at11⟩
  replace hle := hle.trans le11
  replace at3 := le11.2 _ _ at3
  have lt_at11 := GHeap.ltg at11
  replace hin := base_hin.mono hle
  clear hb3
  have hb3 : Cat.At _ g3 0 c p := ⟨Mem.of_get at3, hin⟩
  obtain ⟨-, -, c23, -, -, -, i23, -, -⟩ := hb3.get
  refine .callQ rfl rfl rfl rfl @Try.call51 rfl (arrowCode_c (xs := [f, k]) (hx := Ints.of_get (by assumption)) (hl := by simp)) ?_
  refine .mv rfl (.nil (hK3 _ _ (.seq (fun K4 hK4 => .region (.mv rfl (.q rfl (.cmp rfl rfl rfl) (.nil (hK4 _ _ ?_))))))))
  refine .cond rfl (fun h14 => ?_) (fun h14 => ?_)
  ·
   try simp only [sps] at h14
   refine .seq (fun K5 hK5 => .region (.mv rfl (.mv rfl (.mv rfl (.nil (hK5 _ _ ?_))))))
   refine .ret ?_
   refine hret _ _ ?_
   refine ⟨_, _, rfl, rfl, ?_⟩
   rw [Cat.liC_err h14, codeL_err h14]; exact ⟨hle, none, rfl, .inl ⟨rfl, rfl⟩⟩
  simp only [sps] at h14
  obtain ⟨hI, ⟨f0, f1⟩, k0, k1⟩ := Cat.code_two.1 h14
  have hS := hI.1
  have q1 := hS.tl
  refine .skip ?_
  refine hK2 _ _ (.seq (fun K6 hK6 => .seq (fun K7 hK7 => ?_)))
  refine .regionD mo_B (.q 0 (.q 1 (.q 2 (.q 3 (.q 4 (.q 5 (.q 6 (.q 7 (.q 8 (.q 9 (.q 10 (.done)))))))))))) (by kernel_rfl) ?_
  refine .q rfl (.fieldAddr fo_27_2_B rfl) ?_
  refine .q rfl (.load on_24_B rfl (by first | assumption | exact Mem.of_get at3 2 _ rfl)) ?_
  refine .mv rfl rfl ?_
  refine .q rfl (.idx1 sl_24_A (by assumption) rfl rfl (by omega) (by omega)) ?_
  refine .q rfl (.loadI on_2_A (by assumption) rfl (by omega)) ?_
  refine .q rfl (.fieldAddr fo_27_2_B rfl) ?_
  refine .q rfl (.load on_24_B rfl (by first | assumption | exact Mem.of_get at3 2 _ rfl)) ?_
  refine .mv rfl rfl ?_
  refine .q rfl (.idx1 sl_24_A (by assumption) rfl rfl (by omega) (by omega)) ?_
  refine .q rfl (.loadI on_2_A (by assumption) rfl (by omega)) ?_
  refine .q rfl (.cmp rfl rfl rfl) ?_
  refine .done ?_
  refine hK7 _ _ ?_
  refine .cond rfl (fun h26 => ?_) (fun h26 => ?_)
  ·
   try simp only [sps] at h26
   refine .seq (fun K8 hK8 => .region (.mv rfl (.mv rfl (.nil (hK8 _ _ ?_)))))
   refine .ret ?_
   refine hret _ _ ?_
   refine ⟨_, _, rfl, rfl, ?_⟩
   rw [Cat.liC_no h14 h26, codeL_err (by decide)]; exact ⟨hle, none, rfl, .inl ⟨rfl, rfl⟩⟩
  simp only [sps] at h26
  refine .skip ?_
  refine hK6 _ _ (.seq (fun K9 hK9 => .region (.mv rfl (.mv rfl ?_))))
  refine .call rfl rfl rfl rfl @Try.call74 rfl (lifts_c) ?_
  rintro _ H29 ⟨le29, g29, rfl, at29, ge29⟩
  replace hle := hle.trans le29
  replace at3 := le29.2 _ _ at3
  replace hin := base_hin.mono hle
  clear hb3 c23 i23
  have hb3 : Cat.At _ g3 0 c p := ⟨Mem.of_get at3, hin⟩
  refine .mv rfl (.mv rfl (.nil (hK9 _ _ ?_)))
  refine .ret ?_
  refine hret _ _ ?_
  refine ⟨_, _, rfl, rfl, ?_⟩
  rw [Cat.liC_ok h14 h26, codeL_ok rfl]; exact ⟨hle, _, rfl, .of_at at29 (by omega)⟩
theorem isIso_c {c : Cat} {p : CatP} {f : Int} {H : GHeap} (hin : c.In H p := by assumption) (hs : c.Small := by assumption) :
    GCalls Try.prog 46 [.agg (c.cells p).toArray, .int .i64 f] H (Ret (.tuple #[.bool (c.isoB f), .int .i64 (c.code [f])]) H) := by
  refine GCalls.ret rfl ?_
  refine GCalls.body (N := 16) (rs := [.tmp 4, .tmp 5]) Try.func46 rfl rfl rfl rfl (fun Qx hret hend => ?_)
  refine .fg [0, 1] rfl ?_
  have hle := GHeap.Le.refl H
  have base_hin := hin
  refine .seq (fun K1 hK1 => .region ?_)
  refine .R rfl (.boxR rfl sz_27_D rfl) ?_
  rintro _ H2 ⟨g2, rfl, le2, ge2, at2⟩
  replace hle := hle.trans le2
  replace hin := base_hin.mono hle
  have hb2 : Cat.At _ g2 0 c p := ⟨Mem.of_get at2, hin⟩
  refine .mv rfl (.mv rfl (.nil (hK1 _ _ (.seq (fun K2 hK2 => .seq (fun K3 hK3 => .region (.mv rfl ?_)))))))
  refine .R rfl (.litA rfl sl_24_A ze_2_L rfl rfl rfl rfl) ?_
  rintro _ H8 ⟨g8, rfl, le8, ge8, at8⟩
  replace hle := hle.trans le8
  replace at2 := le8.2 _ _ at2
  replace hin := base_hin.mono hle
  clear hb2
  have hb2 : Cat.At _ g2 0 c p := ⟨Mem.of_get at2, hin⟩
  refine .callQ rfl rfl rfl rfl @Try.call51 rfl (arrowCode_c (xs := [f]) (hx := Ints.of_get (by assumption)) (hl := by simp)) ?_
  refine .mv rfl (.nil (hK3 _ _ (.seq (fun K4 hK4 => .region (.mv rfl (.q rfl (.cmp rfl rfl rfl) (.nil (hK4 _ _ ?_))))))))
  refine .cond rfl (fun h11 => ?_) (fun h11 => ?_)
  ·
   try simp only [sps] at h11
   refine .seq (fun K5 hK5 => .region (.mv rfl (.mv rfl (.mv rfl (.nil (hK5 _ _ ?_))))))
   refine .ret ?_
   refine hret _ _ ?_
   refine ⟨_, _, rfl, rfl, ?_⟩
   unfold Cat.isoB; rw [decide_eq_false h11]; exact ⟨rfl, hle⟩
  simp only [sps] at h11
  obtain ⟨hI, f0, f1⟩ := Cat.code_one.1 h11
  have hS := hI.1
  refine .skip ?_
  refine hK2 _ _ (.seq (fun K6 hK6 => .region (.mv rfl ?_)))
  refine .callQ rfl rfl rfl rfl @Try.call55 rfl (inverse_c) ?_
  refine .q rfl (.cmp rfl rfl rfl) (.mv rfl (.mv rfl (.nil (hK6 _ _ ?_))))
  refine .ret ?_
  refine hret _ _ ?_
  refine ⟨_, _, rfl, rfl, ?_⟩
  unfold Cat.isoB; rw [decide_eq_true h11, Bool.true_and, h11]; exact ⟨rfl, hle⟩
set_option maxHeartbeats 4000000 in
theorem imageArrow_c {g o : Nat} {c : Cat} {p : CatP} {f : Int} {H : GHeap} (h : Cat.At H g o c p := by assumption) (hI : c.Is := by assumption) (f0 : 0 ≤ f := by omega) (f1 : f < c.src.length := by omega) :
    GCalls Try.prog 78 [.pointer (some ⟨g, o, none⟩), .int .i64 f] H (Ret (.tuple #[.int .i64 (c.imM f), .int .i64 (c.imE f), .bool (decide (0 ≤ c.imgI f))]) H) := by
  refine GCalls.ret rfl ?_
  have hIs := hI
  have hk0 : c.code [f] = 0 := Cat.code_one.2 ⟨hI, f0, f1⟩
  have hS := hI.1
  have q1 := hS.tl
  have q2 := hS.n40
  have hle0 : (c.intoL (c.tgt.getD f.toNat 0)).length ≤ 40 := by have := filtN_le c.src.length (fun k => decide (c.tgt.getD k 0 = (c.tgt.getD f.toNat 0))); unfold Cat.intoL; omega
  have hfl0 := c.facL_le f
  refine GCalls.body (N := 72) (rs := [.tmp 4, .tmp 5, .tmp 6]) Try.func78 rfl rfl rfl rfl (fun Qx hret hend => ?_)
  refine .fg [0, 1] rfl ?_
  have hle := GHeap.Le.refl H
  have base_h := h
  obtain ⟨c0, c1, c2, c3, c4, i1, i2, i3, i4⟩ := h.get
  have hm : MemN _ _ _ _ _ := ⟨rfl, h.1⟩
  have hi := h.2
  refine .seq (fun K1 hK1 => .region (.mv rfl (.mv rfl (.mv rfl (.nil (hK1 _ _ ?_))))))
  refine .scope ?_
  refine .seq (fun K2 hK2 => .region ?_)
  refine .R rfl (.litA rfl sl_24_A ze_2_L rfl rfl rfl rfl) ?_
  rintro _ H14 ⟨g14, rfl, le14, ge14, at14⟩
  have nx_H14 := le14.1
  replace hle := hle.trans le14
  have lt_at14 := GHeap.ltg at14
  replace h := base_h.mono hle
  clear c0 c1 c2 c3 c4 i1 i2 i3 i4 hm hi
  obtain ⟨c0, c1, c2, c3, c4, i1, i2, i3, i4⟩ := h.get
  have hm : MemN _ _ _ _ _ := ⟨rfl, h.1⟩
  have hi := h.2
  replace at14 : GHeap.get H14 g14 = some (.row (ints []) 2 true) := at14
  refine .mv rfl (.nil (hK2 _ _ (.seq (fun K3 hK3 => .seq (fun K4 hK4 => .region (.mv rfl (.mv rfl (.q rfl (.nilCheck rfl) (.q rfl (.fieldAddr fo_27_2_B rfl) ?_)))))))))
  refine .q rfl (.load on_24_B rfl (by assumption)) ?_
  refine .mv rfl ?_
  refine .q rfl (.idx1 sl_24_A (by assumption) rfl rfl (by omega) (by omega)) ?_
  refine .q rfl (.loadI on_2_A (by assumption) rfl (by omega)) ?_
  refine .call rfl rfl rfl rfl @Try.call71 rfl (into_c) ?_
  rintro _ H23 ⟨le23, g23, rfl, at23, ge23⟩
  have nx_H23 := le23.1
  replace hle := hle.trans le23
  replace at14 := le23.2 _ _ at14
  have lt_at23 := GHeap.ltg at23
  replace h := base_h.mono hle
  clear c0 c1 c2 c3 c4 i1 i2 i3 i4 hm hi
  obtain ⟨c0, c1, c2, c3, c4, i1, i2, i3, i4⟩ := h.get
  have hm : MemN _ _ _ _ _ := ⟨rfl, h.1⟩
  have hi := h.2
  have i23 := Ints.of_get at23
  refine .q rfl (.len sl_24_A rfl) (.mv rfl (.nil (hK4 _ _ ?_)))
  refine .block ?_
  refine .loopR (σ := Nat × Nat × Nat) [(0, some _), (1, some _), (23, some _), (24, some _)] (fun (k, gL7, nL7) => [(25, some (.int .i64 (k : Int))), (7, some (.slice (some ⟨gL7, 0, none⟩) nL7 nL7))]) (fun (k, gL7, nL7) H' => St [g14] H23 H' ∧ H'.get gL7 = some (.row (ints (((c.intoL (c.tgt.getD f.toNat 0)).take k).filter fun m => B (c.Mono m) && c.belB f m)) 2 true) ∧ (gL7 = g14 ∨ H23.next ≤ gL7) ∧ nL7 = (((c.intoL (c.tgt.getD f.toNat 0)).take k).filter fun m => B (c.Mono m) && c.belB f m).length ∧ k ≤ (c.intoL (c.tgt.getD f.toNat 0)).length) (fun (k, gL7, nL7) => (c.intoL (c.tgt.getD f.toNat 0)).length - k) ((0, _, _)) ⟨rfl, rfl, rfl, rfl, trivial⟩ ⟨rfl, rfl, trivial⟩ ?_ ?_
  ·
   refine ⟨.refl _ _, by assumption, .inl rfl, by rfl, ?_⟩
   omega
  rintro ⟨k, gL7, nL7⟩ HL1 ⟨lst1, at_L7, pl_L7, ln_L7, hI⟩ KL1 hKL1
  refine .forget (fr' := [(25, some (.int .i64 (k : Int))), (7, some (.slice (some ⟨gL7, 0, none⟩) nL7 nL7)), (0, some _), (1, some _), (23, some _), (24, some _)]) ⟨rfl, rfl, rfl, rfl, rfl, rfl, trivial⟩ ?_
  have ge_L7 : H.next ≤ gL7 := by omega
  have nx_HL1 := lst1.nx
  replace hle := hle.st lst1 (fun k hk => ⟨by omega, trivial⟩)
  replace at23 := lst1.s at23
  have lt_at_L7 := GHeap.ltg at_L7
  replace h := base_h.mono hle
  clear c0 c1 c2 c3 c4 i1 i2 i3 i4 hm hi
  obtain ⟨c0, c1, c2, c3, c4, i1, i2, i3, i4⟩ := h.get
  have hm : MemN _ _ _ _ _ := ⟨rfl, h.1⟩
  have hi := h.2
  clear i23
  have i23 := Ints.of_get at23
  have hfl := filt_le (c.intoL (c.tgt.getD f.toNat 0)) (fun m => B (c.Mono m) && c.belB f m) k
  refine .seq (fun K5 hK5 => .region (.q rfl (.cmp rfl rfl rfl) (.nil (hK5 _ _ (.seq (fun K6 hK6 => ?_))))))
  refine .cond rfl (fun h26 => ?_) (fun h26 => ?_)
  ·
   simp only [sps] at h26
   obtain ⟨j, j1, j2, j3⟩ := filtN_get (n := c.src.length) (p := fun k => decide (c.tgt.getD k 0 = (c.tgt.getD f.toNat 0))) (i := k) (show k < (c.intoL (c.tgt.getD f.toNat 0)).length by omega)
   have j4 : (c.intoL (c.tgt.getD f.toNat 0)).getD k 0 = (j : Int) := j3
   refine .skip ?_
   refine hK6 _ _ (.seq (fun K7 hK7 => ?_))
   refine .block ?_
   refine .seq (fun K8 hK8 => .region ?_)
   refine .q rfl (.idxN sl_24_A (by first | assumption | exact SlA.of_row at23 (by first | rfl | (simp; done) | (simp <;> omega))) rfl rfl (by omega)) ?_
   refine .q rfl (.loadI on_2_A (by first | assumption | exact Ints.of_get at23) rfl (by omega)) ?_
   refine .mv rfl (.nil (hK8 _ _ (.seq (fun K9 hK9 => .region (.mv rfl (.mv rfl ?_))))))
   refine .callQ rfl rfl rfl rfl @Try.call59 rfl (isMono_c) ?_
   refine .mv rfl ?_
   refine .split (fun h32 => ?_) (fun h32 => ?_)
   ·
    simp only [sps] at h32
    refine .qg rfl (.move rfl) (.qg rfl (.move rfl) (.qg rfl (.move rfl) ?_))
    refine .callg rfl rfl rfl rfl rfl rfl @Try.call74 rfl (lifts_c) ?_
    rintro _ H36 ⟨le36, g36, rfl, at36, ge36⟩
    have nx_H36 := le36.1
    replace hle := hle.trans le36
    replace lst1 := lst1.le le36
    replace at23 := le36.2 _ _ at23
    replace at_L7 := le36.2 _ _ at_L7
    have lt_at36 := GHeap.ltg at36
    replace h := base_h.mono hle
    clear c0 c1 c2 c3 c4 i1 i2 i3 i4 hm hi
    obtain ⟨c0, c1, c2, c3, c4, i1, i2, i3, i4⟩ := h.get
    have hm : MemN _ _ _ _ _ := ⟨rfl, h.1⟩
    have hi := h.2
    clear i23
    have i23 := Ints.of_get at23
    have i36 := Ints.of_get at36
    refine .qg rfl (.len sl_24_A rfl) (.qg rfl (.cmp rfl rfl rfl) (.q rfl (.pickT rfl rfl) (.nil (hK9 _ _ ?_))))
    refine .cond rfl (fun h39 => ?_) (fun h39 => ?_)
    ·
     have hfT : (fun m => B (c.Mono m) && c.belB f m) ((c.intoL (c.tgt.getD f.toNat 0)).getD k 0) = true := by
       show (_ && c.belB f _) = true
       unfold Cat.belB
       rw [Bool.and_eq_true]
       exact ⟨B_true h32, decide_eq_true (by simp only [sps] at h39; omega)⟩
     refine .region (.mv rfl (.mv rfl ?_))
     refine .R rfl (.litA rfl sl_24_A ze_2_L rfl rfl rfl rfl) ?_
     rintro _ H42 ⟨g42, rfl, le42, ge42, at42⟩
     have nx_H42 := le42.1
     replace hle := hle.trans le42
     replace lst1 := lst1.le le42
     replace at23 := le42.2 _ _ at23
     replace at_L7 := le42.2 _ _ at_L7
     replace at36 := le42.2 _ _ at36
     have lt_at42 := GHeap.ltg at42
     replace h := base_h.mono hle
     clear c0 c1 c2 c3 c4 i1 i2 i3 i4 hm hi
     obtain ⟨c0, c1, c2, c3, c4, i1, i2, i3, i4⟩ := h.get
     have hm : MemN _ _ _ _ _ := ⟨rfl, h.1⟩
     have hi := h.2
     clear i23
     have i23 := Ints.of_get at23
     clear i36
     have i36 := Ints.of_get at36
     refine .R rfl (.appendI rfl sl_24_A ze_2_L rfl by_2_L sl_24_A rfl rfl (by assumption) (by assumption) (by first | omega | (simp <;> omega)) (by omega) (by omega)) ?_
     rintro _ H43 ⟨g43, rfl, st43, ge43, at43⟩
     have nx_H43 := st43.nx
     replace hle := hle.st st43 (fun k hk => ⟨by omega, trivial⟩)
     replace lst1 := lst1.sA st43
     replace at23 := st43.s at23
     replace at36 := st43.s at36
     replace at42 := st43.s at42
     have lt_at43 := GHeap.ltg at43
     replace h := base_h.mono hle
     clear c0 c1 c2 c3 c4 i1 i2 i3 i4 hm hi
     obtain ⟨c0, c1, c2, c3, c4, i1, i2, i3, i4⟩ := h.get
     have hm : MemN _ _ _ _ _ := ⟨rfl, h.1⟩
     have hi := h.2
     clear i23
     have i23 := Ints.of_get at23
     clear i36
     have i36 := Ints.of_get at36
     refine .mv rfl (.nil (hK7 _ _ (.region ?_)))
     refine .q rfl (.add rfl rfl rfl (by omega) (by omega)) ?_
     refine .mv rfl (.nil ?_)
     refine hKL1 ((k + 1, _, _)) _ _ ?_ ?_ ⟨rfl, rfl, rfl, rfl, rfl, rfl, trivial⟩
     ·
      refine ⟨lst1, by (rw [filt_T (by omega) hfT]; assumption), by omega, by (rw [filt_T (by omega) hfT] <;> (first | omega | (simp only [List.length_append, List.length_cons, List.length_nil] <;> omega))), ?_⟩
      omega
     (dsimp only; omega)
    have hfF : (fun m => B (c.Mono m) && c.belB f m) ((c.intoL (c.tgt.getD f.toNat 0)).getD k 0) = false := by
      show (_ && c.belB f _) = false
      unfold Cat.belB
      rw [Bool.and_eq_false_iff]
      exact .inr (decide_eq_false (by simp only [sps] at h39; omega))
    refine .skip ?_
    refine hK7 _ _ (.region ?_)
    refine .q rfl (.add rfl rfl rfl (by omega) (by omega)) ?_
    refine .mv rfl (.nil ?_)
    refine hKL1 ((k + 1, _, _)) _ _ ?_ ?_ ⟨rfl, rfl, rfl, rfl, rfl, rfl, trivial⟩
    ·
     refine ⟨lst1, by (rw [filt_F (by omega) hfF]; assumption), by omega, by (rw [filt_F (by omega) hfF] <;> (first | omega | (simp only [List.length_append, List.length_cons, List.length_nil] <;> omega))), ?_⟩
     omega
    (dsimp only; omega)
   have hfF : (fun m => B (c.Mono m) && c.belB f m) ((c.intoL (c.tgt.getD f.toNat 0)).getD k 0) = false := by show (_ && _) = false; rw [h32, Bool.false_and]
   refine .z rfl (.z rfl (.z rfl (.z rfl (.z rfl (.z rfl (.q rfl (.pickF rfl rfl) (.nil (hK9 _ _ ?_))))))))
   refine .condF rfl ?_
   refine .skip ?_
   refine hK7 _ _ (.region ?_)
   refine .q rfl (.add rfl rfl rfl (by omega) (by omega)) ?_
   refine .mv rfl (.nil ?_)
   refine hKL1 ((k + 1, _, _)) _ _ ?_ ?_ ⟨rfl, rfl, rfl, rfl, rfl, rfl, trivial⟩
   ·
    refine ⟨lst1, by (rw [filt_F (by omega) hfF]; assumption), by omega, by (rw [filt_F (by omega) hfF] <;> (first | omega | (simp only [List.length_append, List.length_cons, List.length_nil] <;> omega))), ?_⟩
    omega
   (dsimp only; omega)
  try simp only [sps] at h26
  refine .exit ?_
  refine hK3 _ _ (.seq (fun K10 hK10 => ?_))
  refine .label ?_
  refine hK10 _ _ (.seq (fun K11 hK11 => .seq (fun K12 hK12 => .region ?_)))
  obtain rfl : k = (c.intoL (c.tgt.getD f.toNat 0)).length := by omega
  obtain rfl := ln_L7
  have hms : ((c.intoL (c.tgt.getD f.toNat 0)).take (c.intoL (c.tgt.getD f.toNat 0)).length).filter (fun m => B (c.Mono m) && c.belB f m) = c.facL f := by
    rw [List.take_length]; unfold Cat.intoL Cat.facL; rw [filter_filtN]; rfl
  rw [hms] at at_L7 hfl
  rw [hms]
  refine .mv rfl (.q rfl (.len sl_24_A rfl) (.mv rfl (.nil (hK12 _ _ ?_))))
  refine .block ?_
  refine .loopR (σ := Nat) [(0, some _), (1, some _), (7, some _), (45, some _), (46, some _)] (fun i => [(47, some (.int .i64 (i : Int)))]) (fun i H' => St [] HL1 H' ∧ i ≤ (c.facL f).length ∧ ∀ a, a < i → c.leB f ((c.facL f).getD a 0) = false) (fun i => (c.facL f).length - i) (0) ⟨rfl, rfl, rfl, rfl, rfl, trivial⟩ ⟨rfl, trivial⟩ ?_ ?_
  ·
   refine ⟨.refl _ _, ?_⟩
   exact ⟨by omega, fun a h => by omega⟩
  rintro i HL2 ⟨lst2, hI⟩ KL2 hKL2
  refine .forget (fr' := [(47, some (.int .i64 (i : Int))), (0, some _), (1, some _), (7, some _), (45, some _), (46, some _)]) ⟨rfl, rfl, rfl, rfl, rfl, rfl, trivial⟩ ?_
  have nx_HL2 := lst2.nx
  replace hle := hle.st lst2 (fun k hk => trivial)
  replace lst1 := lst1.sA lst2
  replace at23 := lst2.same _ _ trivial at23
  replace at_L7 := lst2.same _ _ trivial at_L7
  replace h := base_h.mono hle
  clear c0 c1 c2 c3 c4 i1 i2 i3 i4 hm hi
  obtain ⟨c0, c1, c2, c3, c4, i1, i2, i3, i4⟩ := h.get
  have hm : MemN _ _ _ _ _ := ⟨rfl, h.1⟩
  have hi := h.2
  clear i23
  have i23 := Ints.of_get at23
  obtain ⟨hi, hno⟩ := hI
  refine .seq (fun K13 hK13 => .region (.q rfl (.cmp rfl rfl rfl) (.nil (hK13 _ _ (.seq (fun K14 hK14 => ?_))))))
  refine .cond rfl (fun h48 => ?_) (fun h48 => ?_)
  ·
   simp only [sps] at h48
   obtain ⟨⟨m0, m1, m2, m3⟩, m4⟩ := Cat.mem_facL.1 (getD_mem (xs := c.facL f) (i := i) (by omega))
   have m5 : 0 < (c.lif f ((c.facL f).getD i 0)).length := by unfold Cat.belB at m4; simpa using m4
   refine .skip ?_
   refine hK14 _ _ (.seq (fun K15 hK15 => ?_))
   refine .block ?_
   refine .seq (fun K16 hK16 => .region ?_)
   refine .q rfl (.idxN sl_24_A (by first | assumption | exact SlA.of_row at_L7 (by first | rfl | (simp; done) | (simp <;> omega))) rfl rfl (by omega)) ?_
   refine .q rfl (.loadI on_2_A (by first | assumption | exact Ints.of_get at_L7) rfl (by omega)) ?_
   refine .mv rfl (.nil (hK16 _ _ (.seq (fun K17 hK17 => .seq (fun K18 hK18 => .region (.mv rfl (.q rfl (.len sl_24_A rfl) (.mv rfl (.nil (hK18 _ _ ?_))))))))))
   refine .block ?_
   refine .loopR (σ := Nat) [(0, some _), (1, some _), (7, some _), (11, some _), (45, some _), (46, some _), (47, some _), (51, some _), (52, some _)] (fun k => [(53, some (.int .i64 (k : Int)))]) (fun k H' => St [] HL2 H' ∧ k ≤ (c.facL f).length ∧ ∀ a, a < k → c.belB ((c.facL f).getD i 0) ((c.facL f).getD a 0) = true) (fun k => (c.facL f).length - k) (0) ⟨rfl, rfl, rfl, rfl, rfl, rfl, rfl, rfl, rfl, trivial⟩ ⟨rfl, trivial⟩ ?_ ?_
   ·
    refine ⟨.refl _ _, ?_⟩
    exact ⟨by omega, fun a h => by omega⟩
   rintro k HL3 ⟨lst3, hI⟩ KL3 hKL3
   refine .forget (fr' := [(53, some (.int .i64 (k : Int))), (0, some _), (1, some _), (7, some _), (11, some _), (45, some _), (46, some _), (47, some _), (51, some _), (52, some _)]) ⟨rfl, rfl, rfl, rfl, rfl, rfl, rfl, rfl, rfl, rfl, trivial⟩ ?_
   have nx_HL3 := lst3.nx
   replace hle := hle.st lst3 (fun k hk => trivial)
   replace lst1 := lst1.sA lst3
   replace lst2 := lst2.sA lst3
   replace at23 := lst3.same _ _ trivial at23
   replace at_L7 := lst3.same _ _ trivial at_L7
   replace h := base_h.mono hle
   clear c0 c1 c2 c3 c4 i1 i2 i3 i4 hm hi
   obtain ⟨c0, c1, c2, c3, c4, i1, i2, i3, i4⟩ := h.get
   have hm : MemN _ _ _ _ _ := ⟨rfl, h.1⟩
   have hi := h.2
   clear i23
   have i23 := Ints.of_get at23
   obtain ⟨hk, hall⟩ := hI
   refine .seq (fun K19 hK19 => .region (.q rfl (.cmp rfl rfl rfl) (.nil (hK19 _ _ (.seq (fun K20 hK20 => ?_))))))
   refine .cond rfl (fun h54 => ?_) (fun h54 => ?_)
   ·
    simp only [sps] at h54
    obtain ⟨⟨n0, n1, n2, n3⟩, n4⟩ := Cat.mem_facL.1 (getD_mem (xs := c.facL f) (i := k) (by omega))
    refine .skip ?_
    refine hK20 _ _ (.seq (fun K21 hK21 => ?_))
    refine .block ?_
    refine .seq (fun K22 hK22 => .region ?_)
    refine .q rfl (.idxN sl_24_A (by first | assumption | exact SlA.of_row at_L7 (by first | rfl | (simp; done) | (simp <;> omega))) rfl rfl (by omega)) ?_
    refine .q rfl (.loadI on_2_A (by first | assumption | exact Ints.of_get at_L7) rfl (by omega)) ?_
    refine .mv rfl (.nil (hK22 _ _ (.seq (fun K23 hK23 => .region (.mv rfl (.mv rfl (.mv rfl ?_)))))))
    refine .call rfl rfl rfl rfl @Try.call74 rfl (lifts_c) ?_
    rintro _ H60 ⟨le60, g60, rfl, at60, ge60⟩
    have nx_H60 := le60.1
    replace hle := hle.trans le60
    replace lst1 := lst1.le le60
    replace lst2 := lst2.le le60
    replace lst3 := lst3.le le60
    replace at23 := le60.2 _ _ at23
    replace at_L7 := le60.2 _ _ at_L7
    have lt_at60 := GHeap.ltg at60
    replace h := base_h.mono hle
    clear c0 c1 c2 c3 c4 i1 i2 i3 i4 hm hi
    obtain ⟨c0, c1, c2, c3, c4, i1, i2, i3, i4⟩ := h.get
    have hm : MemN _ _ _ _ _ := ⟨rfl, h.1⟩
    have hi := h.2
    clear i23
    have i23 := Ints.of_get at23
    have i60 := Ints.of_get at60
    refine .q rfl (.len sl_24_A rfl) (.q rfl (.cmp rfl rfl rfl) (.nil (hK23 _ _ ?_)))
    refine .cond rfl (fun h62 => ?_) (fun h62 => ?_)
    ·
     have hlf : c.leB f ((c.facL f).getD i 0) = false := Bool.eq_false_iff.2 fun q => by
       have := Cat.leB_iff.1 q _ (getD_mem (xs := c.facL f) (i := k) (by omega))
       unfold Cat.belB at this
       simp only [sps] at h62 this
       omega
     refine .exit ?_
     refine hK15 _ _ (.region ?_)
     refine .q rfl (.add rfl rfl rfl (by omega) (by omega)) ?_
     refine .mv rfl (.nil ?_)
     refine hKL2 (i + 1) _ _ ?_ ?_ ⟨rfl, rfl, rfl, rfl, rfl, rfl, trivial⟩
     ·
      refine ⟨lst2, ?_⟩
      refine ⟨by omega, fun a ha => ?_⟩
      by_cases e : a < i
      · exact hno a e
      · obtain rfl : a = i := by omega
        exact hlf
     omega
    try simp only [sps] at h62
    refine .skip ?_
    refine hK21 _ _ (.region ?_)
    refine .q rfl (.add rfl rfl rfl (by omega) (by omega)) ?_
    refine .mv rfl (.nil ?_)
    refine hKL3 (k + 1) _ _ ?_ ?_ ⟨rfl, rfl, rfl, rfl, rfl, rfl, rfl, rfl, rfl, rfl, trivial⟩
    ·
     refine ⟨lst3, ?_⟩
     refine ⟨by omega, fun a ha => ?_⟩
     by_cases e : a < k
     · exact hall a e
     · obtain rfl : a = k := by omega
       unfold Cat.belB
       exact decide_eq_true (by omega)
    omega
   try simp only [sps] at h54
   refine .exit ?_
   refine hK17 _ _ (.seq (fun K24 hK24 => ?_))
   refine .regionD mo_B (.q 0 (.q 1 (.q 2 (.q 3 (.c 4 1 (.q 5 (.q 6 (.q 7 (.q 8 (.q 9 (.done))))))))))) (by kernel_rfl) ?_
   obtain rfl : k = (c.facL f).length := by omega
   have hlt : c.leB f ((c.facL f).getD i 0) = true := Cat.leB_iff.2 fun x hx => by
     obtain ⟨a, h1, rfl⟩ := mem_getD hx
     exact hall a h1
   have him : c.imgI f = (c.facL f).getD i 0 := firstIn_some (by omega) hlt hno
   refine .mv rfl rfl (.mv rfl rfl (.mv rfl rfl (.mv rfl rfl ?_)))
   refine .call1 rfl rfl rfl rfl rfl @Try.call74 rfl (lifts_c) ?_
   rintro _ H68 ⟨le68, g68, rfl, at68, ge68⟩
   have hbl := le68
   refine ⟨hbl, ?_⟩
   have nx_H68 := le68.1
   replace hle := hle.trans le68
   replace lst1 := lst1.le le68
   replace lst2 := lst2.le le68
   replace at23 := le68.2 _ _ at23
   replace at_L7 := le68.2 _ _ at_L7
   have lt_at68 := GHeap.ltg at68
   replace h := base_h.mono hle
   clear c0 c1 c2 c3 c4 i1 i2 i3 i4 hm hi
   obtain ⟨c0, c1, c2, c3, c4, i1, i2, i3, i4⟩ := h.get
   have hm : MemN _ _ _ _ _ := ⟨rfl, h.1⟩
   have hi := h.2
   clear i23
   have i23 := Ints.of_get at23
   have i68 := Ints.of_get at68
   refine .m rfl rfl rfl rfl hbl (.idxN (j := 0) sl_24_A (by first | assumption | exact SlA.of_row at68 (by first | rfl | (simp; done) | (simp <;> omega))) rfl rfl (by omega)) ?_
   refine .q rfl (.loadI on_2_A (by first | assumption | exact Ints.of_get at68) rfl (by omega)) ?_
   refine .mv rfl rfl (.mv rfl rfl (.mv rfl rfl ?_))
   refine .done ?_
   refine hK24 _ _ ?_
   refine .ret ?_
   refine hret _ _ ?_
   refine ⟨_, _, _, rfl, rfl, rfl, ?_⟩
   obtain ⟨y1, y2, y3⟩ := Cat.im_yes hk0 (show ¬ c.imgI f < 0 by rw [him]; omega)
   refine ⟨?_, hle⟩
   rw [y1, y2]
   unfold Cat.imgE
   rw [decide_eq_true (show 0 ≤ c.imgI f by rw [him]; exact m0), him]
  try simp only [sps] at h48
  refine .exit ?_
  refine hK11 _ _ (.seq (fun K25 hK25 => .region (.mv rfl (.mv rfl (.mv rfl (.nil (hK25 _ _ ?_)))))))
  refine .ret ?_
  refine hret _ _ ?_
  refine ⟨_, _, _, rfl, rfl, rfl, ?_⟩
  obtain rfl : i = (c.facL f).length := by omega
  have him : c.imgI f = -1 := firstIn_none hno
  obtain ⟨y1, y2, y3⟩ := Cat.im_no hk0 (show c.imgI f < 0 by omega)
  refine ⟨?_, hle⟩
  rw [y1, y2, decide_eq_false (show ¬ 0 ≤ c.imgI f by omega)]
theorem imageOfArrow_c {c : Cat} {p : CatP} {f : Int} {H : GHeap} (hin : c.In H p := by assumption) (hs : c.Small := by assumption) :
    GCalls Try.prog 44 [.agg (c.cells p).toArray, .int .i64 f] H (Ret (.tuple #[.int .i64 (c.imM f), .int .i64 (c.imE f), .int .i64 (c.imK f)]) H) := by
  refine GCalls.ret rfl ?_
  refine GCalls.body (N := 27) (rs := [.tmp 4, .tmp 5, .tmp 6]) Try.func44 rfl rfl rfl rfl (fun Qx hret hend => ?_)
  refine .fg [0, 1] rfl ?_
  have hle := GHeap.Le.refl H
  have base_hin := hin
  refine .seq (fun K1 hK1 => .region ?_)
  refine .R rfl (.boxR rfl sz_27_D rfl) ?_
  rintro _ H2 ⟨g2, rfl, le2, ge2, at2⟩
  replace hle := hle.trans le2
  replace hin := base_hin.mono hle
  have hb2 : Cat.At _ g2 0 c p := ⟨Mem.of_get at2, hin⟩
  refine .mv rfl (.mv rfl (.mv rfl (.nil (hK1 _ _ (.seq (fun K2 hK2 => .seq (fun K3 hK3 => .region (.mv rfl ?_))))))))
  refine .R rfl (.litA rfl sl_24_A ze_2_L rfl rfl rfl rfl) ?_
  rintro _ H12 ⟨g12, rfl, le12, ge12, at12⟩
  replace hle := hle.trans le12
  replace at2 := le12.2 _ _ at2
  replace hin := base_hin.mono hle
  clear hb2
  have hb2 : Cat.At _ g2 0 c p := ⟨Mem.of_get at2, hin⟩
  refine .callQ rfl rfl rfl rfl @Try.call51 rfl (arrowCode_c (xs := [f]) (hx := Ints.of_get (by assumption)) (hl := by simp)) ?_
  refine .mv rfl (.nil (hK3 _ _ (.seq (fun K4 hK4 => .region (.mv rfl (.q rfl (.cmp rfl rfl rfl) (.nil (hK4 _ _ ?_))))))))
  refine .cond rfl (fun h15 => ?_) (fun h15 => ?_)
  ·
   try simp only [sps] at h15
   refine .seq (fun K5 hK5 => .region (.mv rfl (.mv rfl (.mv rfl (.mv rfl (.nil (hK5 _ _ ?_)))))))
   refine .ret ?_
   refine hret _ _ ?_
   refine ⟨_, _, _, rfl, rfl, rfl, ?_⟩
   obtain ⟨y1, y2, y3⟩ := Cat.im_err h15
   rw [y1, y2, y3]; exact ⟨rfl, hle⟩
  simp only [sps] at h15
  obtain ⟨hI, f0, f1⟩ := Cat.code_one.1 h15
  refine .skip ?_
  refine hK2 _ _ (.seq (fun K6 hK6 => .region (.mv rfl ?_)))
  refine .callQ rfl rfl rfl rfl @Try.call78 rfl (imageArrow_c) ?_
  refine .mv rfl (.q rfl (.extract rfl rfl) (.q rfl (.extract rfl rfl) (.q rfl (.extract rfl rfl) (.mv rfl (.mv rfl (.mv rfl (.nil (hK6 _ _ (.seq (fun K7 hK7 => .seq (fun K8 hK8 => .region (.mv rfl (.q rfl (.not rfl) (.nil (hK8 _ _ ?_)))))))))))))))
  refine .cond rfl (fun h24 => ?_) (fun h24 => ?_)
  ·
   try simp only [sps] at h24
   refine .seq (fun K9 hK9 => .region (.mv rfl (.mv rfl (.mv rfl (.nil (hK9 _ _ ?_))))))
   refine .ret ?_
   refine hret _ _ ?_
   refine ⟨_, _, _, rfl, rfl, rfl, ?_⟩
   obtain ⟨y1, y2, y3⟩ := Cat.im_no h15 (by omega)
   rw [y1, y2, y3]; exact ⟨rfl, hle⟩
  try simp only [sps] at h24
  refine .skip ?_
  refine hK7 _ _ (.seq (fun K10 hK10 => .region (.mv rfl (.mv rfl (.mv rfl (.mv rfl (.mv rfl (.nil (hK10 _ _ ?_)))))))))
  refine .ret ?_
  refine hret _ _ ?_
  refine ⟨_, _, _, rfl, rfl, rfl, ?_⟩
  obtain ⟨-, -, y3⟩ := Cat.im_yes h15 (by omega)
  rw [y3]; exact ⟨rfl, hle⟩
theorem l18Lifts_c {c : Cat} {p : CatP} {f k : Int} {H : GHeap} (hin : c.In H p := by assumption) (hS : c.Shape := by assumption) (f0 : 0 ≤ f := by omega) (f1 : f < c.src.length := by omega) (k0 : 0 ≤ k := by omega) (k1 : k < c.src.length := by omega) :
    GCalls Try.prog 105 [.agg (c.cells p).toArray, .int .i64 f, .int .i64 k] H (Ret (.bool (c.belB f k)) H) := by
  refine GCalls.ret rfl ?_
  have q1 := hS.tl
  have q2 := hS.n40
  have hhl := c.hom_le (c.src.getD f.toNat 0) (c.src.getD k.toNat 0)
  refine GCalls.body (N := 36) (rs := [.tmp 6]) Try.func105 rfl rfl rfl rfl (fun Qx hret hend => ?_)
  refine .fg [0, 1, 2] rfl ?_
  have hle := GHeap.Le.refl H
  have base_hin := hin
  refine .seq (fun K1 hK1 => .region ?_)
  refine .R rfl (.boxR rfl sz_27_D rfl) ?_
  rintro _ H3 ⟨g3, rfl, le3, ge3, at3⟩
  replace hle := hle.trans le3
  replace hin := base_hin.mono hle
  have hb3 : Cat.At _ g3 0 c p := ⟨Mem.of_get at3, hin⟩
  obtain ⟨-, c13, -, -, -, i13, -, -, -⟩ := hb3.get
  have hi3 := hb3.2
  refine .mv rfl (.nil (hK1 _ _ (.seq (fun K2 hK2 => ?_))))
  refine .regionD mo_B (.q 0 (.q 1 (.q 2 (.q 3 (.q 4 (.q 5 (.q 6 (.q 7 (.q 8 (.q 9 (.q 10 (.c 11 0 (.q 12 (.done)))))))))))))) (by kernel_rfl) ?_
  refine .q rfl (.loadM ag_27_D rfl ⟨rfl, Mem.of_get at3⟩) ?_
  refine .q rfl (.fieldAddr fo_27_1_B rfl) ?_
  refine .q rfl (.load on_24_B rfl (by first | assumption | exact Mem.of_get at3 1 _ rfl)) ?_
  refine .mv rfl rfl ?_
  refine .q rfl (.idx1 sl_24_A (by assumption) rfl rfl (by omega) (by omega)) ?_
  refine .q rfl (.loadI on_2_A (by assumption) rfl (by omega)) ?_
  refine .q rfl (.fieldAddr fo_27_1_B rfl) ?_
  refine .q rfl (.load on_24_B rfl (by first | assumption | exact Mem.of_get at3 1 _ rfl)) ?_
  refine .mv rfl rfl ?_
  refine .q rfl (.idx1 sl_24_A (by assumption) rfl rfl (by omega) (by omega)) ?_
  refine .q rfl (.loadI on_2_A (by assumption) rfl (by omega)) ?_
  refine .call0 rfl rfl rfl rfl rfl @Try.call80 rfl (l02Hom_c) ?_
  rintro _ H20 ⟨le20, g20, rfl, at20, ge20⟩
  replace hle := hle.trans le20
  replace at3 := le20.2 _ _ at3
  replace hin := base_hin.mono hle
  clear hb3 c13 i13 hi3
  have hb3 : Cat.At _ g3 0 c p := ⟨Mem.of_get at3, hin⟩
  refine .mv rfl rfl ?_
  refine .done ?_
  refine hK2 _ _ (.seq (fun K3 hK3 => .seq (fun K4 hK4 => .region (.mv rfl (.nil (hK4 _ _ ?_))))))
  refine .block ?_
  refine .loopR (σ := Nat) [(1, some _), (2, some _), (3, some _), (7, some _)] (fun i => [(8, some (.int .i64 (i : Int)))]) (fun i H' => St [] H20 H' ∧ i ≤ (c.hom (c.src.getD f.toNat 0) (c.src.getD k.toNat 0)).length ∧ ∀ a, a < i → ¬ c.th ((c.hom (c.src.getD f.toNat 0) (c.src.getD k.toNat 0)).getD a 0) k = f) (fun i => (c.hom (c.src.getD f.toNat 0) (c.src.getD k.toNat 0)).length - i) (0) ⟨rfl, rfl, rfl, rfl, trivial⟩ ⟨rfl, trivial⟩ ?_ ?_
  ·
   refine ⟨.refl _ _, ?_⟩
   exact ⟨by omega, fun a h => by omega⟩
  rintro i HL1 ⟨lst1, hI⟩ KL1 hKL1
  refine .forget (fr' := [(8, some (.int .i64 (i : Int))), (1, some _), (2, some _), (3, some _), (7, some _)]) ⟨rfl, rfl, rfl, rfl, rfl, trivial⟩ ?_
  replace hle := hle.st lst1 (fun k hk => trivial)
  replace at3 := lst1.same _ _ trivial at3
  replace at20 := lst1.same _ _ trivial at20
  replace hin := base_hin.mono hle
  clear hb3
  have hb3 : Cat.At _ g3 0 c p := ⟨Mem.of_get at3, hin⟩
  have hi3 := hb3.2
  have i20 := Ints.of_get at20
  obtain ⟨hi, hno⟩ := hI
  refine .seq (fun K5 hK5 => .seq (fun K6 hK6 => .region (.mv rfl (.mv rfl (.q rfl (.len sl_24_A rfl) (.q rfl (.cmp rfl rfl rfl) (.nil (hK6 _ _ ?_))))))))
  refine .cond rfl (fun h24 => ?_) (fun h24 => ?_)
  ·
   simp only [sps] at h24
   obtain ⟨j, j1, -, -, j4⟩ := c.hom_get (x := (c.src.getD f.toNat 0)) (y := (c.src.getD k.toNat 0)) (i := i) (by omega)
   refine .skip ?_
   refine hK5 _ _ (.seq (fun K7 hK7 => ?_))
   refine .block ?_
   refine .seq (fun K8 hK8 => ?_)
   refine .regionD mo_B (.q 0 (.q 1 (.q 2 (.q 3 (.q 4 (.q 5 (.q 7 (.c 6 1 (.q 8 (.done)))))))))) (by kernel_rfl) ?_
   refine .q rfl (.loadM ag_27_D rfl ⟨rfl, Mem.of_get at3⟩) ?_
   refine .mv rfl rfl (.mv rfl rfl ?_)
   refine .q rfl (.idxN sl_24_A (by first | assumption | exact SlA.of_row at20 (by first | rfl | (simp; done) | (simp <;> omega))) rfl rfl (by omega)) ?_
   refine .q rfl (.loadI on_2_A (by first | assumption | exact Ints.of_get at20) rfl (by omega)) ?_
   refine .mv rfl rfl (.mv rfl rfl ?_)
   refine .callQ1 rfl rfl rfl rfl rfl @Try.call81 rfl (l02Then_c) (.refl _) ?_
   refine .q rfl (.cmp rfl rfl rfl) ?_
   refine .done ?_
   refine hK8 _ _ ?_
   refine .cond rfl (fun h35 => ?_) (fun h35 => ?_)
   ·
    try simp only [sps] at h35
    refine .seq (fun K9 hK9 => .region (.mv rfl (.nil (hK9 _ _ ?_))))
    refine .ret ?_
    refine hret _ _ ?_
    refine ⟨_, rfl, ?_⟩
    exact ⟨congrArg _ (Cat.belB_of (i := i) (by show i < (c.hom (c.src.getD f.toNat 0) (c.src.getD k.toNat 0)).length; omega) h35), hle⟩
   try simp only [sps] at h35
   refine .skip ?_
   refine hK7 _ _ (.region (.mv rfl ?_))
   refine .q rfl (.add rfl rfl rfl (by omega) (by omega)) ?_
   refine .mv rfl (.nil ?_)
   refine hKL1 (i + 1) _ _ ?_ ?_ ⟨rfl, rfl, rfl, rfl, rfl, trivial⟩
   ·
    refine ⟨lst1, ?_⟩
    refine ⟨by omega, fun a ha => ?_⟩
    by_cases e : a < i
    · exact hno a e
    · obtain rfl : a = i := by omega
      exact h35
   omega
  try simp only [sps] at h24
  refine .exit ?_
  refine hK3 _ _ (.seq (fun K10 hK10 => .region (.mv rfl (.nil (hK10 _ _ ?_)))))
  refine .ret ?_
  refine hret _ _ ?_
  refine ⟨_, rfl, ?_⟩
  obtain rfl : i = (c.hom (c.src.getD f.toNat 0) (c.src.getD k.toNat 0)).length := by omega
  exact ⟨congrArg _ (Cat.belB_no hno), hle⟩
set_option maxHeartbeats 4000000 in
theorem l18Through_c {c : Cat} {p : CatP} {f m : Int} {H : GHeap} (hin : c.In H p := by assumption) (hs : c.Small := by assumption) (hS : c.Shape := by assumption) (f0 : 0 ≤ f := by omega) (f1 : f < c.src.length := by omega) (m0 : 0 ≤ m := by omega) (m1 : m < c.src.length := by omega) :
    GCalls Try.prog 82 [.agg (c.cells p).toArray, .int .i64 f, .int .i64 m] H (Ret (.bool (c.leB f m)) H) := by
  refine GCalls.ret rfl ?_
  have q1 := hS.tl
  have q2 := hS.n40
  refine GCalls.body (N := 44) (rs := [.tmp 6]) Try.func82 rfl rfl rfl rfl (fun Qx hret hend => ?_)
  refine .fg [0, 1, 2] rfl ?_
  have hle := GHeap.Le.refl H
  have base_hin := hin
  refine .seq (fun K1 hK1 => .region ?_)
  refine .R rfl (.boxR rfl sz_27_D rfl) ?_
  rintro _ H3 ⟨g3, rfl, le3, ge3, at3⟩
  replace hle := hle.trans le3
  replace hin := base_hin.mono hle
  have hb3 : Cat.At _ g3 0 c p := ⟨Mem.of_get at3, hin⟩
  obtain ⟨-, c13, c23, -, -, -, i23, -, -⟩ := hb3.get
  have hi3 := hb3.2
  refine .mv rfl (.nil (hK1 _ _ (.seq (fun K2 hK2 => .seq (fun K3 hK3 => .region (.mv rfl (.nil (hK3 _ _ ?_))))))))
  refine .block ?_
  refine .loopR (σ := Nat) [(1, some _), (2, some _), (3, some _)] (fun k => [(7, some (.int .i64 (k : Int)))]) (fun k H' => H3 = H' ∧ k ≤ c.src.length ∧ ∀ a : Nat, a < k → c.facB f a = true → c.belB m a = true) (fun k => c.src.length - k) (0) ⟨rfl, rfl, rfl, trivial⟩ ⟨rfl, trivial⟩ ?_ ?_
  ·
   refine ⟨rfl, ?_⟩
   exact ⟨by omega, fun a h => by omega⟩
  rintro k _ ⟨rfl, hI⟩ KL1 hKL1
  refine .forget (fr' := [(7, some (.int .i64 (k : Int))), (1, some _), (2, some _), (3, some _)]) ⟨rfl, rfl, rfl, rfl, trivial⟩ ?_
  obtain ⟨hk, hall⟩ := hI
  refine .seq (fun K4 hK4 => .seq (fun K5 hK5 => .region (.mv rfl (.q rfl (.fieldAddr fo_27_1_B rfl) ?_))))
  refine .q rfl (.load on_24_B rfl (by first | assumption | exact Mem.of_get at3 1 _ rfl)) ?_
  refine .q rfl (.len sl_24_A rfl) (.q rfl (.cmp rfl rfl rfl) (.nil (hK5 _ _ ?_)))
  refine .cond rfl (fun h12 => ?_) (fun h12 => ?_)
  ·
   simp only [sps] at h12
   refine .skip ?_
   refine hK4 _ _ (.seq (fun K6 hK6 => ?_))
   refine .block ?_
   refine .seq (fun K7 hK7 => .seq (fun K8 hK8 => ?_))
   refine .regionD mo_B (.q 0 (.q 1 (.q 2 (.q 3 (.q 4 (.q 5 (.q 6 (.q 7 (.q 8 (.q 9 (.q 10 (.q 11 (.q 12 (.q 13 (.c 14 0 (.q 15 (.q 16 (.q 17 (.q 18 (.q 19 (.q 20 (.c 21 0 (.q 22 (.q 23 (.done))))))))))))))))))))))))) (by kernel_rfl) ?_
   refine .cut [(1, some _), (2, some _), (3, some _), (7, some _), (8, some _), (9, some _), (10, some _), (11, some _), (12, some _)] ⟨rfl, rfl, rfl, rfl, rfl, rfl, rfl, rfl, rfl, trivial⟩ (fun rest fr' H' => ∃ e : Bool, Sub ((38, some (.bool e)) :: rest) fr' ∧ H3 = H' ∧ e = !(c.facB f k)) ?_ ?_
   ·
    refine .q rfl (.fieldAddr fo_27_2_B rfl) ?_
    refine .q rfl (.load on_24_B rfl (by first | assumption | exact Mem.of_get at3 2 _ rfl)) ?_
    refine .mv rfl rfl ?_
    refine .q rfl (.idxN sl_24_A (by assumption) rfl rfl (by omega)) ?_
    refine .q rfl (.loadI on_2_A (by assumption) rfl (by omega)) ?_
    refine .q rfl (.fieldAddr fo_27_2_B rfl) ?_
    refine .q rfl (.load on_24_B rfl (by first | assumption | exact Mem.of_get at3 2 _ rfl)) ?_
    refine .mv rfl rfl ?_
    refine .q rfl (.idx1 sl_24_A (by assumption) rfl rfl (by omega) (by omega)) ?_
    refine .q rfl (.loadI on_2_A (by assumption) rfl (by omega)) ?_
    refine .q rfl (.cmp rfl rfl rfl) (.mv rfl rfl ?_)
    refine .split (fun h26 => ?_) (fun h26 => ?_)
    ·
     try simp only [sps] at h26
     refine .z rfl (.z rfl (.sgc rfl rfl rfl rfl rfl rfl (.z rfl (.q rfl (.pickT rfl rfl) (.mv rfl rfl (.z rfl (.z rfl (.z rfl (.sgc rfl rfl rfl rfl rfl rfl (.z rfl (.q rfl (.pickT rfl rfl) ?_)))))))))))
     refine .done ?_
     refine ⟨_, ⟨rfl, rfl, rfl, rfl, rfl, rfl, rfl, rfl, rfl, rfl, trivial⟩, rfl, ?_⟩
     unfold Cat.facB; rw [decide_eq_false h26, Bool.false_and]; rfl
    try simp only [sps] at h26
    refine .qg rfl (.loadM ag_27_D rfl ⟨rfl, Mem.of_get at3⟩) ?_
    refine .qg rfl (.move rfl) ?_
    refine .callQ0g rfl rfl rfl rfl rfl rfl rfl @Try.call60 rfl (l05Mono_c) ?_
    refine .qg rfl (.not rfl) (.q rfl (.pickF rfl rfl) (.mv rfl rfl ?_))
    refine .split (fun h32 => ?_) (fun h32 => ?_)
    ·
     have h32v : ¬ c.Mono k := by simp only [sps] at h32; exact h32
     refine .z rfl (.z rfl (.z rfl (.sgc rfl rfl rfl rfl rfl rfl (.z rfl (.q rfl (.pickT rfl rfl) ?_)))))
     refine .done ?_
     refine ⟨_, ⟨rfl, rfl, rfl, rfl, rfl, rfl, rfl, rfl, rfl, rfl, trivial⟩, rfl, ?_⟩
     unfold Cat.facB; rw [B_false h32v, Bool.false_and, Bool.and_false]; rfl
    have h32v : c.Mono k := by simp only [sps] at h32; exact h32
    refine .qg rfl (.loadM ag_27_D rfl ⟨rfl, Mem.of_get at3⟩) ?_
    refine .qg rfl (.move rfl) (.qg rfl (.move rfl) ?_)
    refine .callQ0g rfl rfl rfl rfl rfl rfl rfl @Try.call105 rfl (l18Lifts_c) ?_
    refine .qg rfl (.not rfl) (.q rfl (.pickF rfl rfl) ?_)
    refine .done ?_
    refine ⟨_, ⟨rfl, rfl, rfl, rfl, rfl, rfl, rfl, rfl, rfl, rfl, trivial⟩, rfl, ?_⟩
    unfold Cat.facB; rw [decide_eq_true h26, B_true h32v, Bool.true_and, Bool.true_and]
   rintro frJ4 _ ⟨e, hsubJ4, rfl, hJ4⟩
   refine hK8 _ _ ?_
   refine .forget hsubJ4 ?_
   refine .cond rfl (fun h38 => ?_) (fun h38 => ?_)
   ·
    try simp only [sps] at h38
    refine .exit ?_
    refine hK6 _ _ (.region (.mv rfl ?_))
    refine .q rfl (.add rfl rfl rfl (by omega) (by omega)) ?_
    refine .mv rfl (.nil ?_)
    refine hKL1 (k + 1) _ _ ?_ ?_ ⟨rfl, rfl, rfl, rfl, trivial⟩
    ·
     refine ⟨rfl, ?_⟩
     refine ⟨by omega, fun a ha hfa => ?_⟩
     by_cases e : a < k
     · exact hall a e hfa
     · obtain rfl : a = k := by omega
       first | exact h43 | exact absurd (hJ4.symm.trans h38) (by rw [hfa]; decide)
    omega
   try simp only [sps] at h38
   refine .skip ?_
   refine hK7 _ _ (.seq (fun K9 hK9 => .region ?_))
   refine .q rfl (.loadM ag_27_D rfl ⟨rfl, Mem.of_get at3⟩) ?_
   refine .mv rfl (.mv rfl ?_)
   refine .callQ rfl rfl rfl rfl @Try.call105 rfl (l18Lifts_c) ?_
   refine .q rfl (.not rfl) (.nil (hK9 _ _ ?_))
   refine .cond rfl (fun h43 => ?_) (fun h43 => ?_)
   ·
    try simp only [sps] at h43
    refine .seq (fun K10 hK10 => .region (.mv rfl (.nil (hK10 _ _ ?_))))
    refine .ret ?_
    refine hret _ _ ?_
    refine ⟨_, rfl, ?_⟩
    exact ⟨congrArg _ (Cat.leB_not (a := k) (by omega) (by have := hJ4.symm.trans h38; simpa using this) h43), hle⟩
   try simp only [sps] at h43
   refine .skip ?_
   refine hK6 _ _ (.region (.mv rfl ?_))
   refine .q rfl (.add rfl rfl rfl (by omega) (by omega)) ?_
   refine .mv rfl (.nil ?_)
   refine hKL1 (k + 1) _ _ ?_ ?_ ⟨rfl, rfl, rfl, rfl, trivial⟩
   ·
    refine ⟨rfl, ?_⟩
    refine ⟨by omega, fun a ha hfa => ?_⟩
    by_cases e : a < k
    · exact hall a e hfa
    · obtain rfl : a = k := by omega
      first | exact h43 | exact absurd (hJ4.symm.trans h38) (by rw [hfa]; decide)
   omega
  try simp only [sps] at h12
  refine .exit ?_
  refine hK2 _ _ (.seq (fun K11 hK11 => .region (.mv rfl (.nil (hK11 _ _ ?_)))))
  refine .ret ?_
  refine hret _ _ ?_
  refine ⟨_, rfl, ?_⟩
  exact ⟨congrArg _ (Cat.leB_all fun a ha => hall a (by omega)), hle⟩
theorem l02Arrows_c {c : Cat} {p : CatP} {a : Option Addr} {xs : List Int} {H : GHeap} (hin : c.In H p := by assumption) (hs : c.Small := by assumption) (hx : Ints H a xs := by assumption) (hl : xs.length ≤ 1048576 := by omega) :
    GCalls Try.prog 79 [.agg (c.cells p).toArray, .slice a xs.length xs.length] H (Ret (.int .i64 (c.code xs)) H) := by
  refine GCalls.ret rfl ?_
  refine GCalls.body (N := 14) (rs := [.tmp 4]) Try.func79 rfl rfl rfl rfl (fun Qx hret hend => ?_)
  refine .fg [0, 1] rfl ?_
  have hle := GHeap.Le.refl H
  have base_hin := hin
  have base_hx := hx
  refine .seq (fun K1 hK1 => .region ?_)
  refine .R rfl (.boxR rfl sz_27_D rfl) ?_
  rintro _ H2 ⟨g2, rfl, le2, ge2, at2⟩
  replace hle := hle.trans le2
  replace hin := base_hin.mono hle
  replace hx := base_hx.mono hle
  have hb2 : Cat.At _ g2 0 c p := ⟨Mem.of_get at2, hin⟩
  obtain ⟨-, c12, -, -, -, -, -, -, -⟩ := hb2.get
  have hi2 := hb2.2
  refine .mv rfl (.nil (hK1 _ _ (.seq (fun K2 hK2 => .seq (fun K3 hK3 => .region ?_)))))
  refine .q rfl (.loadM ag_27_D rfl ⟨rfl, Mem.of_get at2⟩) ?_
  refine .callQ rfl rfl rfl rfl @Try.call64 rfl (l02Is_c) ?_
  refine .q rfl (.not rfl) (.nil (hK3 _ _ ?_))
  refine .cond rfl (fun h7 => ?_) (fun h7 => ?_)
  ·
   try simp only [sps] at h7
   refine .seq (fun K4 hK4 => .region (.mv rfl (.nil (hK4 _ _ ?_))))
   refine .ret ?_
   refine hret _ _ ?_
   refine ⟨_, rfl, ?_⟩
   exact ⟨congrArg _ (Cat.code_not h7), hle⟩
  try simp only [sps] at h7
  refine .skip ?_
  refine hK2 _ _ (.seq (fun K5 hK5 => .seq (fun K6 hK6 => .region (.q rfl (.fieldAddr fo_27_1_B rfl) ?_))))
  refine .q rfl (.load on_24_B rfl (by first | assumption | exact Mem.of_get at2 1 _ rfl)) ?_
  refine .q rfl (.len sl_24_A rfl) (.mv rfl ?_)
  refine .callQ rfl rfl rfl rfl @Try.call104 rfl (l01Map_c) ?_
  refine .q rfl (.not rfl) (.nil (hK6 _ _ ?_))
  refine .cond rfl (fun h13 => ?_) (fun h13 => ?_)
  ·
   try simp only [sps] at h13
   refine .seq (fun K7 hK7 => .region (.mv rfl (.nil (hK7 _ _ ?_))))
   refine .ret ?_
   refine hret _ _ ?_
   refine ⟨_, rfl, ?_⟩
   exact ⟨congrArg _ (Cat.code_out h7 (by first | exact h13 | (rw [h13]; simp) | (simp only [sps] at h13 ⊢; exact h13))), hle⟩
  try simp only [sps] at h13
  refine .skip ?_
  refine hK5 _ _ (.seq (fun K8 hK8 => .region (.mv rfl (.nil (hK8 _ _ ?_)))))
  refine .ret ?_
  refine hret _ _ ?_
  refine ⟨_, rfl, ?_⟩
  exact ⟨congrArg _ (Cat.code_ok.2 ⟨h7, allIn_iff.2 h13⟩), hle⟩
set_option maxHeartbeats 4000000 in
theorem specImageOfArrow_c {c : Cat} {p : CatP} {f : Int} {H : GHeap} (hin : c.In H p := by assumption) (hs : c.Small := by assumption) :
    GCalls Try.prog 45 [.agg (c.cells p).toArray, .int .i64 f] H (Ret (.tuple #[.int .i64 (c.imM f), .int .i64 (c.imE f), .int .i64 (c.imK f)]) H) := by
  refine GCalls.ret rfl ?_
  refine GCalls.body (N := 80) (rs := [.tmp 4, .tmp 5, .tmp 6]) Try.func45 rfl rfl rfl rfl (fun Qx hret hend => ?_)
  refine .fg [0, 1] rfl ?_
  have hle := GHeap.Le.refl H
  have base_hin := hin
  refine .seq (fun K1 hK1 => .region ?_)
  refine .R rfl (.boxR rfl sz_27_D rfl) ?_
  rintro _ H2 ⟨g2, rfl, le2, ge2, at2⟩
  have nx_H2 := le2.1
  replace hle := hle.trans le2
  have lt_at2 := GHeap.ltg at2
  replace hin := base_hin.mono hle
  have hb2 : Cat.At _ g2 0 c p := ⟨Mem.of_get at2, hin⟩
  obtain ⟨c02, c12, c22, c32, c42, i12, i22, i32, i42⟩ := hb2.get
  have hm2 : MemN _ _ _ _ _ := ⟨rfl, hb2.1⟩
  have hi2 := hb2.2
  refine .mv rfl (.mv rfl (.mv rfl (.nil (hK1 _ _ (.seq (fun K2 hK2 => .region ?_))))))
  refine .q rfl (.loadM ag_27_D rfl ⟨rfl, Mem.of_get at2⟩) ?_
  refine .mv rfl ?_
  refine .R rfl (.litA rfl sl_24_A ze_2_L rfl rfl rfl rfl) ?_
  rintro _ H13 ⟨g13, rfl, le13, ge13, at13⟩
  have nx_H13 := le13.1
  replace hle := hle.trans le13
  replace at2 := le13.2 _ _ at2
  have lt_at13 := GHeap.ltg at13
  replace hin := base_hin.mono hle
  clear hb2 c02 c12 c22 c32 c42 i12 i22 i32 i42 hm2 hi2
  have hb2 : Cat.At _ g2 0 c p := ⟨Mem.of_get at2, hin⟩
  obtain ⟨c02, c12, c22, c32, c42, i12, i22, i32, i42⟩ := hb2.get
  have hm2 : MemN _ _ _ _ _ := ⟨rfl, hb2.1⟩
  have hi2 := hb2.2
  refine .callQ rfl rfl rfl rfl @Try.call79 rfl (l02Arrows_c (xs := [f]) (hx := Ints.of_get (by assumption)) (hl := by simp)) ?_
  refine .mv rfl (.nil (hK2 _ _ (.seq (fun K3 hK3 => .seq (fun K4 hK4 => .region (.mv rfl (.q rfl (.cmp rfl rfl rfl) (.nil (hK4 _ _ ?_)))))))))
  refine .cond rfl (fun h16 => ?_) (fun h16 => ?_)
  ·
   try simp only [sps] at h16
   refine .seq (fun K5 hK5 => .region (.mv rfl (.mv rfl (.mv rfl (.mv rfl (.nil (hK5 _ _ ?_)))))))
   refine .ret ?_
   refine hret _ _ ?_
   refine ⟨_, _, _, rfl, rfl, rfl, ?_⟩
   obtain ⟨y1, y2, y3⟩ := Cat.im_err h16
   rw [y1, y2, y3]; exact ⟨rfl, hle⟩
  simp only [sps] at h16
  obtain ⟨hIs, f0, f1⟩ := Cat.code_one.1 h16
  have hS := hIs.1
  have q1 := hS.tl
  have q2 := hS.n40
  refine .skip ?_
  refine hK3 _ _ (.seq (fun K6 hK6 => .seq (fun K7 hK7 => .region (.mv rfl (.nil (hK7 _ _ ?_))))))
  refine .block ?_
  refine .loopR (σ := Nat) [(1, some _), (2, some _)] (fun i => [(8, some (.int .i64 (i : Int)))]) (fun i H' => St [] H13 H' ∧ i ≤ c.src.length ∧ ∀ a : Nat, a < i → c.facB f a = true → c.leB f a = false) (fun i => c.src.length - i) (0) ⟨rfl, rfl, trivial⟩ ⟨rfl, trivial⟩ ?_ ?_
  ·
   refine ⟨.refl _ _, ?_⟩
   exact ⟨by omega, fun a h => by omega⟩
  rintro i HL1 ⟨lst1, hI⟩ KL1 hKL1
  refine .forget (fr' := [(8, some (.int .i64 (i : Int))), (1, some _), (2, some _)]) ⟨rfl, rfl, rfl, trivial⟩ ?_
  have nx_HL1 := lst1.nx
  replace hle := hle.st lst1 (fun k hk => trivial)
  replace at2 := lst1.same _ _ trivial at2
  replace at13 := lst1.same _ _ trivial at13
  replace hin := base_hin.mono hle
  clear hb2 c02 c12 c22 c32 c42 i12 i22 i32 i42 hm2 hi2
  have hb2 : Cat.At _ g2 0 c p := ⟨Mem.of_get at2, hin⟩
  obtain ⟨c02, c12, c22, c32, c42, i12, i22, i32, i42⟩ := hb2.get
  have hm2 : MemN _ _ _ _ _ := ⟨rfl, hb2.1⟩
  have hi2 := hb2.2
  obtain ⟨hi, hno⟩ := hI
  refine .seq (fun K8 hK8 => .seq (fun K9 hK9 => .region (.mv rfl (.q rfl (.fieldAddr fo_27_1_B rfl) ?_))))
  refine .q rfl (.load on_24_B rfl (by first | assumption | exact Mem.of_get at2 1 _ rfl)) ?_
  refine .q rfl (.len sl_24_A rfl) (.q rfl (.cmp rfl rfl rfl) (.nil (hK9 _ _ ?_)))
  refine .cond rfl (fun h22 => ?_) (fun h22 => ?_)
  ·
   simp only [sps] at h22
   refine .skip ?_
   refine hK8 _ _ (.seq (fun K10 hK10 => ?_))
   refine .block ?_
   refine .seq (fun K11 hK11 => .seq (fun K12 hK12 => ?_))
   refine .regionD mo_B (.q 0 (.q 1 (.q 2 (.q 3 (.q 4 (.q 5 (.q 6 (.q 7 (.q 8 (.q 9 (.q 10 (.q 11 (.q 12 (.q 13 (.c 14 0 (.q 15 (.q 16 (.done)))))))))))))))))) (by kernel_rfl) ?_
   refine .cut [(1, some _), (2, some _), (8, some _), (18, some _), (19, some _), (20, some _), (21, some _), (22, some _)] ⟨rfl, rfl, rfl, rfl, rfl, rfl, rfl, rfl, trivial⟩ (fun rest fr' H' => ∃ e : Bool, Sub ((41, some (.bool e)) :: rest) fr' ∧ HL1 = H' ∧ e = !(decide (c.tgt.getD i 0 = c.T f) && B (c.Mono i))) ?_ ?_
   ·
    refine .q rfl (.fieldAddr fo_27_2_B rfl) ?_
    refine .q rfl (.load on_24_B rfl (by first | assumption | exact Mem.of_get at2 2 _ rfl)) ?_
    refine .mv rfl rfl ?_
    refine .q rfl (.idxN sl_24_A (by assumption) rfl rfl (by omega)) ?_
    refine .q rfl (.loadI on_2_A (by assumption) rfl (by omega)) ?_
    refine .q rfl (.fieldAddr fo_27_2_B rfl) ?_
    refine .q rfl (.load on_24_B rfl (by first | assumption | exact Mem.of_get at2 2 _ rfl)) ?_
    refine .mv rfl rfl ?_
    refine .q rfl (.idx1 sl_24_A (by assumption) rfl rfl (by omega) (by omega)) ?_
    refine .q rfl (.loadI on_2_A (by assumption) rfl (by omega)) ?_
    refine .q rfl (.cmp rfl rfl rfl) (.mv rfl rfl ?_)
    refine .split (fun h36 => ?_) (fun h36 => ?_)
    ·
     try simp only [sps] at h36
     refine .z rfl (.z rfl (.sgc rfl rfl rfl rfl rfl rfl (.z rfl (.q rfl (.pickT rfl rfl) ?_))))
     refine .done ?_
     refine ⟨_, ⟨rfl, rfl, rfl, rfl, rfl, rfl, rfl, rfl, rfl, trivial⟩, rfl, ?_⟩
     rw [decide_eq_false h36, Bool.false_and]; rfl
    try simp only [sps] at h36
    refine .qg rfl (.loadM ag_27_D rfl ⟨rfl, Mem.of_get at2⟩) ?_
    refine .qg rfl (.move rfl) ?_
    refine .callQ0g rfl rfl rfl rfl rfl rfl rfl @Try.call60 rfl (l05Mono_c) ?_
    refine .qg rfl (.not rfl) (.q rfl (.pickF rfl rfl) ?_)
    refine .done ?_
    refine ⟨_, ⟨rfl, rfl, rfl, rfl, rfl, rfl, rfl, rfl, rfl, trivial⟩, rfl, ?_⟩
    rw [decide_eq_true h36, Bool.true_and]
   rintro frJ7 _ ⟨e, hsubJ7, rfl, hJ7⟩
   refine hK12 _ _ ?_
   refine .forget hsubJ7 ?_
   refine .cond rfl (fun h41 => ?_) (fun h41 => ?_)
   ·
    have hlf : c.facB f i = true → c.leB f i = false := fun q => by
      obtain ⟨z1, z2, z3⟩ := Cat.facB_iff.1 q
      have := hJ7.symm.trans h41
      rw [decide_eq_true z1, B_true z2] at this
      cases this
    refine .exit ?_
    refine hK10 _ _ (.region (.mv rfl ?_))
    refine .q rfl (.add rfl rfl rfl (by omega) (by omega)) ?_
    refine .mv rfl (.nil ?_)
    refine hKL1 (i + 1) _ _ ?_ ?_ ⟨rfl, rfl, rfl, trivial⟩
    ·
     refine ⟨lst1, ?_⟩
     refine ⟨by omega, fun a ha hfa => ?_⟩
     by_cases e : a < i
     · exact hno a e hfa
     · obtain rfl : a = i := by omega
       exact hlf hfa
    omega
   have hmm : c.tgt.getD i 0 = c.T f ∧ c.Mono i := by
     have := hJ7.symm.trans h41
     simp only [sps] at this
     exact this
   have hhl := c.hom_le (c.src.getD f.toNat 0) (c.src.getD i 0)
   refine .skip ?_
   refine hK11 _ _ (.seq (fun K13 hK13 => ?_))
   refine .regionD mo_B (.q 0 (.q 1 (.q 2 (.q 3 (.q 4 (.q 5 (.q 6 (.q 7 (.q 8 (.q 9 (.q 10 (.c 11 0 (.q 12 (.done)))))))))))))) (by kernel_rfl) ?_
   refine .q rfl (.loadM ag_27_D rfl ⟨rfl, Mem.of_get at2⟩) ?_
   refine .q rfl (.fieldAddr fo_27_1_B rfl) ?_
   refine .q rfl (.load on_24_B rfl (by first | assumption | exact Mem.of_get at2 1 _ rfl)) ?_
   refine .mv rfl rfl ?_
   refine .q rfl (.idx1 sl_24_A (by assumption) rfl rfl (by omega) (by omega)) ?_
   refine .q rfl (.loadI on_2_A (by assumption) rfl (by omega)) ?_
   refine .q rfl (.fieldAddr fo_27_1_B rfl) ?_
   refine .q rfl (.load on_24_B rfl (by first | assumption | exact Mem.of_get at2 1 _ rfl)) ?_
   refine .mv rfl rfl ?_
   refine .q rfl (.idxN sl_24_A (by assumption) rfl rfl (by omega)) ?_
   refine .q rfl (.loadI on_2_A (by assumption) rfl (by omega)) ?_
   refine .call0 rfl rfl rfl rfl rfl @Try.call80 rfl (l02Hom_c) ?_
   rintro _ H53 ⟨le53, g53, rfl, at53, ge53⟩
   have nx_H53 := le53.1
   replace hle := hle.trans le53
   replace lst1 := lst1.le le53
   replace at2 := le53.2 _ _ at2
   replace at13 := le53.2 _ _ at13
   have lt_at53 := GHeap.ltg at53
   replace hin := base_hin.mono hle
   clear hb2 c02 c12 c22 c32 c42 i12 i22 i32 i42 hm2 hi2
   have hb2 : Cat.At _ g2 0 c p := ⟨Mem.of_get at2, hin⟩
   obtain ⟨c02, c12, c22, c32, c42, i12, i22, i32, i42⟩ := hb2.get
   have hm2 : MemN _ _ _ _ _ := ⟨rfl, hb2.1⟩
   have hi2 := hb2.2
   have i53 := Ints.of_get at53
   refine .mv rfl rfl ?_
   refine .done ?_
   refine hK13 _ _ (.seq (fun K14 hK14 => .region (.mv rfl (.nil (hK14 _ _ ?_)))))
   refine .block ?_
   refine .loopR (σ := Nat) [(1, some _), (2, some _), (8, some _), (9, some _)] (fun k => [(10, some (.int .i64 (k : Int)))]) (fun k H' => St [] H53 H' ∧ k ≤ (c.hom (c.src.getD f.toNat 0) (c.src.getD i 0)).length ∧ ∀ b, b < k → c.th ((c.hom (c.src.getD f.toNat 0) (c.src.getD i 0)).getD b 0) i = f → c.leB f i = false) (fun k => (c.hom (c.src.getD f.toNat 0) (c.src.getD i 0)).length - k) (0) ⟨rfl, rfl, rfl, rfl, trivial⟩ ⟨rfl, trivial⟩ ?_ ?_
   ·
    refine ⟨.refl _ _, ?_⟩
    exact ⟨by omega, fun a h => by omega⟩
   rintro k HL2 ⟨lst2, hI⟩ KL2 hKL2
   refine .forget (fr' := [(10, some (.int .i64 (k : Int))), (1, some _), (2, some _), (8, some _), (9, some _)]) ⟨rfl, rfl, rfl, rfl, rfl, trivial⟩ ?_
   have nx_HL2 := lst2.nx
   replace hle := hle.st lst2 (fun k hk => trivial)
   replace lst1 := lst1.sA lst2
   replace at2 := lst2.same _ _ trivial at2
   replace at13 := lst2.same _ _ trivial at13
   replace at53 := lst2.same _ _ trivial at53
   replace hin := base_hin.mono hle
   clear hb2 c02 c12 c22 c32 c42 i12 i22 i32 i42 hm2 hi2
   have hb2 : Cat.At _ g2 0 c p := ⟨Mem.of_get at2, hin⟩
   obtain ⟨c02, c12, c22, c32, c42, i12, i22, i32, i42⟩ := hb2.get
   have hm2 : MemN _ _ _ _ _ := ⟨rfl, hb2.1⟩
   have hi2 := hb2.2
   clear i53
   have i53 := Ints.of_get at53
   obtain ⟨hk, hno2⟩ := hI
   refine .seq (fun K15 hK15 => .seq (fun K16 hK16 => .region (.mv rfl (.mv rfl (.q rfl (.len sl_24_A rfl) (.q rfl (.cmp rfl rfl rfl) (.nil (hK16 _ _ ?_))))))))
   refine .cond rfl (fun h57 => ?_) (fun h57 => ?_)
   ·
    simp only [sps] at h57
    obtain ⟨j, j1, j2, j3, j4⟩ := c.hom_get (x := (c.src.getD f.toNat 0)) (y := c.src.getD i 0) (i := k) (by omega)
    refine .skip ?_
    refine hK15 _ _ (.seq (fun K17 hK17 => ?_))
    refine .block ?_
    refine .seq (fun K18 hK18 => ?_)
    refine .regionD mo_B (.q 0 (.q 1 (.q 2 (.q 3 (.q 4 (.q 5 (.q 7 (.c 6 1 (.q 8 (.q 9 (.q 10 (.q 11 (.q 12 (.c 13 0 (.q 14 (.done)))))))))))))))) (by kernel_rfl) ?_
    refine .q rfl (.loadM ag_27_D rfl ⟨rfl, Mem.of_get at2⟩) ?_
    refine .mv rfl rfl (.mv rfl rfl ?_)
    refine .q rfl (.idxN sl_24_A (by first | assumption | exact SlA.of_row at53 (by first | rfl | (simp; done) | (simp <;> omega))) rfl rfl (by omega)) ?_
    refine .q rfl (.loadI on_2_A (by first | assumption | exact Ints.of_get at53) rfl (by omega)) ?_
    refine .mv rfl rfl (.mv rfl rfl ?_)
    refine .callQ1 rfl rfl rfl rfl rfl @Try.call81 rfl (l02Then_c) (.refl _) ?_
    refine .q rfl (.cmp rfl rfl rfl) (.mv rfl rfl ?_)
    refine .split (fun h69 => ?_) (fun h69 => ?_)
    ·
     try simp only [sps] at h69
     refine .qg rfl (.loadM ag_27_D rfl ⟨rfl, Mem.of_get at2⟩) ?_
     refine .qg rfl (.move rfl) (.qg rfl (.move rfl) ?_)
     refine .callQ0g rfl rfl rfl rfl rfl rfl rfl @Try.call82 rfl (l18Through_c) ?_
     refine .q rfl (.pickT rfl rfl) ?_
     refine .done ?_
     refine hK18 _ _ ?_
     refine .cond rfl (fun h74 => ?_) (fun h74 => ?_)
     ·
      try simp only [sps] at h74
      refine .seq (fun K19 hK19 => ?_)
      refine .regionD mo_B (.q 0 (.q 1 (.q 2 (.q 3 (.q 4 (.q 5 (.q 6 (.q 7 (.done))))))))) (by kernel_rfl) ?_
      refine .mv rfl rfl (.mv rfl rfl (.mv rfl rfl ?_))
      refine .q rfl (.idxN sl_24_A (by first | assumption | exact SlA.of_row at53 (by first | rfl | (simp; done) | (simp <;> omega))) rfl rfl (by omega)) ?_
      refine .q rfl (.loadI on_2_A (by first | assumption | exact Ints.of_get at53) rfl (by omega)) ?_
      refine .mv rfl rfl (.mv rfl rfl (.mv rfl rfl ?_))
      refine .done ?_
      refine hK19 _ _ ?_
      refine .ret ?_
      refine hret _ _ ?_
      refine ⟨_, _, _, rfl, rfl, rfl, ?_⟩
      have hfb : c.facB f i = true := Cat.facB_iff.2 ⟨hmm.1, hmm.2, Cat.belB_of (i := k) (by show k < (c.hom (c.src.getD f.toNat 0) (c.src.getD i 0)).length; omega) h69⟩
      have him : c.imgI f = (i : Int) := firstIn_N (by omega) hfb h74 hno
      obtain ⟨y1, y2, y3⟩ := Cat.im_yes h16 (by omega)
      have hie : c.imgE f = (c.hom (c.src.getD f.toNat 0) (c.src.getD i 0)).getD k 0 := by
        unfold Cat.imgE
        rw [him]
        exact filter_first (l := c.hom (c.src.getD f.toNat 0) (c.src.getD i 0)) (p := fun h => decide (c.th h i = f)) (k := k) (by omega) (decide_eq_true h69) (fun b hb => decide_eq_false fun e => by rw [hno2 b hb e] at h74; cases h74)
      rw [y1, y2, y3, hie, him]; exact ⟨rfl, hle⟩
     try simp only [sps] at h74
     refine .skip ?_
     refine hK17 _ _ (.region (.mv rfl ?_))
     refine .q rfl (.add rfl rfl rfl (by omega) (by omega)) ?_
     refine .mv rfl (.nil ?_)
     refine hKL2 (k + 1) _ _ ?_ ?_ ⟨rfl, rfl, rfl, rfl, rfl, trivial⟩
     ·
      refine ⟨lst2, ?_⟩
      refine ⟨by omega, fun b hb hth => ?_⟩
      by_cases e : b < k
      · exact hno2 b e hth
      · obtain rfl : b = k := by omega
        first | exact h74 | exact absurd hth h69
     omega
    try simp only [sps] at h69
    refine .z rfl (.z rfl (.z rfl (.sgc rfl rfl rfl rfl rfl rfl (.q rfl (.pickF rfl rfl) ?_))))
    refine .done ?_
    refine hK18 _ _ ?_
    refine .condF rfl ?_
    refine .skip ?_
    refine hK17 _ _ (.region (.mv rfl ?_))
    refine .q rfl (.add rfl rfl rfl (by omega) (by omega)) ?_
    refine .mv rfl (.nil ?_)
    refine hKL2 (k + 1) _ _ ?_ ?_ ⟨rfl, rfl, rfl, rfl, rfl, trivial⟩
    ·
     refine ⟨lst2, ?_⟩
     refine ⟨by omega, fun b hb hth => ?_⟩
     by_cases e : b < k
     · exact hno2 b e hth
     · obtain rfl : b = k := by omega
       first | exact h74 | exact absurd hth h69
    omega
   simp only [sps] at h57
   obtain rfl : k = (c.hom (c.src.getD f.toNat 0) (c.src.getD i 0)).length := by omega
   have hlf : c.facB f i = true → c.leB f i = false := fun q => by
     obtain ⟨b, hb, e⟩ := Cat.belB_ex (Cat.facB_iff.1 q).2.2
     exact hno2 b hb e
   refine .exit ?_
   refine hK10 _ _ (.region (.mv rfl ?_))
   refine .q rfl (.add rfl rfl rfl (by omega) (by omega)) ?_
   refine .mv rfl (.nil ?_)
   refine hKL1 (i + 1) _ _ ?_ ?_ ⟨rfl, rfl, rfl, trivial⟩
   ·
    refine ⟨lst1, ?_⟩
    refine ⟨by omega, fun a ha hfa => ?_⟩
    by_cases e : a < i
    · exact hno a e hfa
    · obtain rfl : a = i := by omega
      exact hlf hfa
   omega
  try simp only [sps] at h22
  refine .exit ?_
  refine hK6 _ _ (.seq (fun K20 hK20 => .region (.mv rfl (.mv rfl (.mv rfl (.nil (hK20 _ _ ?_)))))))
  refine .ret ?_
  refine hret _ _ ?_
  refine ⟨_, _, _, rfl, rfl, rfl, ?_⟩
  have him : c.imgI f = -1 := firstIn_N0 (fun a ha => hno a (by omega))
  obtain ⟨y1, y2, y3⟩ := Cat.im_no h16 (by omega)
  rw [y1, y2, y3]; exact ⟨rfl, hle⟩
theorem l02Number_c {gS : Nat} {n : Int} {H : GHeap} (hs : DSrc 90 H gS := by assumption) (hn : -9223372036854775808 ≤ n ∧ n ≤ 9223372036854775807 := by omega) :
    GCalls Try.prog 69 [.pointer (some ⟨gS, 0, none⟩), .int .i64 n] H (fun v H' => ∃ k, v = .int .i64 k ∧ I64 k ∧ St [gS] H H' ∧ DSrc 90 H' gS) := by
  have hlS := hs.lt
  refine GCalls.body (N := 15) (rs := [.tmp 4]) Try.func69 rfl rfl rfl rfl (fun Qx hret hend => ?_)
  refine .fg [0, 1] rfl ?_
  have hst := St.refl [gS] H
  refine .seq (fun K1 hK1 => .region (.mv rfl (.nil (hK1 _ _ (.seq (fun K2 hK2 => .seq (fun K3 hK3 => .region ?_)))))))
  have hs := hs
  refine .mv rfl ?_
  refine .call rfl rfl rfl rfl @Try.call48 rfl (l01Next_c) ?_
  rintro _ H6 ⟨k6, rfl, ka6, kb6, kc6, st6, hs⟩
  have nx_H6 := st6.nx
  replace hst := hst.sA st6
  refine .q rfl (.cmp rfl rfl rfl) (.nil (hK3 _ _ ?_))
  refine .cond rfl (fun h7 => ?_) (fun h7 => ?_)
  ·
   try simp only [sps] at h7
   refine .seq (fun K4 hK4 => .region (.mv rfl (.mv rfl ?_)))
   refine .R rfl (.litA rfl sl_24_A ze_2_L rfl rfl rfl rfl) ?_
   rintro _ H10 ⟨g10, rfl, le10, ge10, at10⟩
   replace hst := hst.le le10
   replace hs := hs.le le10
   refine .call rfl rfl rfl rfl @Try.call85 rfl ((by have hh := l01Pick_c (xs := [-1, n, 9223372036854775807, -9223372036854775808]) (hl := fun H' s => Ints.of_get (s.same _ _ ⟨by omega, trivial⟩ at10)) (h0 := by simp); exact hh)) ?_
   rintro _ H11 ⟨i11, hi11, rfl, st11, hs⟩
   obtain ⟨k11, e11, b11⟩ : ∃ k : Int, ([-1, n, 9223372036854775807, -9223372036854775808] : List Int).getD i11 0 = k ∧ I64 k := ⟨_, rfl, bd_iff.2 (by intro x hx; simp only [List.mem_cons, List.not_mem_nil, or_false] at hx; omega) _ hi11⟩
   rw [e11]
   replace hst := hst.sA st11
   refine .mv rfl (.nil (hK4 _ _ ?_))
   refine .ret ?_
   refine hret _ _ ?_
   refine ⟨_, rfl, ?_⟩
   exact ⟨k11, rfl, b11, hst, hs⟩
  try simp only [sps] at h7
  refine .skip ?_
  refine hK2 _ _ (.seq (fun K5 hK5 => .region (.mv rfl (.mv rfl ?_))))
  refine .call rfl rfl rfl rfl @Try.call48 rfl (l01Next_c) ?_
  rintro _ H14 ⟨k14, rfl, ka14, kb14, kc14, st14, hs⟩
  replace hst := hst.sA st14
  refine .mv rfl (.nil (hK5 _ _ ?_))
  refine .ret ?_
  refine hret _ _ ?_
  refine ⟨_, rfl, ?_⟩
  exact ⟨k14, rfl, ⟨by omega, by omega⟩, hst, hs⟩
end Go.Proofs.Ytolfggcanbpknaa
namespace Go.Proofs.Ytolfggcanbpknaa
open Go Go.GL Go.RowKit Go.Proofs
set_option maxHeartbeats 8000000 in
theorem drawImageOfArrow_c {a : Option Addr} {xs : List Int} {H : GHeap} (hb : Bytes H a xs := by assumption) (hlt : ∀ b o t, a = some ⟨b, o, t⟩ → b < H.next := by assumption) (hx : xs.length ≤ 4096 := by omega) :
    GCalls Try.prog 43 [.slice a xs.length xs.length] H (NewP H) := by
  refine GCalls.body (N := 16) (rs := [.cell 2 27, .tmp 3]) Try.func43 rfl rfl rfl rfl (fun Qx hret hend => ?_)
  refine .fg [0] rfl ?_
  have hle := GHeap.Le.refl H
  have base_hb := hb
  refine .seq (fun K1 hK1 => .region ?_)
  refine .R rfl (.allocR rfl ze_27_Hj rfl) ?_
  rintro _ H2 ⟨g2, rfl, le2, ge2, at2⟩
  replace hle := hle.trans le2
  have lt_at2 := GHeap.ltg at2
  replace hb := base_hb.mono hle
  refine .mv rfl (.nil (hK1 _ _ (.seq (fun K2 hK2 => .region (.mv rfl ?_)))))
  refine .call rfl rfl rfl rfl @Try.call47 rfl (l01From_c (hlt := fun b o t e => by have := hlt b o t e; omega)) ?_
  rintro _ H7 ⟨le7, gS, rfl, ge7, hs⟩
  have hlS := hs.lt
  have nx_H7 := le7.1
  replace hle := hle.trans le7
  replace at2 := le7.2 _ _ at2
  refine .mv rfl (.nil (hK2 _ _ (.seq (fun K3 hK3 => .region (.mv rfl ?_)))))
  refine .call rfl rfl rfl rfl @Try.call49 rfl (l02Draw_c) ?_
  rintro _ H9 ⟨c9, p9, rfl, sm9, v9, st9, hs⟩
  have nx_H9 := st9.nx
  replace hle := hle.st st9 (fun k hk => ⟨by omega, trivial⟩)
  have ne_g2_gS : NE g2 gS := .a
  replace at2 := st9.s at2 ne_g2_gS.ne
  have bs_v9 := v9
  have lv_v9 : Keep H7.next H9 H9 := fun _ _ _ h => h
  refine .R rfl (.allocR rfl ze_27_Hj rfl) ?_
  rintro _ H5 ⟨g5, rfl, le5, ge5, at5⟩
  replace hle := hle.trans le5
  replace hs := hs.le le5
  replace at2 := le5.2 _ _ at2
  replace lv_v9 := Keep.le lv_v9 le5
  refine .r0 rfl rfl (.fillA rfl sz_27_D rfl rfl rfl rfl) ?_
  rintro _ H2003 ⟨rfl, st2003, at2003⟩
  replace hle := hle.st st2003 (fun k hk => ⟨by omega, trivial⟩)
  replace hs := hs.sA st2003
  replace at2 := st2003.s at2
  replace lv_v9 := Keep.st lv_v9 st2003 (fun k hb hk => ⟨(by omega), trivial⟩)
  refine .nil (hK3 _ _ (.seq (fun K4 hK4 => ?_)))
  refine .regionDB mo_B (.q 0 (.q 1 (.q 2 (.q 3 (.q 4 (.c 5 1 (.c 6 0 (.q 7 (.done))))))))) (by kernel_rfl) (GHeap.le_erase H2003 gS) ?_
  have hbl := GHeap.le_erase H2003 gS
  obtain ⟨n1, -, -, -, -, -⟩ := id sm9
  have a5B := GHeap.get_erase_of (g := gS) at2003 (by omega)
  refine .qB rfl hbl (.loadM ag_27_D rfl ⟨rfl, Mem.of_get a5B⟩) ?_
  refine .qB rfl hbl (.move rfl) (.qB rfl hbl (.fieldAddr fo_27_1_B rfl) (.qB rfl hbl (.load on_24_B rfl (Mem.of_get a5B 1 _ rfl)) (.qB rfl hbl (.len sl_24_A rfl) ?_)))
  refine .call1 rfl rfl rfl rfl rfl @Try.call69 rfl (l02Number_c) ?_
  rintro _ H15 ⟨k15, rfl, b15, st15, hs⟩
  replace hbl := hbl.erase_st st15
  refine ⟨hbl, ?_⟩
  replace hle := hle.st st15 (fun k hk => ⟨by omega, trivial⟩)
  replace at2 := st15.s at2 ne_g2_gS.ne
  replace lv_v9 := Keep.st lv_v9 st15 (fun k hb hk => ⟨(by omega), trivial⟩)
  refine .r0 rfl rfl rfl (.fillA rfl sz_27_D rfl rfl rfl rfl) ?_
  rintro _ H3006 ⟨rfl, st3006, at3006⟩
  replace hle := hle.st st3006 (fun k hk => ⟨by omega, trivial⟩)
  replace lv_v9 := Keep.st lv_v9 st3006 (fun k hb hk => ⟨(by omega), trivial⟩)
  replace v9 := bs_v9.keep lv_v9 (Nat.le_refl _)
  refine .qB rfl (.refl _) (.assign rfl) ?_
  refine .done ?_
  refine hK4 _ _ ?_
  refine .ret ?_
  refine hret _ _ ?_
  refine ⟨_, _, _, _, _, rfl, ag_27_D, (by rfl), (Mem.of_get at3006), rfl, ?_⟩
  exact ⟨hle, c9, p9, k15, rfl, sm9, v9.keep (.of_le (.refl _)) (by omega), b15⟩
set_option maxHeartbeats 40000000 in
theorem lawFnImages_c {a : Option Addr} {xs : List Int} {H : GHeap} (hb : Bytes H a xs) (hl : xs.length ≤ 9223372036854775807) (hlt : ∀ b o t, a = some ⟨b, o, t⟩ → b < H.next) :
    GCalls Try.prog 8 [.slice a xs.length xs.length] H (fun v _ => v = .bool true) := by
  refine GCalls.body (N := 178) (rs := [.tmp 2]) Try.func8 rfl rfl rfl rfl (fun Qx hret hend => ?_)
  refine .fg [0] rfl ?_
  have base_hb := hb
  refine .seq (fun K1 hK1 => .region (.mv rfl (.nil (hK1 _ _ (.seq (fun K2 hK2 => .seq (fun K3 hK3 => .region (.mv rfl ?_))))))))
  refine .callQ rfl rfl rfl rfl @Try.call9 rfl (big_c) ?_
  refine .nil (hK3 _ _ ?_)
  refine .cond rfl (fun h25 => ?_) (fun h25 => ?_)
  ·
   try simp only [sps] at h25
   refine .seq (fun K4 hK4 => .region (.mv rfl (.nil (hK4 _ _ ?_))))
   refine .ret ?_
   refine hret _ _ ?_
   refine ⟨_, rfl, ?_⟩
   rfl
  simp only [sps] at h25
  refine .skip ?_
  refine hK2 _ _ (.seq (fun K5 hK5 => .region (.mv rfl ?_)))
  refine .call rfl rfl rfl rfl @Try.call43 rfl (drawImageOfArrow_c) ?_
  rintro _ H28 ⟨le28, c28, p28, k28, rfl, sm28, v28, b28⟩
  have bs_v28 := v28
  have lv_v28 : Keep H.next H28 H28 := fun _ _ _ h => h
  refine .mv rfl (.q rfl (.extract rfl rfl) (.q rfl (.extract rfl rfl) ?_))
  refine .R rfl (.allocR rfl ze_27_Hj rfl) ?_
  rintro _ H3 ⟨g3, rfl, le3, ge3, at3⟩
  replace lv_v28 := Keep.le lv_v28 le3
  refine .r0 rfl rfl (.fillA rfl sz_27_D rfl rfl rfl rfl) ?_
  rintro _ H3006 ⟨rfl, st3006, at3006⟩
  replace lv_v28 := Keep.st lv_v28 st3006 (fun k hb hk => ⟨by omega, trivial⟩)
  replace v28 := bs_v28.keep lv_v28 (Nat.le_refl _)
  have i28 := v28.inn
  refine .mv rfl (.nil (hK5 _ _ (.seq (fun K6 hK6 => .region ?_))))
  refine .q rfl (.loadM ag_27_D rfl ⟨rfl, Mem.of_get at3006⟩) ?_
  refine .mv rfl ?_
  refine .callQ rfl rfl rfl rfl @Try.call44 rfl (imageOfArrow_c) ?_
  refine .mv rfl (.q rfl (.extract rfl rfl) (.q rfl (.extract rfl rfl) (.q rfl (.extract rfl rfl) (.mv rfl (.mv rfl (.mv rfl (.nil (hK6 _ _ (.seq (fun K7 hK7 => .region ?_))))))))))
  refine .q rfl (.loadM ag_27_D rfl ⟨rfl, Mem.of_get at3006⟩) ?_
  refine .mv rfl ?_
  refine .callQ rfl rfl rfl rfl @Try.call45 rfl (specImageOfArrow_c) ?_
  refine .mv rfl (.q rfl (.extract rfl rfl) (.q rfl (.extract rfl rfl) (.q rfl (.extract rfl rfl) (.mv rfl (.mv rfl (.mv rfl (.nil (hK7 _ _ (.seq (fun K8 hK8 => .seq (fun K9 hK9 => .region (.mv rfl (.mv rfl (.q rfl (.cmp rfl rfl rfl) (.mv rfl ?_)))))))))))))))
  refine .split (fun h48 => ?_) (fun h48 => ?_)
  ·
   simp at h48
  try simp only [sps] at h48
  refine .qg rfl (.move rfl) (.qg rfl (.move rfl) (.qg rfl (.cmp rfl rfl rfl) (.q rfl (.pickF rfl rfl) (.mv rfl ?_))))
  refine .split (fun h53 => ?_) (fun h53 => ?_)
  ·
   simp at h53
  try simp only [sps] at h53
  refine .qg rfl (.move rfl) (.qg rfl (.move rfl) (.qg rfl (.cmp rfl rfl rfl) (.q rfl (.pickF rfl rfl) (.nil (hK9 _ _ ?_)))))
  refine .cond rfl (fun h57 => ?_) (fun h57 => ?_)
  ·
   simp at h57
  try simp only [sps] at h57
  refine .skip ?_
  refine hK8 _ _ (.seq (fun K10 hK10 => .seq (fun K11 hK11 => .region (.mv rfl (.q rfl (.cmp rfl rfl rfl) (.mv rfl ?_))))))
  refine .split (fun h60 => ?_) (fun h60 => ?_)
  ·
   try simp only [sps] at h60
   refine .qg rfl (.move rfl) (.qg rfl (.cmp rfl rfl rfl) (.q rfl (.pickT rfl rfl) (.nil (hK11 _ _ ?_))))
   refine .cond rfl (fun h63 => ?_) (fun h63 => ?_)
   ·
    try simp only [sps] at h63
    refine .seq (fun K12 hK12 => .region (.mv rfl (.nil (hK12 _ _ ?_))))
    refine .ret ?_
    refine hret _ _ ?_
    refine ⟨_, rfl, ?_⟩
    rfl
   try simp only [sps] at h63
   refine .skip ?_
   refine hK10 _ _ (.seq (fun K13 hK13 => .region ?_))
   have hk : c28.code [k28] = 0 := by first | exact (Cat.imK_zero h60).1 | exact (Cat.imK_four h63).1
   refine .q rfl (.loadM ag_27_D rfl ⟨rfl, Mem.of_get at3006⟩) ?_
   refine .mv rfl ?_
   refine .callQ rfl rfl rfl rfl @Try.call23 rfl (implIsMono_c) ?_
   refine .mv rfl (.q rfl (.extract rfl rfl) (.q rfl (.extract rfl rfl) (.mv rfl (.mv rfl (.nil (hK13 _ _ (.seq (fun K14 hK14 => .seq (fun K15 hK15 => .region (.mv rfl (.q rfl (.cmp rfl rfl rfl) (.mv rfl ?_))))))))))))
   refine .split (fun h72 => ?_) (fun h72 => ?_)
   ·
    rw [hk] at h72
    simp at h72
   try simp only [sps] at h72
   refine .qg rfl (.move rfl) (.qg rfl (.move rfl) ?_)
   refine .split (fun h74 => ?_) (fun h74 => ?_)
   ·
    try simp only [sps] at h74
    refine .qg rfl (.move rfl) (.qg rfl (.cmp rfl rfl rfl) (.qg rfl (.pickT rfl rfl) (.q rfl (.pickF rfl rfl) (.nil (hK15 _ _ ?_)))))
    refine .cond rfl (fun h78 => ?_) (fun h78 => ?_)
    ·
     simp only [sps] at h74 h78
     have q1 := (Cat.img_mono hk h74).2
     have q2 := (Cat.imK_four h78).2
     omega
    try simp only [sps] at h78
    refine .skip ?_
    refine hK14 _ _ (.seq (fun K16 hK16 => .seq (fun K17 hK17 => .region (.mv rfl (.q rfl (.cmp rfl rfl rfl) (.nil (hK17 _ _ ?_)))))))
    refine .cond rfl (fun h80 => ?_) (fun h80 => ?_)
    ·
     try simp only [sps] at h80
     refine .seq (fun K18 hK18 => .region (.mv rfl (.nil (hK18 _ _ ?_))))
     refine .ret ?_
     refine hret _ _ ?_
     refine ⟨_, rfl, ?_⟩
     rfl
    simp only [sps] at h63 h80
    omega
   try simp only [sps] at h74
   refine .z rfl (.z rfl (.qg rfl (.pickF rfl rfl) (.q rfl (.pickF rfl rfl) (.nil (hK15 _ _ ?_)))))
   refine .condF rfl ?_
   refine .skip ?_
   refine hK14 _ _ (.seq (fun K19 hK19 => .seq (fun K20 hK20 => .region (.mv rfl (.q rfl (.cmp rfl rfl rfl) (.nil (hK20 _ _ ?_)))))))
   refine .cond rfl (fun h80 => ?_) (fun h80 => ?_)
   ·
    try simp only [sps] at h80
    refine .seq (fun K21 hK21 => .region (.mv rfl (.nil (hK21 _ _ ?_))))
    refine .ret ?_
    refine hret _ _ ?_
    refine ⟨_, rfl, ?_⟩
    rfl
   simp only [sps] at h63 h80
   omega
  try simp only [sps] at h60
  refine .z rfl (.z rfl (.q rfl (.pickF rfl rfl) (.nil (hK11 _ _ ?_))))
  refine .condF rfl ?_
  refine .skip ?_
  refine hK10 _ _ (.seq (fun K22 hK22 => .region ?_))
  have hk : c28.code [k28] = 0 := by first | exact (Cat.imK_zero h60).1 | exact (Cat.imK_four h63).1
  obtain ⟨hIs, f0, f1⟩ := Cat.code_one.1 hk
  have hS := hIs.1
  have hn := hS.n40
  have htl := hS.tl
  have htb := hS.tgt k28.toNat (by omega)
  have hco : c28.codeO [(c28.tgt.getD k28.toNat 0)] = 0 := Cat.codeO_one.2 ⟨hIs, htb.1, htb.2⟩
  refine .q rfl (.loadM ag_27_D rfl ⟨rfl, Mem.of_get at3006⟩) ?_
  refine .mv rfl ?_
  refine .callQ rfl rfl rfl rfl @Try.call23 rfl (implIsMono_c) ?_
  refine .mv rfl (.q rfl (.extract rfl rfl) (.q rfl (.extract rfl rfl) (.mv rfl (.mv rfl (.nil (hK22 _ _ (.seq (fun K23 hK23 => .seq (fun K24 hK24 => .region (.mv rfl (.q rfl (.cmp rfl rfl rfl) (.mv rfl ?_))))))))))))
  refine .split (fun h72 => ?_) (fun h72 => ?_)
  ·
   rw [hk] at h72
   simp at h72
  try simp only [sps] at h72
  refine .qg rfl (.move rfl) (.qg rfl (.move rfl) ?_)
  refine .split (fun h74 => ?_) (fun h74 => ?_)
  ·
   try simp only [sps] at h74
   refine .qg rfl (.move rfl) (.qg rfl (.cmp rfl rfl rfl) (.qg rfl (.pickT rfl rfl) (.q rfl (.pickF rfl rfl) (.nil (hK24 _ _ ?_)))))
   refine .cond rfl (fun h78 => ?_) (fun h78 => ?_)
   ·
    simp only [sps] at h74 h78
    omega
   try simp only [sps] at h78
   refine .skip ?_
   refine hK23 _ _ (.seq (fun K25 hK25 => .seq (fun K26 hK26 => .region (.mv rfl (.q rfl (.cmp rfl rfl rfl) (.nil (hK26 _ _ ?_)))))))
   refine .cond rfl (fun h80 => ?_) (fun h80 => ?_)
   ·
    try simp only [sps] at h80
    refine .seq (fun K27 hK27 => .region (.mv rfl (.nil (hK27 _ _ ?_))))
    refine .ret ?_
    refine hret _ _ ?_
    refine ⟨_, rfl, ?_⟩
    rfl
   try simp only [sps] at h80
   refine .skip ?_
   refine hK25 _ _ (.seq (fun K28 hK28 => .region ?_))
   obtain ⟨_, hi0⟩ := Cat.imK_zero h80
   obtain ⟨l1, l2, l3, l4, l5, l6⟩ := Cat.img_law hk hi0
   obtain ⟨y1, y2, -⟩ := Cat.im_yes hk (by omega)
   obtain ⟨_, m0, m1⟩ := Cat.code_one.1 l1
   obtain ⟨_, e0, e1⟩ := Cat.code_one.1 l4
   rw [y1, y2]
   refine .q rfl (.loadM ag_27_D rfl ⟨rfl, Mem.of_get at3006⟩) ?_
   refine .mv rfl ?_
   refine .callQ rfl rfl rfl rfl @Try.call23 rfl (implIsMono_c) ?_
   refine .mv rfl (.q rfl (.extract rfl rfl) (.q rfl (.extract rfl rfl) (.mv rfl (.mv rfl (.nil (hK28 _ _ (.seq (fun K29 hK29 => .region ?_))))))))
   refine .q rfl (.loadM ag_27_D rfl ⟨rfl, Mem.of_get at3006⟩) ?_
   refine .mv rfl ?_
   refine .callQ rfl rfl rfl rfl @Try.call46 rfl (isIso_c) ?_
   refine .mv rfl (.q rfl (.extract rfl rfl) (.q rfl (.extract rfl rfl) (.mv rfl (.mv rfl (.nil (hK29 _ _ (.seq (fun K30 hK30 => ?_))))))))
   refine .regionD mo_B (.q 0 (.q 1 (.q 2 (.q 3 (.q 4 (.q 5 (.c 6 0 (.q 7 (.q 8 (.q 9 (.q 10 (.q 11 (.done))))))))))))) (by kernel_rfl) ?_
   obtain ⟨-, u2, -, -⟩ := id i28
   refine .q rfl (.loadM ag_27_D rfl ⟨rfl, Mem.of_get at3006⟩) ?_
   refine .q rfl (.fieldAddr fo_27_2_B rfl) ?_
   refine .q rfl (.load on_24_B rfl (by first | assumption | exact Mem.of_get at3006 2 _ rfl)) ?_
   refine .mv rfl rfl ?_
   refine .q rfl (.idx1 sl_24_A (by assumption) rfl rfl (by omega) (by omega)) ?_
   refine .q rfl (.loadI on_2_A (by assumption) rfl (by omega)) ?_
   refine .call0 rfl rfl rfl rfl rfl @Try.call38 rfl (subobjectsOf_c) ?_
   rintro _ H100 ⟨le100, aL, rL, rfl, vL⟩
   replace at3006 := le100.2 _ _ at3006
   replace lv_v28 := Keep.le lv_v28 le100
   replace v28 := bs_v28.keep lv_v28 (Nat.le_refl _)
   have bs_vL := vL
   have lv_vL : Keep H3006.next H100 H100 := fun _ _ _ h => h
   clear i28
   have i28 := v28.inn
   refine .mv rfl rfl (.q rfl (.extract rfl rfl) (.q rfl (.extract rfl rfl) (.mv rfl rfl (.mv rfl rfl ?_))))
   refine .done ?_
   refine hK30 _ _ (.seq (fun K31 hK31 => .seq (fun K32 hK32 => .region (.mv rfl (.mv rfl ?_)))))
   refine .q rfl (.add rfl rfl rfl (by omega) (by omega)) ?_
   refine .mv rfl ?_
   refine .q rfl (.add rfl rfl rfl (by omega) (by omega)) ?_
   refine .q rfl (.cmp rfl rfl rfl) (.mv rfl ?_)
   refine .split (fun h109 => ?_) (fun h109 => ?_)
   ·
    simp only [sps] at h109
    omega
   try simp only [sps] at h109
   refine .qg rfl (.move rfl) (.qg rfl (.not rfl) (.q rfl (.pickF rfl rfl) (.mv rfl ?_)))
   refine .split (fun h113 => ?_) (fun h113 => ?_)
   ·
    rw [l2] at h113
    cases h113
   try simp only [sps] at h113
   refine .qg rfl (.loadM ag_27_D rfl ⟨rfl, Mem.of_get at3006⟩) ?_
   refine .qg rfl (.move rfl) (.qg rfl (.move rfl) ?_)
   refine .callQg rfl rfl rfl rfl rfl rfl @Try.call29 rfl (then9_c) ?_
   refine .qg rfl (.move rfl) (.qg rfl (.cmp rfl rfl rfl) (.q rfl (.pickF rfl rfl) (.mv rfl ?_)))
   refine .split (fun h121 => ?_) (fun h121 => ?_)
   ·
    rw [l5] at h121
    simp at h121
   try simp only [sps] at h121
   refine .qg rfl (.move rfl) (.qg rfl (.move rfl) ?_)
   refine .split (fun h123 => ?_) (fun h123 => ?_)
   ·
    try simp only [sps] at h123
    refine .qg rfl (.move rfl) (.qg rfl (.not rfl) (.qg rfl (.pickT rfl rfl) (.q rfl (.pickF rfl rfl) (.nil (hK32 _ _ ?_)))))
    refine .cond rfl (fun h127 => ?_) (fun h127 => ?_)
    ·
     simp only [sps] at h123 h127
     unfold Cat.isoB at h127
     rw [decide_eq_true l4, decide_eq_true (l6 h123)] at h127
     cases h127
    try simp only [sps] at h127
    refine .skip ?_
    refine hK31 _ _ (.seq (fun K33 hK33 => .seq (fun K34 hK34 => .region ?_)))
    generalize hL : codeLL (c28.codeO [(c28.tgt.getD k28.toNat 0)]) (c28.subs (c28.tgt.getD k28.toNat 0)) = L at *
    have hLs : L = c28.subs (c28.tgt.getD k28.toNat 0) := hL.symm.trans (codeLL_ok hco)
    have hok : ClsOk (c28.ToX (c28.tgt.getD k28.toNat 0)) c28.eqvB L := by rw [hLs]; exact Cat.subs_ok hIs _
    have hL40 : L.length ≤ 40 := by
      have q1 := hok.len
      have q2 : totN L L.length = (c28.toL (c28.tgt.getD k28.toNat 0) c28.src.length).length := by rw [hLs]; exact Cat.subs_tot hIs _
      have q3 := filtN_le c28.src.length (fun m => decide (c28.tgt.getD m 0 = (c28.tgt.getD k28.toNat 0)) && B (c28.Mono m))
      unfold Cat.toL at q2
      omega
    refine .mv rfl (.nil (hK34 _ _ ?_))
    refine .block ?_
    refine .loopR (σ := Nat) [(3, some _), (4, some _), (5, some _), (17, some _)] (fun i => [(19, some (.int .i64 (i : Int)))]) (fun i H' => St [] H100 H' ∧ i ≤ L.length) (fun i => L.length - i) (0) ⟨rfl, rfl, rfl, rfl, trivial⟩ ⟨rfl, trivial⟩ ?_ ?_
    ·
     refine ⟨.refl _ _, ?_⟩
     omega
    rintro i HL1 ⟨lst1, hI⟩ KL1 hKL1
    refine .forget (fr' := [(19, some (.int .i64 (i : Int))), (3, some _), (4, some _), (5, some _), (17, some _)]) ⟨rfl, rfl, rfl, rfl, rfl, trivial⟩ ?_
    replace at3006 := lst1.same _ _ trivial at3006
    replace lv_v28 := Keep.st lv_v28 lst1 (fun k hb hk => trivial)
    replace v28 := bs_v28.keep lv_v28 (Nat.le_refl _)
    replace lv_vL := Keep.st lv_vL lst1 (fun k hb hk => trivial)
    replace vL := bs_vL.keep lv_vL (Nat.le_refl _)
    clear i28
    have i28 := v28.inn
    have iL := vL.intss
    refine .seq (fun K35 hK35 => .seq (fun K36 hK36 => .region (.mv rfl (.mv rfl (.q rfl (.len sl_25_B rfl) (.q rfl (.cmp rfl rfl rfl) (.nil (hK36 _ _ ?_))))))))
    refine .cond rfl (fun h131 => ?_) (fun h131 => ?_)
    ·
     simp only [sps] at h131
     have hne := hok.ne i (by omega)
     have hhd : c28.ToX (c28.tgt.getD k28.toNat 0) ((L.getD i []).getD 0 0) := hok.hd (i := i) (by omega)
     have g0 := hhd.ge
     have g1 := hhd.lt
     have hlc1 : c28.liC k28 ((L.getD i []).getD 0 0) = 0 := Cat.liC_ok (Cat.code_two.2 ⟨hIs, ⟨f0, f1⟩, g0, g1⟩) hhd.tg.symm
     have hlc2 : c28.liC (c28.imgI k28) ((L.getD i []).getD 0 0) = 0 := Cat.liC_ok (Cat.code_two.2 ⟨hIs, ⟨m0, m1⟩, g0, g1⟩) (l3.trans hhd.tg.symm)
     refine .skip ?_
     refine hK35 _ _ (.seq (fun K37 hK37 => ?_))
     refine .block ?_
     refine .seq (fun K38 hK38 => .seq (fun K39 hK39 => .region (.mv rfl (.mv rfl ?_))))
     refine .q rfl (.idxN sl_25_B (Intss.sl (by assumption)) rfl rfl (by omega)) ?_
     refine .q rfl (.loadR on_24_B (by assumption) rfl (by omega)) ?_
     refine .q rfl (.len sl_24_A rfl) (.q rfl (.cmp rfl rfl rfl) (.nil (hK39 _ _ ?_)))
     refine .cond rfl (fun h139 => ?_) (fun h139 => ?_)
     ·
      simp only [sps] at h139
      omega
     try simp only [sps] at h139
     refine .skip ?_
     refine hK38 _ _ (.seq (fun K40 hK40 => ?_))
     refine .regionD mo_B (.q 0 (.q 1 (.q 2 (.q 3 (.q 4 (.q 5 (.q 6 (.q 7 (.c 8 0 (.q 9 (.q 10 (.q 11 (.q 12 (.q 13 (.done))))))))))))))) (by kernel_rfl) ?_
     refine .q rfl (.loadM ag_27_D rfl ⟨rfl, Mem.of_get at3006⟩) ?_
     refine .mv rfl rfl (.mv rfl rfl (.mv rfl rfl ?_))
     refine .q rfl (.idxN sl_25_B (Intss.sl (by assumption)) rfl rfl (by omega)) ?_
     refine .q rfl (.loadR on_24_B (by assumption) rfl (by omega)) ?_
     have w1 := iL.2 i (by omega)
     refine .q rfl (.idxN (j := 0) sl_24_A (by assumption) rfl rfl (by omega)) ?_
     refine .q rfl (.loadI on_2_A (by assumption) rfl (by omega)) ?_
     refine .call0 rfl rfl rfl rfl rfl @Try.call42 rfl (liftsOf_c) ?_
     rintro _ H149 ⟨le149, a149, rfl, v149⟩
     replace lst1 := lst1.le le149
     replace at3006 := le149.2 _ _ at3006
     replace lv_v28 := Keep.le lv_v28 le149
     replace v28 := bs_v28.keep lv_v28 (Nat.le_refl _)
     replace lv_vL := Keep.le lv_vL le149
     replace vL := bs_vL.keep lv_vL (Nat.le_refl _)
     clear i28
     have i28 := v28.inn
     clear iL
     have iL := vL.intss
     refine .mv rfl rfl (.q rfl (.extract rfl rfl) (.q rfl (.extract rfl rfl) (.mv rfl rfl (.mv rfl rfl ?_))))
     refine .done ?_
     refine hK40 _ _ (.seq (fun K41 hK41 => ?_))
     refine .regionD mo_B (.q 0 (.q 1 (.q 2 (.q 3 (.q 4 (.q 5 (.q 6 (.q 7 (.c 8 0 (.q 9 (.q 10 (.q 11 (.q 12 (.q 13 (.done))))))))))))))) (by kernel_rfl) ?_
     refine .q rfl (.loadM ag_27_D rfl ⟨rfl, Mem.of_get at3006⟩) ?_
     refine .mv rfl rfl (.mv rfl rfl (.mv rfl rfl ?_))
     refine .q rfl (.idxN sl_25_B (Intss.sl (by assumption)) rfl rfl (by omega)) ?_
     refine .q rfl (.loadR on_24_B (by assumption) rfl (by omega)) ?_
     have w1 := iL.2 i (by omega)
     refine .q rfl (.idxN (j := 0) sl_24_A (by assumption) rfl rfl (by omega)) ?_
     refine .q rfl (.loadI on_2_A (by assumption) rfl (by omega)) ?_
     refine .call0 rfl rfl rfl rfl rfl @Try.call42 rfl (liftsOf_c) ?_
     rintro _ H161 ⟨le161, a161, rfl, v161⟩
     replace lst1 := lst1.le le161
     clear i28
     clear iL
     refine .mv rfl rfl (.q rfl (.extract rfl rfl) (.q rfl (.extract rfl rfl) (.mv rfl rfl (.mv rfl rfl ?_))))
     refine .done ?_
     refine hK41 _ _ (.seq (fun K42 hK42 => .region (.mv rfl (.mv rfl ?_))))
     refine .q rfl (.add rfl rfl rfl (by omega) (by omega)) ?_
     refine .q rfl (.cmp rfl rfl rfl) (.mv rfl ?_)
     refine .split (fun h168 => ?_) (fun h168 => ?_)
     ·
      simp only [sps] at h168
      omega
     try simp only [sps] at h168
     refine .qg rfl (.move rfl) (.qg rfl (.len sl_24_A rfl) (.qg rfl (.cmp rfl rfl rfl) (.qg rfl (.move rfl) ?_)))
     refine .split (fun h172 => ?_) (fun h172 => ?_)
     ·
      try simp only [sps] at h172
      refine .qg rfl (.move rfl) (.qg rfl (.len sl_24_A rfl) (.qg rfl (.cmp rfl rfl rfl) (.qg rfl (.pickT rfl rfl) (.q rfl (.pickF rfl rfl) (.nil (hK42 _ _ ?_))))))
      refine .cond rfl (fun h177 => ?_) (fun h177 => ?_)
      ·
       simp only [sps] at h172 h177
       rw [codeL_ok hlc1] at h172
       rw [codeL_ok hlc2] at h177
       have q1 : (L.getD i []).getD 0 0 ∈ c28.facL k28 := Cat.mem_facL.2 ⟨hhd, by unfold Cat.belB; exact decide_eq_true (by omega)⟩
       have q2 := (Cat.img_mem hi0).2 _ q1
       unfold Cat.belB at q2
       simp only [sps] at q2
       omega
      try simp only [sps] at h177
      refine .skip ?_
      refine hK37 _ _ (.region (.mv rfl ?_))
      refine .q rfl (.add rfl rfl rfl (by omega) (by omega)) ?_
      refine .mv rfl (.nil ?_)
      refine hKL1 (i + 1) _ _ ?_ ?_ ⟨rfl, rfl, rfl, rfl, rfl, trivial⟩
      ·
       refine ⟨lst1, ?_⟩
       omega
      omega
     try simp only [sps] at h172
     refine .z rfl (.z rfl (.z rfl (.qg rfl (.pickF rfl rfl) (.q rfl (.pickF rfl rfl) (.nil (hK42 _ _ ?_))))))
     refine .condF rfl ?_
     refine .skip ?_
     refine hK37 _ _ (.region (.mv rfl ?_))
     refine .q rfl (.add rfl rfl rfl (by omega) (by omega)) ?_
     refine .mv rfl (.nil ?_)
     refine hKL1 (i + 1) _ _ ?_ ?_ ⟨rfl, rfl, rfl, rfl, rfl, trivial⟩
     ·
      refine ⟨lst1, ?_⟩
      omega
     omega
    try simp only [sps] at h131
    refine .exit ?_
    refine hK33 _ _ (.seq (fun K43 hK43 => .region (.mv rfl (.nil (hK43 _ _ ?_)))))
    refine .ret ?_
    refine hret _ _ ?_
    refine ⟨_, rfl, ?_⟩
    rfl
   rw [h74] at h123
   cases h123
  try simp only [sps] at h74
  refine .z rfl (.z rfl (.qg rfl (.pickF rfl rfl) (.q rfl (.pickF rfl rfl) (.nil (hK24 _ _ ?_)))))
  refine .condF rfl ?_
  refine .skip ?_
  refine hK23 _ _ (.seq (fun K44 hK44 => .seq (fun K45 hK45 => .region (.mv rfl (.q rfl (.cmp rfl rfl rfl) (.nil (hK45 _ _ ?_)))))))
  refine .cond rfl (fun h80 => ?_) (fun h80 => ?_)
  ·
   try simp only [sps] at h80
   refine .seq (fun K46 hK46 => .region (.mv rfl (.nil (hK46 _ _ ?_))))
   refine .ret ?_
   refine hret _ _ ?_
   refine ⟨_, rfl, ?_⟩
   rfl
  try simp only [sps] at h80
  refine .skip ?_
  refine hK44 _ _ (.seq (fun K47 hK47 => .region ?_))
  obtain ⟨_, hi0⟩ := Cat.imK_zero h80
  obtain ⟨l1, l2, l3, l4, l5, -⟩ := Cat.img_law hk hi0
  obtain ⟨y1, y2, -⟩ := Cat.im_yes hk (by omega)
  obtain ⟨_, m0, m1⟩ := Cat.code_one.1 l1
  obtain ⟨_, e0, e1⟩ := Cat.code_one.1 l4
  rw [y1, y2]
  refine .q rfl (.loadM ag_27_D rfl ⟨rfl, Mem.of_get at3006⟩) ?_
  refine .mv rfl ?_
  refine .callQ rfl rfl rfl rfl @Try.call23 rfl (implIsMono_c) ?_
  refine .mv rfl (.q rfl (.extract rfl rfl) (.q rfl (.extract rfl rfl) (.mv rfl (.mv rfl (.nil (hK47 _ _ (.seq (fun K48 hK48 => .region ?_))))))))
  refine .q rfl (.loadM ag_27_D rfl ⟨rfl, Mem.of_get at3006⟩) ?_
  refine .mv rfl ?_
  refine .callQ rfl rfl rfl rfl @Try.call46 rfl (isIso_c) ?_
  refine .mv rfl (.q rfl (.extract rfl rfl) (.q rfl (.extract rfl rfl) (.mv rfl (.mv rfl (.nil (hK48 _ _ (.seq (fun K49 hK49 => ?_))))))))
  refine .regionD mo_B (.q 0 (.q 1 (.q 2 (.q 3 (.q 4 (.q 5 (.c 6 0 (.q 7 (.q 8 (.q 9 (.q 10 (.q 11 (.done))))))))))))) (by kernel_rfl) ?_
  obtain ⟨-, u2, -, -⟩ := id i28
  refine .q rfl (.loadM ag_27_D rfl ⟨rfl, Mem.of_get at3006⟩) ?_
  refine .q rfl (.fieldAddr fo_27_2_B rfl) ?_
  refine .q rfl (.load on_24_B rfl (by first | assumption | exact Mem.of_get at3006 2 _ rfl)) ?_
  refine .mv rfl rfl ?_
  refine .q rfl (.idx1 sl_24_A (by assumption) rfl rfl (by omega) (by omega)) ?_
  refine .q rfl (.loadI on_2_A (by assumption) rfl (by omega)) ?_
  refine .call0 rfl rfl rfl rfl rfl @Try.call38 rfl (subobjectsOf_c) ?_
  rintro _ H100x2 ⟨le100x2, aL, rL, rfl, vL⟩
  replace at3006 := le100x2.2 _ _ at3006
  replace lv_v28 := Keep.le lv_v28 le100x2
  replace v28 := bs_v28.keep lv_v28 (Nat.le_refl _)
  have bs_vL := vL
  have lv_vL : Keep H3006.next H100x2 H100x2 := fun _ _ _ h => h
  have i28 := v28.inn
  refine .mv rfl rfl (.q rfl (.extract rfl rfl) (.q rfl (.extract rfl rfl) (.mv rfl rfl (.mv rfl rfl ?_))))
  refine .done ?_
  refine hK49 _ _ (.seq (fun K50 hK50 => .seq (fun K51 hK51 => .region (.mv rfl (.mv rfl ?_)))))
  refine .q rfl (.add rfl rfl rfl (by omega) (by omega)) ?_
  refine .mv rfl ?_
  refine .q rfl (.add rfl rfl rfl (by omega) (by omega)) ?_
  refine .q rfl (.cmp rfl rfl rfl) (.mv rfl ?_)
  refine .split (fun h109 => ?_) (fun h109 => ?_)
  ·
   simp only [sps] at h109
   omega
  try simp only [sps] at h109
  refine .qg rfl (.move rfl) (.qg rfl (.not rfl) (.q rfl (.pickF rfl rfl) (.mv rfl ?_)))
  refine .split (fun h113 => ?_) (fun h113 => ?_)
  ·
   rw [l2] at h113
   cases h113
  try simp only [sps] at h113
  refine .qg rfl (.loadM ag_27_D rfl ⟨rfl, Mem.of_get at3006⟩) ?_
  refine .qg rfl (.move rfl) (.qg rfl (.move rfl) ?_)
  refine .callQg rfl rfl rfl rfl rfl rfl @Try.call29 rfl (then9_c) ?_
  refine .qg rfl (.move rfl) (.qg rfl (.cmp rfl rfl rfl) (.q rfl (.pickF rfl rfl) (.mv rfl ?_)))
  refine .split (fun h121 => ?_) (fun h121 => ?_)
  ·
   rw [l5] at h121
   simp at h121
  try simp only [sps] at h121
  refine .qg rfl (.move rfl) (.qg rfl (.move rfl) ?_)
  refine .split (fun h123 => ?_) (fun h123 => ?_)
  ·
   rw [h74] at h123
   cases h123
  try simp only [sps] at h123
  refine .z rfl (.z rfl (.qg rfl (.pickF rfl rfl) (.q rfl (.pickF rfl rfl) (.nil (hK51 _ _ ?_)))))
  refine .condF rfl ?_
  refine .skip ?_
  refine hK50 _ _ (.seq (fun K52 hK52 => .seq (fun K53 hK53 => .region ?_)))
  generalize hL : codeLL (c28.codeO [(c28.tgt.getD k28.toNat 0)]) (c28.subs (c28.tgt.getD k28.toNat 0)) = L at *
  have hLs : L = c28.subs (c28.tgt.getD k28.toNat 0) := hL.symm.trans (codeLL_ok hco)
  have hok : ClsOk (c28.ToX (c28.tgt.getD k28.toNat 0)) c28.eqvB L := by rw [hLs]; exact Cat.subs_ok hIs _
  have hL40 : L.length ≤ 40 := by
    have q1 := hok.len
    have q2 : totN L L.length = (c28.toL (c28.tgt.getD k28.toNat 0) c28.src.length).length := by rw [hLs]; exact Cat.subs_tot hIs _
    have q3 := filtN_le c28.src.length (fun m => decide (c28.tgt.getD m 0 = (c28.tgt.getD k28.toNat 0)) && B (c28.Mono m))
    unfold Cat.toL at q2
    omega
  refine .mv rfl (.nil (hK53 _ _ ?_))
  refine .block ?_
  refine .loopR (σ := Nat) [(3, some _), (4, some _), (5, some _), (17, some _)] (fun i => [(19, some (.int .i64 (i : Int)))]) (fun i H' => St [] H100x2 H' ∧ i ≤ L.length) (fun i => L.length - i) (0) ⟨rfl, rfl, rfl, rfl, trivial⟩ ⟨rfl, trivial⟩ ?_ ?_
  ·
   refine ⟨.refl _ _, ?_⟩
   omega
  rintro i HL1 ⟨lst1, hI⟩ KL1 hKL1
  refine .forget (fr' := [(19, some (.int .i64 (i : Int))), (3, some _), (4, some _), (5, some _), (17, some _)]) ⟨rfl, rfl, rfl, rfl, rfl, trivial⟩ ?_
  replace at3006 := lst1.same _ _ trivial at3006
  replace lv_v28 := Keep.st lv_v28 lst1 (fun k hb hk => trivial)
  replace v28 := bs_v28.keep lv_v28 (Nat.le_refl _)
  replace lv_vL := Keep.st lv_vL lst1 (fun k hb hk => trivial)
  replace vL := bs_vL.keep lv_vL (Nat.le_refl _)
  clear i28
  have i28 := v28.inn
  have iL := vL.intss
  refine .seq (fun K54 hK54 => .seq (fun K55 hK55 => .region (.mv rfl (.mv rfl (.q rfl (.len sl_25_B rfl) (.q rfl (.cmp rfl rfl rfl) (.nil (hK55 _ _ ?_))))))))
  refine .cond rfl (fun h131 => ?_) (fun h131 => ?_)
  ·
   simp only [sps] at h131
   have hne := hok.ne i (by omega)
   have hhd : c28.ToX (c28.tgt.getD k28.toNat 0) ((L.getD i []).getD 0 0) := hok.hd (i := i) (by omega)
   have g0 := hhd.ge
   have g1 := hhd.lt
   have hlc1 : c28.liC k28 ((L.getD i []).getD 0 0) = 0 := Cat.liC_ok (Cat.code_two.2 ⟨hIs, ⟨f0, f1⟩, g0, g1⟩) hhd.tg.symm
   have hlc2 : c28.liC (c28.imgI k28) ((L.getD i []).getD 0 0) = 0 := Cat.liC_ok (Cat.code_two.2 ⟨hIs, ⟨m0, m1⟩, g0, g1⟩) (l3.trans hhd.tg.symm)
   refine .skip ?_
   refine hK54 _ _ (.seq (fun K56 hK56 => ?_))
   refine .block ?_
   refine .seq (fun K57 hK57 => .seq (fun K58 hK58 => .region (.mv rfl (.mv rfl ?_))))
   refine .q rfl (.idxN sl_25_B (Intss.sl (by assumption)) rfl rfl (by omega)) ?_
   refine .q rfl (.loadR on_24_B (by assumption) rfl (by omega)) ?_
   refine .q rfl (.len sl_24_A rfl) (.q rfl (.cmp rfl rfl rfl) (.nil (hK58 _ _ ?_)))
   refine .cond rfl (fun h139 => ?_) (fun h139 => ?_)
   ·
    simp only [sps] at h139
    omega
   try simp only [sps] at h139
   refine .skip ?_
   refine hK57 _ _ (.seq (fun K59 hK59 => ?_))
   refine .regionD mo_B (.q 0 (.q 1 (.q 2 (.q 3 (.q 4 (.q 5 (.q 6 (.q 7 (.c 8 0 (.q 9 (.q 10 (.q 11 (.q 12 (.q 13 (.done))))))))))))))) (by kernel_rfl) ?_
   refine .q rfl (.loadM ag_27_D rfl ⟨rfl, Mem.of_get at3006⟩) ?_
   refine .mv rfl rfl (.mv rfl rfl (.mv rfl rfl ?_))
   refine .q rfl (.idxN sl_25_B (Intss.sl (by assumption)) rfl rfl (by omega)) ?_
   refine .q rfl (.loadR on_24_B (by assumption) rfl (by omega)) ?_
   have w1 := iL.2 i (by omega)
   refine .q rfl (.idxN (j := 0) sl_24_A (by assumption) rfl rfl (by omega)) ?_
   refine .q rfl (.loadI on_2_A (by assumption) rfl (by omega)) ?_
   refine .call0 rfl rfl rfl rfl rfl @Try.call42 rfl (liftsOf_c) ?_
   rintro _ H149x2 ⟨le149x2, a149x2, rfl, v149x2⟩
   replace lst1 := lst1.le le149x2
   replace at3006 := le149x2.2 _ _ at3006
   replace lv_v28 := Keep.le lv_v28 le149x2
   replace v28 := bs_v28.keep lv_v28 (Nat.le_refl _)
   replace lv_vL := Keep.le lv_vL le149x2
   replace vL := bs_vL.keep lv_vL (Nat.le_refl _)
   clear i28
   have i28 := v28.inn
   clear iL
   have iL := vL.intss
   refine .mv rfl rfl (.q rfl (.extract rfl rfl) (.q rfl (.extract rfl rfl) (.mv rfl rfl (.mv rfl rfl ?_))))
   refine .done ?_
   refine hK59 _ _ (.seq (fun K60 hK60 => ?_))
   refine .regionD mo_B (.q 0 (.q 1 (.q 2 (.q 3 (.q 4 (.q 5 (.q 6 (.q 7 (.c 8 0 (.q 9 (.q 10 (.q 11 (.q 12 (.q 13 (.done))))))))))))))) (by kernel_rfl) ?_
   refine .q rfl (.loadM ag_27_D rfl ⟨rfl, Mem.of_get at3006⟩) ?_
   refine .mv rfl rfl (.mv rfl rfl (.mv rfl rfl ?_))
   refine .q rfl (.idxN sl_25_B (Intss.sl (by assumption)) rfl rfl (by omega)) ?_
   refine .q rfl (.loadR on_24_B (by assumption) rfl (by omega)) ?_
   have w1 := iL.2 i (by omega)
   refine .q rfl (.idxN (j := 0) sl_24_A (by assumption) rfl rfl (by omega)) ?_
   refine .q rfl (.loadI on_2_A (by assumption) rfl (by omega)) ?_
   refine .call0 rfl rfl rfl rfl rfl @Try.call42 rfl (liftsOf_c) ?_
   rintro _ H161x2 ⟨le161x2, a161x2, rfl, v161x2⟩
   replace lst1 := lst1.le le161x2
   clear i28
   clear iL
   refine .mv rfl rfl (.q rfl (.extract rfl rfl) (.q rfl (.extract rfl rfl) (.mv rfl rfl (.mv rfl rfl ?_))))
   refine .done ?_
   refine hK60 _ _ (.seq (fun K61 hK61 => .region (.mv rfl (.mv rfl ?_))))
   refine .q rfl (.add rfl rfl rfl (by omega) (by omega)) ?_
   refine .q rfl (.cmp rfl rfl rfl) (.mv rfl ?_)
   refine .split (fun h168 => ?_) (fun h168 => ?_)
   ·
    simp only [sps] at h168
    omega
   try simp only [sps] at h168
   refine .qg rfl (.move rfl) (.qg rfl (.len sl_24_A rfl) (.qg rfl (.cmp rfl rfl rfl) (.qg rfl (.move rfl) ?_)))
   refine .split (fun h172 => ?_) (fun h172 => ?_)
   ·
    try simp only [sps] at h172
    refine .qg rfl (.move rfl) (.qg rfl (.len sl_24_A rfl) (.qg rfl (.cmp rfl rfl rfl) (.qg rfl (.pickT rfl rfl) (.q rfl (.pickF rfl rfl) (.nil (hK61 _ _ ?_))))))
    refine .cond rfl (fun h177 => ?_) (fun h177 => ?_)
    ·
     simp only [sps] at h172 h177
     rw [codeL_ok hlc1] at h172
     rw [codeL_ok hlc2] at h177
     have q1 : (L.getD i []).getD 0 0 ∈ c28.facL k28 := Cat.mem_facL.2 ⟨hhd, by unfold Cat.belB; exact decide_eq_true (by omega)⟩
     have q2 := (Cat.img_mem hi0).2 _ q1
     unfold Cat.belB at q2
     simp only [sps] at q2
     omega
    try simp only [sps] at h177
    refine .skip ?_
    refine hK56 _ _ (.region (.mv rfl ?_))
    refine .q rfl (.add rfl rfl rfl (by omega) (by omega)) ?_
    refine .mv rfl (.nil ?_)
    refine hKL1 (i + 1) _ _ ?_ ?_ ⟨rfl, rfl, rfl, rfl, rfl, trivial⟩
    ·
     refine ⟨lst1, ?_⟩
     omega
    omega
   try simp only [sps] at h172
   refine .z rfl (.z rfl (.z rfl (.qg rfl (.pickF rfl rfl) (.q rfl (.pickF rfl rfl) (.nil (hK61 _ _ ?_))))))
   refine .condF rfl ?_
   refine .skip ?_
   refine hK56 _ _ (.region (.mv rfl ?_))
   refine .q rfl (.add rfl rfl rfl (by omega) (by omega)) ?_
   refine .mv rfl (.nil ?_)
   refine hKL1 (i + 1) _ _ ?_ ?_ ⟨rfl, rfl, rfl, rfl, rfl, trivial⟩
   ·
    refine ⟨lst1, ?_⟩
    omega
   omega
  try simp only [sps] at h131
  refine .exit ?_
  refine hK52 _ _ (.seq (fun K62 hK62 => .region (.mv rfl (.nil (hK62 _ _ ?_)))))
  refine .ret ?_
  refine hret _ _ ?_
  refine ⟨_, rfl, ?_⟩
  rfl
end Go.Proofs.Ytolfggcanbpknaa
