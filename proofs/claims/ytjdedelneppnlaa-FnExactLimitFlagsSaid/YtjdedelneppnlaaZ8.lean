/- Equivalences. No condition but those of each statement. -/
import Derived.Test.YtjdedelneppnlaaZ7
namespace Go.Proofs.Ytjdedelneppnlaa
open Go Go.GL Go.RowKit Go.Proofs
theorem l02Hom_c {c : Cat} {p : CatP} {x y : Int} {H : GHeap} (hin : c.In H p := by assumption) (hS : c.Shape := by assumption) :
    GCalls Try.prog 127 [.agg (c.cells p).toArray, .int .i64 x, .int .i64 y] H (NewInts 2 H (c.hom x y)) := by
  refine GCalls.body (N := 38) (rs := [.tmp 6]) Try.func127 rfl rfl rfl rfl (fun Qx hret hend => ?_)
  refine .fg [0, 1, 2] rfl ?_
  have hle := GHeap.Le.refl H
  have base_hin := hin
  have q1 := hS.tl
  have q2 := hS.n40
  refine .seq (fun K1 hK1 => .region ?_)
  refine .R rfl (.boxR rfl sz_29_D rfl) ?_
  rintro _ H3 ⟨g3, rfl, le3, ge3, at3⟩
  replace hle := hle.trans le3
  have lt_at3 := GHeap.ltg at3
  replace hin := base_hin.mono hle
  have hb3 : Cat.At _ g3 0 c p := ⟨Mem.of_get at3, hin⟩
  refine .mv rfl (.nil (hK1 _ _ (.seq (fun K2 hK2 => .region ?_))))
  refine .R rfl (.litA rfl sl_22_A ze_2_E rfl rfl rfl rfl) ?_
  rintro _ H9 ⟨g9, rfl, le9, ge9, at9⟩
  replace hle := hle.trans le9
  replace at3 := le9.2 _ _ at3
  have lt_at9 := GHeap.ltg at9
  replace hin := base_hin.mono hle
  clear hb3
  have hb3 : Cat.At _ g3 0 c p := ⟨Mem.of_get at3, hin⟩
  replace at9 : GHeap.get H9 g9 = some (.row (ints []) 2 true) := at9
  refine .mv rfl (.nil (hK2 _ _ (.seq (fun K3 hK3 => .seq (fun K4 hK4 => .region (.mv rfl (.nil (hK4 _ _ ?_))))))))
  refine .block ?_
  refine .loopR (σ := Nat × Nat × Nat) [(1, some _), (2, some _), (3, some _)] (fun (k, gL7, nL7) => [(8, some (.int .i64 (k : Int))), (7, some (.slice (some ⟨gL7, 0, none⟩) nL7 nL7))]) (fun (k, gL7, nL7) H' => St [g9] H9 H' ∧ H'.get gL7 = some (.row (ints (filtN k fun f => decide (c.src.getD f 0 = x) && decide (c.tgt.getD f 0 = y))) 2 true) ∧ (gL7 = g9 ∨ H9.next ≤ gL7) ∧ nL7 = (filtN k fun f => decide (c.src.getD f 0 = x) && decide (c.tgt.getD f 0 = y)).length ∧ k ≤ c.src.length) (fun (k, gL7, nL7) => c.src.length - k) ((0, _, _)) ⟨rfl, rfl, rfl, trivial⟩ ⟨rfl, rfl, trivial⟩ ?_ ?_
  ·
   refine ⟨.refl _ _, by assumption, .inl rfl, by rfl, ?_⟩
   omega
  rintro ⟨k, gL7, nL7⟩ HL1 ⟨lst1, at_L7, pl_L7, ln_L7, hI⟩ KL1 hKL1
  refine .forget (fr' := [(8, some (.int .i64 (k : Int))), (7, some (.slice (some ⟨gL7, 0, none⟩) nL7 nL7)), (1, some _), (2, some _), (3, some _)]) ⟨rfl, rfl, rfl, rfl, rfl, trivial⟩ ?_
  have ge_L7 : H.next ≤ gL7 := by omega
  have nx_HL1 := lst1.nx
  replace hle := hle.st lst1 (fun k hk => ⟨by omega, trivial⟩)
  replace at3 := lst1.s at3
  replace hin := base_hin.mono hle
  clear hb3
  have hb3 : Cat.At _ g3 0 c p := ⟨Mem.of_get at3, hin⟩
  obtain ⟨-, c13, c23, -, -, i13, i23, -, -⟩ := hb3.get
  have hfl := filtN_le k fun f => decide (c.src.getD f 0 = x) && decide (c.tgt.getD f 0 = y)
  refine .seq (fun K5 hK5 => .seq (fun K6 hK6 => .region (.mv rfl (.q rfl (.fieldAddr fo_29_1_B rfl) ?_))))
  refine .q rfl (.load on_22_B rfl (by first | assumption | exact Mem.of_get at3 1 _ rfl)) ?_
  refine .q rfl (.len sl_22_A rfl) (.q rfl (.cmp rfl rfl rfl) (.nil (hK6 _ _ ?_)))
  refine .cond rfl (fun h14 => ?_) (fun h14 => ?_)
  ·
   try simp only [sps] at h14
   refine .skip ?_
   refine hK5 _ _ (.seq (fun K7 hK7 => ?_))
   refine .block ?_
   refine .seq (fun K8 hK8 => .region (.q rfl (.fieldAddr fo_29_1_B rfl) ?_))
   refine .q rfl (.load on_22_B rfl (by first | assumption | exact Mem.of_get at3 1 _ rfl)) ?_
   refine .mv rfl ?_
   refine .q rfl (.idxN sl_22_A (by assumption) rfl rfl (by omega)) ?_
   refine .q rfl (.loadI on_2_A (by assumption) rfl (by omega)) ?_
   refine .mv rfl (.q rfl (.cmp rfl rfl rfl) (.mv rfl ?_))
   refine .split (fun h24 => ?_) (fun h24 => ?_)
   ·
    try simp only [sps] at h24
    refine .qg rfl (.fieldAddr fo_29_2_B rfl) ?_
    refine .qg rfl (.load on_22_B rfl (by first | assumption | exact Mem.of_get at3 2 _ rfl)) ?_
    refine .qg rfl (.move rfl) ?_
    refine .qg rfl (.idxN sl_22_A (by assumption) rfl rfl (by omega)) ?_
    refine .qg rfl (.loadI on_2_A (by assumption) rfl (by omega)) ?_
    refine .qg rfl (.move rfl) (.qg rfl (.cmp rfl rfl rfl) (.q rfl (.pickT rfl rfl) (.nil (hK8 _ _ ?_))))
    refine .cond rfl (fun h32 => ?_) (fun h32 => ?_)
    ·
     try simp only [sps] at h32
     refine .region (.mv rfl (.mv rfl ?_))
     refine .R rfl (.litA rfl sl_22_A ze_2_E rfl rfl rfl rfl) ?_
     rintro _ H35 ⟨g35, rfl, le35, ge35, at35⟩
     replace hle := hle.trans le35
     replace lst1 := lst1.le le35
     replace at3 := le35.2 _ _ at3
     replace at_L7 := le35.2 _ _ at_L7
     have lt_at35 := GHeap.ltg at35
     replace hin := base_hin.mono hle
     clear hb3 c13 c23 i13 i23
     have hb3 : Cat.At _ g3 0 c p := ⟨Mem.of_get at3, hin⟩
     refine .R rfl (.appendI rfl sl_22_A ze_2_E rfl by_2_E sl_22_A rfl rfl (by assumption) (by assumption) (by first | omega | (simp <;> omega)) (by omega) (by omega)) ?_
     rintro _ H36 ⟨g36, rfl, st36, ge36, at36⟩
     replace hle := hle.st st36 (fun k hk => ⟨by omega, trivial⟩)
     replace lst1 := lst1.sA st36
     replace at3 := st36.s at3
     replace hin := base_hin.mono hle
     clear hb3
     have hb3 : Cat.At _ g3 0 c p := ⟨Mem.of_get at3, hin⟩
     refine .mv rfl (.nil (hK7 _ _ (.region (.mv rfl ?_))))
     refine .q rfl (.add rfl rfl rfl (by omega) (by omega)) ?_
     refine .mv rfl (.nil ?_)
     refine hKL1 ((k + 1, _, _)) _ _ ?_ ?_ ⟨rfl, rfl, rfl, rfl, rfl, trivial⟩
     ·
      refine ⟨lst1, by (rw [filtN_T (by simp only [sps]; omega)]; assumption), by omega, by (rw [filtN_T (by simp only [sps]; omega)] <;> (first | omega | (simp only [List.length_append, List.length_cons, List.length_nil] <;> omega))), ?_⟩
      omega
     (dsimp only; omega)
    try simp only [sps] at h32
    refine .skip ?_
    refine hK7 _ _ (.region (.mv rfl ?_))
    refine .q rfl (.add rfl rfl rfl (by omega) (by omega)) ?_
    refine .mv rfl (.nil ?_)
    refine hKL1 ((k + 1, _, _)) _ _ ?_ ?_ ⟨rfl, rfl, rfl, rfl, rfl, trivial⟩
    ·
     refine ⟨lst1, by (rw [filtN_F (by simp only [sps]; omega)]; assumption), by omega, by (rw [filtN_F (by simp only [sps]; omega)] <;> (first | omega | (simp only [List.length_append, List.length_cons, List.length_nil] <;> omega))), ?_⟩
     omega
    (dsimp only; omega)
   try simp only [sps] at h24
   refine .z rfl (.z rfl (.z rfl (.z rfl (.z rfl (.z rfl (.z rfl (.q rfl (.pickF rfl rfl) (.nil (hK8 _ _ ?_)))))))))
   refine .condF rfl ?_
   refine .skip ?_
   refine hK7 _ _ (.region (.mv rfl ?_))
   refine .q rfl (.add rfl rfl rfl (by omega) (by omega)) ?_
   refine .mv rfl (.nil ?_)
   refine hKL1 ((k + 1, _, _)) _ _ ?_ ?_ ⟨rfl, rfl, rfl, rfl, rfl, trivial⟩
   ·
    refine ⟨lst1, by (rw [filtN_F (by simp only [sps]; omega)]; assumption), by omega, by (rw [filtN_F (by simp only [sps]; omega)] <;> (first | omega | (simp only [List.length_append, List.length_cons, List.length_nil] <;> omega))), ?_⟩
    omega
   (dsimp only; omega)
  try simp only [sps] at h14
  refine .exit ?_
  refine hK3 _ _ (.seq (fun K9 hK9 => .region (.mv rfl (.mv rfl (.nil (hK9 _ _ ?_))))))
  refine .ret ?_
  refine hret _ _ ?_
  refine ⟨_, rfl, ?_⟩
  obtain rfl : k = c.src.length := by omega
  exact ⟨hle, _, by rw [ln_L7]; rfl, at_L7, ge_L7⟩
theorem l02Then_c {c : Cat} {p : CatP} {f k : Int} {H : GHeap} (hin : c.In H p := by assumption) (hS : c.Shape := by assumption) (h0 : 0 ≤ f := by omega) (h1 : f < c.src.length := by omega) (h2 : 0 ≤ k := by omega) (h3 : k < c.src.length := by omega) :
    GCalls Try.prog 129 [.agg (c.cells p).toArray, .int .i64 f, .int .i64 k] H (Ret (.int .i64 (c.th f k)) H) := by
  refine GCalls.ret rfl ?_
  refine GCalls.body (N := 15) (rs := [.tmp 6]) Try.func129 rfl rfl rfl rfl (fun Qx hret hend => ?_)
  refine .fg [0, 1, 2] rfl ?_
  have hle := GHeap.Le.refl H
  have base_hin := hin
  have q6 := hS.cl
  have q7 := hS.row f.toNat (by omega)
  refine .seq (fun K1 hK1 => .region ?_)
  refine .R rfl (.boxR rfl sz_29_D rfl) ?_
  rintro _ H3 ⟨g3, rfl, le3, ge3, at3⟩
  replace hle := hle.trans le3
  replace hin := base_hin.mono hle
  have hb3 : Cat.At _ g3 0 c p := ⟨Mem.of_get at3, hin⟩
  obtain ⟨-, -, -, -, c43, -, -, -, i43⟩ := hb3.get
  refine .mv rfl (.nil (hK1 _ _ (.seq (fun K2 hK2 => .region ?_))))
  have q8 := i43.2 f.toNat (by omega)
  refine .q rfl (.fieldAddr fo_29_4_B rfl) ?_
  refine .q rfl (.load on_23_B rfl (by first | assumption | exact Mem.of_get at3 4 _ rfl)) ?_
  refine .mv rfl ?_
  refine .q rfl (.idx1 sl_23_B (Intss.sl (by assumption)) rfl rfl (by omega) (by omega)) ?_
  refine .q rfl (.loadR on_22_B (by assumption) rfl (by omega)) ?_
  refine .mv rfl ?_
  refine .q rfl (.idx1 sl_22_A (by assumption) rfl rfl (by omega) (by omega)) ?_
  refine .q rfl (.loadI on_2_A (by assumption) rfl (by omega)) ?_
  refine .mv rfl (.nil (hK2 _ _ ?_))
  refine .ret ?_
  refine hret _ _ ?_
  refine ⟨_, rfl, ?_⟩
  exact ⟨rfl, hle⟩
end Go.Proofs.Ytjdedelneppnlaa
namespace Go.Proofs.Ytjdedelneppnlaa
open Go Go.GL Go.RowKit Go.Proofs
end Go.Proofs.Ytjdedelneppnlaa
namespace Go.Proofs.Ytjdedelneppnlaa
open Go Go.GL Go.RowKit Go.Proofs
end Go.Proofs.Ytjdedelneppnlaa
namespace Go.Proofs.Ytjdedelneppnlaa
open Go Go.GL Go.RowKit Go.Proofs
end Go.Proofs.Ytjdedelneppnlaa
namespace Go.Proofs.Ytjdedelneppnlaa
open Go Go.GL Go.RowKit Go.Proofs
end Go.Proofs.Ytjdedelneppnlaa
namespace Go.Proofs.Ytjdedelneppnlaa
open Go Go.GL Go.RowKit Go.Proofs
theorem l01Own_c {a : Option Addr} {xs : List Int} {H : GHeap} (h : Ints H a xs := by assumption) (hl : xs.length ≤ 1048576 := by omega) :
    GCalls Try.prog 92 [.slice a xs.length xs.length] H (NewInts 2 H xs) := by
  refine GCalls.body (N := 6) (rs := [.tmp 2]) Try.func92 rfl rfl rfl rfl (fun Qx hret hend => ?_)
  refine .fg [0] rfl ?_
  have hle := GHeap.Le.refl H
  have base_h := h
  refine .seq (fun K1 hK1 => .region (.mv rfl (.nil (hK1 _ _ (.seq (fun K2 hK2 => .region ?_))))))
  refine .R rfl (.litA rfl sl_22_A ze_2_E rfl rfl rfl rfl) ?_
  rintro _ H3 ⟨g3, rfl, le3, ge3, at3⟩
  replace hle := hle.trans le3
  have lt_at3 := GHeap.ltg at3
  replace h := base_h.mono hle
  replace at3 : GHeap.get H3 g3 = some (.row (ints []) 2 true) := at3
  refine .mv rfl ?_
  refine .R rfl (.appendL rfl sl_22_A ze_2_E rfl by_2_E sl_22_A rfl rfl (by assumption) (by first | assumption | exact Ints.of_get (by assumption)) (by first | omega | (simp <;> omega)) (by omega) (by omega)) ?_
  rintro _ H5 ⟨g5, rfl, st5, ge5, at5⟩
  replace hle := hle.st st5 (fun k hk => ⟨by omega, trivial⟩)
  refine .mv rfl (.nil (hK2 _ _ ?_))
  refine .ret ?_
  refine hret _ _ ?_
  refine ⟨_, rfl, ?_⟩
  exact ⟨hle, _, by rw [Nat.zero_add], by simpa using at5, by omega⟩
theorem clone_c {a : Option Addr} {xs : List Int} {H : GHeap} (h : Ints H a xs := by assumption) (hl : xs.length ≤ 1048576 := by omega) :
    GCalls Try.prog 95 [.slice a xs.length xs.length] H (NewInts 2 H xs) := by
  refine GCalls.body (N := 6) (rs := [.tmp 2]) Try.func95 rfl rfl rfl rfl (fun Qx hret hend => ?_)
  refine .fg [0] rfl ?_
  have hle := GHeap.Le.refl H
  have base_h := h
  refine .seq (fun K1 hK1 => .region (.mv rfl (.nil (hK1 _ _ (.seq (fun K2 hK2 => .region ?_))))))
  refine .R rfl (.litA rfl sl_22_A ze_2_E rfl rfl rfl rfl) ?_
  rintro _ H3 ⟨g3, rfl, le3, ge3, at3⟩
  replace hle := hle.trans le3
  have lt_at3 := GHeap.ltg at3
  replace h := base_h.mono hle
  replace at3 : GHeap.get H3 g3 = some (.row (ints []) 2 true) := at3
  refine .mv rfl ?_
  refine .R rfl (.appendL rfl sl_22_A ze_2_E rfl by_2_E sl_22_A rfl rfl (by assumption) (by first | assumption | exact Ints.of_get (by assumption)) (by first | omega | (simp <;> omega)) (by omega) (by omega)) ?_
  rintro _ H5 ⟨g5, rfl, st5, ge5, at5⟩
  replace hle := hle.st st5 (fun k hk => ⟨by omega, trivial⟩)
  refine .mv rfl (.nil (hK2 _ _ ?_))
  refine .ret ?_
  refine hret _ _ ?_
  refine ⟨_, rfl, ?_⟩
  exact ⟨hle, _, by rw [Nat.zero_add], by simpa using at5, by omega⟩
end Go.Proofs.Ytjdedelneppnlaa
namespace Go.GL
structure Cans (xs : List Int) (n : Nat) (X : Int → Nat → Int) : Prop where
  all : ∀ i j, i < j → j < xs.length → ∃ w, w < n ∧ X (xs.getD i 0) w ≠ X (xs.getD j 0) w
structure Cat.Jm (c : Cat) (x : Int) (fs : List Int) : Prop where
  all : ∀ g h : Nat, g < c.src.length → h < c.src.length → c.src.getD g 0 = c.src.getD h 0 → c.tgt.getD g 0 = x → c.tgt.getD h 0 = x → (∀ w, w < fs.length → c.th g (fs.getD w 0) = c.th h (fs.getD w 0)) → g = h
structure Cat.Je (c : Cat) (x : Int) (fs : List Int) : Prop where
  all : ∀ g h : Nat, g < c.src.length → h < c.src.length → c.tgt.getD g 0 = c.tgt.getD h 0 → c.src.getD g 0 = x → c.src.getD h 0 = x → (∀ w, w < fs.length → c.th (fs.getD w 0) g = c.th (fs.getD w 0) h) → g = h
structure Cat.Mono (c : Cat) (f : Int) : Prop where
  all : ∀ g h : Nat, g < c.src.length → h < c.src.length → c.src.getD g 0 = c.src.getD h 0 → c.tgt.getD g 0 = c.S f → c.tgt.getD h 0 = c.S f → c.th g f = c.th h f → g = h
structure Cat.Epi (c : Cat) (f : Int) : Prop where
  all : ∀ g h : Nat, g < c.src.length → h < c.src.length → c.tgt.getD g 0 = c.tgt.getD h 0 → c.src.getD g 0 = c.T f → c.src.getD h 0 = c.T f → c.th f g = c.th f h → g = h
theorem Cat.hom_nd (c : Cat) (x y : Int) : (c.hom x y).Nodup := filtN_nd _ _
theorem Cat.op_tab {c : Cat} (hS : c.Shape) : tabL c.tgt c.src (fun i j => (c.comp.getD j []).getD i 0) c.src.length = c.opTab c.src.length := by
  unfold tabL rowsOf Cat.opTab
  apply List.ext_getElem (by simp)
  intro i h1 h2
  simp only [List.length_map, List.length_range] at h1
  simp only [List.getElem_map, List.getElem_range]
  unfold tabR Cat.opRow
  apply List.ext_getElem (by simp)
  intro j k1 k2
  simp only [List.length_map, List.length_range] at k1
  simp only [List.getElem_map, List.getElem_range]
  by_cases e : c.src.getD i 0 = c.tgt.getD j 0
  · rw [tabC_T e]
  · rw [tabC_F e]
    exact ((Cat.Cell.neg (fun e' => e e'.symm)).1 (hS.cell j (by have := hS.cl; omega) i h1)).symm
theorem Cat.op_get {c : Cat} {f g : Nat} (hf : f < c.src.length) (hg : g < c.src.length) : (c.op.comp.getD f []).getD g 0 = (c.comp.getD g []).getD f 0 := by
  show ((c.opTab c.src.length).getD f []).getD g 0 = _
  rw [Cat.opTab_get hf, Cat.opRow_get hg]
theorem Cat.Shape.op {c : Cat} (h : c.Shape) : c.op.Shape := by
  have tl := h.tl
  have cl := h.cl
  refine ⟨h.obj, by show c.tgt.length ≤ 40; have := h.n40; omega, tl.symm, h.tgt, h.src, h.il, fun i hi => by have := h.idn i hi; show 0 ≤ c.idn.getD i 0 ∧ c.idn.getD i 0 < (c.tgt.length : Int); omega, by show (c.opTab c.src.length).length = c.tgt.length; rw [Cat.length_opTab]; omega, fun x hx => (h.ids x hx).symm, fun f hf => ?_, fun f hf g hg => ?_⟩
  · have hf' : f < c.src.length := by simpa [Cat.op] using hf
    show ((c.opTab c.src.length).getD f []).length = c.tgt.length
    rw [Cat.opTab_get hf', Cat.length_opRow]; omega
  · have hf' : f < c.src.length := by simpa [Cat.op] using hf
    have hg' : g < c.src.length := by have : g < c.tgt.length := hg; omega
    have hc := h.cell g (by omega) f hf'
    have e0 := Cat.op_get hf' hg'
    by_cases e : c.tgt.getD g 0 = c.src.getD f 0
    · have q := (Cat.Cell.pos e).1 hc
      refine (Cat.Cell.pos (c := c.op) e.symm).2 ?_
      rw [e0]
      exact ⟨q.1, by show _ < (c.tgt.length : Int); omega, q.2.2.2, q.2.2.1⟩
    · refine (Cat.Cell.neg (c := c.op) (fun e' => e e'.symm)).2 ?_
      rw [e0]
      exact (Cat.Cell.neg e).1 hc
theorem Cat.op_th {c : Cat} {f g : Nat} (hf : f < c.src.length) (hg : g < c.src.length) : c.op.th f g = c.th g f := by
  rw [Cat.th_nat, Cat.th_nat]; exact Cat.op_get hf hg
theorem Cat.Is.op {c : Cat} (h : c.Is) : c.op.Is := by
  have hS := h.1
  have tl := hS.tl
  refine ⟨hS.op, fun f hf => ?_, fun f hf g hg e k hk e' => ?_⟩
  · have hf' : f < c.src.length := by have : f < c.tgt.length := hf; omega
    have hid := h.2.ids f hf'
    have s1 := hS.src f hf'
    have t1 := hS.tgt f (by omega)
    have i1 := hS.idn_lt s1.1 s1.2
    have i2 := hS.idn_lt t1.1 t1.2
    constructor
    · have := Cat.op_th (c := c) (f := (c.idn.getD (c.tgt.getD f 0).toNat 0).toNat) (g := f) (by omega) hf'
      rw [Int.toNat_of_nonneg i2.1] at this
      exact this.trans hid.2
    · have := Cat.op_th (c := c) (g := (c.idn.getD (c.src.getD f 0).toNat 0).toNat) (f := f) hf' (by omega)
      rw [Int.toNat_of_nonneg i1.1] at this
      exact this.trans hid.1
  · have hf' : f < c.src.length := by have : f < c.tgt.length := hf; omega
    have hg' : g < c.src.length := by have : g < c.tgt.length := hg; omega
    have hk' : k < c.src.length := by have : k < c.tgt.length := hk; omega
    have e1 : c.tgt.getD g 0 = c.src.getD f 0 := e.symm
    have e2 : c.tgt.getD k 0 = c.src.getD g 0 := e'.symm
    obtain ⟨p1, p2, p3, p4⟩ := hS.tn hg' hf' e1
    obtain ⟨q1, q2, q3, q4⟩ := hS.tn hk' hg' e2
    rw [Cat.op_th hf' hg', Cat.op_th hg' hk']
    have a1 : c.th (g : Int) f = (c.tn g f : Int) := by rw [Cat.th_nat]; exact p4
    have a2 : c.th (k : Int) g = (c.tn k g : Int) := by rw [Cat.th_nat]; exact q4
    rw [a1, a2, Cat.op_th p1 hk', Cat.op_th hf' q1, ← a1, ← a2]
    exact (h.2.as k hk' g hg' e2 f hf' e1).symm
theorem Cat.code_nil {c : Cat} : c.code [] = 0 ↔ c.Is := by
  rw [Cat.code_ok]
  exact ⟨fun h => h.1, fun h => ⟨h, allIn_iff.2 fun i hi => by simp at hi⟩⟩
theorem Cat.code_nil1 {c : Cat} (h : ¬ c.Is) : c.code [] = 1 := Cat.code_not h
def Cat.term (c : Cat) : List Int := filtN c.obj.toNat fun x => allN c.obj.toNat fun y => decide ((c.hom (y : Int) (x : Int)).length = 1)
end Go.GL
namespace Go.Proofs.Ytjdedelneppnlaa
open Go Go.GL Go.RowKit Go.Proofs
end Go.Proofs.Ytjdedelneppnlaa
namespace Go.Proofs.Ytjdedelneppnlaa
open Go Go.GL Go.RowKit Go.Proofs
theorem ze_22_Tb : zeroT Try.prog 22 = some ([.slice none 0 0], 1) := by kernel_rfl
theorem by_22_Tb : (Try.prog.info? 22).map (·.bytes) = some 24 := by kernel_rfl
theorem sz_23_Tb : (Try.prog.info? 23).map (·.size) = some 1 := by kernel_rfl
theorem ze_2_Tb : zeroT Try.prog 2 = some ([.int .i64 0], 1) := by kernel_rfl
theorem by_2_Tb : (Try.prog.info? 2).map (·.bytes) = some 8 := by kernel_rfl
theorem sz_22_Tb : (Try.prog.info? 22).map (·.size) = some 1 := by kernel_rfl
theorem sz_2_Tb : (Try.prog.info? 2).map (·.size) = some 1 := by kernel_rfl
theorem arrowsN_c {g : Nat} {ob : Int} {a1 a2 : Option Addr} {n : Nat} {v3 v4 : Value} {rest : List Value} {T : TypeId} {H : GHeap} (hg : H.get g = some (.row (.int .i64 ob :: .slice a1 n n :: .slice a2 n n :: v3 :: v4 :: rest) T true)) :
    GCalls Try.prog 110 [.pointer (some ⟨g, 0, none⟩)] H (Ret (.int .i64 (n : Int)) H) := by
  refine GCalls.body (N := 8) (rs := [.tmp 2]) Try.func110 rfl rfl rfl rfl (fun Qx hret hend => ?_)
  refine .fg [0] rfl ?_
  have hle := GHeap.Le.refl H
  have lt_hg := GHeap.ltg hg
  refine .seq (fun K1 hK1 => .region (.mv rfl (.nil (hK1 _ _ (.seq (fun K2 hK2 => .region (.mv rfl (.q rfl (.nilCheck rfl) (.q rfl (.fieldAddr fo_29_1_B rfl) ?_)))))))))
  refine .q rfl (.load on_22_B rfl (by first | assumption | exact Mem.of_get hg 1 _ rfl)) ?_
  refine .q rfl (.len sl_22_A rfl) (.mv rfl (.nil (hK2 _ _ ?_)))
  refine .ret ?_
  refine hret _ _ ?_
  refine ⟨_, rfl, ?_⟩
  exact .mk
set_option maxHeartbeats 4000000 in
theorem tableG_c {g n fn : Nat} {ob : Int} {a1 a2 : Option Addr} {v3 v4 : Value} {rest : List Value} {T : TypeId} {src tgt : List Int} {cap : Array Value} {X : Nat → Nat → Int} {H : GHeap} (hg : H.get g = some (.row (.int .i64 ob :: .slice a1 n n :: .slice a2 n n :: v3 :: v4 :: rest) T true)) (h1 : src.length = n) (h2 : tgt.length = n) (hn : n ≤ 1048576)
    (k1 : ∀ H', St [g] H H' → Ints H' a1 src) (k2 : ∀ H', St [g] H H' → Ints H' a2 tgt)
    (hcall : ∀ (xs : Array Value) (w : World), (callFunc fn xs).run Try.prog w = .ok (.enter fn xs) w)
    (hq : ∀ H' v, St [g] H H' → H'.get g = some (.row (.int .i64 ob :: .slice a1 n n :: .slice a2 n n :: v3 :: v :: rest) T true) → ∀ i j : Nat, i < n → j < n → tgt.getD i 0 = src.getD j 0 → GCalls Try.prog fn ([.int .i64 (i : Int), .int .i64 (j : Int)] ++ cap.toList) H' (fun v H'' => H'.Le H'' ∧ v = .int .i64 (X i j))) :
    GCalls Try.prog 81 [.pointer (some ⟨g, 0, none⟩), .func (.func fn) #[] cap] H (fun _ H' => St [g] H H' ∧ ∃ gC r, H'.get g = some (.row (.int .i64 ob :: .slice a1 n n :: .slice a2 n n :: v3 :: .slice (some ⟨gC, 0, none⟩) n n :: rest) T true) ∧ H.next ≤ gC ∧
      IntssR H.next H' (some ⟨gC, 0, none⟩) (tabL src tgt X n) r ∧ ∀ i, i < n → ∀ x, r i = some ⟨x, 0, none⟩ → H.next ≤ x) := by
  refine GCalls.body (N := 80) (rs := []) Try.func81 rfl rfl rfl rfl (fun Qx hret hend => ?_)
  refine .fg [0, 1] rfl ?_
  have lt_hg := GHeap.ltg hg
  have hst := St.refl [g] H
  refine .seq (fun K1 hK1 => .region (.mv rfl ?_))
  refine .callQ rfl rfl rfl rfl @Try.call110 rfl (arrowsN_c (by assumption)) ?_
  refine .mv rfl (.nil (hK1 _ _ (.seq (fun K2 hK2 => .region (.mv rfl (.mv rfl ?_))))))
  refine .R rfl (.makeV rfl sl_23_B ze_22_Tb by_22_Tb rfl rfl rfl (by omega) (by omega) (by omega) (by omega)) ?_
  rintro _ H11 ⟨g11, rfl, le11, ge11, at11⟩
  replace hst := hst.le le11
  replace hg := le11.2 _ _ hg
  refine .q rfl (.nilCheck rfl) (.q rfl (.fieldAddr fo_29_4_B rfl) ?_)
  simp only [Int.toNat_natCast] at at11
  refine .r0 rfl rfl (.storeR rfl sz_23_Tb rfl rfl rfl (by assumption) (by first | exact Nat.le_of_ble_eq_true rfl | (simp; done) | (simp <;> omega))) ?_
  rintro _ H1005 ⟨rfl, st1005, at1005⟩
  replace hst := hst.sA st1005
  have ne_g11_g : NE g11 g := .a
  replace at11 := st1005.s at11 ne_g11_g.ne
  have lt_at1005 := GHeap.ltg at1005
  try simp only [Nat.zero_add, List.set_cons_succ, List.set_cons_zero] at at1005
  simp only [Int.toNat_natCast] at at1005
  refine .nil (hK2 _ _ (.seq (fun K3 hK3 => .region (.mv rfl (.q rfl (.nilCheck rfl) (.q rfl (.fieldAddr fo_29_4_B rfl) ?_))))))
  refine .q rfl (.load on_23_B rfl (by first | assumption | exact Mem.of_get at1005 4 _ rfl)) ?_
  refine .q rfl (.len sl_23_B rfl) (.mv rfl (.nil (hK3 _ _ ?_)))
  refine .block ?_
  refine .loopR (σ := Nat × (Nat → Option Addr)) [(0, some _), (1, some _), (4, some _), (18, some _)] (fun (k, rr) => [(19, some (.int .i64 (k : Int)))]) (fun (k, rr) H' => St [g11] H1005 H' ∧ H'.get g11 = some (.row ((fillS rr n k)) 22 true) ∧ k ≤ n ∧ OwnRows H.next H' 2 rr (tabR src tgt X n) k) (fun (k, rr) => n - k) ((0, fun _ => none)) ⟨rfl, rfl, rfl, rfl, trivial⟩ ⟨rfl, trivial⟩ ?_ ?_
  ·
   refine ⟨.refl _ _, by first | assumption | (rw [fillS_zero]; simpa using at11), ?_⟩
   exact ⟨by omega, .zero _ _ _ _ _⟩
  rintro ⟨k, rr⟩ HL1 ⟨lst1, at_Lg11, hI⟩ KL1 hKL1
  refine .forget (fr' := [(19, some (.int .i64 (k : Int))), (0, some _), (1, some _), (4, some _), (18, some _)]) ⟨rfl, rfl, rfl, rfl, rfl, trivial⟩ ?_
  have nx_HL1 := lst1.nx
  replace hst := hst.sA lst1
  replace at1005 := lst1.s at1005 (Ne.symm ne_g11_g.ne)
  have lt_at_Lg11 := GHeap.ltg at_Lg11
  have i1 := k1 _ hst
  have i2 := k2 _ hst
  have j1 := i1.slN h1
  have j2 := i2.slN h2
  have rk := St.refl [g11] HL1
  obtain ⟨hk, hR⟩ := hI
  have hatC := at_Lg11
  refine .seq (fun K4 hK4 => .region (.q rfl (.cmp rfl rfl rfl) (.nil (hK4 _ _ (.seq (fun K5 hK5 => ?_))))))
  refine .cond rfl (fun h20 => ?_) (fun h20 => ?_)
  ·
   simp only [sps] at h20
   refine .skip ?_
   refine hK5 _ _ (.seq (fun K6 hK6 => ?_))
   refine .block ?_
   refine .seq (fun K7 hK7 => .region (.mv rfl (.mv rfl (.nil (hK7 _ _ (.seq (fun K8 hK8 => ?_)))))))
   refine .regionD mo_B (.q 0 (.q 1 (.q 2 (.q 3 (.q 4 (.q 5 (.c 6 1 (.q 7 (.c 8 0 (.done)))))))))) (by kernel_rfl) ?_
   refine .mv rfl rfl (.q rfl (.nilCheck rfl) (.q rfl (.fieldAddr fo_29_4_B rfl) ?_))
   refine .q rfl (.load on_23_B rfl (by first | assumption | exact Mem.of_get at1005 4 _ rfl)) ?_
   refine .mv rfl rfl (.mv rfl rfl ?_)
   refine .c1 rfl rfl rfl rfl (.makeI rfl sl_22_A ze_2_Tb by_2_Tb rfl rfl (by omega) (by omega) (by omega) (by omega)) ?_
   rintro _ H28 ⟨g28, rfl, le28, ge28, at28⟩
   have hbl := le28
   refine ⟨hbl, ?_⟩
   replace hst := hst.le le28
   replace lst1 := lst1.le le28
   replace rk := rk.le le28
   replace at1005 := le28.2 _ _ at1005
   replace at_Lg11 := le28.2 _ _ at_Lg11
   clear i1 i2 j1 j2
   refine .m rfl rfl rfl rfl hbl (.idxN sl_23_B (by first | exact (Intss.sl (by assumption)) | exact SlA.of_row at_Lg11 (by first | rfl | (simp; done) | (simp <;> omega))) rfl rfl (by omega)) ?_
   refine .r0 rfl rfl rfl (.storeR rfl sz_22_Tb rfl rfl rfl (by assumption) (by first | exact Nat.le_of_ble_eq_true rfl | (simp; done) | (simp <;> omega))) ?_
   rintro _ H5008 ⟨rfl, st5008, at5008⟩
   replace hst := hst.sA st5008
   replace lst1 := lst1.sA st5008
   replace rk := rk.sA st5008
   replace at1005 := st5008.s at1005 (Ne.symm ne_g11_g.ne)
   have ne_g28_g11 : NE g28 g11 := .a
   replace at28 := st5008.s at28 ne_g28_g11.ne
   simp only [Int.toNat_natCast, Nat.zero_add] at at5008 at28
   rw [fillS_set (by omega)] at at5008
   have cC := fillS_cell (i := k) at5008 (by omega) (by omega)
   refine .done ?_
   refine hK8 _ _ (.seq (fun K9 hK9 => .region (.mv rfl (.q rfl (.nilCheck rfl) (.q rfl (.fieldAddr fo_29_4_B rfl) ?_)))))
   refine .q rfl (.load on_23_B rfl (by first | assumption | exact Mem.of_get at1005 4 _ rfl)) ?_
   refine .mv rfl ?_
   refine .q rfl (.idxN sl_23_B (by first | exact (Intss.sl (by assumption)) | exact SlA.of_row at5008 (by first | rfl | (simp; done) | (simp <;> omega))) rfl rfl (by omega)) ?_
   refine .q rfl (.load on_22_B rfl (by rw [upd_eq] at cC; exact cC)) ?_
   refine .q rfl (.len sl_22_A rfl) (.mv rfl (.nil (hK9 _ _ ?_)))
   refine .block ?_
   refine .loopR (σ := Nat) [(0, some _), (1, some _), (4, some _), (5, some _), (18, some _), (19, some _), (37, some _)] (fun j => [(38, some (.int .i64 (j : Int)))]) (fun j H' => St [g28] H5008 H' ∧ H'.get g28 = some (.row (ints (fillI (tabC src tgt X k) n j)) 2 true) ∧ j ≤ n) (fun j => n - j) (0) ⟨rfl, rfl, rfl, rfl, rfl, rfl, rfl, trivial⟩ ⟨rfl, trivial⟩ ?_ ?_
   ·
    refine ⟨.refl _ _, by (rw [fillI_zero]; simpa using at28), ?_⟩
    omega
   rintro j HL2 ⟨lst2, at_Lg28, hI⟩ KL2 hKL2
   refine .forget (fr' := [(38, some (.int .i64 (j : Int))), (0, some _), (1, some _), (4, some _), (5, some _), (18, some _), (19, some _), (37, some _)]) ⟨rfl, rfl, rfl, rfl, rfl, rfl, rfl, rfl, trivial⟩ ?_
   replace hst := hst.sA lst2
   replace lst1 := lst1.sA lst2
   replace rk := rk.sA lst2
   have ne_g_g28 : NE g g28 := .a
   replace at1005 := lst2.s at1005 ne_g_g28.ne
   replace at5008 := lst2.s at5008 (Ne.symm ne_g28_g11.ne)
   have i1 := k1 _ hst
   have i2 := k2 _ hst
   have j1 := i1.slN h1
   have j2 := i2.slN h2
   clear cC
   have cC := fillS_cell (i := k) at5008 (by omega) (by omega)
   refine .seq (fun K10 hK10 => .region (.q rfl (.cmp rfl rfl rfl) (.nil (hK10 _ _ (.seq (fun K11 hK11 => ?_))))))
   refine .cond rfl (fun h39 => ?_) (fun h39 => ?_)
   ·
    simp only [sps] at h39
    refine .skip ?_
    refine hK11 _ _ (.seq (fun K12 hK12 => ?_))
    refine .block ?_
    refine .seq (fun K13 hK13 => .region (.mv rfl (.mv rfl (.nil (hK13 _ _ (.seq (fun K14 hK14 => .region (.mv rfl (.q rfl (.nilCheck rfl) (.q rfl (.fieldAddr fo_29_4_B rfl) ?_))))))))))
    refine .q rfl (.load on_23_B rfl (by first | assumption | exact Mem.of_get at1005 4 _ rfl)) ?_
    refine .mv rfl ?_
    refine .q rfl (.idxN sl_23_B (by first | exact (Intss.sl (by assumption)) | exact SlA.of_row at5008 (by first | rfl | (simp; done) | (simp <;> omega))) rfl rfl (by omega)) ?_
    refine .q rfl (.load on_22_B rfl (by rw [upd_eq] at cC; exact cC)) ?_
    refine .mv rfl ?_
    refine .q rfl (.idxN sl_22_A (by first | assumption | exact SlA.of_row at_Lg28 (by first | rfl | (simp; done) | (simp <;> omega))) rfl rfl (by omega)) ?_
    refine .r0 rfl rfl (.storeI rfl sz_2_Tb rfl rfl (by assumption) (by first | omega | (simp <;> omega))) ?_
    rintro _ H9009 ⟨rfl, st9009, at9009⟩
    replace hst := hst.sA st9009
    replace lst2 := lst2.sA st9009
    replace at1005 := st9009.s at1005 ne_g_g28.ne
    replace at5008 := st9009.s at5008 (Ne.symm ne_g28_g11.ne)
    clear i1 i2 j1 j2
    have i1 := k1 _ hst
    have i2 := k2 _ hst
    have j1 := i1.slN h1
    have j2 := i2.slN h2
    clear cC
    have cC := fillS_cell (i := k) at5008 (by omega) (by omega)
    refine .nil (hK14 _ _ (.seq (fun K15 hK15 => ?_)))
    refine .regionD mo_B (.q 0 (.q 1 (.q 2 (.q 3 (.q 4 (.q 5 (.q 6 (.q 7 (.q 8 (.q 9 (.q 10 (.q 11 (.q 12 (.q 13 (.q 14 (.done)))))))))))))))) (by kernel_rfl) ?_
    refine .mv rfl rfl (.q rfl (.nilCheck rfl) (.q rfl (.fieldAddr fo_29_2_B rfl) ?_))
    refine .q rfl (.load on_22_B rfl (by first | assumption | exact Mem.of_get at1005 2 _ rfl)) ?_
    refine .mv rfl rfl ?_
    refine .q rfl (.idxN sl_22_A (by assumption) rfl rfl (by omega)) ?_
    refine .q rfl (.loadI on_2_A (by assumption) rfl (by omega)) ?_
    refine .mv rfl rfl (.q rfl (.nilCheck rfl) (.q rfl (.fieldAddr fo_29_1_B rfl) ?_))
    refine .q rfl (.load on_22_B rfl (by first | assumption | exact Mem.of_get at1005 1 _ rfl)) ?_
    refine .mv rfl rfl ?_
    refine .q rfl (.idxN sl_22_A (by assumption) rfl rfl (by omega)) ?_
    refine .q rfl (.loadI on_2_A (by assumption) rfl (by omega)) ?_
    refine .q rfl (.cmp rfl rfl rfl) ?_
    refine .done ?_
    refine hK15 _ _ ?_
    refine .cond rfl (fun h64 => ?_) (fun h64 => ?_)
    ·
     simp only [sps] at h64
     refine .regionD mo_B (.q 0 (.q 1 (.q 2 (.q 3 (.q 4 (.q 5 (.q 6 (.q 7 (.q 8 (.q 9 (.q 10 (.c 11 1 (.q 12 (.c 13 0 (.done))))))))))))))) (by kernel_rfl) ?_
     refine .mv rfl rfl (.q rfl (.nilCheck rfl) (.q rfl (.fieldAddr fo_29_4_B rfl) ?_))
     refine .q rfl (.load on_23_B rfl (by first | assumption | exact Mem.of_get at1005 4 _ rfl)) ?_
     refine .mv rfl rfl ?_
     refine .q rfl (.idxN sl_23_B (by first | exact (Intss.sl (by assumption)) | exact SlA.of_row at5008 (by first | rfl | (simp; done) | (simp <;> omega))) rfl rfl (by omega)) ?_
     refine .q rfl (.load on_22_B rfl (by rw [upd_eq] at cC; exact cC)) ?_
     refine .mv rfl rfl (.mv rfl rfl (.mv rfl rfl (.mv rfl rfl ?_)))
     refine .callV1 rfl rfl rfl rfl rfl rfl hcall rfl ((hq _ _ hst at1005 k j (by omega) (by omega) h64)) ?_
     rintro _ H76 ⟨le76, rfl⟩
     have hbl := le76
     refine ⟨hbl, ?_⟩
     replace lst2 := lst2.le le76
     replace at9009 := le76.2 _ _ at9009
     clear i1 i2 j1 j2
     clear cC
     refine .m rfl rfl rfl rfl hbl (.idxN sl_22_A (by first | assumption | exact SlA.of_row at9009 (by first | rfl | (simp; done) | (simp <;> omega))) rfl rfl (by omega)) ?_
     refine .r0 rfl rfl rfl (.storeI rfl sz_2_Tb rfl rfl (by assumption) (by first | omega | (simp <;> omega))) ?_
     rintro _ H11013 ⟨rfl, st11013, at11013⟩
     replace lst2 := lst2.sA st11013
     refine .done ?_
     refine hK12 _ _ (.region ?_)
     refine .q rfl (.add rfl rfl rfl (by omega) (by omega)) ?_
     refine .mv rfl (.nil ?_)
     refine hKL2 (j + 1) _ _ ?_ ?_ ⟨rfl, rfl, rfl, rfl, rfl, rfl, rfl, rfl, trivial⟩
     ·
      refine ⟨lst2, by first | assumption | (rw [← fillI_set (by omega) (tabC_F h64).symm]; simpa using at9009) | (rw [← fillI_set (by omega) (tabC_T h64).symm, ← List.set_set (-1)]; simpa using at11013), ?_⟩
      omega
     omega
    simp only [sps] at h64
    refine .skip ?_
    refine hK12 _ _ (.region ?_)
    refine .q rfl (.add rfl rfl rfl (by omega) (by omega)) ?_
    refine .mv rfl (.nil ?_)
    refine hKL2 (j + 1) _ _ ?_ ?_ ⟨rfl, rfl, rfl, rfl, rfl, rfl, rfl, rfl, trivial⟩
    ·
     refine ⟨lst2, by first | assumption | (rw [← fillI_set (by omega) (tabC_F h64).symm]; simpa using at9009) | (rw [← fillI_set (by omega) (tabC_T h64).symm, ← List.set_set (-1)]; simpa using at11013), ?_⟩
     omega
    omega
   try simp only [sps] at h39
   refine .exit ?_
   refine hK6 _ _ (.region ?_)
   refine .q rfl (.add rfl rfl rfl (by omega) (by omega)) ?_
   refine .mv rfl (.nil ?_)
   obtain rfl : j = n := by omega
   refine hKL1 ((k + 1, upd rr k (some ⟨g28, 0, none⟩))) _ _ ?_ ?_ ⟨rfl, rfl, rfl, rfl, rfl, trivial⟩
   ·
    refine ⟨lst1, by assumption, ?_⟩
    exact ⟨by omega, hR.succ rk hatC rfl (by rw [tabR, ← fillI_all]; assumption) (by omega) (by omega)⟩
   (dsimp only; omega)
  try simp only [sps] at h20
  refine .exit ?_
  refine hend _ _ ?_
  obtain rfl : k = n := by omega
  exact ⟨hst, g11, rr, at1005, by omega, (OwnRows.done hR (by rw [← fillS_all (fun i _ => length_tabR _ _ _ _ _)]; exact at_Lg11) (by omega)), fun i hi x hx => by obtain ⟨y, y1, y2, _⟩ := hR.row i hi; rw [y1] at hx; cases hx; exact y2⟩
theorem tableO_c {g n fn : Nat} {ob : Int} {a1 a2 : Option Addr} {v3 v4 : Value} {src tgt : List Int} {cap : Array Value} {X : Nat → Nat → Int} {H : GHeap} (hg : H.get g = some (.row [.int .i64 ob, .slice a1 n n, .slice a2 n n, v3, v4] 29 true)) (h1 : src.length = n) (h2 : tgt.length = n) (hn : n ≤ 1048576)
    (k1 : ∀ H', St [g] H H' → Ints H' a1 src) (k2 : ∀ H', St [g] H H' → Ints H' a2 tgt)
    (hcall : ∀ (xs : Array Value) (w : World), (callFunc fn xs).run Try.prog w = .ok (.enter fn xs) w)
    (hq : ∀ H' v, St [g] H H' → H'.get g = some (.row [.int .i64 ob, .slice a1 n n, .slice a2 n n, v3, v] 29 true) → ∀ i j : Nat, i < n → j < n → tgt.getD i 0 = src.getD j 0 → GCalls Try.prog fn ([.int .i64 (i : Int), .int .i64 (j : Int)] ++ cap.toList) H' (fun v H'' => H'.Le H'' ∧ v = .int .i64 (X i j))) :
    GCalls Try.prog 81 [.pointer (some ⟨g, 0, none⟩), .func (.func fn) #[] cap] H (fun _ H' => St [g] H H' ∧ ∃ gC r, H'.get g = some (.row [.int .i64 ob, .slice a1 n n, .slice a2 n n, v3, .slice (some ⟨gC, 0, none⟩) n n] 29 true) ∧ H.next ≤ gC ∧
      IntssR H.next H' (some ⟨gC, 0, none⟩) (tabL src tgt X n) r ∧ ∀ i, i < n → ∀ x, r i = some ⟨x, 0, none⟩ → H.next ≤ x) :=
  tableG_c (rest := []) hg h1 h2 hn k1 k2 hcall hq
theorem table_c {g n fn : Nat} {ob : Int} {a1 a2 : Option Addr} {v3 v4 : Value} {src tgt : List Int} {cap : Array Value} {X : Nat → Nat → Int} {H : GHeap} (hg : H.get g = some (.row [.int .i64 ob, .slice a1 n n, .slice a2 n n, v3, v4] 29 true)) (h1 : src.length = n) (h2 : tgt.length = n) (hn : n ≤ 1048576)
    (k1 : ∀ H', St [g] H H' → Ints H' a1 src) (k2 : ∀ H', St [g] H H' → Ints H' a2 tgt)
    (hcall : ∀ (xs : Array Value) (w : World), (callFunc fn xs).run Try.prog w = .ok (.enter fn xs) w)
    (hq : ∀ H', St [g] H H' → ∀ i j : Nat, i < n → j < n → tgt.getD i 0 = src.getD j 0 → GCalls Try.prog fn ([.int .i64 (i : Int), .int .i64 (j : Int)] ++ cap.toList) H' (fun v H'' => H'.Le H'' ∧ v = .int .i64 (X i j))) :
    GCalls Try.prog 81 [.pointer (some ⟨g, 0, none⟩), .func (.func fn) #[] cap] H (fun _ H' => St [g] H H' ∧ ∃ gC r, H'.get g = some (.row [.int .i64 ob, .slice a1 n n, .slice a2 n n, v3, .slice (some ⟨gC, 0, none⟩) n n] 29 true) ∧ H.next ≤ gC ∧
      IntssR H.next H' (some ⟨gC, 0, none⟩) (tabL src tgt X n) r ∧ ∀ i, i < n → ∀ x, r i = some ⟨x, 0, none⟩ → H.next ≤ x) :=
  tableO_c hg h1 h2 hn k1 k2 hcall (fun H' _ s _ => hq H' s)
end Go.Proofs.Ytjdedelneppnlaa
namespace Go.GL
end Go.GL
namespace Go.GL
def Con.z : Con := ⟨0, []⟩
def conV (r : Nat → Option Addr) (cs : List Con) : List Value := (List.range cs.length).flatMap fun i => (cs.getD i .z).cells ⟨r i⟩
structure ConsAt (T e : TypeId) (b0 : Nat) (H : GHeap) (g : Nat) (r : Nat → Option Addr) (cs : List Con) : Prop where
  hd : H.get g = some (.row (conV r cs) T true)
  rows : OwnL b0 H e r (cs.map Con.lg)
structure GathC (T1 T2 Tx e : TypeId) (go gx b0 e0 : Nat) (x : Int) (pre : List Con) (b : Nat) (fs : List (List Int)) (gF : Nat) (H : GHeap) : Prop where
  hd : H.get go = some (.row [.slice (some ⟨gF, 0, none⟩) (pre ++ fs.map fun l => (⟨x, l⟩ : Con)).length (pre ++ fs.map fun l => (⟨x, l⟩ : Con)).length] T1 true)
  ix : H.get gx = some (.row [.int .i64 x] Tx true)
  rows : ∃ r, H.get gF = some (.row (conV r (pre ++ fs.map fun l => (⟨x, l⟩ : Con))) T2 true) ∧ OwnL b0 H e r ((pre ++ fs.map fun l => (⟨x, l⟩ : Con)).map Con.lg) ∧ ∀ i, i < (pre ++ fs.map fun l => (⟨x, l⟩ : Con)).length → ∀ g, r i = some ⟨g, 0, none⟩ → g < e0 ∨ b ≤ g
end Go.GL
namespace Go.Proofs.Ytjdedelneppnlaa
open Go Go.GL Go.RowKit Go.Proofs
end Go.Proofs.Ytjdedelneppnlaa
namespace Go.Proofs.Ytjdedelneppnlaa
open Go Go.GL Go.RowKit Go.Proofs
end Go.Proofs.Ytjdedelneppnlaa
namespace Go.Proofs.Ytjdedelneppnlaa
open Go Go.GL Go.RowKit Go.Proofs
end Go.Proofs.Ytjdedelneppnlaa
namespace Go.Proofs.Ytjdedelneppnlaa
open Go Go.GL Go.RowKit Go.Proofs
end Go.Proofs.Ytjdedelneppnlaa
namespace Go.Proofs.Ytjdedelneppnlaa
open Go Go.GL Go.RowKit Go.Proofs
end Go.Proofs.Ytjdedelneppnlaa
namespace Go.Proofs.Ytjdedelneppnlaa
open Go Go.GL Go.RowKit Go.Proofs
theorem bt_29_Db : buildT Try.prog 29 = some ([.int .i64 0, .slice none 0 0, .slice none 0 0, .slice none 0 0, .slice none 0 0], [(0, 1), (1, 1), (2, 1), (3, 1), (4, 1)]) := by kernel_rfl
set_option maxHeartbeats 8000000 in
theorem l03Op_c {c : Cat} {p : CatP} {N : Nat} {H : GHeap} (hin : c.In H p := by assumption) (hr : c.Rect N) (hN : N ≤ 100000) :
    GCalls Try.prog 43 [.agg (c.cells p).toArray] H (NewCatO 2 22 H c.op) := by
  obtain ⟨b1, b2, b3, -, -, b6, -, b8, b9, -⟩ := id hr
  refine GCalls.body (N := 53) (rs := [.cell 2 29]) Try.func43 rfl rfl rfl rfl (fun Qx hret hend => ?_)
  refine .fg [0] rfl ?_
  have hle := GHeap.Le.refl H
  have base_hin := hin
  refine .seq (fun K1 hK1 => .region ?_)
  refine .R rfl (.boxR rfl sz_29_D rfl) ?_
  rintro _ H1 ⟨g1, rfl, le1, ge1, at1⟩
  replace hle := hle.trans le1
  have lt_at1 := GHeap.ltg at1
  replace hin := base_hin.mono hle
  have hb1 : Cat.At _ g1 0 c p := ⟨Mem.of_get at1, hin⟩
  refine .R rfl (.allocR rfl ze_29_E rfl) ?_
  rintro _ H2 ⟨g2, rfl, le2, ge2, at2⟩
  replace hle := hle.trans le2
  replace at1 := le2.2 _ _ at1
  have lt_at2 := GHeap.ltg at2
  replace hin := base_hin.mono hle
  clear hb1
  have hb1 : Cat.At _ g1 0 c p := ⟨Mem.of_get at1, hin⟩
  obtain ⟨c01, c11, c21, c31, -, -, i21, -, -⟩ := hb1.get
  refine .nil (hK1 _ _ (.seq (fun K2 hK2 => ?_)))
  refine .regionD mo_B (.q 0 (.q 1 (.q 2 (.q 3 (.q 5 (.q 6 (.q 8 (.q 9 (.or (.c 4 1 (.or (.c 7 1 (.or (.c 10 1 (.or (.c 11 1 (.q 12 (.c 13 1 (.c 14 1 (.done))))) (.c 13 1 (.c 11 1 (.q 12 (.c 14 1 (.done))))))) (.or (.c 11 1 (.or (.c 10 1 (.q 12 (.c 13 1 (.c 14 1 (.done))))) (.c 13 1 (.c 10 1 (.q 12 (.c 14 1 (.done))))))) (.c 13 1 (.or (.c 10 1 (.c 11 1 (.q 12 (.c 14 1 (.done))))) (.c 11 1 (.c 10 1 (.q 12 (.c 14 1 (.done)))))))))) (.or (.c 11 1 (.or (.c 7 1 (.or (.c 10 1 (.q 12 (.c 13 1 (.c 14 1 (.done))))) (.c 13 1 (.c 10 1 (.q 12 (.c 14 1 (.done))))))) (.c 13 1 (.c 7 1 (.c 10 1 (.q 12 (.c 14 1 (.done)))))))) (.c 13 1 (.or (.c 7 1 (.or (.c 10 1 (.c 11 1 (.q 12 (.c 14 1 (.done))))) (.c 11 1 (.c 10 1 (.q 12 (.c 14 1 (.done))))))) (.c 11 1 (.c 7 1 (.c 10 1 (.q 12 (.c 14 1 (.done))))))))))) (.or (.c 11 1 (.or (.c 4 1 (.or (.c 7 1 (.or (.c 10 1 (.q 12 (.c 13 1 (.c 14 1 (.done))))) (.c 13 1 (.c 10 1 (.q 12 (.c 14 1 (.done))))))) (.c 13 1 (.c 7 1 (.c 10 1 (.q 12 (.c 14 1 (.done)))))))) (.c 13 1 (.c 4 1 (.c 7 1 (.c 10 1 (.q 12 (.c 14 1 (.done))))))))) (.c 13 1 (.or (.c 4 1 (.or (.c 7 1 (.or (.c 10 1 (.c 11 1 (.q 12 (.c 14 1 (.done))))) (.c 11 1 (.c 10 1 (.q 12 (.c 14 1 (.done))))))) (.c 11 1 (.c 7 1 (.c 10 1 (.q 12 (.c 14 1 (.done)))))))) (.c 11 1 (.c 4 1 (.c 7 1 (.c 10 1 (.q 12 (.c 14 1 (.done))))))))))))))))))) (by kernel_rfl) ?_
  refine .cut [(0, some _), (1, some _), (2, some _)] ⟨rfl, rfl, rfl, trivial⟩ (fun rest fr' H' => ∃ g11 g14 g17 g18 g3, Sub ((11, some (.slice (some ⟨g11, 0, none⟩) c.tgt.length c.tgt.length)) :: (14, some (.slice (some ⟨g14, 0, none⟩) c.src.length c.src.length)) :: (17, some (.slice (some ⟨g17, 0, none⟩) c.idn.length c.idn.length)) :: (18, some (.slice (some ⟨g18, 0, none⟩) 0 0)) :: (3, some (.pointer (some ⟨g3, 0, none⟩))) :: rest) fr' ∧ H2.Le H' ∧ H2.next ≤ g11 ∧ H2.next ≤ g14 ∧ H2.next ≤ g17 ∧ H2.next ≤ g18 ∧ H2.next ≤ g3 ∧ H'.get g11 = some (.row (ints c.tgt) 2 true) ∧ H'.get g14 = some (.row (ints c.src) 2 true) ∧ H'.get g17 = some (.row (ints c.idn) 2 true) ∧ H'.get g18 = some (.row ([]) 22 true) ∧ H'.get g3 = some (.row ([.int .i64 c.obj, .slice (some ⟨g11, 0, none⟩) c.tgt.length c.tgt.length, .slice (some ⟨g14, 0, none⟩) c.src.length c.src.length, .slice (some ⟨g17, 0, none⟩) c.idn.length c.idn.length, .slice (some ⟨g18, 0, none⟩) 0 0]) 29 true) ∧ g11 ≠ g14 ∧ g11 ≠ g17 ∧ g11 ≠ g18 ∧ g11 ≠ g3 ∧ g14 ≠ g17 ∧ g14 ≠ g18 ∧ g14 ≠ g3 ∧ g17 ≠ g18 ∧ g17 ≠ g3 ∧ g18 ≠ g3) ?_ ?_
  ·
   have hf0 := GHeap.Le.refl H2
   refine .qB rfl (.refl _) (.fieldAddr fo_29_0_B rfl) ?_
   refine .q rfl (.load on_2_A rfl (by first | assumption | exact Mem.of_get at1 0 _ rfl)) ?_
   refine .qB rfl (.refl _) (.fieldAddr fo_29_2_B rfl) ?_
   refine .q rfl (.load on_22_B rfl (by first | assumption | exact Mem.of_get at1 2 _ rfl)) ?_
   refine .qB rfl (.refl _) (.fieldAddr fo_29_1_B rfl) ?_
   refine .q rfl (.load on_22_B rfl (by first | assumption | exact Mem.of_get at1 1 _ rfl)) ?_
   refine .qB rfl (.refl _) (.fieldAddr fo_29_3_B rfl) ?_
   refine .q rfl (.load on_22_B rfl (by first | assumption | exact Mem.of_get at1 3 _ rfl)) ?_
   refine .orI ?_ ?_
   ·
    refine .call1 rfl rfl rfl rfl rfl @Try.call92 rfl (l01Own_c) ?_
    rintro _ H11x2 ⟨le11x2, g11x2, rfl, at11x2, ge11x2⟩
    have hbl := le11x2
    refine ⟨hbl, ?_⟩
    replace hle := hle.trans le11x2
    replace at1 := le11x2.2 _ _ at1
    have lt_at11x2 := GHeap.ltg at11x2
    replace hf0 := hf0.trans le11x2
    refine .orI ?_ ?_
    ·
     replace hin := base_hin.mono hle
     clear hb1 c01 c11 c21 c31 i21
     have hb1 : Cat.At _ g1 0 c p := ⟨Mem.of_get at1, hin⟩
     obtain ⟨-, -, -, -, -, i11, -, -, -⟩ := hb1.get
     refine .call1 rfl rfl rfl rfl rfl @Try.call92 rfl (l01Own_c) ?_
     rintro _ H14x2 ⟨le14x2, g14x2, rfl, at14x2, ge14x2⟩
     replace hbl := hbl.trans le14x2
     refine ⟨hbl, ?_⟩
     replace hle := hle.trans le14x2
     replace at1 := le14x2.2 _ _ at1
     replace at11x2 := le14x2.2 _ _ at11x2
     have lt_at14x2 := GHeap.ltg at14x2
     replace hf0 := hf0.trans le14x2
     refine .orI ?_ ?_
     ·
      replace hin := base_hin.mono hle
      clear hb1 i11
      have hb1 : Cat.At _ g1 0 c p := ⟨Mem.of_get at1, hin⟩
      obtain ⟨-, -, -, -, -, -, -, i31, -⟩ := hb1.get
      refine .call1 rfl rfl rfl rfl rfl @Try.call92 rfl (l01Own_c) ?_
      rintro _ H17x2 ⟨le17x2, g17x2, rfl, at17x2, ge17x2⟩
      replace hbl := hbl.trans le17x2
      refine ⟨hbl, ?_⟩
      replace at11x2 := le17x2.2 _ _ at11x2
      replace at14x2 := le17x2.2 _ _ at14x2
      have lt_at17x2 := GHeap.ltg at17x2
      replace hf0 := hf0.trans le17x2
      refine .orI ?_ ?_
      ·
       refine .c1 rfl rfl rfl rfl (.litA rfl sl_23_B ze_22_E rfl rfl rfl rfl) ?_
       rintro _ H18x2 ⟨g18x2, rfl, le18x2, ge18x2, at18x2⟩
       replace hbl := hbl.trans le18x2
       refine ⟨hbl, ?_⟩
       replace at11x2 := le18x2.2 _ _ at11x2
       replace at14x2 := le18x2.2 _ _ at14x2
       replace at17x2 := le18x2.2 _ _ at17x2
       have lt_at18x2 := GHeap.ltg at18x2
       replace hf0 := hf0.trans le18x2
       refine .qB rfl hbl (.build bt_29_Db rfl rfl rfl) ?_
       refine .c1 rfl rfl rfl rfl (.allocR rfl ze_29_E rfl) ?_
       rintro _ H3x2 ⟨g3x2, rfl, le3x2, ge3x2, at3x2⟩
       replace hbl := hbl.trans le3x2
       refine ⟨hbl, ?_⟩
       replace at11x2 := le3x2.2 _ _ at11x2
       replace at14x2 := le3x2.2 _ _ at14x2
       replace at17x2 := le3x2.2 _ _ at17x2
       replace at18x2 := le3x2.2 _ _ at18x2
       replace hf0 := hf0.trans le3x2
       refine .r1 rfl rfl rfl (.fillA rfl sz_29_D rfl rfl rfl rfl) ?_
       rintro _ H1014 ⟨rfl, st1014, at1014⟩
       replace hbl := hbl.st st1014 (fun k hk => ⟨by omega, trivial⟩)
       refine ⟨hbl, ?_⟩
       replace at11x2 := st1014.s at11x2
       replace at14x2 := st1014.s at14x2
       replace at17x2 := st1014.s at17x2
       replace at18x2 := st1014.s at18x2
       replace hf0 := hf0.st st1014 (fun k hk => ⟨by omega, trivial⟩)
       refine .done ?_
       exact ⟨g11x2, g14x2, g17x2, g18x2, g3x2, ⟨rfl, rfl, rfl, rfl, rfl, rfl, rfl, rfl, trivial⟩, hf0, by omega, by omega, by omega, by omega, by omega, by first | assumption | simpa using at11x2, by first | assumption | simpa using at14x2, by first | assumption | simpa using at17x2, by first | assumption | simpa using at18x2, by first | assumption | simpa using at1014, by omega, by omega, by omega, by omega, by omega, by omega, by omega, by omega, by omega, by omega⟩
      refine .c1 rfl rfl rfl rfl (.allocR rfl ze_29_E rfl) ?_
      rintro _ H3x3 ⟨g3x3, rfl, le3x3, ge3x3, at3x3⟩
      replace hbl := hbl.trans le3x3
      refine ⟨hbl, ?_⟩
      replace at11x2 := le3x3.2 _ _ at11x2
      replace at14x2 := le3x3.2 _ _ at14x2
      replace at17x2 := le3x3.2 _ _ at17x2
      have lt_at3x3 := GHeap.ltg at3x3
      replace hf0 := hf0.trans le3x3
      refine .c1 rfl rfl rfl rfl (.litA rfl sl_23_B ze_22_E rfl rfl rfl rfl) ?_
      rintro _ H18x3 ⟨g18x3, rfl, le18x3, ge18x3, at18x3⟩
      replace hbl := hbl.trans le18x3
      refine ⟨hbl, ?_⟩
      replace at11x2 := le18x3.2 _ _ at11x2
      replace at14x2 := le18x3.2 _ _ at14x2
      replace at17x2 := le18x3.2 _ _ at17x2
      replace at3x3 := le18x3.2 _ _ at3x3
      replace hf0 := hf0.trans le18x3
      refine .qB rfl hbl (.build bt_29_Db rfl rfl rfl) ?_
      refine .r1 rfl rfl rfl (.fillA rfl sz_29_D rfl rfl rfl rfl) ?_
      rintro _ H1014x2 ⟨rfl, st1014x2, at1014x2⟩
      replace hbl := hbl.st st1014x2 (fun k hk => ⟨by omega, trivial⟩)
      refine ⟨hbl, ?_⟩
      replace at11x2 := st1014x2.s at11x2
      replace at14x2 := st1014x2.s at14x2
      replace at17x2 := st1014x2.s at17x2
      replace at18x3 := st1014x2.s at18x3
      replace hf0 := hf0.st st1014x2 (fun k hk => ⟨by omega, trivial⟩)
      refine .done ?_
      exact ⟨g11x2, g14x2, g17x2, g18x3, g3x3, ⟨rfl, rfl, rfl, rfl, rfl, rfl, rfl, rfl, trivial⟩, hf0, by omega, by omega, by omega, by omega, by omega, by first | assumption | simpa using at11x2, by first | assumption | simpa using at14x2, by first | assumption | simpa using at17x2, by first | assumption | simpa using at18x3, by first | assumption | simpa using at1014x2, by omega, by omega, by omega, by omega, by omega, by omega, by omega, by omega, by omega, by omega⟩
     refine .orI ?_ ?_
     ·
      refine .c1 rfl rfl rfl rfl (.litA rfl sl_23_B ze_22_E rfl rfl rfl rfl) ?_
      rintro _ H18x4 ⟨g18x4, rfl, le18x4, ge18x4, at18x4⟩
      replace hbl := hbl.trans le18x4
      refine ⟨hbl, ?_⟩
      replace hle := hle.trans le18x4
      replace at1 := le18x4.2 _ _ at1
      replace at11x2 := le18x4.2 _ _ at11x2
      replace at14x2 := le18x4.2 _ _ at14x2
      have lt_at18x4 := GHeap.ltg at18x4
      replace hf0 := hf0.trans le18x4
      refine .orI ?_ ?_
      ·
       replace hin := base_hin.mono hle
       have hb1 : Cat.At _ g1 0 c p := ⟨Mem.of_get at1, hin⟩
       obtain ⟨-, -, -, -, -, -, -, i31, -⟩ := hb1.get
       refine .call1 rfl rfl rfl rfl rfl @Try.call92 rfl (l01Own_c) ?_
       rintro _ H17x3 ⟨le17x3, g17x3, rfl, at17x3, ge17x3⟩
       replace hbl := hbl.trans le17x3
       refine ⟨hbl, ?_⟩
       replace at11x2 := le17x3.2 _ _ at11x2
       replace at14x2 := le17x3.2 _ _ at14x2
       replace at18x4 := le17x3.2 _ _ at18x4
       have lt_at17x3 := GHeap.ltg at17x3
       replace hf0 := hf0.trans le17x3
       refine .qB rfl hbl (.build bt_29_Db rfl rfl rfl) ?_
       refine .c1 rfl rfl rfl rfl (.allocR rfl ze_29_E rfl) ?_
       rintro _ H3x4 ⟨g3x4, rfl, le3x4, ge3x4, at3x4⟩
       replace hbl := hbl.trans le3x4
       refine ⟨hbl, ?_⟩
       replace at11x2 := le3x4.2 _ _ at11x2
       replace at14x2 := le3x4.2 _ _ at14x2
       replace at18x4 := le3x4.2 _ _ at18x4
       replace at17x3 := le3x4.2 _ _ at17x3
       replace hf0 := hf0.trans le3x4
       refine .r1 rfl rfl rfl (.fillA rfl sz_29_D rfl rfl rfl rfl) ?_
       rintro _ H1014x3 ⟨rfl, st1014x3, at1014x3⟩
       replace hbl := hbl.st st1014x3 (fun k hk => ⟨by omega, trivial⟩)
       refine ⟨hbl, ?_⟩
       replace at11x2 := st1014x3.s at11x2
       replace at14x2 := st1014x3.s at14x2
       replace at18x4 := st1014x3.s at18x4
       replace at17x3 := st1014x3.s at17x3
       replace hf0 := hf0.st st1014x3 (fun k hk => ⟨by omega, trivial⟩)
       refine .done ?_
       exact ⟨g11x2, g14x2, g17x3, g18x4, g3x4, ⟨rfl, rfl, rfl, rfl, rfl, rfl, rfl, rfl, trivial⟩, hf0, by omega, by omega, by omega, by omega, by omega, by first | assumption | simpa using at11x2, by first | assumption | simpa using at14x2, by first | assumption | simpa using at17x3, by first | assumption | simpa using at18x4, by first | assumption | simpa using at1014x3, by omega, by omega, by omega, by omega, by omega, by omega, by omega, by omega, by omega, by omega⟩
      refine .c1 rfl rfl rfl rfl (.allocR rfl ze_29_E rfl) ?_
      rintro _ H3x5 ⟨g3x5, rfl, le3x5, ge3x5, at3x5⟩
      replace hbl := hbl.trans le3x5
      refine ⟨hbl, ?_⟩
      replace hle := hle.trans le3x5
      replace at1 := le3x5.2 _ _ at1
      replace at11x2 := le3x5.2 _ _ at11x2
      replace at14x2 := le3x5.2 _ _ at14x2
      replace at18x4 := le3x5.2 _ _ at18x4
      have lt_at3x5 := GHeap.ltg at3x5
      replace hf0 := hf0.trans le3x5
      replace hin := base_hin.mono hle
      have hb1 : Cat.At _ g1 0 c p := ⟨Mem.of_get at1, hin⟩
      obtain ⟨-, -, -, -, -, -, -, i31, -⟩ := hb1.get
      refine .call1 rfl rfl rfl rfl rfl @Try.call92 rfl (l01Own_c) ?_
      rintro _ H17x4 ⟨le17x4, g17x4, rfl, at17x4, ge17x4⟩
      replace hbl := hbl.trans le17x4
      refine ⟨hbl, ?_⟩
      replace at11x2 := le17x4.2 _ _ at11x2
      replace at14x2 := le17x4.2 _ _ at14x2
      replace at18x4 := le17x4.2 _ _ at18x4
      replace at3x5 := le17x4.2 _ _ at3x5
      replace hf0 := hf0.trans le17x4
      refine .qB rfl hbl (.build bt_29_Db rfl rfl rfl) ?_
      refine .r1 rfl rfl rfl (.fillA rfl sz_29_D rfl rfl rfl rfl) ?_
      rintro _ H1014x4 ⟨rfl, st1014x4, at1014x4⟩
      replace hbl := hbl.st st1014x4 (fun k hk => ⟨by omega, trivial⟩)
      refine ⟨hbl, ?_⟩
      replace at11x2 := st1014x4.s at11x2
      replace at14x2 := st1014x4.s at14x2
      replace at18x4 := st1014x4.s at18x4
      replace at17x4 := st1014x4.s at17x4
      replace hf0 := hf0.st st1014x4 (fun k hk => ⟨by omega, trivial⟩)
      refine .done ?_
      exact ⟨g11x2, g14x2, g17x4, g18x4, g3x5, ⟨rfl, rfl, rfl, rfl, rfl, rfl, rfl, rfl, trivial⟩, hf0, by omega, by omega, by omega, by omega, by omega, by first | assumption | simpa using at11x2, by first | assumption | simpa using at14x2, by first | assumption | simpa using at17x4, by first | assumption | simpa using at18x4, by first | assumption | simpa using at1014x4, by omega, by omega, by omega, by omega, by omega, by omega, by omega, by omega, by omega, by omega⟩
     refine .c1 rfl rfl rfl rfl (.allocR rfl ze_29_E rfl) ?_
     rintro _ H3x6 ⟨g3x6, rfl, le3x6, ge3x6, at3x6⟩
     replace hbl := hbl.trans le3x6
     refine ⟨hbl, ?_⟩
     replace hle := hle.trans le3x6
     replace at1 := le3x6.2 _ _ at1
     replace at11x2 := le3x6.2 _ _ at11x2
     replace at14x2 := le3x6.2 _ _ at14x2
     have lt_at3x6 := GHeap.ltg at3x6
     replace hf0 := hf0.trans le3x6
     refine .orI ?_ ?_
     ·
      replace hin := base_hin.mono hle
      have hb1 : Cat.At _ g1 0 c p := ⟨Mem.of_get at1, hin⟩
      obtain ⟨-, -, -, -, -, -, -, i31, -⟩ := hb1.get
      refine .call1 rfl rfl rfl rfl rfl @Try.call92 rfl (l01Own_c) ?_
      rintro _ H17x5 ⟨le17x5, g17x5, rfl, at17x5, ge17x5⟩
      replace hbl := hbl.trans le17x5
      refine ⟨hbl, ?_⟩
      replace at11x2 := le17x5.2 _ _ at11x2
      replace at14x2 := le17x5.2 _ _ at14x2
      replace at3x6 := le17x5.2 _ _ at3x6
      have lt_at17x5 := GHeap.ltg at17x5
      replace hf0 := hf0.trans le17x5
      refine .c1 rfl rfl rfl rfl (.litA rfl sl_23_B ze_22_E rfl rfl rfl rfl) ?_
      rintro _ H18x5 ⟨g18x5, rfl, le18x5, ge18x5, at18x5⟩
      replace hbl := hbl.trans le18x5
      refine ⟨hbl, ?_⟩
      replace at11x2 := le18x5.2 _ _ at11x2
      replace at14x2 := le18x5.2 _ _ at14x2
      replace at3x6 := le18x5.2 _ _ at3x6
      replace at17x5 := le18x5.2 _ _ at17x5
      replace hf0 := hf0.trans le18x5
      refine .qB rfl hbl (.build bt_29_Db rfl rfl rfl) ?_
      refine .r1 rfl rfl rfl (.fillA rfl sz_29_D rfl rfl rfl rfl) ?_
      rintro _ H1014x5 ⟨rfl, st1014x5, at1014x5⟩
      replace hbl := hbl.st st1014x5 (fun k hk => ⟨by omega, trivial⟩)
      refine ⟨hbl, ?_⟩
      have ne_g11x2_g3x6 : NE g11x2 g3x6 := .a
      replace at11x2 := st1014x5.s at11x2 ne_g11x2_g3x6.ne
      have ne_g14x2_g3x6 : NE g14x2 g3x6 := .a
      replace at14x2 := st1014x5.s at14x2 ne_g14x2_g3x6.ne
      replace at17x5 := st1014x5.s at17x5
      replace at18x5 := st1014x5.s at18x5
      replace hf0 := hf0.st st1014x5 (fun k hk => ⟨by omega, trivial⟩)
      refine .done ?_
      exact ⟨g11x2, g14x2, g17x5, g18x5, g3x6, ⟨rfl, rfl, rfl, rfl, rfl, rfl, rfl, rfl, trivial⟩, hf0, by omega, by omega, by omega, by omega, by omega, by first | assumption | simpa using at11x2, by first | assumption | simpa using at14x2, by first | assumption | simpa using at17x5, by first | assumption | simpa using at18x5, by first | assumption | simpa using at1014x5, by omega, by omega, by omega, by omega, by omega, by omega, by omega, by omega, by omega, by omega⟩
     refine .c1 rfl rfl rfl rfl (.litA rfl sl_23_B ze_22_E rfl rfl rfl rfl) ?_
     rintro _ H18x6 ⟨g18x6, rfl, le18x6, ge18x6, at18x6⟩
     replace hbl := hbl.trans le18x6
     refine ⟨hbl, ?_⟩
     replace hle := hle.trans le18x6
     replace at1 := le18x6.2 _ _ at1
     replace at11x2 := le18x6.2 _ _ at11x2
     replace at14x2 := le18x6.2 _ _ at14x2
     replace at3x6 := le18x6.2 _ _ at3x6
     have lt_at18x6 := GHeap.ltg at18x6
     replace hf0 := hf0.trans le18x6
     replace hin := base_hin.mono hle
     have hb1 : Cat.At _ g1 0 c p := ⟨Mem.of_get at1, hin⟩
     obtain ⟨-, -, -, -, -, -, -, i31, -⟩ := hb1.get
     refine .call1 rfl rfl rfl rfl rfl @Try.call92 rfl (l01Own_c) ?_
     rintro _ H17x6 ⟨le17x6, g17x6, rfl, at17x6, ge17x6⟩
     replace hbl := hbl.trans le17x6
     refine ⟨hbl, ?_⟩
     replace at11x2 := le17x6.2 _ _ at11x2
     replace at14x2 := le17x6.2 _ _ at14x2
     replace at3x6 := le17x6.2 _ _ at3x6
     replace at18x6 := le17x6.2 _ _ at18x6
     replace hf0 := hf0.trans le17x6
     refine .qB rfl hbl (.build bt_29_Db rfl rfl rfl) ?_
     refine .r1 rfl rfl rfl (.fillA rfl sz_29_D rfl rfl rfl rfl) ?_
     rintro _ H1014x6 ⟨rfl, st1014x6, at1014x6⟩
     replace hbl := hbl.st st1014x6 (fun k hk => ⟨by omega, trivial⟩)
     refine ⟨hbl, ?_⟩
     have ne_g11x2_g3x6 : NE g11x2 g3x6 := .a
     replace at11x2 := st1014x6.s at11x2 ne_g11x2_g3x6.ne
     have ne_g14x2_g3x6 : NE g14x2 g3x6 := .a
     replace at14x2 := st1014x6.s at14x2 ne_g14x2_g3x6.ne
     replace at18x6 := st1014x6.s at18x6
     replace at17x6 := st1014x6.s at17x6
     replace hf0 := hf0.st st1014x6 (fun k hk => ⟨by omega, trivial⟩)
     refine .done ?_
     exact ⟨g11x2, g14x2, g17x6, g18x6, g3x6, ⟨rfl, rfl, rfl, rfl, rfl, rfl, rfl, rfl, trivial⟩, hf0, by omega, by omega, by omega, by omega, by omega, by first | assumption | simpa using at11x2, by first | assumption | simpa using at14x2, by first | assumption | simpa using at17x6, by first | assumption | simpa using at18x6, by first | assumption | simpa using at1014x6, by omega, by omega, by omega, by omega, by omega, by omega, by omega, by omega, by omega, by omega⟩
    refine .orI ?_ ?_
    ·
     refine .c1 rfl rfl rfl rfl (.litA rfl sl_23_B ze_22_E rfl rfl rfl rfl) ?_
     rintro _ H18x7 ⟨g18x7, rfl, le18x7, ge18x7, at18x7⟩
     replace hbl := hbl.trans le18x7
     refine ⟨hbl, ?_⟩
     replace hle := hle.trans le18x7
     replace at1 := le18x7.2 _ _ at1
     replace at11x2 := le18x7.2 _ _ at11x2
     have lt_at18x7 := GHeap.ltg at18x7
     replace hf0 := hf0.trans le18x7
     refine .orI ?_ ?_
     ·
      replace hin := base_hin.mono hle
      have hb1 : Cat.At _ g1 0 c p := ⟨Mem.of_get at1, hin⟩
      obtain ⟨-, -, -, -, -, i11, -, -, -⟩ := hb1.get
      refine .call1 rfl rfl rfl rfl rfl @Try.call92 rfl (l01Own_c) ?_
      rintro _ H14x3 ⟨le14x3, g14x3, rfl, at14x3, ge14x3⟩
      replace hbl := hbl.trans le14x3
      refine ⟨hbl, ?_⟩
      replace hle := hle.trans le14x3
      replace at1 := le14x3.2 _ _ at1
      replace at11x2 := le14x3.2 _ _ at11x2
      replace at18x7 := le14x3.2 _ _ at18x7
      have lt_at14x3 := GHeap.ltg at14x3
      replace hf0 := hf0.trans le14x3
      refine .orI ?_ ?_
      ·
       replace hin := base_hin.mono hle
       clear hb1 i11
       have hb1 : Cat.At _ g1 0 c p := ⟨Mem.of_get at1, hin⟩
       obtain ⟨-, -, -, -, -, -, -, i31, -⟩ := hb1.get
       refine .call1 rfl rfl rfl rfl rfl @Try.call92 rfl (l01Own_c) ?_
       rintro _ H17x7 ⟨le17x7, g17x7, rfl, at17x7, ge17x7⟩
       replace hbl := hbl.trans le17x7
       refine ⟨hbl, ?_⟩
       replace at11x2 := le17x7.2 _ _ at11x2
       replace at18x7 := le17x7.2 _ _ at18x7
       replace at14x3 := le17x7.2 _ _ at14x3
       have lt_at17x7 := GHeap.ltg at17x7
       replace hf0 := hf0.trans le17x7
       refine .qB rfl hbl (.build bt_29_Db rfl rfl rfl) ?_
       refine .c1 rfl rfl rfl rfl (.allocR rfl ze_29_E rfl) ?_
       rintro _ H3x7 ⟨g3x7, rfl, le3x7, ge3x7, at3x7⟩
       replace hbl := hbl.trans le3x7
       refine ⟨hbl, ?_⟩
       replace at11x2 := le3x7.2 _ _ at11x2
       replace at18x7 := le3x7.2 _ _ at18x7
       replace at14x3 := le3x7.2 _ _ at14x3
       replace at17x7 := le3x7.2 _ _ at17x7
       replace hf0 := hf0.trans le3x7
       refine .r1 rfl rfl rfl (.fillA rfl sz_29_D rfl rfl rfl rfl) ?_
       rintro _ H1014x7 ⟨rfl, st1014x7, at1014x7⟩
       replace hbl := hbl.st st1014x7 (fun k hk => ⟨by omega, trivial⟩)
       refine ⟨hbl, ?_⟩
       replace at11x2 := st1014x7.s at11x2
       replace at18x7 := st1014x7.s at18x7
       replace at14x3 := st1014x7.s at14x3
       replace at17x7 := st1014x7.s at17x7
       replace hf0 := hf0.st st1014x7 (fun k hk => ⟨by omega, trivial⟩)
       refine .done ?_
       exact ⟨g11x2, g14x3, g17x7, g18x7, g3x7, ⟨rfl, rfl, rfl, rfl, rfl, rfl, rfl, rfl, trivial⟩, hf0, by omega, by omega, by omega, by omega, by omega, by first | assumption | simpa using at11x2, by first | assumption | simpa using at14x3, by first | assumption | simpa using at17x7, by first | assumption | simpa using at18x7, by first | assumption | simpa using at1014x7, by omega, by omega, by omega, by omega, by omega, by omega, by omega, by omega, by omega, by omega⟩
      refine .c1 rfl rfl rfl rfl (.allocR rfl ze_29_E rfl) ?_
      rintro _ H3x8 ⟨g3x8, rfl, le3x8, ge3x8, at3x8⟩
      replace hbl := hbl.trans le3x8
      refine ⟨hbl, ?_⟩
      replace hle := hle.trans le3x8
      replace at1 := le3x8.2 _ _ at1
      replace at11x2 := le3x8.2 _ _ at11x2
      replace at18x7 := le3x8.2 _ _ at18x7
      replace at14x3 := le3x8.2 _ _ at14x3
      have lt_at3x8 := GHeap.ltg at3x8
      replace hf0 := hf0.trans le3x8
      replace hin := base_hin.mono hle
      have hb1 : Cat.At _ g1 0 c p := ⟨Mem.of_get at1, hin⟩
      obtain ⟨-, -, -, -, -, -, -, i31, -⟩ := hb1.get
      refine .call1 rfl rfl rfl rfl rfl @Try.call92 rfl (l01Own_c) ?_
      rintro _ H17x8 ⟨le17x8, g17x8, rfl, at17x8, ge17x8⟩
      replace hbl := hbl.trans le17x8
      refine ⟨hbl, ?_⟩
      replace at11x2 := le17x8.2 _ _ at11x2
      replace at18x7 := le17x8.2 _ _ at18x7
      replace at14x3 := le17x8.2 _ _ at14x3
      replace at3x8 := le17x8.2 _ _ at3x8
      replace hf0 := hf0.trans le17x8
      refine .qB rfl hbl (.build bt_29_Db rfl rfl rfl) ?_
      refine .r1 rfl rfl rfl (.fillA rfl sz_29_D rfl rfl rfl rfl) ?_
      rintro _ H1014x8 ⟨rfl, st1014x8, at1014x8⟩
      replace hbl := hbl.st st1014x8 (fun k hk => ⟨by omega, trivial⟩)
      refine ⟨hbl, ?_⟩
      replace at11x2 := st1014x8.s at11x2
      replace at18x7 := st1014x8.s at18x7
      replace at14x3 := st1014x8.s at14x3
      replace at17x8 := st1014x8.s at17x8
      replace hf0 := hf0.st st1014x8 (fun k hk => ⟨by omega, trivial⟩)
      refine .done ?_
      exact ⟨g11x2, g14x3, g17x8, g18x7, g3x8, ⟨rfl, rfl, rfl, rfl, rfl, rfl, rfl, rfl, trivial⟩, hf0, by omega, by omega, by omega, by omega, by omega, by first | assumption | simpa using at11x2, by first | assumption | simpa using at14x3, by first | assumption | simpa using at17x8, by first | assumption | simpa using at18x7, by first | assumption | simpa using at1014x8, by omega, by omega, by omega, by omega, by omega, by omega, by omega, by omega, by omega, by omega⟩
     refine .c1 rfl rfl rfl rfl (.allocR rfl ze_29_E rfl) ?_
     rintro _ H3x9 ⟨g3x9, rfl, le3x9, ge3x9, at3x9⟩
     replace hbl := hbl.trans le3x9
     refine ⟨hbl, ?_⟩
     replace hle := hle.trans le3x9
     replace at1 := le3x9.2 _ _ at1
     replace at11x2 := le3x9.2 _ _ at11x2
     replace at18x7 := le3x9.2 _ _ at18x7
     have lt_at3x9 := GHeap.ltg at3x9
     replace hf0 := hf0.trans le3x9
     replace hin := base_hin.mono hle
     have hb1 : Cat.At _ g1 0 c p := ⟨Mem.of_get at1, hin⟩
     obtain ⟨-, -, -, -, -, i11, -, -, -⟩ := hb1.get
     refine .call1 rfl rfl rfl rfl rfl @Try.call92 rfl (l01Own_c) ?_
     rintro _ H14x4 ⟨le14x4, g14x4, rfl, at14x4, ge14x4⟩
     replace hbl := hbl.trans le14x4
     refine ⟨hbl, ?_⟩
     replace hle := hle.trans le14x4
     replace at1 := le14x4.2 _ _ at1
     replace at11x2 := le14x4.2 _ _ at11x2
     replace at18x7 := le14x4.2 _ _ at18x7
     replace at3x9 := le14x4.2 _ _ at3x9
     have lt_at14x4 := GHeap.ltg at14x4
     replace hf0 := hf0.trans le14x4
     replace hin := base_hin.mono hle
     clear hb1 i11
     have hb1 : Cat.At _ g1 0 c p := ⟨Mem.of_get at1, hin⟩
     obtain ⟨-, -, -, -, -, -, -, i31, -⟩ := hb1.get
     refine .call1 rfl rfl rfl rfl rfl @Try.call92 rfl (l01Own_c) ?_
     rintro _ H17x9 ⟨le17x9, g17x9, rfl, at17x9, ge17x9⟩
     replace hbl := hbl.trans le17x9
     refine ⟨hbl, ?_⟩
     replace at11x2 := le17x9.2 _ _ at11x2
     replace at18x7 := le17x9.2 _ _ at18x7
     replace at3x9 := le17x9.2 _ _ at3x9
     replace at14x4 := le17x9.2 _ _ at14x4
     replace hf0 := hf0.trans le17x9
     refine .qB rfl hbl (.build bt_29_Db rfl rfl rfl) ?_
     refine .r1 rfl rfl rfl (.fillA rfl sz_29_D rfl rfl rfl rfl) ?_
     rintro _ H1014x9 ⟨rfl, st1014x9, at1014x9⟩
     replace hbl := hbl.st st1014x9 (fun k hk => ⟨by omega, trivial⟩)
     refine ⟨hbl, ?_⟩
     replace at11x2 := st1014x9.s at11x2
     replace at18x7 := st1014x9.s at18x7
     replace at14x4 := st1014x9.s at14x4
     replace at17x9 := st1014x9.s at17x9
     replace hf0 := hf0.st st1014x9 (fun k hk => ⟨by omega, trivial⟩)
     refine .done ?_
     exact ⟨g11x2, g14x4, g17x9, g18x7, g3x9, ⟨rfl, rfl, rfl, rfl, rfl, rfl, rfl, rfl, trivial⟩, hf0, by omega, by omega, by omega, by omega, by omega, by first | assumption | simpa using at11x2, by first | assumption | simpa using at14x4, by first | assumption | simpa using at17x9, by first | assumption | simpa using at18x7, by first | assumption | simpa using at1014x9, by omega, by omega, by omega, by omega, by omega, by omega, by omega, by omega, by omega, by omega⟩
    refine .c1 rfl rfl rfl rfl (.allocR rfl ze_29_E rfl) ?_
    rintro _ H3x10 ⟨g3x10, rfl, le3x10, ge3x10, at3x10⟩
    replace hbl := hbl.trans le3x10
    refine ⟨hbl, ?_⟩
    replace hle := hle.trans le3x10
    replace at1 := le3x10.2 _ _ at1
    replace at11x2 := le3x10.2 _ _ at11x2
    have lt_at3x10 := GHeap.ltg at3x10
    replace hf0 := hf0.trans le3x10
    refine .orI ?_ ?_
    ·
     replace hin := base_hin.mono hle
     have hb1 : Cat.At _ g1 0 c p := ⟨Mem.of_get at1, hin⟩
     obtain ⟨-, -, -, -, -, i11, -, -, -⟩ := hb1.get
     refine .call1 rfl rfl rfl rfl rfl @Try.call92 rfl (l01Own_c) ?_
     rintro _ H14x5 ⟨le14x5, g14x5, rfl, at14x5, ge14x5⟩
     replace hbl := hbl.trans le14x5
     refine ⟨hbl, ?_⟩
     replace hle := hle.trans le14x5
     replace at1 := le14x5.2 _ _ at1
     replace at11x2 := le14x5.2 _ _ at11x2
     replace at3x10 := le14x5.2 _ _ at3x10
     have lt_at14x5 := GHeap.ltg at14x5
     replace hf0 := hf0.trans le14x5
     refine .orI ?_ ?_
     ·
      replace hin := base_hin.mono hle
      clear hb1 i11
      have hb1 : Cat.At _ g1 0 c p := ⟨Mem.of_get at1, hin⟩
      obtain ⟨-, -, -, -, -, -, -, i31, -⟩ := hb1.get
      refine .call1 rfl rfl rfl rfl rfl @Try.call92 rfl (l01Own_c) ?_
      rintro _ H17x10 ⟨le17x10, g17x10, rfl, at17x10, ge17x10⟩
      replace hbl := hbl.trans le17x10
      refine ⟨hbl, ?_⟩
      replace at11x2 := le17x10.2 _ _ at11x2
      replace at3x10 := le17x10.2 _ _ at3x10
      replace at14x5 := le17x10.2 _ _ at14x5
      have lt_at17x10 := GHeap.ltg at17x10
      replace hf0 := hf0.trans le17x10
      refine .c1 rfl rfl rfl rfl (.litA rfl sl_23_B ze_22_E rfl rfl rfl rfl) ?_
      rintro _ H18x8 ⟨g18x8, rfl, le18x8, ge18x8, at18x8⟩
      replace hbl := hbl.trans le18x8
      refine ⟨hbl, ?_⟩
      replace at11x2 := le18x8.2 _ _ at11x2
      replace at3x10 := le18x8.2 _ _ at3x10
      replace at14x5 := le18x8.2 _ _ at14x5
      replace at17x10 := le18x8.2 _ _ at17x10
      replace hf0 := hf0.trans le18x8
      refine .qB rfl hbl (.build bt_29_Db rfl rfl rfl) ?_
      refine .r1 rfl rfl rfl (.fillA rfl sz_29_D rfl rfl rfl rfl) ?_
      rintro _ H1014x10 ⟨rfl, st1014x10, at1014x10⟩
      replace hbl := hbl.st st1014x10 (fun k hk => ⟨by omega, trivial⟩)
      refine ⟨hbl, ?_⟩
      have ne_g11x2_g3x10 : NE g11x2 g3x10 := .a
      replace at11x2 := st1014x10.s at11x2 ne_g11x2_g3x10.ne
      have ne_g14x5_g3x10 : NE g14x5 g3x10 := .a
      replace at14x5 := st1014x10.s at14x5 ne_g14x5_g3x10.ne
      replace at17x10 := st1014x10.s at17x10
      replace at18x8 := st1014x10.s at18x8
      replace hf0 := hf0.st st1014x10 (fun k hk => ⟨by omega, trivial⟩)
      refine .done ?_
      exact ⟨g11x2, g14x5, g17x10, g18x8, g3x10, ⟨rfl, rfl, rfl, rfl, rfl, rfl, rfl, rfl, trivial⟩, hf0, by omega, by omega, by omega, by omega, by omega, by first | assumption | simpa using at11x2, by first | assumption | simpa using at14x5, by first | assumption | simpa using at17x10, by first | assumption | simpa using at18x8, by first | assumption | simpa using at1014x10, by omega, by omega, by omega, by omega, by omega, by omega, by omega, by omega, by omega, by omega⟩
     refine .c1 rfl rfl rfl rfl (.litA rfl sl_23_B ze_22_E rfl rfl rfl rfl) ?_
     rintro _ H18x9 ⟨g18x9, rfl, le18x9, ge18x9, at18x9⟩
     replace hbl := hbl.trans le18x9
     refine ⟨hbl, ?_⟩
     replace hle := hle.trans le18x9
     replace at1 := le18x9.2 _ _ at1
     replace at11x2 := le18x9.2 _ _ at11x2
     replace at3x10 := le18x9.2 _ _ at3x10
     replace at14x5 := le18x9.2 _ _ at14x5
     have lt_at18x9 := GHeap.ltg at18x9
     replace hf0 := hf0.trans le18x9
     replace hin := base_hin.mono hle
     have hb1 : Cat.At _ g1 0 c p := ⟨Mem.of_get at1, hin⟩
     obtain ⟨-, -, -, -, -, -, -, i31, -⟩ := hb1.get
     refine .call1 rfl rfl rfl rfl rfl @Try.call92 rfl (l01Own_c) ?_
     rintro _ H17x11 ⟨le17x11, g17x11, rfl, at17x11, ge17x11⟩
     replace hbl := hbl.trans le17x11
     refine ⟨hbl, ?_⟩
     replace at11x2 := le17x11.2 _ _ at11x2
     replace at3x10 := le17x11.2 _ _ at3x10
     replace at14x5 := le17x11.2 _ _ at14x5
     replace at18x9 := le17x11.2 _ _ at18x9
     replace hf0 := hf0.trans le17x11
     refine .qB rfl hbl (.build bt_29_Db rfl rfl rfl) ?_
     refine .r1 rfl rfl rfl (.fillA rfl sz_29_D rfl rfl rfl rfl) ?_
     rintro _ H1014x11 ⟨rfl, st1014x11, at1014x11⟩
     replace hbl := hbl.st st1014x11 (fun k hk => ⟨by omega, trivial⟩)
     refine ⟨hbl, ?_⟩
     have ne_g11x2_g3x10 : NE g11x2 g3x10 := .a
     replace at11x2 := st1014x11.s at11x2 ne_g11x2_g3x10.ne
     have ne_g14x5_g3x10 : NE g14x5 g3x10 := .a
     replace at14x5 := st1014x11.s at14x5 ne_g14x5_g3x10.ne
     replace at18x9 := st1014x11.s at18x9
     replace at17x11 := st1014x11.s at17x11
     replace hf0 := hf0.st st1014x11 (fun k hk => ⟨by omega, trivial⟩)
     refine .done ?_
     exact ⟨g11x2, g14x5, g17x11, g18x9, g3x10, ⟨rfl, rfl, rfl, rfl, rfl, rfl, rfl, rfl, trivial⟩, hf0, by omega, by omega, by omega, by omega, by omega, by first | assumption | simpa using at11x2, by first | assumption | simpa using at14x5, by first | assumption | simpa using at17x11, by first | assumption | simpa using at18x9, by first | assumption | simpa using at1014x11, by omega, by omega, by omega, by omega, by omega, by omega, by omega, by omega, by omega, by omega⟩
    refine .c1 rfl rfl rfl rfl (.litA rfl sl_23_B ze_22_E rfl rfl rfl rfl) ?_
    rintro _ H18x10 ⟨g18x10, rfl, le18x10, ge18x10, at18x10⟩
    replace hbl := hbl.trans le18x10
    refine ⟨hbl, ?_⟩
    replace hle := hle.trans le18x10
    replace at1 := le18x10.2 _ _ at1
    replace at11x2 := le18x10.2 _ _ at11x2
    replace at3x10 := le18x10.2 _ _ at3x10
    have lt_at18x10 := GHeap.ltg at18x10
    replace hf0 := hf0.trans le18x10
    replace hin := base_hin.mono hle
    have hb1 : Cat.At _ g1 0 c p := ⟨Mem.of_get at1, hin⟩
    obtain ⟨-, -, -, -, -, i11, -, -, -⟩ := hb1.get
    refine .call1 rfl rfl rfl rfl rfl @Try.call92 rfl (l01Own_c) ?_
    rintro _ H14x6 ⟨le14x6, g14x6, rfl, at14x6, ge14x6⟩
    replace hbl := hbl.trans le14x6
    refine ⟨hbl, ?_⟩
    replace hle := hle.trans le14x6
    replace at1 := le14x6.2 _ _ at1
    replace at11x2 := le14x6.2 _ _ at11x2
    replace at3x10 := le14x6.2 _ _ at3x10
    replace at18x10 := le14x6.2 _ _ at18x10
    have lt_at14x6 := GHeap.ltg at14x6
    replace hf0 := hf0.trans le14x6
    replace hin := base_hin.mono hle
    clear hb1 i11
    have hb1 : Cat.At _ g1 0 c p := ⟨Mem.of_get at1, hin⟩
    obtain ⟨-, -, -, -, -, -, -, i31, -⟩ := hb1.get
    refine .call1 rfl rfl rfl rfl rfl @Try.call92 rfl (l01Own_c) ?_
    rintro _ H17x12 ⟨le17x12, g17x12, rfl, at17x12, ge17x12⟩
    replace hbl := hbl.trans le17x12
    refine ⟨hbl, ?_⟩
    replace at11x2 := le17x12.2 _ _ at11x2
    replace at3x10 := le17x12.2 _ _ at3x10
    replace at18x10 := le17x12.2 _ _ at18x10
    replace at14x6 := le17x12.2 _ _ at14x6
    replace hf0 := hf0.trans le17x12
    refine .qB rfl hbl (.build bt_29_Db rfl rfl rfl) ?_
    refine .r1 rfl rfl rfl (.fillA rfl sz_29_D rfl rfl rfl rfl) ?_
    rintro _ H1014x12 ⟨rfl, st1014x12, at1014x12⟩
    replace hbl := hbl.st st1014x12 (fun k hk => ⟨by omega, trivial⟩)
    refine ⟨hbl, ?_⟩
    have ne_g11x2_g3x10 : NE g11x2 g3x10 := .a
    replace at11x2 := st1014x12.s at11x2 ne_g11x2_g3x10.ne
    replace at18x10 := st1014x12.s at18x10
    replace at14x6 := st1014x12.s at14x6
    replace at17x12 := st1014x12.s at17x12
    replace hf0 := hf0.st st1014x12 (fun k hk => ⟨by omega, trivial⟩)
    refine .done ?_
    exact ⟨g11x2, g14x6, g17x12, g18x10, g3x10, ⟨rfl, rfl, rfl, rfl, rfl, rfl, rfl, rfl, trivial⟩, hf0, by omega, by omega, by omega, by omega, by omega, by first | assumption | simpa using at11x2, by first | assumption | simpa using at14x6, by first | assumption | simpa using at17x12, by first | assumption | simpa using at18x10, by first | assumption | simpa using at1014x12, by omega, by omega, by omega, by omega, by omega, by omega, by omega, by omega, by omega, by omega⟩
   refine .orI ?_ ?_
   ·
    refine .c1 rfl rfl rfl rfl (.litA rfl sl_23_B ze_22_E rfl rfl rfl rfl) ?_
    rintro _ H18x11 ⟨g18x11, rfl, le18x11, ge18x11, at18x11⟩
    have hbl := le18x11
    refine ⟨hbl, ?_⟩
    replace hle := hle.trans le18x11
    replace at1 := le18x11.2 _ _ at1
    have lt_at18x11 := GHeap.ltg at18x11
    replace hf0 := hf0.trans le18x11
    refine .orI ?_ ?_
    ·
     replace hin := base_hin.mono hle
     have hb1 : Cat.At _ g1 0 c p := ⟨Mem.of_get at1, hin⟩
     obtain ⟨-, -, -, -, -, -, i21, -, -⟩ := hb1.get
     refine .call1 rfl rfl rfl rfl rfl @Try.call92 rfl (l01Own_c) ?_
     rintro _ H11x3 ⟨le11x3, g11x3, rfl, at11x3, ge11x3⟩
     replace hbl := hbl.trans le11x3
     refine ⟨hbl, ?_⟩
     replace hle := hle.trans le11x3
     replace at1 := le11x3.2 _ _ at1
     replace at18x11 := le11x3.2 _ _ at18x11
     have lt_at11x3 := GHeap.ltg at11x3
     replace hf0 := hf0.trans le11x3
     refine .orI ?_ ?_
     ·
      replace hin := base_hin.mono hle
      clear hb1 i21
      have hb1 : Cat.At _ g1 0 c p := ⟨Mem.of_get at1, hin⟩
      obtain ⟨-, -, -, -, -, i11, -, -, -⟩ := hb1.get
      refine .call1 rfl rfl rfl rfl rfl @Try.call92 rfl (l01Own_c) ?_
      rintro _ H14x7 ⟨le14x7, g14x7, rfl, at14x7, ge14x7⟩
      replace hbl := hbl.trans le14x7
      refine ⟨hbl, ?_⟩
      replace hle := hle.trans le14x7
      replace at1 := le14x7.2 _ _ at1
      replace at18x11 := le14x7.2 _ _ at18x11
      replace at11x3 := le14x7.2 _ _ at11x3
      have lt_at14x7 := GHeap.ltg at14x7
      replace hf0 := hf0.trans le14x7
      refine .orI ?_ ?_
      ·
       replace hin := base_hin.mono hle
       clear hb1 i11
       have hb1 : Cat.At _ g1 0 c p := ⟨Mem.of_get at1, hin⟩
       obtain ⟨-, -, -, -, -, -, -, i31, -⟩ := hb1.get
       refine .call1 rfl rfl rfl rfl rfl @Try.call92 rfl (l01Own_c) ?_
       rintro _ H17x13 ⟨le17x13, g17x13, rfl, at17x13, ge17x13⟩
       replace hbl := hbl.trans le17x13
       refine ⟨hbl, ?_⟩
       replace at18x11 := le17x13.2 _ _ at18x11
       replace at11x3 := le17x13.2 _ _ at11x3
       replace at14x7 := le17x13.2 _ _ at14x7
       have lt_at17x13 := GHeap.ltg at17x13
       replace hf0 := hf0.trans le17x13
       refine .qB rfl hbl (.build bt_29_Db rfl rfl rfl) ?_
       refine .c1 rfl rfl rfl rfl (.allocR rfl ze_29_E rfl) ?_
       rintro _ H3x11 ⟨g3x11, rfl, le3x11, ge3x11, at3x11⟩
       replace hbl := hbl.trans le3x11
       refine ⟨hbl, ?_⟩
       replace at18x11 := le3x11.2 _ _ at18x11
       replace at11x3 := le3x11.2 _ _ at11x3
       replace at14x7 := le3x11.2 _ _ at14x7
       replace at17x13 := le3x11.2 _ _ at17x13
       replace hf0 := hf0.trans le3x11
       refine .r1 rfl rfl rfl (.fillA rfl sz_29_D rfl rfl rfl rfl) ?_
       rintro _ H1014x13 ⟨rfl, st1014x13, at1014x13⟩
       replace hbl := hbl.st st1014x13 (fun k hk => ⟨by omega, trivial⟩)
       refine ⟨hbl, ?_⟩
       replace at18x11 := st1014x13.s at18x11
       replace at11x3 := st1014x13.s at11x3
       replace at14x7 := st1014x13.s at14x7
       replace at17x13 := st1014x13.s at17x13
       replace hf0 := hf0.st st1014x13 (fun k hk => ⟨by omega, trivial⟩)
       refine .done ?_
       exact ⟨g11x3, g14x7, g17x13, g18x11, g3x11, ⟨rfl, rfl, rfl, rfl, rfl, rfl, rfl, rfl, trivial⟩, hf0, by omega, by omega, by omega, by omega, by omega, by first | assumption | simpa using at11x3, by first | assumption | simpa using at14x7, by first | assumption | simpa using at17x13, by first | assumption | simpa using at18x11, by first | assumption | simpa using at1014x13, by omega, by omega, by omega, by omega, by omega, by omega, by omega, by omega, by omega, by omega⟩
      refine .c1 rfl rfl rfl rfl (.allocR rfl ze_29_E rfl) ?_
      rintro _ H3x12 ⟨g3x12, rfl, le3x12, ge3x12, at3x12⟩
      replace hbl := hbl.trans le3x12
      refine ⟨hbl, ?_⟩
      replace hle := hle.trans le3x12
      replace at1 := le3x12.2 _ _ at1
      replace at18x11 := le3x12.2 _ _ at18x11
      replace at11x3 := le3x12.2 _ _ at11x3
      replace at14x7 := le3x12.2 _ _ at14x7
      have lt_at3x12 := GHeap.ltg at3x12
      replace hf0 := hf0.trans le3x12
      replace hin := base_hin.mono hle
      have hb1 : Cat.At _ g1 0 c p := ⟨Mem.of_get at1, hin⟩
      obtain ⟨-, -, -, -, -, -, -, i31, -⟩ := hb1.get
      refine .call1 rfl rfl rfl rfl rfl @Try.call92 rfl (l01Own_c) ?_
      rintro _ H17x14 ⟨le17x14, g17x14, rfl, at17x14, ge17x14⟩
      replace hbl := hbl.trans le17x14
      refine ⟨hbl, ?_⟩
      replace at18x11 := le17x14.2 _ _ at18x11
      replace at11x3 := le17x14.2 _ _ at11x3
      replace at14x7 := le17x14.2 _ _ at14x7
      replace at3x12 := le17x14.2 _ _ at3x12
      replace hf0 := hf0.trans le17x14
      refine .qB rfl hbl (.build bt_29_Db rfl rfl rfl) ?_
      refine .r1 rfl rfl rfl (.fillA rfl sz_29_D rfl rfl rfl rfl) ?_
      rintro _ H1014x14 ⟨rfl, st1014x14, at1014x14⟩
      replace hbl := hbl.st st1014x14 (fun k hk => ⟨by omega, trivial⟩)
      refine ⟨hbl, ?_⟩
      replace at18x11 := st1014x14.s at18x11
      replace at11x3 := st1014x14.s at11x3
      replace at14x7 := st1014x14.s at14x7
      replace at17x14 := st1014x14.s at17x14
      replace hf0 := hf0.st st1014x14 (fun k hk => ⟨by omega, trivial⟩)
      refine .done ?_
      exact ⟨g11x3, g14x7, g17x14, g18x11, g3x12, ⟨rfl, rfl, rfl, rfl, rfl, rfl, rfl, rfl, trivial⟩, hf0, by omega, by omega, by omega, by omega, by omega, by first | assumption | simpa using at11x3, by first | assumption | simpa using at14x7, by first | assumption | simpa using at17x14, by first | assumption | simpa using at18x11, by first | assumption | simpa using at1014x14, by omega, by omega, by omega, by omega, by omega, by omega, by omega, by omega, by omega, by omega⟩
     refine .c1 rfl rfl rfl rfl (.allocR rfl ze_29_E rfl) ?_
     rintro _ H3x13 ⟨g3x13, rfl, le3x13, ge3x13, at3x13⟩
     replace hbl := hbl.trans le3x13
     refine ⟨hbl, ?_⟩
     replace hle := hle.trans le3x13
     replace at1 := le3x13.2 _ _ at1
     replace at18x11 := le3x13.2 _ _ at18x11
     replace at11x3 := le3x13.2 _ _ at11x3
     have lt_at3x13 := GHeap.ltg at3x13
     replace hf0 := hf0.trans le3x13
     replace hin := base_hin.mono hle
     have hb1 : Cat.At _ g1 0 c p := ⟨Mem.of_get at1, hin⟩
     obtain ⟨-, -, -, -, -, i11, -, -, -⟩ := hb1.get
     refine .call1 rfl rfl rfl rfl rfl @Try.call92 rfl (l01Own_c) ?_
     rintro _ H14x8 ⟨le14x8, g14x8, rfl, at14x8, ge14x8⟩
     replace hbl := hbl.trans le14x8
     refine ⟨hbl, ?_⟩
     replace hle := hle.trans le14x8
     replace at1 := le14x8.2 _ _ at1
     replace at18x11 := le14x8.2 _ _ at18x11
     replace at11x3 := le14x8.2 _ _ at11x3
     replace at3x13 := le14x8.2 _ _ at3x13
     have lt_at14x8 := GHeap.ltg at14x8
     replace hf0 := hf0.trans le14x8
     replace hin := base_hin.mono hle
     clear hb1 i11
     have hb1 : Cat.At _ g1 0 c p := ⟨Mem.of_get at1, hin⟩
     obtain ⟨-, -, -, -, -, -, -, i31, -⟩ := hb1.get
     refine .call1 rfl rfl rfl rfl rfl @Try.call92 rfl (l01Own_c) ?_
     rintro _ H17x15 ⟨le17x15, g17x15, rfl, at17x15, ge17x15⟩
     replace hbl := hbl.trans le17x15
     refine ⟨hbl, ?_⟩
     replace at18x11 := le17x15.2 _ _ at18x11
     replace at11x3 := le17x15.2 _ _ at11x3
     replace at3x13 := le17x15.2 _ _ at3x13
     replace at14x8 := le17x15.2 _ _ at14x8
     replace hf0 := hf0.trans le17x15
     refine .qB rfl hbl (.build bt_29_Db rfl rfl rfl) ?_
     refine .r1 rfl rfl rfl (.fillA rfl sz_29_D rfl rfl rfl rfl) ?_
     rintro _ H1014x15 ⟨rfl, st1014x15, at1014x15⟩
     replace hbl := hbl.st st1014x15 (fun k hk => ⟨by omega, trivial⟩)
     refine ⟨hbl, ?_⟩
     replace at18x11 := st1014x15.s at18x11
     replace at11x3 := st1014x15.s at11x3
     replace at14x8 := st1014x15.s at14x8
     replace at17x15 := st1014x15.s at17x15
     replace hf0 := hf0.st st1014x15 (fun k hk => ⟨by omega, trivial⟩)
     refine .done ?_
     exact ⟨g11x3, g14x8, g17x15, g18x11, g3x13, ⟨rfl, rfl, rfl, rfl, rfl, rfl, rfl, rfl, trivial⟩, hf0, by omega, by omega, by omega, by omega, by omega, by first | assumption | simpa using at11x3, by first | assumption | simpa using at14x8, by first | assumption | simpa using at17x15, by first | assumption | simpa using at18x11, by first | assumption | simpa using at1014x15, by omega, by omega, by omega, by omega, by omega, by omega, by omega, by omega, by omega, by omega⟩
    refine .c1 rfl rfl rfl rfl (.allocR rfl ze_29_E rfl) ?_
    rintro _ H3x14 ⟨g3x14, rfl, le3x14, ge3x14, at3x14⟩
    replace hbl := hbl.trans le3x14
    refine ⟨hbl, ?_⟩
    replace hle := hle.trans le3x14
    replace at1 := le3x14.2 _ _ at1
    replace at18x11 := le3x14.2 _ _ at18x11
    have lt_at3x14 := GHeap.ltg at3x14
    replace hf0 := hf0.trans le3x14
    replace hin := base_hin.mono hle
    have hb1 : Cat.At _ g1 0 c p := ⟨Mem.of_get at1, hin⟩
    obtain ⟨-, -, -, -, -, -, i21, -, -⟩ := hb1.get
    refine .call1 rfl rfl rfl rfl rfl @Try.call92 rfl (l01Own_c) ?_
    rintro _ H11x4 ⟨le11x4, g11x4, rfl, at11x4, ge11x4⟩
    replace hbl := hbl.trans le11x4
    refine ⟨hbl, ?_⟩
    replace hle := hle.trans le11x4
    replace at1 := le11x4.2 _ _ at1
    replace at18x11 := le11x4.2 _ _ at18x11
    replace at3x14 := le11x4.2 _ _ at3x14
    have lt_at11x4 := GHeap.ltg at11x4
    replace hf0 := hf0.trans le11x4
    replace hin := base_hin.mono hle
    clear hb1 i21
    have hb1 : Cat.At _ g1 0 c p := ⟨Mem.of_get at1, hin⟩
    obtain ⟨-, -, -, -, -, i11, -, -, -⟩ := hb1.get
    refine .call1 rfl rfl rfl rfl rfl @Try.call92 rfl (l01Own_c) ?_
    rintro _ H14x9 ⟨le14x9, g14x9, rfl, at14x9, ge14x9⟩
    replace hbl := hbl.trans le14x9
    refine ⟨hbl, ?_⟩
    replace hle := hle.trans le14x9
    replace at1 := le14x9.2 _ _ at1
    replace at18x11 := le14x9.2 _ _ at18x11
    replace at3x14 := le14x9.2 _ _ at3x14
    replace at11x4 := le14x9.2 _ _ at11x4
    have lt_at14x9 := GHeap.ltg at14x9
    replace hf0 := hf0.trans le14x9
    replace hin := base_hin.mono hle
    clear hb1 i11
    have hb1 : Cat.At _ g1 0 c p := ⟨Mem.of_get at1, hin⟩
    obtain ⟨-, -, -, -, -, -, -, i31, -⟩ := hb1.get
    refine .call1 rfl rfl rfl rfl rfl @Try.call92 rfl (l01Own_c) ?_
    rintro _ H17x16 ⟨le17x16, g17x16, rfl, at17x16, ge17x16⟩
    replace hbl := hbl.trans le17x16
    refine ⟨hbl, ?_⟩
    replace at18x11 := le17x16.2 _ _ at18x11
    replace at3x14 := le17x16.2 _ _ at3x14
    replace at11x4 := le17x16.2 _ _ at11x4
    replace at14x9 := le17x16.2 _ _ at14x9
    replace hf0 := hf0.trans le17x16
    refine .qB rfl hbl (.build bt_29_Db rfl rfl rfl) ?_
    refine .r1 rfl rfl rfl (.fillA rfl sz_29_D rfl rfl rfl rfl) ?_
    rintro _ H1014x16 ⟨rfl, st1014x16, at1014x16⟩
    replace hbl := hbl.st st1014x16 (fun k hk => ⟨by omega, trivial⟩)
    refine ⟨hbl, ?_⟩
    replace at18x11 := st1014x16.s at18x11
    replace at11x4 := st1014x16.s at11x4
    replace at14x9 := st1014x16.s at14x9
    replace at17x16 := st1014x16.s at17x16
    replace hf0 := hf0.st st1014x16 (fun k hk => ⟨by omega, trivial⟩)
    refine .done ?_
    exact ⟨g11x4, g14x9, g17x16, g18x11, g3x14, ⟨rfl, rfl, rfl, rfl, rfl, rfl, rfl, rfl, trivial⟩, hf0, by omega, by omega, by omega, by omega, by omega, by first | assumption | simpa using at11x4, by first | assumption | simpa using at14x9, by first | assumption | simpa using at17x16, by first | assumption | simpa using at18x11, by first | assumption | simpa using at1014x16, by omega, by omega, by omega, by omega, by omega, by omega, by omega, by omega, by omega, by omega⟩
   refine .c1 rfl rfl rfl rfl (.allocR rfl ze_29_E rfl) ?_
   rintro _ H3x15 ⟨g3x15, rfl, le3x15, ge3x15, at3x15⟩
   have hbl := le3x15
   refine ⟨hbl, ?_⟩
   replace hle := hle.trans le3x15
   replace at1 := le3x15.2 _ _ at1
   have lt_at3x15 := GHeap.ltg at3x15
   replace hf0 := hf0.trans le3x15
   refine .orI ?_ ?_
   ·
    replace hin := base_hin.mono hle
    have hb1 : Cat.At _ g1 0 c p := ⟨Mem.of_get at1, hin⟩
    obtain ⟨-, -, -, -, -, -, i21, -, -⟩ := hb1.get
    refine .call1 rfl rfl rfl rfl rfl @Try.call92 rfl (l01Own_c) ?_
    rintro _ H11x5 ⟨le11x5, g11x5, rfl, at11x5, ge11x5⟩
    replace hbl := hbl.trans le11x5
    refine ⟨hbl, ?_⟩
    replace hle := hle.trans le11x5
    replace at1 := le11x5.2 _ _ at1
    replace at3x15 := le11x5.2 _ _ at3x15
    have lt_at11x5 := GHeap.ltg at11x5
    replace hf0 := hf0.trans le11x5
    refine .orI ?_ ?_
    ·
     replace hin := base_hin.mono hle
     clear hb1 i21
     have hb1 : Cat.At _ g1 0 c p := ⟨Mem.of_get at1, hin⟩
     obtain ⟨-, -, -, -, -, i11, -, -, -⟩ := hb1.get
     refine .call1 rfl rfl rfl rfl rfl @Try.call92 rfl (l01Own_c) ?_
     rintro _ H14x10 ⟨le14x10, g14x10, rfl, at14x10, ge14x10⟩
     replace hbl := hbl.trans le14x10
     refine ⟨hbl, ?_⟩
     replace hle := hle.trans le14x10
     replace at1 := le14x10.2 _ _ at1
     replace at3x15 := le14x10.2 _ _ at3x15
     replace at11x5 := le14x10.2 _ _ at11x5
     have lt_at14x10 := GHeap.ltg at14x10
     replace hf0 := hf0.trans le14x10
     refine .orI ?_ ?_
     ·
      replace hin := base_hin.mono hle
      clear hb1 i11
      have hb1 : Cat.At _ g1 0 c p := ⟨Mem.of_get at1, hin⟩
      obtain ⟨-, -, -, -, -, -, -, i31, -⟩ := hb1.get
      refine .call1 rfl rfl rfl rfl rfl @Try.call92 rfl (l01Own_c) ?_
      rintro _ H17x17 ⟨le17x17, g17x17, rfl, at17x17, ge17x17⟩
      replace hbl := hbl.trans le17x17
      refine ⟨hbl, ?_⟩
      replace at3x15 := le17x17.2 _ _ at3x15
      replace at11x5 := le17x17.2 _ _ at11x5
      replace at14x10 := le17x17.2 _ _ at14x10
      have lt_at17x17 := GHeap.ltg at17x17
      replace hf0 := hf0.trans le17x17
      refine .c1 rfl rfl rfl rfl (.litA rfl sl_23_B ze_22_E rfl rfl rfl rfl) ?_
      rintro _ H18x12 ⟨g18x12, rfl, le18x12, ge18x12, at18x12⟩
      replace hbl := hbl.trans le18x12
      refine ⟨hbl, ?_⟩
      replace at3x15 := le18x12.2 _ _ at3x15
      replace at11x5 := le18x12.2 _ _ at11x5
      replace at14x10 := le18x12.2 _ _ at14x10
      replace at17x17 := le18x12.2 _ _ at17x17
      replace hf0 := hf0.trans le18x12
      refine .qB rfl hbl (.build bt_29_Db rfl rfl rfl) ?_
      refine .r1 rfl rfl rfl (.fillA rfl sz_29_D rfl rfl rfl rfl) ?_
      rintro _ H1014x17 ⟨rfl, st1014x17, at1014x17⟩
      replace hbl := hbl.st st1014x17 (fun k hk => ⟨by omega, trivial⟩)
      refine ⟨hbl, ?_⟩
      have ne_g11x5_g3x15 : NE g11x5 g3x15 := .a
      replace at11x5 := st1014x17.s at11x5 ne_g11x5_g3x15.ne
      have ne_g14x10_g3x15 : NE g14x10 g3x15 := .a
      replace at14x10 := st1014x17.s at14x10 ne_g14x10_g3x15.ne
      replace at17x17 := st1014x17.s at17x17
      replace at18x12 := st1014x17.s at18x12
      replace hf0 := hf0.st st1014x17 (fun k hk => ⟨by omega, trivial⟩)
      refine .done ?_
      exact ⟨g11x5, g14x10, g17x17, g18x12, g3x15, ⟨rfl, rfl, rfl, rfl, rfl, rfl, rfl, rfl, trivial⟩, hf0, by omega, by omega, by omega, by omega, by omega, by first | assumption | simpa using at11x5, by first | assumption | simpa using at14x10, by first | assumption | simpa using at17x17, by first | assumption | simpa using at18x12, by first | assumption | simpa using at1014x17, by omega, by omega, by omega, by omega, by omega, by omega, by omega, by omega, by omega, by omega⟩
     refine .c1 rfl rfl rfl rfl (.litA rfl sl_23_B ze_22_E rfl rfl rfl rfl) ?_
     rintro _ H18x13 ⟨g18x13, rfl, le18x13, ge18x13, at18x13⟩
     replace hbl := hbl.trans le18x13
     refine ⟨hbl, ?_⟩
     replace hle := hle.trans le18x13
     replace at1 := le18x13.2 _ _ at1
     replace at3x15 := le18x13.2 _ _ at3x15
     replace at11x5 := le18x13.2 _ _ at11x5
     replace at14x10 := le18x13.2 _ _ at14x10
     have lt_at18x13 := GHeap.ltg at18x13
     replace hf0 := hf0.trans le18x13
     replace hin := base_hin.mono hle
     have hb1 : Cat.At _ g1 0 c p := ⟨Mem.of_get at1, hin⟩
     obtain ⟨-, -, -, -, -, -, -, i31, -⟩ := hb1.get
     refine .call1 rfl rfl rfl rfl rfl @Try.call92 rfl (l01Own_c) ?_
     rintro _ H17x18 ⟨le17x18, g17x18, rfl, at17x18, ge17x18⟩
     replace hbl := hbl.trans le17x18
     refine ⟨hbl, ?_⟩
     replace at3x15 := le17x18.2 _ _ at3x15
     replace at11x5 := le17x18.2 _ _ at11x5
     replace at14x10 := le17x18.2 _ _ at14x10
     replace at18x13 := le17x18.2 _ _ at18x13
     replace hf0 := hf0.trans le17x18
     refine .qB rfl hbl (.build bt_29_Db rfl rfl rfl) ?_
     refine .r1 rfl rfl rfl (.fillA rfl sz_29_D rfl rfl rfl rfl) ?_
     rintro _ H1014x18 ⟨rfl, st1014x18, at1014x18⟩
     replace hbl := hbl.st st1014x18 (fun k hk => ⟨by omega, trivial⟩)
     refine ⟨hbl, ?_⟩
     have ne_g11x5_g3x15 : NE g11x5 g3x15 := .a
     replace at11x5 := st1014x18.s at11x5 ne_g11x5_g3x15.ne
     have ne_g14x10_g3x15 : NE g14x10 g3x15 := .a
     replace at14x10 := st1014x18.s at14x10 ne_g14x10_g3x15.ne
     replace at18x13 := st1014x18.s at18x13
     replace at17x18 := st1014x18.s at17x18
     replace hf0 := hf0.st st1014x18 (fun k hk => ⟨by omega, trivial⟩)
     refine .done ?_
     exact ⟨g11x5, g14x10, g17x18, g18x13, g3x15, ⟨rfl, rfl, rfl, rfl, rfl, rfl, rfl, rfl, trivial⟩, hf0, by omega, by omega, by omega, by omega, by omega, by first | assumption | simpa using at11x5, by first | assumption | simpa using at14x10, by first | assumption | simpa using at17x18, by first | assumption | simpa using at18x13, by first | assumption | simpa using at1014x18, by omega, by omega, by omega, by omega, by omega, by omega, by omega, by omega, by omega, by omega⟩
    refine .c1 rfl rfl rfl rfl (.litA rfl sl_23_B ze_22_E rfl rfl rfl rfl) ?_
    rintro _ H18x14 ⟨g18x14, rfl, le18x14, ge18x14, at18x14⟩
    replace hbl := hbl.trans le18x14
    refine ⟨hbl, ?_⟩
    replace hle := hle.trans le18x14
    replace at1 := le18x14.2 _ _ at1
    replace at3x15 := le18x14.2 _ _ at3x15
    replace at11x5 := le18x14.2 _ _ at11x5
    have lt_at18x14 := GHeap.ltg at18x14
    replace hf0 := hf0.trans le18x14
    replace hin := base_hin.mono hle
    have hb1 : Cat.At _ g1 0 c p := ⟨Mem.of_get at1, hin⟩
    obtain ⟨-, -, -, -, -, i11, -, -, -⟩ := hb1.get
    refine .call1 rfl rfl rfl rfl rfl @Try.call92 rfl (l01Own_c) ?_
    rintro _ H14x11 ⟨le14x11, g14x11, rfl, at14x11, ge14x11⟩
    replace hbl := hbl.trans le14x11
    refine ⟨hbl, ?_⟩
    replace hle := hle.trans le14x11
    replace at1 := le14x11.2 _ _ at1
    replace at3x15 := le14x11.2 _ _ at3x15
    replace at11x5 := le14x11.2 _ _ at11x5
    replace at18x14 := le14x11.2 _ _ at18x14
    have lt_at14x11 := GHeap.ltg at14x11
    replace hf0 := hf0.trans le14x11
    replace hin := base_hin.mono hle
    clear hb1 i11
    have hb1 : Cat.At _ g1 0 c p := ⟨Mem.of_get at1, hin⟩
    obtain ⟨-, -, -, -, -, -, -, i31, -⟩ := hb1.get
    refine .call1 rfl rfl rfl rfl rfl @Try.call92 rfl (l01Own_c) ?_
    rintro _ H17x19 ⟨le17x19, g17x19, rfl, at17x19, ge17x19⟩
    replace hbl := hbl.trans le17x19
    refine ⟨hbl, ?_⟩
    replace at3x15 := le17x19.2 _ _ at3x15
    replace at11x5 := le17x19.2 _ _ at11x5
    replace at18x14 := le17x19.2 _ _ at18x14
    replace at14x11 := le17x19.2 _ _ at14x11
    replace hf0 := hf0.trans le17x19
    refine .qB rfl hbl (.build bt_29_Db rfl rfl rfl) ?_
    refine .r1 rfl rfl rfl (.fillA rfl sz_29_D rfl rfl rfl rfl) ?_
    rintro _ H1014x19 ⟨rfl, st1014x19, at1014x19⟩
    replace hbl := hbl.st st1014x19 (fun k hk => ⟨by omega, trivial⟩)
    refine ⟨hbl, ?_⟩
    have ne_g11x5_g3x15 : NE g11x5 g3x15 := .a
    replace at11x5 := st1014x19.s at11x5 ne_g11x5_g3x15.ne
    replace at18x14 := st1014x19.s at18x14
    replace at14x11 := st1014x19.s at14x11
    replace at17x19 := st1014x19.s at17x19
    replace hf0 := hf0.st st1014x19 (fun k hk => ⟨by omega, trivial⟩)
    refine .done ?_
    exact ⟨g11x5, g14x11, g17x19, g18x14, g3x15, ⟨rfl, rfl, rfl, rfl, rfl, rfl, rfl, rfl, trivial⟩, hf0, by omega, by omega, by omega, by omega, by omega, by first | assumption | simpa using at11x5, by first | assumption | simpa using at14x11, by first | assumption | simpa using at17x19, by first | assumption | simpa using at18x14, by first | assumption | simpa using at1014x19, by omega, by omega, by omega, by omega, by omega, by omega, by omega, by omega, by omega, by omega⟩
   refine .c1 rfl rfl rfl rfl (.litA rfl sl_23_B ze_22_E rfl rfl rfl rfl) ?_
   rintro _ H18x15 ⟨g18x15, rfl, le18x15, ge18x15, at18x15⟩
   replace hbl := hbl.trans le18x15
   refine ⟨hbl, ?_⟩
   replace hle := hle.trans le18x15
   replace at1 := le18x15.2 _ _ at1
   replace at3x15 := le18x15.2 _ _ at3x15
   have lt_at18x15 := GHeap.ltg at18x15
   replace hf0 := hf0.trans le18x15
   replace hin := base_hin.mono hle
   have hb1 : Cat.At _ g1 0 c p := ⟨Mem.of_get at1, hin⟩
   obtain ⟨-, -, -, -, -, -, i21, -, -⟩ := hb1.get
   refine .call1 rfl rfl rfl rfl rfl @Try.call92 rfl (l01Own_c) ?_
   rintro _ H11x6 ⟨le11x6, g11x6, rfl, at11x6, ge11x6⟩
   replace hbl := hbl.trans le11x6
   refine ⟨hbl, ?_⟩
   replace hle := hle.trans le11x6
   replace at1 := le11x6.2 _ _ at1
   replace at3x15 := le11x6.2 _ _ at3x15
   replace at18x15 := le11x6.2 _ _ at18x15
   have lt_at11x6 := GHeap.ltg at11x6
   replace hf0 := hf0.trans le11x6
   replace hin := base_hin.mono hle
   clear hb1 i21
   have hb1 : Cat.At _ g1 0 c p := ⟨Mem.of_get at1, hin⟩
   obtain ⟨-, -, -, -, -, i11, -, -, -⟩ := hb1.get
   refine .call1 rfl rfl rfl rfl rfl @Try.call92 rfl (l01Own_c) ?_
   rintro _ H14x12 ⟨le14x12, g14x12, rfl, at14x12, ge14x12⟩
   replace hbl := hbl.trans le14x12
   refine ⟨hbl, ?_⟩
   replace hle := hle.trans le14x12
   replace at1 := le14x12.2 _ _ at1
   replace at3x15 := le14x12.2 _ _ at3x15
   replace at18x15 := le14x12.2 _ _ at18x15
   replace at11x6 := le14x12.2 _ _ at11x6
   have lt_at14x12 := GHeap.ltg at14x12
   replace hf0 := hf0.trans le14x12
   replace hin := base_hin.mono hle
   clear hb1 i11
   have hb1 : Cat.At _ g1 0 c p := ⟨Mem.of_get at1, hin⟩
   obtain ⟨-, -, -, -, -, -, -, i31, -⟩ := hb1.get
   refine .call1 rfl rfl rfl rfl rfl @Try.call92 rfl (l01Own_c) ?_
   rintro _ H17x20 ⟨le17x20, g17x20, rfl, at17x20, ge17x20⟩
   replace hbl := hbl.trans le17x20
   refine ⟨hbl, ?_⟩
   replace at3x15 := le17x20.2 _ _ at3x15
   replace at18x15 := le17x20.2 _ _ at18x15
   replace at11x6 := le17x20.2 _ _ at11x6
   replace at14x12 := le17x20.2 _ _ at14x12
   replace hf0 := hf0.trans le17x20
   refine .qB rfl hbl (.build bt_29_Db rfl rfl rfl) ?_
   refine .r1 rfl rfl rfl (.fillA rfl sz_29_D rfl rfl rfl rfl) ?_
   rintro _ H1014x20 ⟨rfl, st1014x20, at1014x20⟩
   replace hbl := hbl.st st1014x20 (fun k hk => ⟨by omega, trivial⟩)
   refine ⟨hbl, ?_⟩
   replace at18x15 := st1014x20.s at18x15
   replace at11x6 := st1014x20.s at11x6
   replace at14x12 := st1014x20.s at14x12
   replace at17x20 := st1014x20.s at17x20
   replace hf0 := hf0.st st1014x20 (fun k hk => ⟨by omega, trivial⟩)
   refine .done ?_
   exact ⟨g11x6, g14x12, g17x20, g18x15, g3x15, ⟨rfl, rfl, rfl, rfl, rfl, rfl, rfl, rfl, trivial⟩, hf0, by omega, by omega, by omega, by omega, by omega, by first | assumption | simpa using at11x6, by first | assumption | simpa using at14x12, by first | assumption | simpa using at17x20, by first | assumption | simpa using at18x15, by first | assumption | simpa using at1014x20, by omega, by omega, by omega, by omega, by omega, by omega, by omega, by omega, by omega, by omega⟩
  rintro fr3 H3 ⟨g11, g14, g17, g18, g3, hsub3, le3, ge11, ge14, ge17, ge18, ge3, at11, at14, at17, at18, at3, ne3_0, ne3_1, ne3_2, ne3_3, ne3_4, ne3_5, ne3_6, ne3_7, ne3_8, ne3_9⟩
  have nx_H3 := le3.1
  replace hle := hle.trans le3
  replace at1 := le3.2 _ _ at1
  replace at2 := le3.2 _ _ at2
  have lt_at11 := GHeap.ltg at11
  have lt_at14 := GHeap.ltg at14
  have lt_at17 := GHeap.ltg at17
  have lt_at3 := GHeap.ltg at3
  replace hin := base_hin.mono hle
  have hb1 : Cat.At _ g1 0 c p := ⟨Mem.of_get at1, hin⟩
  refine hK2 _ _ ?_
  refine .forget hsub3 ?_
  refine .seq (fun K3 hK3 => .seq (fun K4 hK4 => .region (.mv rfl (.nil (hK4 _ _ ?_)))))
  refine .block ?_
  refine .loopR (σ := Nat × (Nat → Option Addr) × Nat) [(1, some _), (2, some _), (3, some _)] (fun (f, rc, gLC) => [(4, some (.int .i64 (f : Int)))]) (fun (f, rc, gLC) H' => St [g18, g3] H3 H' ∧ H'.get gLC = some (.row ((slsL rc (c.opTab f))) 22 true) ∧ (gLC = g18 ∨ H3.next ≤ gLC) ∧ H'.get g3 = some (.row ([.int .i64 c.obj, .slice (some ⟨g11, 0, none⟩) c.tgt.length c.tgt.length, .slice (some ⟨g14, 0, none⟩) c.src.length c.src.length, .slice (some ⟨g17, 0, none⟩) c.idn.length c.idn.length, .slice (some ⟨gLC, 0, none⟩) f f]) 29 true) ∧ gLC ≠ g3 ∧ f ≤ c.src.length ∧ OwnL H3.next H' 2 rc (c.opTab f)) (fun (f, rc, gLC) => c.src.length - f) ((0, fun _ => none, g18)) ⟨rfl, rfl, rfl, trivial⟩ ⟨rfl, trivial⟩ ?_ ?_
  ·
   refine ⟨.refl _ _, by assumption, .inl rfl, by assumption, by omega, ?_⟩
   exact ⟨by omega, .nil _ _ _ _⟩
  rintro ⟨f, rc, gLC⟩ HL1 ⟨lst1, at_LC, pl_LC, at_Lg3, ap1_0, hI⟩ KL1 hKL1
  refine .forget (fr' := [(4, some (.int .i64 (f : Int))), (1, some _), (2, some _), (3, some _)]) ⟨rfl, rfl, rfl, rfl, trivial⟩ ?_
  have ge_LC : H.next ≤ gLC := by omega
  have nx_HL1 := lst1.nx
  replace hle := hle.st lst1 (fun k hk => ⟨by omega, by omega, trivial⟩)
  have ne_g1_g3 : NE g1 g3 := .a
  replace at1 := lst1.same _ _ ⟨(by first | assumption | omega), ne_g1_g3.ne, trivial⟩ at1
  replace at2 := lst1.same _ _ ⟨(by first | assumption | omega), (by first | assumption | omega), trivial⟩ at2
  replace at11 := lst1.same _ _ ⟨(by first | assumption | omega), (by first | assumption | omega), trivial⟩ at11
  replace at14 := lst1.same _ _ ⟨(by first | assumption | omega), (by first | assumption | omega), trivial⟩ at14
  replace at17 := lst1.same _ _ ⟨(by first | assumption | omega), (by first | assumption | omega), trivial⟩ at17
  have lt_at_LC := GHeap.ltg at_LC
  have lt_at_Lg3 := GHeap.ltg at_Lg3
  replace hin := base_hin.mono hle
  clear hb1
  have hb1 : Cat.At _ g1 0 c p := ⟨Mem.of_get at1, hin⟩
  obtain ⟨-, c11, -, -, -, -, -, -, -⟩ := hb1.get
  have rk := St.refl [gLC, g3] HL1
  obtain ⟨hf, hR⟩ := hI
  have hatC := at_LC
  have hat3 := at_Lg3
  have hql := c.length_opTab f
  have hfl : (slsL rc (c.opTab f)).length = (c.opTab f).length := length_slsL _ _
  refine .seq (fun K5 hK5 => .seq (fun K6 hK6 => .region (.mv rfl (.q rfl (.fieldAddr fo_29_1_B rfl) ?_))))
  refine .q rfl (.load on_22_B rfl (by first | assumption | exact Mem.of_get at1 1 _ rfl)) ?_
  refine .q rfl (.len sl_22_A rfl) (.q rfl (.cmp rfl rfl rfl) (.nil (hK6 _ _ ?_)))
  refine .cond rfl (fun h24 => ?_) (fun h24 => ?_)
  ·
   simp only [sps] at h24
   refine .skip ?_
   refine hK5 _ _ (.seq (fun K7 hK7 => ?_))
   refine .block ?_
   refine .seq (fun K8 hK8 => .region ?_)
   refine .R rfl (.litA rfl sl_22_A ze_2_E rfl rfl rfl rfl) ?_
   rintro _ H27 ⟨g27, rfl, le27, ge27, at27⟩
   replace hle := hle.trans le27
   replace lst1 := lst1.le le27
   replace rk := rk.le le27
   replace at1 := le27.2 _ _ at1
   replace at_LC := le27.2 _ _ at_LC
   replace at_Lg3 := le27.2 _ _ at_Lg3
   have lt_at27 := GHeap.ltg at27
   replace hin := base_hin.mono hle
   clear hb1 c11
   have hb1 : Cat.At _ g1 0 c p := ⟨Mem.of_get at1, hin⟩
   replace at27 : GHeap.get H27 g27 = some (.row (ints []) 2 true) := at27
   refine .mv rfl (.nil (hK8 _ _ (.seq (fun K9 hK9 => .seq (fun K10 hK10 => .region (.mv rfl (.nil (hK10 _ _ ?_))))))))
   refine .block ?_
   refine .loopR (σ := Nat × Nat × Nat) [(1, some _), (2, some _), (3, some _), (4, some _)] (fun (g, gL5, nL5) => [(6, some (.int .i64 (g : Int))), (5, some (.slice (some ⟨gL5, 0, none⟩) nL5 nL5))]) (fun (g, gL5, nL5) H' => St [g27] H27 H' ∧ H'.get gL5 = some (.row (ints (c.opRow f g)) 2 true) ∧ (gL5 = g27 ∨ H27.next ≤ gL5) ∧ nL5 = (c.opRow f g).length ∧ g ≤ c.src.length) (fun (g, gL5, nL5) => c.src.length - g) ((0, _, _)) ⟨rfl, rfl, rfl, rfl, trivial⟩ ⟨rfl, rfl, trivial⟩ ?_ ?_
   ·
    refine ⟨.refl _ _, by assumption, .inl rfl, by rfl, ?_⟩
    omega
   rintro ⟨g, gL5, nL5⟩ HL2 ⟨lst2, at_L5, pl_L5, ln_L5, hI⟩ KL2 hKL2
   refine .forget (fr' := [(6, some (.int .i64 (g : Int))), (5, some (.slice (some ⟨gL5, 0, none⟩) nL5 nL5)), (1, some _), (2, some _), (3, some _), (4, some _)]) ⟨rfl, rfl, rfl, rfl, rfl, rfl, trivial⟩ ?_
   have ge_L5 : H.next ≤ gL5 := by omega
   have nx_HL2 := lst2.nx
   replace hle := hle.st lst2 (fun k hk => ⟨by omega, trivial⟩)
   replace lst1 := lst1.sA lst2
   replace rk := rk.sA lst2
   replace at1 := lst2.s at1
   replace at_LC := lst2.s at_LC
   replace at_Lg3 := lst2.s at_Lg3
   replace hin := base_hin.mono hle
   clear hb1
   have hb1 : Cat.At _ g1 0 c p := ⟨Mem.of_get at1, hin⟩
   obtain ⟨-, c11, -, -, c41, -, -, -, i41⟩ := hb1.get
   have hrl := c.length_opRow f g
   refine .seq (fun K11 hK11 => .seq (fun K12 hK12 => .region (.mv rfl (.q rfl (.fieldAddr fo_29_1_B rfl) ?_))))
   refine .q rfl (.load on_22_B rfl (by first | assumption | exact Mem.of_get at1 1 _ rfl)) ?_
   refine .q rfl (.len sl_22_A rfl) (.q rfl (.cmp rfl rfl rfl) (.nil (hK12 _ _ ?_)))
   refine .cond rfl (fun h32 => ?_) (fun h32 => ?_)
   ·
    simp only [sps] at h32
    have b9g := b9 g (by omega)
    have u1 := i41.2 g (by omega)
    refine .skip ?_
    refine hK11 _ _ (.seq (fun K13 hK13 => ?_))
    refine .block ?_
    refine .region (.mv rfl (.q rfl (.fieldAddr fo_29_4_B rfl) ?_))
    refine .q rfl (.load on_23_B rfl (by first | assumption | exact Mem.of_get at1 4 _ rfl)) ?_
    refine .mv rfl ?_
    refine .q rfl (.idxN sl_23_B (Intss.sl (by assumption)) rfl rfl (by omega)) ?_
    refine .q rfl (.loadR on_22_B (by assumption) rfl (by omega)) ?_
    refine .mv rfl ?_
    refine .q rfl (.idxN sl_22_A (by assumption) rfl rfl (by omega)) ?_
    refine .q rfl (.loadI on_2_A (by assumption) rfl (by omega)) ?_
    refine .R rfl (.litA rfl sl_22_A ze_2_E rfl rfl rfl rfl) ?_
    rintro _ H44 ⟨g44, rfl, le44, ge44, at44⟩
    replace hle := hle.trans le44
    replace lst2 := lst2.le le44
    replace at1 := le44.2 _ _ at1
    replace at_L5 := le44.2 _ _ at_L5
    have lt_at44 := GHeap.ltg at44
    replace hin := base_hin.mono hle
    clear hb1 c11 c41 i41
    have hb1 : Cat.At _ g1 0 c p := ⟨Mem.of_get at1, hin⟩
    clear u1
    refine .R rfl (.appendI rfl sl_22_A ze_2_E rfl by_2_E sl_22_A rfl rfl (by assumption) (by assumption) (by first | omega | (simp <;> omega)) (by omega) (by omega)) ?_
    rintro _ H45 ⟨g45, rfl, st45, ge45, at45⟩
    replace hle := hle.st st45 (fun k hk => ⟨by omega, trivial⟩)
    replace lst2 := lst2.sA st45
    replace at1 := st45.s at1
    replace hin := base_hin.mono hle
    clear hb1
    have hb1 : Cat.At _ g1 0 c p := ⟨Mem.of_get at1, hin⟩
    refine .mv rfl (.nil (hK13 _ _ (.region (.mv rfl ?_))))
    refine .q rfl (.add rfl rfl rfl (by omega) (by omega)) ?_
    refine .mv rfl (.nil ?_)
    refine hKL2 ((g + 1, _, _)) _ _ ?_ ?_ ⟨rfl, rfl, rfl, rfl, rfl, rfl, trivial⟩
    ·
     refine ⟨lst2, by (rw [Cat.opRow_snoc]; assumption), by omega, by (rw [Cat.opRow_snoc] <;> (first | omega | (simp only [List.length_append, List.length_cons, List.length_nil] <;> omega))), ?_⟩
     omega
    (dsimp only; omega)
   try simp only [sps] at h32
   refine .exit ?_
   refine hK9 _ _ (.region ?_)
   obtain rfl : g = c.src.length := by omega
   have hrl2 := ln_L5.symm
   refine .q rfl (.fieldAddr fo_29_4_B rfl) ?_
   refine .q rfl (.load on_23_B rfl (by first | assumption | exact Mem.of_get at_Lg3 4 _ rfl)) ?_
   refine .mv rfl ?_
   refine .R rfl (.litA rfl sl_23_B ze_22_E rfl rfl rfl rfl) ?_
   rintro _ H49 ⟨g49, rfl, le49, ge49, at49⟩
   replace hle := hle.trans le49
   replace lst1 := lst1.le le49
   replace rk := rk.le le49
   replace at1 := le49.2 _ _ at1
   replace at_LC := le49.2 _ _ at_LC
   replace at_Lg3 := le49.2 _ _ at_Lg3
   replace at_L5 := le49.2 _ _ at_L5
   have lt_at49 := GHeap.ltg at49
   replace hin := base_hin.mono hle
   have hb1 : Cat.At _ g1 0 c p := ⟨Mem.of_get at1, hin⟩
   refine .R rfl (.appendV rfl sl_23_B ze_22_E rfl by_22_E sl_23_B rfl rfl (by assumption) (by assumption) (by first | omega | (simp <;> omega)) rfl rfl (by omega) (by omega)) ?_
   rintro _ H50 ⟨g50, rfl, st50, ge50, at50⟩
   replace hle := hle.st st50 (fun k hk => ⟨by omega, trivial⟩)
   replace lst1 := lst1.sA st50
   replace rk := rk.sA st50
   replace at1 := st50.s at1
   replace at_Lg3 := st50.same _ _ ⟨(Ne.symm ap1_0), trivial⟩ at_Lg3
   replace at_L5 := st50.s at_L5
   replace hin := base_hin.mono hle
   clear hb1
   have hb1 : Cat.At _ g1 0 c p := ⟨Mem.of_get at1, hin⟩
   refine .q rfl (.fieldAddr fo_29_4_B rfl) ?_
   refine .r0 rfl rfl (.storeR rfl sz_23_E rfl rfl rfl (by assumption) (by first | exact Nat.le_of_ble_eq_true rfl | (simp; done) | (simp <;> omega))) ?_
   rintro _ H10006 ⟨rfl, st10006, at10006⟩
   replace hle := hle.st st10006 (fun k hk => ⟨by omega, trivial⟩)
   replace lst1 := lst1.sA st10006
   replace rk := rk.sA st10006
   replace at1 := st10006.s at1 ne_g1_g3.ne
   replace at_L5 := st10006.s at_L5
   replace at50 := st10006.s at50
   replace hin := base_hin.mono hle
   clear hb1
   have hb1 : Cat.At _ g1 0 c p := ⟨Mem.of_get at1, hin⟩
   try simp only [Nat.zero_add, List.set_cons_succ, List.set_cons_zero] at at10006
   refine .nil (hK7 _ _ (.region (.mv rfl ?_)))
   refine .q rfl (.add rfl rfl rfl (by omega) (by omega)) ?_
   refine .mv rfl (.nil ?_)
   refine hKL1 ((f + 1, upd rc (c.opTab f).length (some ⟨gL5, 0, none⟩), g50)) _ _ ?_ ?_ ⟨rfl, rfl, rfl, rfl, trivial⟩
   ·
    refine ⟨lst1, by (rw [Cat.opTab_snoc, slsL_snoc, hrl2]; assumption), by omega, by assumption, by omega, ?_⟩
    have hR' := hR.st rk (.cons (hR.neT hatC rfl) (.cons (hR.neT hat3 rfl) (.nil _ _)))
    have hb2 : HL1.next ≤ gL5 := by omega
    have hn1 := hR.ne (g := gL5) hb2
    have hrow := at_L5
    rw [Cat.opTab_snoc]
    exact ⟨by omega, hR'.snoc2 hrow hn1 (by omega)⟩
   (dsimp only; omega)
  try simp only [sps] at h24
  refine .exit ?_
  refine hK3 _ _ (.seq (fun K14 hK14 => .region ?_))
  refine .q rfl (.loadM ag_29_D rfl ⟨rfl, Mem.of_get at_Lg3⟩) ?_
  obtain rfl : f = c.src.length := by omega
  have hat2 := at2
  refine .r0 rfl rfl (.fillA rfl sz_29_D rfl rfl rfl rfl) ?_
  rintro _ H11001 ⟨rfl, st11001, at11001⟩
  replace hle := hle.st st11001 (fun k hk => ⟨by omega, trivial⟩)
  replace at1 := st11001.s at1
  replace at11 := st11001.s at11
  replace at14 := st11001.s at14
  replace at17 := st11001.s at17
  replace at_LC := st11001.s at_LC
  replace hin := base_hin.mono hle
  have hb1 : Cat.At _ g1 0 c p := ⟨Mem.of_get at1, hin⟩
  refine .nil (hK14 _ _ ?_)
  refine .ret ?_
  refine hret _ _ ?_
  refine ⟨_, _, _, _, rfl, ag_29_D, (by rfl), (Mem.of_get at11001), ?_⟩
  have hrc := (hR.st st11001 (.cons (hR.neT hat2 rfl) (.nil _ _)))
  exact ⟨hle, g11, g14, g17, gLC, rc, by simp [Cat.cells, Cat.op, ownP, b3], ⟨at11, at14, at17, at_LC, by omega, by omega, by omega, by omega, by omega, by omega, by omega, hrc.low (by omega), hR.lowNe (by omega), hR.lowNe (by omega), hR.lowNe (by omega)⟩⟩
end Go.Proofs.Ytjdedelneppnlaa
namespace Go.Proofs.Ytjdedelneppnlaa
open Go Go.GL Go.RowKit Go.Proofs
theorem on_69_Fd : oneT Try.prog 69 = true := by kernel_rfl
theorem sz_69_Fd : (Try.prog.info? 69).map (·.size) = some 1 := by kernel_rfl
theorem opposite1_c {g o g1 i j : Nat} {c : Cat} {p : CatP} {e1 : TypeId} {H : GHeap} (h : Cat.At H g o c p) (h1 : H.get g1 = some (.row [.pointer (some ⟨g, o, none⟩)] e1 true)) (hS : c.Shape) (hi : i < c.src.length) (hj : j < c.src.length) :
    GCalls Try.prog 96 [.int .i64 (i : Int), .int .i64 (j : Int), .pointer (some ⟨g1, 0, none⟩)] H (Ret (.int .i64 ((c.comp.getD j []).getD i 0)) H) := by
  have k1 : H.cell g1 0 = some (.pointer (some ⟨g, o, none⟩)) := by rw [GHeap.cell_of h1]; rfl
  refine GCalls.body (N := 10) (rs := [.tmp 5]) Try.func96 rfl rfl rfl rfl (fun Qx hret hend => ?_)
  refine .fg [0, 1, 2] rfl ?_
  refine .seq (fun K1 hK1 => .region (.mv rfl (.nil (hK1 _ _ (.seq (fun K2 hK2 => .region ?_))))))
  refine .q rfl (.load on_69_Fd rfl (by assumption)) ?_
  refine .mv rfl (.mv rfl ?_)
  refine .callQ rfl rfl rfl rfl @Try.call64 rfl (then_s) ?_
  refine .mv rfl (.nil (hK2 _ _ ?_))
  refine .ret ?_
  refine hret _ _ ?_
  refine ⟨_, rfl, ?_⟩
  exact .of rfl
set_option maxHeartbeats 4000000 in
theorem opposite_c {g o : Nat} {c : Cat} {p : CatP} {H : GHeap} (hc : Cat.At H g o c p := by assumption) (hS : c.Shape := by assumption) :
    GCalls Try.prog 47 [.pointer (some ⟨g, o, none⟩)] H (NewCatR H c.op) := by
  have b1 := hS.n40
  have b2 := hS.tl
  have b3 := hS.cl
  have b4 := hS.il
  have b5 := hS.obj
  refine GCalls.body (N := 27) (rs := [.cell 2 29]) Try.func47 rfl rfl rfl rfl (fun Qx hret hend => ?_)
  refine .fg [0] rfl ?_
  have hle := GHeap.Le.refl H
  have base_hc := hc
  refine .seq (fun K1 hK1 => .region ?_)
  refine .R rfl (.boxR rfl sz_69_Fd rfl) ?_
  rintro _ H1 ⟨g1, rfl, le1, ge1, at1⟩
  replace hle := hle.trans le1
  have lt_at1 := GHeap.ltg at1
  replace hc := base_hc.mono hle
  refine .R rfl (.allocR rfl ze_29_E rfl) ?_
  rintro _ H2 ⟨g2, rfl, le2, ge2, at2⟩
  replace hle := hle.trans le2
  replace at1 := le2.2 _ _ at1
  have lt_at2 := GHeap.ltg at2
  replace hc := base_hc.mono hle
  obtain ⟨c0, c1, c2, c3, c4, i1, i2, i3, i4⟩ := hc.get
  refine .nil (hK1 _ _ (.seq (fun K2 hK2 => ?_)))
  refine .regionD mo_B (.q 0 (.q 1 (.q 2 (.q 3 (.q 4 (.q 5 (.q 6 (.q 7 (.q 9 (.q 10 (.q 11 (.q 12 (.q 14 (.q 15 (.q 16 (.q 17 (.or (.c 8 1 (.or (.c 13 1 (.or (.c 18 1 (.q 19 (.c 20 1 (.c 21 1 (.done))))) (.c 20 1 (.c 18 1 (.q 19 (.c 21 1 (.done))))))) (.c 20 1 (.c 13 1 (.c 18 1 (.q 19 (.c 21 1 (.done)))))))) (.c 20 1 (.c 8 1 (.c 13 1 (.c 18 1 (.q 19 (.c 21 1 (.done)))))))))))))))))))))))) (by kernel_rfl) ?_
  refine .cut [(0, some _), (1, some _), (2, some _)] ⟨rfl, rfl, rfl, trivial⟩ (fun rest fr' H' => ∃ g12 g17 g22 g3, Sub ((12, some (.slice (some ⟨g12, 0, none⟩) c.tgt.length c.tgt.length)) :: (17, some (.slice (some ⟨g17, 0, none⟩) c.src.length c.src.length)) :: (22, some (.slice (some ⟨g22, 0, none⟩) c.idn.length c.idn.length)) :: (3, some (.pointer (some ⟨g3, 0, none⟩))) :: rest) fr' ∧ H2.Le H' ∧ H2.next ≤ g12 ∧ H2.next ≤ g17 ∧ H2.next ≤ g22 ∧ H2.next ≤ g3 ∧ H'.get g12 = some (.row (ints c.tgt) 2 true) ∧ H'.get g17 = some (.row (ints c.src) 2 true) ∧ H'.get g22 = some (.row (ints c.idn) 2 true) ∧ H'.get g3 = some (.row ([.int .i64 c.obj, .slice (some ⟨g12, 0, none⟩) c.tgt.length c.tgt.length, .slice (some ⟨g17, 0, none⟩) c.src.length c.src.length, .slice (some ⟨g22, 0, none⟩) c.idn.length c.idn.length, .slice none 0 0]) 29 true) ∧ g12 ≠ g17 ∧ g12 ≠ g22 ∧ g12 ≠ g3 ∧ g17 ≠ g22 ∧ g17 ≠ g3 ∧ g22 ≠ g3) ?_ ?_
  ·
   have hf0 := GHeap.Le.refl H2
   refine .q rfl (.load on_69_Fd rfl (by first | assumption | exact Mem.of_get at1 0 _ rfl)) ?_
   refine .qB rfl (.refl _) (.nilCheck rfl) (.qB rfl (.refl _) (.fieldAddr fo_29_0_B rfl) ?_)
   refine .q rfl (.load on_2_A rfl (by assumption)) ?_
   refine .q rfl (.load on_69_Fd rfl (by first | assumption | exact Mem.of_get at1 0 _ rfl)) ?_
   refine .qB rfl (.refl _) (.nilCheck rfl) (.qB rfl (.refl _) (.fieldAddr fo_29_2_B rfl) ?_)
   refine .q rfl (.load on_22_B rfl (by assumption)) ?_
   refine .q rfl (.load on_69_Fd rfl (by first | assumption | exact Mem.of_get at1 0 _ rfl)) ?_
   refine .qB rfl (.refl _) (.nilCheck rfl) (.qB rfl (.refl _) (.fieldAddr fo_29_1_B rfl) ?_)
   refine .q rfl (.load on_22_B rfl (by assumption)) ?_
   refine .q rfl (.load on_69_Fd rfl (by first | assumption | exact Mem.of_get at1 0 _ rfl)) ?_
   refine .qB rfl (.refl _) (.nilCheck rfl) (.qB rfl (.refl _) (.fieldAddr fo_29_3_B rfl) ?_)
   refine .q rfl (.load on_22_B rfl (by assumption)) ?_
   refine .orI ?_ ?_
   ·
    refine .call1 rfl rfl rfl rfl rfl @Try.call95 rfl (clone_c) ?_
    rintro _ H12x2 ⟨le12x2, g12x2, rfl, at12x2, ge12x2⟩
    have hbl := le12x2
    refine ⟨hbl, ?_⟩
    replace hle := hle.trans le12x2
    have lt_at12x2 := GHeap.ltg at12x2
    replace hf0 := hf0.trans le12x2
    refine .orI ?_ ?_
    ·
     replace hc := base_hc.mono hle
     clear c0 c1 c2 c3 c4 i1 i2 i3 i4
     obtain ⟨c0, c1, c2, c3, c4, i1, i2, i3, i4⟩ := hc.get
     refine .call1 rfl rfl rfl rfl rfl @Try.call95 rfl (clone_c) ?_
     rintro _ H17x2 ⟨le17x2, g17x2, rfl, at17x2, ge17x2⟩
     replace hbl := hbl.trans le17x2
     refine ⟨hbl, ?_⟩
     replace hle := hle.trans le17x2
     replace at12x2 := le17x2.2 _ _ at12x2
     have lt_at17x2 := GHeap.ltg at17x2
     replace hf0 := hf0.trans le17x2
     refine .orI ?_ ?_
     ·
      replace hc := base_hc.mono hle
      clear c0 c1 c2 c3 c4 i1 i2 i3 i4
      obtain ⟨c0, c1, c2, c3, c4, i1, i2, i3, i4⟩ := hc.get
      refine .call1 rfl rfl rfl rfl rfl @Try.call95 rfl (clone_c) ?_
      rintro _ H22x2 ⟨le22x2, g22x2, rfl, at22x2, ge22x2⟩
      replace hbl := hbl.trans le22x2
      refine ⟨hbl, ?_⟩
      replace at12x2 := le22x2.2 _ _ at12x2
      replace at17x2 := le22x2.2 _ _ at17x2
      have lt_at22x2 := GHeap.ltg at22x2
      replace hf0 := hf0.trans le22x2
      refine .qB rfl hbl (.build bt_29_Db rfl rfl rfl) ?_
      refine .c1 rfl rfl rfl rfl (.allocR rfl ze_29_E rfl) ?_
      rintro _ H3x2 ⟨g3x2, rfl, le3x2, ge3x2, at3x2⟩
      replace hbl := hbl.trans le3x2
      refine ⟨hbl, ?_⟩
      replace at12x2 := le3x2.2 _ _ at12x2
      replace at17x2 := le3x2.2 _ _ at17x2
      replace at22x2 := le3x2.2 _ _ at22x2
      replace hf0 := hf0.trans le3x2
      refine .r1 rfl rfl rfl (.fillA rfl sz_29_D rfl rfl rfl rfl) ?_
      rintro _ H1021 ⟨rfl, st1021, at1021⟩
      replace hbl := hbl.st st1021 (fun k hk => ⟨by omega, trivial⟩)
      refine ⟨hbl, ?_⟩
      replace at12x2 := st1021.s at12x2
      replace at17x2 := st1021.s at17x2
      replace at22x2 := st1021.s at22x2
      replace hf0 := hf0.st st1021 (fun k hk => ⟨by omega, trivial⟩)
      refine .done ?_
      exact ⟨g12x2, g17x2, g22x2, g3x2, ⟨rfl, rfl, rfl, rfl, rfl, rfl, rfl, trivial⟩, hf0, by omega, by omega, by omega, by omega, by first | assumption | simpa using at12x2, by first | assumption | simpa using at17x2, by first | assumption | simpa using at22x2, by first | assumption | simpa using at1021, by omega, by omega, by omega, by omega, by omega, by omega⟩
     refine .c1 rfl rfl rfl rfl (.allocR rfl ze_29_E rfl) ?_
     rintro _ H3x3 ⟨g3x3, rfl, le3x3, ge3x3, at3x3⟩
     replace hbl := hbl.trans le3x3
     refine ⟨hbl, ?_⟩
     replace hle := hle.trans le3x3
     replace at12x2 := le3x3.2 _ _ at12x2
     replace at17x2 := le3x3.2 _ _ at17x2
     have lt_at3x3 := GHeap.ltg at3x3
     replace hf0 := hf0.trans le3x3
     replace hc := base_hc.mono hle
     clear c1
     obtain ⟨c0, c1, c2, c3, c4, i1, i2, i3, i4⟩ := hc.get
     refine .call1 rfl rfl rfl rfl rfl @Try.call95 rfl (clone_c) ?_
     rintro _ H22x3 ⟨le22x3, g22x3, rfl, at22x3, ge22x3⟩
     replace hbl := hbl.trans le22x3
     refine ⟨hbl, ?_⟩
     replace at12x2 := le22x3.2 _ _ at12x2
     replace at17x2 := le22x3.2 _ _ at17x2
     replace at3x3 := le22x3.2 _ _ at3x3
     replace hf0 := hf0.trans le22x3
     refine .qB rfl hbl (.build bt_29_Db rfl rfl rfl) ?_
     refine .r1 rfl rfl rfl (.fillA rfl sz_29_D rfl rfl rfl rfl) ?_
     rintro _ H1021x2 ⟨rfl, st1021x2, at1021x2⟩
     replace hbl := hbl.st st1021x2 (fun k hk => ⟨by omega, trivial⟩)
     refine ⟨hbl, ?_⟩
     replace at12x2 := st1021x2.s at12x2
     replace at17x2 := st1021x2.s at17x2
     replace at22x3 := st1021x2.s at22x3
     replace hf0 := hf0.st st1021x2 (fun k hk => ⟨by omega, trivial⟩)
     refine .done ?_
     exact ⟨g12x2, g17x2, g22x3, g3x3, ⟨rfl, rfl, rfl, rfl, rfl, rfl, rfl, trivial⟩, hf0, by omega, by omega, by omega, by omega, by first | assumption | simpa using at12x2, by first | assumption | simpa using at17x2, by first | assumption | simpa using at22x3, by first | assumption | simpa using at1021x2, by omega, by omega, by omega, by omega, by omega, by omega⟩
    refine .c1 rfl rfl rfl rfl (.allocR rfl ze_29_E rfl) ?_
    rintro _ H3x4 ⟨g3x4, rfl, le3x4, ge3x4, at3x4⟩
    replace hbl := hbl.trans le3x4
    refine ⟨hbl, ?_⟩
    replace hle := hle.trans le3x4
    replace at12x2 := le3x4.2 _ _ at12x2
    have lt_at3x4 := GHeap.ltg at3x4
    replace hf0 := hf0.trans le3x4
    replace hc := base_hc.mono hle
    clear c1
    obtain ⟨c0, c1, c2, c3, c4, i1, i2, i3, i4⟩ := hc.get
    refine .call1 rfl rfl rfl rfl rfl @Try.call95 rfl (clone_c) ?_
    rintro _ H17x3 ⟨le17x3, g17x3, rfl, at17x3, ge17x3⟩
    replace hbl := hbl.trans le17x3
    refine ⟨hbl, ?_⟩
    replace hle := hle.trans le17x3
    replace at12x2 := le17x3.2 _ _ at12x2
    replace at3x4 := le17x3.2 _ _ at3x4
    have lt_at17x3 := GHeap.ltg at17x3
    replace hf0 := hf0.trans le17x3
    replace hc := base_hc.mono hle
    clear c0 c1 c2 c3 c4 i1 i2 i3 i4
    obtain ⟨c0, c1, c2, c3, c4, i1, i2, i3, i4⟩ := hc.get
    refine .call1 rfl rfl rfl rfl rfl @Try.call95 rfl (clone_c) ?_
    rintro _ H22x4 ⟨le22x4, g22x4, rfl, at22x4, ge22x4⟩
    replace hbl := hbl.trans le22x4
    refine ⟨hbl, ?_⟩
    replace at12x2 := le22x4.2 _ _ at12x2
    replace at3x4 := le22x4.2 _ _ at3x4
    replace at17x3 := le22x4.2 _ _ at17x3
    replace hf0 := hf0.trans le22x4
    refine .qB rfl hbl (.build bt_29_Db rfl rfl rfl) ?_
    refine .r1 rfl rfl rfl (.fillA rfl sz_29_D rfl rfl rfl rfl) ?_
    rintro _ H1021x3 ⟨rfl, st1021x3, at1021x3⟩
    replace hbl := hbl.st st1021x3 (fun k hk => ⟨by omega, trivial⟩)
    refine ⟨hbl, ?_⟩
    replace at12x2 := st1021x3.s at12x2
    replace at17x3 := st1021x3.s at17x3
    replace at22x4 := st1021x3.s at22x4
    replace hf0 := hf0.st st1021x3 (fun k hk => ⟨by omega, trivial⟩)
    refine .done ?_
    exact ⟨g12x2, g17x3, g22x4, g3x4, ⟨rfl, rfl, rfl, rfl, rfl, rfl, rfl, trivial⟩, hf0, by omega, by omega, by omega, by omega, by first | assumption | simpa using at12x2, by first | assumption | simpa using at17x3, by first | assumption | simpa using at22x4, by first | assumption | simpa using at1021x3, by omega, by omega, by omega, by omega, by omega, by omega⟩
   refine .c1 rfl rfl rfl rfl (.allocR rfl ze_29_E rfl) ?_
   rintro _ H3x5 ⟨g3x5, rfl, le3x5, ge3x5, at3x5⟩
   have hbl := le3x5
   refine ⟨hbl, ?_⟩
   replace hle := hle.trans le3x5
   have lt_at3x5 := GHeap.ltg at3x5
   replace hf0 := hf0.trans le3x5
   replace hc := base_hc.mono hle
   clear c1
   obtain ⟨c0, c1, c2, c3, c4, i1, i2, i3, i4⟩ := hc.get
   refine .call1 rfl rfl rfl rfl rfl @Try.call95 rfl (clone_c) ?_
   rintro _ H12x3 ⟨le12x3, g12x3, rfl, at12x3, ge12x3⟩
   replace hbl := hbl.trans le12x3
   refine ⟨hbl, ?_⟩
   replace hle := hle.trans le12x3
   replace at3x5 := le12x3.2 _ _ at3x5
   have lt_at12x3 := GHeap.ltg at12x3
   replace hf0 := hf0.trans le12x3
   replace hc := base_hc.mono hle
   clear c0 c1 c2 c3 c4 i1 i2 i3 i4
   obtain ⟨c0, c1, c2, c3, c4, i1, i2, i3, i4⟩ := hc.get
   refine .call1 rfl rfl rfl rfl rfl @Try.call95 rfl (clone_c) ?_
   rintro _ H17x4 ⟨le17x4, g17x4, rfl, at17x4, ge17x4⟩
   replace hbl := hbl.trans le17x4
   refine ⟨hbl, ?_⟩
   replace hle := hle.trans le17x4
   replace at3x5 := le17x4.2 _ _ at3x5
   replace at12x3 := le17x4.2 _ _ at12x3
   have lt_at17x4 := GHeap.ltg at17x4
   replace hf0 := hf0.trans le17x4
   replace hc := base_hc.mono hle
   clear c0 c1 c2 c3 c4 i1 i2 i3 i4
   obtain ⟨c0, c1, c2, c3, c4, i1, i2, i3, i4⟩ := hc.get
   refine .call1 rfl rfl rfl rfl rfl @Try.call95 rfl (clone_c) ?_
   rintro _ H22x5 ⟨le22x5, g22x5, rfl, at22x5, ge22x5⟩
   replace hbl := hbl.trans le22x5
   refine ⟨hbl, ?_⟩
   replace at3x5 := le22x5.2 _ _ at3x5
   replace at12x3 := le22x5.2 _ _ at12x3
   replace at17x4 := le22x5.2 _ _ at17x4
   replace hf0 := hf0.trans le22x5
   refine .qB rfl hbl (.build bt_29_Db rfl rfl rfl) ?_
   refine .r1 rfl rfl rfl (.fillA rfl sz_29_D rfl rfl rfl rfl) ?_
   rintro _ H1021x4 ⟨rfl, st1021x4, at1021x4⟩
   replace hbl := hbl.st st1021x4 (fun k hk => ⟨by omega, trivial⟩)
   refine ⟨hbl, ?_⟩
   replace at12x3 := st1021x4.s at12x3
   replace at17x4 := st1021x4.s at17x4
   replace at22x5 := st1021x4.s at22x5
   replace hf0 := hf0.st st1021x4 (fun k hk => ⟨by omega, trivial⟩)
   refine .done ?_
   exact ⟨g12x3, g17x4, g22x5, g3x5, ⟨rfl, rfl, rfl, rfl, rfl, rfl, rfl, trivial⟩, hf0, by omega, by omega, by omega, by omega, by first | assumption | simpa using at12x3, by first | assumption | simpa using at17x4, by first | assumption | simpa using at22x5, by first | assumption | simpa using at1021x4, by omega, by omega, by omega, by omega, by omega, by omega⟩
  rintro fr3 H3 ⟨g12, g17, g22, g3, hsub3, le3, ge12, ge17, ge22, ge3, at12, at17, at22, at3, ne3_0, ne3_1, ne3_2, ne3_3, ne3_4, ne3_5⟩
  have nx_H3 := le3.1
  replace hle := hle.trans le3
  replace at1 := le3.2 _ _ at1
  replace at2 := le3.2 _ _ at2
  have lt_at12 := GHeap.ltg at12
  have lt_at17 := GHeap.ltg at17
  have lt_at22 := GHeap.ltg at22
  replace hc := base_hc.mono hle
  refine hK2 _ _ ?_
  refine .forget hsub3 ?_
  refine .seq (fun K3 hK3 => .region ?_)
  rw [b2] at at3
  refine .q rfl (.makeFunc rfl) ?_
  refine .call rfl rfl rfl rfl @Try.call81 rfl (table_c (src := c.tgt) (tgt := c.src) (X := fun i j => (c.comp.getD j []).getD i 0) (by assumption) hS.tl rfl (by omega) (fun H' s => Ints.of_get (s.same _ _ ⟨by omega, trivial⟩ at12)) (fun H' s => Ints.of_get (s.same _ _ ⟨by omega, trivial⟩ at17)) @Try.call96 (fun H' s i j hi hj e => (opposite1_c (H := H') (base_hc.mono (hle.st s (fun k hk => ⟨by omega, trivial⟩))) (s.same _ _ ⟨by omega, trivial⟩ at1) hS hi hj).mono fun v H'' hv => by obtain ⟨rfl, rfl⟩ := hv; exact ⟨.refl _, rfl⟩)) ?_
  rintro _ H25 ⟨st25, gC25, r25, at25, ge25, v25, hr25⟩
  replace hle := hle.st st25 (fun k hk => ⟨by omega, trivial⟩)
  replace at2 := st25.s at2
  replace at12 := st25.s at12
  replace at17 := st25.s at17
  replace at22 := st25.s at22
  replace hc := base_hc.mono hle
  refine .nil (hK3 _ _ (.seq (fun K4 hK4 => .region ?_)))
  refine .q rfl (.loadM ag_29_D rfl ⟨rfl, Mem.of_get at25⟩) ?_
  refine .r0 rfl rfl (.fillA rfl sz_29_D rfl rfl rfl rfl) ?_
  rintro _ H3001 ⟨rfl, st3001, at3001⟩
  replace hle := hle.st st3001 (fun k hk => ⟨by omega, trivial⟩)
  replace at12 := st3001.s at12
  replace at17 := st3001.s at17
  replace at22 := st3001.s at22
  replace hc := base_hc.mono hle
  refine .nil (hK4 _ _ ?_)
  refine .ret ?_
  refine hret _ _ ?_
  refine ⟨_, _, _, _, rfl, ag_29_D, (by rfl), (Mem.of_get at3001), ?_⟩
  rw [Cat.op_tab hS] at v25
  refine ⟨hle, ⟨some ⟨g12, 0, none⟩, some ⟨g17, 0, none⟩, some ⟨g22, 0, none⟩, some ⟨gC25, 0, none⟩, r25⟩, by simp [Cat.cells, Cat.op, b2], ?_⟩
  have hv := v25.keep (st3001.keep (b := H3.next) (fun k hk => ⟨by omega, trivial⟩)) (by omega)
  refine .mk (.of_at at12 (by omega)) (.of_at at17 (by omega)) (.of_at at22 (by omega)) (hv.keep (.of_le (.refl _)) (by omega)) (g1 := g12) (g2 := g17) (g3 := g22) (.inr rfl) (.inr rfl) (.inr rfl) (by omega) (by omega) (by omega) (fun i hi => ?_)
  have hi' : i < c.src.length := by simpa [Cat.op] using hi
  exact ⟨fun e => by have := hr25 i hi' _ e; omega, fun e => by have := hr25 i hi' _ e; omega, fun e => by have := hr25 i hi' _ e; omega⟩
theorem l03OpR_c {c : Cat} {p : CatP} {H : GHeap} (hin : c.In H p := by assumption) (hS : c.Shape := by assumption) :
    GCalls Try.prog 43 [.agg (c.cells p).toArray] H (NewCatR H c.op) := (l03Op_c (N := 40) hin hS.rect (by omega)).mono fun v H' h => by
  obtain ⟨h1, g1, g2, g3, g4, rr, h2, h3⟩ := h
  exact ⟨h1, _, h2, h3.catR⟩
theorem terminal_c {g o : Nat} {c : Cat} {p : CatP} {H : GHeap} (h : Cat.At H g o c p := by assumption) (hS : c.Shape := by assumption) :
    GCalls Try.prog 99 [.pointer (some ⟨g, o, none⟩)] H (NewInts 2 H c.term) := by
  have b5 := hS.obj
  refine GCalls.body (N := 34) (rs := [.tmp 2]) Try.func99 rfl rfl rfl rfl (fun Qx hret hend => ?_)
  refine .fg [0] rfl ?_
  have hle := GHeap.Le.refl H
  have base_h := h
  refine .seq (fun K1 hK1 => .region (.mv rfl (.nil (hK1 _ _ ?_))))
  refine .scope ?_
  refine .seq (fun K2 hK2 => .region ?_)
  refine .R rfl (.litA rfl sl_22_A ze_2_E rfl rfl rfl rfl) ?_
  rintro _ H6 ⟨g6, rfl, le6, ge6, at6⟩
  replace hle := hle.trans le6
  have lt_at6 := GHeap.ltg at6
  replace h := base_h.mono hle
  replace at6 : GHeap.get H6 g6 = some (.row (ints []) 2 true) := at6
  refine .mv rfl (.nil (hK2 _ _ (.seq (fun K3 hK3 => ?_))))
  refine .label ?_
  refine hK3 _ _ (.seq (fun K4 hK4 => .seq (fun K5 hK5 => .region (.mv rfl (.nil (hK5 _ _ ?_))))))
  refine .block ?_
  refine .loopR (σ := Nat × Nat × Nat) [(0, some _)] (fun (x, gL3, nL3) => [(4, some (.int .i64 (x : Int))), (3, some (.slice (some ⟨gL3, 0, none⟩) nL3 nL3))]) (fun (x, gL3, nL3) H' => St [g6] H6 H' ∧ H'.get gL3 = some (.row (ints (filtN x (fun x => allN c.obj.toNat fun y => decide ((c.hom (y : Int) (x : Int)).length = 1)))) 2 true) ∧ (gL3 = g6 ∨ H6.next ≤ gL3) ∧ nL3 = (filtN x (fun x => allN c.obj.toNat fun y => decide ((c.hom (y : Int) (x : Int)).length = 1))).length ∧ x ≤ c.obj.toNat) (fun (x, gL3, nL3) => c.obj.toNat - x) ((0, _, _)) ⟨rfl, trivial⟩ ⟨rfl, rfl, trivial⟩ ?_ ?_
  ·
   refine ⟨.refl _ _, by first | assumption | exact at6 | simpa using at6, .inl rfl, by first | rfl | assumption | simp | omega, ?_⟩
   omega
  rintro ⟨x, gL3, nL3⟩ HL1 ⟨lst1, at_L3, pl_L3, ln_L3, hI⟩ KL1 hKL1
  refine .forget (fr' := [(4, some (.int .i64 (x : Int))), (3, some (.slice (some ⟨gL3, 0, none⟩) nL3 nL3)), (0, some _)]) ⟨rfl, rfl, rfl, trivial⟩ ?_
  have ge_L3 : H.next ≤ gL3 := by omega
  have nx_HL1 := lst1.nx
  replace hle := hle.st lst1 (fun k hk => ⟨by omega, trivial⟩)
  replace h := base_h.mono hle
  obtain ⟨c0, -, -, -, -, -, -, -, -⟩ := h.get
  have hfl := filtN_le x (fun x => allN c.obj.toNat fun y => decide ((c.hom (y : Int) (x : Int)).length = 1))
  refine .seq (fun K6 hK6 => .seq (fun K7 hK7 => .region (.mv rfl (.mv rfl (.q rfl (.nilCheck rfl) (.q rfl (.fieldAddr fo_29_0_B rfl) ?_))))))
  refine .q rfl (.load on_2_A rfl (by assumption)) ?_
  refine .q rfl (.cmp rfl rfl rfl) (.nil (hK7 _ _ ?_))
  refine .cond rfl (fun h12 => ?_) (fun h12 => ?_)
  ·
   simp only [sps] at h12
   refine .skip ?_
   refine hK6 _ _ (.seq (fun K8 hK8 => ?_))
   refine .block ?_
   refine .seq (fun K9 hK9 => .seq (fun K10 hK10 => .region (.mv rfl (.nil (hK10 _ _ ?_)))))
   refine .block ?_
   refine .loopR (σ := Nat) [(0, some _), (3, some _), (4, some _)] (fun y => [(5, some (.int .i64 (y : Int)))]) (fun y H' => St [] HL1 H' ∧ y ≤ c.obj.toNat ∧ ∀ z, z < y → (c.hom (z : Int) (x : Int)).length = 1) (fun y => c.obj.toNat - y) (0) ⟨rfl, rfl, rfl, trivial⟩ ⟨rfl, trivial⟩ ?_ ?_
   ·
    refine ⟨.refl _ _, ?_⟩
    exact ⟨by omega, fun z hz => by omega⟩
   rintro y HL2 ⟨lst2, hI⟩ KL2 hKL2
   refine .forget (fr' := [(5, some (.int .i64 (y : Int))), (0, some _), (3, some _), (4, some _)]) ⟨rfl, rfl, rfl, rfl, trivial⟩ ?_
   have nx_HL2 := lst2.nx
   replace hle := hle.st lst2 (fun k hk => trivial)
   replace lst1 := lst1.sA lst2
   replace at_L3 := lst2.same _ _ trivial at_L3
   replace h := base_h.mono hle
   clear c0
   obtain ⟨c0, -, -, -, -, -, -, -, -⟩ := h.get
   obtain ⟨hy, hall⟩ := hI
   refine .seq (fun K11 hK11 => .seq (fun K12 hK12 => .region (.mv rfl (.mv rfl (.q rfl (.nilCheck rfl) (.q rfl (.fieldAddr fo_29_0_B rfl) ?_))))))
   refine .q rfl (.load on_2_A rfl (by assumption)) ?_
   refine .q rfl (.cmp rfl rfl rfl) (.nil (hK12 _ _ ?_))
   refine .cond rfl (fun h20 => ?_) (fun h20 => ?_)
   ·
    simp only [sps] at h20
    refine .skip ?_
    refine hK11 _ _ (.seq (fun K13 hK13 => ?_))
    refine .block ?_
    refine .seq (fun K14 hK14 => .region (.mv rfl (.mv rfl (.mv rfl ?_))))
    refine .call rfl rfl rfl rfl @Try.call63 rfl (hom_c) ?_
    rintro _ H26 ⟨le26, g26, rfl, at26, ge26⟩
    replace hle := hle.trans le26
    replace lst1 := lst1.le le26
    replace lst2 := lst2.le le26
    replace at_L3 := le26.2 _ _ at_L3
    replace h := base_h.mono hle
    clear c0
    have i26 := Ints.of_get at26
    refine .q rfl (.len sl_22_A rfl) (.q rfl (.cmp rfl rfl rfl) (.nil (hK14 _ _ ?_)))
    refine .cond rfl (fun h28 => ?_) (fun h28 => ?_)
    ·
     have hF : (allN c.obj.toNat fun y => decide ((c.hom (y : Int) (x : Int)).length = 1)) = false := allN_not (i := y) (by omega) (by simp only [sps] at h28 ⊢; omega)
     refine .exit ?_
     refine hK8 _ _ (.region (.mv rfl ?_))
     refine .q rfl (.add rfl rfl rfl (by omega) (by omega)) ?_
     refine .mv rfl (.nil ?_)
     refine hKL1 ((x + 1, _, _)) _ _ ?_ ?_ ⟨rfl, rfl, rfl, trivial⟩
     ·
      refine ⟨lst1, by first | assumption | (rw [filtN_T (by assumption)]; assumption) | (rw [filtN_F (by assumption)]; assumption), by omega, by first | omega | (simp only [List.length_append, List.length_cons, List.length_nil] <;> omega) | (rw [filtN_T (by assumption)] <;> (first | omega | (simp only [List.length_append, List.length_cons, List.length_nil] <;> omega))) | (rw [filtN_F (by assumption)] <;> (first | omega | (simp only [List.length_append, List.length_cons, List.length_nil] <;> omega))), ?_⟩
      omega
     (dsimp only; omega)
    try simp only [sps] at h28
    refine .skip ?_
    refine hK13 _ _ (.region (.mv rfl ?_))
    refine .q rfl (.add rfl rfl rfl (by omega) (by omega)) ?_
    refine .mv rfl (.nil ?_)
    refine hKL2 (y + 1) _ _ ?_ ?_ ⟨rfl, rfl, rfl, rfl, trivial⟩
    ·
     refine ⟨lst2, ?_⟩
     refine ⟨by omega, fun z hz => ?_⟩
     by_cases e : z < y
     · exact hall z e
     · obtain rfl : z = y := by omega
       omega
    omega
   try simp only [sps] at h20
   refine .exit ?_
   refine hK9 _ _ (.region ?_)
   have hT : (allN c.obj.toNat fun y => decide ((c.hom (y : Int) (x : Int)).length = 1)) = true := allN_of fun z hz => decide_eq_true (hall z (by omega))
   refine .mv rfl (.mv rfl ?_)
   refine .R rfl (.litA rfl sl_22_A ze_2_E rfl rfl rfl rfl) ?_
   rintro _ H31 ⟨g31, rfl, le31, ge31, at31⟩
   replace hle := hle.trans le31
   replace lst1 := lst1.le le31
   replace at_L3 := le31.2 _ _ at_L3
   have lt_at31 := GHeap.ltg at31
   replace h := base_h.mono hle
   refine .R rfl (.appendI rfl sl_22_A ze_2_E rfl by_2_E sl_22_A rfl rfl (by assumption) (by assumption) (by first | omega | (simp <;> omega)) (by omega) (by omega)) ?_
   rintro _ H32 ⟨g32, rfl, st32, ge32, at32⟩
   replace hle := hle.st st32 (fun k hk => ⟨by omega, trivial⟩)
   replace lst1 := lst1.sA st32
   replace h := base_h.mono hle
   refine .mv rfl (.nil (hK8 _ _ (.region (.mv rfl ?_))))
   refine .q rfl (.add rfl rfl rfl (by omega) (by omega)) ?_
   refine .mv rfl (.nil ?_)
   refine hKL1 ((x + 1, _, _)) _ _ ?_ ?_ ⟨rfl, rfl, rfl, trivial⟩
   ·
    refine ⟨lst1, by first | assumption | (rw [filtN_T (by assumption)]; assumption) | (rw [filtN_F (by assumption)]; assumption), by omega, by first | omega | (simp only [List.length_append, List.length_cons, List.length_nil] <;> omega) | (rw [filtN_T (by assumption)] <;> (first | omega | (simp only [List.length_append, List.length_cons, List.length_nil] <;> omega))) | (rw [filtN_F (by assumption)] <;> (first | omega | (simp only [List.length_append, List.length_cons, List.length_nil] <;> omega))), ?_⟩
    omega
   (dsimp only; omega)
  try simp only [sps] at h12
  refine .exit ?_
  refine hK4 _ _ (.seq (fun K15 hK15 => .region (.mv rfl (.mv rfl (.nil (hK15 _ _ ?_))))))
  refine .ret ?_
  refine hret _ _ ?_
  refine ⟨_, rfl, ?_⟩
  obtain rfl : x = c.obj.toNat := by omega
  exact ⟨hle, gL3, by rw [ln_L3]; rfl, at_L3, by omega⟩
theorem l13Terminal_c {c : Cat} {p : CatP} {H : GHeap} (hin : c.In H p := by assumption) (hS : c.Shape := by assumption) :
    GCalls Try.prog 89 [.agg (c.cells p).toArray] H (NewInts 2 H c.term) := by
  have b5 := hS.obj
  refine GCalls.body (N := 35) (rs := [.tmp 2]) Try.func89 rfl rfl rfl rfl (fun Qx hret hend => ?_)
  refine .fg [0] rfl ?_
  have hle := GHeap.Le.refl H
  have base_hin := hin
  refine .seq (fun K1 hK1 => .region ?_)
  refine .R rfl (.boxR rfl sz_29_D rfl) ?_
  rintro _ H1 ⟨g1, rfl, le1, ge1, at1⟩
  replace hle := hle.trans le1
  have lt_at1 := GHeap.ltg at1
  replace hin := base_hin.mono hle
  have hb1 : Cat.At _ g1 0 c p := ⟨Mem.of_get at1, hin⟩
  refine .mv rfl (.nil (hK1 _ _ (.seq (fun K2 hK2 => .region ?_))))
  refine .R rfl (.litA rfl sl_22_A ze_2_E rfl rfl rfl rfl) ?_
  rintro _ H7 ⟨g7, rfl, le7, ge7, at7⟩
  replace hle := hle.trans le7
  replace at1 := le7.2 _ _ at1
  have lt_at7 := GHeap.ltg at7
  replace hin := base_hin.mono hle
  clear hb1
  have hb1 : Cat.At _ g1 0 c p := ⟨Mem.of_get at1, hin⟩
  replace at7 : GHeap.get H7 g7 = some (.row (ints []) 2 true) := at7
  refine .mv rfl (.nil (hK2 _ _ (.seq (fun K3 hK3 => .seq (fun K4 hK4 => .region (.mv rfl (.nil (hK4 _ _ ?_))))))))
  refine .block ?_
  refine .loopR (σ := Nat × Nat × Nat) [(1, some _)] (fun (x, gL3, nL3) => [(4, some (.int .i64 (x : Int))), (3, some (.slice (some ⟨gL3, 0, none⟩) nL3 nL3))]) (fun (x, gL3, nL3) H' => St [g7] H7 H' ∧ H'.get gL3 = some (.row (ints (filtN x (fun x => allN c.obj.toNat fun y => decide ((c.hom (y : Int) (x : Int)).length = 1)))) 2 true) ∧ (gL3 = g7 ∨ H7.next ≤ gL3) ∧ nL3 = (filtN x (fun x => allN c.obj.toNat fun y => decide ((c.hom (y : Int) (x : Int)).length = 1))).length ∧ x ≤ c.obj.toNat) (fun (x, gL3, nL3) => c.obj.toNat - x) ((0, _, _)) ⟨rfl, trivial⟩ ⟨rfl, rfl, trivial⟩ ?_ ?_
  ·
   refine ⟨.refl _ _, by first | assumption | exact at7 | simpa using at7, .inl rfl, by first | rfl | assumption | simp | omega, ?_⟩
   omega
  rintro ⟨x, gL3, nL3⟩ HL1 ⟨lst1, at_L3, pl_L3, ln_L3, hI⟩ KL1 hKL1
  refine .forget (fr' := [(4, some (.int .i64 (x : Int))), (3, some (.slice (some ⟨gL3, 0, none⟩) nL3 nL3)), (1, some _)]) ⟨rfl, rfl, rfl, trivial⟩ ?_
  have ge_L3 : H.next ≤ gL3 := by omega
  have nx_HL1 := lst1.nx
  replace hle := hle.st lst1 (fun k hk => ⟨by omega, trivial⟩)
  replace at1 := lst1.s at1
  replace hin := base_hin.mono hle
  clear hb1
  have hb1 : Cat.At _ g1 0 c p := ⟨Mem.of_get at1, hin⟩
  obtain ⟨c01, -, -, -, -, -, -, -, -⟩ := hb1.get
  have hfl := filtN_le x (fun x => allN c.obj.toNat fun y => decide ((c.hom (y : Int) (x : Int)).length = 1))
  refine .seq (fun K5 hK5 => .seq (fun K6 hK6 => .region (.mv rfl (.q rfl (.fieldAddr fo_29_0_B rfl) ?_))))
  refine .q rfl (.load on_2_A rfl (by first | assumption | exact Mem.of_get at1 0 _ rfl)) ?_
  refine .q rfl (.cmp rfl rfl rfl) (.nil (hK6 _ _ ?_))
  refine .cond rfl (fun h11 => ?_) (fun h11 => ?_)
  ·
   simp only [sps] at h11
   refine .skip ?_
   refine hK5 _ _ (.seq (fun K7 hK7 => ?_))
   refine .block ?_
   refine .seq (fun K8 hK8 => .region (.mv rfl (.nil (hK8 _ _ (.seq (fun K9 hK9 => .seq (fun K10 hK10 => .region (.mv rfl (.nil (hK10 _ _ ?_))))))))))
   refine .block ?_
   refine .loopR (σ := Nat × Bool) [(1, some _), (3, some _), (4, some _)] (fun (y, e) => [(6, some (.int .i64 (y : Int))), (5, some (.bool e))]) (fun (y, e) H' => St [] HL1 H' ∧ y ≤ c.obj.toNat ∧ e = allN y fun y => decide ((c.hom (y : Int) (x : Int)).length = 1)) (fun (y, e) => c.obj.toNat - y) ((0, true)) ⟨rfl, rfl, rfl, trivial⟩ ⟨rfl, rfl, trivial⟩ ?_ ?_
   ·
    refine ⟨.refl _ _, ?_⟩
    exact ⟨by omega, rfl⟩
   rintro ⟨y, e⟩ HL2 ⟨lst2, hI⟩ KL2 hKL2
   refine .forget (fr' := [(6, some (.int .i64 (y : Int))), (5, some (.bool e)), (1, some _), (3, some _), (4, some _)]) ⟨rfl, rfl, rfl, rfl, rfl, trivial⟩ ?_
   have nx_HL2 := lst2.nx
   replace hle := hle.st lst2 (fun k hk => trivial)
   replace lst1 := lst1.sA lst2
   replace at1 := lst2.same _ _ trivial at1
   replace at_L3 := lst2.same _ _ trivial at_L3
   replace hin := base_hin.mono hle
   clear hb1 c01
   have hb1 : Cat.At _ g1 0 c p := ⟨Mem.of_get at1, hin⟩
   obtain ⟨c01, -, -, -, -, -, -, -, -⟩ := hb1.get
   have hi1 := hb1.2
   obtain ⟨hy, he⟩ := hI
   refine .seq (fun K11 hK11 => .seq (fun K12 hK12 => .region (.mv rfl (.mv rfl ?_))))
   refine .split (fun h15 => ?_) (fun h15 => ?_)
   ·
    try simp only [sps] at h15
    refine .qg rfl (.move rfl) (.qg rfl (.fieldAddr fo_29_0_B rfl) ?_)
    refine .qg rfl (.load on_2_A rfl (by first | assumption | exact Mem.of_get at1 0 _ rfl)) ?_
    refine .qg rfl (.cmp rfl rfl rfl) (.q rfl (.pickT rfl rfl) (.nil (hK12 _ _ ?_)))
    refine .cond rfl (fun h20 => ?_) (fun h20 => ?_)
    ·
     simp only [sps] at h20
     refine .skip ?_
     refine hK11 _ _ (.seq (fun K13 hK13 => ?_))
     refine .block ?_
     refine .region ?_
     refine .q rfl (.loadM ag_29_D rfl ⟨rfl, Mem.of_get at1⟩) ?_
     refine .mv rfl (.mv rfl ?_)
     refine .call rfl rfl rfl rfl @Try.call127 rfl (l02Hom_c) ?_
     rintro _ H26 ⟨le26, g26, rfl, at26, ge26⟩
     replace hle := hle.trans le26
     replace lst2 := lst2.le le26
     replace at1 := le26.2 _ _ at1
     replace hin := base_hin.mono hle
     clear hb1 c01 hi1
     have hb1 : Cat.At _ g1 0 c p := ⟨Mem.of_get at1, hin⟩
     refine .q rfl (.len sl_22_A rfl) (.q rfl (.cmp rfl rfl rfl) (.mv rfl (.nil (hK13 _ _ (.region (.mv rfl ?_))))))
     refine .q rfl (.add rfl rfl rfl (by omega) (by omega)) ?_
     refine .mv rfl (.nil ?_)
     refine hKL2 ((y + 1, ((c.hom (y : Int) (x : Int)).length : Int) == 1)) _ _ ?_ ?_ ⟨rfl, rfl, rfl, rfl, rfl, trivial⟩
     ·
      refine ⟨lst2, ?_⟩
      refine ⟨by omega, ?_⟩
      rw [allN_succ, ← he, h15, Bool.true_and, Bool.eq_iff_iff]
      simp only [sps]
      omega
     (dsimp only; omega)
    try simp only [sps] at h20
    refine .exit ?_
    refine hK9 _ _ (.seq (fun K14 hK14 => .region (.mv rfl (.nil (hK14 _ _ ?_)))))
    refine .cond rfl (fun h29 => ?_) (fun h29 => ?_)
    ·
     have hT : (allN c.obj.toNat fun y => decide ((c.hom (y : Int) (x : Int)).length = 1)) = true := by
       obtain rfl : y = c.obj.toNat := by first | omega | (rw [h29] at h15; cases h15)
       rw [← he, h29]
     refine .region (.mv rfl (.mv rfl ?_))
     refine .R rfl (.litA rfl sl_22_A ze_2_E rfl rfl rfl rfl) ?_
     rintro _ H32 ⟨g32, rfl, le32, ge32, at32⟩
     replace hle := hle.trans le32
     replace lst1 := lst1.le le32
     replace at1 := le32.2 _ _ at1
     replace at_L3 := le32.2 _ _ at_L3
     have lt_at32 := GHeap.ltg at32
     replace hin := base_hin.mono hle
     have hb1 : Cat.At _ g1 0 c p := ⟨Mem.of_get at1, hin⟩
     refine .R rfl (.appendI rfl sl_22_A ze_2_E rfl by_2_E sl_22_A rfl rfl (by assumption) (by assumption) (by first | omega | (simp <;> omega)) (by omega) (by omega)) ?_
     rintro _ H33 ⟨g33, rfl, st33, ge33, at33⟩
     replace hle := hle.st st33 (fun k hk => ⟨by omega, trivial⟩)
     replace lst1 := lst1.sA st33
     have ne_g1_gL3 : NE g1 gL3 := .a
     replace at1 := st33.s at1 ne_g1_gL3.ne
     replace hin := base_hin.mono hle
     clear hb1
     have hb1 : Cat.At _ g1 0 c p := ⟨Mem.of_get at1, hin⟩
     refine .mv rfl (.nil (hK7 _ _ (.region (.mv rfl ?_))))
     refine .q rfl (.add rfl rfl rfl (by omega) (by omega)) ?_
     refine .mv rfl (.nil ?_)
     refine hKL1 ((x + 1, _, _)) _ _ ?_ ?_ ⟨rfl, rfl, rfl, trivial⟩
     ·
      refine ⟨lst1, by first | assumption | (rw [filtN_T (by assumption)]; assumption) | (rw [filtN_F (by assumption)]; assumption), by omega, by first | omega | (simp only [List.length_append, List.length_cons, List.length_nil] <;> omega) | (rw [filtN_T (by assumption)] <;> (first | omega | (simp only [List.length_append, List.length_cons, List.length_nil] <;> omega))) | (rw [filtN_F (by assumption)] <;> (first | omega | (simp only [List.length_append, List.length_cons, List.length_nil] <;> omega))), ?_⟩
      omega
     (dsimp only; omega)
    have hF : (allN c.obj.toNat fun y => decide ((c.hom (y : Int) (x : Int)).length = 1)) = false := allN_early (he.symm.trans h29) hy
    refine .skip ?_
    refine hK7 _ _ (.region (.mv rfl ?_))
    refine .q rfl (.add rfl rfl rfl (by omega) (by omega)) ?_
    refine .mv rfl (.nil ?_)
    refine hKL1 ((x + 1, _, _)) _ _ ?_ ?_ ⟨rfl, rfl, rfl, trivial⟩
    ·
     refine ⟨lst1, by first | assumption | (rw [filtN_T (by assumption)]; assumption) | (rw [filtN_F (by assumption)]; assumption), by omega, by first | omega | (simp only [List.length_append, List.length_cons, List.length_nil] <;> omega) | (rw [filtN_T (by assumption)] <;> (first | omega | (simp only [List.length_append, List.length_cons, List.length_nil] <;> omega))) | (rw [filtN_F (by assumption)] <;> (first | omega | (simp only [List.length_append, List.length_cons, List.length_nil] <;> omega))), ?_⟩
     omega
    (dsimp only; omega)
   try simp only [sps] at h15
   refine .z rfl (.z rfl (.z rfl (.z rfl (.q rfl (.pickF rfl rfl) (.nil (hK12 _ _ ?_))))))
   refine .condF rfl ?_
   refine .exit ?_
   refine hK9 _ _ (.seq (fun K15 hK15 => .region (.mv rfl (.nil (hK15 _ _ ?_)))))
   refine .cond rfl (fun h29 => ?_) (fun h29 => ?_)
   ·
    have hT : (allN c.obj.toNat fun y => decide ((c.hom (y : Int) (x : Int)).length = 1)) = true := by
      obtain rfl : y = c.obj.toNat := by first | omega | (rw [h29] at h15; cases h15)
      rw [← he, h29]
    refine .region (.mv rfl (.mv rfl ?_))
    refine .R rfl (.litA rfl sl_22_A ze_2_E rfl rfl rfl rfl) ?_
    rintro _ H32x2 ⟨g32x2, rfl, le32x2, ge32x2, at32x2⟩
    replace hle := hle.trans le32x2
    replace lst1 := lst1.le le32x2
    replace at1 := le32x2.2 _ _ at1
    replace at_L3 := le32x2.2 _ _ at_L3
    have lt_at32x2 := GHeap.ltg at32x2
    replace hin := base_hin.mono hle
    have hb1 : Cat.At _ g1 0 c p := ⟨Mem.of_get at1, hin⟩
    refine .R rfl (.appendI rfl sl_22_A ze_2_E rfl by_2_E sl_22_A rfl rfl (by assumption) (by assumption) (by first | omega | (simp <;> omega)) (by omega) (by omega)) ?_
    rintro _ H33x2 ⟨g33x2, rfl, st33x2, ge33x2, at33x2⟩
    replace hle := hle.st st33x2 (fun k hk => ⟨by omega, trivial⟩)
    replace lst1 := lst1.sA st33x2
    have ne_g1_gL3 : NE g1 gL3 := .a
    replace at1 := st33x2.s at1 ne_g1_gL3.ne
    replace hin := base_hin.mono hle
    clear hb1
    have hb1 : Cat.At _ g1 0 c p := ⟨Mem.of_get at1, hin⟩
    refine .mv rfl (.nil (hK7 _ _ (.region (.mv rfl ?_))))
    refine .q rfl (.add rfl rfl rfl (by omega) (by omega)) ?_
    refine .mv rfl (.nil ?_)
    refine hKL1 ((x + 1, _, _)) _ _ ?_ ?_ ⟨rfl, rfl, rfl, trivial⟩
    ·
     refine ⟨lst1, by first | assumption | (rw [filtN_T (by assumption)]; assumption) | (rw [filtN_F (by assumption)]; assumption), by omega, by first | omega | (simp only [List.length_append, List.length_cons, List.length_nil] <;> omega) | (rw [filtN_T (by assumption)] <;> (first | omega | (simp only [List.length_append, List.length_cons, List.length_nil] <;> omega))) | (rw [filtN_F (by assumption)] <;> (first | omega | (simp only [List.length_append, List.length_cons, List.length_nil] <;> omega))), ?_⟩
     omega
    (dsimp only; omega)
   have hF : (allN c.obj.toNat fun y => decide ((c.hom (y : Int) (x : Int)).length = 1)) = false := allN_early (he.symm.trans h29) hy
   refine .skip ?_
   refine hK7 _ _ (.region (.mv rfl ?_))
   refine .q rfl (.add rfl rfl rfl (by omega) (by omega)) ?_
   refine .mv rfl (.nil ?_)
   refine hKL1 ((x + 1, _, _)) _ _ ?_ ?_ ⟨rfl, rfl, rfl, trivial⟩
   ·
    refine ⟨lst1, by first | assumption | (rw [filtN_T (by assumption)]; assumption) | (rw [filtN_F (by assumption)]; assumption), by omega, by first | omega | (simp only [List.length_append, List.length_cons, List.length_nil] <;> omega) | (rw [filtN_T (by assumption)] <;> (first | omega | (simp only [List.length_append, List.length_cons, List.length_nil] <;> omega))) | (rw [filtN_F (by assumption)] <;> (first | omega | (simp only [List.length_append, List.length_cons, List.length_nil] <;> omega))), ?_⟩
    omega
   (dsimp only; omega)
  try simp only [sps] at h11
  refine .exit ?_
  refine hK3 _ _ (.seq (fun K16 hK16 => .region (.mv rfl (.mv rfl (.nil (hK16 _ _ ?_))))))
  refine .ret ?_
  refine hret _ _ ?_
  refine ⟨_, rfl, ?_⟩
  obtain rfl : x = c.obj.toNat := by omega
  exact ⟨hle, gL3, by rw [ln_L3]; rfl, at_L3, by omega⟩
end Go.Proofs.Ytjdedelneppnlaa
namespace Go.GL
def Cat.pw (c : Cat) (f : Int) : Nat → Int
  | 0 => f
  | k + 1 => c.th (c.pw f k) f
structure Cat.Cyc (c : Cat) (f : Int) (k a : Nat) : Prop where
  lt : a < k
  eq : c.pw f k = c.pw f a
  ne : ∀ i j, i < j → j < k → c.pw f i ≠ c.pw f j
inductive Cat.Pw (c : Cat) (f i p e : Int) : Prop
  | err (h : c.code [f] ≠ 0) (hi : i = 0) (hp : p = 0) (he : e = c.code [f])
  | ends (h : c.code [f] = 0) (hn : ¬ c.S f = c.T f) (hi : i = 0) (hp : p = 0) (he : e = 5)
  | yes (h : c.code [f] = 0) (hn : c.S f = c.T f) (k a : Nat) (hc : c.Cyc f k a) (hi : i = (a : Int) + 1) (hp : p = (k : Int) - a) (he : e = 0)
end Go.GL
namespace Go.GL
structure Cat.Chain (c : Cat) (xs : List Int) : Prop where
  all : ∀ i : Nat, i + 1 < xs.length → c.T (xs.getD i 0) = c.S (xs.getD (i + 1) 0)
structure Cat.Ch (c : Cat) (xs : List Int) : Prop where
  rg : ∀ i, i < xs.length → 0 ≤ xs.getD i 0 ∧ xs.getD i 0 < c.src.length
  ch : c.Chain xs
end Go.GL
namespace Go.GL
theorem mem_of_full {α : Type} [DecidableEq α] : ∀ {l s : List α}, l.Nodup → (∀ x ∈ l, x ∈ s) → s.length ≤ l.length → ∀ x ∈ s, x ∈ l
  | [], s, _, _, hl, x, hx => by
    have : s = [] := List.length_eq_zero_iff.1 (by simpa using hl)
    rw [this] at hx; cases hx
  | a :: l, s, hn, hs, hl, x, hx => by
    have ha : a ∈ s := hs a (List.mem_cons_self ..)
    obtain ⟨h1, h2⟩ := List.nodup_cons.1 hn
    by_cases e : x = a
    · rw [e]; exact List.mem_cons_self ..
    · have hlen : (s.erase a).length = s.length - 1 := List.length_erase_of_mem ha
      have hpos : 0 < s.length := List.length_pos_of_mem ha
      refine List.mem_cons_of_mem _ (mem_of_full (s := s.erase a) h2 (fun y hy => ?_) ?_ x ((List.mem_erase_of_ne e).2 hx))
      · exact (List.mem_erase_of_ne (fun q => h1 (by rw [← q]; exact hy))).2 (hs y (List.mem_cons_of_mem _ hy))
      · rw [List.length_cons] at hl; omega
theorem length_le_of_sub {α : Type} [DecidableEq α] : ∀ {l s : List α}, l.Nodup → (∀ x ∈ l, x ∈ s) → l.length ≤ s.length
  | [], _, _, _ => Nat.zero_le _
  | a :: l, s, hn, hs => by
    have ha : a ∈ s := hs a (List.mem_cons_self ..)
    obtain ⟨h1, h2⟩ := List.nodup_cons.1 hn
    have hlen : (s.erase a).length = s.length - 1 := List.length_erase_of_mem ha
    have hpos : 0 < s.length := List.length_pos_of_mem ha
    have := length_le_of_sub (l := l) (s := s.erase a) h2 (fun y hy => (List.mem_erase_of_ne (fun q => h1 (by rw [← q]; exact hy))).2 (hs y (List.mem_cons_of_mem _ hy)))
    rw [List.length_cons]; omega
theorem onto_iff {α β : Type} [DecidableEq α] [DecidableEq β] {l : List α} {s : List β} {φ : α → β} (hl : l.Nodup) (hs : s.Nodup) (hm : ∀ u ∈ l, φ u ∈ s) :
    (l.length = s.length ∧ (l.map φ).Nodup) ↔ ∀ y ∈ s, (l.filter fun u => decide (φ u = y)).length = 1 := by
  have hc : ∀ y, (l.filter fun u => decide (φ u = y)).length = (l.map φ).count y := fun y => by
    rw [List.count, List.countP_map, List.countP_eq_length_filter]
    congr 1
  constructor
  · rintro ⟨h1, h2⟩ y hy
    rw [hc]
    have hy' : y ∈ l.map φ := mem_of_full h2 (fun z hz => by obtain ⟨u, hu, rfl⟩ := List.mem_map.1 hz; exact hm u hu) (by rw [List.length_map]; omega) y hy
    have a1 := List.nodup_iff_count.1 h2 y
    have a2 := List.count_pos_iff.2 hy'
    omega
  · intro h
    have h2 : (l.map φ).Nodup := List.nodup_iff_count.2 fun y => by
      by_cases hy : y ∈ l.map φ
      · obtain ⟨u, hu, rfl⟩ := List.mem_map.1 hy
        have := h (φ u) (hm u hu)
        rw [hc] at this; omega
      · rw [List.count_eq_zero_of_not_mem hy]; omega
    refine ⟨?_, h2⟩
    have a1 := length_le_of_sub (l := l.map φ) (s := s) h2 (fun z hz => by obtain ⟨u, hu, rfl⟩ := List.mem_map.1 hz; exact hm u hu)
    have a2 := length_le_of_sub (l := s) (s := l.map φ) hs (fun y hy => by
      have := h y hy
      rw [hc] at this
      exact List.count_pos_iff.1 (by omega))
    rw [List.length_map] at a1 a2
    omega
structure Spn where
  x : Int
  y : Int
  fits : Int → Int → Bool
  alone : Bool
def Cat.spL (c : Cat) (s : Spn) (w : Int) : List (Int × Int) := if s.alone = true then ((c.hom w s.x).filter fun a => s.fits a a).map fun a => (a, a) else (c.hom w s.x).flatMap fun a => ((c.hom w s.y).filter fun b => s.fits a b).map fun b => (a, b)
theorem Cat.mem_spL {c : Cat} {s : Spn} {w : Int} {p : Int × Int} : p ∈ c.spL s w ↔ p.1 ∈ c.hom w s.x ∧ s.fits p.1 p.2 = true ∧ if s.alone = true then p.2 = p.1 else p.2 ∈ c.hom w s.y := by
  unfold Cat.spL
  by_cases h : s.alone = true
  · rw [if_pos h, if_pos h, List.mem_map]
    constructor
    · rintro ⟨a, ha, rfl⟩
      obtain ⟨h1, h2⟩ := List.mem_filter.1 ha
      exact ⟨h1, h2, rfl⟩
    · rintro ⟨h1, h2, h3⟩
      refine ⟨p.1, List.mem_filter.2 ⟨h1, ?_⟩, ?_⟩
      · rw [h3] at h2; exact h2
      · obtain ⟨a, b⟩ := p; simp only at h3; rw [h3]
  · rw [if_neg h, if_neg h, List.mem_flatMap]
    constructor
    · rintro ⟨a, ha, hb⟩
      obtain ⟨b, hb2, rfl⟩ := List.mem_map.1 hb
      obtain ⟨h1, h2⟩ := List.mem_filter.1 hb2
      exact ⟨ha, h2, h1⟩
    · rintro ⟨h1, h2, h3⟩
      exact ⟨p.1, h1, List.mem_map.2 ⟨p.2, List.mem_filter.2 ⟨h3, h2⟩, rfl⟩⟩
theorem Cat.spL_nd (c : Cat) (s : Spn) (w : Int) : (c.spL s w).Nodup := by
  unfold Cat.spL
  split
  · exact List.Pairwise.map _ (fun a b h e => h (Prod.mk.inj e).1) ((c.hom_nd _ _).filter _)
  · refine List.pairwise_flatMap.2 ⟨fun a _ => List.Pairwise.map _ (fun a b h e => h (Prod.mk.inj e).2) ((c.hom_nd _ _).filter _), ?_⟩
    refine List.Pairwise.imp (R := (· ≠ ·)) (fun {a b} hab => ?_) (c.hom_nd w s.x)
    intro q h1 q2 h2 e
    obtain ⟨_, _, rfl⟩ := List.mem_map.1 h1
    obtain ⟨_, _, rfl⟩ := List.mem_map.1 h2
    exact hab (Prod.mk.inj e).1
def Cat.spM (c : Cat) (p : Int × Int) (u : Int) : Int × Int := (c.th u p.1, c.th u p.2)
def Cat.spN (c : Cat) (z : Int) (p : Int × Int) (w : Int) (q : Int × Int) : Nat := ((c.hom w z).filter fun u => decide (c.spM p u = q)).length
structure Cat.SpU (c : Cat) (s : Spn) (z : Int) (p : Int × Int) : Prop where
  all : ∀ w : Nat, (w : Int) < c.obj → ∀ q ∈ c.spL s w, c.spN z p w q = 1
structure Cat.SpV (c : Cat) (s : Spn) (z : Int) (p : Int × Int) : Prop where
  all : ∀ w : Nat, (w : Int) < c.obj → (c.hom w z).length = (c.spL s w).length ∧ ((c.hom w z).map (c.spM p)).Nodup
structure Cat.SpC (c : Cat) (s : Spn) : Prop where
  go : ∀ (w z : Nat) (p : Int × Int) (u : Int), p ∈ c.spL s z → u ∈ c.hom w z → c.spM p u ∈ c.spL s w
theorem Cat.spV_iff {c : Cat} {s : Spn} (hc : c.SpC s) {z : Nat} {p : Int × Int} (hp : p ∈ c.spL s z) : c.SpV s z p ↔ c.SpU s z p := by
  constructor
  · intro h
    exact ⟨fun w hw => (onto_iff (φ := c.spM p) (c.hom_nd _ _) (c.spL_nd s w) (fun u hu => hc.go w z p u hp hu)).1 (h.all w hw)⟩
  · intro h
    exact ⟨fun w hw => (onto_iff (φ := c.spM p) (c.hom_nd _ _) (c.spL_nd s w) (fun u hu => hc.go w z p u hp hu)).2 (h.all w hw)⟩
theorem Cat.hom_th {c : Cat} (hS : c.Shape) {w z x u a : Int} (hu : u ∈ c.hom w z) (ha : a ∈ c.hom z x) : c.th u a ∈ c.hom w x := by
  obtain ⟨U, u1, u2, u3, rfl⟩ := Cat.mem_hom.1 hu
  obtain ⟨A, a1, a2, a3, rfl⟩ := Cat.mem_hom.1 ha
  obtain ⟨p1, p2, p3, p4⟩ := hS.tn u1 a1 (by rw [u3, a2])
  rw [Cat.th_nat, p4]
  exact Cat.mem_hom.2 ⟨_, p1, by rw [p2, u2], by rw [p3, a3], rfl⟩
theorem Cat.hom_as {c : Cat} (hI : c.Is) {w z x y u a f : Int} (hu : u ∈ c.hom w z) (ha : a ∈ c.hom z x) (hf : f ∈ c.hom x y) : c.th (c.th u a) f = c.th u (c.th a f) := by
  obtain ⟨U, u1, u2, u3, rfl⟩ := Cat.mem_hom.1 hu
  obtain ⟨A, a1, a2, a3, rfl⟩ := Cat.mem_hom.1 ha
  obtain ⟨F, f1, f2, f3, rfl⟩ := Cat.mem_hom.1 hf
  exact hI.2.as U u1 A a1 (by rw [u3, a2]) F f1 (by rw [a3, f2])
def Spn.prod (x y : Int) : Spn := ⟨x, y, fun _ _ => true, false⟩
def Cat.pull (c : Cat) (f g : Int) : Spn := ⟨c.S f, c.S g, fun a b => decide (c.th a f = c.th b g), false⟩
def Cat.fork (c : Cat) (f g : Int) : Spn := ⟨c.S f, c.S f, fun a b => decide (c.th a f = c.th b g), true⟩
theorem Cat.hom_self {c : Cat} {f : Nat} (h : f < c.src.length) : (f : Int) ∈ c.hom (c.S f) (c.T f) := Cat.mem_hom.2 ⟨f, h, rfl, rfl, rfl⟩
theorem Cat.prod_go {c : Cat} (hS : c.Shape) (x y : Int) : c.SpC (.prod x y) := ⟨fun w z p u hp hu => by
  obtain ⟨h1, _, h3⟩ := Cat.mem_spL.1 hp
  exact Cat.mem_spL.2 ⟨Cat.hom_th hS hu h1, rfl, Cat.hom_th hS hu h3⟩⟩
theorem Cat.pull_go {c : Cat} (hI : c.Is) {f g : Nat} (hf : f < c.src.length) (hg : g < c.src.length) : c.SpC (c.pull f g) := ⟨fun w z p u hp hu => by
  obtain ⟨h1, h2, h3⟩ := Cat.mem_spL.1 hp
  refine Cat.mem_spL.2 ⟨Cat.hom_th hI.1 hu h1, decide_eq_true ?_, Cat.hom_th hI.1 hu h3⟩
  have h2' : c.th p.1 f = c.th p.2 g := of_decide_eq_true h2
  show c.th (c.th u p.1) f = c.th (c.th u p.2) g
  rw [Cat.hom_as hI hu h1 (Cat.hom_self hf), Cat.hom_as hI hu h3 (Cat.hom_self hg), h2']⟩
theorem Cat.fork_go {c : Cat} (hI : c.Is) {f g : Nat} (hf : f < c.src.length) (hg : g < c.src.length) (e : c.S f = c.S g) : c.SpC (c.fork f g) := ⟨fun w z p u hp hu => by
  obtain ⟨h1, h2, h3⟩ := Cat.mem_spL.1 hp
  have h3' : p.2 = p.1 := h3
  refine Cat.mem_spL.2 ⟨Cat.hom_th hI.1 hu h1, decide_eq_true ?_, ?_⟩
  · have h2' : c.th p.1 f = c.th p.2 g := of_decide_eq_true h2
    show c.th (c.th u p.1) f = c.th (c.th u p.2) g
    have h1' : p.1 ∈ c.hom z (c.S g) := by rw [← e]; exact h1
    rw [Cat.hom_as hI hu h1 (Cat.hom_self hf), h2', h3', Cat.hom_as hI hu h1' (Cat.hom_self hg)]
  · show c.th u p.2 = c.th u p.1
    rw [h3']⟩
structure Cat.SpE (c : Cat) (s : Spn) : Prop where
  ex : ∃ z : Nat, (z : Int) < c.obj ∧ ∃ p ∈ c.spL s z, c.SpU s z p
theorem Cat.spE_swap {c : Cat} {s s' : Spn} (h : ∀ (w : Nat) (p : Int × Int), p ∈ c.spL s w ↔ (p.2, p.1) ∈ c.spL s' w) (hE : c.SpE s) : c.SpE s' := by
  obtain ⟨z, hz, p, hp, hU⟩ := hE.ex
  refine ⟨z, hz, (p.2, p.1), (h z p).1 hp, ⟨fun w hw q hq => ?_⟩⟩
  have := hU.all w hw (q.2, q.1) ((h w (q.2, q.1)).2 hq)
  rw [← this]
  unfold Cat.spN
  congr 1
  refine List.filter_congr fun u _ => decide_eq_decide.2 ?_
  unfold Cat.spM
  constructor
  · intro e
    have e1 := (Prod.mk.inj e)
    exact Prod.ext e1.2 e1.1
  · intro e
    have e1 := (Prod.mk.inj e)
    exact Prod.ext e1.2 e1.1
theorem Cat.prod_swap {c : Cat} {x y : Int} : c.SpE (.prod x y) ↔ c.SpE (.prod y x) := by
  have h : ∀ x y : Int, ∀ (w : Nat) (p : Int × Int), p ∈ c.spL (.prod x y) w → (p.2, p.1) ∈ c.spL (.prod y x) w := fun x y w p hp => by
    obtain ⟨h1, _, h3⟩ := Cat.mem_spL.1 hp
    exact Cat.mem_spL.2 ⟨h3, rfl, h1⟩
  exact ⟨Cat.spE_swap fun w p => ⟨h x y w p, h y x w (p.2, p.1)⟩, Cat.spE_swap fun w p => ⟨h y x w p, h x y w (p.2, p.1)⟩⟩
theorem Cat.pull_swap {c : Cat} {f g : Int} : c.SpE (c.pull f g) ↔ c.SpE (c.pull g f) := by
  have h : ∀ f g : Int, ∀ (w : Nat) (p : Int × Int), p ∈ c.spL (c.pull f g) w → (p.2, p.1) ∈ c.spL (c.pull g f) w := fun f g w p hp => by
    obtain ⟨h1, h2, h3⟩ := Cat.mem_spL.1 hp
    exact Cat.mem_spL.2 ⟨h3, decide_eq_true (of_decide_eq_true h2).symm, h1⟩
  exact ⟨Cat.spE_swap fun w p => ⟨h f g w p, h g f w (p.2, p.1)⟩, Cat.spE_swap fun w p => ⟨h g f w p, h f g w (p.2, p.1)⟩⟩
theorem Cat.fork_swap {c : Cat} {f g : Int} (e : c.S f = c.S g) : c.SpE (c.fork f g) ↔ c.SpE (c.fork g f) := by
  have h : ∀ f g : Int, c.S f = c.S g → ∀ (w : Nat) (p : Int × Int), p ∈ c.spL (c.fork f g) w → (p.2, p.1) ∈ c.spL (c.fork g f) w := fun f g e w p hp => by
    obtain ⟨h1, h2, h3⟩ := Cat.mem_spL.1 hp
    have h3' : p.2 = p.1 := h3
    have h1' : p.1 ∈ c.hom w (c.S f) := h1
    refine Cat.mem_spL.2 ⟨?_, decide_eq_true ?_, h3'.symm⟩
    · show p.2 ∈ c.hom w (c.S g)
      rw [h3', ← e]; exact h1'
    · exact (of_decide_eq_true h2).symm
  exact ⟨Cat.spE_swap fun w p => ⟨h f g e w p, h g f e.symm w (p.2, p.1)⟩, Cat.spE_swap fun w p => ⟨h g f e.symm w p, h f g e w (p.2, p.1)⟩⟩
noncomputable def Cat.mapsL (c : Cat) (s t : List Int) : List Int := (c.hom (s.getD 0 0) (t.getD 0 0)).filter fun u => B (∀ i : Nat, 1 ≤ i → i < s.length → c.th u (t.getD i 0) = s.getD i 0)
noncomputable def Cat.okL (c : Cat) (L : List (List Int)) (t : List Int) : Bool := B (∀ s ∈ L, (c.mapsL s t).length = 1)
noncomputable def Cat.firstL (c : Cat) (L : List (List Int)) : List Int := (L.find? (c.okL L)).getD []
def objsL (c : Cat) (F : Nat → List (List Int)) : List (List Int) := (List.range c.obj.toNat).flatMap F
def Cat.sqL (c : Cat) (s : Spn) : List (List Int) := objsL c fun z => (c.spL s z).map fun p => [(z : Int), p.1, p.2]
def Cat.fkL (c : Cat) (s : Spn) : List (List Int) := objsL c fun z => (c.spL s z).map fun p => [(z : Int), p.1]
theorem mem_objsL {c : Cat} {F : Nat → List (List Int)} {t : List Int} : t ∈ objsL c F ↔ ∃ z : Nat, (z : Int) < c.obj ∧ t ∈ F z := by
  unfold objsL
  rw [List.mem_flatMap]
  exact ⟨fun ⟨z, h1, h2⟩ => ⟨z, by have := List.mem_range.1 h1; omega, h2⟩, fun ⟨z, h1, h2⟩ => ⟨z, List.mem_range.2 (by omega), h2⟩⟩
theorem Cat.maps3 {c : Cat} {w z : Nat} {p q : Int × Int} : (c.mapsL [(w : Int), q.1, q.2] [(z : Int), p.1, p.2]).length = c.spN z p w q := by
  unfold Cat.mapsL Cat.spN
  congr 1
  refine List.filter_congr fun u _ => ?_
  by_cases h : c.spM p u = q
  · rw [decide_eq_true h]
    refine B_true fun i h1 h2 => ?_
    simp only [List.length_cons, List.length_nil] at h2
    rcases (by omega : i = 1 ∨ i = 2) with rfl | rfl
    · exact congrArg Prod.fst h
    · exact congrArg Prod.snd h
  · rw [decide_eq_false h]
    exact B_false fun q' => h (Prod.ext (q' 1 (by omega) (by simp)) (q' 2 (by omega) (by simp)))
theorem Cat.maps2 {c : Cat} {w z : Nat} {a b : Int} : (c.mapsL [(w : Int), b] [(z : Int), a]).length = c.spN z (a, a) w (b, b) := by
  unfold Cat.mapsL Cat.spN
  congr 1
  refine List.filter_congr fun u _ => ?_
  by_cases h : c.spM (a, a) u = (b, b)
  · rw [decide_eq_true h]
    refine B_true fun i h1 h2 => ?_
    simp only [List.length_cons, List.length_nil] at h2
    obtain rfl : i = 1 := by omega
    exact congrArg Prod.fst h
  · rw [decide_eq_false h]
    refine B_false fun q' => h ?_
    have := q' 1 (by omega) (by simp)
    exact Prod.ext this this
theorem find_ne {L : List (List Int)} {p : List Int → Bool} (hne : ∀ t ∈ L, t ≠ []) : (L.find? p).getD [] ≠ [] ↔ ∃ t ∈ L, p t = true := by
  cases e : L.find? p with
  | none =>
    rw [List.find?_eq_none] at e
    simp only [Option.getD_none, ne_eq, not_true, false_iff]
    rintro ⟨t, h1, h2⟩
    exact e t h1 h2
  | some t =>
    have h1 := List.mem_of_find?_eq_some e
    have h2 := List.find?_some e
    exact ⟨fun _ => ⟨t, h1, h2⟩, fun _ => hne t h1⟩
theorem Cat.sq_first {c : Cat} {s : Spn} : c.firstL (c.sqL s) ≠ [] ↔ c.SpE s := by
  refine (find_ne fun t ht => ?_).trans ⟨?_, ?_⟩
  · obtain ⟨z, _, h⟩ := mem_objsL.1 ht
    obtain ⟨p, _, rfl⟩ := List.mem_map.1 h
    exact List.cons_ne_nil _ _
  · rintro ⟨t, ht, hok⟩
    obtain ⟨z, hz, h⟩ := mem_objsL.1 ht
    obtain ⟨p, hp, rfl⟩ := List.mem_map.1 h
    refine ⟨z, hz, p, hp, ⟨fun w hw q hq => ?_⟩⟩
    rw [← Cat.maps3]
    exact B_iff.1 hok _ (mem_objsL.2 ⟨w, hw, List.mem_map.2 ⟨q, hq, rfl⟩⟩)
  · intro h
    obtain ⟨z, hz, p, hp, hU⟩ := h.ex
    refine ⟨_, mem_objsL.2 ⟨z, hz, List.mem_map.2 ⟨p, hp, rfl⟩⟩, B_true fun t ht => ?_⟩
    obtain ⟨w, hw, h2⟩ := mem_objsL.1 ht
    obtain ⟨q, hq, rfl⟩ := List.mem_map.1 h2
    rw [Cat.maps3]
    exact hU.all w hw q hq
theorem Cat.fk_first {c : Cat} {s : Spn} (ha : s.alone = true) : c.firstL (c.fkL s) ≠ [] ↔ c.SpE s := by
  have hpp : ∀ (w : Nat) (p : Int × Int), p ∈ c.spL s w → p = (p.1, p.1) := fun w p hp => by
    obtain ⟨_, _, h3⟩ := Cat.mem_spL.1 hp
    rw [if_pos ha] at h3
    exact Prod.ext rfl h3
  refine (find_ne fun t ht => ?_).trans ⟨?_, ?_⟩
  · obtain ⟨z, _, h⟩ := mem_objsL.1 ht
    obtain ⟨p, _, rfl⟩ := List.mem_map.1 h
    exact List.cons_ne_nil _ _
  · rintro ⟨t, ht, hok⟩
    obtain ⟨z, hz, h⟩ := mem_objsL.1 ht
    obtain ⟨p, hp, rfl⟩ := List.mem_map.1 h
    refine ⟨z, hz, p, hp, ⟨fun w hw q hq => ?_⟩⟩
    rw [hpp z p hp, hpp w q hq, ← Cat.maps2]
    exact B_iff.1 hok _ (mem_objsL.2 ⟨w, hw, List.mem_map.2 ⟨q, hq, rfl⟩⟩)
  · intro h
    obtain ⟨z, hz, p, hp, hU⟩ := h.ex
    refine ⟨_, mem_objsL.2 ⟨z, hz, List.mem_map.2 ⟨p, hp, rfl⟩⟩, B_true fun t ht => ?_⟩
    obtain ⟨w, hw, h2⟩ := mem_objsL.1 ht
    obtain ⟨q, hq, rfl⟩ := List.mem_map.1 h2
    have := hU.all w hw q hq
    rw [hpp z p hp, hpp w q hq, ← Cat.maps2] at this
    exact this
def Cat.fitB (c : Cat) (s t : List Int) (u : Int) : Bool := allN (s.length - 1) fun i => decide (c.th u (t.getD (i + 1) 0) = s.getD (i + 1) 0)
theorem Cat.mapsL_eq {c : Cat} {s t : List Int} : c.mapsL s t = (c.hom (s.getD 0 0) (t.getD 0 0)).filter (c.fitB s t) := by
  unfold Cat.mapsL Cat.fitB
  refine List.filter_congr fun u _ => ?_
  rw [Bool.eq_iff_iff, B_iff, allN_iff]
  constructor
  · intro h i hi
    exact decide_eq_true (h (i + 1) (by omega) (by omega))
  · intro h i h1 h2
    obtain ⟨k, rfl⟩ : ∃ k, i = k + 1 := ⟨i - 1, by omega⟩
    exact of_decide_eq_true (h k (by omega))
theorem mem_iff_getD {L : List (List Int)} {t : List Int} : t ∈ L ↔ ∃ k, k < L.length ∧ L.getD k [] = t := by
  rw [List.mem_iff_getElem]
  exact ⟨fun ⟨k, h, e⟩ => ⟨k, h, by simp [List.getD_eq_getElem?_getD, h, e]⟩, fun ⟨k, h, e⟩ => ⟨k, h, by simpa [List.getD_eq_getElem?_getD, h] using e⟩⟩
theorem Cat.okL_eq {c : Cat} {L : List (List Int)} {t : List Int} : c.okL L t = allN L.length fun k => decide ((c.mapsL (L.getD k []) t).length = 1) := by
  rw [Bool.eq_iff_iff, allN_iff]
  unfold Cat.okL
  rw [B_iff]
  exact ⟨fun h k hk => decide_eq_true (h _ (mem_iff_getD.2 ⟨k, hk, rfl⟩)), fun h s hs => by
    obtain ⟨k, hk, rfl⟩ := mem_iff_getD.1 hs
    exact of_decide_eq_true (h k hk)⟩
theorem find_getD {p : List Int → Bool} : ∀ {L : List (List Int)} {i : Nat}, i < L.length → (∀ j, j < i → p (L.getD j []) = false) → p (L.getD i []) = true → (L.find? p).getD [] = L.getD i []
  | [], _, h, _, _ => absurd h (Nat.not_lt_zero _)
  | a :: L, 0, _, _, hp => by
    have : p a = true := hp
    rw [List.find?_cons, this]; rfl
  | a :: L, i + 1, h, hb, hp => by
    have : p a = false := hb 0 (by omega)
    rw [List.find?_cons, this]
    exact find_getD (L := L) (i := i) (by simpa using h) (fun j hj => hb (j + 1) (by omega)) hp
theorem find_getD0 {p : List Int → Bool} {L : List (List Int)} (hb : ∀ j, j < L.length → p (L.getD j []) = false) : (L.find? p).getD [] = [] := by
  rw [List.find?_eq_none.2 fun t ht => by
    obtain ⟨k, hk, rfl⟩ := mem_iff_getD.1 ht
    rw [hb k hk]; exact Bool.false_ne_true]
  rfl
end Go.GL
namespace Go.GL
open Go.RowKit
def bmap (es : List (List Int)) : List (Value × Value) := es.map fun k => (kvT k, .bool true)
def insB (es : List (List Int)) (j : List Int) : List (List Int) := if j ∈ es then es else es ++ [j]
theorem findAsking_relB {P : Program} {k : TypeId} {n : Nat} (hk : KeyT P k n) {s : List Int} (hs : s.length = n) (w : World) : ∀ {E : List MapEntry} {es : List (List Int)} (_ : es.length = E.length) (_ : ∀ (i : Nat) (e : List Int), es[i]? = some e → e.length = n ∧ ∃ c : MapEntry, E[i]? = some c ∧ c.key = kvT e ∧ c.val = .bool true) (i : Nat),
    (∃ j, es[j]? = some s ∧ (Instr.findAsking k (kvT s) E i).run P w = .ok (some (i + j, .bool true)) w) ∨ (s ∉ es ∧ (Instr.findAsking k (kvT s) E i).run P w = .ok none w)
  | [], [], _, _, i => .inr ⟨by simp, by unfold Instr.findAsking; rfl⟩
  | [], _ :: _, hl, _, _ => by simp at hl
  | _ :: _, [], hl, _, _ => by simp at hl
  | c :: E, e :: es, hl, h, i => by
    obtain ⟨h0, c', h1, h2, h3⟩ := h 0 e rfl
    simp only [List.getElem?_cons_zero, Option.some.injEq] at h1
    subst h1
    have ih := findAsking_relB hk hs w (E := E) (es := es) (by simpa using hl) (fun i e' he => by simpa using h (i + 1) e' (by simpa using he)) (i + 1)
    unfold Instr.findAsking
    simp only [Sem.run_bind]
    rw [h2, hk.eq s e hs h0 w]
    simp only [Result.andThen_ok]
    by_cases hq : s = e
    · have hb : (s == e) = true := by simpa using hq
      rw [hb, if_pos rfl]
      exact .inl ⟨0, by rw [hq]; rfl, by rw [h3]; rfl⟩
    · have hb : (s == e) = false := by simpa using hq
      rw [hb, if_neg (by simp)]
      rcases ih with ⟨j, j1, j2⟩ | ⟨j1, j2⟩
      · exact .inl ⟨j + 1, by simpa using j1, by rw [j2, show i + 1 + j = i + (j + 1) by omega]⟩
      · exact .inr ⟨by simp [hq, j1], j2⟩
theorem findKeyB {P : Program} {k : TypeId} {n : Nat} (hk : KeyT P k n) {s : List Int} (hs : s.length = n) (w : World) {E : List MapEntry} {es : List (List Int)} (hl : es.length = E.length) (h : ∀ (i : Nat) (e : List Int), es[i]? = some e → e.length = n ∧ ∃ c : MapEntry, E[i]? = some c ∧ c.key = kvT e ∧ c.val = .bool true) :
    (∃ j, es[j]? = some s ∧ (Instr.findKey k (kvT s) E).run P w = .ok (some (j, .bool true)) w) ∨ (s ∉ es ∧ (Instr.findKey k (kvT s) E).run P w = .ok none w) := by
  obtain ⟨fs, hu⟩ := hk.st
  unfold Instr.findKey
  simp only [Sem.run_bind, run_underlying hu, Result.andThen_ok]
  match E, es, hl, h with
  | [], [], _, _ => exact .inr ⟨by simp, by unfold Instr.findNow; rfl⟩
  | c :: E, e :: es, hl, h =>
    obtain ⟨_, c', h1, h2, _⟩ := h 0 e rfl
    simp only [List.getElem?_cons_zero, Option.some.injEq] at h1
    subst h1
    have hn : Instr.findNow (.struct fs) (kvT s) (c :: E) 0 = none := by
      unfold Instr.findNow
      rw [h2]
      rfl
    rw [hn]
    have := findAsking_relB hk hs w hl h 0
    simpa only [Nat.zero_add] using this
theorem sameBits_kvT (s : List Int) : Instr.sameBits 10000 (kvT s) (kvT s) = true := by
  unfold kvT
  show ((s.map (Value.int .i64)).toArray.size == (s.map (Value.int .i64)).toArray.size && _) = true
  rw [beq_self_eq_true, Bool.true_and]
  rw [List.all_eq_true]
  intro p hp
  have h2 : ∀ (l : List Int) (p : Value × Value), p ∈ (l.map (Value.int .i64)).zip (l.map (Value.int .i64)) → ∃ x : Int, p = (.int .i64 x, .int .i64 x) := fun l => by
    induction l with
    | nil => intro p hp; simp at hp
    | cons a l ih =>
      intro p hp
      simp only [List.map_cons, List.zip_cons_cons, List.mem_cons] at hp
      rcases hp with rfl | hp
      · exact ⟨a, rfl⟩
      · exact ih p hp
  obtain ⟨x, rfl⟩ := h2 s p hp
  show (IntKind.i64 == IntKind.i64 && x == x) = true
  simp
section
variable {P : Program} {B : Nat} {w0 : World} {ρ : Place} {H : GHeap} {w : World} {fr : Slots} {o : Oper} {R : Option Value → GHeap → Prop}
theorem Sim.mrelB (hs : Sim P B w0 ρ H w) {g n : Nat} {es : List (List Int)} (hg : H.get g = some (.map (bmap es))) (hn : ∀ e ∈ es, e.length = n) {s : Spot} (hsp : ρ g = some s) : ∃ (E : Array MapEntry) (clock : Nat), w.heap[s.blk]? = some (.map E clock) ∧ es.length = E.size ∧ ∀ (i : Nat) (e : List Int), es[i]? = some e → e.length = n ∧ ∃ c : MapEntry, E[i]? = some c ∧ c.key = kvT e ∧ c.val = .bool true := by
  obtain ⟨s0, E, c0, k1, k2, _, k4, k5⟩ := hs.live _ _ hg
  rw [hsp] at k1
  cases k1
  refine ⟨E, c0, k2, by simpa [bmap] using k4, fun i e he => ⟨hn e (List.mem_of_getElem? he), ?_⟩⟩
  obtain ⟨c, h1, h2, h3⟩ := k5 i (kvT e) (.bool true) (by simp [bmap, he])
  exact ⟨c, h1, flatT_inv h2, h3.bool_inv⟩
theorem CDo.mapPutB {t kt e : TypeId} {m k x : Operand} {g n : Nat} {es : List (List Int)} {j : List Int} (ho : o.op = .mapUpdate t m k x) (ht : mapTT P t = some (kt, e)) (hkt : KeyT P kt n) (hm : ev fr m = some (.map (some g))) (hk : ev fr k = some (kvT j)) (hx : ev fr x = some (.bool true)) (hj : j.length = n) (hg : H.get g = some (.map (bmap es))) (hnn : ∀ e ∈ es, e.length = n) :
    CDo P o fr H (fun r H' => r = none ∧ St [g] H H' ∧ H'.get g = some (.map (bmap (insB es j)))) := .mk fun B w0 ρ a w hs hf next Q hn => by
  rw [ho] at hf
  obtain ⟨s, hsp, em⟩ := (ev_rel hf (x := m) (by simp [Op.operands]) hm).map_inv
  have ek := flatT_inv (ev_rel hf (x := k) (by simp [Op.operands]) hk)
  have ex := (ev_rel hf (x := x) (by simp [Op.operands]) hx).bool_inv
  have hu := mapTT_run ht
  obtain ⟨E, clock, hE, hr⟩ := hs.mrelB hg hnn hsp
  have hlt := (Array.getElem?_eq_some_iff.1 hE).1
  have kv : ∀ t : List Int, VRel ρ (kvT t) (kvT t) := fun t => by
    unfold kvT
    refine .agg rfl fun i h1 h2 => ?_
    simp only [List.getElem_toArray, List.getElem_map]
    exact .int _ _
  have at' : ∀ (i : Nat) (k' v' : Value), (bmap es)[i]? = some (k', v') → ∃ c : MapEntry, E[i]? = some c ∧ c.key = k' ∧ c.val = .bool true ∧ v' = .bool true ∧ ∃ t : List Int, es[i]? = some t ∧ k' = kvT t := fun i k' v' hi => by
    simp only [bmap, List.getElem?_map, Option.map_eq_some_iff] at hi
    obtain ⟨e1, he1, heq⟩ := hi
    cases heq
    obtain ⟨_, c, c1, c2, c3⟩ := hr.2 i e1 he1
    exact ⟨c, c1, c2, c3, rfl, e1, he1, rfl⟩
  rcases findKeyB hkt hj w (E := E.toList) (es := es) (by simpa using hr.1) (fun i e he => by simpa using hr.2 i e he) with ⟨q, q1, q2⟩ | ⟨q1, q2⟩
  · have hin : insB es j = es := by unfold insB; rw [if_pos (List.mem_of_getElem? q1)]
    obtain ⟨_, cq, cq1, cq2, cq3⟩ := hr.2 q j q1
    have hs' := hs.mapTurn hg hsp (w' := { w with heap := w.heap.setIfInBounds s.blk (.map (E.modify q fun e => { e with key := kvT j, val := .bool true }) clock) }) (es' := bmap es) (E := E.modify q fun e => { e with key := kvT j, val := .bool true }) (clock := clock)
      (by simp [hlt]) (by simp [bmap, hr.1]) (fun i k' v' hi => by
        obtain ⟨c, c1, c2, c3, rfl, t, t1, rfl⟩ := at' i k' v' hi
        by_cases hq : q = i
        · subst hq
          rw [q1] at t1
          cases t1
          refine ⟨{ c with key := kvT j, val := .bool true }, by rw [Array.getElem?_modify, if_pos rfl, c1]; rfl, kv _, .bool _⟩
        · exact ⟨c, by rw [Array.getElem?_modify, if_neg hq]; exact c1, by rw [c2]; exact kv _, by rw [c3]; exact .bool _⟩)
      (fun k' hk' => by simp [Array.getElem?_setIfInBounds_ne (Ne.symm hk')]) (by simp) rfl rfl rfl
    refine upon_skip (w' := { w with heap := w.heap.setIfInBounds s.blk (.map (E.modify q fun e => { e with key := kvT j, val := .bool true }) clock) }) ?_ (hn ρ none undef _ _ ⟨rfl, .of_set, by rw [hin]; exact GHeap.get_set_eq (GHeap.ltg hg)⟩ (.refl ρ) hs' fun y hy => by cases hy)
    unfold execOp
    simp only [ho, em, ek, ex]
    refine u_run' ?_
    have hks : (Instr.keyThatStays (kvT j) (kvT j)).run P w = .ok (kvT j) w := by
      unfold Instr.keyThatStays
      rw [if_pos (sameBits_kvT j)]
      rfl
    have hold : ((E[q]?).map (·.key)).getD (kvT j) = kvT j := by rw [cq1]; exact cq2
    simp [Instr.mapUpdate, run_underlying hu, MapKept.run_getObj_map hE, MapKept.run_setObj_map _ hE, hkt.ck _ j hj, q2, hold, hks, Result.andThen]
  · have hin : insB es j = es ++ [j] := by unfold insB; rw [if_neg q1]
    have hs' := hs.mapTurn hg hsp (w' := { w with heap := w.heap.setIfInBounds s.blk (.map (E.push { key := kvT j, val := .bool true, born := clock }) (clock + 1)) }) (es' := bmap (es ++ [j])) (E := E.push { key := kvT j, val := .bool true, born := clock }) (clock := clock + 1)
      (by simp [hlt]) (by simp [bmap, hr.1]) (fun i k' v' hi => by
        by_cases hil : i < es.length
        · have hi' : (bmap es)[i]? = some (k', v') := by
            simp only [bmap, List.map_append] at hi ⊢
            rw [List.getElem?_append_left (by simpa using hil)] at hi
            exact hi
          obtain ⟨c, c1, c2, c3, rfl, t, t1, rfl⟩ := at' i k' v' hi'
          exact ⟨c, by rw [Array.getElem?_push]; rw [if_neg (by have := hr.1; omega)]; exact c1, by rw [c2]; exact kv _, by rw [c3]; exact .bool _⟩
        · simp only [bmap, List.map_append, List.map_cons, List.map_nil] at hi
          rw [List.getElem?_append_right (by simpa using Nat.le_of_not_lt hil)] at hi
          simp only [List.length_map] at hi
          have hi0 : i - es.length = 0 := by
            cases hd : i - es.length with
            | zero => rfl
            | succ d => rw [hd] at hi; simp at hi
          rw [hi0] at hi
          simp only [List.getElem?_cons_zero, Option.some.injEq, Prod.mk.injEq] at hi
          obtain ⟨rfl, rfl⟩ := hi
          exact ⟨_, by rw [Array.getElem?_push, if_pos (by have := hr.1; omega)], kv _, .bool _⟩)
      (fun k' hk' => by simp [Array.getElem?_setIfInBounds_ne (Ne.symm hk')]) (by simp) rfl rfl rfl
    refine upon_skip (w' := { w with heap := w.heap.setIfInBounds s.blk (.map (E.push { key := kvT j, val := .bool true, born := clock }) (clock + 1)) }) ?_ (hn ρ none undef _ _ ⟨rfl, .of_set, by rw [hin]; exact GHeap.get_set_eq (GHeap.ltg hg)⟩ (.refl ρ) hs' fun y hy => by cases hy)
    unfold execOp
    simp only [ho, em, ek, ex]
    refine u_run' ?_
    simp [Instr.mapUpdate, run_underlying hu, MapKept.run_getObj_map hE, MapKept.run_setObj_map _ hE, hkt.ck _ j hj, q2, Result.andThen]
theorem CDo.lenMapB {t kt e : TypeId} {m : Operand} {g n : Nat} {es : List (List Int)} (ho : o.op = .call { callee := .builtin .len, args := #[m], argTypes := #[t] }) (ht : mapTT P t = some (kt, e)) (hm : ev fr m = some (.map (some g))) (hg : H.get g = some (.map (bmap es))) (hnn : ∀ e ∈ es, e.length = n)
    (h : R (some (.int .i64 (es.length : Int))) H) : CDo P o fr H R := .mk fun B w0 ρ a w hs hf next Q hn => by
  rw [ho] at hf
  obtain ⟨s, hsp, em⟩ := (ev_rel hf (x := m) (by simp [Op.operands, Call.operands]) hm).map_inv
  have hu := mapTT_run ht
  obtain ⟨E, clock, hE, hr⟩ := hs.mrelB hg hnn hsp
  have hrun : (Builtin.len_ #[t] o.type #[.map (some s.blk)]).run P w = .ok (.int .i64 (es.length : Int)) w := by
    simp [Builtin.len_, Sem.run_bind, run_underlying hu, MapKept.run_getObj_map hE, hr.1, goInt, Result.andThen]
  refine upon_value (c := .int .i64 (es.length : Int)) (w' := w) ?_ (hn ρ _ _ _ _ h (.refl ρ) hs fun y hy => ?_)
  · unfold execOp
    simp only [ho, resolve, invoke, builtin, Sem.run_bind, Sem.run_pure, Result.andThen_ok, List.map_toArray, List.map_cons, List.map_nil, em, hrun]
  · cases hy
    exact .int _ _
end
theorem insB_len {n : Nat} {es : List (List Int)} {j : List Int} (h : ∀ e ∈ es, e.length = n) (hj : j.length = n) : ∀ e ∈ insB es j, e.length = n := by
  unfold insB
  split
  · exact h
  · intro e he
    rcases List.mem_append.1 he with he | he
    · exact h e he
    · rw [List.mem_singleton.1 he]; exact hj
def setB (l : List (List Int)) : List (List Int) := l.foldl insB []
theorem setB_snoc (l : List (List Int)) (j : List Int) : setB (l ++ [j]) = insB (setB l) j := by
  unfold setB; rw [List.foldl_append]; rfl
theorem foldB_len : ∀ (l acc : List (List Int)), (l.foldl insB acc).length ≤ acc.length + l.length ∧ ((l.foldl insB acc).length = acc.length + l.length ↔ l.Nodup ∧ ∀ x ∈ l, x ∉ acc)
  | [], acc => ⟨Nat.le_refl _, by simp⟩
  | j :: l, acc => by
    have ih := foldB_len l (insB acc j)
    rw [List.foldl_cons, List.length_cons]
    by_cases h : j ∈ acc
    · have e : insB acc j = acc := by unfold insB; rw [if_pos h]
      rw [e] at ih ⊢
      refine ⟨by omega, ⟨fun q => by omega, fun q => absurd h (q.2 j (List.mem_cons_self ..))⟩⟩
    · have e : insB acc j = acc ++ [j] := by unfold insB; rw [if_neg h]
      rw [e] at ih ⊢
      rw [List.length_append, List.length_singleton] at ih
      refine ⟨by omega, ?_⟩
      rw [show acc.length + (l.length + 1) = acc.length + 1 + l.length by omega, ih.2, List.nodup_cons]
      constructor
      · rintro ⟨a1, a2⟩
        refine ⟨⟨fun q => (a2 j q) (List.mem_append.2 (.inr (List.mem_singleton.2 rfl))), a1⟩, fun x hx => ?_⟩
        rcases List.mem_cons.1 hx with rfl | hx
        · exact h
        · exact fun q => a2 x hx (List.mem_append.2 (.inl q))
      · rintro ⟨⟨a1, a2⟩, a3⟩
        refine ⟨a2, fun x hx q => ?_⟩
        rcases List.mem_append.1 q with q | q
        · exact a3 x (List.mem_cons_of_mem _ hx) q
        · rw [List.mem_singleton.1 q] at hx; exact a1 hx
theorem setB_len {l : List (List Int)} : (setB l).length = l.length ↔ l.Nodup := by
  have h := (foldB_len l []).2
  unfold setB
  rw [show l.length = ([] : List (List Int)).length + l.length by simp, h]
  exact ⟨fun q => q.1, fun q => ⟨q, fun _ _ q => by cases q⟩⟩
end Go.GL
namespace Go.Proofs.Ytjdedelneppnlaa
open Go Go.GL Go.RowKit Go.Proofs
set_option maxHeartbeats 4000000 in
theorem l13Maps_c {c : Cat} {p : CatP} {a b : Option Addr} {s t : List Int} {H : GHeap} (hin : c.In H p := by assumption) (hS : c.Shape := by assumption) (hx : Ints H a s) (hy : Ints H b t) (h1 : 1 ≤ s.length) (h2 : t.length = s.length) (hl : s.length ≤ 1000) (ht : ∀ i, 1 ≤ i → i < t.length → 0 ≤ t.getD i 0 ∧ t.getD i 0 < c.src.length) :
    GCalls Try.prog 128 [.agg (c.cells p).toArray, .slice a s.length s.length, .slice b t.length t.length] H (NewInts 2 H (c.mapsL s t)) := by
  rw [Cat.mapsL_eq]
  have q1 := hS.n40
  have q2 := Cat.hom_le c (s.getD 0 0) (t.getD 0 0)
  refine GCalls.body (N := 60) (rs := [.tmp 6]) Try.func128 rfl rfl rfl rfl (fun Qx hret hend => ?_)
  refine .fg [0, 1, 2] rfl ?_
  have hle := GHeap.Le.refl H
  have base_hin := hin
  have base_hx := hx
  have base_hy := hy
  refine .seq (fun K1 hK1 => .region ?_)
  refine .R rfl (.boxR rfl sz_29_D rfl) ?_
  rintro _ H3 ⟨g3, rfl, le3, ge3, at3⟩
  have nx_H3 := le3.1
  replace hle := hle.trans le3
  have lt_at3 := GHeap.ltg at3
  replace hin := base_hin.mono hle
  replace hx := base_hx.mono hle
  replace hy := base_hy.mono hle
  have hb3 : Cat.At _ g3 0 c p := ⟨Mem.of_get at3, hin⟩
  obtain ⟨c03, c13, c23, c33, c43, i13, i23, i33, i43⟩ := hb3.get
  have hm3 : MemN _ _ _ _ _ := ⟨rfl, hb3.1⟩
  have hi3 := hb3.2
  refine .mv rfl (.nil (hK1 _ _ (.seq (fun K2 hK2 => ?_))))
  refine .regionD mo_B (.q 0 (.q 1 (.q 2 (.q 3 (.q 4 (.q 5 (.q 6 (.or (.c 7 0 (.q 9 (.c 8 1 (.q 10 (.done))))) (.c 8 1 (.c 7 1 (.q 9 (.q 10 (.done))))))))))))) (by kernel_rfl) ?_
  refine .cut [(0, some _), (1, some _), (2, some _), (3, some _), (6, some _)] ⟨rfl, rfl, rfl, rfl, rfl, trivial⟩ (fun rest fr' H' => ∃ (gH : Nat) (gO : Nat), Sub ((7, some (.slice (some ⟨gH, 0, none⟩) (c.hom (s.getD 0 0) (t.getD 0 0)).length (c.hom (s.getD 0 0) (t.getD 0 0)).length)) :: (8, some (.slice (some ⟨gO, 0, none⟩) 0 0)) :: rest) fr' ∧ H3.Le H' ∧ H'.get gH = some (.row (ints (c.hom (s.getD 0 0) (t.getD 0 0))) 2 true) ∧ H3.next ≤ gH ∧ H'.get gO = some (.row (ints []) 2 true) ∧ H3.next ≤ gO ∧ gH ≠ gO) ?_ ?_
  ·
   have hf0 := St.refl [] H3
   refine .q rfl (.loadM ag_29_D rfl ⟨rfl, Mem.of_get at3⟩) ?_
   refine .qB rfl (.refl _) (.move rfl) ?_
   refine .q rfl (.idxN (j := 0) sl_22_A (by assumption) rfl rfl (by omega)) ?_
   refine .q rfl (.loadI on_2_A (by assumption) rfl (by omega)) ?_
   refine .qB rfl (.refl _) (.move rfl) ?_
   refine .q rfl (.idxN (j := 0) sl_22_A (by assumption) rfl rfl (by omega)) ?_
   refine .q rfl (.loadI on_2_A (by assumption) rfl (by omega)) ?_
   refine .orI ?_ ?_
   ·
    refine .call0 rfl rfl rfl rfl rfl @Try.call127 rfl (l02Hom_c) ?_
    rintro _ H19 ⟨le19, g19, rfl, at19, ge19⟩
    have nx_H19 := le19.1
    replace hle := hle.trans le19
    replace hf0 := hf0.le le19
    replace at3 := le19.2 _ _ at3
    have lt_at19 := GHeap.ltg at19
    replace hin := base_hin.mono hle
    replace hx := base_hx.mono hle
    replace hy := base_hy.mono hle
    clear hb3 c03 c13 c23 c33 c43 i13 i23 i33 i43 hm3 hi3
    have hb3 : Cat.At _ g3 0 c p := ⟨Mem.of_get at3, hin⟩
    obtain ⟨c03, c13, c23, c33, c43, i13, i23, i33, i43⟩ := hb3.get
    have hm3 : MemN _ _ _ _ _ := ⟨rfl, hb3.1⟩
    have hi3 := hb3.2
    have i19 := Ints.of_get at19
    refine .qB rfl (.refl _) (.assign rfl) ?_
    refine .c1 rfl rfl rfl rfl (.litA rfl sl_22_A ze_2_E rfl rfl rfl rfl) ?_
    rintro _ H20 ⟨g20, rfl, le20, ge20, at20⟩
    have hbl := le20
    refine ⟨hbl, ?_⟩
    have nx_H20 := le20.1
    replace hle := hle.trans le20
    replace hf0 := hf0.le le20
    replace at3 := le20.2 _ _ at3
    replace at19 := le20.2 _ _ at19
    have lt_at20 := GHeap.ltg at20
    replace hin := base_hin.mono hle
    replace hx := base_hx.mono hle
    replace hy := base_hy.mono hle
    clear hb3 c03 c13 c23 c33 c43 i13 i23 i33 i43 hm3 hi3
    have hb3 : Cat.At _ g3 0 c p := ⟨Mem.of_get at3, hin⟩
    obtain ⟨c03, c13, c23, c33, c43, i13, i23, i33, i43⟩ := hb3.get
    have hm3 : MemN _ _ _ _ _ := ⟨rfl, hb3.1⟩
    have hi3 := hb3.2
    clear i19
    have i19 := Ints.of_get at19
    replace at20 : GHeap.get H20 g20 = some (.row (ints []) 2 true) := at20
    refine .qB rfl hbl (.assign rfl) ?_
    refine .done ?_
    exact ⟨_, _, ⟨rfl, rfl, rfl, rfl, rfl, rfl, rfl, trivial⟩, ⟨hf0.nx, fun k o h => hf0.same k o trivial h⟩, by assumption, by omega, by assumption, by omega, by omega⟩
   refine .c1 rfl rfl rfl rfl (.litA rfl sl_22_A ze_2_E rfl rfl rfl rfl) ?_
   rintro _ H20x2 ⟨g20x2, rfl, le20x2, ge20x2, at20x2⟩
   have hbl := le20x2
   refine ⟨hbl, ?_⟩
   have nx_H20x2 := le20x2.1
   replace hle := hle.trans le20x2
   replace hf0 := hf0.le le20x2
   replace at3 := le20x2.2 _ _ at3
   have lt_at20x2 := GHeap.ltg at20x2
   replace hin := base_hin.mono hle
   replace hx := base_hx.mono hle
   replace hy := base_hy.mono hle
   clear hb3 c03 c13 c23 c33 c43 i13 i23 i33 i43 hm3 hi3
   have hb3 : Cat.At _ g3 0 c p := ⟨Mem.of_get at3, hin⟩
   obtain ⟨c03, c13, c23, c33, c43, i13, i23, i33, i43⟩ := hb3.get
   have hm3 : MemN _ _ _ _ _ := ⟨rfl, hb3.1⟩
   have hi3 := hb3.2
   replace at20x2 : GHeap.get H20x2 g20x2 = some (.row (ints []) 2 true) := at20x2
   refine .call1 rfl rfl rfl rfl rfl @Try.call127 rfl (l02Hom_c) ?_
   rintro _ H19x2 ⟨le19x2, g19x2, rfl, at19x2, ge19x2⟩
   replace hbl := hbl.trans le19x2
   refine ⟨hbl, ?_⟩
   have nx_H19x2 := le19x2.1
   replace hle := hle.trans le19x2
   replace hf0 := hf0.le le19x2
   replace at3 := le19x2.2 _ _ at3
   replace at20x2 := le19x2.2 _ _ at20x2
   have lt_at19x2 := GHeap.ltg at19x2
   replace hin := base_hin.mono hle
   replace hx := base_hx.mono hle
   replace hy := base_hy.mono hle
   clear hb3 c03 c13 c23 c33 c43 i13 i23 i33 i43 hm3 hi3
   have hb3 : Cat.At _ g3 0 c p := ⟨Mem.of_get at3, hin⟩
   obtain ⟨c03, c13, c23, c33, c43, i13, i23, i33, i43⟩ := hb3.get
   have hm3 : MemN _ _ _ _ _ := ⟨rfl, hb3.1⟩
   have hi3 := hb3.2
   have i19x2 := Ints.of_get at19x2
   refine .qB rfl hbl (.assign rfl) (.qB rfl hbl (.assign rfl) ?_)
   refine .done ?_
   exact ⟨_, _, ⟨rfl, rfl, rfl, rfl, rfl, rfl, rfl, trivial⟩, ⟨hf0.nx, fun k o h => hf0.same k o trivial h⟩, by assumption, by omega, by assumption, by omega, by omega⟩
  rintro fr901 H901 ⟨gH1, gO1, hsub901, le901, atH, geH, at901, ge901, neHO⟩
  have nx_H901 := le901.1
  replace hle := hle.trans le901
  replace at3 := le901.2 _ _ at3
  have lt_atH := GHeap.ltg atH
  have lt_at901 := GHeap.ltg at901
  replace hin := base_hin.mono hle
  replace hx := base_hx.mono hle
  replace hy := base_hy.mono hle
  clear hb3 c03 c13 c23 c33 c43 i13 i23 i33 i43 hm3 hi3
  have hb3 : Cat.At _ g3 0 c p := ⟨Mem.of_get at3, hin⟩
  obtain ⟨c03, c13, c23, c33, c43, i13, i23, i33, i43⟩ := hb3.get
  have hm3 : MemN _ _ _ _ _ := ⟨rfl, hb3.1⟩
  have hi3 := hb3.2
  refine hK2 _ _ ?_
  refine .forget hsub901 ?_
  refine .seq (fun K3 hK3 => .seq (fun K4 hK4 => .region (.mv rfl (.nil (hK4 _ _ ?_)))))
  refine .block ?_
  refine .loopR (σ := Nat × Nat × Nat) [(1, some _), (2, some _), (3, some _), (7, some _)] (fun (k, gL8, nL8) => [(9, some (.int .i64 (k : Int))), (8, some (.slice (some ⟨gL8, 0, none⟩) nL8 nL8))]) (fun (k, gL8, nL8) H' => St [gO1] H901 H' ∧ H'.get gL8 = some (.row (ints (((c.hom (s.getD 0 0) (t.getD 0 0)).take k).filter (c.fitB s t))) 2 true) ∧ (gL8 = gO1 ∨ H901.next ≤ gL8) ∧ nL8 = (((c.hom (s.getD 0 0) (t.getD 0 0)).take k).filter (c.fitB s t)).length ∧ k ≤ (c.hom (s.getD 0 0) (t.getD 0 0)).length) (fun (k, gL8, nL8) => (c.hom (s.getD 0 0) (t.getD 0 0)).length - k) ((0, _, _)) ⟨rfl, rfl, rfl, rfl, trivial⟩ ⟨rfl, rfl, trivial⟩ ?_ ?_
  ·
   refine ⟨.refl _ _, by first | assumption | exact at901 | simpa using at901, .inl rfl, by first | rfl | assumption | simp | omega, ?_⟩
   omega
  rintro ⟨k, gL8, nL8⟩ HL1 ⟨lst1, at_L8, pl_L8, ln_L8, hI⟩ KL1 hKL1
  refine .forget (fr' := [(9, some (.int .i64 (k : Int))), (8, some (.slice (some ⟨gL8, 0, none⟩) nL8 nL8)), (1, some _), (2, some _), (3, some _), (7, some _)]) ⟨rfl, rfl, rfl, rfl, rfl, rfl, trivial⟩ ?_
  have ge_L8 : H.next ≤ gL8 := by omega
  have nx_HL1 := lst1.nx
  replace hle := hle.st lst1 (fun k hk => ⟨by omega, trivial⟩)
  replace at3 := lst1.s at3
  replace atH := lst1.s atH
  have lt_at_L8 := GHeap.ltg at_L8
  replace hin := base_hin.mono hle
  replace hx := base_hx.mono hle
  replace hy := base_hy.mono hle
  clear hb3 c03 c13 c23 c33 c43 i13 i23 i33 i43 hm3 hi3
  have hb3 : Cat.At _ g3 0 c p := ⟨Mem.of_get at3, hin⟩
  obtain ⟨c03, c13, c23, c33, c43, i13, i23, i33, i43⟩ := hb3.get
  have hm3 : MemN _ _ _ _ _ := ⟨rfl, hb3.1⟩
  have hi3 := hb3.2
  have hfl := filt_le (c.hom (s.getD 0 0) (t.getD 0 0)) (c.fitB s t) k
  refine .seq (fun K5 hK5 => .seq (fun K6 hK6 => .region (.mv rfl (.mv rfl (.q rfl (.len sl_22_A rfl) (.q rfl (.cmp rfl rfl rfl) (.nil (hK6 _ _ ?_))))))))
  refine .cond rfl (fun h24 => ?_) (fun h24 => ?_)
  ·
   simp only [sps] at h24
   obtain ⟨u, u1, u2, u3, u4⟩ := Cat.hom_get (c := c) (x := s.getD 0 0) (y := t.getD 0 0) (i := k) (by omega)
   refine .skip ?_
   refine hK5 _ _ (.seq (fun K7 hK7 => ?_))
   refine .block ?_
   refine .seq (fun K8 hK8 => .region (.mv rfl (.nil (hK8 _ _ (.seq (fun K9 hK9 => .seq (fun K10 hK10 => .region (.mv rfl (.nil (hK10 _ _ ?_))))))))))
   refine .block ?_
   refine .loopR (σ := Nat × Bool) [(1, some _), (2, some _), (3, some _), (7, some _), (8, some _), (9, some _)] (fun (i, e) => [(11, some (.int .i64 (i : Int))), (10, some (.bool e))]) (fun (i, e) H' => St [] HL1 H' ∧ (1 ≤ i ∧ i ≤ s.length) ∧ e = allN (i - 1) fun i => decide (c.th ((c.hom (s.getD 0 0) (t.getD 0 0)).getD k 0) (t.getD (i + 1) 0) = s.getD (i + 1) 0)) (fun (i, e) => s.length - i) ((1, true)) ⟨rfl, rfl, rfl, rfl, rfl, rfl, trivial⟩ ⟨rfl, rfl, trivial⟩ ?_ ?_
   ·
    refine ⟨.refl _ _, ?_⟩
    exact ⟨⟨by omega, by omega⟩, rfl⟩
   rintro ⟨i, e⟩ HL2 ⟨lst2, hI⟩ KL2 hKL2
   refine .forget (fr' := [(11, some (.int .i64 (i : Int))), (10, some (.bool e)), (1, some _), (2, some _), (3, some _), (7, some _), (8, some _), (9, some _)]) ⟨rfl, rfl, rfl, rfl, rfl, rfl, rfl, rfl, trivial⟩ ?_
   have nx_HL2 := lst2.nx
   replace hle := hle.st lst2 (fun k hk => trivial)
   replace lst1 := lst1.sA lst2
   replace at3 := lst2.same _ _ trivial at3
   replace atH := lst2.same _ _ trivial atH
   replace at_L8 := lst2.same _ _ trivial at_L8
   replace hin := base_hin.mono hle
   replace hx := base_hx.mono hle
   replace hy := base_hy.mono hle
   clear hb3 c03 c13 c23 c33 c43 i13 i23 i33 i43 hm3 hi3
   have hb3 : Cat.At _ g3 0 c p := ⟨Mem.of_get at3, hin⟩
   obtain ⟨c03, c13, c23, c33, c43, i13, i23, i33, i43⟩ := hb3.get
   have hm3 : MemN _ _ _ _ _ := ⟨rfl, hb3.1⟩
   have hi3 := hb3.2
   obtain ⟨hi, he⟩ := hI
   refine .seq (fun K11 hK11 => .seq (fun K12 hK12 => .region (.mv rfl (.mv rfl ?_))))
   refine .split (fun h28 => ?_) (fun h28 => ?_)
   ·
    try simp only [sps] at h28
    refine .qg rfl (.move rfl) (.qg rfl (.move rfl) (.qg rfl (.len sl_22_A rfl) (.qg rfl (.cmp rfl rfl rfl) (.q rfl (.pickT rfl rfl) (.nil (hK12 _ _ ?_))))))
    refine .cond rfl (fun h33 => ?_) (fun h33 => ?_)
    ·
     try simp only [sps] at h33
     refine .skip ?_
     refine hK11 _ _ (.seq (fun K13 hK13 => ?_))
     refine .block ?_
     refine .regionD mo_B (.q 0 (.q 1 (.q 2 (.q 3 (.q 4 (.q 5 (.q 6 (.q 7 (.q 8 (.q 10 (.q 11 (.q 12 (.q 13 (.c 9 1 (.q 14 (.q 15 (.done))))))))))))))))) (by kernel_rfl) ?_
     have ht1 := ht i (by omega) (by omega)
     refine .q rfl (.loadM ag_29_D rfl ⟨rfl, Mem.of_get at3⟩) ?_
     refine .mv rfl rfl (.mv rfl rfl ?_)
     refine .q rfl (.idxN sl_22_A (by first | assumption | exact SlA.of_row atH (by first | rfl | (simp; done) | (simp <;> omega))) rfl rfl (by omega)) ?_
     refine .q rfl (.loadI on_2_A (by first | assumption | exact Ints.of_get atH) rfl (by omega)) ?_
     refine .mv rfl rfl (.mv rfl rfl ?_)
     refine .q rfl (.idxN sl_22_A (by assumption) rfl rfl (by omega)) ?_
     refine .q rfl (.loadI on_2_A (by assumption) rfl (by omega)) ?_
     refine .mv rfl rfl (.mv rfl rfl ?_)
     refine .q rfl (.idxN sl_22_A (by assumption) rfl rfl (by omega)) ?_
     refine .q rfl (.loadI on_2_A (by assumption) rfl (by omega)) ?_
     refine .callQ1 rfl rfl rfl rfl rfl @Try.call129 rfl (l02Then_c) (.refl _) ?_
     refine .q rfl (.cmp rfl rfl rfl) (.mv rfl rfl ?_)
     refine .done ?_
     refine hK13 _ _ (.region (.mv rfl ?_))
     refine .q rfl (.add rfl rfl rfl (by omega) (by omega)) ?_
     refine .mv rfl (.nil ?_)
     refine hKL2 ((i + 1, _)) _ _ ?_ ?_ ⟨rfl, rfl, rfl, rfl, rfl, rfl, rfl, rfl, trivial⟩
     ·
      refine ⟨lst2, ?_⟩
      refine ⟨⟨by omega, by omega⟩, ?_⟩
      obtain ⟨m, rfl⟩ : ∃ m, i = m + 1 := ⟨i - 1, by omega⟩
      rw [show m + 1 + 1 - 1 = m + 1 by omega, allN_succ, show allN m _ = true from (he.symm.trans h28), Bool.true_and]
      rw [Bool.eq_iff_iff]
      simp only [sps]
     (dsimp only; omega)
    try simp only [sps] at h33
    refine .exit ?_
    refine hK9 _ _ (.seq (fun K14 hK14 => .region (.mv rfl (.nil (hK14 _ _ ?_)))))
    refine .cond rfl (fun h51 => ?_) (fun h51 => ?_)
    ·
     have hT : c.fitB s t ((c.hom (s.getD 0 0) (t.getD 0 0)).getD k 0) = true := by
       obtain rfl : i = s.length := by first | omega | (rw [h51] at h28; cases h28)
       exact he.symm.trans h51
     refine .region (.mv rfl (.mv rfl (.mv rfl ?_)))
     refine .q rfl (.idxN sl_22_A (by first | assumption | exact SlA.of_row atH (by first | rfl | (simp; done) | (simp <;> omega))) rfl rfl (by omega)) ?_
     refine .q rfl (.loadI on_2_A (by first | assumption | exact Ints.of_get atH) rfl (by omega)) ?_
     refine .R rfl (.litA rfl sl_22_A ze_2_E rfl rfl rfl rfl) ?_
     rintro _ H57 ⟨g57, rfl, le57, ge57, at57⟩
     have nx_H57 := le57.1
     replace hle := hle.trans le57
     replace lst1 := lst1.le le57
     replace at3 := le57.2 _ _ at3
     replace atH := le57.2 _ _ atH
     replace at_L8 := le57.2 _ _ at_L8
     have lt_at57 := GHeap.ltg at57
     replace hin := base_hin.mono hle
     replace hx := base_hx.mono hle
     replace hy := base_hy.mono hle
     clear hb3 c03 c13 c23 c33 c43 i13 i23 i33 i43 hm3 hi3
     have hb3 : Cat.At _ g3 0 c p := ⟨Mem.of_get at3, hin⟩
     obtain ⟨c03, c13, c23, c33, c43, i13, i23, i33, i43⟩ := hb3.get
     have hm3 : MemN _ _ _ _ _ := ⟨rfl, hb3.1⟩
     have hi3 := hb3.2
     refine .R rfl (.appendI rfl sl_22_A ze_2_E rfl by_2_E sl_22_A rfl rfl (by assumption) (by assumption) (by first | omega | (simp <;> omega)) (by omega) (by omega)) ?_
     rintro _ H58 ⟨g58, rfl, st58, ge58, at58⟩
     have nx_H58 := st58.nx
     replace hle := hle.st st58 (fun k hk => ⟨by omega, trivial⟩)
     replace lst1 := lst1.sA st58
     have ne_g3_gL8 : NE g3 gL8 := .a
     replace at3 := st58.s at3 ne_g3_gL8.ne
     have ne_gH1_gL8 : NE gH1 gL8 := .a
     replace atH := st58.s atH ne_gH1_gL8.ne
     replace at57 := st58.s at57
     have lt_at58 := GHeap.ltg at58
     replace hin := base_hin.mono hle
     replace hx := base_hx.mono hle
     replace hy := base_hy.mono hle
     clear hb3 c03 c13 c23 c33 c43 i13 i23 i33 i43 hm3 hi3
     have hb3 : Cat.At _ g3 0 c p := ⟨Mem.of_get at3, hin⟩
     obtain ⟨c03, c13, c23, c33, c43, i13, i23, i33, i43⟩ := hb3.get
     have hm3 : MemN _ _ _ _ _ := ⟨rfl, hb3.1⟩
     have hi3 := hb3.2
     refine .mv rfl (.nil (hK7 _ _ (.region (.mv rfl ?_))))
     refine .q rfl (.add rfl rfl rfl (by omega) (by omega)) ?_
     refine .mv rfl (.nil ?_)
     refine hKL1 ((k + 1, _, _)) _ _ ?_ ?_ ⟨rfl, rfl, rfl, rfl, rfl, rfl, trivial⟩
     ·
      refine ⟨lst1, by first | assumption | (rw [filt_T (by omega) (by assumption)]; assumption) | (rw [filt_F (by omega) (by assumption)]; assumption), by omega, by first | omega | (simp only [List.length_append, List.length_cons, List.length_nil] <;> omega) | (rw [filt_T (by omega) (by assumption)] <;> (first | omega | (simp only [List.length_append, List.length_cons, List.length_nil] <;> omega))) | (rw [filt_F (by omega) (by assumption)] <;> (first | omega | (simp only [List.length_append, List.length_cons, List.length_nil] <;> omega))), ?_⟩
      omega
     (dsimp only; omega)
    have hF : c.fitB s t ((c.hom (s.getD 0 0) (t.getD 0 0)).getD k 0) = false := allN_early (he.symm.trans h51) (by omega)
    refine .skip ?_
    refine hK7 _ _ (.region (.mv rfl ?_))
    refine .q rfl (.add rfl rfl rfl (by omega) (by omega)) ?_
    refine .mv rfl (.nil ?_)
    refine hKL1 ((k + 1, _, _)) _ _ ?_ ?_ ⟨rfl, rfl, rfl, rfl, rfl, rfl, trivial⟩
    ·
     refine ⟨lst1, by first | assumption | (rw [filt_T (by omega) (by assumption)]; assumption) | (rw [filt_F (by omega) (by assumption)]; assumption), by omega, by first | omega | (simp only [List.length_append, List.length_cons, List.length_nil] <;> omega) | (rw [filt_T (by omega) (by assumption)] <;> (first | omega | (simp only [List.length_append, List.length_cons, List.length_nil] <;> omega))) | (rw [filt_F (by omega) (by assumption)] <;> (first | omega | (simp only [List.length_append, List.length_cons, List.length_nil] <;> omega))), ?_⟩
     omega
    (dsimp only; omega)
   try simp only [sps] at h28
   refine .z rfl (.z rfl (.z rfl (.z rfl (.q rfl (.pickF rfl rfl) (.nil (hK12 _ _ ?_))))))
   refine .condF rfl ?_
   refine .exit ?_
   refine hK9 _ _ (.seq (fun K15 hK15 => .region (.mv rfl (.nil (hK15 _ _ ?_)))))
   refine .cond rfl (fun h51 => ?_) (fun h51 => ?_)
   ·
    have hT : c.fitB s t ((c.hom (s.getD 0 0) (t.getD 0 0)).getD k 0) = true := by
      obtain rfl : i = s.length := by first | omega | (rw [h51] at h28; cases h28)
      exact he.symm.trans h51
    refine .region (.mv rfl (.mv rfl (.mv rfl ?_)))
    refine .q rfl (.idxN sl_22_A (by first | assumption | exact SlA.of_row atH (by first | rfl | (simp; done) | (simp <;> omega))) rfl rfl (by omega)) ?_
    refine .q rfl (.loadI on_2_A (by first | assumption | exact Ints.of_get atH) rfl (by omega)) ?_
    refine .R rfl (.litA rfl sl_22_A ze_2_E rfl rfl rfl rfl) ?_
    rintro _ H57x2 ⟨g57x2, rfl, le57x2, ge57x2, at57x2⟩
    have nx_H57x2 := le57x2.1
    replace hle := hle.trans le57x2
    replace lst1 := lst1.le le57x2
    replace at3 := le57x2.2 _ _ at3
    replace atH := le57x2.2 _ _ atH
    replace at_L8 := le57x2.2 _ _ at_L8
    have lt_at57x2 := GHeap.ltg at57x2
    replace hin := base_hin.mono hle
    replace hx := base_hx.mono hle
    replace hy := base_hy.mono hle
    clear hb3 c03 c13 c23 c33 c43 i13 i23 i33 i43 hm3 hi3
    have hb3 : Cat.At _ g3 0 c p := ⟨Mem.of_get at3, hin⟩
    obtain ⟨c03, c13, c23, c33, c43, i13, i23, i33, i43⟩ := hb3.get
    have hm3 : MemN _ _ _ _ _ := ⟨rfl, hb3.1⟩
    have hi3 := hb3.2
    refine .R rfl (.appendI rfl sl_22_A ze_2_E rfl by_2_E sl_22_A rfl rfl (by assumption) (by assumption) (by first | omega | (simp <;> omega)) (by omega) (by omega)) ?_
    rintro _ H58x2 ⟨g58x2, rfl, st58x2, ge58x2, at58x2⟩
    have nx_H58x2 := st58x2.nx
    replace hle := hle.st st58x2 (fun k hk => ⟨by omega, trivial⟩)
    replace lst1 := lst1.sA st58x2
    have ne_g3_gL8 : NE g3 gL8 := .a
    replace at3 := st58x2.s at3 ne_g3_gL8.ne
    have ne_gH1_gL8 : NE gH1 gL8 := .a
    replace atH := st58x2.s atH ne_gH1_gL8.ne
    replace at57x2 := st58x2.s at57x2
    have lt_at58x2 := GHeap.ltg at58x2
    replace hin := base_hin.mono hle
    replace hx := base_hx.mono hle
    replace hy := base_hy.mono hle
    clear hb3 c03 c13 c23 c33 c43 i13 i23 i33 i43 hm3 hi3
    have hb3 : Cat.At _ g3 0 c p := ⟨Mem.of_get at3, hin⟩
    obtain ⟨c03, c13, c23, c33, c43, i13, i23, i33, i43⟩ := hb3.get
    have hm3 : MemN _ _ _ _ _ := ⟨rfl, hb3.1⟩
    have hi3 := hb3.2
    refine .mv rfl (.nil (hK7 _ _ (.region (.mv rfl ?_))))
    refine .q rfl (.add rfl rfl rfl (by omega) (by omega)) ?_
    refine .mv rfl (.nil ?_)
    refine hKL1 ((k + 1, _, _)) _ _ ?_ ?_ ⟨rfl, rfl, rfl, rfl, rfl, rfl, trivial⟩
    ·
     refine ⟨lst1, by first | assumption | (rw [filt_T (by omega) (by assumption)]; assumption) | (rw [filt_F (by omega) (by assumption)]; assumption), by omega, by first | omega | (simp only [List.length_append, List.length_cons, List.length_nil] <;> omega) | (rw [filt_T (by omega) (by assumption)] <;> (first | omega | (simp only [List.length_append, List.length_cons, List.length_nil] <;> omega))) | (rw [filt_F (by omega) (by assumption)] <;> (first | omega | (simp only [List.length_append, List.length_cons, List.length_nil] <;> omega))), ?_⟩
     omega
    (dsimp only; omega)
   have hF : c.fitB s t ((c.hom (s.getD 0 0) (t.getD 0 0)).getD k 0) = false := allN_early (he.symm.trans h51) (by omega)
   refine .skip ?_
   refine hK7 _ _ (.region (.mv rfl ?_))
   refine .q rfl (.add rfl rfl rfl (by omega) (by omega)) ?_
   refine .mv rfl (.nil ?_)
   refine hKL1 ((k + 1, _, _)) _ _ ?_ ?_ ⟨rfl, rfl, rfl, rfl, rfl, rfl, trivial⟩
   ·
    refine ⟨lst1, by first | assumption | (rw [filt_T (by omega) (by assumption)]; assumption) | (rw [filt_F (by omega) (by assumption)]; assumption), by omega, by first | omega | (simp only [List.length_append, List.length_cons, List.length_nil] <;> omega) | (rw [filt_T (by omega) (by assumption)] <;> (first | omega | (simp only [List.length_append, List.length_cons, List.length_nil] <;> omega))) | (rw [filt_F (by omega) (by assumption)] <;> (first | omega | (simp only [List.length_append, List.length_cons, List.length_nil] <;> omega))), ?_⟩
    omega
   (dsimp only; omega)
  try simp only [sps] at h24
  refine .exit ?_
  refine hK3 _ _ (.seq (fun K16 hK16 => .region (.mv rfl (.mv rfl (.nil (hK16 _ _ ?_))))))
  refine .ret ?_
  refine hret _ _ ?_
  refine ⟨_, rfl, ?_⟩
  obtain rfl : k = (c.hom (s.getD 0 0) (t.getD 0 0)).length := by omega
  obtain rfl := ln_L8
  rw [List.take_length] at at_L8
  rw [List.take_length]
  exact ⟨hle, gL8, rfl, at_L8, by omega⟩
set_option maxHeartbeats 4000000 in
theorem l13First_c {c : Cat} {p : CatP} {b : Option Addr} {r : Nat → Option Addr} {L : List (List Int)} {m : Nat} {H : GHeap} (hin : c.In H p := by assumption) (hS : c.Shape := by assumption) (hL : Intss H b L r) (hl : L.length ≤ 1048576) (hm : 1 ≤ m ∧ m ≤ 1000) (hr : ∀ k, k < L.length → (L.getD k []).length = m ∧ ∀ i, 1 ≤ i → i < m → 0 ≤ (L.getD k []).getD i 0 ∧ (L.getD k []).getD i 0 < c.src.length) :
    GCalls Try.prog 90 [.agg (c.cells p).toArray, .slice b L.length L.length] H (fun v H' => H.Le H' ∧ ∃ a, v = .slice a (c.firstL L).length (c.firstL L).length ∧ Ints H' a (c.firstL L)) := by
  refine GCalls.body (N := 41) (rs := [.tmp 4]) Try.func90 rfl rfl rfl rfl (fun Qx hret hend => ?_)
  refine .fg [0, 1] rfl ?_
  have hle := GHeap.Le.refl H
  have base_hin := hin
  have base_hL := hL
  refine .seq (fun K1 hK1 => .region ?_)
  refine .R rfl (.boxR rfl sz_29_D rfl) ?_
  rintro _ H2 ⟨g2, rfl, le2, ge2, at2⟩
  have nx_H2 := le2.1
  replace hle := hle.trans le2
  have lt_at2 := GHeap.ltg at2
  replace hin := base_hin.mono hle
  replace hL := base_hL.mono hle
  have hb2 : Cat.At _ g2 0 c p := ⟨Mem.of_get at2, hin⟩
  obtain ⟨c02, c12, c22, c32, c42, i12, i22, i32, i42⟩ := hb2.get
  have hm2 : MemN _ _ _ _ _ := ⟨rfl, hb2.1⟩
  have hi2 := hb2.2
  refine .mv rfl (.nil (hK1 _ _ (.seq (fun K2 hK2 => .seq (fun K3 hK3 => .region (.mv rfl (.nil (hK3 _ _ ?_))))))))
  refine .block ?_
  refine .loopR (σ := Nat) [(1, some _), (2, some _)] (fun i => [(5, some (.int .i64 (i : Int)))]) (fun i H' => St [] H2 H' ∧ i ≤ L.length ∧ ∀ j, j < i → c.okL L (L.getD j []) = false) (fun i => L.length - i) (0) ⟨rfl, rfl, trivial⟩ ⟨rfl, trivial⟩ ?_ ?_
  ·
   refine ⟨.refl _ _, ?_⟩
   exact ⟨by omega, fun j hj => by omega⟩
  rintro i HL1 ⟨lst1, hI⟩ KL1 hKL1
  refine .forget (fr' := [(5, some (.int .i64 (i : Int))), (1, some _), (2, some _)]) ⟨rfl, rfl, rfl, trivial⟩ ?_
  have nx_HL1 := lst1.nx
  replace hle := hle.st lst1 (fun k hk => trivial)
  replace at2 := lst1.same _ _ trivial at2
  replace hin := base_hin.mono hle
  replace hL := base_hL.mono hle
  clear hb2 c02 c12 c22 c32 c42 i12 i22 i32 i42 hm2 hi2
  have hb2 : Cat.At _ g2 0 c p := ⟨Mem.of_get at2, hin⟩
  obtain ⟨c02, c12, c22, c32, c42, i12, i22, i32, i42⟩ := hb2.get
  have hm2 : MemN _ _ _ _ _ := ⟨rfl, hb2.1⟩
  have hi2 := hb2.2
  obtain ⟨hi, hall⟩ := hI
  refine .seq (fun K4 hK4 => .seq (fun K5 hK5 => .region (.mv rfl (.mv rfl (.q rfl (.len sl_23_B rfl) (.q rfl (.cmp rfl rfl rfl) (.nil (hK5 _ _ ?_))))))))
  refine .cond rfl (fun h11 => ?_) (fun h11 => ?_)
  ·
   simp only [sps] at h11
   refine .skip ?_
   refine hK4 _ _ (.seq (fun K6 hK6 => ?_))
   refine .block ?_
   refine .seq (fun K7 hK7 => .region (.mv rfl (.nil (hK7 _ _ (.seq (fun K8 hK8 => .seq (fun K9 hK9 => .region (.mv rfl (.nil (hK9 _ _ ?_))))))))))
   refine .block ?_
   refine .loopR (σ := Nat × Bool) [(1, some _), (2, some _), (5, some _)] (fun (k, e) => [(7, some (.int .i64 (k : Int))), (6, some (.bool e))]) (fun (k, e) H' => St [] HL1 H' ∧ k ≤ L.length ∧ e = allN k fun k => decide ((c.mapsL (L.getD k []) (L.getD i [])).length = 1)) (fun (k, e) => L.length - k) ((0, true)) ⟨rfl, rfl, rfl, trivial⟩ ⟨rfl, rfl, trivial⟩ ?_ ?_
   ·
    refine ⟨.refl _ _, ?_⟩
    exact ⟨by omega, rfl⟩
   rintro ⟨k, e⟩ HL2 ⟨lst2, hI⟩ KL2 hKL2
   refine .forget (fr' := [(7, some (.int .i64 (k : Int))), (6, some (.bool e)), (1, some _), (2, some _), (5, some _)]) ⟨rfl, rfl, rfl, rfl, rfl, trivial⟩ ?_
   have nx_HL2 := lst2.nx
   replace hle := hle.st lst2 (fun k hk => trivial)
   replace lst1 := lst1.sA lst2
   replace at2 := lst2.same _ _ trivial at2
   replace hin := base_hin.mono hle
   replace hL := base_hL.mono hle
   clear hb2 c02 c12 c22 c32 c42 i12 i22 i32 i42 hm2 hi2
   have hb2 : Cat.At _ g2 0 c p := ⟨Mem.of_get at2, hin⟩
   obtain ⟨c02, c12, c22, c32, c42, i12, i22, i32, i42⟩ := hb2.get
   have hm2 : MemN _ _ _ _ _ := ⟨rfl, hb2.1⟩
   have hi2 := hb2.2
   obtain ⟨hk, he⟩ := hI
   refine .seq (fun K10 hK10 => .seq (fun K11 hK11 => .region (.mv rfl (.mv rfl ?_))))
   refine .split (fun h15 => ?_) (fun h15 => ?_)
   ·
    try simp only [sps] at h15
    refine .qg rfl (.move rfl) (.qg rfl (.move rfl) (.qg rfl (.len sl_23_B rfl) (.qg rfl (.cmp rfl rfl rfl) (.q rfl (.pickT rfl rfl) (.nil (hK11 _ _ ?_))))))
    refine .cond rfl (fun h20 => ?_) (fun h20 => ?_)
    ·
     try simp only [sps] at h20
     refine .skip ?_
     refine hK10 _ _ (.seq (fun K12 hK12 => ?_))
     refine .block ?_
     refine .regionD mo_B (.q 0 (.q 1 (.q 2 (.q 3 (.q 4 (.q 5 (.q 6 (.q 7 (.q 8 (.c 9 0 (.q 10 (.q 11 (.q 12 (.done)))))))))))))) (by kernel_rfl) ?_
     refine .q rfl (.loadM ag_29_D rfl ⟨rfl, Mem.of_get at2⟩) ?_
     refine .mv rfl rfl (.mv rfl rfl ?_)
     refine .q rfl (.idxN sl_23_B (Intss.sl (by assumption)) rfl rfl (by omega)) ?_
     refine .q rfl (.loadR on_22_B (by assumption) rfl (by omega)) ?_
     refine .mv rfl rfl (.mv rfl rfl ?_)
     refine .q rfl (.idxN sl_23_B (Intss.sl (by assumption)) rfl rfl (by omega)) ?_
     refine .q rfl (.loadR on_22_B (by assumption) rfl (by omega)) ?_
     refine .call0 rfl rfl rfl rfl rfl @Try.call128 rfl (l13Maps_c (s := L.getD k []) (t := L.getD i []) (hx := hL.2 k (by omega)) (hy := hL.2 i (by omega)) (h1 := by rw [(hr k (by omega)).1]; omega) (h2 := by rw [(hr k (by omega)).1, (hr i (by omega)).1]) (hl := by rw [(hr k (by omega)).1]; omega) (ht := by rw [(hr i (by omega)).1]; exact (hr i (by omega)).2)) ?_
     rintro _ H32 ⟨le32, g32, rfl, at32, ge32⟩
     have nx_H32 := le32.1
     replace hle := hle.trans le32
     replace lst1 := lst1.le le32
     replace lst2 := lst2.le le32
     replace at2 := le32.2 _ _ at2
     have lt_at32 := GHeap.ltg at32
     replace hin := base_hin.mono hle
     replace hL := base_hL.mono hle
     clear hb2 c02 c12 c22 c32 c42 i12 i22 i32 i42 hm2 hi2
     have hb2 : Cat.At _ g2 0 c p := ⟨Mem.of_get at2, hin⟩
     obtain ⟨c02, c12, c22, c32, c42, i12, i22, i32, i42⟩ := hb2.get
     have hm2 : MemN _ _ _ _ _ := ⟨rfl, hb2.1⟩
     have hi2 := hb2.2
     have i32 := Ints.of_get at32
     refine .q rfl (.len sl_22_A rfl) (.q rfl (.cmp rfl rfl rfl) (.mv rfl rfl ?_))
     refine .done ?_
     refine hK12 _ _ (.region (.mv rfl ?_))
     refine .q rfl (.add rfl rfl rfl (by omega) (by omega)) ?_
     refine .mv rfl (.nil ?_)
     refine hKL2 ((k + 1, _)) _ _ ?_ ?_ ⟨rfl, rfl, rfl, rfl, rfl, trivial⟩
     ·
      refine ⟨lst2, ?_⟩
      refine ⟨by omega, ?_⟩
      rw [allN_succ, show allN k _ = true from (he.symm.trans h15), Bool.true_and]
      rw [Bool.eq_iff_iff]
      simp only [sps]
      omega
     (dsimp only; omega)
    try simp only [sps] at h20
    refine .exit ?_
    refine hK8 _ _ (.seq (fun K13 hK13 => .region (.mv rfl (.nil (hK13 _ _ ?_)))))
    refine .cond rfl (fun h35 => ?_) (fun h35 => ?_)
    ·
     have hT : c.okL L (L.getD i []) = true := by
       rw [Cat.okL_eq]
       obtain rfl : k = L.length := by first | omega | (rw [h35] at h15; cases h15)
       exact he.symm.trans h35
     refine .seq (fun K14 hK14 => .region (.mv rfl (.mv rfl ?_)))
     refine .q rfl (.idxN sl_23_B (Intss.sl (by assumption)) rfl rfl (by omega)) ?_
     refine .q rfl (.loadR on_22_B (by assumption) rfl (by omega)) ?_
     refine .mv rfl (.nil (hK14 _ _ ?_))
     refine .ret ?_
     refine hret _ _ ?_
     refine ⟨_, rfl, ?_⟩
     have hf : c.firstL L = L.getD i [] := find_getD (by omega) hall hT
     rw [hf]
     exact ⟨hle, _, rfl, hL.2 i (by omega)⟩
    have hF : c.okL L (L.getD i []) = false := by
      rw [Cat.okL_eq]
      exact allN_early (he.symm.trans h35) hk
    refine .skip ?_
    refine hK6 _ _ (.region (.mv rfl ?_))
    refine .q rfl (.add rfl rfl rfl (by omega) (by omega)) ?_
    refine .mv rfl (.nil ?_)
    refine hKL1 (i + 1) _ _ ?_ ?_ ⟨rfl, rfl, rfl, trivial⟩
    ·
     refine ⟨lst1, ?_⟩
     refine ⟨by omega, fun j hj => ?_⟩
     by_cases e1 : j < i
     · exact hall j e1
     · obtain rfl : j = i := by omega
       exact hF
    omega
   try simp only [sps] at h15
   refine .z rfl (.z rfl (.z rfl (.z rfl (.q rfl (.pickF rfl rfl) (.nil (hK11 _ _ ?_))))))
   refine .condF rfl ?_
   refine .exit ?_
   refine hK8 _ _ (.seq (fun K15 hK15 => .region (.mv rfl (.nil (hK15 _ _ ?_)))))
   refine .cond rfl (fun h35 => ?_) (fun h35 => ?_)
   ·
    have hT : c.okL L (L.getD i []) = true := by
      rw [Cat.okL_eq]
      obtain rfl : k = L.length := by first | omega | (rw [h35] at h15; cases h15)
      exact he.symm.trans h35
    refine .seq (fun K16 hK16 => .region (.mv rfl (.mv rfl ?_)))
    refine .q rfl (.idxN sl_23_B (Intss.sl (by assumption)) rfl rfl (by omega)) ?_
    refine .q rfl (.loadR on_22_B (by assumption) rfl (by omega)) ?_
    refine .mv rfl (.nil (hK16 _ _ ?_))
    refine .ret ?_
    refine hret _ _ ?_
    refine ⟨_, rfl, ?_⟩
    have hf : c.firstL L = L.getD i [] := find_getD (by omega) hall hT
    rw [hf]
    exact ⟨hle, _, rfl, hL.2 i (by omega)⟩
   have hF : c.okL L (L.getD i []) = false := by
     rw [Cat.okL_eq]
     exact allN_early (he.symm.trans h35) hk
   refine .skip ?_
   refine hK6 _ _ (.region (.mv rfl ?_))
   refine .q rfl (.add rfl rfl rfl (by omega) (by omega)) ?_
   refine .mv rfl (.nil ?_)
   refine hKL1 (i + 1) _ _ ?_ ?_ ⟨rfl, rfl, rfl, trivial⟩
   ·
    refine ⟨lst1, ?_⟩
    refine ⟨by omega, fun j hj => ?_⟩
    by_cases e1 : j < i
    · exact hall j e1
    · obtain rfl : j = i := by omega
      exact hF
   omega
  try simp only [sps] at h11
  refine .exit ?_
  refine hK2 _ _ (.seq (fun K17 hK17 => .region ?_))
  refine .R rfl (.litA rfl sl_22_A ze_2_E rfl rfl rfl rfl) ?_
  rintro _ H40 ⟨g40, rfl, le40, ge40, at40⟩
  have nx_H40 := le40.1
  replace hle := hle.trans le40
  replace lst1 := lst1.le le40
  replace at2 := le40.2 _ _ at2
  have lt_at40 := GHeap.ltg at40
  replace hin := base_hin.mono hle
  replace hL := base_hL.mono hle
  clear hb2 c02 c12 c22 c32 c42 i12 i22 i32 i42 hm2 hi2
  have hb2 : Cat.At _ g2 0 c p := ⟨Mem.of_get at2, hin⟩
  obtain ⟨c02, c12, c22, c32, c42, i12, i22, i32, i42⟩ := hb2.get
  have hm2 : MemN _ _ _ _ _ := ⟨rfl, hb2.1⟩
  have hi2 := hb2.2
  replace at40 : GHeap.get H40 g40 = some (.row (ints []) 2 true) := at40
  refine .mv rfl (.nil (hK17 _ _ ?_))
  refine .ret ?_
  refine hret _ _ ?_
  refine ⟨_, rfl, ?_⟩
  obtain rfl : i = L.length := by omega
  have hf : c.firstL L = [] := find_getD0 hall
  rw [hf]
  exact ⟨hle, _, rfl, .inl rfl⟩
end Go.Proofs.Ytjdedelneppnlaa
