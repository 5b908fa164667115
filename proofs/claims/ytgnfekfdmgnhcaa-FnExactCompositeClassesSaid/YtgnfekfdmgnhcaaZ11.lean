/- Triples of a composite of profunctors. No condition. -/
import Derived.Test.YtgnfekfdmgnhcaaZ10
namespace Go.GL
noncomputable def ctCode (p q : Prof) (x z : Int) : Int := bif B (p.Is ∧ q.Is) then (bif B ((0 ≤ x ∧ x < p.s.obj) ∧ (0 ≤ z ∧ z < q.t.obj)) then (bif B (p.t = q.s) then 0 else 5) else 2) else 1
theorem ctCode_1 {p q : Prof} {x z : Int} (h : ¬ (p.Is ∧ q.Is)) : ctCode p q x z = 1 := by unfold ctCode; rw [B_false h]; rfl
theorem ctCode_2 {p q : Prof} {x z : Int} (h : p.Is ∧ q.Is) (h' : ¬ ((0 ≤ x ∧ x < p.s.obj) ∧ (0 ≤ z ∧ z < q.t.obj))) : ctCode p q x z = 2 := by unfold ctCode; rw [B_true h, B_false h']; rfl
theorem ctCode_3 {p q : Prof} {x z : Int} (h : p.Is ∧ q.Is) (h' : (0 ≤ x ∧ x < p.s.obj) ∧ (0 ≤ z ∧ z < q.t.obj)) (h'' : ¬ p.t = q.s) : ctCode p q x z = 5 := by unfold ctCode; rw [B_true h, B_true h', B_false h'']; rfl
theorem ctCode_4 {p q : Prof} {x z : Int} (h : p.Is ∧ q.Is) (h' : (0 ≤ x ∧ x < p.s.obj) ∧ (0 ≤ z ∧ z < q.t.obj)) (h'' : p.t = q.s) : ctCode p q x z = 0 := by unfold ctCode; rw [B_true h, B_true h', B_true h'']; rfl
theorem ctCode_0 {p q : Prof} {x z : Int} (h : ctCode p q x z = 0) : p.Is ∧ q.Is ∧ 0 ≤ x ∧ x < p.s.obj ∧ 0 ≤ z ∧ z < q.t.obj ∧ p.t = q.s := by
  by_cases h1 : p.Is ∧ q.Is
  · by_cases h2 : (0 ≤ x ∧ x < p.s.obj) ∧ (0 ≤ z ∧ z < q.t.obj)
    · by_cases h3 : p.t = q.s
      · exact ⟨h1.1, h1.2, h2.1.1, h2.1.2, h2.2.1, h2.2.2, h3⟩
      · rw [ctCode_3 h1 h2 h3] at h; omega
    · rw [ctCode_2 h1 h2] at h; omega
  · rw [ctCode_1 h1] at h; omega
/-- The code behind the first test. -/
theorem ctCode_in {p q : Prof} {x z : Int} (h : p.Is ∧ q.Is) (h' : (0 ≤ x ∧ x < p.s.obj) ∧ (0 ≤ z ∧ z < q.t.obj)) : ctCode p q x z = bif B (p.t = q.s) then 0 else 5 := by unfold ctCode; rw [B_true h, B_true h']; rfl
def ctPr (y e d : Nat) : List Int := [(y : Int), (e : Int), (d : Int)]
def ctL (p q : Prof) (x z : Int) (y e d : Nat) : List (List Int) := nest3 ctPr (fun y => ((p.sz.getD x.toNat []).getD y 0).toNat) (fun y _ => ((q.sz.getD y []).getD z.toNat 0).toNat) y e d
theorem ctL_snoc {p q : Prof} {x z : Int} {y e d : Nat} : ctL p q x z y e (d + 1) = ctL p q x z y e d ++ [ctPr y e d] := nest3_snoc
theorem ctL_next2 {p q : Prof} {x z : Int} {y e : Nat} : ctL p q x z y (e + 1) 0 = ctL p q x z y e ((q.sz.getD y []).getD z.toNat 0).toNat := nest3_next2
theorem ctL_next1 {p q : Prof} {x z : Int} {y : Nat} : ctL p q x z (y + 1) 0 0 = ctL p q x z y ((p.sz.getD x.toNat []).getD y 0).toNat 0 := nest3_next1
/-- Where the sizes lie, and how large they are. -/
structure CtOk (p q : Prof) (x z : Int) (n : Nat) : Prop where
  n8 : n ≤ 8
  x0 : 0 ≤ x
  xl : x.toNat < p.sz.length
  z0 : 0 ≤ z
  pn : ((p.sz.getD x.toNat []).length : Int) = n
  qn : (q.sz.length : Int) = n
  pe : ∀ y, y < n → 0 ≤ (p.sz.getD x.toNat []).getD y 0 ∧ (p.sz.getD x.toNat []).getD y 0 ≤ 64
  qe : ∀ y, y < n → z.toNat < (q.sz.getD y []).length ∧ 0 ≤ (q.sz.getD y []).getD z.toNat 0 ∧ (q.sz.getD y []).getD z.toNat 0 ≤ 64
theorem CtOk.of {p q : Prof} {x z : Int} (hp : p.Is) (hq : q.Is) (h1 : 0 ≤ x) (h2 : x < p.s.obj) (h3 : 0 ≤ z) (h4 : z < q.t.obj) (h5 : p.t = q.s) : CtOk p q x z p.t.obj.toNat ∧ 0 ≤ p.t.obj := by
  have a1 := hp.1.t.1.obj
  have a2 := hp.1.z.sl
  have a3 := hq.1.z.sl
  have a4 := hp.1.z.row x.toNat (by omega)
  have e1 : q.s.obj = p.t.obj := by rw [h5]
  refine ⟨⟨by omega, h1, by omega, h3, by omega, by omega, fun y hy => hp.1.z.rng _ (by omega) y (by omega), fun y hy => ?_⟩, by omega⟩
  have b1 := hq.1.z.row y (by omega)
  exact ⟨by omega, hq.1.z.rng y (by omega) z.toNat (by omega)⟩
theorem CtOk.len {p q : Prof} {x z : Int} {n y e d : Nat} (h : CtOk p q x z n) (hy : y < n) (he : e < ((p.sz.getD x.toNat []).getD y 0).toNat) (hd : d ≤ ((q.sz.getD y []).getD z.toNat 0).toNat) : (ctL p q x z y e d).length ≤ 32768 := by
  have := nest3_le (pr := ctPr) (s1 := fun y => ((p.sz.getD x.toNat []).getD y 0).toNat) (s2 := fun y _ => ((q.sz.getD y []).getD z.toNat 0).toNat) (c := 64) (d := 64) (n := n) (fun a ha => by have := h.pe a ha; omega) (fun a ha b _ => by have := h.qe a ha; omega) hy he hd
  have h2 : n * (64 * 64) ≤ 8 * (64 * 64) := Nat.mul_le_mul_right _ h.n8
  exact Nat.le_trans this h2
/-- Rows of three numbers, laid one behind the other. -/
def tcells (xss : List (List Int)) : List Value := xss.flatMap ints
theorem tcells_snoc (xss : List (List Int)) (x : List Int) : tcells (xss ++ [x]) = tcells xss ++ ints x := by simp [tcells]
theorem tcells_len {xss : List (List Int)} (h : ∀ x ∈ xss, x.length = 3) : (tcells xss).length = xss.length * 3 := by
  induction xss with
  | nil => rfl
  | cons x r ih =>
    have h1 := h x (by simp)
    have h2 := ih fun y hy => h y (by simp [hy])
    unfold tcells at h2 ⊢
    simp only [List.flatMap_cons, List.length_append, length_ints, List.length_cons]
    omega
theorem tcells_get {xss : List (List Int)} (h : ∀ x ∈ xss, x.length = 3) {i j : Nat} (hi : i < xss.length) (hj : j < 3) : (tcells xss)[i * 3 + j]? = some (.int .i64 ((xss.getD i []).getD j 0)) := by
  induction xss generalizing i with
  | nil => simp at hi
  | cons x r ih =>
    have h1 := h x (by simp)
    unfold tcells
    rw [List.flatMap_cons]
    cases i with
    | zero =>
      rw [List.getElem?_append_left (by simp; omega)]
      simp only [Nat.zero_mul, Nat.zero_add, List.getD_cons_zero]
      exact ints_get (by omega)
    | succ i =>
      rw [List.getElem?_append_right (by simp; omega)]
      simp only [length_ints, h1, List.getD_cons_succ]
      have := ih (fun y hy => h y (by simp [hy])) (i := i) (by simpa using hi)
      unfold tcells at this
      rw [← this]
      congr 1
      omega
theorem tcells_slA {H : GHeap} {g : Nat} {e : TypeId} {own : Bool} {xss : List (List Int)} (h : ∀ x ∈ xss, x.length = 3) (hg : H.get g = some (.row (tcells xss) e own)) : SlA H (some ⟨g, 0, none⟩) (xss.length * 3) (fun i => (tcells xss).getD i undef) :=
  .inr ⟨g, 0, rfl, fun i hi => by
    rw [GHeap.cell_of hg, Nat.zero_add]
    show _ = some ((tcells xss).getD i undef)
    rw [List.getD_eq_getElem?_getD, List.getElem?_eq_getElem (by rw [tcells_len h]; exact hi)]; rfl⟩
theorem tcells_mem {H : GHeap} {g : Nat} {e : TypeId} {own : Bool} {xss : List (List Int)} (h : ∀ x ∈ xss, x.length = 3) (hg : H.get g = some (.row (tcells xss) e own)) {i : Nat} (hi : i < xss.length) :
    MemN H g (0 + (i : Int).toNat * 3) 3 [.int .i64 ((xss.getD i []).getD 0 0), .int .i64 ((xss.getD i []).getD 1 0), .int .i64 ((xss.getD i []).getD 2 0)] := by
  refine ⟨rfl, fun j v hv => ?_⟩
  rw [GHeap.cell_of hg, Int.toNat_natCast, Nat.zero_add]
  match j, hv with
  | 0, hv => cases hv; exact tcells_get h hi (j := 0) (by omega)
  | 1, hv => cases hv; exact tcells_get h hi (j := 1) (by omega)
  | 2, hv => cases hv; exact tcells_get h hi (j := 2) (by omega)
  | n + 3, hv => simp at hv
theorem nestL_form {α : Type} {pr : Nat → Nat → α} {sz : Nat → Nat} {k t : Nat} {x : α} (h : x ∈ nestL pr sz k t) : ∃ a b, x = pr a b := by
  unfold nestL at h
  simp only [List.mem_append, List.mem_flatMap, List.mem_map] at h
  rcases h with ⟨a, _, b, _, e⟩ | ⟨b, _, e⟩
  · exact ⟨a, b, e.symm⟩
  · exact ⟨k, b, e.symm⟩
theorem ctL_three' {p q : Prof} {x z : Int} {y e d : Nat} : ∀ r ∈ ctL p q x z y e d, r.length = 3 := fun r hr => by
  unfold ctL nest3 at hr
  simp only [List.mem_append, List.mem_flatMap] at hr
  rcases hr with ⟨a, _, h⟩ | h <;> (obtain ⟨b, c, rfl⟩ := nestL_form h; rfl)
theorem ctT_snoc {p q : Prof} {x z : Int} {y e d : Nat} : tcells (ctL p q x z y e (d + 1)) = tcells (ctL p q x z y e d) ++ [.int .i64 (y : Int), .int .i64 (e : Int), .int .i64 (d : Int)] := by rw [ctL_snoc, tcells_snoc]; rfl
/-- A list of triples that was made since b. -/
structure TrAt (b : Nat) (H : GHeap) (g : Nat) (xss : List (List Int)) : Prop where
  lo : b ≤ g
  three : ∀ x ∈ xss, x.length = 3
  at' : ∃ e, H.get g = some (.row (tcells xss) e true)
theorem TrAt.keep {b b' : Nat} {H H' : GHeap} {g : Nat} {xss : List (List Int)} (h : TrAt b H g xss) (k : Keep b' H H') (hb : b' ≤ b) : TrAt b' H' g xss := by
  obtain ⟨h1, h2, e, h3⟩ := h
  exact ⟨by omega, h2, e, k _ _ (by omega) h3⟩
theorem TrAt.sl {b : Nat} {H : GHeap} {g : Nat} {xss : List (List Int)} (h : TrAt b H g xss) : SlA H (some ⟨g, 0, none⟩) (xss.length * 3) (fun i => (tcells xss).getD i undef) := by
  obtain ⟨h1, h2, e, h3⟩ := h
  exact tcells_slA h2 h3
theorem TrAt.row {b : Nat} {H : GHeap} {g : Nat} {xss : List (List Int)} (h : TrAt b H g xss) {i : Nat} (hi : i < xss.length) : (xss.getD i []).length = 3 := h.three _ (getD_mem_list (d := []) hi)
theorem three_eq {x : List Int} (h : x.length = 3) : [x.getD 0 0, x.getD 1 0, x.getD 2 0] = x := by
  match x, h with
  | [a, b, c], _ => rfl
end Go.GL
/- Triples of a composite of profunctors. No condition but those of each statement. -/
namespace Go.Proofs.Ytgnfekfdmgnhcaa
open Go Go.GL Go.RowKit Go.Proofs
theorem sl_103_Ct : sliceT Try.prog 103 = some (156, 3) := by kernel_rfl
theorem ze_156_Ct : zeroT Try.prog 156 = some ([.int .i64 0, .int .i64 0, .int .i64 0], 3) := by kernel_rfl
theorem bt_156_Ct : buildT Try.prog 156 = some ([.int .i64 0, .int .i64 0, .int .i64 0], [(0, 1), (1, 1), (2, 1)]) := by kernel_rfl
theorem by_156_Ct : (Try.prog.info? 156).map (·.bytes) = some 24 := by kernel_rfl
theorem l32Two_c {m k : Prof} {p q : ProfP} {H : GHeap} (hin : m.In H p := by assumption) (hin1 : k.In H q := by assumption) (hs : m.Small := by assumption) (hs1 : k.Small := by assumption) :
    GCalls Try.prog 121 [.agg (m.cells p).toArray, .agg (k.cells q).toArray] H (Ret (.int .i64 (bif B (m.Is ∧ k.Is) then (bif B (m.t = k.s) then 0 else 5) else 1)) H) := by
  refine GCalls.ret rfl ?_
  have w1 := hs.2.1
  have w2 := hs1.1
  refine GCalls.body (N := 19) (rs := [.tmp 4]) Try.func121 rfl rfl rfl rfl (fun Qx hret hend => ?_)
  refine .forget (fr' := [(0, some _), (1, some _)]) ⟨rfl, rfl, trivial⟩ ?_
  have hle := GHeap.Le.refl H
  have base_hin := hin
  have base_hin1 := hin1
  refine .seq (fun K1 hK1 => ?_)
  refine .region ?_
  refine .r rfl rfl rfl (.boxR rfl sz_40_VProf rfl) ?_
  rintro _ H2 ⟨g2, rfl, le2, ge2, at2⟩
  have nx_H2 := le2.1
  replace hle := hle.trans le2
  have lt_at2 := GHeap.lt_of_get at2
  replace hin := base_hin.mono hle
  replace hin1 := base_hin1.mono hle
  have hb2 : Prof.At _ g2 0 m p := ⟨Mem.of_get at2, hin⟩
  obtain ⟨fs2, ft2, c102, c112, c122, i22, i32, i42⟩ := hb2.get
  have hm2 : MemN _ _ _ _ _ := ⟨rfl, hb2.1⟩
  have hi2 := hb2.2
  have hms2 : MemN _ _ _ _ _ := ⟨rfl, fs2.1⟩
  have his2 := fs2.2
  have hmt2 : MemN _ _ _ _ _ := ⟨rfl, ft2.1⟩
  have hit2 := ft2.2
  refine .r rfl rfl rfl (.boxR rfl sz_40_VProf rfl) ?_
  rintro _ H3 ⟨g3, rfl, le3, ge3, at3⟩
  have nx_H3 := le3.1
  replace hle := hle.trans le3
  replace at2 := le3.2 _ _ at2
  have lt_at3 := GHeap.lt_of_get at3
  replace hin := base_hin.mono hle
  replace hin1 := base_hin1.mono hle
  clear hb2 fs2 ft2 c102 c112 c122 i22 i32 i42 hm2 hi2 hms2 his2 hmt2 hit2
  have hb2 : Prof.At _ g2 0 m p := ⟨Mem.of_get at2, hin⟩
  obtain ⟨fs2, ft2, c102, c112, c122, i22, i32, i42⟩ := hb2.get
  have hm2 : MemN _ _ _ _ _ := ⟨rfl, hb2.1⟩
  have hi2 := hb2.2
  have hms2 : MemN _ _ _ _ _ := ⟨rfl, fs2.1⟩
  have his2 := fs2.2
  have hmt2 : MemN _ _ _ _ _ := ⟨rfl, ft2.1⟩
  have hit2 := ft2.2
  have hb3 : Prof.At _ g3 0 k q := ⟨Mem.of_get at3, hin1⟩
  obtain ⟨fs3, ft3, c103, c113, c123, i23, i33, i43⟩ := hb3.get
  have hm3 : MemN _ _ _ _ _ := ⟨rfl, hb3.1⟩
  have hi3 := hb3.2
  have hms3 : MemN _ _ _ _ _ := ⟨rfl, fs3.1⟩
  have his3 := fs3.2
  have hmt3 : MemN _ _ _ _ _ := ⟨rfl, ft3.1⟩
  have hit3 := ft3.2
  refine .m rfl rfl rfl (.assign rfl) (.nil ?_)
  refine hK1 _ _ ?_
  refine .seq (fun K2 hK2 => ?_)
  refine .seq (fun K3 hK3 => ?_)
  refine .region ?_
  refine .m rfl rfl rfl (.loadM ag_40_VProf rfl ⟨rfl, Mem.of_get at2⟩) ?_
  refine .callQ rfl rfl rfl rfl @Try.call53 rfl (l22Is_c) ?_
  refine .m rfl rfl rfl (.not rfl) (.m rfl rfl rfl (.move rfl) ?_)
  refine .split (fun h8 => ?_) (fun h8 => ?_)
  ·
   try simp only [sps] at h8
   refine .sg rfl rfl rfl rfl rfl (.sg rfl rfl rfl rfl rfl (.sg rfl rfl rfl rfl rfl (.m rfl rfl rfl (.pickT rfl rfl) ?_)))
   refine .nil ?_
   refine hK3 _ _ ?_
   refine .condT rfl ?_
   refine .seq (fun K4 hK4 => ?_)
   refine .region (.m rfl rfl rfl (.assign rfl) (.nil ?_))
   refine hK4 _ _ ?_
   refine .ret ?_
   refine hret _ _ ?_
   refine ⟨_, rfl, ?_⟩
   first
   | exact ⟨by rw [B_true ⟨by assumption, by assumption⟩, B_true (by assumption)]; rfl, hle⟩
   | exact ⟨by rw [B_true ⟨by assumption, by assumption⟩, B_false (by assumption)]; rfl, hle⟩
   | exact ⟨by rw [B_false fun hh => absurd hh.1 (by assumption)]; rfl, hle⟩
   | exact ⟨by rw [B_false fun hh => absurd hh.2 (by assumption)]; rfl, hle⟩
  try simp only [sps] at h8
  refine .mg rfl rfl rfl rfl rfl (.loadM ag_40_VProf rfl ⟨rfl, Mem.of_get at3⟩) ?_
  refine .callQg rfl rfl rfl rfl rfl rfl @Try.call53 rfl (l22Is_c) ?_
  refine .mg rfl rfl rfl rfl rfl (.not rfl) (.m rfl rfl rfl (.pickF rfl rfl) (.nil ?_))
  refine hK3 _ _ ?_
  refine .cond rfl (fun h12 => ?_) (fun h12 => ?_)
  ·
   try simp only [sps] at h12
   refine .seq (fun K5 hK5 => ?_)
   refine .region (.m rfl rfl rfl (.assign rfl) (.nil ?_))
   refine hK5 _ _ ?_
   refine .ret ?_
   refine hret _ _ ?_
   refine ⟨_, rfl, ?_⟩
   first
   | exact ⟨by rw [B_true ⟨by assumption, by assumption⟩, B_true (by assumption)]; rfl, hle⟩
   | exact ⟨by rw [B_true ⟨by assumption, by assumption⟩, B_false (by assumption)]; rfl, hle⟩
   | exact ⟨by rw [B_false fun hh => absurd hh.1 (by assumption)]; rfl, hle⟩
   | exact ⟨by rw [B_false fun hh => absurd hh.2 (by assumption)]; rfl, hle⟩
  try simp only [sps] at h12
  refine .skip ?_
  refine hK2 _ _ ?_
  refine .seq (fun K6 hK6 => ?_)
  refine .seq (fun K7 hK7 => ?_)
  refine .region (.m rfl rfl rfl (.fieldAddr fo_40_1_VProf rfl) ?_)
  refine .m rfl rfl rfl (.loadM ag_27_D rfl (by assumption)) ?_
  refine .m rfl rfl rfl (.fieldAddr fo_40_0_VProf rfl) ?_
  refine .m rfl rfl rfl (.loadM ag_27_D rfl (by assumption)) ?_
  refine .callQ rfl rfl rfl rfl @Try.call117 rfl (l02Same_c) ?_
  refine .m rfl rfl rfl (.not rfl) (.nil ?_)
  refine hK7 _ _ ?_
  refine .cond rfl (fun h18 => ?_) (fun h18 => ?_)
  ·
   simp only [sps] at h18
   refine .seq (fun K8 hK8 => ?_)
   refine .region (.m rfl rfl rfl (.assign rfl) (.nil ?_))
   refine hK8 _ _ ?_
   refine .ret ?_
   refine hret _ _ ?_
   refine ⟨_, rfl, ?_⟩
   first
   | exact ⟨by rw [B_true ⟨by assumption, by assumption⟩, B_true (by assumption)]; rfl, hle⟩
   | exact ⟨by rw [B_true ⟨by assumption, by assumption⟩, B_false (by assumption)]; rfl, hle⟩
   | exact ⟨by rw [B_false fun hh => absurd hh.1 (by assumption)]; rfl, hle⟩
   | exact ⟨by rw [B_false fun hh => absurd hh.2 (by assumption)]; rfl, hle⟩
  simp only [sps] at h18
  refine .skip ?_
  refine hK6 _ _ ?_
  refine .seq (fun K9 hK9 => ?_)
  refine .region (.m rfl rfl rfl (.assign rfl) (.nil ?_))
  refine hK9 _ _ ?_
  refine .ret ?_
  refine hret _ _ ?_
  refine ⟨_, rfl, ?_⟩
  first
  | exact ⟨by rw [B_true ⟨by assumption, by assumption⟩, B_true (by assumption)]; rfl, hle⟩
  | exact ⟨by rw [B_true ⟨by assumption, by assumption⟩, B_false (by assumption)]; rfl, hle⟩
  | exact ⟨by rw [B_false fun hh => absurd hh.1 (by assumption)]; rfl, hle⟩
  | exact ⟨by rw [B_false fun hh => absurd hh.2 (by assumption)]; rfl, hle⟩
theorem l32Place_c {m k : Prof} {p q : ProfP} {x z : Int} {H : GHeap} (hin : m.In H p := by assumption) (hin1 : k.In H q := by assumption) (hs : m.Small := by assumption) (hs1 : k.Small := by assumption) :
    GCalls Try.prog 74 [.agg (m.cells p).toArray, .agg (k.cells q).toArray, .int .i64 x, .int .i64 z] H (Ret (.int .i64 (ctCode m k x z)) H) := by
  refine GCalls.ret rfl ?_
  refine GCalls.body (N := 32) (rs := [.tmp 8]) Try.func74 rfl rfl rfl rfl (fun Qx hret hend => ?_)
  refine .forget (fr' := [(0, some _), (1, some _), (2, some _), (3, some _)]) ⟨rfl, rfl, rfl, rfl, trivial⟩ ?_
  have hle := GHeap.Le.refl H
  have base_hin := hin
  have base_hin1 := hin1
  refine .seq (fun K1 hK1 => ?_)
  refine .region ?_
  refine .r rfl rfl rfl (.boxR rfl sz_40_VProf rfl) ?_
  rintro _ H4 ⟨g4, rfl, le4, ge4, at4⟩
  have nx_H4 := le4.1
  replace hle := hle.trans le4
  have lt_at4 := GHeap.lt_of_get at4
  replace hin := base_hin.mono hle
  replace hin1 := base_hin1.mono hle
  have hb4 : Prof.At _ g4 0 m p := ⟨Mem.of_get at4, hin⟩
  obtain ⟨fs4, ft4, c104, c114, c124, i24, i34, i44⟩ := hb4.get
  have hm4 : MemN _ _ _ _ _ := ⟨rfl, hb4.1⟩
  have hi4 := hb4.2
  have hms4 : MemN _ _ _ _ _ := ⟨rfl, fs4.1⟩
  have his4 := fs4.2
  have hmt4 : MemN _ _ _ _ _ := ⟨rfl, ft4.1⟩
  have hit4 := ft4.2
  refine .r rfl rfl rfl (.boxR rfl sz_40_VProf rfl) ?_
  rintro _ H5 ⟨g5, rfl, le5, ge5, at5⟩
  have nx_H5 := le5.1
  replace hle := hle.trans le5
  replace at4 := le5.2 _ _ at4
  have lt_at5 := GHeap.lt_of_get at5
  replace hin := base_hin.mono hle
  replace hin1 := base_hin1.mono hle
  clear hb4 fs4 ft4 c104 c114 c124 i24 i34 i44 hm4 hi4 hms4 his4 hmt4 hit4
  have hb4 : Prof.At _ g4 0 m p := ⟨Mem.of_get at4, hin⟩
  obtain ⟨fs4, ft4, c104, c114, c124, i24, i34, i44⟩ := hb4.get
  have hm4 : MemN _ _ _ _ _ := ⟨rfl, hb4.1⟩
  have hi4 := hb4.2
  have hms4 : MemN _ _ _ _ _ := ⟨rfl, fs4.1⟩
  have his4 := fs4.2
  have hmt4 : MemN _ _ _ _ _ := ⟨rfl, ft4.1⟩
  have hit4 := ft4.2
  have hb5 : Prof.At _ g5 0 k q := ⟨Mem.of_get at5, hin1⟩
  obtain ⟨fs5, ft5, c105, c115, c125, i25, i35, i45⟩ := hb5.get
  have hm5 : MemN _ _ _ _ _ := ⟨rfl, hb5.1⟩
  have hi5 := hb5.2
  have hms5 : MemN _ _ _ _ _ := ⟨rfl, fs5.1⟩
  have his5 := fs5.2
  have hmt5 : MemN _ _ _ _ _ := ⟨rfl, ft5.1⟩
  have hit5 := ft5.2
  refine .m rfl rfl rfl (.assign rfl) (.nil ?_)
  refine hK1 _ _ ?_
  refine .seq (fun K2 hK2 => ?_)
  refine .seq (fun K3 hK3 => ?_)
  refine .region ?_
  refine .m rfl rfl rfl (.loadM ag_40_VProf rfl ⟨rfl, Mem.of_get at4⟩) ?_
  refine .callQ rfl rfl rfl rfl @Try.call53 rfl (l22Is_c) ?_
  refine .m rfl rfl rfl (.not rfl) (.m rfl rfl rfl (.move rfl) ?_)
  refine .split (fun h12 => ?_) (fun h12 => ?_)
  ·
   simp only [sps] at h12
   refine .sg rfl rfl rfl rfl rfl (.sg rfl rfl rfl rfl rfl (.sg rfl rfl rfl rfl rfl (.m rfl rfl rfl (.pickT rfl rfl) ?_)))
   refine .nil ?_
   refine hK3 _ _ ?_
   refine .condT rfl ?_
   refine .seq (fun K4 hK4 => ?_)
   refine .region (.m rfl rfl rfl (.assign rfl) (.nil ?_))
   refine hK4 _ _ ?_
   refine .ret ?_
   refine hret _ _ ?_
   refine ⟨_, rfl, ?_⟩
   first
   | exact ⟨by rw [ctCode_1 fun hh => absurd hh.1 (by assumption)], hle⟩
   | exact ⟨by rw [ctCode_1 fun hh => absurd hh.2 (by assumption)], hle⟩
   | exact ⟨by rw [ctCode_2 ⟨by assumption, by assumption⟩ fun hh => absurd hh.1 (by assumption)], hle⟩
   | exact ⟨by rw [ctCode_2 ⟨by assumption, by assumption⟩ fun hh => absurd hh.2 (by assumption)], hle⟩
   | exact ⟨by rw [ctCode_in ⟨by assumption, by assumption⟩ ⟨by assumption, by assumption⟩, (show B (m.Is ∧ k.Is) = true from B_true ⟨by assumption, by assumption⟩)]; rfl, hle⟩
  simp only [sps] at h12
  refine .mg rfl rfl rfl rfl rfl (.loadM ag_40_VProf rfl ⟨rfl, Mem.of_get at5⟩) ?_
  refine .callQg rfl rfl rfl rfl rfl rfl @Try.call53 rfl (l22Is_c) ?_
  refine .mg rfl rfl rfl rfl rfl (.not rfl) (.m rfl rfl rfl (.pickF rfl rfl) (.nil ?_))
  refine hK3 _ _ ?_
  refine .cond rfl (fun h16 => ?_) (fun h16 => ?_)
  ·
   simp only [sps] at h16
   refine .seq (fun K5 hK5 => ?_)
   refine .region (.m rfl rfl rfl (.assign rfl) (.nil ?_))
   refine hK5 _ _ ?_
   refine .ret ?_
   refine hret _ _ ?_
   refine ⟨_, rfl, ?_⟩
   first
   | exact ⟨by rw [ctCode_1 fun hh => absurd hh.1 (by assumption)], hle⟩
   | exact ⟨by rw [ctCode_1 fun hh => absurd hh.2 (by assumption)], hle⟩
   | exact ⟨by rw [ctCode_2 ⟨by assumption, by assumption⟩ fun hh => absurd hh.1 (by assumption)], hle⟩
   | exact ⟨by rw [ctCode_2 ⟨by assumption, by assumption⟩ fun hh => absurd hh.2 (by assumption)], hle⟩
   | exact ⟨by rw [ctCode_in ⟨by assumption, by assumption⟩ ⟨by assumption, by assumption⟩, (show B (m.Is ∧ k.Is) = true from B_true ⟨by assumption, by assumption⟩)]; rfl, hle⟩
  simp only [sps] at h16
  refine .skip ?_
  refine hK2 _ _ ?_
  refine .seq (fun K6 hK6 => ?_)
  refine .seq (fun K7 hK7 => ?_)
  refine .region (.m rfl rfl rfl (.fieldAddr fo_40_0_VProf rfl) ?_)
  refine .m rfl rfl rfl (.loadM ag_27_D rfl (by assumption)) ?_
  refine .m rfl rfl rfl (.move rfl) ?_
  refine .callQ rfl rfl rfl rfl @Try.call85 rfl (l02Object_c) ?_
  refine .m rfl rfl rfl (.not rfl) (.m rfl rfl rfl (.move rfl) ?_)
  refine .split (fun h22 => ?_) (fun h22 => ?_)
  ·
   simp only [sps] at h22
   refine .sg rfl rfl rfl rfl rfl (.sg rfl rfl rfl rfl rfl (.sg rfl rfl rfl rfl rfl (.sg rfl rfl rfl rfl rfl ?_)))
   refine .sg rfl rfl rfl rfl rfl (.m rfl rfl rfl (.pickT rfl rfl) (.nil ?_))
   refine hK7 _ _ ?_
   refine .condT rfl ?_
   refine .seq (fun K8 hK8 => ?_)
   refine .region (.m rfl rfl rfl (.assign rfl) (.nil ?_))
   refine hK8 _ _ ?_
   refine .ret ?_
   refine hret _ _ ?_
   refine ⟨_, rfl, ?_⟩
   first
   | exact ⟨by rw [ctCode_1 fun hh => absurd hh.1 (by assumption)], hle⟩
   | exact ⟨by rw [ctCode_1 fun hh => absurd hh.2 (by assumption)], hle⟩
   | exact ⟨by rw [ctCode_2 ⟨by assumption, by assumption⟩ fun hh => absurd hh.1 (by assumption)], hle⟩
   | exact ⟨by rw [ctCode_2 ⟨by assumption, by assumption⟩ fun hh => absurd hh.2 (by assumption)], hle⟩
   | exact ⟨by rw [ctCode_in ⟨by assumption, by assumption⟩ ⟨by assumption, by assumption⟩, (show B (m.Is ∧ k.Is) = true from B_true ⟨by assumption, by assumption⟩)]; rfl, hle⟩
  simp only [sps] at h22
  refine .mg rfl rfl rfl rfl rfl (.fieldAddr fo_40_1_VProf rfl) ?_
  refine .mg rfl rfl rfl rfl rfl (.loadM ag_27_D rfl (by assumption)) ?_
  refine .mg rfl rfl rfl rfl rfl (.move rfl) ?_
  refine .callQg rfl rfl rfl rfl rfl rfl @Try.call85 rfl (l02Object_c) ?_
  refine .mg rfl rfl rfl rfl rfl (.not rfl) (.m rfl rfl rfl (.pickF rfl rfl) (.nil ?_))
  refine hK7 _ _ ?_
  refine .cond rfl (fun h28 => ?_) (fun h28 => ?_)
  ·
   simp only [sps] at h28
   refine .seq (fun K9 hK9 => ?_)
   refine .region (.m rfl rfl rfl (.assign rfl) (.nil ?_))
   refine hK9 _ _ ?_
   refine .ret ?_
   refine hret _ _ ?_
   refine ⟨_, rfl, ?_⟩
   first
   | exact ⟨by rw [ctCode_1 fun hh => absurd hh.1 (by assumption)], hle⟩
   | exact ⟨by rw [ctCode_1 fun hh => absurd hh.2 (by assumption)], hle⟩
   | exact ⟨by rw [ctCode_2 ⟨by assumption, by assumption⟩ fun hh => absurd hh.1 (by assumption)], hle⟩
   | exact ⟨by rw [ctCode_2 ⟨by assumption, by assumption⟩ fun hh => absurd hh.2 (by assumption)], hle⟩
   | exact ⟨by rw [ctCode_in ⟨by assumption, by assumption⟩ ⟨by assumption, by assumption⟩, (show B (m.Is ∧ k.Is) = true from B_true ⟨by assumption, by assumption⟩)]; rfl, hle⟩
  simp only [sps] at h28
  refine .skip ?_
  refine hK6 _ _ ?_
  refine .seq (fun K10 hK10 => ?_)
  refine .region ?_
  refine .m rfl rfl rfl (.loadM ag_40_VProf rfl ⟨rfl, Mem.of_get at4⟩) ?_
  refine .m rfl rfl rfl (.loadM ag_40_VProf rfl ⟨rfl, Mem.of_get at5⟩) ?_
  refine .callQ rfl rfl rfl rfl @Try.call121 rfl (l32Two_c) ?_
  refine .m rfl rfl rfl (.assign rfl) (.nil ?_)
  refine hK10 _ _ ?_
  refine .ret ?_
  refine hret _ _ ?_
  refine ⟨_, rfl, ?_⟩
  first
  | exact ⟨by rw [ctCode_1 fun hh => absurd hh.1 (by assumption)], hle⟩
  | exact ⟨by rw [ctCode_1 fun hh => absurd hh.2 (by assumption)], hle⟩
  | exact ⟨by rw [ctCode_2 ⟨by assumption, by assumption⟩ fun hh => absurd hh.1 (by assumption)], hle⟩
  | exact ⟨by rw [ctCode_2 ⟨by assumption, by assumption⟩ fun hh => absurd hh.2 (by assumption)], hle⟩
  | exact ⟨by rw [ctCode_in ⟨by assumption, by assumption⟩ ⟨by assumption, by assumption⟩, (show B (m.Is ∧ k.Is) = true from B_true ⟨by assumption, by assumption⟩)]; rfl, hle⟩
set_option maxHeartbeats 4000000 in
theorem l32Triples_c {m k : Prof} {p q : ProfP} {x z : Int} {H : GHeap} (hin : m.In H p := by assumption) (hin1 : k.In H q := by assumption) (hc : CtOk m k x z m.t.obj.toNat) (ho : 0 ≤ m.t.obj) :
    GCalls Try.prog 75 [.agg (m.cells p).toArray, .agg (k.cells q).toArray, .int .i64 x, .int .i64 z] H (NewIntssR H (ctL m k x z m.t.obj.toNat 0 0)) := by
  obtain ⟨b1, b2, b3, b4, b5, b6, b7, b8⟩ := id hc
  refine GCalls.body (N := 53) (rs := [.tmp 8]) Try.func75 rfl rfl rfl rfl (fun Qx hret hend => ?_)
  refine .forget (fr' := [(0, some _), (1, some _), (2, some _), (3, some _)]) ⟨rfl, rfl, rfl, rfl, trivial⟩ ?_
  have hle := GHeap.Le.refl H
  have base_hin := hin
  have base_hin1 := hin1
  refine .seq (fun K1 hK1 => ?_)
  refine .region ?_
  refine .r rfl rfl rfl (.boxR rfl sz_40_VProf rfl) ?_
  rintro _ H4 ⟨g4, rfl, le4, ge4, at4⟩
  have nx_H4 := le4.1
  replace hle := hle.trans le4
  have lt_at4 := GHeap.lt_of_get at4
  replace hin := base_hin.mono hle
  replace hin1 := base_hin1.mono hle
  have hb4 : Prof.At _ g4 0 m p := ⟨Mem.of_get at4, hin⟩
  obtain ⟨fs4, ft4, c104, c114, c124, i24, i34, i44⟩ := hb4.get
  have hm4 : MemN _ _ _ _ _ := ⟨rfl, hb4.1⟩
  have hi4 := hb4.2
  have hms4 : MemN _ _ _ _ _ := ⟨rfl, fs4.1⟩
  have his4 := fs4.2
  have hmt4 : MemN _ _ _ _ _ := ⟨rfl, ft4.1⟩
  have hit4 := ft4.2
  refine .r rfl rfl rfl (.boxR rfl sz_40_VProf rfl) ?_
  rintro _ H5 ⟨g5, rfl, le5, ge5, at5⟩
  have nx_H5 := le5.1
  replace hle := hle.trans le5
  replace at4 := le5.2 _ _ at4
  have lt_at5 := GHeap.lt_of_get at5
  replace hin := base_hin.mono hle
  replace hin1 := base_hin1.mono hle
  clear hb4 fs4 ft4 c104 c114 c124 i24 i34 i44 hm4 hi4 hms4 his4 hmt4 hit4
  have hb4 : Prof.At _ g4 0 m p := ⟨Mem.of_get at4, hin⟩
  obtain ⟨fs4, ft4, c104, c114, c124, i24, i34, i44⟩ := hb4.get
  have hm4 : MemN _ _ _ _ _ := ⟨rfl, hb4.1⟩
  have hi4 := hb4.2
  have hms4 : MemN _ _ _ _ _ := ⟨rfl, fs4.1⟩
  have his4 := fs4.2
  have hmt4 : MemN _ _ _ _ _ := ⟨rfl, ft4.1⟩
  have hit4 := ft4.2
  have hb5 : Prof.At _ g5 0 k q := ⟨Mem.of_get at5, hin1⟩
  obtain ⟨fs5, ft5, c105, c115, c125, i25, i35, i45⟩ := hb5.get
  have hm5 : MemN _ _ _ _ _ := ⟨rfl, hb5.1⟩
  have hi5 := hb5.2
  have hms5 : MemN _ _ _ _ _ := ⟨rfl, fs5.1⟩
  have his5 := fs5.2
  have hmt5 : MemN _ _ _ _ _ := ⟨rfl, ft5.1⟩
  have hit5 := ft5.2
  refine .m rfl rfl rfl (.assign rfl) (.nil ?_)
  refine hK1 _ _ ?_
  refine .seq (fun K2 hK2 => ?_)
  refine .region ?_
  refine .r rfl rfl rfl (.litR rfl sl_23_B ze_22_E rfl rfl (by omega) (by omega) rfl rfl) ?_
  rintro _ H13 ⟨g13, rfl, le13, ge13, at13⟩
  have nx_H13 := le13.1
  replace hle := hle.trans le13
  replace at4 := le13.2 _ _ at4
  replace at5 := le13.2 _ _ at5
  have lt_at13 := GHeap.lt_of_get at13
  replace hin := base_hin.mono hle
  replace hin1 := base_hin1.mono hle
  clear hb4 fs4 ft4 c104 c114 c124 i24 i34 i44 hm4 hi4 hms4 his4 hmt4 hit4
  have hb4 : Prof.At _ g4 0 m p := ⟨Mem.of_get at4, hin⟩
  obtain ⟨fs4, ft4, c104, c114, c124, i24, i34, i44⟩ := hb4.get
  have hm4 : MemN _ _ _ _ _ := ⟨rfl, hb4.1⟩
  have hi4 := hb4.2
  have hms4 : MemN _ _ _ _ _ := ⟨rfl, fs4.1⟩
  have his4 := fs4.2
  have hmt4 : MemN _ _ _ _ _ := ⟨rfl, ft4.1⟩
  have hit4 := ft4.2
  clear hb5 fs5 ft5 c105 c115 c125 i25 i35 i45 hm5 hi5 hms5 his5 hmt5 hit5
  have hb5 : Prof.At _ g5 0 k q := ⟨Mem.of_get at5, hin1⟩
  obtain ⟨fs5, ft5, c105, c115, c125, i25, i35, i45⟩ := hb5.get
  have hm5 : MemN _ _ _ _ _ := ⟨rfl, hb5.1⟩
  have hi5 := hb5.2
  have hms5 : MemN _ _ _ _ _ := ⟨rfl, fs5.1⟩
  have his5 := fs5.2
  have hmt5 : MemN _ _ _ _ _ := ⟨rfl, ft5.1⟩
  have hit5 := ft5.2
  refine .m rfl rfl rfl (.assign rfl) (.nil ?_)
  refine hK2 _ _ ?_
  refine .seq (fun K3 hK3 => ?_)
  refine .seq (fun K4 hK4 => ?_)
  refine .region (.m rfl rfl rfl (.assign rfl) (.nil ?_))
  refine hK4 _ _ ?_
  refine .block ?_
  refine .loopR (σ := Nat × (Nat → Option Addr) × Nat × Nat) [(2, some _), (3, some _), (4, some _), (5, some _)] (fun (y, rr, gL9, nL9) => [(10, some (.int .i64 (y : Int))), (9, some (.slice (some ⟨gL9, 0, none⟩) nL9 nL9))]) (fun (y, rr, gL9, nL9) H' => St [g13] H13 H' ∧ H'.get gL9 = some (.row ((slsL rr (ctL m k x z y 0 0))) 22 true) ∧ (gL9 = g13 ∨ H13.next ≤ gL9) ∧ nL9 = (slsL rr (ctL m k x z y 0 0)).length ∧ y ≤ m.t.obj.toNat ∧ OwnL H.next H' 2 rr (ctL m k x z y 0 0)) (fun (y, rr, gL9, nL9) => m.t.obj.toNat - y) ((0, fun _ => none, _, _)) ⟨rfl, rfl, rfl, rfl, trivial⟩ ⟨rfl, rfl, trivial⟩ ?_ ?_
  ·
   refine ⟨.refl _ _, by first | assumption | exact at13 | simpa using at13, .inl rfl, by first | rfl | assumption | simp | omega, ?_⟩
   exact ⟨by omega, .nil _ _ _ _⟩
  rintro ⟨y, rr, gL9, nL9⟩ HL1 ⟨lst1, at_L9, pl_L9, ln_L9, hI⟩ KL1 hKL1
  refine .forget (fr' := [(10, some (.int .i64 (y : Int))), (9, some (.slice (some ⟨gL9, 0, none⟩) nL9 nL9)), (2, some _), (3, some _), (4, some _), (5, some _)]) ⟨rfl, rfl, rfl, rfl, rfl, rfl, trivial⟩ ?_
  have ge_L9 : H.next ≤ gL9 := by omega
  have nx_HL1 := lst1.nx
  replace hle := hle.st lst1 (fun k hk => ⟨by omega, trivial⟩)
  have ne_g4_g13 : g4 ≠ g13 := by omega
  replace at4 := lst1.same _ _ ⟨ne_g4_g13, trivial⟩ at4
  have ne_g5_g13 : g5 ≠ g13 := by omega
  replace at5 := lst1.same _ _ ⟨ne_g5_g13, trivial⟩ at5
  have lt_at_L9 := GHeap.lt_of_get at_L9
  replace hin := base_hin.mono hle
  replace hin1 := base_hin1.mono hle
  clear hb4 fs4 ft4 c104 c114 c124 i24 i34 i44 hm4 hi4 hms4 his4 hmt4 hit4
  have hb4 : Prof.At _ g4 0 m p := ⟨Mem.of_get at4, hin⟩
  obtain ⟨fs4, ft4, c104, c114, c124, i24, i34, i44⟩ := hb4.get
  have hm4 : MemN _ _ _ _ _ := ⟨rfl, hb4.1⟩
  have hi4 := hb4.2
  have hms4 : MemN _ _ _ _ _ := ⟨rfl, fs4.1⟩
  have his4 := fs4.2
  have hmt4 : MemN _ _ _ _ _ := ⟨rfl, ft4.1⟩
  have hit4 := ft4.2
  clear hb5 fs5 ft5 c105 c115 c125 i25 i35 i45 hm5 hi5 hms5 his5 hmt5 hit5
  have hb5 : Prof.At _ g5 0 k q := ⟨Mem.of_get at5, hin1⟩
  obtain ⟨fs5, ft5, c105, c115, c125, i25, i35, i45⟩ := hb5.get
  have hm5 : MemN _ _ _ _ _ := ⟨rfl, hb5.1⟩
  have hi5 := hb5.2
  have hms5 : MemN _ _ _ _ _ := ⟨rfl, fs5.1⟩
  have his5 := fs5.2
  have hmt5 : MemN _ _ _ _ _ := ⟨rfl, ft5.1⟩
  have hit5 := ft5.2
  obtain ⟨hy, hR⟩ := hI
  refine .seq (fun K5 hK5 => ?_)
  refine .seq (fun K6 hK6 => ?_)
  refine .region ?_
  obtain ⟨d0, d1, d2, d3, d4, e1, e2, e3, e4⟩ := ft4.get
  refine .m rfl rfl rfl (.move rfl) (.m rfl rfl rfl (.fieldAddr fo_40_1_VProf rfl) (.m rfl rfl rfl (.fieldAddr fo_27_0_B rfl) ?_))
  refine .m rfl rfl rfl (.load on_2_A rfl (by first | assumption | exact Mem.of_get at4 5 _ rfl)) ?_
  refine .m rfl rfl rfl (.cmp rfl rfl rfl) (.nil ?_)
  refine hK6 _ _ ?_
  refine .cond rfl (fun h18 => ?_) (fun h18 => ?_)
  ·
   simp only [sps] at h18
   have hpe := b7 y (by omega)
   have hqe := b8 y (by omega)
   have u1 := i24.2 x.toNat (by omega)
   have u2 := i25.2 y (by omega)
   refine .skip ?_
   refine hK5 _ _ ?_
   refine .seq (fun K7 hK7 => ?_)
   refine .block ?_
   refine .seq (fun K8 hK8 => ?_)
   refine .region (.m rfl rfl rfl (.assign rfl) (.nil ?_))
   refine hK8 _ _ ?_
   refine .block ?_
   refine .loopR (σ := Nat × (Nat → Option Addr) × Nat × Nat) [(2, some _), (3, some _), (4, some _), (5, some _), (10, some _)] (fun (e, r2, gL9v2, nL9v2) => [(11, some (.int .i64 (e : Int))), (9, some (.slice (some ⟨gL9v2, 0, none⟩) nL9v2 nL9v2))]) (fun (e, r2, gL9v2, nL9v2) H' => St [gL9] HL1 H' ∧ H'.get gL9v2 = some (.row ((slsL r2 (ctL m k x z y e 0))) 22 true) ∧ (gL9v2 = gL9 ∨ HL1.next ≤ gL9v2) ∧ nL9v2 = (slsL r2 (ctL m k x z y e 0)).length ∧ e ≤ ((m.sz.getD x.toNat []).getD y 0).toNat ∧ OwnL H.next H' 2 r2 (ctL m k x z y e 0)) (fun (e, r2, gL9v2, nL9v2) => ((m.sz.getD x.toNat []).getD y 0).toNat - e) ((0, rr, _, _)) ⟨rfl, rfl, rfl, rfl, rfl, trivial⟩ ⟨rfl, rfl, trivial⟩ ?_ ?_
   ·
    refine ⟨.refl _ _, by first | assumption | exact at_L9 | simpa using at_L9, .inl rfl, by first | rfl | assumption | simp | omega, ?_⟩
    exact ⟨by omega, hR⟩
   rintro ⟨e, r2, gL9v2, nL9v2⟩ HL2 ⟨lst2, at_L9v2, pl_L9v2, ln_L9v2, hI⟩ KL2 hKL2
   refine .forget (fr' := [(11, some (.int .i64 (e : Int))), (9, some (.slice (some ⟨gL9v2, 0, none⟩) nL9v2 nL9v2)), (2, some _), (3, some _), (4, some _), (5, some _), (10, some _)]) ⟨rfl, rfl, rfl, rfl, rfl, rfl, rfl, trivial⟩ ?_
   have ge_L9v2 : H.next ≤ gL9v2 := by omega
   have nx_HL2 := lst2.nx
   replace hle := hle.st lst2 (fun k hk => ⟨by omega, trivial⟩)
   replace lst1 := lst1.st lst2 (fun k hk ho => by simp only [out, and_true] at ho ⊢ <;> first | exact ho | exact ho.1 | exact ho.2 | exact ho.2.1 | exact ho.2.2 | exact ho.2.2.1 | exact ho.2.2.2 | omega)
   have ne_g4_gL9 : g4 ≠ gL9 := by omega
   replace at4 := lst2.same _ _ ⟨ne_g4_gL9, trivial⟩ at4
   have ne_g5_gL9 : g5 ≠ gL9 := by omega
   replace at5 := lst2.same _ _ ⟨ne_g5_gL9, trivial⟩ at5
   have lt_at_L9v2 := GHeap.lt_of_get at_L9v2
   replace hin := base_hin.mono hle
   replace hin1 := base_hin1.mono hle
   clear hb4 fs4 ft4 c104 c114 c124 i24 i34 i44 hm4 hi4 hms4 his4 hmt4 hit4
   have hb4 : Prof.At _ g4 0 m p := ⟨Mem.of_get at4, hin⟩
   obtain ⟨fs4, ft4, c104, c114, c124, i24, i34, i44⟩ := hb4.get
   have hm4 : MemN _ _ _ _ _ := ⟨rfl, hb4.1⟩
   have hi4 := hb4.2
   have hms4 : MemN _ _ _ _ _ := ⟨rfl, fs4.1⟩
   have his4 := fs4.2
   have hmt4 : MemN _ _ _ _ _ := ⟨rfl, ft4.1⟩
   have hit4 := ft4.2
   clear hb5 fs5 ft5 c105 c115 c125 i25 i35 i45 hm5 hi5 hms5 his5 hmt5 hit5
   have hb5 : Prof.At _ g5 0 k q := ⟨Mem.of_get at5, hin1⟩
   obtain ⟨fs5, ft5, c105, c115, c125, i25, i35, i45⟩ := hb5.get
   have hm5 : MemN _ _ _ _ _ := ⟨rfl, hb5.1⟩
   have hi5 := hb5.2
   have hms5 : MemN _ _ _ _ _ := ⟨rfl, fs5.1⟩
   have his5 := fs5.2
   have hmt5 : MemN _ _ _ _ _ := ⟨rfl, ft5.1⟩
   have hit5 := ft5.2
   clear u1 u2
   have u1 := i24.2 x.toNat (by omega)
   have u2 := i25.2 y (by omega)
   obtain ⟨he, hR⟩ := hI
   refine .seq (fun K9 hK9 => ?_)
   refine .seq (fun K10 hK10 => ?_)
   refine .region (.m rfl rfl rfl (.move rfl) (.m rfl rfl rfl (.fieldAddr fo_40_2_VProf rfl) ?_))
   refine .m rfl rfl rfl (.load on_23_B rfl (by first | assumption | exact Mem.of_get at4 10 _ rfl)) ?_
   refine .m rfl rfl rfl (.move rfl) ?_
   refine .m rfl rfl rfl (.idx1 sl_23_B (Intss.sl (by assumption)) rfl rfl (by omega) (by omega)) ?_
   refine .m rfl rfl rfl (.loadR on_22_B (by assumption) rfl (by omega)) ?_
   refine .m rfl rfl rfl (.move rfl) ?_
   refine .m rfl rfl rfl (.idxN sl_22_A (by assumption) rfl rfl (by omega)) ?_
   refine .m rfl rfl rfl (.loadI on_2_A (by assumption) rfl (by omega)) ?_
   refine .m rfl rfl rfl (.cmp rfl rfl rfl) (.nil ?_)
   refine hK10 _ _ ?_
   refine .cond rfl (fun h30 => ?_) (fun h30 => ?_)
   ·
    simp only [sps] at h30
    refine .skip ?_
    refine hK9 _ _ ?_
    refine .seq (fun K11 hK11 => ?_)
    refine .block ?_
    refine .seq (fun K12 hK12 => ?_)
    refine .region (.m rfl rfl rfl (.assign rfl) (.nil ?_))
    refine hK12 _ _ ?_
    refine .block ?_
    refine .loopR (σ := Nat × (Nat → Option Addr) × Nat × Nat) [(2, some _), (3, some _), (4, some _), (5, some _), (10, some _), (11, some _)] (fun (d, r3, gL9v3, nL9v3) => [(12, some (.int .i64 (d : Int))), (9, some (.slice (some ⟨gL9v3, 0, none⟩) nL9v3 nL9v3))]) (fun (d, r3, gL9v3, nL9v3) H' => St [gL9v2] HL2 H' ∧ H'.get gL9v3 = some (.row ((slsL r3 (ctL m k x z y e d))) 22 true) ∧ (gL9v3 = gL9v2 ∨ HL2.next ≤ gL9v3) ∧ nL9v3 = (slsL r3 (ctL m k x z y e d)).length ∧ d ≤ ((k.sz.getD y []).getD z.toNat 0).toNat ∧ OwnL H.next H' 2 r3 (ctL m k x z y e d)) (fun (d, r3, gL9v3, nL9v3) => ((k.sz.getD y []).getD z.toNat 0).toNat - d) ((0, r2, _, _)) ⟨rfl, rfl, rfl, rfl, rfl, rfl, trivial⟩ ⟨rfl, rfl, trivial⟩ ?_ ?_
    ·
     refine ⟨.refl _ _, by first | assumption | exact at_L9v2 | simpa using at_L9v2, .inl rfl, by first | rfl | assumption | simp | omega, ?_⟩
     exact ⟨by omega, hR⟩
    rintro ⟨d, r3, gL9v3, nL9v3⟩ HL3 ⟨lst3, at_L9v3, pl_L9v3, ln_L9v3, hI⟩ KL3 hKL3
    refine .forget (fr' := [(12, some (.int .i64 (d : Int))), (9, some (.slice (some ⟨gL9v3, 0, none⟩) nL9v3 nL9v3)), (2, some _), (3, some _), (4, some _), (5, some _), (10, some _), (11, some _)]) ⟨rfl, rfl, rfl, rfl, rfl, rfl, rfl, rfl, trivial⟩ ?_
    have ge_L9v3 : H.next ≤ gL9v3 := by omega
    have nx_HL3 := lst3.nx
    replace hle := hle.st lst3 (fun k hk => ⟨by omega, trivial⟩)
    replace lst1 := lst1.st lst3 (fun k hk ho => by simp only [out, and_true] at ho ⊢ <;> first | exact ho | exact ho.1 | exact ho.2 | exact ho.2.1 | exact ho.2.2 | exact ho.2.2.1 | exact ho.2.2.2 | omega)
    replace lst2 := lst2.st lst3 (fun k hk ho => by simp only [out, and_true] at ho ⊢ <;> first | exact ho | exact ho.1 | exact ho.2 | exact ho.2.1 | exact ho.2.2 | exact ho.2.2.1 | exact ho.2.2.2 | omega)
    have ne_g4_gL9v2 : g4 ≠ gL9v2 := by omega
    replace at4 := lst3.same _ _ ⟨ne_g4_gL9v2, trivial⟩ at4
    have ne_g5_gL9v2 : g5 ≠ gL9v2 := by omega
    replace at5 := lst3.same _ _ ⟨ne_g5_gL9v2, trivial⟩ at5
    have lt_at_L9v3 := GHeap.lt_of_get at_L9v3
    replace hin := base_hin.mono hle
    replace hin1 := base_hin1.mono hle
    clear hb4 fs4 ft4 c104 c114 c124 i24 i34 i44 hm4 hi4 hms4 his4 hmt4 hit4
    have hb4 : Prof.At _ g4 0 m p := ⟨Mem.of_get at4, hin⟩
    obtain ⟨fs4, ft4, c104, c114, c124, i24, i34, i44⟩ := hb4.get
    have hm4 : MemN _ _ _ _ _ := ⟨rfl, hb4.1⟩
    have hi4 := hb4.2
    have hms4 : MemN _ _ _ _ _ := ⟨rfl, fs4.1⟩
    have his4 := fs4.2
    have hmt4 : MemN _ _ _ _ _ := ⟨rfl, ft4.1⟩
    have hit4 := ft4.2
    clear hb5 fs5 ft5 c105 c115 c125 i25 i35 i45 hm5 hi5 hms5 his5 hmt5 hit5
    have hb5 : Prof.At _ g5 0 k q := ⟨Mem.of_get at5, hin1⟩
    obtain ⟨fs5, ft5, c105, c115, c125, i25, i35, i45⟩ := hb5.get
    have hm5 : MemN _ _ _ _ _ := ⟨rfl, hb5.1⟩
    have hi5 := hb5.2
    have hms5 : MemN _ _ _ _ _ := ⟨rfl, fs5.1⟩
    have his5 := fs5.2
    have hmt5 : MemN _ _ _ _ _ := ⟨rfl, ft5.1⟩
    have hit5 := ft5.2
    clear u1 u2
    have u1 := i24.2 x.toNat (by omega)
    have u2 := i25.2 y (by omega)
    have rk := St.refl [gL9v3] HL3
    obtain ⟨hd, hR⟩ := hI
    have hat9 := at_L9v3
    have hln := hc.len (y := y) (e := e) (d := d) (by omega) (by omega) hd
    have hfl : (slsL r3 (ctL m k x z y e d)).length = (ctL m k x z y e d).length := length_slsL _ _
    refine .seq (fun K13 hK13 => ?_)
    refine .seq (fun K14 hK14 => ?_)
    refine .region (.m rfl rfl rfl (.move rfl) (.m rfl rfl rfl (.fieldAddr fo_40_2_VProf rfl) ?_))
    refine .m rfl rfl rfl (.load on_23_B rfl (by first | assumption | exact Mem.of_get at5 10 _ rfl)) ?_
    refine .m rfl rfl rfl (.move rfl) ?_
    refine .m rfl rfl rfl (.idxN sl_23_B (Intss.sl (by assumption)) rfl rfl (by omega)) ?_
    refine .m rfl rfl rfl (.loadR on_22_B (by assumption) rfl (by omega)) ?_
    refine .m rfl rfl rfl (.move rfl) ?_
    refine .m rfl rfl rfl (.idx1 sl_22_A (by assumption) rfl rfl (by omega) (by omega)) ?_
    refine .m rfl rfl rfl (.loadI on_2_A (by assumption) rfl (by omega)) ?_
    refine .m rfl rfl rfl (.cmp rfl rfl rfl) (.nil ?_)
    refine hK14 _ _ ?_
    refine .cond rfl (fun h42 => ?_) (fun h42 => ?_)
    ·
     simp only [sps] at h42
     refine .skip ?_
     refine hK13 _ _ ?_
     refine .seq (fun K15 hK15 => ?_)
     refine .block ?_
     refine .region (.m rfl rfl rfl (.move rfl) (.m rfl rfl rfl (.move rfl) (.m rfl rfl rfl (.move rfl) ?_)))
     refine .m rfl rfl rfl (.move rfl) ?_
     refine .r rfl rfl rfl (.litR rfl sl_22_A ze_2_E rfl rfl (by omega) (by omega) rfl rfl) ?_
     rintro _ H49 ⟨g49, rfl, le49, ge49, at49⟩
     have nx_H49 := le49.1
     replace hle := hle.trans le49
     replace lst1 := lst1.le le49
     replace lst2 := lst2.le le49
     replace lst3 := lst3.le le49
     replace rk := rk.le le49
     replace at4 := le49.2 _ _ at4
     replace at5 := le49.2 _ _ at5
     replace at_L9v3 := le49.2 _ _ at_L9v3
     have lt_at49 := GHeap.lt_of_get at49
     replace hin := base_hin.mono hle
     replace hin1 := base_hin1.mono hle
     clear hb4 fs4 ft4 c104 c114 c124 i24 i34 i44 hm4 hi4 hms4 his4 hmt4 hit4
     have hb4 : Prof.At _ g4 0 m p := ⟨Mem.of_get at4, hin⟩
     obtain ⟨fs4, ft4, c104, c114, c124, i24, i34, i44⟩ := hb4.get
     have hm4 : MemN _ _ _ _ _ := ⟨rfl, hb4.1⟩
     have hi4 := hb4.2
     have hms4 : MemN _ _ _ _ _ := ⟨rfl, fs4.1⟩
     have his4 := fs4.2
     have hmt4 : MemN _ _ _ _ _ := ⟨rfl, ft4.1⟩
     have hit4 := ft4.2
     clear hb5 fs5 ft5 c105 c115 c125 i25 i35 i45 hm5 hi5 hms5 his5 hmt5 hit5
     have hb5 : Prof.At _ g5 0 k q := ⟨Mem.of_get at5, hin1⟩
     obtain ⟨fs5, ft5, c105, c115, c125, i25, i35, i45⟩ := hb5.get
     have hm5 : MemN _ _ _ _ _ := ⟨rfl, hb5.1⟩
     have hi5 := hb5.2
     have hms5 : MemN _ _ _ _ _ := ⟨rfl, fs5.1⟩
     have his5 := fs5.2
     have hmt5 : MemN _ _ _ _ _ := ⟨rfl, ft5.1⟩
     have hit5 := ft5.2
     clear u1 u2
     have u1 := i24.2 x.toNat (by omega)
     have u2 := i25.2 y (by omega)
     refine .r rfl rfl rfl (.litR rfl sl_23_B ze_22_E rfl rfl (by omega) (by omega) rfl rfl) ?_
     rintro _ H50 ⟨g50, rfl, le50, ge50, at50⟩
     have nx_H50 := le50.1
     replace hle := hle.trans le50
     replace lst1 := lst1.le le50
     replace lst2 := lst2.le le50
     replace lst3 := lst3.le le50
     replace rk := rk.le le50
     replace at4 := le50.2 _ _ at4
     replace at5 := le50.2 _ _ at5
     replace at_L9v3 := le50.2 _ _ at_L9v3
     replace at49 := le50.2 _ _ at49
     have lt_at50 := GHeap.lt_of_get at50
     replace hin := base_hin.mono hle
     replace hin1 := base_hin1.mono hle
     clear hb4 fs4 ft4 c104 c114 c124 i24 i34 i44 hm4 hi4 hms4 his4 hmt4 hit4
     have hb4 : Prof.At _ g4 0 m p := ⟨Mem.of_get at4, hin⟩
     obtain ⟨fs4, ft4, c104, c114, c124, i24, i34, i44⟩ := hb4.get
     have hm4 : MemN _ _ _ _ _ := ⟨rfl, hb4.1⟩
     have hi4 := hb4.2
     have hms4 : MemN _ _ _ _ _ := ⟨rfl, fs4.1⟩
     have his4 := fs4.2
     have hmt4 : MemN _ _ _ _ _ := ⟨rfl, ft4.1⟩
     have hit4 := ft4.2
     clear hb5 fs5 ft5 c105 c115 c125 i25 i35 i45 hm5 hi5 hms5 his5 hmt5 hit5
     have hb5 : Prof.At _ g5 0 k q := ⟨Mem.of_get at5, hin1⟩
     obtain ⟨fs5, ft5, c105, c115, c125, i25, i35, i45⟩ := hb5.get
     have hm5 : MemN _ _ _ _ _ := ⟨rfl, hb5.1⟩
     have hi5 := hb5.2
     have hms5 : MemN _ _ _ _ _ := ⟨rfl, fs5.1⟩
     have his5 := fs5.2
     have hmt5 : MemN _ _ _ _ _ := ⟨rfl, ft5.1⟩
     have hit5 := ft5.2
     clear u1 u2
     have u1 := i24.2 x.toNat (by omega)
     have u2 := i25.2 y (by omega)
     refine .r rfl rfl rfl (.appendV rfl sl_23_B ze_22_E rfl by_22_E sl_23_B rfl rfl (by assumption) (by assumption) (by first | omega | (simp <;> omega)) rfl rfl (by omega) (by omega)) ?_
     rintro _ H51 ⟨g51, rfl, st51, ge51, at51⟩
     have nx_H51 := st51.nx
     replace hle := hle.st st51 (fun k hk => ⟨by omega, trivial⟩)
     replace lst1 := lst1.st st51 (fun k hk ho => by simp only [out, and_true] at ho ⊢ <;> first | exact ho | exact ho.1 | exact ho.2 | exact ho.2.1 | exact ho.2.2 | exact ho.2.2.1 | exact ho.2.2.2 | omega)
     replace lst2 := lst2.st st51 (fun k hk ho => by simp only [out, and_true] at ho ⊢ <;> first | exact ho | exact ho.1 | exact ho.2 | exact ho.2.1 | exact ho.2.2 | exact ho.2.2.1 | exact ho.2.2.2 | omega)
     replace lst3 := lst3.st st51 (fun k hk ho => by simp only [out, and_true] at ho ⊢ <;> first | exact ho | exact ho.1 | exact ho.2 | exact ho.2.1 | exact ho.2.2 | exact ho.2.2.1 | exact ho.2.2.2 | omega)
     replace rk := rk.st st51 (fun k hk ho => by simp only [out, and_true] at ho ⊢ <;> first | exact ho | exact ho.1 | exact ho.2 | exact ho.2.1 | exact ho.2.2 | exact ho.2.2.1 | exact ho.2.2.2 | omega)
     have ne_g4_gL9v3 : g4 ≠ gL9v3 := by omega
     replace at4 := st51.same _ _ ⟨ne_g4_gL9v3, trivial⟩ at4
     have ne_g5_gL9v3 : g5 ≠ gL9v3 := by omega
     replace at5 := st51.same _ _ ⟨ne_g5_gL9v3, trivial⟩ at5
     have ne_g49_gL9v3 : g49 ≠ gL9v3 := by omega
     replace at49 := st51.same _ _ ⟨ne_g49_gL9v3, trivial⟩ at49
     have ne_g50_gL9v3 : g50 ≠ gL9v3 := by omega
     replace at50 := st51.same _ _ ⟨ne_g50_gL9v3, trivial⟩ at50
     have lt_at51 := GHeap.lt_of_get at51
     replace hin := base_hin.mono hle
     replace hin1 := base_hin1.mono hle
     clear hb4 fs4 ft4 c104 c114 c124 i24 i34 i44 hm4 hi4 hms4 his4 hmt4 hit4
     have hb4 : Prof.At _ g4 0 m p := ⟨Mem.of_get at4, hin⟩
     obtain ⟨fs4, ft4, c104, c114, c124, i24, i34, i44⟩ := hb4.get
     have hm4 : MemN _ _ _ _ _ := ⟨rfl, hb4.1⟩
     have hi4 := hb4.2
     have hms4 : MemN _ _ _ _ _ := ⟨rfl, fs4.1⟩
     have his4 := fs4.2
     have hmt4 : MemN _ _ _ _ _ := ⟨rfl, ft4.1⟩
     have hit4 := ft4.2
     clear hb5 fs5 ft5 c105 c115 c125 i25 i35 i45 hm5 hi5 hms5 his5 hmt5 hit5
     have hb5 : Prof.At _ g5 0 k q := ⟨Mem.of_get at5, hin1⟩
     obtain ⟨fs5, ft5, c105, c115, c125, i25, i35, i45⟩ := hb5.get
     have hm5 : MemN _ _ _ _ _ := ⟨rfl, hb5.1⟩
     have hi5 := hb5.2
     have hms5 : MemN _ _ _ _ _ := ⟨rfl, fs5.1⟩
     have his5 := fs5.2
     have hmt5 : MemN _ _ _ _ _ := ⟨rfl, ft5.1⟩
     have hit5 := ft5.2
     clear u1 u2
     have u1 := i24.2 x.toNat (by omega)
     have u2 := i25.2 y (by omega)
     refine .m rfl rfl rfl (.assign rfl) (.nil ?_)
     refine hK15 _ _ ?_
     refine .region (.m rfl rfl rfl (.move rfl) ?_)
     refine .m rfl rfl rfl (.add rfl rfl rfl (by omega) (by omega)) ?_
     refine .m rfl rfl rfl (.assign rfl) (.nil ?_)
     refine hKL3 ((d + 1, upd r3 (ctL m k x z y e d).length (some ⟨g49, 0, none⟩), _, _)) _ _ ?_ ?_ ⟨rfl, rfl, rfl, rfl, rfl, rfl, rfl, rfl, trivial⟩
     ·
      refine ⟨lst3, by first | assumption | (rw [ctL_snoc, slsL_snoc]; assumption), by omega, by first | omega | (simp only [List.length_append, List.length_cons, List.length_nil] <;> omega) | (rw [ctL_snoc, slsL_snoc] <;> (first | omega | (simp only [List.length_append, List.length_cons, List.length_nil] <;> omega))), ?_⟩
      exact ⟨by omega, by rw [ctL_snoc]; exact hR.snoc (x := ctPr y e d) (rk.lasts1 hat9 rfl) (by assumption) (by omega) (by omega)⟩
     (dsimp only; omega)
    try simp only [sps] at h42
    refine .exit ?_
    refine hK11 _ _ ?_
    refine .region (.m rfl rfl rfl (.move rfl) ?_)
    refine .m rfl rfl rfl (.add rfl rfl rfl (by omega) (by omega)) ?_
    refine .m rfl rfl rfl (.assign rfl) (.nil ?_)
    obtain rfl : d = ((k.sz.getD y []).getD z.toNat 0).toNat := by omega
    refine hKL2 ((e + 1, r3, _, _)) _ _ ?_ ?_ ⟨rfl, rfl, rfl, rfl, rfl, rfl, rfl, trivial⟩
    ·
     refine ⟨lst2, by first | assumption | (rw [ctL_next2]; assumption), by omega, by first | omega | (simp only [List.length_append, List.length_cons, List.length_nil] <;> omega) | (rw [ctL_next2] <;> (first | omega | (simp only [List.length_append, List.length_cons, List.length_nil] <;> omega))), ?_⟩
     exact ⟨by omega, by rw [ctL_next2]; exact hR⟩
    (dsimp only; omega)
   try simp only [sps] at h30
   refine .exit ?_
   refine hK7 _ _ ?_
   refine .region (.m rfl rfl rfl (.move rfl) ?_)
   refine .m rfl rfl rfl (.add rfl rfl rfl (by omega) (by omega)) ?_
   refine .m rfl rfl rfl (.assign rfl) (.nil ?_)
   obtain rfl : e = ((m.sz.getD x.toNat []).getD y 0).toNat := by omega
   refine hKL1 ((y + 1, r2, _, _)) _ _ ?_ ?_ ⟨rfl, rfl, rfl, rfl, rfl, rfl, trivial⟩
   ·
    refine ⟨lst1, by first | assumption | (rw [ctL_next1]; assumption), by omega, by first | omega | (simp only [List.length_append, List.length_cons, List.length_nil] <;> omega) | (rw [ctL_next1] <;> (first | omega | (simp only [List.length_append, List.length_cons, List.length_nil] <;> omega))), ?_⟩
    exact ⟨by omega, by rw [ctL_next1]; exact hR⟩
   (dsimp only; omega)
  try simp only [sps] at h18
  refine .exit ?_
  refine hK3 _ _ ?_
  refine .seq (fun K16 hK16 => ?_)
  refine .region (.m rfl rfl rfl (.move rfl) (.m rfl rfl rfl (.assign rfl) (.nil ?_)))
  refine hK16 _ _ ?_
  refine .ret ?_
  refine hret _ _ ?_
  refine ⟨_, rfl, ?_⟩
  obtain rfl : y = m.t.obj.toNat := by omega
  exact ⟨hle, _, rr, by rw [ln_L9]; simp, hR.done at_L9 (by omega)⟩
set_option maxHeartbeats 4000000 in
theorem triplesAt_c {g o g' o' : Nat} {m k : Prof} {p q : ProfP} {x z : Int} {H : GHeap} (h : Prof.At H g o m p := by assumption) (h' : Prof.At H g' o' k q := by assumption) (hc : CtOk m k x z m.t.obj.toNat) (ho : 0 ≤ m.t.obj) :
    GCalls Try.prog 123 [.pointer (some ⟨g, o, none⟩), .pointer (some ⟨g', o', none⟩), .int .i64 x, .int .i64 z] H (fun v H' => H.Le H' ∧ ∃ g, v = .slice (some ⟨g, 0, none⟩) (ctL m k x z m.t.obj.toNat 0 0).length (ctL m k x z m.t.obj.toNat 0 0).length ∧ TrAt H.next H' g (ctL m k x z m.t.obj.toNat 0 0)) := by
  obtain ⟨b1, b2, b3, b4, b5, b6, b7, b8⟩ := id hc
  refine GCalls.body (N := 59) (rs := [.tmp 8]) Try.func123 rfl rfl rfl rfl (fun Qx hret hend => ?_)
  refine .forget (fr' := [(0, some _), (1, some _), (2, some _), (3, some _)]) ⟨rfl, rfl, rfl, rfl, trivial⟩ ?_
  have hle := GHeap.Le.refl H
  have base_h := h
  have base_h' := h'
  obtain ⟨fs, ft, c10, c11, c12, i2, i3, i4⟩ := h.get
  have hm : MemN _ _ _ _ _ := ⟨rfl, h.1⟩
  have hi := h.2
  have hms : MemN _ _ _ _ _ := ⟨rfl, fs.1⟩
  have his := fs.2
  have hmt : MemN _ _ _ _ _ := ⟨rfl, ft.1⟩
  have hit := ft.2
  obtain ⟨fsb, ftb, c10b, c11b, c12b, i2b, i3b, i4b⟩ := h'.get
  have hmb : MemN _ _ _ _ _ := ⟨rfl, h'.1⟩
  have hib := h'.2
  have hmsb : MemN _ _ _ _ _ := ⟨rfl, fsb.1⟩
  have hisb := fsb.2
  have hmtb : MemN _ _ _ _ _ := ⟨rfl, ftb.1⟩
  have hitb := ftb.2
  obtain ⟨d0, d1, d2, d3, d4, e1, e2, e3, e4⟩ := ft.get
  refine .seq (fun K1 hK1 => ?_)
  refine .region (.m rfl rfl rfl (.assign rfl) (.nil ?_))
  refine hK1 _ _ ?_
  refine .seq (fun K2 hK2 => ?_)
  refine .region ?_
  refine .r rfl rfl rfl (.litR rfl sl_103_Ct ze_156_Ct rfl rfl (by omega) (by omega) rfl rfl) ?_
  rintro _ H13 ⟨g13, rfl, le13, ge13, at13⟩
  have nx_H13 := le13.1
  replace hle := hle.trans le13
  have lt_at13 := GHeap.lt_of_get at13
  replace h := base_h.mono hle
  replace h' := base_h'.mono hle
  clear fs ft c10 c11 c12 i2 i3 i4 hm hi hms his hmt hit fsb ftb c10b c11b c12b i2b i3b i4b hmb hib hmsb hisb hmtb hitb d0 d1 d2 d3 d4 e1 e2 e3 e4
  obtain ⟨fs, ft, c10, c11, c12, i2, i3, i4⟩ := h.get
  have hm : MemN _ _ _ _ _ := ⟨rfl, h.1⟩
  have hi := h.2
  have hms : MemN _ _ _ _ _ := ⟨rfl, fs.1⟩
  have his := fs.2
  have hmt : MemN _ _ _ _ _ := ⟨rfl, ft.1⟩
  have hit := ft.2
  obtain ⟨fsb, ftb, c10b, c11b, c12b, i2b, i3b, i4b⟩ := h'.get
  have hmb : MemN _ _ _ _ _ := ⟨rfl, h'.1⟩
  have hib := h'.2
  have hmsb : MemN _ _ _ _ _ := ⟨rfl, fsb.1⟩
  have hisb := fsb.2
  have hmtb : MemN _ _ _ _ _ := ⟨rfl, ftb.1⟩
  have hitb := ftb.2
  obtain ⟨d0, d1, d2, d3, d4, e1, e2, e3, e4⟩ := ft.get
  refine .m rfl rfl rfl (.assign rfl) (.nil ?_)
  refine hK2 _ _ ?_
  refine .seq (fun K3 hK3 => ?_)
  refine .seq (fun K4 hK4 => ?_)
  refine .region (.m rfl rfl rfl (.move rfl) (.m rfl rfl rfl (.nilCheck rfl) (.m rfl rfl rfl (.fieldAddr fo_40_1_VProf rfl) ?_)))
  refine .m rfl rfl rfl (.fieldAddr fo_27_0_B rfl) ?_
  refine .m rfl rfl rfl (.load on_2_A rfl (by assumption)) ?_
  refine .m rfl rfl rfl (.move rfl) (.nil ?_)
  refine hK4 _ _ ?_
  refine .block ?_
  refine .loopR (σ := Nat × Nat × Nat) [(0, some _), (1, some _), (2, some _), (3, some _), (18, some _)] (fun (y, gL9, nL9) => [(19, some (.int .i64 (y : Int))), (9, some (.slice (some ⟨gL9, 0, none⟩) nL9 nL9))]) (fun (y, gL9, nL9) H' => St [g13] H13 H' ∧ H'.get gL9 = some (.row (tcells (ctL m k x z y 0 0)) 156 true) ∧ (gL9 = g13 ∨ H13.next ≤ gL9) ∧ nL9 = (ctL m k x z y 0 0).length ∧ y ≤ m.t.obj.toNat) (fun (y, gL9, nL9) => m.t.obj.toNat - y) ((0, _, _)) ⟨rfl, rfl, rfl, rfl, rfl, trivial⟩ ⟨rfl, rfl, trivial⟩ ?_ ?_
  ·
   refine ⟨.refl _ _, by first | assumption | exact at13 | simpa using at13, .inl rfl, by first | rfl | assumption | simp | omega, ?_⟩
   omega
  rintro ⟨y, gL9, nL9⟩ HL1 ⟨lst1, at_L9, pl_L9, ln_L9, hI⟩ KL1 hKL1
  refine .forget (fr' := [(19, some (.int .i64 (y : Int))), (9, some (.slice (some ⟨gL9, 0, none⟩) nL9 nL9)), (0, some _), (1, some _), (2, some _), (3, some _), (18, some _)]) ⟨rfl, rfl, rfl, rfl, rfl, rfl, rfl, trivial⟩ ?_
  have ge_L9 : H.next ≤ gL9 := by omega
  have nx_HL1 := lst1.nx
  replace hle := hle.st lst1 (fun k hk => ⟨by omega, trivial⟩)
  have lt_at_L9 := GHeap.lt_of_get at_L9
  replace h := base_h.mono hle
  replace h' := base_h'.mono hle
  clear fs ft c10 c11 c12 i2 i3 i4 hm hi hms his hmt hit fsb ftb c10b c11b c12b i2b i3b i4b hmb hib hmsb hisb hmtb hitb d0 d1 d2 d3 d4 e1 e2 e3 e4
  obtain ⟨fs, ft, c10, c11, c12, i2, i3, i4⟩ := h.get
  have hm : MemN _ _ _ _ _ := ⟨rfl, h.1⟩
  have hi := h.2
  have hms : MemN _ _ _ _ _ := ⟨rfl, fs.1⟩
  have his := fs.2
  have hmt : MemN _ _ _ _ _ := ⟨rfl, ft.1⟩
  have hit := ft.2
  obtain ⟨fsb, ftb, c10b, c11b, c12b, i2b, i3b, i4b⟩ := h'.get
  have hmb : MemN _ _ _ _ _ := ⟨rfl, h'.1⟩
  have hib := h'.2
  have hmsb : MemN _ _ _ _ _ := ⟨rfl, fsb.1⟩
  have hisb := fsb.2
  have hmtb : MemN _ _ _ _ _ := ⟨rfl, ftb.1⟩
  have hitb := ftb.2
  obtain ⟨d0, d1, d2, d3, d4, e1, e2, e3, e4⟩ := ft.get
  have htl : (tcells (ctL m k x z y 0 0)).length = (ctL m k x z y 0 0).length * 3 := tcells_len ctL_three'
  refine .seq (fun K5 hK5 => ?_)
  refine .region (.m rfl rfl rfl (.cmp rfl rfl rfl) (.nil ?_))
  refine hK5 _ _ ?_
  refine .seq (fun K6 hK6 => ?_)
  refine .cond rfl (fun h20 => ?_) (fun h20 => ?_)
  ·
   simp only [sps] at h20
   have hpe := b7 y (by omega)
   have hqe := b8 y (by omega)
   have u1 := i2.2 x.toNat (by omega)
   have u2 := i2b.2 y (by omega)
   refine .skip ?_
   refine hK6 _ _ ?_
   refine .seq (fun K7 hK7 => ?_)
   refine .block ?_
   refine .seq (fun K8 hK8 => ?_)
   refine .region (.m rfl rfl rfl (.move rfl) (.m rfl rfl rfl (.assign rfl) (.nil ?_)))
   refine hK8 _ _ ?_
   refine .seq (fun K9 hK9 => ?_)
   refine .region (.m rfl rfl rfl (.move rfl) (.m rfl rfl rfl (.nilCheck rfl) (.m rfl rfl rfl (.fieldAddr fo_40_2_VProf rfl) ?_)))
   refine .m rfl rfl rfl (.load on_23_B rfl (by assumption)) ?_
   refine .m rfl rfl rfl (.move rfl) ?_
   refine .m rfl rfl rfl (.idx1 sl_23_B (Intss.sl (by assumption)) rfl rfl (by omega) (by omega)) ?_
   refine .m rfl rfl rfl (.loadR on_22_B (by assumption) rfl (by omega)) ?_
   refine .m rfl rfl rfl (.move rfl) ?_
   refine .m rfl rfl rfl (.idxN sl_22_A (by assumption) rfl rfl (by omega)) ?_
   refine .m rfl rfl rfl (.loadI on_2_A (by assumption) rfl (by omega)) ?_
   refine .m rfl rfl rfl (.move rfl) (.nil ?_)
   refine hK9 _ _ ?_
   refine .block ?_
   refine .loopR (σ := Nat × Nat × Nat) [(0, some _), (1, some _), (2, some _), (3, some _), (10, some _), (18, some _), (19, some _), (31, some _)] (fun (e, gL9v2, nL9v2) => [(32, some (.int .i64 (e : Int))), (9, some (.slice (some ⟨gL9v2, 0, none⟩) nL9v2 nL9v2))]) (fun (e, gL9v2, nL9v2) H' => St [gL9] HL1 H' ∧ H'.get gL9v2 = some (.row (tcells (ctL m k x z y e 0)) 156 true) ∧ (gL9v2 = gL9 ∨ HL1.next ≤ gL9v2) ∧ nL9v2 = (ctL m k x z y e 0).length ∧ e ≤ ((m.sz.getD x.toNat []).getD y 0).toNat) (fun (e, gL9v2, nL9v2) => ((m.sz.getD x.toNat []).getD y 0).toNat - e) ((0, _, _)) ⟨rfl, rfl, rfl, rfl, rfl, rfl, rfl, rfl, trivial⟩ ⟨rfl, rfl, trivial⟩ ?_ ?_
   ·
    refine ⟨.refl _ _, by first | assumption | exact at_L9 | simpa using at_L9, .inl rfl, by first | rfl | assumption | simp | omega, ?_⟩
    omega
   rintro ⟨e, gL9v2, nL9v2⟩ HL2 ⟨lst2, at_L9v2, pl_L9v2, ln_L9v2, hI⟩ KL2 hKL2
   refine .forget (fr' := [(32, some (.int .i64 (e : Int))), (9, some (.slice (some ⟨gL9v2, 0, none⟩) nL9v2 nL9v2)), (0, some _), (1, some _), (2, some _), (3, some _), (10, some _), (18, some _), (19, some _), (31, some _)]) ⟨rfl, rfl, rfl, rfl, rfl, rfl, rfl, rfl, rfl, rfl, trivial⟩ ?_
   have ge_L9v2 : H.next ≤ gL9v2 := by omega
   have nx_HL2 := lst2.nx
   replace hle := hle.st lst2 (fun k hk => ⟨by omega, trivial⟩)
   replace lst1 := lst1.st lst2 (fun k hk ho => by simp only [out, and_true] at ho ⊢ <;> first | exact ho | exact ho.1 | exact ho.2 | exact ho.2.1 | exact ho.2.2 | exact ho.2.2.1 | exact ho.2.2.2 | omega)
   have lt_at_L9v2 := GHeap.lt_of_get at_L9v2
   replace h := base_h.mono hle
   replace h' := base_h'.mono hle
   clear fs ft c10 c11 c12 i2 i3 i4 hm hi hms his hmt hit fsb ftb c10b c11b c12b i2b i3b i4b hmb hib hmsb hisb hmtb hitb d0 d1 d2 d3 d4 e1 e2 e3 e4
   obtain ⟨fs, ft, c10, c11, c12, i2, i3, i4⟩ := h.get
   have hm : MemN _ _ _ _ _ := ⟨rfl, h.1⟩
   have hi := h.2
   have hms : MemN _ _ _ _ _ := ⟨rfl, fs.1⟩
   have his := fs.2
   have hmt : MemN _ _ _ _ _ := ⟨rfl, ft.1⟩
   have hit := ft.2
   obtain ⟨fsb, ftb, c10b, c11b, c12b, i2b, i3b, i4b⟩ := h'.get
   have hmb : MemN _ _ _ _ _ := ⟨rfl, h'.1⟩
   have hib := h'.2
   have hmsb : MemN _ _ _ _ _ := ⟨rfl, fsb.1⟩
   have hisb := fsb.2
   have hmtb : MemN _ _ _ _ _ := ⟨rfl, ftb.1⟩
   have hitb := ftb.2
   obtain ⟨d0, d1, d2, d3, d4, e1, e2, e3, e4⟩ := ft.get
   clear u1 u2
   have u1 := i2.2 x.toNat (by omega)
   have u2 := i2b.2 y (by omega)
   refine .seq (fun K10 hK10 => ?_)
   refine .region (.m rfl rfl rfl (.cmp rfl rfl rfl) (.nil ?_))
   refine hK10 _ _ ?_
   refine .seq (fun K11 hK11 => ?_)
   refine .cond rfl (fun h33 => ?_) (fun h33 => ?_)
   ·
    simp only [sps] at h33
    refine .skip ?_
    refine hK11 _ _ ?_
    refine .seq (fun K12 hK12 => ?_)
    refine .block ?_
    refine .seq (fun K13 hK13 => ?_)
    refine .region (.m rfl rfl rfl (.move rfl) (.m rfl rfl rfl (.assign rfl) (.nil ?_)))
    refine hK13 _ _ ?_
    refine .seq (fun K14 hK14 => ?_)
    refine .region (.m rfl rfl rfl (.move rfl) (.m rfl rfl rfl (.nilCheck rfl) (.m rfl rfl rfl (.fieldAddr fo_40_2_VProf rfl) ?_)))
    refine .m rfl rfl rfl (.load on_23_B rfl (by assumption)) ?_
    refine .m rfl rfl rfl (.move rfl) ?_
    refine .m rfl rfl rfl (.idxN sl_23_B (Intss.sl (by assumption)) rfl rfl (by omega)) ?_
    refine .m rfl rfl rfl (.loadR on_22_B (by assumption) rfl (by omega)) ?_
    refine .m rfl rfl rfl (.move rfl) ?_
    refine .m rfl rfl rfl (.idx1 sl_22_A (by assumption) rfl rfl (by omega) (by omega)) ?_
    refine .m rfl rfl rfl (.loadI on_2_A (by assumption) rfl (by omega)) ?_
    refine .m rfl rfl rfl (.move rfl) (.nil ?_)
    refine hK14 _ _ ?_
    refine .block ?_
    refine .loopR (σ := Nat × Nat × Nat) [(0, some _), (1, some _), (2, some _), (3, some _), (10, some _), (11, some _), (18, some _), (19, some _), (31, some _), (32, some _), (44, some _)] (fun (d, gL9v3, nL9v3) => [(45, some (.int .i64 (d : Int))), (9, some (.slice (some ⟨gL9v3, 0, none⟩) nL9v3 nL9v3))]) (fun (d, gL9v3, nL9v3) H' => St [gL9v2] HL2 H' ∧ H'.get gL9v3 = some (.row (tcells (ctL m k x z y e d)) 156 true) ∧ (gL9v3 = gL9v2 ∨ HL2.next ≤ gL9v3) ∧ nL9v3 = (ctL m k x z y e d).length ∧ d ≤ ((k.sz.getD y []).getD z.toNat 0).toNat) (fun (d, gL9v3, nL9v3) => ((k.sz.getD y []).getD z.toNat 0).toNat - d) ((0, _, _)) ⟨rfl, rfl, rfl, rfl, rfl, rfl, rfl, rfl, rfl, rfl, rfl, trivial⟩ ⟨rfl, rfl, trivial⟩ ?_ ?_
    ·
     refine ⟨.refl _ _, by first | assumption | exact at_L9v2 | simpa using at_L9v2, .inl rfl, by first | rfl | assumption | simp | omega, ?_⟩
     omega
    rintro ⟨d, gL9v3, nL9v3⟩ HL3 ⟨lst3, at_L9v3, pl_L9v3, ln_L9v3, hI⟩ KL3 hKL3
    refine .forget (fr' := [(45, some (.int .i64 (d : Int))), (9, some (.slice (some ⟨gL9v3, 0, none⟩) nL9v3 nL9v3)), (0, some _), (1, some _), (2, some _), (3, some _), (10, some _), (11, some _), (18, some _), (19, some _), (31, some _), (32, some _), (44, some _)]) ⟨rfl, rfl, rfl, rfl, rfl, rfl, rfl, rfl, rfl, rfl, rfl, rfl, rfl, trivial⟩ ?_
    have ge_L9v3 : H.next ≤ gL9v3 := by omega
    have nx_HL3 := lst3.nx
    replace hle := hle.st lst3 (fun k hk => ⟨by omega, trivial⟩)
    replace lst1 := lst1.st lst3 (fun k hk ho => by simp only [out, and_true] at ho ⊢ <;> first | exact ho | exact ho.1 | exact ho.2 | exact ho.2.1 | exact ho.2.2 | exact ho.2.2.1 | exact ho.2.2.2 | omega)
    replace lst2 := lst2.st lst3 (fun k hk ho => by simp only [out, and_true] at ho ⊢ <;> first | exact ho | exact ho.1 | exact ho.2 | exact ho.2.1 | exact ho.2.2 | exact ho.2.2.1 | exact ho.2.2.2 | omega)
    have lt_at_L9v3 := GHeap.lt_of_get at_L9v3
    replace h := base_h.mono hle
    replace h' := base_h'.mono hle
    clear fs ft c10 c11 c12 i2 i3 i4 hm hi hms his hmt hit fsb ftb c10b c11b c12b i2b i3b i4b hmb hib hmsb hisb hmtb hitb d0 d1 d2 d3 d4 e1 e2 e3 e4
    obtain ⟨fs, ft, c10, c11, c12, i2, i3, i4⟩ := h.get
    have hm : MemN _ _ _ _ _ := ⟨rfl, h.1⟩
    have hi := h.2
    have hms : MemN _ _ _ _ _ := ⟨rfl, fs.1⟩
    have his := fs.2
    have hmt : MemN _ _ _ _ _ := ⟨rfl, ft.1⟩
    have hit := ft.2
    obtain ⟨fsb, ftb, c10b, c11b, c12b, i2b, i3b, i4b⟩ := h'.get
    have hmb : MemN _ _ _ _ _ := ⟨rfl, h'.1⟩
    have hib := h'.2
    have hmsb : MemN _ _ _ _ _ := ⟨rfl, fsb.1⟩
    have hisb := fsb.2
    have hmtb : MemN _ _ _ _ _ := ⟨rfl, ftb.1⟩
    have hitb := ftb.2
    obtain ⟨d0, d1, d2, d3, d4, e1, e2, e3, e4⟩ := ft.get
    clear u1 u2
    have u1 := i2.2 x.toNat (by omega)
    have u2 := i2b.2 y (by omega)
    have hln := hc.len (y := y) (e := e) (d := d) (by omega) (by omega) hI
    have htl : (tcells (ctL m k x z y e d)).length = (ctL m k x z y e d).length * 3 := tcells_len ctL_three'
    refine .seq (fun K15 hK15 => ?_)
    refine .region (.m rfl rfl rfl (.cmp rfl rfl rfl) (.nil ?_))
    refine hK15 _ _ ?_
    refine .seq (fun K16 hK16 => ?_)
    refine .cond rfl (fun h46 => ?_) (fun h46 => ?_)
    ·
     simp only [sps] at h46
     refine .skip ?_
     refine hK16 _ _ ?_
     refine .seq (fun K17 hK17 => ?_)
     refine .block ?_
     refine .seq (fun K18 hK18 => ?_)
     refine .region (.m rfl rfl rfl (.move rfl) (.m rfl rfl rfl (.assign rfl) (.nil ?_)))
     refine hK18 _ _ ?_
     refine .region (.m rfl rfl rfl (.move rfl) (.m rfl rfl rfl (.move rfl) (.m rfl rfl rfl (.move rfl) ?_)))
     refine .m rfl rfl rfl (.move rfl) (.m rfl rfl rfl (.build bt_156_Ct rfl rfl rfl) ?_)
     refine .r rfl rfl rfl (.litR rfl sl_103_Ct ze_156_Ct rfl rfl (by omega) (by omega) rfl rfl) ?_
     rintro _ H53 ⟨g53, rfl, le53, ge53, at53⟩
     have nx_H53 := le53.1
     replace hle := hle.trans le53
     replace lst1 := lst1.le le53
     replace lst2 := lst2.le le53
     replace lst3 := lst3.le le53
     replace at_L9v3 := le53.2 _ _ at_L9v3
     have lt_at53 := GHeap.lt_of_get at53
     replace h := base_h.mono hle
     replace h' := base_h'.mono hle
     clear fs ft c10 c11 c12 i2 i3 i4 hm hi hms his hmt hit fsb ftb c10b c11b c12b i2b i3b i4b hmb hib hmsb hisb hmtb hitb d0 d1 d2 d3 d4 e1 e2 e3 e4
     obtain ⟨fs, ft, c10, c11, c12, i2, i3, i4⟩ := h.get
     have hm : MemN _ _ _ _ _ := ⟨rfl, h.1⟩
     have hi := h.2
     have hms : MemN _ _ _ _ _ := ⟨rfl, fs.1⟩
     have his := fs.2
     have hmt : MemN _ _ _ _ _ := ⟨rfl, ft.1⟩
     have hit := ft.2
     obtain ⟨fsb, ftb, c10b, c11b, c12b, i2b, i3b, i4b⟩ := h'.get
     have hmb : MemN _ _ _ _ _ := ⟨rfl, h'.1⟩
     have hib := h'.2
     have hmsb : MemN _ _ _ _ _ := ⟨rfl, fsb.1⟩
     have hisb := fsb.2
     have hmtb : MemN _ _ _ _ _ := ⟨rfl, ftb.1⟩
     have hitb := ftb.2
     obtain ⟨d0, d1, d2, d3, d4, e1, e2, e3, e4⟩ := ft.get
     clear u1 u2
     have u1 := i2.2 x.toNat (by omega)
     have u2 := i2b.2 y (by omega)
     refine .r rfl rfl rfl (.appendV rfl sl_103_Ct ze_156_Ct rfl by_156_Ct sl_103_Ct rfl rfl (by assumption) (by assumption) (by first | omega | (simp <;> omega)) rfl rfl (by omega) (by omega)) ?_
     rintro _ H54 ⟨g54, rfl, st54, ge54, at54⟩
     have nx_H54 := st54.nx
     replace hle := hle.st st54 (fun k hk => ⟨by omega, trivial⟩)
     replace lst1 := lst1.st st54 (fun k hk ho => by simp only [out, and_true] at ho ⊢ <;> first | exact ho | exact ho.1 | exact ho.2 | exact ho.2.1 | exact ho.2.2 | exact ho.2.2.1 | exact ho.2.2.2 | omega)
     replace lst2 := lst2.st st54 (fun k hk ho => by simp only [out, and_true] at ho ⊢ <;> first | exact ho | exact ho.1 | exact ho.2 | exact ho.2.1 | exact ho.2.2 | exact ho.2.2.1 | exact ho.2.2.2 | omega)
     replace lst3 := lst3.st st54 (fun k hk ho => by simp only [out, and_true] at ho ⊢ <;> first | exact ho | exact ho.1 | exact ho.2 | exact ho.2.1 | exact ho.2.2 | exact ho.2.2.1 | exact ho.2.2.2 | omega)
     have ne_g53_gL9v3 : g53 ≠ gL9v3 := by omega
     replace at53 := st54.same _ _ ⟨ne_g53_gL9v3, trivial⟩ at53
     have lt_at54 := GHeap.lt_of_get at54
     replace h := base_h.mono hle
     replace h' := base_h'.mono hle
     clear fs ft c10 c11 c12 i2 i3 i4 hm hi hms his hmt hit fsb ftb c10b c11b c12b i2b i3b i4b hmb hib hmsb hisb hmtb hitb d0 d1 d2 d3 d4 e1 e2 e3 e4
     obtain ⟨fs, ft, c10, c11, c12, i2, i3, i4⟩ := h.get
     have hm : MemN _ _ _ _ _ := ⟨rfl, h.1⟩
     have hi := h.2
     have hms : MemN _ _ _ _ _ := ⟨rfl, fs.1⟩
     have his := fs.2
     have hmt : MemN _ _ _ _ _ := ⟨rfl, ft.1⟩
     have hit := ft.2
     obtain ⟨fsb, ftb, c10b, c11b, c12b, i2b, i3b, i4b⟩ := h'.get
     have hmb : MemN _ _ _ _ _ := ⟨rfl, h'.1⟩
     have hib := h'.2
     have hmsb : MemN _ _ _ _ _ := ⟨rfl, fsb.1⟩
     have hisb := fsb.2
     have hmtb : MemN _ _ _ _ _ := ⟨rfl, ftb.1⟩
     have hitb := ftb.2
     obtain ⟨d0, d1, d2, d3, d4, e1, e2, e3, e4⟩ := ft.get
     clear u1 u2
     have u1 := i2.2 x.toNat (by omega)
     have u2 := i2b.2 y (by omega)
     refine .m rfl rfl rfl (.assign rfl) (.nil ?_)
     refine hK17 _ _ ?_
     refine .region ?_
     refine .m rfl rfl rfl (.add rfl rfl rfl (by omega) (by omega)) ?_
     refine .m rfl rfl rfl (.move rfl) (.nil ?_)
     refine hKL3 ((d + 1, _, _)) _ _ ?_ ?_ ⟨rfl, rfl, rfl, rfl, rfl, rfl, rfl, rfl, rfl, rfl, rfl, rfl, rfl, trivial⟩
     ·
      refine ⟨lst3, by first | assumption | (rw [ctT_snoc]; assumption) | (rw [ctL_snoc]; assumption), by omega, by first | omega | (simp only [List.length_append, List.length_cons, List.length_nil] <;> omega) | (rw [ctT_snoc] <;> (first | omega | (simp only [List.length_append, List.length_cons, List.length_nil] <;> omega))) | (rw [ctL_snoc] <;> (first | omega | (simp only [List.length_append, List.length_cons, List.length_nil] <;> omega))), ?_⟩
      omega
     (dsimp only; omega)
    try simp only [sps] at h46
    refine .exit ?_
    refine hK12 _ _ ?_
    refine .region ?_
    refine .m rfl rfl rfl (.add rfl rfl rfl (by omega) (by omega)) ?_
    refine .m rfl rfl rfl (.move rfl) (.nil ?_)
    obtain rfl : d = ((k.sz.getD y []).getD z.toNat 0).toNat := by omega
    refine hKL2 ((e + 1, _, _)) _ _ ?_ ?_ ⟨rfl, rfl, rfl, rfl, rfl, rfl, rfl, rfl, rfl, rfl, trivial⟩
    ·
     refine ⟨lst2, by first | assumption | (rw [ctL_next2]; assumption), by omega, by first | omega | (simp only [List.length_append, List.length_cons, List.length_nil] <;> omega) | (rw [ctL_next2] <;> (first | omega | (simp only [List.length_append, List.length_cons, List.length_nil] <;> omega))), ?_⟩
     omega
    (dsimp only; omega)
   try simp only [sps] at h33
   refine .exit ?_
   refine hK7 _ _ ?_
   refine .region ?_
   refine .m rfl rfl rfl (.add rfl rfl rfl (by omega) (by omega)) ?_
   refine .m rfl rfl rfl (.move rfl) (.nil ?_)
   obtain rfl : e = ((m.sz.getD x.toNat []).getD y 0).toNat := by omega
   refine hKL1 ((y + 1, _, _)) _ _ ?_ ?_ ⟨rfl, rfl, rfl, rfl, rfl, rfl, rfl, trivial⟩
   ·
    refine ⟨lst1, by first | assumption | (rw [ctL_next1]; assumption), by omega, by first | omega | (simp only [List.length_append, List.length_cons, List.length_nil] <;> omega) | (rw [ctL_next1] <;> (first | omega | (simp only [List.length_append, List.length_cons, List.length_nil] <;> omega))), ?_⟩
    omega
   (dsimp only; omega)
  try simp only [sps] at h20
  refine .exit ?_
  refine hK3 _ _ ?_
  refine .seq (fun K19 hK19 => ?_)
  refine .region (.m rfl rfl rfl (.move rfl) (.m rfl rfl rfl (.assign rfl) (.nil ?_)))
  refine hK19 _ _ ?_
  refine .ret ?_
  refine hret _ _ ?_
  refine ⟨_, rfl, ?_⟩
  obtain rfl : y = m.t.obj.toNat := by omega
  exact ⟨hle, _, by rw [ln_L9], by omega, ctL_three', _, at_L9⟩
theorem triplesCode0_c {g o g' o' : Nat} {m k : Prof} {p q : ProfP} {x z : Int} {H : GHeap} (h : Prof.At H g o m p := by assumption) (h' : Prof.At H g' o' k q := by assumption) (hs : m.Small := by assumption) (hs1 : k.Small := by assumption) (hz : ctCode m k x z = 0 := by assumption) :
    GCalls Try.prog 77 [.pointer (some ⟨g, o, none⟩), .pointer (some ⟨g', o', none⟩), .int .i64 x, .int .i64 z] H (fun v H' => H.Le H' ∧ ∃ g, v = .tuple #[.slice (some ⟨g, 0, none⟩) (ctL m k x z m.t.obj.toNat 0 0).length (ctL m k x z m.t.obj.toNat 0 0).length, .int .i64 0] ∧ TrAt H.next H' g (ctL m k x z m.t.obj.toNat 0 0)) := by
  obtain ⟨z1, z2, z3, z4, z5, z6, z7⟩ := ctCode_0 hz
  obtain ⟨z8, z9⟩ := CtOk.of z1 z2 z3 z4 z5 z6 z7
  have w1 := hs.2.1
  have w2 := hs1.1
  have hob1 := z1.1.s.1.obj
  have hob2 := z2.1.t.1.obj
  refine GCalls.body (N := 51) (rs := [.tmp 8, .tmp 9]) Try.func77 rfl rfl rfl rfl (fun Qx hret hend => ?_)
  refine .forget (fr' := [(0, some _), (1, some _), (2, some _), (3, some _)]) ⟨rfl, rfl, rfl, rfl, trivial⟩ ?_
  have hle := GHeap.Le.refl H
  have base_h := h
  have base_h' := h'
  obtain ⟨fs, ft, c10, c11, c12, i2, i3, i4⟩ := h.get
  have hm : MemN _ _ _ _ _ := ⟨rfl, h.1⟩
  have hi := h.2
  have hms : MemN _ _ _ _ _ := ⟨rfl, fs.1⟩
  have his := fs.2
  have hmt : MemN _ _ _ _ _ := ⟨rfl, ft.1⟩
  have hit := ft.2
  obtain ⟨fsb, ftb, c10b, c11b, c12b, i2b, i3b, i4b⟩ := h'.get
  have hmb : MemN _ _ _ _ _ := ⟨rfl, h'.1⟩
  have hib := h'.2
  have hmsb : MemN _ _ _ _ _ := ⟨rfl, fsb.1⟩
  have hisb := fsb.2
  have hmtb : MemN _ _ _ _ _ := ⟨rfl, ftb.1⟩
  have hitb := ftb.2
  obtain ⟨d0, d1, d2, d3, d4, e1, e2, e3, e4⟩ := fs.get
  obtain ⟨f0, f1, f2, f3, f4, u1, u2, u3, u4⟩ := ftb.get
  refine .seq (fun K1 hK1 => ?_)
  refine .region (.m rfl rfl rfl (.assign rfl) (.m rfl rfl rfl (.assign rfl) (.nil ?_)))
  refine hK1 _ _ ?_
  refine .seq (fun K2 hK2 => ?_)
  refine .seq (fun K3 hK3 => ?_)
  refine .region (.m rfl rfl rfl (.move rfl) ?_)
  refine .callQ rfl rfl rfl rfl @Try.call57 rfl (isProfunctor_c) ?_
  refine .m rfl rfl rfl (.not rfl) (.m rfl rfl rfl (.move rfl) ?_)
  refine .split (fun h13 => ?_) (fun h13 => ?_)
  ·
   exact absurd z1 (by simpa only [sps] using h13)
  try simp only [sps] at h13
  refine .mg rfl rfl rfl rfl rfl (.move rfl) ?_
  refine .callQg rfl rfl rfl rfl rfl rfl @Try.call57 rfl (isProfunctor_c) ?_
  refine .mg rfl rfl rfl rfl rfl (.not rfl) (.m rfl rfl rfl (.pickF rfl rfl) (.nil ?_))
  refine hK3 _ _ ?_
  refine .cond rfl (fun h17 => ?_) (fun h17 => ?_)
  ·
   exact absurd z2 (by simpa only [sps] using h17)
  try simp only [sps] at h17
  refine .skip ?_
  refine hK2 _ _ ?_
  refine .seq (fun K4 hK4 => ?_)
  refine .seq (fun K5 hK5 => ?_)
  refine .region (.m rfl rfl rfl (.move rfl) (.m rfl rfl rfl (.move rfl) (.m rfl rfl rfl (.nilCheck rfl) ?_)))
  refine .m rfl rfl rfl (.fieldAddr fo_40_0_VProf rfl) (.m rfl rfl rfl (.fieldAddr fo_27_0_B rfl) ?_)
  refine .m rfl rfl rfl (.load on_2_A rfl (by assumption)) ?_
  refine .m rfl rfl rfl (.sub rfl rfl rfl (by omega) (by omega)) ?_
  refine .callQ rfl rfl rfl rfl @Try.call66 rfl (inRange_c) ?_
  refine .m rfl rfl rfl (.not rfl) (.m rfl rfl rfl (.move rfl) ?_)
  refine .split (fun h27 => ?_) (fun h27 => ?_)
  ·
   simp only [sps] at h27; omega
  try simp only [sps] at h27
  refine .mg rfl rfl rfl rfl rfl (.move rfl) (.mg rfl rfl rfl rfl rfl (.move rfl) (.mg rfl rfl rfl rfl rfl (.nilCheck rfl) (.mg rfl rfl rfl rfl rfl (.fieldAddr fo_40_1_VProf rfl) ?_)))
  refine .mg rfl rfl rfl rfl rfl (.fieldAddr fo_27_0_B rfl) ?_
  refine .mg rfl rfl rfl rfl rfl (.load on_2_A rfl (by assumption)) ?_
  refine .mg rfl rfl rfl rfl rfl (.sub rfl rfl rfl (by omega) (by omega)) ?_
  refine .callQg rfl rfl rfl rfl rfl rfl @Try.call66 rfl (inRange_c) ?_
  refine .mg rfl rfl rfl rfl rfl (.not rfl) (.m rfl rfl rfl (.pickF rfl rfl) (.nil ?_))
  refine hK5 _ _ ?_
  refine .cond rfl (fun h37 => ?_) (fun h37 => ?_)
  ·
   simp only [sps] at h37; omega
  try simp only [sps] at h37
  refine .skip ?_
  refine hK4 _ _ ?_
  refine .seq (fun K6 hK6 => ?_)
  refine .seq (fun K7 hK7 => ?_)
  refine .regionD mixed_orders_B (.q 0 (.q 1 (.q 2 (.q 3 (.q 4 (.q 5 (.c 6 0 (.q 7 (.done))))))))) (by kernel_rfl) ?_
  refine .m rfl rfl rfl rfl (.refl _) (.move rfl) (.m rfl rfl rfl rfl (.refl _) (.nilCheck rfl) (.m rfl rfl rfl rfl (.refl _) (.fieldAddr fo_40_1_VProf rfl) (.m rfl rfl rfl rfl (.refl _) (.move rfl) ?_)))
  refine .m rfl rfl rfl rfl (.refl _) (.nilCheck rfl) (.m rfl rfl rfl rfl (.refl _) (.fieldAddr fo_40_0_VProf rfl) ?_)
  refine .callQ0 rfl rfl rfl rfl rfl @Try.call119 rfl (sameCategory_c) ?_
  refine .m rfl rfl rfl rfl (.refl _) (.not rfl) ?_
  refine .done ?_
  refine hK7 _ _ ?_
  refine .cond rfl (fun h45 => ?_) (fun h45 => ?_)
  ·
   exact absurd z7 (by simpa only [sps] using h45)
  try simp only [sps] at h45
  refine .skip ?_
  refine hK6 _ _ ?_
  refine .seq (fun K8 hK8 => ?_)
  refine .region (.m rfl rfl rfl (.move rfl) (.m rfl rfl rfl (.move rfl) (.m rfl rfl rfl (.move rfl) ?_)))
  refine .m rfl rfl rfl (.move rfl) ?_
  refine .call rfl rfl rfl rfl @Try.call123 rfl (triplesAt_c (hc := z8) (ho := z9)) ?_
  rintro _ H50 ⟨le50, g50, rfl, v50⟩
  have nx_H50 := le50.1
  replace hle := hle.trans le50
  have bs_v50 := v50
  have lv_v50 : Keep H.next H50 H50 := fun _ _ _ h => h
  replace h := base_h.mono hle
  replace h' := base_h'.mono hle
  clear fs ft c10 c11 c12 i2 i3 i4 hm hi hms his hmt hit fsb ftb c10b c11b c12b i2b i3b i4b hmb hib hmsb hisb hmtb hitb d0 d1 d2 d3 d4 e1 e2 e3 e4 f0 f1 f2 f3 f4 u1 u2 u3 u4
  obtain ⟨fs, ft, c10, c11, c12, i2, i3, i4⟩ := h.get
  have hm : MemN _ _ _ _ _ := ⟨rfl, h.1⟩
  have hi := h.2
  have hms : MemN _ _ _ _ _ := ⟨rfl, fs.1⟩
  have his := fs.2
  have hmt : MemN _ _ _ _ _ := ⟨rfl, ft.1⟩
  have hit := ft.2
  obtain ⟨fsb, ftb, c10b, c11b, c12b, i2b, i3b, i4b⟩ := h'.get
  have hmb : MemN _ _ _ _ _ := ⟨rfl, h'.1⟩
  have hib := h'.2
  have hmsb : MemN _ _ _ _ _ := ⟨rfl, fsb.1⟩
  have hisb := fsb.2
  have hmtb : MemN _ _ _ _ _ := ⟨rfl, ftb.1⟩
  have hitb := ftb.2
  obtain ⟨d0, d1, d2, d3, d4, e1, e2, e3, e4⟩ := fs.get
  obtain ⟨f0, f1, f2, f3, f4, u1, u2, u3, u4⟩ := ftb.get
  refine .m rfl rfl rfl (.assign rfl) (.m rfl rfl rfl (.assign rfl) (.nil ?_))
  refine hK8 _ _ ?_
  refine .ret ?_
  refine hret _ _ ?_
  refine ⟨_, _, rfl, rfl, ?_⟩
  exact ⟨hle, _, rfl, v50.keep (.of_le (.refl _)) (by omega)⟩
theorem triplesCode1_c {g o g' o' : Nat} {m k : Prof} {p q : ProfP} {x z : Int} {H : GHeap} (h : Prof.At H g o m p := by assumption) (h' : Prof.At H g' o' k q := by assumption) (hs : m.Small := by assumption) (hs1 : k.Small := by assumption) (hz : ¬ ctCode m k x z = 0 := by assumption) :
    GCalls Try.prog 77 [.pointer (some ⟨g, o, none⟩), .pointer (some ⟨g', o', none⟩), .int .i64 x, .int .i64 z] H (Ret (.tuple #[.slice none 0 0, .int .i64 (ctCode m k x z)]) H) := by
  refine GCalls.ret rfl ?_
  have w1 := hs.2.1
  have w2 := hs1.1
  refine GCalls.body (N := 51) (rs := [.tmp 8, .tmp 9]) Try.func77 rfl rfl rfl rfl (fun Qx hret hend => ?_)
  refine .forget (fr' := [(0, some _), (1, some _), (2, some _), (3, some _)]) ⟨rfl, rfl, rfl, rfl, trivial⟩ ?_
  have hle := GHeap.Le.refl H
  have base_h := h
  have base_h' := h'
  obtain ⟨fs, ft, c10, c11, c12, i2, i3, i4⟩ := h.get
  have hm : MemN _ _ _ _ _ := ⟨rfl, h.1⟩
  have hi := h.2
  have hms : MemN _ _ _ _ _ := ⟨rfl, fs.1⟩
  have his := fs.2
  have hmt : MemN _ _ _ _ _ := ⟨rfl, ft.1⟩
  have hit := ft.2
  obtain ⟨fsb, ftb, c10b, c11b, c12b, i2b, i3b, i4b⟩ := h'.get
  have hmb : MemN _ _ _ _ _ := ⟨rfl, h'.1⟩
  have hib := h'.2
  have hmsb : MemN _ _ _ _ _ := ⟨rfl, fsb.1⟩
  have hisb := fsb.2
  have hmtb : MemN _ _ _ _ _ := ⟨rfl, ftb.1⟩
  have hitb := ftb.2
  obtain ⟨d0, d1, d2, d3, d4, e1, e2, e3, e4⟩ := fs.get
  obtain ⟨f0, f1, f2, f3, f4, u1, u2, u3, u4⟩ := ftb.get
  refine .seq (fun K1 hK1 => ?_)
  refine .region (.m rfl rfl rfl (.assign rfl) (.m rfl rfl rfl (.assign rfl) (.nil ?_)))
  refine hK1 _ _ ?_
  refine .seq (fun K2 hK2 => ?_)
  refine .seq (fun K3 hK3 => ?_)
  refine .region (.m rfl rfl rfl (.move rfl) ?_)
  refine .callQ rfl rfl rfl rfl @Try.call57 rfl (isProfunctor_c) ?_
  refine .m rfl rfl rfl (.not rfl) (.m rfl rfl rfl (.move rfl) ?_)
  refine .split (fun h13 => ?_) (fun h13 => ?_)
  ·
   simp only [sps] at h13
   refine .sg rfl rfl rfl rfl rfl (.sg rfl rfl rfl rfl rfl (.sg rfl rfl rfl rfl rfl (.m rfl rfl rfl (.pickT rfl rfl) ?_)))
   refine .nil ?_
   refine hK3 _ _ ?_
   refine .condT rfl ?_
   refine .seq (fun K4 hK4 => ?_)
   refine .region (.m rfl rfl rfl (.assign rfl) (.m rfl rfl rfl (.assign rfl) (.nil ?_)))
   refine hK4 _ _ ?_
   refine .ret ?_
   refine hret _ _ ?_
   refine ⟨_, _, rfl, rfl, ?_⟩
   first
   | exact ⟨by rw [ctCode_1 fun hh => absurd hh.1 (by assumption)], hle⟩
   | exact ⟨by rw [ctCode_1 fun hh => absurd hh.2 (by assumption)], hle⟩
   | exact ⟨by rw [ctCode_2 ⟨by assumption, by assumption⟩ (by omega)], hle⟩
   | exact ⟨by rw [ctCode_3 ⟨by assumption, by assumption⟩ ⟨by omega, by omega⟩ (by assumption)], hle⟩
  simp only [sps] at h13
  refine .mg rfl rfl rfl rfl rfl (.move rfl) ?_
  refine .callQg rfl rfl rfl rfl rfl rfl @Try.call57 rfl (isProfunctor_c) ?_
  refine .mg rfl rfl rfl rfl rfl (.not rfl) (.m rfl rfl rfl (.pickF rfl rfl) (.nil ?_))
  refine hK3 _ _ ?_
  refine .cond rfl (fun h17 => ?_) (fun h17 => ?_)
  ·
   simp only [sps] at h17
   refine .seq (fun K5 hK5 => ?_)
   refine .region (.m rfl rfl rfl (.assign rfl) (.m rfl rfl rfl (.assign rfl) (.nil ?_)))
   refine hK5 _ _ ?_
   refine .ret ?_
   refine hret _ _ ?_
   refine ⟨_, _, rfl, rfl, ?_⟩
   first
   | exact ⟨by rw [ctCode_1 fun hh => absurd hh.1 (by assumption)], hle⟩
   | exact ⟨by rw [ctCode_1 fun hh => absurd hh.2 (by assumption)], hle⟩
   | exact ⟨by rw [ctCode_2 ⟨by assumption, by assumption⟩ (by omega)], hle⟩
   | exact ⟨by rw [ctCode_3 ⟨by assumption, by assumption⟩ ⟨by omega, by omega⟩ (by assumption)], hle⟩
  simp only [sps] at h17
  refine .skip ?_
  refine hK2 _ _ ?_
  refine .seq (fun K6 hK6 => ?_)
  refine .seq (fun K7 hK7 => ?_)
  refine .region ?_
  have hob1 := h13.1.s.1.obj
  have hob2 := h17.1.t.1.obj
  refine .m rfl rfl rfl (.move rfl) (.m rfl rfl rfl (.move rfl) (.m rfl rfl rfl (.nilCheck rfl) (.m rfl rfl rfl (.fieldAddr fo_40_0_VProf rfl) ?_)))
  refine .m rfl rfl rfl (.fieldAddr fo_27_0_B rfl) ?_
  refine .m rfl rfl rfl (.load on_2_A rfl (by assumption)) ?_
  refine .m rfl rfl rfl (.sub rfl rfl rfl (by omega) (by omega)) ?_
  refine .callQ rfl rfl rfl rfl @Try.call66 rfl (inRange_c) ?_
  refine .m rfl rfl rfl (.not rfl) (.m rfl rfl rfl (.move rfl) ?_)
  refine .split (fun h27 => ?_) (fun h27 => ?_)
  ·
   simp only [sps] at h27
   refine .sg rfl rfl rfl rfl rfl (.sg rfl rfl rfl rfl rfl (.sg rfl rfl rfl rfl rfl (.sg rfl rfl rfl rfl rfl ?_)))
   refine .sg rfl rfl rfl rfl rfl (.sg rfl rfl rfl rfl rfl (.sg rfl rfl rfl rfl rfl (.sg rfl rfl rfl rfl rfl ?_)))
   refine .sg rfl rfl rfl rfl rfl (.m rfl rfl rfl (.pickT rfl rfl) (.nil ?_))
   refine hK7 _ _ ?_
   refine .condT rfl ?_
   refine .seq (fun K8 hK8 => ?_)
   refine .region (.m rfl rfl rfl (.assign rfl) (.m rfl rfl rfl (.assign rfl) (.nil ?_)))
   refine hK8 _ _ ?_
   refine .ret ?_
   refine hret _ _ ?_
   refine ⟨_, _, rfl, rfl, ?_⟩
   first
   | exact ⟨by rw [ctCode_1 fun hh => absurd hh.1 (by assumption)], hle⟩
   | exact ⟨by rw [ctCode_1 fun hh => absurd hh.2 (by assumption)], hle⟩
   | exact ⟨by rw [ctCode_2 ⟨by assumption, by assumption⟩ (by omega)], hle⟩
   | exact ⟨by rw [ctCode_3 ⟨by assumption, by assumption⟩ ⟨by omega, by omega⟩ (by assumption)], hle⟩
  simp only [sps] at h27
  refine .mg rfl rfl rfl rfl rfl (.move rfl) (.mg rfl rfl rfl rfl rfl (.move rfl) (.mg rfl rfl rfl rfl rfl (.nilCheck rfl) (.mg rfl rfl rfl rfl rfl (.fieldAddr fo_40_1_VProf rfl) ?_)))
  refine .mg rfl rfl rfl rfl rfl (.fieldAddr fo_27_0_B rfl) ?_
  refine .mg rfl rfl rfl rfl rfl (.load on_2_A rfl (by assumption)) ?_
  refine .mg rfl rfl rfl rfl rfl (.sub rfl rfl rfl (by omega) (by omega)) ?_
  refine .callQg rfl rfl rfl rfl rfl rfl @Try.call66 rfl (inRange_c) ?_
  refine .mg rfl rfl rfl rfl rfl (.not rfl) (.m rfl rfl rfl (.pickF rfl rfl) (.nil ?_))
  refine hK7 _ _ ?_
  refine .cond rfl (fun h37 => ?_) (fun h37 => ?_)
  ·
   simp only [sps] at h37
   refine .seq (fun K9 hK9 => ?_)
   refine .region (.m rfl rfl rfl (.assign rfl) (.m rfl rfl rfl (.assign rfl) (.nil ?_)))
   refine hK9 _ _ ?_
   refine .ret ?_
   refine hret _ _ ?_
   refine ⟨_, _, rfl, rfl, ?_⟩
   first
   | exact ⟨by rw [ctCode_1 fun hh => absurd hh.1 (by assumption)], hle⟩
   | exact ⟨by rw [ctCode_1 fun hh => absurd hh.2 (by assumption)], hle⟩
   | exact ⟨by rw [ctCode_2 ⟨by assumption, by assumption⟩ (by omega)], hle⟩
   | exact ⟨by rw [ctCode_3 ⟨by assumption, by assumption⟩ ⟨by omega, by omega⟩ (by assumption)], hle⟩
  simp only [sps] at h37
  refine .skip ?_
  refine hK6 _ _ ?_
  refine .seq (fun K10 hK10 => ?_)
  refine .seq (fun K11 hK11 => ?_)
  refine .regionD mixed_orders_B (.q 0 (.q 1 (.q 2 (.q 3 (.q 4 (.q 5 (.c 6 0 (.q 7 (.done))))))))) (by kernel_rfl) ?_
  refine .m rfl rfl rfl rfl (.refl _) (.move rfl) (.m rfl rfl rfl rfl (.refl _) (.nilCheck rfl) (.m rfl rfl rfl rfl (.refl _) (.fieldAddr fo_40_1_VProf rfl) (.m rfl rfl rfl rfl (.refl _) (.move rfl) ?_)))
  refine .m rfl rfl rfl rfl (.refl _) (.nilCheck rfl) (.m rfl rfl rfl rfl (.refl _) (.fieldAddr fo_40_0_VProf rfl) ?_)
  refine .callQ0 rfl rfl rfl rfl rfl @Try.call119 rfl (sameCategory_c) ?_
  refine .m rfl rfl rfl rfl (.refl _) (.not rfl) ?_
  refine .done ?_
  refine hK11 _ _ ?_
  refine .cond rfl (fun h45 => ?_) (fun h45 => ?_)
  ·
   simp only [sps] at h45
   refine .seq (fun K12 hK12 => ?_)
   refine .region (.m rfl rfl rfl (.assign rfl) (.m rfl rfl rfl (.assign rfl) (.nil ?_)))
   refine hK12 _ _ ?_
   refine .ret ?_
   refine hret _ _ ?_
   refine ⟨_, _, rfl, rfl, ?_⟩
   first
   | exact ⟨by rw [ctCode_1 fun hh => absurd hh.1 (by assumption)], hle⟩
   | exact ⟨by rw [ctCode_1 fun hh => absurd hh.2 (by assumption)], hle⟩
   | exact ⟨by rw [ctCode_2 ⟨by assumption, by assumption⟩ (by omega)], hle⟩
   | exact ⟨by rw [ctCode_3 ⟨by assumption, by assumption⟩ ⟨by omega, by omega⟩ (by assumption)], hle⟩
  simp only [sps] at h45; exact absurd (ctCode_4 ⟨by assumption, by assumption⟩ ⟨by omega, by omega⟩ (by assumption)) hz
end Go.Proofs.Ytgnfekfdmgnhcaa
/- Quotients of categories: what a congruence is, said in two ways. No condition. -/
namespace Go.GL
/-- The first with k's label. -/
abbrev rep (xs : List Int) (k : Nat) : Nat := least (kerB xs) k
theorem rep_lab (xs : List Int) (k : Nat) : xs.getD (rep xs k) 0 = xs.getD k 0 := by
  have := (least_mate (kerB_eqv xs (k + 1)) (i := k) (by omega)).1
  unfold kerB at this
  exact eq_of_beq this
theorem rep_eq {xs : List Int} {a b : Nat} : rep xs a = rep xs b ↔ xs.getD a 0 = xs.getD b 0 := by
  have := least_congr_mate (kerB_eqv xs (a + b + 1)) (i := a) (j := b) (by omega) (by omega)
  rw [this]; simp [kerB]
/-- Each number with the first one of its label. -/
def pairsL (xs : List Int) (m : Nat) : List (List Int) := (List.range m).map fun i => [(rep xs i : Int), (i : Int)]
@[simp] theorem length_pairsL (xs : List Int) (m : Nat) : (pairsL xs m).length = m := by simp [pairsL]
/-- a; b. -/
abbrev Cat.tn (c : Cat) (a b : Nat) : Nat := ((c.comp.getD a []).getD b 0).toNat
theorem Cat.Shape.tn {c : Cat} (h : c.Shape) {a b : Nat} (ha : a < c.src.length) (hb : b < c.src.length) (e : c.tgt.getD a 0 = c.src.getD b 0) :
    c.tn a b < c.src.length ∧ c.src.getD (c.tn a b) 0 = c.src.getD a 0 ∧ c.tgt.getD (c.tn a b) 0 = c.tgt.getD b 0 ∧ (c.comp.getD a []).getD b 0 = (c.tn a b : Int) := by
  have h1 := (Cat.Cell.pos e).1 (h.cell a (by have := h.cl; omega) b hb)
  obtain ⟨h2, h3, h4, h5⟩ := h1
  exact ⟨by unfold Cat.tn; omega, h4, h5, by unfold Cat.tn; omega⟩
/-- Labels of one class lie side by side. -/
def Cat.ParOk (c : Cat) (xs : List Int) : Prop := ∀ k, k < c.src.length → c.src.getD (rep xs k) 0 = c.src.getD k 0 ∧ c.tgt.getD (rep xs k) 0 = c.tgt.getD k 0
/-- The class of a composite is told by the classes of its parts. -/
def Cat.CmpOk (c : Cat) (xs : List Int) : Prop := ∀ i, i < c.src.length → ∀ j, j < c.src.length → c.tgt.getD i 0 = c.src.getD j 0 → xs.getD (c.tn i j) 0 = xs.getD (c.tn (rep xs i) (rep xs j)) 0
/-- A congruence. -/
structure Cat.Cong (c : Cat) (xs : List Int) : Prop where
  len : xs.length = c.src.length
  nor : clsL (kerB xs) xs.length = xs
  par : c.ParOk xs
  cmp : c.CmpOk xs

/-! ### The list of all that must be joined. -/
def Cat.quOk (c : Cat) (xs : List Int) (t : Nat × Nat × Nat) : Bool := decide (c.tgt.getD t.2.1 0 = c.src.getD (rep xs t.1) 0) && decide (c.tgt.getD (rep xs t.1) 0 = c.src.getD t.2.2 0)
def Cat.quRow (c : Cat) (xs : List Int) (t : Nat × Nat × Nat) : List Int := [(c.tn (c.tn t.2.1 (rep xs t.1)) t.2.2 : Int), (c.tn (c.tn t.2.1 t.1) t.2.2 : Int)]
def quT (n k i j : Nat) : List (Nat × Nat × Nat) := nest3 (fun a b d => (a, b, d)) (fun _ => n) (fun _ _ => n) k i j
def Cat.quL (c : Cat) (xs : List Int) (k i j : Nat) : List (List Int) := pairsL xs c.src.length ++ ((quT c.src.length k i j).filter (c.quOk xs)).map (c.quRow xs)
theorem Cat.quL_zero (c : Cat) (xs : List Int) : c.quL xs 0 0 0 = pairsL xs c.src.length := by simp [Cat.quL, quT, nest3_zero]
@[simp] theorem Cat.quL_len0 (c : Cat) (xs : List Int) : (c.quL xs 0 0 0).length = c.src.length := by rw [Cat.quL_zero, length_pairsL]
/-! ### The program's test. -/
/-- The first k labels are numbered in order. -/
def NorK (xs : List Int) (k : Nat) : Prop := ∀ i, i < k → xs.getD i 0 = clsAt (kerB xs) i
theorem NorK.zero (xs : List Int) : NorK xs 0 := fun i hi => by omega
theorem reps_lt_of {xs : List Int} {j k : Nat} (hj : least (kerB xs) j = j) (h : j < k) : reps (kerB xs) j < reps (kerB xs) k := by
  have h5 := reps_mono (K := kerB xs) (a := j + 1) h
  rw [reps_succ, if_pos hj] at h5
  omega
theorem NorK.old {xs : List Int} {k : Nat} (h : NorK xs k) (hl : least (kerB xs) k < k) : xs.getD k 0 = clsAt (kerB xs) k ∧ xs.getD k 0 < (reps (kerB xs) k : Int) := by
  have h1 := rep_lab xs k
  have h2 := h _ hl
  have hi := least_idem (kerB_eqv xs (k + 1)) (i := k) (by omega)
  have h3 := reps_lt_of (xs := xs) hi hl
  unfold clsAt at h2 ⊢
  rw [hi] at h2
  unfold rep at h1
  omega
theorem NorK.lo {xs : List Int} {k : Nat} (h : NorK xs k) (h0 : 0 ≤ xs.getD k 0) (h1 : xs.getD k 0 < (reps (kerB xs) k : Int)) : NorK xs (k + 1) ∧ reps (kerB xs) (k + 1) = reps (kerB xs) k := by
  obtain ⟨j, hj, hjj, hr, _⟩ := seenL_at (xs := xs) (i := k) (m := (xs.getD k 0).toNat) (by rw [length_seenL]; omega)
  have hx : xs.getD j 0 = xs.getD k 0 := by
    rw [h j hj]; unfold clsAt; rw [hjj]; omega
  have hlt : least (kerB xs) k < k := by
    have e : rep xs j = rep xs k := rep_eq.2 hx
    unfold rep at e
    omega
  refine ⟨fun i hi => ?_, by rw [reps_succ, if_neg (by omega)]; rfl⟩
  by_cases e : i < k
  · exact h i e
  · obtain rfl : i = k := by omega
    exact (h.old hlt).1
theorem NorK.hi {xs : List Int} {k : Nat} (h : NorK xs k) (h1 : xs.getD k 0 = (reps (kerB xs) k : Int)) : NorK xs (k + 1) ∧ reps (kerB xs) (k + 1) = reps (kerB xs) k + 1 := by
  have hk : least (kerB xs) k = k := by
    have := least_le (kerB xs) k
    refine Classical.byContradiction fun hne => ?_
    have := (h.old (by omega)).2
    omega
  refine ⟨fun i hi => ?_, by rw [reps_succ, if_pos hk]⟩
  by_cases e : i < k
  · exact h i e
  · obtain rfl : i = k := by omega
    unfold clsAt; rw [hk]; exact h1
end Go.GL
/- Quotients of categories: the quotient itself. No condition. -/
namespace Go.GL
/-- The first arrows of the classes among the first n. -/
def repL (xs : List Int) (n : Nat) : List Nat := (List.range n).filter fun i => rep xs i == i
/-- The quotient. -/
def Cat.quoX (c : Cat) (xs : List Int) (i j : Nat) : Int := if 0 ≤ (c.comp.getD i []).getD j 0 then xs.getD ((c.comp.getD i []).getD j 0).toNat 0 else (c.comp.getD i []).getD j 0
def Cat.quo (c : Cat) (xs : List Int) : Cat where
  obj := c.obj
  src := (repL xs xs.length).map fun i => c.src.getD i 0
  tgt := (repL xs xs.length).map fun i => c.tgt.getD i 0
  idn := c.idn.map fun a => xs.getD a.toNat 0
  comp := (repL xs xs.length).map fun i => (repL xs xs.length).map fun j => c.quoX xs i j

/-! ### Arrays that are filled from behind: the first one of each label stays. -/
def fromL (xs : List Int) (n e : Nat) (v : Int) : Option Nat := (List.range n).find? fun i => decide (e ≤ i) && xs.getD i 0 == v
def backL (xs : List Int) (f : Nat → Int) (m n e : Nat) : List Int := (List.range m).map fun (v : Nat) => match fromL xs n e v with | some i => f i | none => 0
@[simp] theorem length_backL (xs : List Int) (f : Nat → Int) (m n e : Nat) : (backL xs f m n e).length = m := by simp [backL]
end Go.GL
/- Rows of their own beside other blocks; tables that are filled row by row. No condition. -/
namespace Go.GL
/-- None of the first n rows lies in one of these blocks. -/
def Off (r : Nat → Option Addr) (n : Nat) (gs : List Nat) : Prop := ∀ i, i < n → ∀ g, r i = some ⟨g, 0, none⟩ → out gs g
theorem Off.nil (r : Nat → Option Addr) (n : Nat) : Off r n [] := fun _ _ _ _ => trivial
theorem Off.cons {r : Nat → Option Addr} {n g : Nat} {gs : List Nat} (h : ∀ i, i < n → r i ≠ some ⟨g, 0, none⟩) (h' : Off r n gs) : Off r n (g :: gs) := fun i hi k hk => ⟨fun e => h i hi (by rw [hk, e]), h' i hi k hk⟩
theorem Off.head {r : Nat → Option Addr} {n g : Nat} {gs : List Nat} (h : Off r n (g :: gs)) : ∀ i, i < n → r i ≠ some ⟨g, 0, none⟩ := fun i hi e => (h i hi g e).1 rfl
theorem Off.zero (r : Nat → Option Addr) (gs : List Nat) : Off r 0 gs := fun _ hi => by omega
theorem OwnRows.st {b k : Nat} {bs : List Nat} {H H' : GHeap} {e : TypeId} {r : Nat → Option Addr} {X : Nat → List Int} (h : OwnRows b H e r X k) (s : St bs H H') (ho : Off r k bs) : OwnRows b H' e r X k := ⟨fun i hi => by
  obtain ⟨x, h1, h2, h3⟩ := h.row i hi
  exact ⟨x, h1, h2, s.same x _ (ho i hi x h1) h3⟩, h.inj⟩
theorem OwnL.st {b : Nat} {bs : List Nat} {H H' : GHeap} {e : TypeId} {r : Nat → Option Addr} {xss : List (List Int)} (h : OwnL b H e r xss) (s : St bs H H') (ho : Off r xss.length bs) : OwnL b H' e r xss := OwnRows.st h s ho
theorem OwnL.ne {b g : Nat} {H : GHeap} {e : TypeId} {r : Nat → Option Addr} {xss : List (List Int)} (h : OwnL b H e r xss) (hg : H.next ≤ g) : ∀ i, i < xss.length → r i ≠ some ⟨g, 0, none⟩ := fun i hi e => by
  obtain ⟨x, h1, _, h3⟩ := h.row i hi
  rw [h1] at e
  cases e
  have := GHeap.lt_of_get h3
  omega
/-! ### Tables -/
/-- The first k of n lists are there. -/
def fillS (r : Nat → Option Addr) (n k : Nat) : List Value := (List.range n).map fun i => if i < k then .slice (r i) n n else .slice none 0 0
@[simp] theorem length_fillS (r : Nat → Option Addr) (n k : Nat) : (fillS r n k).length = n := by simp [fillS]
/-- A list filled from the front. -/
def fillI (c : Nat → Int) (n k : Nat) : List Int := (List.range n).map fun i => if i < k then c i else 0
@[simp] theorem length_fillI (c : Nat → Int) (n k : Nat) : (fillI c n k).length = n := by simp [fillI]
/-- A table of composites: -1 where the ends do not meet. -/
def tabC (src tgt : List Int) (X : Nat → Nat → Int) (i j : Nat) : Int := if tgt.getD i 0 = src.getD j 0 then X i j else -1
def tabR (src tgt : List Int) (X : Nat → Nat → Int) (n i : Nat) : List Int := (List.range n).map (tabC src tgt X i)
@[simp] theorem length_tabR (src tgt : List Int) (X : Nat → Nat → Int) (n i : Nat) : (tabR src tgt X n i).length = n := by simp [tabR]
end Go.GL
/- Quotients of categories: the first arrows as numbers, and the result. No condition. -/
namespace Go.GL
def repI (xs : List Int) (n : Nat) : List Int := (repL xs n).map fun (i : Nat) => (i : Int)
@[simp] theorem length_repI (xs : List Int) (n : Nat) : (repI xs n).length = (repL xs n).length := by simp [repI]
theorem NorK.lt {xs : List Int} {n k : Nat} (h : NorK xs n) (hk : k < n) : xs.getD k 0 < (reps (kerB xs) n : Int) := by
  rw [h k hk]
  unfold clsAt
  have := reps_lt_of (least_idem (kerB_eqv xs n) hk) (Nat.lt_of_le_of_lt (least_le (kerB xs) k) hk)
  omega
end Go.GL
/- Rows of truth values, made and written in place; parts that connectives make. No condition. -/
namespace Go.GL
def tabB (n : Nat) (p : Nat → Bool) : List Bool := (List.range n).map p
@[simp] theorem length_tabB (n : Nat) (p : Nat → Bool) : (tabB n p).length = n := by simp [tabB]
theorem tabB_congr {n : Nat} {p q : Nat → Bool} (h : ∀ i, i < n → p i = q i) : tabB n p = tabB n q := List.map_congr_left fun i hi => h i (List.mem_range.1 hi)
/-- Slices of whole rows. -/
def slsN (r : Nat → Nat) (L : Nat → Nat) (k : Nat) : List Value := (List.range k).map fun i => .slice (some ⟨r i, 0, none⟩) (L i) (L i)
@[simp] theorem length_slsN (r : Nat → Nat) (L : Nat → Nat) (k : Nat) : (slsN r L k).length = k := by simp [slsN]
def updN (r : Nat → Nat) (k g : Nat) : Nat → Nat := fun i => if i = k then g else r i
theorem updN_eq (r : Nat → Nat) (k g : Nat) : updN r k g k = g := by simp [updN]
theorem updN_ne {r : Nat → Nat} {k i g : Nat} (h : i ≠ k) : updN r k g i = r i := by simp [updN, h]
/-- Rows of elements of type e live on. -/
def LastsV (e : TypeId) (H H' : GHeap) : Prop := ∀ x cs, H.get x = some (.row cs e true) → H'.get x = some (.row cs e true)
theorem LastsV.trans {e : TypeId} {A B C : GHeap} (h : LastsV e A B) (h' : LastsV e B C) : LastsV e A C := fun x xs hx => h' x xs (h x xs hx)
theorem LastsV.of_le {e : TypeId} {H H' : GHeap} (h : H.Le H') : LastsV e H H' := fun x cs hx => h.2 x _ hx
/-- Rows of truth values, no two alike; L: their lengths, M: what they hold. -/
structure OwnB (b : Nat) (H : GHeap) (e : TypeId) (r : Nat → Nat) (L : Nat → Nat) (M : Nat → Nat → Bool) (k : Nat) : Prop where
  row : ∀ i, i < k → b ≤ r i ∧ H.get (r i) = some (.row (bools (tabB (L i) (M i))) e true)
  inj : ∀ i j, i < k → j < k → r i = r j → i = j
theorem OwnB.zero (b : Nat) (H : GHeap) (e : TypeId) (r : Nat → Nat) (L : Nat → Nat) (M : Nat → Nat → Bool) : OwnB b H e r L M 0 := ⟨fun i hi => by omega, fun i j hi => by omega⟩
theorem OwnB.keep {b k : Nat} {H H' : GHeap} {e : TypeId} {r : Nat → Nat} {L : Nat → Nat} {M : Nat → Nat → Bool} (h : OwnB b H e r L M k) (s : LastsV e H H') : OwnB b H' e r L M k := ⟨fun i hi => ⟨(h.row i hi).1, s _ _ (h.row i hi).2⟩, h.inj⟩
theorem OwnB.succ {b g k : Nat} {H H' : GHeap} {e : TypeId} {r : Nat → Nat} {L : Nat → Nat} {M : Nat → Nat → Bool} (h : OwnB b H e r L M k) (s : LastsV e H H')
    (hg : H'.get g = some (.row (bools (tabB (L k) (M k))) e true)) (hn : H.next ≤ g) (hb : b ≤ g) : OwnB b H' e (updN r k g) L M (k + 1) := by
  have lt : ∀ i, i < k → r i < g := fun i hi => Nat.lt_of_lt_of_le (GHeap.lt_of_get (h.row i hi).2) hn
  refine ⟨fun i hi => ?_, fun i j hi hj hij => ?_⟩
  · by_cases ek : i = k
    · subst ek; rw [updN_eq]; exact ⟨hb, hg⟩
    · rw [updN_ne ek]; exact ⟨(h.row i (by omega)).1, s _ _ (h.row i (by omega)).2⟩
  · by_cases ei : i = k
    · by_cases ej : j = k
      · omega
      · subst ei
        rw [updN_eq, updN_ne ej] at hij
        have := lt j (by omega)
        omega
    · by_cases ej : j = k
      · subst ej
        rw [updN_eq, updN_ne ei] at hij
        have := lt i (by omega)
        omega
      · rw [updN_ne ei, updN_ne ej] at hij
        exact h.inj i j (by omega) (by omega) hij
/-- A row is written to. -/
theorem OwnB.put {b k i : Nat} {H H' : GHeap} {e : TypeId} {r : Nat → Nat} {L : Nat → Nat} {M M' : Nat → Nat → Bool} (h : OwnB b H e r L M k) (hi : i < k) (s : St [r i] H H') (hg : H'.get (r i) = some (.row (bools (tabB (L i) (M' i))) e true))
    (hM : ∀ j, j < k → j ≠ i → ∀ d, d < L j → M' j d = M j d) : OwnB b H' e r L M' k := ⟨fun j hj => by
  by_cases ej : j = i
  · subst ej; exact ⟨(h.row j hj).1, hg⟩
  · refine ⟨(h.row j hj).1, ?_⟩
    rw [tabB_congr (hM j hj ej)]
    exact s.same _ _ ⟨fun er => ej (h.inj j i hj hi er), trivial⟩ (h.row j hj).2, h.inj⟩
theorem OwnB.congr {b k : Nat} {H : GHeap} {e : TypeId} {r : Nat → Nat} {L : Nat → Nat} {M M' : Nat → Nat → Bool} (h : OwnB b H e r L M k) (hM : ∀ j, j < k → ∀ d, d < L j → M' j d = M j d) : OwnB b H e r L M' k :=
  ⟨fun j hj => ⟨(h.row j hj).1, by rw [tabB_congr (hM j hj)]; exact (h.row j hj).2⟩, h.inj⟩
/-- A list of lists of truth values. -/
structure BMat (b : Nat) (H : GHeap) (g : Nat) (e1 e2 : TypeId) (r : Nat → Nat) (L : Nat → Nat) (M : Nat → Nat → Bool) (n : Nat) : Prop where
  hd : H.get g = some (.row (slsN r L n) e1 true)
  gb : b ≤ g
  own : OwnB b H e2 r L M n
theorem BMat.keep {b b' n g : Nat} {H H' : GHeap} {e1 e2 : TypeId} {r : Nat → Nat} {L : Nat → Nat} {M : Nat → Nat → Bool} (h : BMat b H g e1 e2 r L M n) (k : Keep b' H H') (hb : b' ≤ b) : BMat b' H' g e1 e2 r L M n :=
  ⟨k _ _ (by have := h.gb; omega) h.hd, by have := h.gb; omega, fun i hi => ⟨by have := (h.own.row i hi).1; omega, k _ _ (by have := (h.own.row i hi).1; omega) (h.own.row i hi).2⟩, h.own.inj⟩
theorem BMat.mono {b n g : Nat} {H H' : GHeap} {e1 e2 : TypeId} {r : Nat → Nat} {L : Nat → Nat} {M : Nat → Nat → Bool} (h : BMat b H g e1 e2 r L M n) (hle : H.Le H') : BMat b H' g e1 e2 r L M n :=
  ⟨hle.2 _ _ h.hd, h.gb, fun i hi => ⟨(h.own.row i hi).1, hle.2 _ _ (h.own.row i hi).2⟩, h.own.inj⟩
theorem BMat.congr {b n g : Nat} {H : GHeap} {e1 e2 : TypeId} {r : Nat → Nat} {L : Nat → Nat} {M M' : Nat → Nat → Bool} (h : BMat b H g e1 e2 r L M n) (hM : ∀ j, j < n → ∀ d, d < L j → M' j d = M j d) : BMat b H g e1 e2 r L M' n := ⟨h.hd, h.gb, h.own.congr hM⟩
theorem BMat.row {b n g i : Nat} {H : GHeap} {e1 e2 : TypeId} {r : Nat → Nat} {L : Nat → Nat} {M : Nat → Nat → Bool} (h : BMat b H g e1 e2 r L M n) (hi : i < n) : Bools H (some ⟨r i, 0, none⟩) (tabB (L i) (M i)) := Bools.of_get (h.own.row i hi).2
/-- Two matrices, the second made behind the first: no row of the one is one of the other. -/
theorem BMat.lt {b n g i : Nat} {H : GHeap} {e1 e2 : TypeId} {r : Nat → Nat} {L : Nat → Nat} {M : Nat → Nat → Bool} (h : BMat b H g e1 e2 r L M n) : g < H.next ∧ (i < n → r i < H.next) := ⟨GHeap.lt_of_get h.hd, fun hi => GHeap.lt_of_get (h.own.row i hi).2⟩
theorem BMat.sl {b n g : Nat} {H : GHeap} {e1 e2 : TypeId} {r : Nat → Nat} {L : Nat → Nat} {M : Nat → Nat → Bool} (h : BMat b H g e1 e2 r L M n) : SlA H (some ⟨g, 0, none⟩) n (fun i => .slice (some ⟨r i, 0, none⟩) (L i) (L i)) :=
  .inr ⟨g, 0, rfl, fun i hi => by rw [GHeap.cell_of h.hd, Nat.zero_add]; simp [slsN, hi]⟩
theorem BMat.put {b n g i : Nat} {H H' : GHeap} {e1 e2 : TypeId} {r : Nat → Nat} {L : Nat → Nat} {M M' : Nat → Nat → Bool} (h : BMat b H g e1 e2 r L M n) (hi : i < n) (s : St [r i] H H') (hg : H'.get (r i) = some (.row (bools (tabB (L i) (M' i))) e2 true))
    (hM : ∀ j, j < n → j ≠ i → ∀ d, d < L j → M' j d = M j d) (hne : (e1 != e2) = true) : BMat b H' g e1 e2 r L M' n := ⟨by
    simp only [bne_iff_ne, ne_eq] at hne
    refine s.same _ _ ⟨fun ex => ?_, trivial⟩ h.hd
    have h1 := h.hd
    rw [ex, (h.own.row i hi).2] at h1
    injection h1 with h1
    injection h1 with _ h1 _
    exact hne h1.symm, h.gb, h.own.put hi s hg hM⟩
/-- Another matrix of rows of its own stays when a row of this one is written to. -/
theorem BMat.st {b n g k : Nat} {H H' : GHeap} {e1 e2 : TypeId} {r : Nat → Nat} {L : Nat → Nat} {M : Nat → Nat → Bool} (h : BMat b H g e1 e2 r L M n) (s : St [k] H H') (hlt : k < b) : BMat b H' g e1 e2 r L M n :=
  ⟨s.same _ _ ⟨by have := h.gb; omega, trivial⟩ h.hd, h.gb, fun i hi => ⟨(h.own.row i hi).1, s.same _ _ ⟨by have := (h.own.row i hi).1; omega, trivial⟩ (h.own.row i hi).2⟩, h.own.inj⟩
end Go.GL
/- Isomorphism classes of objects, skeletons, parts of categories: plain laws. No condition. -/
namespace Go.GL
theorem Cat.inv_mate {c : Cat} {f : Nat} (hS : c.Shape) (hf : f < c.src.length) (h : 0 ≤ c.inv f) : c.Alike (c.tgt.getD f 0) (c.src.getD f 0) := by
  unfold Cat.inv at h
  rw [Int.toNat_natCast] at h
  obtain ⟨g, hg, hb⟩ := (firstIn_ge (fun g hg => by obtain ⟨f, _, _, _, rfl⟩ := Cat.mem_hom.1 hg; omega)).1 h
  refine ⟨g, hg, ?_⟩
  obtain ⟨k, k1, k2, k3, rfl⟩ := Cat.mem_hom.1 hg
  unfold Cat.inv
  rw [Int.toNat_natCast, k2, k3]
  refine (firstIn_ge (fun g hg => by obtain ⟨f, _, _, _, rfl⟩ := Cat.mem_hom.1 hg; omega)).2 ⟨f, Cat.mem_hom.2 ⟨f, hf, rfl, rfl, rfl⟩, ?_⟩
  simp only [Cat.invB, sps, Int.toNat_natCast] at hb ⊢
  rw [k2, k3]
  exact ⟨hb.2, hb.1⟩
theorem Cat.Alike.symm {c : Cat} {x y : Int} (hS : c.Shape) (h : c.Alike x y) : c.Alike y x := by
  obtain ⟨g, hg, hi⟩ := h
  obtain ⟨k, k1, k2, k3, rfl⟩ := Cat.mem_hom.1 hg
  have := Cat.inv_mate hS k1 hi
  rwa [k2, k3] at this
/-! ### The first of each class. -/
/-- The arrows between objects. -/
def Cat.among (c : Cat) (os : List Int) : List Int := filtN c.src.length fun f => os.contains (c.src.getD f 0) && os.contains (c.tgt.getD f 0)
/-! ### Parts. -/
def Cat.partO (c : Cat) (xs : List Int) : List Int := filtN c.obj.toNat fun x => xs.contains (c.idn.getD x 0)
def Cat.partR (c : Cat) (xs : List Int) (f : Int) : List Int := xs.map fun g => idxL xs (c.th f g)
def Cat.part (c : Cat) (xs : List Int) : Cat where
  obj := ((c.partO xs).length : Int)
  src := xs.map fun f => idxL (c.partO xs) (c.src.getD f.toNat 0)
  tgt := xs.map fun f => idxL (c.partO xs) (c.tgt.getD f.toNat 0)
  idn := (c.partO xs).map fun x => idxL xs (c.idn.getD x.toNat 0)
  comp := xs.map fun f => c.partR xs f
structure Cat.Closed (c : Cat) (xs : List Int) : Prop where
  filt : ∃ P, xs = filtN c.src.length P
  id : ∀ f ∈ xs, c.idn.getD (c.src.getD f.toNat 0).toNat 0 ∈ xs ∧ c.idn.getD (c.tgt.getD f.toNat 0).toNat 0 ∈ xs
  th : ∀ f ∈ xs, ∀ g ∈ xs, 0 ≤ c.th f g → c.th f g ∈ xs
theorem Cat.Closed.lt {c : Cat} {xs : List Int} (h : c.Closed xs) : ∀ f ∈ xs, 0 ≤ f ∧ f < c.src.length := fun f hf => by
  obtain ⟨P, rfl⟩ := h.filt
  obtain ⟨i, h1, _, rfl⟩ := mem_filtN.1 hf
  omega
theorem Cat.Closed.len {c : Cat} {xs : List Int} (h : c.Closed xs) : xs.length ≤ c.src.length := by
  obtain ⟨P, rfl⟩ := h.filt
  exact filtN_le _ _
end Go.GL
/- Parts of categories: the arrays that are filled on the way, and the skeleton as a result. No condition. -/
namespace Go.GL
theorem filtN_nodup (n : Nat) (P : Nat → Bool) : (filtN n P).Nodup := by
  unfold filtN
  exact List.pairwise_map.2 ((List.nodup_range.sublist List.filter_sublist).imp fun h e => h (by omega))
theorem nodup_getD {xs : List Int} (hn : xs.Nodup) {i j : Nat} (hi : i < xs.length) (hj : j < xs.length) (h : xs.getD i 0 = xs.getD j 0) : i = j := by
  rw [List.getD_eq_getElem?_getD, List.getD_eq_getElem?_getD, List.getElem?_eq_getElem hi, List.getElem?_eq_getElem hj] at h
  exact (List.getElem_inj hn).1 (by simpa using h)
theorem Cat.Closed.nodup {c : Cat} {xs : List Int} (h : c.Closed xs) : xs.Nodup := by
  obtain ⟨P, rfl⟩ := h.filt
  exact filtN_nodup _ _
/-! ### The numbers of arrows. -/
def numF (xs : List Int) (m i : Nat) : List Int := (List.range m).map fun (v : Nat) => if (v : Int) ∈ xs.take i then idxL xs v else 0
@[simp] theorem length_numF (xs : List Int) (m i : Nat) : (numF xs m i).length = m := by simp [numF]
/-! ### The places of objects. -/
abbrev Cat.hasId (c : Cat) (xs : List Int) (x : Nat) : Bool := xs.contains (c.idn.getD x 0)
def Cat.plF (c : Cat) (xs : List Int) (n k : Nat) : List Int := (List.range n).map fun (x : Nat) => if x < k ∧ c.hasId xs x = true then ((filtN x (c.hasId xs)).length : Int) else 0
@[simp] theorem Cat.length_plF (c : Cat) (xs : List Int) (n k : Nat) : (c.plF xs n k).length = n := by simp [Cat.plF]
/-! ### Rows and lists that grow. -/
theorem Cat.Closed.has {c : Cat} {xs : List Int} (h : c.Closed xs) {f : Int} (hf : f ∈ xs) (hS : c.Shape) : (0 ≤ c.src.getD f.toNat 0 ∧ c.src.getD f.toNat 0 < c.obj ∧ c.idn.getD (c.src.getD f.toNat 0).toNat 0 ∈ xs) ∧ 0 ≤ c.tgt.getD f.toNat 0 ∧ c.tgt.getD f.toNat 0 < c.obj ∧ c.idn.getD (c.tgt.getD f.toNat 0).toNat 0 ∈ xs := by
  have b := h.lt f hf
  have s1 := hS.src f.toNat (by omega)
  have s2 := hS.tgt f.toNat (by have := hS.tl; omega)
  have hi := h.id f hf
  exact ⟨⟨s1.1, s1.2, hi.1⟩, s2.1, s2.2, hi.2⟩
end Go.GL
/- Classes of left extensions: the same pairs told in two ways. No condition. -/
namespace Go.GL
theorem mem_nest3 {α : Type} {pr : Nat → Nat → Nat → α} {s1 : Nat → Nat} {s2 : Nat → Nat → Nat} {k a b t : Nat} (ha : a < k) (hb : b < s1 a) (ht : t < s2 a b) : pr a b t ∈ nest3 pr s1 s2 k 0 0 := by
  unfold nest3 nestL
  refine List.mem_append.2 (.inl (List.mem_flatMap.2 ⟨a, List.mem_range.2 ha, List.mem_append.2 (.inl (List.mem_flatMap.2 ⟨b, List.mem_range.2 hb, List.mem_map.2 ⟨t, List.mem_range.2 ht, rfl⟩⟩))⟩))
theorem nest3_nodup {α : Type} {pr : Nat → Nat → Nat → α} {s1 : Nat → Nat} {s2 : Nat → Nat → Nat} {k : Nat} (h : ∀ a b t a' b' t', a < k → b < s1 a → t < s2 a b → a' < k → b' < s1 a' → t' < s2 a' b' → pr a b t = pr a' b' t' → a = a' ∧ b = b' ∧ t = t') : (nest3 pr s1 s2 k 0 0).Nodup := by
  unfold nest3 nestL
  simp only [List.range_zero, List.map_nil, List.append_nil, List.flatMap_nil]
  refine List.pairwise_flatMap.2 ⟨fun a ha => List.pairwise_flatMap.2 ⟨fun b hb => List.pairwise_map.2 ?_, ?_⟩, ?_⟩
  · exact List.nodup_range.imp_of_mem fun {t t'} ht ht' hne e => hne (h a b t a b t' (List.mem_range.1 ha) (List.mem_range.1 hb) (List.mem_range.1 ht) (List.mem_range.1 ha) (List.mem_range.1 hb) (List.mem_range.1 ht') e).2.2
  · refine List.nodup_range.imp_of_mem fun {b b'} hb hb' hne x hx y hy e => ?_
    obtain ⟨t, ht, rfl⟩ := List.mem_map.1 hx
    obtain ⟨t', ht', rfl⟩ := List.mem_map.1 hy
    exact hne (h a b t a b' t' (List.mem_range.1 ha) (List.mem_range.1 hb) (List.mem_range.1 ht) (List.mem_range.1 ha) (List.mem_range.1 hb') (List.mem_range.1 ht') e).2.1
  · refine List.nodup_range.imp_of_mem fun {a a'} ha ha' hne x hx y hy e => ?_
    obtain ⟨b, hb, hx⟩ := List.mem_flatMap.1 hx
    obtain ⟨b', hb', hy⟩ := List.mem_flatMap.1 hy
    obtain ⟨t, ht, rfl⟩ := List.mem_map.1 hx
    obtain ⟨t', ht', rfl⟩ := List.mem_map.1 hy
    exact hne (h a b t a' b' t' (List.mem_range.1 ha) (List.mem_range.1 hb) (List.mem_range.1 ht) (List.mem_range.1 ha') (List.mem_range.1 hb') (List.mem_range.1 ht') e).1
structure LcOk (k : Fun) (f : SFun) : Prop where
  hk : k.Is
  hf : f.Is
  he : f.sh = k.s
def lcE (k : Fun) (f : SFun) (y : Int) : List (List Int) := leL k f y k.ob.length 0 0
theorem lcE_mem {k : Fun} {f : SFun} {y : Int} {x e : Nat} {h : Int} (hx : x < k.ob.length) (hh : h ∈ k.t.hom (k.ob.getD x 0) y) (he : (e : Int) < f.sz.getD x 0) : [(x : Int), h, (e : Int)] ∈ lcE k f y := by
  obtain ⟨i, hi, e1⟩ := List.getElem_of_mem hh
  have := mem_nest3 (pr := lePr k y) (s1 := fun x => (k.t.hom (k.ob.getD x 0) y).length) (s2 := fun x _ => (f.sz.getD x 0).toNat) hx hi (t := e) (by omega)
  unfold lePr at this
  rw [List.getD_eq_getElem?_getD (l := k.t.hom _ _), List.getElem?_eq_getElem hi, e1] at this
  exact this
theorem lcE_keys {k : Fun} {f : SFun} {y : Int} (o : LcOk k f) : Keys 3 (lcE k f y) := by
  have b1 := o.hk.2.1.1.n40
  have b2 := o.hk.1.1.obj
  have b3 := o.hk.2.2.ol
  refine ⟨nest3_nodup fun a b t a' b' t' ha hb ht ha' hb' ht' e => ?_, fun t ht => ?_⟩
  · unfold lePr at e
    simp only [List.cons.injEq, and_true] at e
    obtain ⟨e1, e2, e3⟩ := e
    obtain rfl : a = a' := by omega
    exact ⟨rfl, nodup_getD (filtN_nodup _ _) hb hb' e2, by omega⟩
  · obtain ⟨x, i, e, h1, h2, h3, rfl⟩ := nest3_mem ht
    have q1 := o.hf.1.sz x (by have := leLen o.hk o.hf o.he; omega)
    obtain ⟨z, z1, _, _, z4⟩ := Cat.hom_get h2
    refine ⟨rfl, fun i hi => ?_⟩
    match i, hi with
    | 0, _ => show 0 ≤ (x : Int) ∧ (x : Int) ≤ 255; omega
    | 1, _ => show 0 ≤ (k.t.hom _ _).getD _ 0 ∧ (k.t.hom _ _).getD _ 0 ≤ 255; rw [z4]; omega
    | 2, _ => show 0 ≤ (e : Int) ∧ (e : Int) ≤ 255; omega
structure LcA (k : Fun) (f : SFun) (y : Int) (a : Nat) : Prop where
  s0 : 0 ≤ k.s.src.getD a 0
  s1 : k.s.src.getD a 0 < k.ob.length
  t0 : 0 ≤ k.s.tgt.getD a 0
  t1 : k.s.tgt.getD a 0 < k.ob.length
  al : ((f.ac.getD a []).length : Int) = f.sz.getD (k.s.src.getD a 0).toNat 0
  zs : f.sz.getD (k.s.src.getD a 0).toNat 0 ≤ 16
  ac : ∀ e, e < (f.ac.getD a []).length → 0 ≤ (f.ac.getD a []).getD e 0 ∧ (f.ac.getD a []).getD e 0 < f.sz.getD (k.s.tgt.getD a 0).toNat 0
  r0 : 0 ≤ k.ar.getD a 0
  r1 : k.ar.getD a 0 < k.t.src.length
  th : ∀ h, h ∈ k.t.hom (k.ob.getD (k.s.tgt.getD a 0).toNat 0) y → (0 ≤ h ∧ h < k.t.src.length) ∧ k.t.th (k.ar.getD a 0) h ∈ k.t.hom (k.ob.getD (k.s.src.getD a 0).toNat 0) y
theorem LcOk.len {k : Fun} {f : SFun} (o : LcOk k f) : f.sz.length = k.ob.length ∧ f.ac.length = k.s.src.length ∧ k.ar.length = k.s.src.length ∧ k.s.tgt.length = k.s.src.length ∧ k.s.src.length ≤ 40 ∧ k.ob.length ≤ 8 ∧ (k.s.obj = k.ob.length) := by
  have h1 := leLen o.hk o.hf o.he
  have h2 := o.hf.1.al
  rw [o.he] at h2
  have h3 := o.hk.2.2.al
  have h4 := o.hk.1.1.tl
  have h5 := o.hk.1.1.n40
  have h6 := o.hk.2.2.ol
  have h7 := o.hk.1.1.obj
  omega
theorem LcOk.arrow {k : Fun} {f : SFun} {y : Int} (o : LcOk k f) {a : Nat} (ha : a < k.s.src.length) : LcA k f y a := by
  obtain ⟨l1, l2, l3, l4, _, _, _⟩ := o.len
  have q := o.hf.1.ends (a := a) (by rw [o.he]; exact ha)
  have act := fun e => o.hf.1.act (a := a) (e := e) (by omega)
  rw [o.he] at q act
  have hz := o.hf.1.sz (k.s.src.getD a 0).toNat (by omega)
  have r := o.hk.arr (a := a) (by omega)
  refine ⟨q.1, by omega, q.2.2.1, by omega, q.2.2.2.2, hz.2, act, r.2.2.2.2.1, r.2.2.2.2.2.1, fun h hh => ?_⟩
  obtain ⟨z, z1, z2, z3, rfl⟩ := Cat.mem_hom.1 hh
  have hS := o.hk.2.1.1
  have hc := (Cat.Cell.pos (f := (k.ar.getD a 0).toNat) (g := z) (by rw [r.2.2.2.2.2.2.2, z2])).1 (hS.cell _ (by have := hS.cl; omega) z z1)
  rw [← Cat.th_nat, show (((k.ar.getD a 0).toNat : Nat) : Int) = k.ar.getD a 0 by omega] at hc
  refine ⟨by omega, Cat.mem_hom.2 ⟨(k.t.th (k.ar.getD a 0) z).toNat, by omega, ?_, ?_, by omega⟩⟩
  · rw [hc.2.2.1]; exact r.2.2.2.2.2.2.1
  · rw [hc.2.2.2]; exact z3
/-- The entry that goes along arrow a, ahead of it and behind it. -/
def lcT (k : Fun) (a : Nat) (h : Int) (e : Nat) : List Int := [k.s.src.getD a 0, k.t.th (k.ar.getD a 0) h, (e : Int)]
def lcU (k : Fun) (f : SFun) (a : Nat) (h : Int) (e : Nat) : List Int := [k.s.tgt.getD a 0, h, (f.ac.getD a []).getD e 0]
theorem LcOk.two {k : Fun} {f : SFun} {y : Int} (o : LcOk k f) {a e : Nat} {h : Int} (ha : a < k.s.src.length) (hh : h ∈ k.t.hom (k.ob.getD (k.s.tgt.getD a 0).toNat 0) y) (he : e < (f.ac.getD a []).length) : lcT k a h e ∈ lcE k f y ∧ lcU k f a h e ∈ lcE k f y := by
  have q := o.arrow (y := y) ha
  obtain ⟨a0, a1, a2, a3, a4, _, a6, _, _, a9⟩ := q
  have h6 := a6 e he
  constructor
  · have := lcE_mem (k := k) (f := f) (y := y) (x := (k.s.src.getD a 0).toNat) (e := e) (by omega) (a9 h hh).2 (by omega)
    rwa [show (((k.s.src.getD a 0).toNat : Nat) : Int) = k.s.src.getD a 0 by omega] at this
  · have := lcE_mem (k := k) (f := f) (y := y) (x := (k.s.tgt.getD a 0).toNat) (e := ((f.ac.getD a []).getD e 0).toNat) (by omega) hh (by omega)
    rwa [show (((k.s.tgt.getD a 0).toNat : Nat) : Int) = k.s.tgt.getD a 0 by omega, show ((((f.ac.getD a []).getD e 0).toNat : Nat) : Int) = (f.ac.getD a []).getD e 0 by omega] at this
def lcPr (k : Fun) (f : SFun) (y : Int) (a i e : Nat) : Nat × Nat := ((idxLL (lcE k f y) (lcT k a ((k.t.hom (k.ob.getD (k.s.tgt.getD a 0).toNat 0) y).getD i 0) e)).toNat, (idxLL (lcE k f y) (lcU k f a ((k.t.hom (k.ob.getD (k.s.tgt.getD a 0).toNat 0) y).getD i 0) e)).toNat)
/-- Where both entries of a pair lie. -/
theorem LcOk.pr {k : Fun} {f : SFun} {y : Int} (o : LcOk k f) {a i e : Nat} (ha : a < k.s.src.length) (hi : i < (k.t.hom (k.ob.getD (k.s.tgt.getD a 0).toNat 0) y).length) (he : e < (f.ac.getD a []).length) : (lcPr k f y a i e).1 < (lcE k f y).length ∧ (lcPr k f y a i e).2 < (lcE k f y).length ∧ 0 ≤ idxLL (lcE k f y) (lcT k a ((k.t.hom (k.ob.getD (k.s.tgt.getD a 0).toNat 0) y).getD i 0) e) ∧ 0 ≤ idxLL (lcE k f y) (lcU k f a ((k.t.hom (k.ob.getD (k.s.tgt.getD a 0).toNat 0) y).getD i 0) e) := by
  obtain ⟨h1, h2⟩ := o.two ha (getD_mem hi) he
  obtain ⟨u, u1, _, u3⟩ := idxLL_mem (lcE_keys o).nd h1
  obtain ⟨v, v1, _, v3⟩ := idxLL_mem (lcE_keys o).nd h2
  unfold lcPr
  rw [u3, v3]
  exact ⟨by simpa using u1, by simpa using v1, by omega, by omega⟩
end Go.GL
/- Classes of composites' triples: where a triple lies. No condition. -/
namespace Go.GL
/-- How many triples lie over object y. -/
def ccF (m k : Prof) (x z : Int) (y : Nat) : Int := (m.sz.getD x.toNat []).getD y 0 * (k.sz.getD y []).getD z.toNat 0
def ccSt (m k : Prof) (x z : Int) (n : Nat) : List Int := (List.range n).map (sumN (ccF m k x z))
theorem length_ccSt (m k : Prof) (x z : Int) (n : Nat) : (ccSt m k x z n).length = n := by simp [ccSt]
theorem ccSt_get {m k : Prof} {x z : Int} {n i : Nat} (h : i < n) : (ccSt m k x z n).getD i 0 = sumN (ccF m k x z) i := by simp [ccSt, List.getD_eq_getElem?_getD, h]
theorem ccSt_succ {m k : Prof} {x z : Int} {n : Nat} : ccSt m k x z (n + 1) = ccSt m k x z n ++ [sumN (ccF m k x z) n] := range_succ_map
theorem prod_bd {a b : Int} (ha : 0 ≤ a ∧ a ≤ 64) (hb : 0 ≤ b ∧ b ≤ 64) : 0 ≤ a * b ∧ a * b ≤ 4096 := by
  have h1 := Int.mul_nonneg ha.1 hb.1
  have h2 : a * b ≤ 64 * 64 := Int.mul_le_mul ha.2 hb.2 hb.1 (by omega)
  omega
theorem ccF_bd {m k : Prof} {x z : Int} {n : Nat} (hc : CtOk m k x z n) {y : Nat} (hy : y < n) : 0 ≤ ccF m k x z y ∧ ccF m k x z y ≤ 4096 := prod_bd (hc.pe y hy) (hc.qe y hy).2
theorem ccSum_bd {m k : Prof} {x z : Int} {n : Nat} (hc : CtOk m k x z n) {y : Nat} (hy : y ≤ n) : 0 ≤ sumN (ccF m k x z) y ∧ sumN (ccF m k x z) y ≤ 32768 := by
  have h1 := sumN_bd (f := ccF m k x z) (c := 4096) (N := n) (fun i hi => ccF_bd hc hi) hy
  have h2 := hc.n8
  omega
theorem ctL_lenD {m k : Prof} {x z : Int} {y e : Nat} : ∀ {d}, (ctL m k x z y e d).length = (ctL m k x z y e 0).length + d
  | 0 => rfl
  | d + 1 => by rw [ctL_snoc, List.length_append, ctL_lenD (d := d)]; simp; omega
theorem ctL_lenE {m k : Prof} {x z : Int} {y : Nat} : ∀ {e}, (ctL m k x z y e 0).length = (ctL m k x z y 0 0).length + e * ((k.sz.getD y []).getD z.toNat 0).toNat
  | 0 => by simp
  | e + 1 => by rw [ctL_next2, ctL_lenD, ctL_lenE (e := e), Nat.succ_mul]; omega
theorem ctL_lenY {m k : Prof} {x z : Int} {n : Nat} (hc : CtOk m k x z n) : ∀ {y}, y ≤ n → ((ctL m k x z y 0 0).length : Int) = sumN (ccF m k x z) y
  | 0, _ => by simp [ctL, nest3_zero, sumN]
  | y + 1, hy => by
    have ih := ctL_lenY hc (y := y) (by omega)
    have h1 := hc.pe y (by omega)
    have h2 := (hc.qe y (by omega)).2
    rw [ctL_next1, ctL_lenE]
    simp only [sumN, ccF, Int.natCast_add, Int.natCast_mul, Int.toNat_of_nonneg h1.1, Int.toNat_of_nonneg h2.1, ih]
theorem ctL_preD {m k : Prof} {x z : Int} {y e d : Nat} : ∀ j, ctL m k x z y e d <+: ctL m k x z y e (d + j)
  | 0 => List.prefix_refl _
  | j + 1 => by rw [← Nat.add_assoc, ctL_snoc]; exact (ctL_preD j).trans (List.prefix_append _ _)
theorem ctL_preE {m k : Prof} {x z : Int} {y e : Nat} : ∀ j, ctL m k x z y e 0 <+: ctL m k x z y (e + j) 0
  | 0 => List.prefix_refl _
  | j + 1 => by
    rw [← Nat.add_assoc, ctL_next2]
    have := ctL_preD (m := m) (k := k) (x := x) (z := z) (y := y) (e := e + j) (d := 0) ((k.sz.getD y []).getD z.toNat 0).toNat
    rw [Nat.zero_add] at this
    exact (ctL_preE j).trans this
theorem ctL_preY {m k : Prof} {x z : Int} {y : Nat} : ∀ j, ctL m k x z y 0 0 <+: ctL m k x z (y + j) 0 0
  | 0 => List.prefix_refl _
  | j + 1 => by
    rw [← Nat.add_assoc, ctL_next1]
    have := ctL_preE (m := m) (k := k) (x := x) (z := z) (y := y + j) (e := 0) ((m.sz.getD x.toNat []).getD (y + j) 0).toNat
    rw [Nat.zero_add] at this
    exact (ctL_preY j).trans this
theorem ctL_pre {m k : Prof} {x z : Int} {n y e d : Nat} (hy : y < n) (he : e < ((m.sz.getD x.toNat []).getD y 0).toNat) (hd : d < ((k.sz.getD y []).getD z.toNat 0).toNat) : ctL m k x z y e (d + 1) <+: ctL m k x z n 0 0 := by
  have h1 := ctL_preD (m := m) (k := k) (x := x) (z := z) (y := y) (e := e) (d := d + 1) (((k.sz.getD y []).getD z.toNat 0).toNat - (d + 1))
  rw [show d + 1 + (((k.sz.getD y []).getD z.toNat 0).toNat - (d + 1)) = ((k.sz.getD y []).getD z.toNat 0).toNat by omega, ← ctL_next2] at h1
  have h2 := ctL_preE (m := m) (k := k) (x := x) (z := z) (y := y) (e := e + 1) (((m.sz.getD x.toNat []).getD y 0).toNat - (e + 1))
  rw [show e + 1 + (((m.sz.getD x.toNat []).getD y 0).toNat - (e + 1)) = ((m.sz.getD x.toNat []).getD y 0).toNat by omega, ← ctL_next1] at h2
  have h3 := ctL_preY (m := m) (k := k) (x := x) (z := z) (y := y + 1) (n - (y + 1))
  rw [show y + 1 + (n - (y + 1)) = n by omega] at h3
  exact (h1.trans h2).trans h3
theorem ctL_at {m k : Prof} {x z : Int} {n y e d : Nat} (hy : y < n) (he : e < ((m.sz.getD x.toNat []).getD y 0).toNat) (hd : d < ((k.sz.getD y []).getD z.toNat 0).toNat) : (ctL m k x z y e d).length < (ctL m k x z n 0 0).length ∧ (ctL m k x z n 0 0).getD (ctL m k x z y e d).length [] = ctPr y e d := by
  obtain ⟨r, hr⟩ := ctL_pre (m := m) (k := k) (x := x) (z := z) hy he hd
  rw [← hr, ctL_snoc]
  refine ⟨by simp, ?_⟩
  rw [List.getD_eq_getElem?_getD, List.append_assoc, List.getElem?_append_right (Nat.le_refl _)]
  simp
theorem ctL_nodup {m k : Prof} {x z : Int} {n : Nat} : (ctL m k x z n 0 0).Nodup := nest3_nodup fun a b t a' b' t' _ _ _ _ _ _ e => by
  unfold ctPr at e
  simp only [List.cons.injEq, and_true] at e
  omega
/-- Where a triple lies. -/
theorem cc_idx {m k : Prof} {x z : Int} {n : Nat} (hc : CtOk m k x z n) {y e d : Int} (y0 : 0 ≤ y) (y1 : y < n) (e0 : 0 ≤ e) (e1 : e < (m.sz.getD x.toNat []).getD y.toNat 0) (d0 : 0 ≤ d) (d1 : d < (k.sz.getD y.toNat []).getD z.toNat 0) :
    [y, e, d] ∈ ctL m k x z n 0 0 ∧ idxLL (ctL m k x z n 0 0) [y, e, d] = sumN (ccF m k x z) y.toNat + e * (k.sz.getD y.toNat []).getD z.toNat 0 + d ∧ idxLL (ctL m k x z n 0 0) [y, e, d] < (ctL m k x z n 0 0).length ∧ 0 ≤ sumN (ccF m k x z) y.toNat ∧ 0 ≤ e * (k.sz.getD y.toNat []).getD z.toNat 0 := by
  have h2 := hc.qe y.toNat (by omega)
  obtain ⟨l, a⟩ := ctL_at (m := m) (k := k) (x := x) (z := z) (n := n) (y := y.toNat) (e := e.toNat) (d := d.toNat) (by omega) (by omega) (by omega)
  have hp : ctPr y.toNat e.toNat d.toNat = [y, e, d] := by unfold ctPr; rw [Int.toNat_of_nonneg y0, Int.toNat_of_nonneg e0, Int.toNat_of_nonneg d0]
  rw [hp] at a
  have hm := getD_mem_list (d := []) l
  rw [a] at hm
  have hi := idxLL_at (xss := ctL m k x z n 0 0) ctL_nodup l
  rw [a] at hi
  have hl : ((ctL m k x z y.toNat e.toNat d.toNat).length : Int) = sumN (ccF m k x z) y.toNat + e * (k.sz.getD y.toNat []).getD z.toNat 0 + d := by
    rw [ctL_lenD, ctL_lenE]
    simp only [Int.natCast_add, Int.natCast_mul, ctL_lenY hc (y := y.toNat) (by omega), Int.toNat_of_nonneg e0, Int.toNat_of_nonneg d0, Int.toNat_of_nonneg h2.2.1]
  exact ⟨hm, by rw [hi, hl], by rw [hi]; omega, (ccSum_bd hc (y := y.toNat) (by omega)).1, Int.mul_nonneg e0 h2.2.1⟩
def tlE (xss : List (List Int)) (k : Nat) : List (List Int × Int) := (List.range k).map fun (i : Nat) => (xss.getD i [], (i : Int))
theorem tlE_succ (xss : List (List Int)) (k : Nat) : tlE xss (k + 1) = tlE xss k ++ [(xss.getD k [], (k : Int))] := by simp [tlE, List.range_succ]
theorem tlE_mem {xss : List (List Int)} {k n : Nat} (h : ∀ t ∈ xss, t.length = n) (hk : k ≤ xss.length) : ∀ e ∈ tlE xss k, e.1.length = n := fun e he => by
  obtain ⟨i, hi, rfl⟩ := List.mem_map.1 he
  exact h _ (getD_mem_list (d := []) (by have := List.mem_range.1 hi; omega))
theorem lookT_tlE {xss : List (List Int)} (h : xss.Nodup) {i : Nat} (hi : i < xss.length) : ∀ {k : Nat}, k ≤ xss.length → lookT (tlE xss k) (xss.getD i []) = if i < k then some (i : Int) else none
  | 0, _ => rfl
  | k + 1, hk => by
    have ih := lookT_tlE h hi (k := k) (by omega)
    rw [tlE_succ, lookT_snoc, ih]
    by_cases e : k = i
    · subst e
      rw [if_neg (by omega), if_pos rfl, if_pos (by omega)]; rfl
    · rw [if_neg fun hk' => e (getD_inj h (by omega) hi hk')]
      by_cases e2 : i < k
      · rw [if_pos e2, if_pos (by omega)]; rfl
      · rw [if_neg e2, if_neg (by omega)]; rfl
theorem lookT_new {xss : List (List Int)} (h : xss.Nodup) {k : Nat} (hk : k < xss.length) : lookT (tlE xss k) (xss.getD k []) = none := by
  rw [lookT_tlE h hk (by omega), if_neg (by omega)]
theorem lookT_all {xss : List (List Int)} (h : xss.Nodup) {t : List Int} (ht : t ∈ xss) : (lookT (tlE xss xss.length) t).getD 0 = idxLL xss t := by
  obtain ⟨i, hi, e1, e2⟩ := idxLL_mem h ht
  rw [e2, ← e1, lookT_tlE h hi (Nat.le_refl _), if_pos hi]; rfl
theorem tlE_three {xss : List (List Int)} {k : Nat} (h : (xss.getD k []).length = 3) : tlE xss (k + 1) = tlE xss k ++ [([(xss.getD k []).getD 0 0, (xss.getD k []).getD 1 0, (xss.getD k []).getD 2 0], (k : Int))] := by rw [tlE_succ, three_eq h]
/-- All triples. -/
def ccL (m k : Prof) (x z : Int) : List (List Int) := ctL m k x z m.t.obj.toNat 0 0
def ccT (m : Prof) (x : Int) (b e d : Nat) : List Int := [m.t.tgt.getD b 0, ((m.bh.getD b []).getD x.toNat []).getD e 0, (d : Int)]
def ccU (m k : Prof) (z : Int) (b e d : Nat) : List Int := [m.t.src.getD b 0, (e : Int), ((k.be.getD b []).getD z.toNat []).getD d 0]
def ccA1 (m : Prof) (x : Int) (b : Nat) : Nat := ((m.sz.getD x.toNat []).getD (m.t.src.getD b 0).toNat 0).toNat
def ccA2 (m k : Prof) (z : Int) (b : Nat) : Nat := ((k.sz.getD (m.t.tgt.getD b 0).toNat []).getD z.toNat 0).toNat
def ccRow (m k : Prof) (x z : Int) (b e d : Nat) : List Int := [idxLL (ccL m k x z) (ccT m x b e d), idxLL (ccL m k x z) (ccU m k z b e d)]
def ccPr (m k : Prof) (x z : Int) (b e d : Nat) : Nat × Nat := ((idxLL (ccL m k x z) (ccT m x b e d)).toNat, (idxLL (ccL m k x z) (ccU m k z b e d)).toNat)
def ccS (m k : Prof) (x z : Int) (b e d : Nat) : List (List Int) := nest3 (ccRow m k x z) (ccA1 m x) (fun b _ => ccA2 m k z b) b e d
def ccI (m k : Prof) (x z : Int) (b e d : Nat) : List (Nat × Nat) := nest3 (ccPr m k x z) (ccA1 m x) (fun b _ => ccA2 m k z b) b e d
theorem ccS_snoc {m k : Prof} {x z : Int} {b e d : Nat} : ccS m k x z b e (d + 1) = ccS m k x z b e d ++ [ccRow m k x z b e d] := nest3_snoc
theorem ccS_next2 {m k : Prof} {x z : Int} {b e : Nat} : ccS m k x z b (e + 1) 0 = ccS m k x z b e (ccA2 m k z b) := nest3_next2
theorem ccS_next1 {m k : Prof} {x z : Int} {b : Nat} : ccS m k x z (b + 1) 0 0 = ccS m k x z b (ccA1 m x b) 0 := nest3_next1
theorem ccI_snoc {m k : Prof} {x z : Int} {b e d : Nat} : ccI m k x z b e (d + 1) = ccI m k x z b e d ++ [ccPr m k x z b e d] := nest3_snoc
theorem ccI_next2 {m k : Prof} {x z : Int} {b e : Nat} : ccI m k x z b (e + 1) 0 = ccI m k x z b e (ccA2 m k z b) := nest3_next2
theorem ccI_next1 {m k : Prof} {x z : Int} {b : Nat} : ccI m k x z (b + 1) 0 0 = ccI m k x z b (ccA1 m x b) 0 := nest3_next1
theorem cc_same (m k : Prof) (x z : Int) (b : Nat) : (ccS m k x z b 0 0).map (fun p => (pA p, pB p)) = ccI m k x z b 0 0 := by
  unfold ccS ccI nest3
  simp only [List.map_append, List.map_flatMap, nestL_map]
  rfl
structure CcOk (m k : Prof) (x z : Int) : Prop where
  hm : m.Is
  hk : k.Is
  x0 : 0 ≤ x
  x1 : x < m.s.obj
  z0 : 0 ≤ z
  z1 : z < k.t.obj
  he : m.t = k.s
structure CcA (m k : Prof) (x z : Int) (b : Nat) : Prop where
  s0 : 0 ≤ m.t.src.getD b 0
  s1 : m.t.src.getD b 0 < m.t.obj
  t0 : 0 ≤ m.t.tgt.getD b 0
  t1 : m.t.tgt.getD b 0 < m.t.obj
  b1 : x.toNat < (m.bh.getD b []).length
  b2 : (((m.bh.getD b []).getD x.toNat []).length : Int) = (m.sz.getD x.toNat []).getD (m.t.src.getD b 0).toNat 0
  b3 : ∀ e, e < ((m.bh.getD b []).getD x.toNat []).length → 0 ≤ ((m.bh.getD b []).getD x.toNat []).getD e 0 ∧ ((m.bh.getD b []).getD x.toNat []).getD e 0 < (m.sz.getD x.toNat []).getD (m.t.tgt.getD b 0).toNat 0
  k1 : z.toNat < (k.be.getD b []).length
  k2 : (((k.be.getD b []).getD z.toNat []).length : Int) = (k.sz.getD (m.t.tgt.getD b 0).toNat []).getD z.toNat 0
  k3 : ∀ d, d < ((k.be.getD b []).getD z.toNat []).length → 0 ≤ ((k.be.getD b []).getD z.toNat []).getD d 0 ∧ ((k.be.getD b []).getD z.toNat []).getD d 0 < (k.sz.getD (m.t.src.getD b 0).toNat []).getD z.toNat 0
  z1 : 0 ≤ (m.sz.getD x.toNat []).getD (m.t.src.getD b 0).toNat 0 ∧ (m.sz.getD x.toNat []).getD (m.t.src.getD b 0).toNat 0 ≤ 64
  z2 : 0 ≤ (k.sz.getD (m.t.tgt.getD b 0).toNat []).getD z.toNat 0 ∧ (k.sz.getD (m.t.tgt.getD b 0).toNat []).getD z.toNat 0 ≤ 64
theorem CcOk.arrow {m k : Prof} {x z : Int} (o : CcOk m k x z) {b : Nat} (hb : b < m.t.src.length) : CcA m k x z b := by
  obtain ⟨hm, hk, x0, x1, z0, z1, he⟩ := o
  have e1 := hm.1.z.hl
  have e2 := hk.1.z.bl
  rw [← he] at e2
  have q1 := hm.1.z.h hm.1.t (b := b) (by omega)
  have q2 := hm.1.hx (b := b) (x := x.toNat) (by omega) (by omega)
  have q3 := hk.1.by (a := b) (y := z.toNat) (by omega) (by omega)
  rw [← he] at q3
  exact ⟨q1.2.2.1, q1.2.2.2.1, q1.2.2.2.2.1, q1.2.2.2.2.2, q2.1, q2.2.2.2.2.1, q2.2.2.2.2.2.1, q3.1, q3.2.2.2.1, q3.2.2.2.2.1, q2.2.2.2.2.2.2.1, q3.2.2.2.2.2.2⟩
structure CcP (m k : Prof) (x z : Int) (b e d : Nat) : Prop where
  mT : ccT m x b e d ∈ ccL m k x z
  mU : ccU m k z b e d ∈ ccL m k x z
  iT : idxLL (ccL m k x z) (ccT m x b e d) = (ccSt m k x z m.t.obj.toNat).getD (m.t.tgt.getD b 0).toNat 0 + ((m.bh.getD b []).getD x.toNat []).getD e 0 * (k.sz.getD (m.t.tgt.getD b 0).toNat []).getD z.toNat 0 + (d : Int)
  iU : idxLL (ccL m k x z) (ccU m k z b e d) = (ccSt m k x z m.t.obj.toNat).getD (m.t.src.getD b 0).toNat 0 + (e : Int) * (k.sz.getD (m.t.src.getD b 0).toNat []).getD z.toNat 0 + ((k.be.getD b []).getD z.toNat []).getD d 0
  lT : idxLL (ccL m k x z) (ccT m x b e d) < (ccL m k x z).length
  lU : idxLL (ccL m k x z) (ccU m k z b e d) < (ccL m k x z).length
  t0 : 0 ≤ (ccSt m k x z m.t.obj.toNat).getD (m.t.tgt.getD b 0).toNat 0
  t1 : 0 ≤ ((m.bh.getD b []).getD x.toNat []).getD e 0 * (k.sz.getD (m.t.tgt.getD b 0).toNat []).getD z.toNat 0
  u0 : 0 ≤ (ccSt m k x z m.t.obj.toNat).getD (m.t.src.getD b 0).toNat 0
  u1 : 0 ≤ (e : Int) * (k.sz.getD (m.t.src.getD b 0).toNat []).getD z.toNat 0
theorem CcOk.pr {m k : Prof} {x z : Int} (o : CcOk m k x z) {b e d : Nat} (hb : b < m.t.src.length) (he : e < ccA1 m x b) (hd : d < ccA2 m k z b) : CcP m k x z b e d := by
  have q := o.arrow hb
  obtain ⟨hc, h0⟩ := CtOk.of o.hm o.hk o.x0 o.x1 o.z0 o.z1 o.he
  obtain ⟨s0, s1, t0, t1, b1, b2, b3, k1, k2, k3, z1, z2⟩ := q
  unfold ccA1 at he
  unfold ccA2 at hd
  have b4 := b3 e (by omega)
  have k4 := k3 d (by omega)
  obtain ⟨a1, a2, a3, a4, a5⟩ := cc_idx hc (y := m.t.tgt.getD b 0) (e := ((m.bh.getD b []).getD x.toNat []).getD e 0) (d := (d : Int)) t0 (by omega) b4.1 b4.2 (by omega) (by omega)
  obtain ⟨c1, c2, c3, c4, c5⟩ := cc_idx hc (y := m.t.src.getD b 0) (e := (e : Int)) (d := ((k.be.getD b []).getD z.toNat []).getD d 0) s0 (by omega) (by omega) (by omega) k4.1 k4.2
  rw [← ccSt_get (n := m.t.obj.toNat) (by omega)] at a2 a4 c2 c4
  exact ⟨a1, c1, a2, c2, a3, c3, a4, a5, c4, c5⟩
theorem CcOk.a1 {m k : Prof} {x z : Int} (o : CcOk m k x z) {b : Nat} (hb : b < m.t.src.length) : ccA1 m x b ≤ 64 := by have := (o.arrow hb).z1; unfold ccA1; omega
theorem CcOk.a2 {m k : Prof} {x z : Int} (o : CcOk m k x z) {b : Nat} (hb : b < m.t.src.length) : ccA2 m k z b ≤ 64 := by have := (o.arrow hb).z2; unfold ccA2; omega
theorem CcOk.sle {m k : Prof} {x z : Int} (o : CcOk m k x z) {b e d : Nat} (hb : b < m.t.src.length) (he : e < ccA1 m x b) (hd : d ≤ ccA2 m k z b) : (ccS m k x z b e d).length ≤ 163840 := by
  have h1 := nest3_le (pr := ccRow m k x z) (s1 := ccA1 m x) (s2 := fun b _ => ccA2 m k z b) (c := 64) (d := 64) (n := m.t.src.length) (fun a ha => o.a1 ha) (fun a ha b _ => o.a2 ha) hb he hd
  have h2 : m.t.src.length * (64 * 64) ≤ 40 * (64 * 64) := Nat.mul_le_mul_right _ o.hm.1.t.1.n40
  exact Nat.le_trans h1 h2
theorem CcOk.sall {m k : Prof} {x z : Int} (o : CcOk m k x z) : (ccS m k x z m.t.src.length 0 0).length ≤ 163840 := by
  have h1 := nest3_all (pr := ccRow m k x z) (s1 := ccA1 m x) (s2 := fun b _ => ccA2 m k z b) (c := 64) (d := 64) (n := m.t.src.length) (fun a ha => o.a1 ha) (fun a ha b _ => o.a2 ha)
  have h2 : m.t.src.length * (64 * 64) ≤ 40 * (64 * 64) := Nat.mul_le_mul_right _ o.hm.1.t.1.n40
  exact Nat.le_trans h1 h2
theorem CcOk.row {m k : Prof} {x z : Int} (o : CcOk m k x z) {p : List Int} (hp : p ∈ ccS m k x z m.t.src.length 0 0) : 2 ≤ p.length ∧ 0 ≤ p.getD 0 0 ∧ p.getD 0 0 < (ccL m k x z).length ∧ 0 ≤ p.getD 1 0 ∧ p.getD 1 0 < (ccL m k x z).length := by
  obtain ⟨b, e, d, h1, h2, h3, rfl⟩ := nest3_mem hp
  have q := o.pr h1 h2 h3
  obtain ⟨u, u1, _, u3⟩ := idxLL_mem (ctL_nodup) q.mT
  obtain ⟨v, v1, _, v3⟩ := idxLL_mem (ctL_nodup) q.mU
  refine ⟨by simp [ccRow], ?_, q.lT, ?_, q.lU⟩
  · show 0 ≤ idxLL (ccL m k x z) _
    unfold ccL; rw [u3]; omega
  · show 0 ≤ idxLL (ccL m k x z) _
    unfold ccL; rw [v3]; omega
structure CcV (m k : Prof) (x z : Int) (b e d : Nat) : Prop where
  row : ccRow m k x z b e d = [(ccSt m k x z m.t.obj.toNat).getD (m.t.tgt.getD b 0).toNat 0 + ((m.bh.getD b []).getD x.toNat []).getD e 0 * (k.sz.getD (m.t.tgt.getD b 0).toNat []).getD z.toNat 0 + (d : Int), (ccSt m k x z m.t.obj.toNat).getD (m.t.src.getD b 0).toNat 0 + (e : Int) * (k.sz.getD (m.t.src.getD b 0).toNat []).getD z.toNat 0 + ((k.be.getD b []).getD z.toNat []).getD d 0]
  lT : (ccSt m k x z m.t.obj.toNat).getD (m.t.tgt.getD b 0).toNat 0 + ((m.bh.getD b []).getD x.toNat []).getD e 0 * (k.sz.getD (m.t.tgt.getD b 0).toNat []).getD z.toNat 0 + (d : Int) < (ccL m k x z).length
  lU : (ccSt m k x z m.t.obj.toNat).getD (m.t.src.getD b 0).toNat 0 + (e : Int) * (k.sz.getD (m.t.src.getD b 0).toNat []).getD z.toNat 0 + ((k.be.getD b []).getD z.toNat []).getD d 0 < (ccL m k x z).length
theorem CcP.v {m k : Prof} {x z : Int} {b e d : Nat} (q : CcP m k x z b e d) : CcV m k x z b e d := by
  obtain ⟨mT, mU, iT, iU, lT, lU, _, _, _, _⟩ := q
  rw [iT] at lT
  rw [iU] at lU
  exact ⟨by unfold ccRow; rw [iT, iU], lT, lU⟩
/-- The classes of the triples, and the code. -/
noncomputable def ccC (m k : Prof) (x z : Int) : Int := bif B (ctCode m k x z = 0) then (bif B ((ccL m k x z).length ≤ 256) then 0 else 3) else ctCode m k x z
noncomputable def ccR (m k : Prof) (x z : Int) : List Int := bif B (ctCode m k x z = 0) then (bif B ((ccL m k x z).length ≤ 256) then joinL (ccL m k x z).length (ccI m k x z m.t.src.length 0 0) else []) else []
theorem cc_1 {m k : Prof} {x z : Int} (h : ¬ ctCode m k x z = 0) : ccR m k x z = [] ∧ ccC m k x z = ctCode m k x z := by unfold ccR ccC; rw [B_false h]; exact ⟨rfl, rfl⟩
theorem cc_2 {m k : Prof} {x z : Int} (h : ctCode m k x z = 0) (h' : ¬ (ccL m k x z).length ≤ 256) : ccR m k x z = [] ∧ ccC m k x z = 3 := by unfold ccR ccC; rw [B_true h, B_false h']; exact ⟨rfl, rfl⟩
theorem cc_3 {m k : Prof} {x z : Int} (h : ctCode m k x z = 0) (h' : (ccL m k x z).length ≤ 256) : ccR m k x z = joinL (ccL m k x z).length (ccI m k x z m.t.src.length 0 0) ∧ ccC m k x z = 0 := by unfold ccR ccC; rw [B_true h, B_true h']; exact ⟨rfl, rfl⟩
theorem ccR_len (m k : Prof) (x z : Int) : (ccR m k x z).length ≤ 256 := by
  by_cases h : ctCode m k x z = 0
  · by_cases h' : (ccL m k x z).length ≤ 256
    · rw [(cc_3 h h').1, length_joinL]; exact h'
    · rw [(cc_2 h h').1]; simp
  · rw [(cc_1 h).1]; simp
theorem CcOk.of {m k : Prof} {x z : Int} (h : ctCode m k x z = 0) : CcOk m k x z := by
  obtain ⟨h1, h2, h3, h4, h5, h6, h7⟩ := ctCode_0 h
  exact ⟨h1, h2, h3, h4, h5, h6, h7⟩
end Go.GL
/- Maps keyed by triples. No condition but those of each statement. -/
namespace Go.Proofs.Ytgnfekfdmgnhcaa
open Go Go.GL Go.RowKit Go.Proofs
theorem mtt_153_Cc : mapTT Try.prog 153 = some (156, 2) := by kernel_rfl
theorem ag_156_Cc : aggT Try.prog 156 = some 3 := by kernel_rfl
theorem sz_156_Cc : (Try.prog.info? 156).map (·.size) = some 3 := by kernel_rfl
theorem aggEq_156 (a0 a1 a2 b0 b1 b2 : Int) : ∀ w, (Op.equal 156 (.agg #[.int .i64 a0, .int .i64 a1, .int .i64 a2]) (.agg #[.int .i64 b0, .int .i64 b1, .int .i64 b2])).run Try.prog w = .ok (a0 == b0 && a1 == b1 && a2 == b2) w := by
  intro w
  unfold Op.equal Op.maxDepth
  simp [go_sem, run_equalIn_agg]
  (repeat' split) <;> simp_all
theorem keyT3 : KeyT Try.prog 156 3 := by
  refine ⟨⟨Try.prog.fieldsOf 156, by kernel_rfl⟩, fun s t hs ht w => ?_, fun b s hs w => ?_⟩
  · match s, t, hs, ht with
    | [a0, a1, a2], [b0, b1, b2], _, _ =>
      have := aggEq_156 a0 a1 a2 b0 b1 b2 w
      refine Eq.trans this ?_
      refine congrArg (fun r => Result.ok r w) ?_
      rw [Bool.eq_iff_iff]
      simp [and_assoc]
  · exact checkKeyT (by kernel_rfl) (by kernel_rfl) b hs w
theorem l32Starts_c {m k : Prof} {p q : ProfP} {x z : Int} {H : GHeap} (hin : m.In H p := by assumption) (hin1 : k.In H q := by assumption) (hc : CtOk m k x z m.t.obj.toNat) (ho : 0 ≤ m.t.obj) :
    GCalls Try.prog 122 [.agg (m.cells p).toArray, .agg (k.cells q).toArray, .int .i64 x, .int .i64 z] H (NewInts 2 H (ccSt m k x z m.t.obj.toNat)) := by
  obtain ⟨b1, b2, b3, b4, b5, b6, b7, b8⟩ := id hc
  refine GCalls.body (N := 44) (rs := [.tmp 8]) Try.func122 rfl rfl rfl rfl (fun Qx hret hend => ?_)
  refine .forget (fr' := [(0, some _), (1, some _), (2, some _), (3, some _)]) ⟨rfl, rfl, rfl, rfl, trivial⟩ ?_
  have hle := GHeap.Le.refl H
  have base_hin := hin
  have base_hin1 := hin1
  refine .seq (fun K1 hK1 => ?_)
  refine .region ?_
  refine .r rfl rfl rfl (.boxR rfl sz_40_VProf rfl) ?_
  rintro _ H4 ⟨g4, rfl, le4, ge4, at4⟩
  have nx_H4 := le4.1
  replace hle := hle.trans le4
  have lt_at4 := GHeap.lt_of_get at4
  replace hin := base_hin.mono hle
  replace hin1 := base_hin1.mono hle
  have hb4 : Prof.At _ g4 0 m p := ⟨Mem.of_get at4, hin⟩
  obtain ⟨fs4, ft4, c104, c114, c124, i24, i34, i44⟩ := hb4.get
  have hm4 : MemN _ _ _ _ _ := ⟨rfl, hb4.1⟩
  have hi4 := hb4.2
  have hms4 : MemN _ _ _ _ _ := ⟨rfl, fs4.1⟩
  have his4 := fs4.2
  have hmt4 : MemN _ _ _ _ _ := ⟨rfl, ft4.1⟩
  have hit4 := ft4.2
  refine .r rfl rfl rfl (.boxR rfl sz_40_VProf rfl) ?_
  rintro _ H5 ⟨g5, rfl, le5, ge5, at5⟩
  have nx_H5 := le5.1
  replace hle := hle.trans le5
  replace at4 := le5.2 _ _ at4
  have lt_at5 := GHeap.lt_of_get at5
  replace hin := base_hin.mono hle
  replace hin1 := base_hin1.mono hle
  clear hb4 fs4 ft4 c104 c114 c124 i24 i34 i44 hm4 hi4 hms4 his4 hmt4 hit4
  have hb4 : Prof.At _ g4 0 m p := ⟨Mem.of_get at4, hin⟩
  obtain ⟨fs4, ft4, c104, c114, c124, i24, i34, i44⟩ := hb4.get
  have hm4 : MemN _ _ _ _ _ := ⟨rfl, hb4.1⟩
  have hi4 := hb4.2
  have hms4 : MemN _ _ _ _ _ := ⟨rfl, fs4.1⟩
  have his4 := fs4.2
  have hmt4 : MemN _ _ _ _ _ := ⟨rfl, ft4.1⟩
  have hit4 := ft4.2
  have hb5 : Prof.At _ g5 0 k q := ⟨Mem.of_get at5, hin1⟩
  obtain ⟨fs5, ft5, c105, c115, c125, i25, i35, i45⟩ := hb5.get
  have hm5 : MemN _ _ _ _ _ := ⟨rfl, hb5.1⟩
  have hi5 := hb5.2
  have hms5 : MemN _ _ _ _ _ := ⟨rfl, fs5.1⟩
  have his5 := fs5.2
  have hmt5 : MemN _ _ _ _ _ := ⟨rfl, ft5.1⟩
  have hit5 := ft5.2
  refine .m rfl rfl rfl (.assign rfl) (.nil ?_)
  refine hK1 _ _ ?_
  refine .seq (fun K2 hK2 => ?_)
  refine .region ?_
  refine .r rfl rfl rfl (.litR rfl sl_22_A ze_2_E rfl rfl (by omega) (by omega) rfl rfl) ?_
  rintro _ H12 ⟨g12, rfl, le12, ge12, at12⟩
  have nx_H12 := le12.1
  replace hle := hle.trans le12
  replace at4 := le12.2 _ _ at4
  replace at5 := le12.2 _ _ at5
  have lt_at12 := GHeap.lt_of_get at12
  replace hin := base_hin.mono hle
  replace hin1 := base_hin1.mono hle
  clear hb4 fs4 ft4 c104 c114 c124 i24 i34 i44 hm4 hi4 hms4 his4 hmt4 hit4
  have hb4 : Prof.At _ g4 0 m p := ⟨Mem.of_get at4, hin⟩
  obtain ⟨fs4, ft4, c104, c114, c124, i24, i34, i44⟩ := hb4.get
  have hm4 : MemN _ _ _ _ _ := ⟨rfl, hb4.1⟩
  have hi4 := hb4.2
  have hms4 : MemN _ _ _ _ _ := ⟨rfl, fs4.1⟩
  have his4 := fs4.2
  have hmt4 : MemN _ _ _ _ _ := ⟨rfl, ft4.1⟩
  have hit4 := ft4.2
  clear hb5 fs5 ft5 c105 c115 c125 i25 i35 i45 hm5 hi5 hms5 his5 hmt5 hit5
  have hb5 : Prof.At _ g5 0 k q := ⟨Mem.of_get at5, hin1⟩
  obtain ⟨fs5, ft5, c105, c115, c125, i25, i35, i45⟩ := hb5.get
  have hm5 : MemN _ _ _ _ _ := ⟨rfl, hb5.1⟩
  have hi5 := hb5.2
  have hms5 : MemN _ _ _ _ _ := ⟨rfl, fs5.1⟩
  have his5 := fs5.2
  have hmt5 : MemN _ _ _ _ _ := ⟨rfl, ft5.1⟩
  have hit5 := ft5.2
  replace at12 : GHeap.get H12 g12 = some (.row (ints []) 2 true) := at12
  refine .m rfl rfl rfl (.assign rfl) (.nil ?_)
  refine hK2 _ _ ?_
  refine .seq (fun K3 hK3 => ?_)
  refine .region (.m rfl rfl rfl (.assign rfl) (.nil ?_))
  refine hK3 _ _ ?_
  refine .seq (fun K4 hK4 => ?_)
  refine .seq (fun K5 hK5 => ?_)
  refine .region ?_
  obtain ⟨d0, d1, d2, d3, d4, e1, e2, e3, e4⟩ := ft4.get
  refine .m rfl rfl rfl (.assign rfl) (.nil ?_)
  refine hK5 _ _ ?_
  refine .block ?_
  refine .loopR (σ := Nat × Nat × Nat) [(2, some _), (3, some _), (4, some _), (5, some _)] (fun (y, gL9, nL9) => [(11, some (.int .i64 (y : Int))), (10, some (.int .i64 (sumN (ccF m k x z) y))), (9, some (.slice (some ⟨gL9, 0, none⟩) nL9 nL9))]) (fun (y, gL9, nL9) H' => St [g12] H12 H' ∧ H'.get gL9 = some (.row (ints (ccSt m k x z y)) 2 true) ∧ (gL9 = g12 ∨ H12.next ≤ gL9) ∧ nL9 = (ccSt m k x z y).length ∧ y ≤ m.t.obj.toNat) (fun (y, gL9, nL9) => m.t.obj.toNat - y) ((0, _, _)) ⟨rfl, rfl, rfl, rfl, trivial⟩ ⟨rfl, rfl, rfl, trivial⟩ ?_ ?_
  ·
   refine ⟨.refl _ _, by first | assumption | exact at12 | simpa using at12, .inl rfl, by first | rfl | assumption | simp | omega, ?_⟩
   omega
  rintro ⟨y, gL9, nL9⟩ HL1 ⟨lst1, at_L9, pl_L9, ln_L9, hI⟩ KL1 hKL1
  refine .forget (fr' := [(11, some (.int .i64 (y : Int))), (10, some (.int .i64 (sumN (ccF m k x z) y))), (9, some (.slice (some ⟨gL9, 0, none⟩) nL9 nL9)), (2, some _), (3, some _), (4, some _), (5, some _)]) ⟨rfl, rfl, rfl, rfl, rfl, rfl, rfl, trivial⟩ ?_
  have ge_L9 : H.next ≤ gL9 := by omega
  have nx_HL1 := lst1.nx
  replace hle := hle.st lst1 (fun k hk => ⟨by omega, trivial⟩)
  have ne_g4_g12 : g4 ≠ g12 := by omega
  replace at4 := lst1.same _ _ ⟨ne_g4_g12, trivial⟩ at4
  have ne_g5_g12 : g5 ≠ g12 := by omega
  replace at5 := lst1.same _ _ ⟨ne_g5_g12, trivial⟩ at5
  have lt_at_L9 := GHeap.lt_of_get at_L9
  replace hin := base_hin.mono hle
  replace hin1 := base_hin1.mono hle
  clear hb4 fs4 ft4 c104 c114 c124 i24 i34 i44 hm4 hi4 hms4 his4 hmt4 hit4
  have hb4 : Prof.At _ g4 0 m p := ⟨Mem.of_get at4, hin⟩
  obtain ⟨fs4, ft4, c104, c114, c124, i24, i34, i44⟩ := hb4.get
  have hm4 : MemN _ _ _ _ _ := ⟨rfl, hb4.1⟩
  have hi4 := hb4.2
  have hms4 : MemN _ _ _ _ _ := ⟨rfl, fs4.1⟩
  have his4 := fs4.2
  have hmt4 : MemN _ _ _ _ _ := ⟨rfl, ft4.1⟩
  have hit4 := ft4.2
  clear hb5 fs5 ft5 c105 c115 c125 i25 i35 i45 hm5 hi5 hms5 his5 hmt5 hit5
  have hb5 : Prof.At _ g5 0 k q := ⟨Mem.of_get at5, hin1⟩
  obtain ⟨fs5, ft5, c105, c115, c125, i25, i35, i45⟩ := hb5.get
  have hm5 : MemN _ _ _ _ _ := ⟨rfl, hb5.1⟩
  have hi5 := hb5.2
  have hms5 : MemN _ _ _ _ _ := ⟨rfl, fs5.1⟩
  have his5 := fs5.2
  have hmt5 : MemN _ _ _ _ _ := ⟨rfl, ft5.1⟩
  have hit5 := ft5.2
  have hfl : (ccSt m k x z y).length = y := length_ccSt m k x z y
  have sb := ccSum_bd hc (y := y) (by omega)
  refine .seq (fun K6 hK6 => ?_)
  refine .seq (fun K7 hK7 => ?_)
  refine .region (.m rfl rfl rfl (.move rfl) (.m rfl rfl rfl (.fieldAddr fo_40_1_VProf rfl) (.m rfl rfl rfl (.fieldAddr fo_27_0_B rfl) ?_)))
  refine .m rfl rfl rfl (.load on_2_A rfl (by first | assumption | exact Mem.of_get at4 5 _ rfl)) ?_
  refine .m rfl rfl rfl (.cmp rfl rfl rfl) (.nil ?_)
  refine hK7 _ _ ?_
  refine .cond rfl (fun h17 => ?_) (fun h17 => ?_)
  ·
   simp only [sps] at h17
   have hpe := b7 y (by omega)
   have hqe := b8 y (by omega)
   have hpb := prod_bd hpe hqe.2
   have u1 := i24.2 x.toNat (by omega)
   have u2 := i25.2 y (by omega)
   refine .skip ?_
   refine hK6 _ _ ?_
   refine .seq (fun K8 hK8 => ?_)
   refine .block ?_
   refine .seq (fun K9 hK9 => ?_)
   refine .region (.m rfl rfl rfl (.move rfl) (.m rfl rfl rfl (.move rfl) ?_))
   refine .r rfl rfl rfl (.litR rfl sl_22_A ze_2_E rfl rfl (by omega) (by omega) rfl rfl) ?_
   rintro _ H22 ⟨g22, rfl, le22, ge22, at22⟩
   have nx_H22 := le22.1
   replace hle := hle.trans le22
   replace lst1 := lst1.le le22
   replace at4 := le22.2 _ _ at4
   replace at5 := le22.2 _ _ at5
   replace at_L9 := le22.2 _ _ at_L9
   have lt_at22 := GHeap.lt_of_get at22
   replace hin := base_hin.mono hle
   replace hin1 := base_hin1.mono hle
   clear hb4 fs4 ft4 c104 c114 c124 i24 i34 i44 hm4 hi4 hms4 his4 hmt4 hit4
   have hb4 : Prof.At _ g4 0 m p := ⟨Mem.of_get at4, hin⟩
   obtain ⟨fs4, ft4, c104, c114, c124, i24, i34, i44⟩ := hb4.get
   have hm4 : MemN _ _ _ _ _ := ⟨rfl, hb4.1⟩
   have hi4 := hb4.2
   have hms4 : MemN _ _ _ _ _ := ⟨rfl, fs4.1⟩
   have his4 := fs4.2
   have hmt4 : MemN _ _ _ _ _ := ⟨rfl, ft4.1⟩
   have hit4 := ft4.2
   clear hb5 fs5 ft5 c105 c115 c125 i25 i35 i45 hm5 hi5 hms5 his5 hmt5 hit5
   have hb5 : Prof.At _ g5 0 k q := ⟨Mem.of_get at5, hin1⟩
   obtain ⟨fs5, ft5, c105, c115, c125, i25, i35, i45⟩ := hb5.get
   have hm5 : MemN _ _ _ _ _ := ⟨rfl, hb5.1⟩
   have hi5 := hb5.2
   have hms5 : MemN _ _ _ _ _ := ⟨rfl, fs5.1⟩
   have his5 := fs5.2
   have hmt5 : MemN _ _ _ _ _ := ⟨rfl, ft5.1⟩
   have hit5 := ft5.2
   clear u1 u2
   have u1 := i24.2 x.toNat (by omega)
   have u2 := i25.2 y (by omega)
   refine .r rfl rfl rfl (.appendI rfl sl_22_A ze_2_E rfl by_2_E sl_22_A rfl rfl (by assumption) (by assumption) (by first | omega | (simp <;> omega)) (by omega) (by omega)) ?_
   rintro _ H23 ⟨g23, rfl, st23, ge23, at23⟩
   have nx_H23 := st23.nx
   replace hle := hle.st st23 (fun k hk => ⟨by omega, trivial⟩)
   replace lst1 := lst1.st st23 (fun k hk ho => by simp only [out, and_true] at ho ⊢ <;> first | exact ho | exact ho.1 | exact ho.2 | exact ho.2.1 | exact ho.2.2 | exact ho.2.2.1 | exact ho.2.2.2 | omega)
   have ne_g4_gL9 : g4 ≠ gL9 := by omega
   replace at4 := st23.same _ _ ⟨ne_g4_gL9, trivial⟩ at4
   have ne_g5_gL9 : g5 ≠ gL9 := by omega
   replace at5 := st23.same _ _ ⟨ne_g5_gL9, trivial⟩ at5
   have ne_g22_gL9 : g22 ≠ gL9 := by omega
   replace at22 := st23.same _ _ ⟨ne_g22_gL9, trivial⟩ at22
   have lt_at23 := GHeap.lt_of_get at23
   replace hin := base_hin.mono hle
   replace hin1 := base_hin1.mono hle
   clear hb4 fs4 ft4 c104 c114 c124 i24 i34 i44 hm4 hi4 hms4 his4 hmt4 hit4
   have hb4 : Prof.At _ g4 0 m p := ⟨Mem.of_get at4, hin⟩
   obtain ⟨fs4, ft4, c104, c114, c124, i24, i34, i44⟩ := hb4.get
   have hm4 : MemN _ _ _ _ _ := ⟨rfl, hb4.1⟩
   have hi4 := hb4.2
   have hms4 : MemN _ _ _ _ _ := ⟨rfl, fs4.1⟩
   have his4 := fs4.2
   have hmt4 : MemN _ _ _ _ _ := ⟨rfl, ft4.1⟩
   have hit4 := ft4.2
   clear hb5 fs5 ft5 c105 c115 c125 i25 i35 i45 hm5 hi5 hms5 his5 hmt5 hit5
   have hb5 : Prof.At _ g5 0 k q := ⟨Mem.of_get at5, hin1⟩
   obtain ⟨fs5, ft5, c105, c115, c125, i25, i35, i45⟩ := hb5.get
   have hm5 : MemN _ _ _ _ _ := ⟨rfl, hb5.1⟩
   have hi5 := hb5.2
   have hms5 : MemN _ _ _ _ _ := ⟨rfl, fs5.1⟩
   have his5 := fs5.2
   have hmt5 : MemN _ _ _ _ _ := ⟨rfl, ft5.1⟩
   have hit5 := ft5.2
   clear u1 u2
   have u1 := i24.2 x.toNat (by omega)
   have u2 := i25.2 y (by omega)
   refine .m rfl rfl rfl (.assign rfl) (.nil ?_)
   refine hK9 _ _ ?_
   refine .regionD mixed_orders_B (.q 0 (.q 1 (.q 2 (.q 3 (.q 4 (.q 5 (.q 6 (.q 7 (.q 8 (.q 9 (.q 10 (.q 11 (.q 12 (.q 13 (.q 14 (.q 15 (.q 16 (.q 17 (.q 18 (.c 19 0 (.done))))))))))))))))))))) (by kernel_rfl) ?_
   refine .m rfl rfl rfl rfl (.refl _) (.move rfl) (.m rfl rfl rfl rfl (.refl _) (.fieldAddr fo_40_2_VProf rfl) ?_)
   refine .m rfl rfl rfl rfl (.refl _) (.load on_23_B rfl (by first | assumption | exact Mem.of_get at4 10 _ rfl)) ?_
   refine .m rfl rfl rfl rfl (.refl _) (.move rfl) ?_
   refine .m rfl rfl rfl rfl (.refl _) (.idx1 sl_23_B (Intss.sl (by assumption)) rfl rfl (by omega) (by omega)) ?_
   refine .m rfl rfl rfl rfl (.refl _) (.loadR on_22_B (by assumption) rfl (by omega)) ?_
   refine .m rfl rfl rfl rfl (.refl _) (.move rfl) ?_
   refine .m rfl rfl rfl rfl (.refl _) (.idxN sl_22_A (by assumption) rfl rfl (by omega)) ?_
   refine .m rfl rfl rfl rfl (.refl _) (.loadI on_2_A (by assumption) rfl (by omega)) ?_
   refine .m rfl rfl rfl rfl (.refl _) (.fieldAddr fo_40_2_VProf rfl) ?_
   refine .m rfl rfl rfl rfl (.refl _) (.load on_23_B rfl (by first | assumption | exact Mem.of_get at5 10 _ rfl)) ?_
   refine .m rfl rfl rfl rfl (.refl _) (.move rfl) ?_
   refine .m rfl rfl rfl rfl (.refl _) (.idxN sl_23_B (Intss.sl (by assumption)) rfl rfl (by omega)) ?_
   refine .m rfl rfl rfl rfl (.refl _) (.loadR on_22_B (by assumption) rfl (by omega)) ?_
   refine .m rfl rfl rfl rfl (.refl _) (.move rfl) ?_
   refine .m rfl rfl rfl rfl (.refl _) (.idx1 sl_22_A (by assumption) rfl rfl (by omega) (by omega)) ?_
   refine .m rfl rfl rfl rfl (.refl _) (.loadI on_2_A (by assumption) rfl (by omega)) ?_
   refine .m rfl rfl rfl rfl (.refl _) (.mul rfl rfl rfl (by omega) (by omega)) ?_
   refine .m rfl rfl rfl rfl (.refl _) (.add rfl rfl rfl (by omega) (by omega)) ?_
   refine .d0 rfl rfl rfl rfl (.quiet (.assign rfl) CIs.mk) ?_
   refine .done ?_
   refine hK8 _ _ ?_
   refine .region (.m rfl rfl rfl (.move rfl) ?_)
   refine .m rfl rfl rfl (.add rfl rfl rfl (by omega) (by omega)) ?_
   refine .m rfl rfl rfl (.assign rfl) (.nil ?_)
   refine hKL1 ((y + 1, _, _)) _ _ ?_ ?_ ⟨rfl, rfl, rfl, rfl, rfl, rfl, rfl, trivial⟩
   ·
    refine ⟨lst1, by first | assumption | (rw [ccSt_succ]; assumption), by omega, by first | omega | (simp only [List.length_append, List.length_cons, List.length_nil] <;> omega) | (rw [ccSt_succ] <;> (first | omega | (simp only [List.length_append, List.length_cons, List.length_nil] <;> omega))), ?_⟩
    omega
   (dsimp only; omega)
  try simp only [sps] at h17
  refine .exit ?_
  refine hK4 _ _ ?_
  refine .seq (fun K10 hK10 => ?_)
  refine .region (.m rfl rfl rfl (.move rfl) (.m rfl rfl rfl (.assign rfl) (.nil ?_)))
  refine hK10 _ _ ?_
  refine .ret ?_
  refine hret _ _ ?_
  refine ⟨_, rfl, ?_⟩
  obtain rfl : y = m.t.obj.toNat := by omega
  exact ⟨hle, _, by rw [ln_L9], at_L9, by omega⟩
set_option maxHeartbeats 4000000 in
theorem numbered_c {b g : Nat} {xss : List (List Int)} {H : GHeap} (v : TrAt b H g xss) (nd : xss.Nodup) (hl : xss.length ≤ 1000000) :
    GCalls Try.prog 124 [.slice (some ⟨g, 0, none⟩) xss.length xss.length] H (fun v H' => H.Le H' ∧ ∃ g', v = .map (some g') ∧ H'.get g' = some (.map (tmap (tlE xss xss.length))) ∧ H.next ≤ g') := by
  obtain ⟨lo, three, e, hg⟩ := v
  refine GCalls.body (N := 19) (rs := [.tmp 2]) Try.func124 rfl rfl rfl rfl (fun Qx hret hend => ?_)
  refine .forget (fr' := [(0, some _)]) ⟨rfl, trivial⟩ ?_
  have hle := GHeap.Le.refl H
  have lt_hg := GHeap.lt_of_get hg
  refine .seq (fun K1 hK1 => ?_)
  refine .region (.m rfl rfl rfl (.assign rfl) (.nil ?_))
  refine hK1 _ _ ?_
  refine .seq (fun K2 hK2 => ?_)
  refine .region ?_
  refine .r rfl rfl rfl (.makeMapR rfl) ?_
  rintro _ H6 ⟨g6, rfl, le6, ge6, at6⟩
  have nx_H6 := le6.1
  replace hle := hle.trans le6
  replace hg := le6.2 _ _ hg
  have lt_at6 := GHeap.lt_of_get at6
  refine .m rfl rfl rfl (.assign rfl) (.nil ?_)
  refine hK2 _ _ ?_
  refine .seq (fun K3 hK3 => ?_)
  refine .seq (fun K4 hK4 => ?_)
  refine .region (.m rfl rfl rfl (.move rfl) (.m rfl rfl rfl (.len sl_103_Ct rfl) (.m rfl rfl rfl (.move rfl) ?_)))
  refine .nil ?_
  refine hK4 _ _ ?_
  refine .block ?_
  refine .loopR (σ := Nat) [(3, some _), (7, some _), (8, some _)] (fun k => [(9, some (.int .i64 (k : Int)))]) (fun k H' => St [g6] H6 H' ∧ H'.get g6 = some (.map (tmap (tlE xss k))) ∧ k ≤ xss.length) (fun k => xss.length - k) (0) ⟨rfl, rfl, rfl, trivial⟩ ⟨rfl, trivial⟩ ?_ ?_
  ·
   refine ⟨.refl _ _, by first | assumption | exact at6 | simpa using at6, ?_⟩
   omega
  rintro k HL1 ⟨lst1, at_L3, hI⟩ KL1 hKL1
  refine .forget (fr' := [(9, some (.int .i64 (k : Int))), (3, some _), (7, some _), (8, some _)]) ⟨rfl, rfl, rfl, rfl, trivial⟩ ?_
  have nx_HL1 := lst1.nx
  replace hle := hle.st lst1 (fun k hk => ⟨by omega, trivial⟩)
  have ne_g_g6 : g ≠ g6 := by omega
  replace hg := lst1.same _ _ ⟨ne_g_g6, trivial⟩ hg
  have lt_at_L3 := GHeap.lt_of_get at_L3
  refine .seq (fun K5 hK5 => ?_)
  refine .region (.m rfl rfl rfl (.cmp rfl rfl rfl) (.nil ?_))
  refine hK5 _ _ ?_
  refine .seq (fun K6 hK6 => ?_)
  refine .cond rfl (fun h10 => ?_) (fun h10 => ?_)
  ·
   simp only [sps] at h10
   have hth := three _ (getD_mem_list (d := []) (show k < xss.length by omega))
   have hnew := lookT_new nd (show k < xss.length by omega)
   have hml := tlE_mem three (k := k) (by omega)
   rw [← three_eq hth] at hnew
   refine .skip ?_
   refine hK6 _ _ ?_
   refine .seq (fun K7 hK7 => ?_)
   refine .block ?_
   refine .seq (fun K8 hK8 => ?_)
   refine .region ?_
   have i1 := tcells_slA three hg
   have hm1 := tcells_mem three hg (i := k) (by omega)
   refine .m rfl rfl rfl (.move rfl) ?_
   refine .m rfl rfl rfl (.idx sl_103_Ct (by assumption) (by omega) rfl rfl (by omega) (by omega) rfl) ?_
   refine .m rfl rfl rfl (.loadM ag_156_Cc rfl (by assumption)) ?_
   refine .r rfl rfl rfl (.allocR rfl ze_156_Ct rfl) ?_
   rintro _ H5 ⟨g5, rfl, le5, ge5, at5⟩
   have nx_H5 := le5.1
   replace hle := hle.trans le5
   replace lst1 := lst1.le le5
   replace hg := le5.2 _ _ hg
   replace at_L3 := le5.2 _ _ at_L3
   have lt_at5 := GHeap.lt_of_get at5
   refine .m rfl rfl rfl (.assign rfl) ?_
   refine .r0 rfl rfl (.fillR rfl sz_156_Cc rfl rfl rfl rfl (by assumption) (by first | rfl | exact Nat.le_of_ble_eq_true rfl | simp)) ?_
   rintro _ H4005 ⟨rfl, st4005, at4005⟩
   have nx_H4005 := st4005.nx
   replace hle := hle.st st4005 (fun k hk => ⟨by omega, trivial⟩)
   replace lst1 := lst1.st st4005 (fun k hk ho => by simp only [out, and_true] at ho ⊢ <;> first | exact ho | exact ho.1 | exact ho.2 | exact ho.2.1 | exact ho.2.2 | exact ho.2.2.1 | exact ho.2.2.2 | omega)
   have ne_g_g5 : g ≠ g5 := by omega
   replace hg := st4005.same _ _ ⟨ne_g_g5, trivial⟩ hg
   have ne_g6_g5 : g6 ≠ g5 := by omega
   replace at_L3 := st4005.same _ _ ⟨ne_g6_g5, trivial⟩ at_L3
   have lt_at4005 := GHeap.lt_of_get at4005
   have mm4005 : MemN _ _ _ _ _ := ⟨rfl, Mem.of_get at4005⟩
   refine .nil ?_
   refine hK8 _ _ ?_
   refine .region (.m rfl rfl rfl (.move rfl) ?_)
   refine .m rfl rfl rfl (.loadM ag_156_Cc rfl ⟨rfl, Mem.of_get at4005⟩) ?_
   refine .m rfl rfl rfl (.move rfl) ?_
   refine .r0 rfl rfl (.mapPutT rfl mtt_153_Cc keyT3 rfl rfl rfl (j := [_, _, _]) rfl hml (by assumption) hnew) ?_
   rintro _ H5003 ⟨rfl, st5003, at5003⟩
   have nx_H5003 := st5003.nx
   replace hle := hle.st st5003 (fun k hk => ⟨by omega, trivial⟩)
   replace lst1 := lst1.st st5003 (fun k hk ho => by simp only [out, and_true] at ho ⊢ <;> first | exact ho | exact ho.1 | exact ho.2 | exact ho.2.1 | exact ho.2.2 | exact ho.2.2.1 | exact ho.2.2.2 | omega)
   replace hg := st5003.same _ _ ⟨ne_g_g6, trivial⟩ hg
   replace at4005 := st5003.same _ _ ⟨(Ne.symm ne_g6_g5), trivial⟩ at4005
   have lt_at5003 := GHeap.lt_of_get at5003
   clear mm4005
   have mm4005 : MemN _ _ _ _ _ := ⟨rfl, Mem.of_get at4005⟩
   refine .nil ?_
   refine hK7 _ _ ?_
   refine .region ?_
   refine .m rfl rfl rfl (.add rfl rfl rfl (by omega) (by omega)) ?_
   refine .m rfl rfl rfl (.move rfl) (.nil ?_)
   refine hKL1 (k + 1) _ _ ?_ ?_ ⟨rfl, rfl, rfl, rfl, trivial⟩
   ·
    refine ⟨lst1, by first | assumption | (rw [tlE_three hth]; assumption), ?_⟩
    omega
   omega
  try simp only [sps] at h10
  refine .exit ?_
  refine hK3 _ _ ?_
  refine .seq (fun K9 hK9 => ?_)
  refine .region (.m rfl rfl rfl (.move rfl) (.m rfl rfl rfl (.assign rfl) (.nil ?_)))
  refine hK9 _ _ ?_
  refine .ret ?_
  refine hret _ _ ?_
  refine ⟨_, rfl, ?_⟩
  obtain rfl : k = xss.length := by omega
  exact ⟨hle, _, rfl, at_L3, by omega⟩
end Go.Proofs.Ytgnfekfdmgnhcaa
/- Classes of composites, the other way. No condition but those of each statement. -/
namespace Go.Proofs.Ytgnfekfdmgnhcaa
open Go Go.GL Go.RowKit Go.Proofs
set_option maxHeartbeats 4000000 in
theorem l32Classes_c {m k : Prof} {p q : ProfP} {x z : Int} {ad : Option Addr} {r : Nat → Option Addr} {H : GHeap} (hin : m.In H p) (hin1 : k.In H q) (h : Intss H ad (ccL m k x z) r) (o : CcOk m k x z) (hL : (ccL m k x z).length ≤ 256) :
    GCalls Try.prog 76 [.agg (m.cells p).toArray, .agg (k.cells q).toArray, .int .i64 x, .int .i64 z, .slice ad (ccL m k x z).length (ccL m k x z).length] H (NewInts 2 H (joinL (ccL m k x z).length (ccI m k x z m.t.src.length 0 0))) := by
  obtain ⟨z8, z9⟩ := CtOk.of o.hm o.hk o.x0 o.x1 o.z0 o.z1 o.he
  have b8 := z8.qe
  have hx0 := o.x0
  have hz0 := o.z0
  have hto : m.t.obj ≤ k.sz.length ∧ m.t.obj ≤ (m.sz.getD x.toNat []).length ∧ x.toNat < m.sz.length := ⟨by have := z8.qn; omega, by have := z8.pn; omega, z8.xl⟩
  obtain ⟨ht1, ht2, ht3⟩ := hto
  have hct := hin.2.1
  have hll := length_ccSt m k x z m.t.obj.toNat
  have htl := o.hm.1.t.1.tl
  have hn40 := o.hm.1.t.1.n40
  have hsall := o.sall
  have hbl : m.bh.length = m.t.src.length := o.hm.1.z.hl
  have hel : k.be.length = m.t.src.length := by rw [o.he]; exact o.hk.1.z.bl
  refine GCalls.body (N := 134) (rs := [.tmp 10]) Try.func76 rfl rfl rfl rfl (fun Qx hret hend => ?_)
  refine .forget (fr' := [(0, some _), (1, some _), (2, some _), (3, some _), (4, some _)]) ⟨rfl, rfl, rfl, rfl, rfl, trivial⟩ ?_
  have hle := GHeap.Le.refl H
  have base_hin := hin
  have base_hin1 := hin1
  have base_h := h
  have base_hct := hct
  refine .seq (fun K1 hK1 => ?_)
  refine .region ?_
  refine .r rfl rfl rfl (.boxR rfl sz_40_VProf rfl) ?_
  rintro _ H5 ⟨g5, rfl, le5, ge5, at5⟩
  have nx_H5 := le5.1
  replace hle := hle.trans le5
  have lt_at5 := GHeap.lt_of_get at5
  replace hin := base_hin.mono hle
  replace hin1 := base_hin1.mono hle
  replace h := base_h.mono hle
  replace hct := base_hct.mono hle
  have hb5 : Prof.At _ g5 0 m p := ⟨Mem.of_get at5, hin⟩
  obtain ⟨fs5, ft5, c105, c115, c125, i25, i35, i45⟩ := hb5.get
  have hm5 : MemN _ _ _ _ _ := ⟨rfl, hb5.1⟩
  have hi5 := hb5.2
  have hms5 : MemN _ _ _ _ _ := ⟨rfl, fs5.1⟩
  have his5 := fs5.2
  have hmt5 : MemN _ _ _ _ _ := ⟨rfl, ft5.1⟩
  have hit5 := ft5.2
  refine .r rfl rfl rfl (.boxR rfl sz_40_VProf rfl) ?_
  rintro _ H6 ⟨g6, rfl, le6, ge6, at6⟩
  have nx_H6 := le6.1
  replace hle := hle.trans le6
  replace at5 := le6.2 _ _ at5
  have lt_at6 := GHeap.lt_of_get at6
  replace hin := base_hin.mono hle
  replace hin1 := base_hin1.mono hle
  replace h := base_h.mono hle
  replace hct := base_hct.mono hle
  clear hb5 fs5 ft5 c105 c115 c125 i25 i35 i45 hm5 hi5 hms5 his5 hmt5 hit5
  have hb5 : Prof.At _ g5 0 m p := ⟨Mem.of_get at5, hin⟩
  obtain ⟨fs5, ft5, c105, c115, c125, i25, i35, i45⟩ := hb5.get
  have hm5 : MemN _ _ _ _ _ := ⟨rfl, hb5.1⟩
  have hi5 := hb5.2
  have hms5 : MemN _ _ _ _ _ := ⟨rfl, fs5.1⟩
  have his5 := fs5.2
  have hmt5 : MemN _ _ _ _ _ := ⟨rfl, ft5.1⟩
  have hit5 := ft5.2
  have hb6 : Prof.At _ g6 0 k q := ⟨Mem.of_get at6, hin1⟩
  obtain ⟨fs6, ft6, c106, c116, c126, i26, i36, i46⟩ := hb6.get
  have hm6 : MemN _ _ _ _ _ := ⟨rfl, hb6.1⟩
  have hi6 := hb6.2
  have hms6 : MemN _ _ _ _ _ := ⟨rfl, fs6.1⟩
  have his6 := fs6.2
  have hmt6 : MemN _ _ _ _ _ := ⟨rfl, ft6.1⟩
  have hit6 := ft6.2
  refine .m rfl rfl rfl (.assign rfl) (.nil ?_)
  refine hK1 _ _ ?_
  refine .seq (fun K2 hK2 => ?_)
  refine .region (.m rfl rfl rfl (.fieldAddr fo_40_1_VProf rfl) ?_)
  refine .m rfl rfl rfl (.loadM ag_27_D rfl (by assumption)) ?_
  refine .r rfl rfl rfl (.allocR rfl ze_27_E rfl) ?_
  rintro _ H11 ⟨g11, rfl, le11, ge11, at11⟩
  have nx_H11 := le11.1
  replace hle := hle.trans le11
  replace at5 := le11.2 _ _ at5
  replace at6 := le11.2 _ _ at6
  have lt_at11 := GHeap.lt_of_get at11
  replace hin := base_hin.mono hle
  replace hin1 := base_hin1.mono hle
  replace h := base_h.mono hle
  replace hct := base_hct.mono hle
  clear hb5 fs5 ft5 c105 c115 c125 i25 i35 i45 hm5 hi5 hms5 his5 hmt5 hit5
  have hb5 : Prof.At _ g5 0 m p := ⟨Mem.of_get at5, hin⟩
  obtain ⟨fs5, ft5, c105, c115, c125, i25, i35, i45⟩ := hb5.get
  have hm5 : MemN _ _ _ _ _ := ⟨rfl, hb5.1⟩
  have hi5 := hb5.2
  have hms5 : MemN _ _ _ _ _ := ⟨rfl, fs5.1⟩
  have his5 := fs5.2
  have hmt5 : MemN _ _ _ _ _ := ⟨rfl, ft5.1⟩
  have hit5 := ft5.2
  clear hb6 fs6 ft6 c106 c116 c126 i26 i36 i46 hm6 hi6 hms6 his6 hmt6 hit6
  have hb6 : Prof.At _ g6 0 k q := ⟨Mem.of_get at6, hin1⟩
  obtain ⟨fs6, ft6, c106, c116, c126, i26, i36, i46⟩ := hb6.get
  have hm6 : MemN _ _ _ _ _ := ⟨rfl, hb6.1⟩
  have hi6 := hb6.2
  have hms6 : MemN _ _ _ _ _ := ⟨rfl, fs6.1⟩
  have his6 := fs6.2
  have hmt6 : MemN _ _ _ _ _ := ⟨rfl, ft6.1⟩
  have hit6 := ft6.2
  refine .r0 rfl rfl (.fillR rfl sz_27_D rfl rfl rfl rfl (by assumption) (by first | rfl | exact Nat.le_of_ble_eq_true rfl | simp)) ?_
  rintro _ H1003 ⟨rfl, st1003, at1003⟩
  have nx_H1003 := st1003.nx
  replace hle := hle.st st1003 (fun k hk => ⟨by omega, trivial⟩)
  have ne_g5_g11 : g5 ≠ g11 := by omega
  replace at5 := st1003.same _ _ ⟨ne_g5_g11, trivial⟩ at5
  have ne_g6_g11 : g6 ≠ g11 := by omega
  replace at6 := st1003.same _ _ ⟨ne_g6_g11, trivial⟩ at6
  have lt_at1003 := GHeap.lt_of_get at1003
  replace hin := base_hin.mono hle
  replace hin1 := base_hin1.mono hle
  replace h := base_h.mono hle
  replace hct := base_hct.mono hle
  clear hb5 fs5 ft5 c105 c115 c125 i25 i35 i45 hm5 hi5 hms5 his5 hmt5 hit5
  have hb5 : Prof.At _ g5 0 m p := ⟨Mem.of_get at5, hin⟩
  obtain ⟨fs5, ft5, c105, c115, c125, i25, i35, i45⟩ := hb5.get
  have hm5 : MemN _ _ _ _ _ := ⟨rfl, hb5.1⟩
  have hi5 := hb5.2
  have hms5 : MemN _ _ _ _ _ := ⟨rfl, fs5.1⟩
  have his5 := fs5.2
  have hmt5 : MemN _ _ _ _ _ := ⟨rfl, ft5.1⟩
  have hit5 := ft5.2
  clear hb6 fs6 ft6 c106 c116 c126 i26 i36 i46 hm6 hi6 hms6 his6 hmt6 hit6
  have hb6 : Prof.At _ g6 0 k q := ⟨Mem.of_get at6, hin1⟩
  obtain ⟨fs6, ft6, c106, c116, c126, i26, i36, i46⟩ := hb6.get
  have hm6 : MemN _ _ _ _ _ := ⟨rfl, hb6.1⟩
  have hi6 := hb6.2
  have hms6 : MemN _ _ _ _ _ := ⟨rfl, fs6.1⟩
  have his6 := fs6.2
  have hmt6 : MemN _ _ _ _ _ := ⟨rfl, ft6.1⟩
  have hit6 := ft6.2
  have mm1003 : MemN _ _ _ _ _ := ⟨rfl, Mem.of_get at1003⟩
  have hb11 : Cat.At _ g11 0 m.t p.t := ⟨Mem.of_get at1003, hct⟩
  obtain ⟨c011, c111, c211, c311, c411, i111, i211, i311, i411⟩ := hb11.get
  have hm11 : MemN _ _ _ _ _ := ⟨rfl, hb11.1⟩
  have hi11 := hb11.2
  refine .nil ?_
  refine hK2 _ _ ?_
  refine .seq (fun K3 hK3 => ?_)
  refine .region ?_
  refine .m rfl rfl rfl (.loadM ag_40_VProf rfl ⟨rfl, Mem.of_get at5⟩) ?_
  refine .m rfl rfl rfl (.loadM ag_40_VProf rfl ⟨rfl, Mem.of_get at6⟩) ?_
  refine .m rfl rfl rfl (.move rfl) (.m rfl rfl rfl (.move rfl) ?_)
  refine .call rfl rfl rfl rfl @Try.call122 rfl (l32Starts_c (hc := z8) (ho := z9)) ?_
  rintro _ H27 ⟨le27, g27, rfl, at27, ge27⟩
  have nx_H27 := le27.1
  replace hle := hle.trans le27
  replace at5 := le27.2 _ _ at5
  replace at6 := le27.2 _ _ at6
  replace at1003 := le27.2 _ _ at1003
  have lt_at27 := GHeap.lt_of_get at27
  replace hin := base_hin.mono hle
  replace hin1 := base_hin1.mono hle
  replace h := base_h.mono hle
  replace hct := base_hct.mono hle
  clear hb5 fs5 ft5 c105 c115 c125 i25 i35 i45 hm5 hi5 hms5 his5 hmt5 hit5
  have hb5 : Prof.At _ g5 0 m p := ⟨Mem.of_get at5, hin⟩
  obtain ⟨fs5, ft5, c105, c115, c125, i25, i35, i45⟩ := hb5.get
  have hm5 : MemN _ _ _ _ _ := ⟨rfl, hb5.1⟩
  have hi5 := hb5.2
  have hms5 : MemN _ _ _ _ _ := ⟨rfl, fs5.1⟩
  have his5 := fs5.2
  have hmt5 : MemN _ _ _ _ _ := ⟨rfl, ft5.1⟩
  have hit5 := ft5.2
  clear hb6 fs6 ft6 c106 c116 c126 i26 i36 i46 hm6 hi6 hms6 his6 hmt6 hit6
  have hb6 : Prof.At _ g6 0 k q := ⟨Mem.of_get at6, hin1⟩
  obtain ⟨fs6, ft6, c106, c116, c126, i26, i36, i46⟩ := hb6.get
  have hm6 : MemN _ _ _ _ _ := ⟨rfl, hb6.1⟩
  have hi6 := hb6.2
  have hms6 : MemN _ _ _ _ _ := ⟨rfl, fs6.1⟩
  have his6 := fs6.2
  have hmt6 : MemN _ _ _ _ _ := ⟨rfl, ft6.1⟩
  have hit6 := ft6.2
  clear mm1003
  have mm1003 : MemN _ _ _ _ _ := ⟨rfl, Mem.of_get at1003⟩
  clear hb11 c011 c111 c211 c311 c411 i111 i211 i311 i411 hm11 hi11
  have hb11 : Cat.At _ g11 0 m.t p.t := ⟨Mem.of_get at1003, hct⟩
  obtain ⟨c011, c111, c211, c311, c411, i111, i211, i311, i411⟩ := hb11.get
  have hm11 : MemN _ _ _ _ _ := ⟨rfl, hb11.1⟩
  have hi11 := hb11.2
  have i27 := Ints.of_get at27
  refine .m rfl rfl rfl (.assign rfl) (.nil ?_)
  refine hK3 _ _ ?_
  refine .seq (fun K4 hK4 => ?_)
  refine .region ?_
  refine .r rfl rfl rfl (.litR rfl sl_23_B ze_22_E rfl rfl (by omega) (by omega) rfl rfl) ?_
  rintro _ H28 ⟨g28, rfl, le28, ge28, at28⟩
  have nx_H28 := le28.1
  replace hle := hle.trans le28
  replace at5 := le28.2 _ _ at5
  replace at6 := le28.2 _ _ at6
  replace at1003 := le28.2 _ _ at1003
  replace at27 := le28.2 _ _ at27
  have lt_at28 := GHeap.lt_of_get at28
  replace hin := base_hin.mono hle
  replace hin1 := base_hin1.mono hle
  replace h := base_h.mono hle
  replace hct := base_hct.mono hle
  clear hb5 fs5 ft5 c105 c115 c125 i25 i35 i45 hm5 hi5 hms5 his5 hmt5 hit5
  have hb5 : Prof.At _ g5 0 m p := ⟨Mem.of_get at5, hin⟩
  obtain ⟨fs5, ft5, c105, c115, c125, i25, i35, i45⟩ := hb5.get
  have hm5 : MemN _ _ _ _ _ := ⟨rfl, hb5.1⟩
  have hi5 := hb5.2
  have hms5 : MemN _ _ _ _ _ := ⟨rfl, fs5.1⟩
  have his5 := fs5.2
  have hmt5 : MemN _ _ _ _ _ := ⟨rfl, ft5.1⟩
  have hit5 := ft5.2
  clear hb6 fs6 ft6 c106 c116 c126 i26 i36 i46 hm6 hi6 hms6 his6 hmt6 hit6
  have hb6 : Prof.At _ g6 0 k q := ⟨Mem.of_get at6, hin1⟩
  obtain ⟨fs6, ft6, c106, c116, c126, i26, i36, i46⟩ := hb6.get
  have hm6 : MemN _ _ _ _ _ := ⟨rfl, hb6.1⟩
  have hi6 := hb6.2
  have hms6 : MemN _ _ _ _ _ := ⟨rfl, fs6.1⟩
  have his6 := fs6.2
  have hmt6 : MemN _ _ _ _ _ := ⟨rfl, ft6.1⟩
  have hit6 := ft6.2
  clear mm1003
  have mm1003 : MemN _ _ _ _ _ := ⟨rfl, Mem.of_get at1003⟩
  clear hb11 c011 c111 c211 c311 c411 i111 i211 i311 i411 hm11 hi11
  have hb11 : Cat.At _ g11 0 m.t p.t := ⟨Mem.of_get at1003, hct⟩
  obtain ⟨c011, c111, c211, c311, c411, i111, i211, i311, i411⟩ := hb11.get
  have hm11 : MemN _ _ _ _ _ := ⟨rfl, hb11.1⟩
  have hi11 := hb11.2
  clear i27
  have i27 := Ints.of_get at27
  refine .m rfl rfl rfl (.assign rfl) (.nil ?_)
  refine hK4 _ _ ?_
  refine .seq (fun K5 hK5 => ?_)
  refine .seq (fun K6 hK6 => ?_)
  refine .region (.m rfl rfl rfl (.assign rfl) (.nil ?_))
  refine hK6 _ _ ?_
  refine .block ?_
  refine .loopR (σ := Nat × (Nat → Option Addr) × Nat × Nat) [(2, some _), (3, some _), (4, some _), (5, some _), (6, some _), (11, some _), (12, some _)] (fun (b, rr, gL13, nL13) => [(14, some (.int .i64 (b : Int))), (13, some (.slice (some ⟨gL13, 0, none⟩) nL13 nL13))]) (fun (b, rr, gL13, nL13) H' => St [g28] H28 H' ∧ H'.get gL13 = some (.row ((slsL rr (ccS m k x z b 0 0))) 22 true) ∧ PL gL13 g28 H28.next ∧ nL13 = (slsL rr (ccS m k x z b 0 0)).length ∧ b ≤ m.t.src.length ∧ OwnL H.next H' 2 rr (ccS m k x z b 0 0)) (fun (b, rr, gL13, nL13) => m.t.src.length - b) ((0, fun _ => none, _, _)) ⟨rfl, rfl, rfl, rfl, rfl, rfl, rfl, trivial⟩ ⟨rfl, rfl, trivial⟩ ?_ ?_
  ·
   refine ⟨.refl _ _, by first | assumption | exact at28 | simpa using at28, ⟨.inl rfl⟩, by first | rfl | assumption | simp | omega, ?_⟩
   exact ⟨by omega, .nil _ _ _ _⟩
  rintro ⟨b, rr, gL13, nL13⟩ HL1 ⟨lst1, at_L13, pl_L13, ln_L13, hI⟩ KL1 hKL1
  refine .forget (fr' := [(14, some (.int .i64 (b : Int))), (13, some (.slice (some ⟨gL13, 0, none⟩) nL13 nL13)), (2, some _), (3, some _), (4, some _), (5, some _), (6, some _), (11, some _), (12, some _)]) ⟨rfl, rfl, rfl, rfl, rfl, rfl, rfl, rfl, rfl, trivial⟩ ?_
  have ge_L13 : H.next ≤ gL13 := pl_L13.ge (by omega) (by omega)
  have nx_HL1 := lst1.nx
  replace hle := hle.st lst1 (fun k hk => ⟨by omega, trivial⟩)
  have ne_g5_g28 : g5 ≠ g28 := by omega
  replace at5 := lst1.same _ _ ⟨ne_g5_g28, trivial⟩ at5
  have ne_g6_g28 : g6 ≠ g28 := by omega
  replace at6 := lst1.same _ _ ⟨ne_g6_g28, trivial⟩ at6
  have ne_g11_g28 : g11 ≠ g28 := by omega
  replace at1003 := lst1.same _ _ ⟨ne_g11_g28, trivial⟩ at1003
  have ne_g27_g28 : g27 ≠ g28 := by omega
  replace at27 := lst1.same _ _ ⟨ne_g27_g28, trivial⟩ at27
  have lt_at_L13 := GHeap.lt_of_get at_L13
  replace hin := base_hin.mono hle
  replace hin1 := base_hin1.mono hle
  replace h := base_h.mono hle
  replace hct := base_hct.mono hle
  clear hb5 fs5 ft5 c105 c115 c125 i25 i35 i45 hm5 hi5 hms5 his5 hmt5 hit5
  have hb5 : Prof.At _ g5 0 m p := ⟨Mem.of_get at5, hin⟩
  obtain ⟨fs5, ft5, c105, c115, c125, i25, i35, i45⟩ := hb5.get
  have hm5 : MemN _ _ _ _ _ := ⟨rfl, hb5.1⟩
  have hi5 := hb5.2
  have hms5 : MemN _ _ _ _ _ := ⟨rfl, fs5.1⟩
  have his5 := fs5.2
  have hmt5 : MemN _ _ _ _ _ := ⟨rfl, ft5.1⟩
  have hit5 := ft5.2
  clear hb6 fs6 ft6 c106 c116 c126 i26 i36 i46 hm6 hi6 hms6 his6 hmt6 hit6
  have hb6 : Prof.At _ g6 0 k q := ⟨Mem.of_get at6, hin1⟩
  obtain ⟨fs6, ft6, c106, c116, c126, i26, i36, i46⟩ := hb6.get
  have hm6 : MemN _ _ _ _ _ := ⟨rfl, hb6.1⟩
  have hi6 := hb6.2
  have hms6 : MemN _ _ _ _ _ := ⟨rfl, fs6.1⟩
  have his6 := fs6.2
  have hmt6 : MemN _ _ _ _ _ := ⟨rfl, ft6.1⟩
  have hit6 := ft6.2
  clear mm1003
  have mm1003 : MemN _ _ _ _ _ := ⟨rfl, Mem.of_get at1003⟩
  clear hb11 c011 c111 c211 c311 c411 i111 i211 i311 i411 hm11 hi11
  have hb11 : Cat.At _ g11 0 m.t p.t := ⟨Mem.of_get at1003, hct⟩
  obtain ⟨c011, c111, c211, c311, c411, i111, i211, i311, i411⟩ := hb11.get
  have hm11 : MemN _ _ _ _ _ := ⟨rfl, hb11.1⟩
  have hi11 := hb11.2
  clear i27
  have i27 := Ints.of_get at27
  obtain ⟨hb, hR⟩ := hI
  refine .seq (fun K7 hK7 => ?_)
  refine .seq (fun K8 hK8 => ?_)
  refine .region (.m rfl rfl rfl (.move rfl) (.m rfl rfl rfl (.fieldAddr fo_27_1_B rfl) ?_))
  refine .m rfl rfl rfl (.load on_22_B rfl (by first | assumption | exact Mem.of_get at1003 1 _ rfl)) ?_
  refine .m rfl rfl rfl (.len sl_22_A rfl) (.m rfl rfl rfl (.cmp rfl rfl rfl) (.nil ?_))
  refine hK8 _ _ ?_
  refine .cond rfl (fun h33 => ?_) (fun h33 => ?_)
  ·
   simp only [sps] at h33
   have hbl2 : b < m.t.src.length := by omega
   obtain ⟨a0, a1, a2, a3, a4, a5, a6, a7, a8, a9, a10, a11⟩ := o.arrow hbl2
   have hA1 : (ccA1 m x b : Int) = (m.sz.getD x.toNat []).getD (m.t.src.getD b 0).toNat 0 := by unfold ccA1; omega
   have hA2 : (ccA2 m k z b : Int) = (k.sz.getD (m.t.tgt.getD b 0).toNat []).getD z.toNat 0 := by unfold ccA2; omega
   have hw1 := b8 (m.t.src.getD b 0).toNat (by omega)
   have hw2 := b8 (m.t.tgt.getD b 0).toNat (by omega)
   have u1 := i25.2 x.toNat (by omega)
   have u2 := i26.2 (m.t.src.getD b 0).toNat (by omega)
   have u3 := i26.2 (m.t.tgt.getD b 0).toNat (by omega)
   have v1 := i45.2 b (by omega)
   have v2 := v1.2 x.toNat (by omega)
   have w1 := i36.2 b (by omega)
   have w2 := w1.2 z.toNat (by omega)
   refine .skip ?_
   refine hK7 _ _ ?_
   refine .seq (fun K9 hK9 => ?_)
   refine .block ?_
   refine .seq (fun K10 hK10 => ?_)
   refine .regionD mixed_orders_B (.q 0 (.q 1 (.q 2 (.q 3 (.q 4 (.q 5 (.q 6 (.q 7 (.q 8 (.q 9 (.q 10 (.q 11 (.done))))))))))))) (by kernel_rfl) ?_
   refine .m rfl rfl rfl rfl (.refl _) (.fieldAddr fo_27_1_B rfl) ?_
   refine .m rfl rfl rfl rfl (.refl _) (.load on_22_B rfl (by first | assumption | exact Mem.of_get at1003 1 _ rfl)) ?_
   refine .m rfl rfl rfl rfl (.refl _) (.move rfl) ?_
   refine .m rfl rfl rfl rfl (.refl _) (.idxN sl_22_A (by assumption) rfl rfl (by omega)) ?_
   refine .m rfl rfl rfl rfl (.refl _) (.loadI on_2_A (by assumption) rfl (by omega)) ?_
   refine .m rfl rfl rfl rfl (.refl _) (.fieldAddr fo_27_2_B rfl) ?_
   refine .m rfl rfl rfl rfl (.refl _) (.load on_22_B rfl (by first | assumption | exact Mem.of_get at1003 2 _ rfl)) ?_
   refine .m rfl rfl rfl rfl (.refl _) (.move rfl) ?_
   refine .m rfl rfl rfl rfl (.refl _) (.idxN sl_22_A (by assumption) rfl rfl (by omega)) ?_
   refine .m rfl rfl rfl rfl (.refl _) (.loadI on_2_A (by assumption) rfl (by omega)) ?_
   refine .m rfl rfl rfl rfl (.refl _) (.assign rfl) (.m rfl rfl rfl rfl (.refl _) (.assign rfl) ?_)
   refine .done ?_
   refine hK10 _ _ ?_
   refine .seq (fun K11 hK11 => ?_)
   refine .region (.m rfl rfl rfl (.assign rfl) (.nil ?_))
   refine hK11 _ _ ?_
   refine .block ?_
   refine .loopR (σ := Nat × (Nat → Option Addr) × Nat × Nat) [(2, some _), (3, some _), (4, some _), (5, some _), (6, some _), (11, some _), (12, some _), (14, some _), (15, some _), (16, some _)] (fun (e, r2, gL13v2, nL13v2) => [(17, some (.int .i64 (e : Int))), (13, some (.slice (some ⟨gL13v2, 0, none⟩) nL13v2 nL13v2))]) (fun (e, r2, gL13v2, nL13v2) H' => St [gL13] HL1 H' ∧ H'.get gL13v2 = some (.row ((slsL r2 (ccS m k x z b e 0))) 22 true) ∧ PL gL13v2 gL13 HL1.next ∧ nL13v2 = (slsL r2 (ccS m k x z b e 0)).length ∧ e ≤ ccA1 m x b ∧ OwnL H.next H' 2 r2 (ccS m k x z b e 0)) (fun (e, r2, gL13v2, nL13v2) => ccA1 m x b - e) ((0, rr, _, _)) ⟨rfl, rfl, rfl, rfl, rfl, rfl, rfl, rfl, rfl, rfl, trivial⟩ ⟨rfl, rfl, trivial⟩ ?_ ?_
   ·
    refine ⟨.refl _ _, by first | assumption | exact at_L13 | simpa using at_L13, ⟨.inl rfl⟩, by first | rfl | assumption | simp | omega, ?_⟩
    exact ⟨by omega, hR⟩
   rintro ⟨e, r2, gL13v2, nL13v2⟩ HL2 ⟨lst2, at_L13v2, pl_L13v2, ln_L13v2, hI⟩ KL2 hKL2
   refine .forget (fr' := [(17, some (.int .i64 (e : Int))), (13, some (.slice (some ⟨gL13v2, 0, none⟩) nL13v2 nL13v2)), (2, some _), (3, some _), (4, some _), (5, some _), (6, some _), (11, some _), (12, some _), (14, some _), (15, some _), (16, some _)]) ⟨rfl, rfl, rfl, rfl, rfl, rfl, rfl, rfl, rfl, rfl, rfl, rfl, trivial⟩ ?_
   have ge_L13v2 : H.next ≤ gL13v2 := pl_L13v2.ge (by omega) (by omega)
   have nx_HL2 := lst2.nx
   replace hle := hle.st lst2 (fun k hk => ⟨by omega, trivial⟩)
   replace lst1 := lst1.st lst2 (fun k hk ho => by simp only [out, and_true] at ho ⊢ <;> first | omega | (first | exact ho | exact ho.1 | exact ho.2 | exact ho.2.1 | exact ho.2.2 | exact ho.2.2.1 | exact ho.2.2.2 | exact pl_L13.ne (by first | omega | (first | exact ho | exact ho.1 | exact ho.2 | exact ho.2.1 | exact ho.2.2 | exact ho.2.2.1 | exact ho.2.2.2)) (by omega)))
   have ne_g5_gL13 : g5 ≠ gL13 := pl_L13.ne ne_g5_g28 (by omega)
   replace at5 := lst2.same _ _ ⟨ne_g5_gL13, trivial⟩ at5
   have ne_g6_gL13 : g6 ≠ gL13 := pl_L13.ne ne_g6_g28 (by omega)
   replace at6 := lst2.same _ _ ⟨ne_g6_gL13, trivial⟩ at6
   have ne_g11_gL13 : g11 ≠ gL13 := pl_L13.ne ne_g11_g28 (by omega)
   replace at1003 := lst2.same _ _ ⟨ne_g11_gL13, trivial⟩ at1003
   have ne_g27_gL13 : g27 ≠ gL13 := pl_L13.ne ne_g27_g28 (by omega)
   replace at27 := lst2.same _ _ ⟨ne_g27_gL13, trivial⟩ at27
   have lt_at_L13v2 := GHeap.lt_of_get at_L13v2
   replace hin := base_hin.mono hle
   replace hin1 := base_hin1.mono hle
   replace h := base_h.mono hle
   replace hct := base_hct.mono hle
   clear hb5 fs5 ft5 c105 c115 c125 i25 i35 i45 hm5 hi5 hms5 his5 hmt5 hit5
   have hb5 : Prof.At _ g5 0 m p := ⟨Mem.of_get at5, hin⟩
   obtain ⟨fs5, ft5, c105, c115, c125, i25, i35, i45⟩ := hb5.get
   have hm5 : MemN _ _ _ _ _ := ⟨rfl, hb5.1⟩
   have hi5 := hb5.2
   have hms5 : MemN _ _ _ _ _ := ⟨rfl, fs5.1⟩
   have his5 := fs5.2
   have hmt5 : MemN _ _ _ _ _ := ⟨rfl, ft5.1⟩
   have hit5 := ft5.2
   clear hb6 fs6 ft6 c106 c116 c126 i26 i36 i46 hm6 hi6 hms6 his6 hmt6 hit6
   have hb6 : Prof.At _ g6 0 k q := ⟨Mem.of_get at6, hin1⟩
   obtain ⟨fs6, ft6, c106, c116, c126, i26, i36, i46⟩ := hb6.get
   have hm6 : MemN _ _ _ _ _ := ⟨rfl, hb6.1⟩
   have hi6 := hb6.2
   have hms6 : MemN _ _ _ _ _ := ⟨rfl, fs6.1⟩
   have his6 := fs6.2
   have hmt6 : MemN _ _ _ _ _ := ⟨rfl, ft6.1⟩
   have hit6 := ft6.2
   clear mm1003
   have mm1003 : MemN _ _ _ _ _ := ⟨rfl, Mem.of_get at1003⟩
   clear hb11 c011 c111 c211 c311 c411 i111 i211 i311 i411 hm11 hi11
   have hb11 : Cat.At _ g11 0 m.t p.t := ⟨Mem.of_get at1003, hct⟩
   obtain ⟨c011, c111, c211, c311, c411, i111, i211, i311, i411⟩ := hb11.get
   have hm11 : MemN _ _ _ _ _ := ⟨rfl, hb11.1⟩
   have hi11 := hb11.2
   clear i27
   have i27 := Ints.of_get at27
   clear u1 u2 u3 v1 v2 w1 w2
   have u1 := i25.2 x.toNat (by omega)
   have u2 := i26.2 (m.t.src.getD b 0).toNat (by omega)
   have u3 := i26.2 (m.t.tgt.getD b 0).toNat (by omega)
   have v1 := i45.2 b (by omega)
   have v2 := v1.2 x.toNat (by omega)
   have w1 := i36.2 b (by omega)
   have w2 := w1.2 z.toNat (by omega)
   obtain ⟨he2, hR⟩ := hI
   refine .seq (fun K12 hK12 => ?_)
   refine .seq (fun K13 hK13 => ?_)
   refine .region (.m rfl rfl rfl (.move rfl) (.m rfl rfl rfl (.fieldAddr fo_40_2_VProf rfl) ?_))
   refine .m rfl rfl rfl (.load on_23_B rfl (by first | assumption | exact Mem.of_get at5 10 _ rfl)) ?_
   refine .m rfl rfl rfl (.move rfl) ?_
   refine .m rfl rfl rfl (.idx1 sl_23_B (Intss.sl (by assumption)) rfl rfl (by omega) (by omega)) ?_
   refine .m rfl rfl rfl (.loadR on_22_B (by assumption) rfl (by omega)) ?_
   refine .m rfl rfl rfl (.move rfl) ?_
   refine .m rfl rfl rfl (.idx1 sl_22_A (by assumption) rfl rfl (by omega) (by omega)) ?_
   refine .m rfl rfl rfl (.loadI on_2_A (by assumption) rfl (by omega)) ?_
   refine .m rfl rfl rfl (.cmp rfl rfl rfl) (.nil ?_)
   refine hK13 _ _ ?_
   refine .cond rfl (fun h55 => ?_) (fun h55 => ?_)
   ·
    simp only [sps] at h55
    have he3 : e < ((m.bh.getD b []).getD x.toNat []).length := by omega
    have hv1 := a6 e he3
    refine .skip ?_
    refine hK12 _ _ ?_
    refine .seq (fun K14 hK14 => ?_)
    refine .block ?_
    refine .seq (fun K15 hK15 => ?_)
    refine .region (.m rfl rfl rfl (.assign rfl) (.nil ?_))
    refine hK15 _ _ ?_
    refine .block ?_
    refine .loopR (σ := Nat × (Nat → Option Addr) × Nat × Nat) [(2, some _), (3, some _), (4, some _), (5, some _), (6, some _), (11, some _), (12, some _), (14, some _), (15, some _), (16, some _), (17, some _)] (fun (d, r3, gL13v3, nL13v3) => [(18, some (.int .i64 (d : Int))), (13, some (.slice (some ⟨gL13v3, 0, none⟩) nL13v3 nL13v3))]) (fun (d, r3, gL13v3, nL13v3) H' => St [gL13v2] HL2 H' ∧ H'.get gL13v3 = some (.row ((slsL r3 (ccS m k x z b e d))) 22 true) ∧ PL gL13v3 gL13v2 HL2.next ∧ nL13v3 = (slsL r3 (ccS m k x z b e d)).length ∧ d ≤ ccA2 m k z b ∧ OwnL H.next H' 2 r3 (ccS m k x z b e d)) (fun (d, r3, gL13v3, nL13v3) => ccA2 m k z b - d) ((0, r2, _, _)) ⟨rfl, rfl, rfl, rfl, rfl, rfl, rfl, rfl, rfl, rfl, rfl, trivial⟩ ⟨rfl, rfl, trivial⟩ ?_ ?_
    ·
     refine ⟨.refl _ _, by first | assumption | exact at_L13v2 | simpa using at_L13v2, ⟨.inl rfl⟩, by first | rfl | assumption | simp | omega, ?_⟩
     exact ⟨by omega, hR⟩
    rintro ⟨d, r3, gL13v3, nL13v3⟩ HL3 ⟨lst3, at_L13v3, pl_L13v3, ln_L13v3, hI⟩ KL3 hKL3
    refine .forget (fr' := [(18, some (.int .i64 (d : Int))), (13, some (.slice (some ⟨gL13v3, 0, none⟩) nL13v3 nL13v3)), (2, some _), (3, some _), (4, some _), (5, some _), (6, some _), (11, some _), (12, some _), (14, some _), (15, some _), (16, some _), (17, some _)]) ⟨rfl, rfl, rfl, rfl, rfl, rfl, rfl, rfl, rfl, rfl, rfl, rfl, rfl, trivial⟩ ?_
    have ge_L13v3 : H.next ≤ gL13v3 := pl_L13v3.ge (by omega) (by omega)
    have nx_HL3 := lst3.nx
    replace hle := hle.st lst3 (fun k hk => ⟨by omega, trivial⟩)
    replace lst1 := lst1.st lst3 (fun k hk ho => by simp only [out, and_true] at ho ⊢ <;> first | omega | (first | exact ho | exact ho.1 | exact ho.2 | exact ho.2.1 | exact ho.2.2 | exact ho.2.2.1 | exact ho.2.2.2 | exact pl_L13v2.ne (by first | omega | (first | exact ho | exact ho.1 | exact ho.2 | exact ho.2.1 | exact ho.2.2 | exact ho.2.2.1 | exact ho.2.2.2 | exact pl_L13.ne (by first | omega | (first | exact ho | exact ho.1 | exact ho.2 | exact ho.2.1 | exact ho.2.2 | exact ho.2.2.1 | exact ho.2.2.2)) (by omega))) (by omega)))
    replace lst2 := lst2.st lst3 (fun k hk ho => by simp only [out, and_true] at ho ⊢ <;> first | omega | (first | exact ho | exact ho.1 | exact ho.2 | exact ho.2.1 | exact ho.2.2 | exact ho.2.2.1 | exact ho.2.2.2 | exact pl_L13v2.ne (by first | omega | (first | exact ho | exact ho.1 | exact ho.2 | exact ho.2.1 | exact ho.2.2 | exact ho.2.2.1 | exact ho.2.2.2 | exact pl_L13.ne (by first | omega | (first | exact ho | exact ho.1 | exact ho.2 | exact ho.2.1 | exact ho.2.2 | exact ho.2.2.1 | exact ho.2.2.2)) (by omega))) (by omega)))
    have ne_g5_gL13v2 : g5 ≠ gL13v2 := pl_L13v2.ne ne_g5_gL13 (by omega)
    replace at5 := lst3.same _ _ ⟨ne_g5_gL13v2, trivial⟩ at5
    have ne_g6_gL13v2 : g6 ≠ gL13v2 := pl_L13v2.ne ne_g6_gL13 (by omega)
    replace at6 := lst3.same _ _ ⟨ne_g6_gL13v2, trivial⟩ at6
    have ne_g11_gL13v2 : g11 ≠ gL13v2 := pl_L13v2.ne ne_g11_gL13 (by omega)
    replace at1003 := lst3.same _ _ ⟨ne_g11_gL13v2, trivial⟩ at1003
    have ne_g27_gL13v2 : g27 ≠ gL13v2 := pl_L13v2.ne ne_g27_gL13 (by omega)
    replace at27 := lst3.same _ _ ⟨ne_g27_gL13v2, trivial⟩ at27
    have lt_at_L13v3 := GHeap.lt_of_get at_L13v3
    replace hin := base_hin.mono hle
    replace hin1 := base_hin1.mono hle
    replace h := base_h.mono hle
    replace hct := base_hct.mono hle
    clear hb5 fs5 ft5 c105 c115 c125 i25 i35 i45 hm5 hi5 hms5 his5 hmt5 hit5
    have hb5 : Prof.At _ g5 0 m p := ⟨Mem.of_get at5, hin⟩
    obtain ⟨fs5, ft5, c105, c115, c125, i25, i35, i45⟩ := hb5.get
    have hm5 : MemN _ _ _ _ _ := ⟨rfl, hb5.1⟩
    have hi5 := hb5.2
    have hms5 : MemN _ _ _ _ _ := ⟨rfl, fs5.1⟩
    have his5 := fs5.2
    have hmt5 : MemN _ _ _ _ _ := ⟨rfl, ft5.1⟩
    have hit5 := ft5.2
    clear hb6 fs6 ft6 c106 c116 c126 i26 i36 i46 hm6 hi6 hms6 his6 hmt6 hit6
    have hb6 : Prof.At _ g6 0 k q := ⟨Mem.of_get at6, hin1⟩
    obtain ⟨fs6, ft6, c106, c116, c126, i26, i36, i46⟩ := hb6.get
    have hm6 : MemN _ _ _ _ _ := ⟨rfl, hb6.1⟩
    have hi6 := hb6.2
    have hms6 : MemN _ _ _ _ _ := ⟨rfl, fs6.1⟩
    have his6 := fs6.2
    have hmt6 : MemN _ _ _ _ _ := ⟨rfl, ft6.1⟩
    have hit6 := ft6.2
    clear mm1003
    have mm1003 : MemN _ _ _ _ _ := ⟨rfl, Mem.of_get at1003⟩
    clear hb11 c011 c111 c211 c311 c411 i111 i211 i311 i411 hm11 hi11
    have hb11 : Cat.At _ g11 0 m.t p.t := ⟨Mem.of_get at1003, hct⟩
    obtain ⟨c011, c111, c211, c311, c411, i111, i211, i311, i411⟩ := hb11.get
    have hm11 : MemN _ _ _ _ _ := ⟨rfl, hb11.1⟩
    have hi11 := hb11.2
    clear i27
    have i27 := Ints.of_get at27
    clear u1 u2 u3 v1 v2 w1 w2
    have u1 := i25.2 x.toNat (by omega)
    have u2 := i26.2 (m.t.src.getD b 0).toNat (by omega)
    have u3 := i26.2 (m.t.tgt.getD b 0).toNat (by omega)
    have v1 := i45.2 b (by omega)
    have v2 := v1.2 x.toNat (by omega)
    have w1 := i36.2 b (by omega)
    have w2 := w1.2 z.toNat (by omega)
    have rk := St.refl [gL13v3] HL3
    obtain ⟨hd, hR⟩ := hI
    have hat13 := at_L13v3
    have hln := o.sle hbl2 (show e < ccA1 m x b by omega) hd
    have hfl : (slsL r3 (ccS m k x z b e d)).length = (ccS m k x z b e d).length := length_slsL _ _
    refine .seq (fun K16 hK16 => ?_)
    refine .seq (fun K17 hK17 => ?_)
    refine .region (.m rfl rfl rfl (.move rfl) (.m rfl rfl rfl (.fieldAddr fo_40_2_VProf rfl) ?_))
    refine .m rfl rfl rfl (.load on_23_B rfl (by first | assumption | exact Mem.of_get at6 10 _ rfl)) ?_
    refine .m rfl rfl rfl (.move rfl) ?_
    refine .m rfl rfl rfl (.idx1 sl_23_B (Intss.sl (by assumption)) rfl rfl (by omega) (by omega)) ?_
    refine .m rfl rfl rfl (.loadR on_22_B (by assumption) rfl (by omega)) ?_
    refine .m rfl rfl rfl (.move rfl) ?_
    refine .m rfl rfl rfl (.idx1 sl_22_A (by assumption) rfl rfl (by omega) (by omega)) ?_
    refine .m rfl rfl rfl (.loadI on_2_A (by assumption) rfl (by omega)) ?_
    refine .m rfl rfl rfl (.cmp rfl rfl rfl) (.nil ?_)
    refine hK17 _ _ ?_
    refine .cond rfl (fun h67 => ?_) (fun h67 => ?_)
    ·
     simp only [sps] at h67
     have hd3 : d < ((k.be.getD b []).getD z.toNat []).length := by omega
     have hv2 := a9 d hd3
     have hpp := o.pr hbl2 (show e < ccA1 m x b by omega) (show d < ccA2 m k z b by omega)
     have q0 := hpp.t0
     have q1 := hpp.t1
     have q2 := hpp.u0
     have q3 := hpp.u1
     obtain ⟨hrow, lT, lU⟩ := hpp.v
     refine .skip ?_
     refine hK16 _ _ ?_
     refine .seq (fun K18 hK18 => ?_)
     refine .block ?_
     refine .seq (fun K19 hK19 => ?_)
     refine .regionD mixed_orders_B (.q 0 (.q 1 (.q 2 (.q 3 (.q 4 (.q 5 (.q 6 (.q 7 (.q 8 (.q 9 (.q 10 (.q 11 (.q 12 (.q 13 (.q 14 (.q 15 (.q 16 (.q 17 (.q 18 (.q 19 (.q 20 (.q 21 (.q 22 (.q 23 (.q 24 (.q 25 (.q 26 (.q 27 (.done))))))))))))))))))))))))))))) (by kernel_rfl) ?_
     refine .m rfl rfl rfl rfl (.refl _) (.move rfl) (.m rfl rfl rfl rfl (.refl _) (.move rfl) ?_)
     refine .m rfl rfl rfl rfl (.refl _) (.idx1 sl_22_A (by first | assumption | exact SlA.of_row at27 (by first | rfl | (simp; done) | (simp <;> omega))) rfl rfl (by omega) (by omega)) ?_
     refine .m rfl rfl rfl rfl (.refl _) (.loadI on_2_A (by first | assumption | exact Ints.of_get at27) rfl (by omega)) ?_
     refine .m rfl rfl rfl rfl (.refl _) (.fieldAddr fo_40_4_VProf rfl) ?_
     refine .m rfl rfl rfl rfl (.refl _) (.load on_34_VProf rfl (by first | assumption | exact Mem.of_get at5 12 _ rfl)) ?_
     refine .m rfl rfl rfl rfl (.refl _) (.move rfl) ?_
     refine .m rfl rfl rfl rfl (.refl _) (.idxN sl_34_VZ (Intsss.sl (by assumption)) rfl rfl (by omega)) ?_
     refine .m rfl rfl rfl rfl (.refl _) (.loadRR on_23_B (by assumption) rfl (by omega)) ?_
     refine .m rfl rfl rfl rfl (.refl _) (.move rfl) ?_
     refine .m rfl rfl rfl rfl (.refl _) (.idx1 sl_23_B (Intss.sl (by assumption)) rfl rfl (by omega) (by omega)) ?_
     refine .m rfl rfl rfl rfl (.refl _) (.loadR on_22_B (by assumption) rfl (by omega)) ?_
     refine .m rfl rfl rfl rfl (.refl _) (.move rfl) ?_
     refine .m rfl rfl rfl rfl (.refl _) (.idxN sl_22_A (by assumption) rfl rfl (by omega)) ?_
     refine .m rfl rfl rfl rfl (.refl _) (.loadI on_2_A (by assumption) rfl (by omega)) ?_
     refine .m rfl rfl rfl rfl (.refl _) (.fieldAddr fo_40_2_VProf rfl) ?_
     refine .m rfl rfl rfl rfl (.refl _) (.load on_23_B rfl (by first | assumption | exact Mem.of_get at6 10 _ rfl)) ?_
     refine .m rfl rfl rfl rfl (.refl _) (.move rfl) ?_
     refine .m rfl rfl rfl rfl (.refl _) (.idx1 sl_23_B (Intss.sl (by assumption)) rfl rfl (by omega) (by omega)) ?_
     refine .m rfl rfl rfl rfl (.refl _) (.loadR on_22_B (by assumption) rfl (by omega)) ?_
     refine .m rfl rfl rfl rfl (.refl _) (.move rfl) ?_
     refine .m rfl rfl rfl rfl (.refl _) (.idx1 sl_22_A (by assumption) rfl rfl (by omega) (by omega)) ?_
     refine .m rfl rfl rfl rfl (.refl _) (.loadI on_2_A (by assumption) rfl (by omega)) ?_
     refine .m rfl rfl rfl rfl (.refl _) (.mul rfl rfl rfl (by omega) (by omega)) ?_
     refine .m rfl rfl rfl rfl (.refl _) (.add rfl rfl rfl (by omega) (by omega)) ?_
     refine .m rfl rfl rfl rfl (.refl _) (.move rfl) ?_
     refine .m rfl rfl rfl rfl (.refl _) (.add rfl rfl rfl (by omega) (by omega)) ?_
     refine .m rfl rfl rfl rfl (.refl _) (.assign rfl) ?_
     refine .done ?_
     refine hK19 _ _ ?_
     refine .seq (fun K20 hK20 => ?_)
     refine .regionD mixed_orders_B (.q 0 (.q 1 (.q 2 (.q 3 (.q 4 (.q 5 (.q 6 (.q 7 (.q 8 (.q 9 (.q 10 (.q 11 (.q 12 (.q 13 (.q 14 (.q 15 (.q 16 (.q 17 (.q 18 (.q 19 (.q 20 (.q 21 (.q 22 (.q 23 (.q 24 (.q 25 (.q 26 (.q 27 (.done))))))))))))))))))))))))))))) (by kernel_rfl) ?_
     refine .m rfl rfl rfl rfl (.refl _) (.move rfl) (.m rfl rfl rfl rfl (.refl _) (.move rfl) ?_)
     refine .m rfl rfl rfl rfl (.refl _) (.idx1 sl_22_A (by first | assumption | exact SlA.of_row at27 (by first | rfl | (simp; done) | (simp <;> omega))) rfl rfl (by omega) (by omega)) ?_
     refine .m rfl rfl rfl rfl (.refl _) (.loadI on_2_A (by first | assumption | exact Ints.of_get at27) rfl (by omega)) ?_
     refine .m rfl rfl rfl rfl (.refl _) (.move rfl) (.m rfl rfl rfl rfl (.refl _) (.fieldAddr fo_40_2_VProf rfl) ?_)
     refine .m rfl rfl rfl rfl (.refl _) (.load on_23_B rfl (by first | assumption | exact Mem.of_get at6 10 _ rfl)) ?_
     refine .m rfl rfl rfl rfl (.refl _) (.move rfl) ?_
     refine .m rfl rfl rfl rfl (.refl _) (.idx1 sl_23_B (Intss.sl (by assumption)) rfl rfl (by omega) (by omega)) ?_
     refine .m rfl rfl rfl rfl (.refl _) (.loadR on_22_B (by assumption) rfl (by omega)) ?_
     refine .m rfl rfl rfl rfl (.refl _) (.move rfl) ?_
     refine .m rfl rfl rfl rfl (.refl _) (.idx1 sl_22_A (by assumption) rfl rfl (by omega) (by omega)) ?_
     refine .m rfl rfl rfl rfl (.refl _) (.loadI on_2_A (by assumption) rfl (by omega)) ?_
     refine .m rfl rfl rfl rfl (.refl _) (.mul rfl rfl rfl (by omega) (by omega)) ?_
     refine .m rfl rfl rfl rfl (.refl _) (.add rfl rfl rfl (by omega) (by omega)) ?_
     refine .m rfl rfl rfl rfl (.refl _) (.fieldAddr fo_40_3_VProf rfl) ?_
     refine .m rfl rfl rfl rfl (.refl _) (.load on_34_VProf rfl (by first | assumption | exact Mem.of_get at6 11 _ rfl)) ?_
     refine .m rfl rfl rfl rfl (.refl _) (.move rfl) ?_
     refine .m rfl rfl rfl rfl (.refl _) (.idxN sl_34_VZ (Intsss.sl (by assumption)) rfl rfl (by omega)) ?_
     refine .m rfl rfl rfl rfl (.refl _) (.loadRR on_23_B (by assumption) rfl (by omega)) ?_
     refine .m rfl rfl rfl rfl (.refl _) (.move rfl) ?_
     refine .m rfl rfl rfl rfl (.refl _) (.idx1 sl_23_B (Intss.sl (by assumption)) rfl rfl (by omega) (by omega)) ?_
     refine .m rfl rfl rfl rfl (.refl _) (.loadR on_22_B (by assumption) rfl (by omega)) ?_
     refine .m rfl rfl rfl rfl (.refl _) (.move rfl) ?_
     refine .m rfl rfl rfl rfl (.refl _) (.idxN sl_22_A (by assumption) rfl rfl (by omega)) ?_
     refine .m rfl rfl rfl rfl (.refl _) (.loadI on_2_A (by assumption) rfl (by omega)) ?_
     refine .m rfl rfl rfl rfl (.refl _) (.add rfl rfl rfl (by omega) (by omega)) ?_
     refine .m rfl rfl rfl rfl (.refl _) (.assign rfl) ?_
     refine .done ?_
     refine hK20 _ _ ?_
     refine .region (.m rfl rfl rfl (.move rfl) (.m rfl rfl rfl (.move rfl) (.m rfl rfl rfl (.move rfl) ?_)))
     refine .r rfl rfl rfl (.litR rfl sl_22_A ze_2_E rfl rfl (by omega) (by omega) rfl rfl) ?_
     rintro _ H127 ⟨g127, rfl, le127, ge127, at127⟩
     have nx_H127 := le127.1
     replace hle := hle.trans le127
     replace lst1 := lst1.le le127
     replace lst2 := lst2.le le127
     replace lst3 := lst3.le le127
     replace rk := rk.le le127
     replace at5 := le127.2 _ _ at5
     replace at6 := le127.2 _ _ at6
     replace at1003 := le127.2 _ _ at1003
     replace at27 := le127.2 _ _ at27
     replace at_L13v3 := le127.2 _ _ at_L13v3
     have lt_at127 := GHeap.lt_of_get at127
     replace hin := base_hin.mono hle
     replace hin1 := base_hin1.mono hle
     replace h := base_h.mono hle
     replace hct := base_hct.mono hle
     clear hb5 fs5 ft5 c105 c115 c125 i25 i35 i45 hm5 hi5 hms5 his5 hmt5 hit5
     have hb5 : Prof.At _ g5 0 m p := ⟨Mem.of_get at5, hin⟩
     obtain ⟨fs5, ft5, c105, c115, c125, i25, i35, i45⟩ := hb5.get
     have hm5 : MemN _ _ _ _ _ := ⟨rfl, hb5.1⟩
     have hi5 := hb5.2
     have hms5 : MemN _ _ _ _ _ := ⟨rfl, fs5.1⟩
     have his5 := fs5.2
     have hmt5 : MemN _ _ _ _ _ := ⟨rfl, ft5.1⟩
     have hit5 := ft5.2
     clear hb6 fs6 ft6 c106 c116 c126 i26 i36 i46 hm6 hi6 hms6 his6 hmt6 hit6
     have hb6 : Prof.At _ g6 0 k q := ⟨Mem.of_get at6, hin1⟩
     obtain ⟨fs6, ft6, c106, c116, c126, i26, i36, i46⟩ := hb6.get
     have hm6 : MemN _ _ _ _ _ := ⟨rfl, hb6.1⟩
     have hi6 := hb6.2
     have hms6 : MemN _ _ _ _ _ := ⟨rfl, fs6.1⟩
     have his6 := fs6.2
     have hmt6 : MemN _ _ _ _ _ := ⟨rfl, ft6.1⟩
     have hit6 := ft6.2
     clear mm1003
     have mm1003 : MemN _ _ _ _ _ := ⟨rfl, Mem.of_get at1003⟩
     clear hb11 c011 c111 c211 c311 c411 i111 i211 i311 i411 hm11 hi11
     have hb11 : Cat.At _ g11 0 m.t p.t := ⟨Mem.of_get at1003, hct⟩
     obtain ⟨c011, c111, c211, c311, c411, i111, i211, i311, i411⟩ := hb11.get
     have hm11 : MemN _ _ _ _ _ := ⟨rfl, hb11.1⟩
     have hi11 := hb11.2
     clear i27
     have i27 := Ints.of_get at27
     clear u1 u2 u3 v1 v2 w1 w2
     have u1 := i25.2 x.toNat (by omega)
     have u2 := i26.2 (m.t.src.getD b 0).toNat (by omega)
     have u3 := i26.2 (m.t.tgt.getD b 0).toNat (by omega)
     have v1 := i45.2 b (by omega)
     have v2 := v1.2 x.toNat (by omega)
     have w1 := i36.2 b (by omega)
     have w2 := w1.2 z.toNat (by omega)
     refine .r rfl rfl rfl (.litR rfl sl_23_B ze_22_E rfl rfl (by omega) (by omega) rfl rfl) ?_
     rintro _ H128 ⟨g128, rfl, le128, ge128, at128⟩
     have nx_H128 := le128.1
     replace hle := hle.trans le128
     replace lst1 := lst1.le le128
     replace lst2 := lst2.le le128
     replace lst3 := lst3.le le128
     replace rk := rk.le le128
     replace at5 := le128.2 _ _ at5
     replace at6 := le128.2 _ _ at6
     replace at1003 := le128.2 _ _ at1003
     replace at27 := le128.2 _ _ at27
     replace at_L13v3 := le128.2 _ _ at_L13v3
     replace at127 := le128.2 _ _ at127
     have lt_at128 := GHeap.lt_of_get at128
     replace hin := base_hin.mono hle
     replace hin1 := base_hin1.mono hle
     replace h := base_h.mono hle
     replace hct := base_hct.mono hle
     clear hb5 fs5 ft5 c105 c115 c125 i25 i35 i45 hm5 hi5 hms5 his5 hmt5 hit5
     have hb5 : Prof.At _ g5 0 m p := ⟨Mem.of_get at5, hin⟩
     obtain ⟨fs5, ft5, c105, c115, c125, i25, i35, i45⟩ := hb5.get
     have hm5 : MemN _ _ _ _ _ := ⟨rfl, hb5.1⟩
     have hi5 := hb5.2
     have hms5 : MemN _ _ _ _ _ := ⟨rfl, fs5.1⟩
     have his5 := fs5.2
     have hmt5 : MemN _ _ _ _ _ := ⟨rfl, ft5.1⟩
     have hit5 := ft5.2
     clear hb6 fs6 ft6 c106 c116 c126 i26 i36 i46 hm6 hi6 hms6 his6 hmt6 hit6
     have hb6 : Prof.At _ g6 0 k q := ⟨Mem.of_get at6, hin1⟩
     obtain ⟨fs6, ft6, c106, c116, c126, i26, i36, i46⟩ := hb6.get
     have hm6 : MemN _ _ _ _ _ := ⟨rfl, hb6.1⟩
     have hi6 := hb6.2
     have hms6 : MemN _ _ _ _ _ := ⟨rfl, fs6.1⟩
     have his6 := fs6.2
     have hmt6 : MemN _ _ _ _ _ := ⟨rfl, ft6.1⟩
     have hit6 := ft6.2
     clear mm1003
     have mm1003 : MemN _ _ _ _ _ := ⟨rfl, Mem.of_get at1003⟩
     clear hb11 c011 c111 c211 c311 c411 i111 i211 i311 i411 hm11 hi11
     have hb11 : Cat.At _ g11 0 m.t p.t := ⟨Mem.of_get at1003, hct⟩
     obtain ⟨c011, c111, c211, c311, c411, i111, i211, i311, i411⟩ := hb11.get
     have hm11 : MemN _ _ _ _ _ := ⟨rfl, hb11.1⟩
     have hi11 := hb11.2
     clear i27
     have i27 := Ints.of_get at27
     clear u1 u2 u3 v1 v2 w1 w2
     have u1 := i25.2 x.toNat (by omega)
     have u2 := i26.2 (m.t.src.getD b 0).toNat (by omega)
     have u3 := i26.2 (m.t.tgt.getD b 0).toNat (by omega)
     have v1 := i45.2 b (by omega)
     have v2 := v1.2 x.toNat (by omega)
     have w1 := i36.2 b (by omega)
     have w2 := w1.2 z.toNat (by omega)
     refine .r rfl rfl rfl (.appendV rfl sl_23_B ze_22_E rfl by_22_E sl_23_B rfl rfl (by assumption) (by assumption) (by first | omega | (simp <;> omega)) rfl rfl (by omega) (by omega)) ?_
     rintro _ H129 ⟨g129, rfl, st129, ge129, at129⟩
     have nx_H129 := st129.nx
     replace hle := hle.st st129 (fun k hk => ⟨by omega, trivial⟩)
     replace lst1 := lst1.st st129 (fun k hk ho => by simp only [out, and_true] at ho ⊢ <;> first | omega | (first | exact ho | exact ho.1 | exact ho.2 | exact ho.2.1 | exact ho.2.2 | exact ho.2.2.1 | exact ho.2.2.2 | exact pl_L13v3.ne (by first | omega | (first | exact ho | exact ho.1 | exact ho.2 | exact ho.2.1 | exact ho.2.2 | exact ho.2.2.1 | exact ho.2.2.2 | exact pl_L13v2.ne (by first | omega | (first | exact ho | exact ho.1 | exact ho.2 | exact ho.2.1 | exact ho.2.2 | exact ho.2.2.1 | exact ho.2.2.2 | exact pl_L13.ne (by first | omega | (first | exact ho | exact ho.1 | exact ho.2 | exact ho.2.1 | exact ho.2.2 | exact ho.2.2.1 | exact ho.2.2.2)) (by omega))) (by omega))) (by omega)))
     replace lst2 := lst2.st st129 (fun k hk ho => by simp only [out, and_true] at ho ⊢ <;> first | omega | (first | exact ho | exact ho.1 | exact ho.2 | exact ho.2.1 | exact ho.2.2 | exact ho.2.2.1 | exact ho.2.2.2 | exact pl_L13v3.ne (by first | omega | (first | exact ho | exact ho.1 | exact ho.2 | exact ho.2.1 | exact ho.2.2 | exact ho.2.2.1 | exact ho.2.2.2 | exact pl_L13v2.ne (by first | omega | (first | exact ho | exact ho.1 | exact ho.2 | exact ho.2.1 | exact ho.2.2 | exact ho.2.2.1 | exact ho.2.2.2 | exact pl_L13.ne (by first | omega | (first | exact ho | exact ho.1 | exact ho.2 | exact ho.2.1 | exact ho.2.2 | exact ho.2.2.1 | exact ho.2.2.2)) (by omega))) (by omega))) (by omega)))
     replace lst3 := lst3.st st129 (fun k hk ho => by simp only [out, and_true] at ho ⊢ <;> first | omega | (first | exact ho | exact ho.1 | exact ho.2 | exact ho.2.1 | exact ho.2.2 | exact ho.2.2.1 | exact ho.2.2.2 | exact pl_L13v3.ne (by first | omega | (first | exact ho | exact ho.1 | exact ho.2 | exact ho.2.1 | exact ho.2.2 | exact ho.2.2.1 | exact ho.2.2.2 | exact pl_L13v2.ne (by first | omega | (first | exact ho | exact ho.1 | exact ho.2 | exact ho.2.1 | exact ho.2.2 | exact ho.2.2.1 | exact ho.2.2.2 | exact pl_L13.ne (by first | omega | (first | exact ho | exact ho.1 | exact ho.2 | exact ho.2.1 | exact ho.2.2 | exact ho.2.2.1 | exact ho.2.2.2)) (by omega))) (by omega))) (by omega)))
     replace rk := rk.st st129 (fun k hk ho => by simp only [out, and_true] at ho ⊢ <;> first | omega | (first | exact ho | exact ho.1 | exact ho.2 | exact ho.2.1 | exact ho.2.2 | exact ho.2.2.1 | exact ho.2.2.2 | exact pl_L13v3.ne (by first | omega | (first | exact ho | exact ho.1 | exact ho.2 | exact ho.2.1 | exact ho.2.2 | exact ho.2.2.1 | exact ho.2.2.2 | exact pl_L13v2.ne (by first | omega | (first | exact ho | exact ho.1 | exact ho.2 | exact ho.2.1 | exact ho.2.2 | exact ho.2.2.1 | exact ho.2.2.2 | exact pl_L13.ne (by first | omega | (first | exact ho | exact ho.1 | exact ho.2 | exact ho.2.1 | exact ho.2.2 | exact ho.2.2.1 | exact ho.2.2.2)) (by omega))) (by omega))) (by omega)))
     have ne_g5_gL13v3 : g5 ≠ gL13v3 := pl_L13v3.ne ne_g5_gL13v2 (by omega)
     replace at5 := st129.same _ _ ⟨ne_g5_gL13v3, trivial⟩ at5
     have ne_g6_gL13v3 : g6 ≠ gL13v3 := pl_L13v3.ne ne_g6_gL13v2 (by omega)
     replace at6 := st129.same _ _ ⟨ne_g6_gL13v3, trivial⟩ at6
     have ne_g11_gL13v3 : g11 ≠ gL13v3 := pl_L13v3.ne ne_g11_gL13v2 (by omega)
     replace at1003 := st129.same _ _ ⟨ne_g11_gL13v3, trivial⟩ at1003
     have ne_g27_gL13v3 : g27 ≠ gL13v3 := pl_L13v3.ne ne_g27_gL13v2 (by omega)
     replace at27 := st129.same _ _ ⟨ne_g27_gL13v3, trivial⟩ at27
     have ne_g127_gL13v3 : g127 ≠ gL13v3 := by omega
     replace at127 := st129.same _ _ ⟨ne_g127_gL13v3, trivial⟩ at127
     have ne_g128_gL13v3 : g128 ≠ gL13v3 := by omega
     replace at128 := st129.same _ _ ⟨ne_g128_gL13v3, trivial⟩ at128
     have lt_at129 := GHeap.lt_of_get at129
     replace hin := base_hin.mono hle
     replace hin1 := base_hin1.mono hle
     replace h := base_h.mono hle
     replace hct := base_hct.mono hle
     clear hb5 fs5 ft5 c105 c115 c125 i25 i35 i45 hm5 hi5 hms5 his5 hmt5 hit5
     have hb5 : Prof.At _ g5 0 m p := ⟨Mem.of_get at5, hin⟩
     obtain ⟨fs5, ft5, c105, c115, c125, i25, i35, i45⟩ := hb5.get
     have hm5 : MemN _ _ _ _ _ := ⟨rfl, hb5.1⟩
     have hi5 := hb5.2
     have hms5 : MemN _ _ _ _ _ := ⟨rfl, fs5.1⟩
     have his5 := fs5.2
     have hmt5 : MemN _ _ _ _ _ := ⟨rfl, ft5.1⟩
     have hit5 := ft5.2
     clear hb6 fs6 ft6 c106 c116 c126 i26 i36 i46 hm6 hi6 hms6 his6 hmt6 hit6
     have hb6 : Prof.At _ g6 0 k q := ⟨Mem.of_get at6, hin1⟩
     obtain ⟨fs6, ft6, c106, c116, c126, i26, i36, i46⟩ := hb6.get
     have hm6 : MemN _ _ _ _ _ := ⟨rfl, hb6.1⟩
     have hi6 := hb6.2
     have hms6 : MemN _ _ _ _ _ := ⟨rfl, fs6.1⟩
     have his6 := fs6.2
     have hmt6 : MemN _ _ _ _ _ := ⟨rfl, ft6.1⟩
     have hit6 := ft6.2
     clear mm1003
     have mm1003 : MemN _ _ _ _ _ := ⟨rfl, Mem.of_get at1003⟩
     clear hb11 c011 c111 c211 c311 c411 i111 i211 i311 i411 hm11 hi11
     have hb11 : Cat.At _ g11 0 m.t p.t := ⟨Mem.of_get at1003, hct⟩
     obtain ⟨c011, c111, c211, c311, c411, i111, i211, i311, i411⟩ := hb11.get
     have hm11 : MemN _ _ _ _ _ := ⟨rfl, hb11.1⟩
     have hi11 := hb11.2
     clear i27
     have i27 := Ints.of_get at27
     clear u1 u2 u3 v1 v2 w1 w2
     have u1 := i25.2 x.toNat (by omega)
     have u2 := i26.2 (m.t.src.getD b 0).toNat (by omega)
     have u3 := i26.2 (m.t.tgt.getD b 0).toNat (by omega)
     have v1 := i45.2 b (by omega)
     have v2 := v1.2 x.toNat (by omega)
     have w1 := i36.2 b (by omega)
     have w2 := w1.2 z.toNat (by omega)
     refine .m rfl rfl rfl (.assign rfl) (.nil ?_)
     refine hK18 _ _ ?_
     refine .region (.m rfl rfl rfl (.move rfl) ?_)
     refine .m rfl rfl rfl (.add rfl rfl rfl (by omega) (by omega)) ?_
     refine .m rfl rfl rfl (.assign rfl) (.nil ?_)
     refine hKL3 ((d + 1, upd r3 (ccS m k x z b e d).length (some ⟨g127, 0, none⟩), _, _)) _ _ ?_ ?_ ⟨rfl, rfl, rfl, rfl, rfl, rfl, rfl, rfl, rfl, rfl, rfl, rfl, rfl, trivial⟩
     ·
      refine ⟨lst3, by first | assumption | (rw [ccS_snoc, slsL_snoc]; assumption), by first | assumption | exact ⟨.inr (by omega)⟩ | exact ⟨.inl rfl⟩, by first | omega | (simp only [List.length_append, List.length_cons, List.length_nil] <;> omega) | (rw [ccS_snoc, slsL_snoc] <;> (first | omega | (simp only [List.length_append, List.length_cons, List.length_nil] <;> omega))), ?_⟩
      exact ⟨by omega, by rw [ccS_snoc, hrow]; exact hR.snoc (rk.lasts1 hat13 rfl) (by assumption) (by omega) (by omega)⟩
     (dsimp only; omega)
    try simp only [sps] at h67
    refine .exit ?_
    refine hK14 _ _ ?_
    refine .region (.m rfl rfl rfl (.move rfl) ?_)
    refine .m rfl rfl rfl (.add rfl rfl rfl (by omega) (by omega)) ?_
    refine .m rfl rfl rfl (.assign rfl) (.nil ?_)
    obtain rfl : d = ccA2 m k z b := by omega
    refine hKL2 ((e + 1, r3, _, _)) _ _ ?_ ?_ ⟨rfl, rfl, rfl, rfl, rfl, rfl, rfl, rfl, rfl, rfl, rfl, rfl, trivial⟩
    ·
     refine ⟨lst2, by first | assumption | (rw [ccS_next2]; assumption), by first | assumption | exact pl_L13v3.trans pl_L13v2 (by omega) | exact ⟨.inr (by omega)⟩ | exact ⟨.inl rfl⟩, by first | omega | (simp only [List.length_append, List.length_cons, List.length_nil] <;> omega) | (rw [ccS_next2] <;> (first | omega | (simp only [List.length_append, List.length_cons, List.length_nil] <;> omega))), ?_⟩
     exact ⟨by omega, by rw [ccS_next2]; exact hR⟩
    (dsimp only; omega)
   try simp only [sps] at h55
   refine .exit ?_
   refine hK9 _ _ ?_
   refine .region (.m rfl rfl rfl (.move rfl) ?_)
   refine .m rfl rfl rfl (.add rfl rfl rfl (by omega) (by omega)) ?_
   refine .m rfl rfl rfl (.assign rfl) (.nil ?_)
   obtain rfl : e = ccA1 m x b := by omega
   refine hKL1 ((b + 1, r2, _, _)) _ _ ?_ ?_ ⟨rfl, rfl, rfl, rfl, rfl, rfl, rfl, rfl, rfl, trivial⟩
   ·
    refine ⟨lst1, by first | assumption | (rw [ccS_next1]; assumption), by first | assumption | exact pl_L13v2.trans pl_L13 (by omega) | exact ⟨.inr (by omega)⟩ | exact ⟨.inl rfl⟩, by first | omega | (simp only [List.length_append, List.length_cons, List.length_nil] <;> omega) | (rw [ccS_next1] <;> (first | omega | (simp only [List.length_append, List.length_cons, List.length_nil] <;> omega))), ?_⟩
    exact ⟨by omega, by rw [ccS_next1]; exact hR⟩
   (dsimp only; omega)
  try simp only [sps] at h33
  refine .exit ?_
  refine hK5 _ _ ?_
  refine .seq (fun K21 hK21 => ?_)
  refine .region (.m rfl rfl rfl (.move rfl) (.m rfl rfl rfl (.len sl_23_B rfl) ?_))
  obtain rfl : b = m.t.src.length := by omega
  have hiss := hR.intss at_L13 ge_L13
  have hfl : (slsL rr (ccS m k x z m.t.src.length 0 0)).length = (ccS m k x z m.t.src.length 0 0).length := length_slsL _ _
  refine .m rfl rfl rfl (.move rfl) ?_
  refine .call rfl rfl rfl rfl @Try.call89 rfl ((l01JoinM_c (n := (ccL m k x z).length) (cs := joinL (ccL m k x z).length (ccI m k x z m.t.src.length 0 0)) (by rw [cc_same]) rfl (by omega) hiss (by omega) (by omega) (fun i hi => o.row (getD_mem_list (d := []) hi)))) ?_
  rintro _ H133 ⟨le133, g133, rfl, at133, ge133⟩
  have nx_H133 := le133.1
  replace hle := hle.trans le133
  replace lst1 := lst1.le le133
  replace at5 := le133.2 _ _ at5
  replace at6 := le133.2 _ _ at6
  replace at1003 := le133.2 _ _ at1003
  replace at27 := le133.2 _ _ at27
  replace at_L13 := le133.2 _ _ at_L13
  have lt_at133 := GHeap.lt_of_get at133
  replace hin := base_hin.mono hle
  replace hin1 := base_hin1.mono hle
  replace h := base_h.mono hle
  replace hct := base_hct.mono hle
  clear hb5 fs5 ft5 c105 c115 c125 i25 i35 i45 hm5 hi5 hms5 his5 hmt5 hit5
  have hb5 : Prof.At _ g5 0 m p := ⟨Mem.of_get at5, hin⟩
  obtain ⟨fs5, ft5, c105, c115, c125, i25, i35, i45⟩ := hb5.get
  have hm5 : MemN _ _ _ _ _ := ⟨rfl, hb5.1⟩
  have hi5 := hb5.2
  have hms5 : MemN _ _ _ _ _ := ⟨rfl, fs5.1⟩
  have his5 := fs5.2
  have hmt5 : MemN _ _ _ _ _ := ⟨rfl, ft5.1⟩
  have hit5 := ft5.2
  clear hb6 fs6 ft6 c106 c116 c126 i26 i36 i46 hm6 hi6 hms6 his6 hmt6 hit6
  have hb6 : Prof.At _ g6 0 k q := ⟨Mem.of_get at6, hin1⟩
  obtain ⟨fs6, ft6, c106, c116, c126, i26, i36, i46⟩ := hb6.get
  have hm6 : MemN _ _ _ _ _ := ⟨rfl, hb6.1⟩
  have hi6 := hb6.2
  have hms6 : MemN _ _ _ _ _ := ⟨rfl, fs6.1⟩
  have his6 := fs6.2
  have hmt6 : MemN _ _ _ _ _ := ⟨rfl, ft6.1⟩
  have hit6 := ft6.2
  clear mm1003
  have mm1003 : MemN _ _ _ _ _ := ⟨rfl, Mem.of_get at1003⟩
  clear hb11 c011 c111 c211 c311 c411 i111 i211 i311 i411 hm11 hi11
  have hb11 : Cat.At _ g11 0 m.t p.t := ⟨Mem.of_get at1003, hct⟩
  obtain ⟨c011, c111, c211, c311, c411, i111, i211, i311, i411⟩ := hb11.get
  have hm11 : MemN _ _ _ _ _ := ⟨rfl, hb11.1⟩
  have hi11 := hb11.2
  clear i27
  have i27 := Ints.of_get at27
  have i133 := Ints.of_get at133
  refine .m rfl rfl rfl (.assign rfl) (.nil ?_)
  refine hK21 _ _ ?_
  refine .ret ?_
  refine hret _ _ ?_
  refine ⟨_, rfl, ?_⟩
  exact ⟨hle, _, rfl, at133, by omega⟩
end Go.Proofs.Ytgnfekfdmgnhcaa
