/- Entries of left extensions. No condition. -/
import Derived.Test.YtbdaddkbkdiglaaZ8
namespace Go.GL
theorem Lasts.of_le {e : TypeId} {H H' : GHeap} (h : H.Le H') : Lasts e H H' := fun x _ hx => h.2 x _ hx
noncomputable def leCode (k : Fun) (f : SFun) (y : Int) : Int := bif B (k.Is ∧ f.Is) then (bif B (0 ≤ y ∧ y < k.t.obj) then (bif B (f.sh = k.s) then 0 else 5) else 2) else 1
theorem leCode_1 {k : Fun} {f : SFun} {y : Int} (h : ¬ (k.Is ∧ f.Is)) : leCode k f y = 1 := by unfold leCode; rw [B_false h]; rfl
theorem leCode_2 {k : Fun} {f : SFun} {y : Int} (h : k.Is ∧ f.Is) (h' : ¬ (0 ≤ y ∧ y < k.t.obj)) : leCode k f y = 2 := by unfold leCode; rw [B_true h, B_false h']; rfl
theorem leCode_3 {k : Fun} {f : SFun} {y : Int} (h : k.Is ∧ f.Is) (h' : 0 ≤ y ∧ y < k.t.obj) (h'' : ¬ f.sh = k.s) : leCode k f y = 5 := by unfold leCode; rw [B_true h, B_true h', B_false h'']; rfl
theorem leCode_4 {k : Fun} {f : SFun} {y : Int} (h : k.Is ∧ f.Is) (h' : 0 ≤ y ∧ y < k.t.obj) (h'' : f.sh = k.s) : leCode k f y = 0 := by unfold leCode; rw [B_true h, B_true h', B_true h'']; rfl
theorem leCode_0 {k : Fun} {f : SFun} {y : Int} (h : leCode k f y = 0) : k.Is ∧ f.Is ∧ 0 ≤ y ∧ y < k.t.obj ∧ f.sh = k.s := by
  by_cases h1 : k.Is ∧ f.Is
  · by_cases h2 : 0 ≤ y ∧ y < k.t.obj
    · by_cases h3 : f.sh = k.s
      · exact ⟨h1.1, h1.2, h2.1, h2.2, h3⟩
      · rw [leCode_3 h1 h2 h3] at h; omega
    · rw [leCode_2 h1 h2] at h; omega
  · rw [leCode_1 h1] at h; omega
def lePr (k : Fun) (y : Int) (x i e : Nat) : List Int := [(x : Int), (k.t.hom (k.ob.getD x 0) y).getD i 0, (e : Int)]
def leL (k : Fun) (f : SFun) (y : Int) (x i e : Nat) : List (List Int) := nest3 (lePr k y) (fun x => (k.t.hom (k.ob.getD x 0) y).length) (fun x _ => (f.sz.getD x 0).toNat) x i e
theorem leL_snoc {k : Fun} {f : SFun} {y : Int} {x i e : Nat} : leL k f y x i (e + 1) = leL k f y x i e ++ [lePr k y x i e] := nest3_snoc
theorem leL_next2 {k : Fun} {f : SFun} {y : Int} {x i : Nat} : leL k f y x (i + 1) 0 = leL k f y x i (f.sz.getD x 0).toNat := nest3_next2
theorem leL_next1 {k : Fun} {f : SFun} {y : Int} {x : Nat} : leL k f y (x + 1) 0 0 = leL k f y x (k.t.hom (k.ob.getD x 0) y).length 0 := nest3_next1
theorem leL_le {k : Fun} {f : SFun} {y : Int} {x i e : Nat} (hk : k.Is) (hf : f.Is) (hn : f.sz.length = k.ob.length) (hx : x < k.ob.length) (hi : i < (k.t.hom (k.ob.getD x 0) y).length) (he : e ≤ (f.sz.getD x 0).toNat) : (leL k f y x i e).length ≤ 8 * (40 * 16) := by
  have b1 := hk.1.1.obj
  have b2 := hk.2.2.ol
  have b3 := hk.2.1.1.n40
  have := nest3_le (pr := lePr k y) (s1 := fun x => (k.t.hom (k.ob.getD x 0) y).length) (s2 := fun x _ => (f.sz.getD x 0).toNat) (c := 16) (d := 40) (n := k.ob.length)
    (fun a _ => by have := k.t.hom_le (k.ob.getD a 0) y; omega) (fun a ha b _ => by have := hf.1.sz a (by omega); omega) hx hi he
  have h2 : k.ob.length * (40 * 16) ≤ 8 * (40 * 16) := Nat.mul_le_mul_right _ (by omega)
  unfold leL
  exact Nat.le_trans this h2
theorem leL_all {k : Fun} {f : SFun} {y : Int} (hk : k.Is) (hf : f.Is) (hn : f.sz.length = k.ob.length) : (leL k f y k.ob.length 0 0).length ≤ 8 * (40 * 16) := by
  have b1 := hk.1.1.obj
  have b2 := hk.2.2.ol
  have b3 := hk.2.1.1.n40
  have := nest3_all (pr := lePr k y) (s1 := fun x => (k.t.hom (k.ob.getD x 0) y).length) (s2 := fun x _ => (f.sz.getD x 0).toNat) (c := 16) (d := 40) (n := k.ob.length)
    (fun a _ => by have := k.t.hom_le (k.ob.getD a 0) y; omega) (fun a ha b _ => by have := hf.1.sz a (by omega); omega)
  have h2 : k.ob.length * (40 * 16) ≤ 8 * (40 * 16) := Nat.mul_le_mul_right _ (by omega)
  unfold leL
  exact Nat.le_trans this h2
theorem leLen {k : Fun} {f : SFun} (hk : k.Is) (hf : f.Is) (h : f.sh = k.s) : f.sz.length = k.ob.length := by
  have h1 := hf.1.zl
  have h2 := hk.2.2.ol
  rw [h] at h1
  omega
noncomputable def leR (k : Fun) (f : SFun) (y : Int) : List (List Int) := bif B (leCode k f y = 0) then leL k f y k.ob.length 0 0 else []
theorem leR_ok {k : Fun} {f : SFun} {y : Int} (h : leCode k f y = 0) : leR k f y = leL k f y k.ob.length 0 0 := by unfold leR; rw [B_true h]; rfl
theorem leR_not {k : Fun} {f : SFun} {y : Int} (h : ¬ leCode k f y = 0) : leR k f y = [] := by unfold leR; rw [B_false h]; rfl
theorem leR_small (k : Fun) (f : SFun) (y : Int) : (leR k f y).length ≤ 1048576 ∧ ∀ i, ((leR k f y).getD i []).length ≤ 1048576 := by
  by_cases h : leCode k f y = 0
  · obtain ⟨h1, h2, _, _, h5⟩ := leCode_0 h
    have := leL_all (y := y) h1 h2 (leLen h1 h2 h5)
    rw [leR_ok h]
    refine ⟨by omega, fun i => ?_⟩
    by_cases hi : i < (leL k f y k.ob.length 0 0).length
    · obtain ⟨a, b, t, _, _, _, e⟩ := nest3_mem (getD_mem_list (d := []) hi)
      have e' : (leL k f y k.ob.length 0 0).getD i [] = lePr k y a b t := e
      rw [e']
      unfold lePr
      simp
    · rw [List.getD_eq_getElem?_getD, List.getElem?_eq_none (by omega)]; simp
  · rw [leR_not h]; exact ⟨by simp, fun i => by simp⟩
end Go.GL
/- Triples of a composite of profunctors. No condition. -/
namespace Go.GL
noncomputable def ctCode (p q : Prof) (x z : Int) : Int := bif B (p.Is ∧ q.Is) then (bif B ((0 ≤ x ∧ x < p.s.obj) ∧ (0 ≤ z ∧ z < q.t.obj)) then (bif B (p.t = q.s) then 0 else 5) else 2) else 1
theorem ctCode_1 {p q : Prof} {x z : Int} (h : ¬ (p.Is ∧ q.Is)) : ctCode p q x z = 1 := by unfold ctCode; rw [B_false h]; rfl
theorem ctCode_2 {p q : Prof} {x z : Int} (h : p.Is ∧ q.Is) (h' : ¬ ((0 ≤ x ∧ x < p.s.obj) ∧ (0 ≤ z ∧ z < q.t.obj))) : ctCode p q x z = 2 := by unfold ctCode; rw [B_true h, B_false h']; rfl
theorem ctCode_3 {p q : Prof} {x z : Int} (h : p.Is ∧ q.Is) (h' : (0 ≤ x ∧ x < p.s.obj) ∧ (0 ≤ z ∧ z < q.t.obj)) (h'' : ¬ p.t = q.s) : ctCode p q x z = 5 := by unfold ctCode; rw [B_true h, B_true h', B_false h'']; rfl
theorem ctCode_4 {p q : Prof} {x z : Int} (h : p.Is ∧ q.Is) (h' : (0 ≤ x ∧ x < p.s.obj) ∧ (0 ≤ z ∧ z < q.t.obj)) (h'' : p.t = q.s) : ctCode p q x z = 0 := by unfold ctCode; rw [B_true h, B_true h', B_true h'']; rfl
theorem ctCode_0 {p q : Prof} {x z : Int} (h : ctCode p q x z = 0) : p.Is ∧ q.Is ∧ 0 ≤ x ∧ x < p.s.obj ∧ 0 ≤ z ∧ z < q.t.obj ∧ p.t = q.s := by
  by_cases h1 : p.Is ∧ q.Is
  · by_cases h2 : (0 ≤ x ∧ x < p.s.obj) ∧ (0 ≤ z ∧ z < q.t.obj)
    · by_cases h3 : p.t = q.s
      · exact ⟨h1.1, h1.2, h2.1.1, h2.1.2, h2.2.1, h2.2.2, h3⟩
      · rw [ctCode_3 h1 h2 h3] at h; omega
    · rw [ctCode_2 h1 h2] at h; omega
  · rw [ctCode_1 h1] at h; omega
/-- The code behind the first test. -/
theorem ctCode_in {p q : Prof} {x z : Int} (h : p.Is ∧ q.Is) (h' : (0 ≤ x ∧ x < p.s.obj) ∧ (0 ≤ z ∧ z < q.t.obj)) : ctCode p q x z = bif B (p.t = q.s) then 0 else 5 := by unfold ctCode; rw [B_true h, B_true h']; rfl
def ctPr (y e d : Nat) : List Int := [(y : Int), (e : Int), (d : Int)]
def ctL (p q : Prof) (x z : Int) (y e d : Nat) : List (List Int) := nest3 ctPr (fun y => ((p.sz.getD x.toNat []).getD y 0).toNat) (fun y _ => ((q.sz.getD y []).getD z.toNat 0).toNat) y e d
theorem ctL_snoc {p q : Prof} {x z : Int} {y e d : Nat} : ctL p q x z y e (d + 1) = ctL p q x z y e d ++ [ctPr y e d] := nest3_snoc
theorem ctL_next2 {p q : Prof} {x z : Int} {y e : Nat} : ctL p q x z y (e + 1) 0 = ctL p q x z y e ((q.sz.getD y []).getD z.toNat 0).toNat := nest3_next2
theorem ctL_next1 {p q : Prof} {x z : Int} {y : Nat} : ctL p q x z (y + 1) 0 0 = ctL p q x z y ((p.sz.getD x.toNat []).getD y 0).toNat 0 := nest3_next1
/-- Where the sizes lie, and how large they are. -/
structure CtOk (p q : Prof) (x z : Int) (n : Nat) : Prop where
  n8 : n ≤ 8
  x0 : 0 ≤ x
  xl : x.toNat < p.sz.length
  z0 : 0 ≤ z
  pn : ((p.sz.getD x.toNat []).length : Int) = n
  qn : (q.sz.length : Int) = n
  pe : ∀ y, y < n → 0 ≤ (p.sz.getD x.toNat []).getD y 0 ∧ (p.sz.getD x.toNat []).getD y 0 ≤ 64
  qe : ∀ y, y < n → z.toNat < (q.sz.getD y []).length ∧ 0 ≤ (q.sz.getD y []).getD z.toNat 0 ∧ (q.sz.getD y []).getD z.toNat 0 ≤ 64
theorem CtOk.of {p q : Prof} {x z : Int} (hp : p.Is) (hq : q.Is) (h1 : 0 ≤ x) (h2 : x < p.s.obj) (h3 : 0 ≤ z) (h4 : z < q.t.obj) (h5 : p.t = q.s) : CtOk p q x z p.t.obj.toNat ∧ 0 ≤ p.t.obj := by
  have a1 := hp.1.t.1.obj
  have a2 := hp.1.z.sl
  have a3 := hq.1.z.sl
  have a4 := hp.1.z.row x.toNat (by omega)
  have e1 : q.s.obj = p.t.obj := by rw [h5]
  refine ⟨⟨by omega, h1, by omega, h3, by omega, by omega, fun y hy => hp.1.z.rng _ (by omega) y (by omega), fun y hy => ?_⟩, by omega⟩
  have b1 := hq.1.z.row y (by omega)
  exact ⟨by omega, hq.1.z.rng y (by omega) z.toNat (by omega)⟩
theorem CtOk.len {p q : Prof} {x z : Int} {n y e d : Nat} (h : CtOk p q x z n) (hy : y < n) (he : e < ((p.sz.getD x.toNat []).getD y 0).toNat) (hd : d ≤ ((q.sz.getD y []).getD z.toNat 0).toNat) : (ctL p q x z y e d).length ≤ 32768 := by
  have := nest3_le (pr := ctPr) (s1 := fun y => ((p.sz.getD x.toNat []).getD y 0).toNat) (s2 := fun y _ => ((q.sz.getD y []).getD z.toNat 0).toNat) (c := 64) (d := 64) (n := n) (fun a ha => by have := h.pe a ha; omega) (fun a ha b _ => by have := h.qe a ha; omega) hy he hd
  have h2 : n * (64 * 64) ≤ 8 * (64 * 64) := Nat.mul_le_mul_right _ h.n8
  exact Nat.le_trans this h2
theorem CtOk.len0 {p q : Prof} {x z : Int} {n : Nat} (h : CtOk p q x z n) : (ctL p q x z n 0 0).length ≤ 32768 := by
  have := nest3_all (pr := ctPr) (s1 := fun y => ((p.sz.getD x.toNat []).getD y 0).toNat) (s2 := fun y _ => ((q.sz.getD y []).getD z.toNat 0).toNat) (c := 64) (d := 64) (n := n) (fun a ha => by have := h.pe a ha; omega) (fun a ha b _ => by have := h.qe a ha; omega)
  have h2 : n * (64 * 64) ≤ 8 * (64 * 64) := Nat.mul_le_mul_right _ h.n8
  exact Nat.le_trans this h2
theorem ctL_row {p q : Prof} {x z : Int} {n i : Nat} (hi : i < (ctL p q x z n 0 0).length) : ∃ a b t, (ctL p q x z n 0 0).getD i [] = ctPr a b t := by
  obtain ⟨a, b, t, _, _, _, e⟩ := nest3_mem (getD_mem_list (d := []) hi)
  exact ⟨a, b, t, e⟩
noncomputable def ctR (p q : Prof) (x z : Int) : List (List Int) := bif B (ctCode p q x z = 0) then ctL p q x z p.t.obj.toNat 0 0 else []
theorem ctR_ok {p q : Prof} {x z : Int} (h : ctCode p q x z = 0) : ctR p q x z = ctL p q x z p.t.obj.toNat 0 0 := by unfold ctR; rw [B_true h]; rfl
theorem ctR_not {p q : Prof} {x z : Int} (h : ¬ ctCode p q x z = 0) : ctR p q x z = [] := by unfold ctR; rw [B_false h]; rfl
theorem ctR_small (p q : Prof) (x z : Int) : (ctR p q x z).length ≤ 1048576 ∧ ∀ i, ((ctR p q x z).getD i []).length ≤ 1048576 := by
  by_cases h : ctCode p q x z = 0
  · obtain ⟨h1, h2, h3, h4, h5, h6, h7⟩ := ctCode_0 h
    have hl := (CtOk.of h1 h2 h3 h4 h5 h6 h7).1.len0
    rw [ctR_ok h]
    refine ⟨by omega, fun i => ?_⟩
    by_cases hi : i < (ctL p q x z p.t.obj.toNat 0 0).length
    · obtain ⟨a, b, t, e⟩ := ctL_row hi
      rw [e]; unfold ctPr; simp
    · rw [List.getD_eq_getElem?_getD, List.getElem?_eq_none (by omega)]; simp
  · rw [ctR_not h]; exact ⟨by simp, fun i => by simp⟩
/-- Rows of three numbers, laid one behind the other. -/
def tcells (xss : List (List Int)) : List Value := xss.flatMap ints
theorem tcells_snoc (xss : List (List Int)) (x : List Int) : tcells (xss ++ [x]) = tcells xss ++ ints x := by simp [tcells]
theorem tcells_len {xss : List (List Int)} (h : ∀ x ∈ xss, x.length = 3) : (tcells xss).length = xss.length * 3 := by
  induction xss with
  | nil => rfl
  | cons x r ih =>
    have h1 := h x (by simp)
    have h2 := ih fun y hy => h y (by simp [hy])
    unfold tcells at h2 ⊢
    simp only [List.flatMap_cons, List.length_append, length_ints, List.length_cons]
    omega
theorem tcells_get {xss : List (List Int)} (h : ∀ x ∈ xss, x.length = 3) {i j : Nat} (hi : i < xss.length) (hj : j < 3) : (tcells xss)[i * 3 + j]? = some (.int .i64 ((xss.getD i []).getD j 0)) := by
  induction xss generalizing i with
  | nil => simp at hi
  | cons x r ih =>
    have h1 := h x (by simp)
    unfold tcells
    rw [List.flatMap_cons]
    cases i with
    | zero =>
      rw [List.getElem?_append_left (by simp; omega)]
      simp only [Nat.zero_mul, Nat.zero_add, List.getD_cons_zero]
      exact ints_get (by omega)
    | succ i =>
      rw [List.getElem?_append_right (by simp; omega)]
      simp only [length_ints, h1, List.getD_cons_succ]
      have := ih (fun y hy => h y (by simp [hy])) (i := i) (by simpa using hi)
      unfold tcells at this
      rw [← this]
      congr 1
      omega
theorem ctL_three {p q : Prof} {x z : Int} {n : Nat} : ∀ r ∈ ctL p q x z n 0 0, r.length = 3 := fun r hr => by
  obtain ⟨a, b, t, _, _, _, e⟩ := nest3_mem hr
  rw [e]; rfl
theorem tcells_slA {H : GHeap} {g : Nat} {e : TypeId} {own : Bool} {xss : List (List Int)} (h : ∀ x ∈ xss, x.length = 3) (hg : H.get g = some (.row (tcells xss) e own)) : SlA H (some ⟨g, 0, none⟩) (xss.length * 3) (fun i => (tcells xss).getD i undef) :=
  .inr ⟨g, 0, rfl, fun i hi => by
    rw [GHeap.cell_of hg, Nat.zero_add]
    show _ = some ((tcells xss).getD i undef)
    rw [List.getD_eq_getElem?_getD, List.getElem?_eq_getElem (by rw [tcells_len h]; exact hi)]; rfl⟩
theorem tcells_mem {H : GHeap} {g : Nat} {e : TypeId} {own : Bool} {xss : List (List Int)} (h : ∀ x ∈ xss, x.length = 3) (hg : H.get g = some (.row (tcells xss) e own)) {i : Nat} (hi : i < xss.length) :
    MemN H g (0 + (i : Int).toNat * 3) 3 [.int .i64 ((xss.getD i []).getD 0 0), .int .i64 ((xss.getD i []).getD 1 0), .int .i64 ((xss.getD i []).getD 2 0)] := by
  refine ⟨rfl, fun j v hv => ?_⟩
  rw [GHeap.cell_of hg, Int.toNat_natCast, Nat.zero_add]
  match j, hv with
  | 0, hv => cases hv; exact tcells_get h hi (j := 0) (by omega)
  | 1, hv => cases hv; exact tcells_get h hi (j := 1) (by omega)
  | 2, hv => cases hv; exact tcells_get h hi (j := 2) (by omega)
  | n + 3, hv => simp at hv
theorem nestL_form {α : Type} {pr : Nat → Nat → α} {sz : Nat → Nat} {k t : Nat} {x : α} (h : x ∈ nestL pr sz k t) : ∃ a b, x = pr a b := by
  unfold nestL at h
  simp only [List.mem_append, List.mem_flatMap, List.mem_map] at h
  rcases h with ⟨a, _, b, _, e⟩ | ⟨b, _, e⟩
  · exact ⟨a, b, e.symm⟩
  · exact ⟨k, b, e.symm⟩
theorem ctL_three' {p q : Prof} {x z : Int} {y e d : Nat} : ∀ r ∈ ctL p q x z y e d, r.length = 3 := fun r hr => by
  unfold ctL nest3 at hr
  simp only [List.mem_append, List.mem_flatMap] at hr
  rcases hr with ⟨a, _, h⟩ | h <;> (obtain ⟨b, c, rfl⟩ := nestL_form h; rfl)
theorem ctT_snoc {p q : Prof} {x z : Int} {y e d : Nat} : tcells (ctL p q x z y e (d + 1)) = tcells (ctL p q x z y e d) ++ [.int .i64 (y : Int), .int .i64 (e : Int), .int .i64 (d : Int)] := by rw [ctL_snoc, tcells_snoc]; rfl
/-- A list of triples that was made since b. -/
structure TrAt (b : Nat) (H : GHeap) (g : Nat) (xss : List (List Int)) : Prop where
  lo : b ≤ g
  three : ∀ x ∈ xss, x.length = 3
  at' : ∃ e, H.get g = some (.row (tcells xss) e true)
theorem TrAt.keep {b b' : Nat} {H H' : GHeap} {g : Nat} {xss : List (List Int)} (h : TrAt b H g xss) (k : Keep b' H H') (hb : b' ≤ b) : TrAt b' H' g xss := by
  obtain ⟨h1, h2, e, h3⟩ := h
  exact ⟨by omega, h2, e, k _ _ (by omega) h3⟩
theorem TrAt.sl {b : Nat} {H : GHeap} {g : Nat} {xss : List (List Int)} (h : TrAt b H g xss) : SlA H (some ⟨g, 0, none⟩) (xss.length * 3) (fun i => (tcells xss).getD i undef) := by
  obtain ⟨h1, h2, e, h3⟩ := h
  exact tcells_slA h2 h3
theorem TrAt.mem {b : Nat} {H : GHeap} {g : Nat} {xss : List (List Int)} (h : TrAt b H g xss) {i : Nat} (hi : i < xss.length) :
    MemN H g (0 + (i : Int).toNat * 3) 3 [.int .i64 ((xss.getD i []).getD 0 0), .int .i64 ((xss.getD i []).getD 1 0), .int .i64 ((xss.getD i []).getD 2 0)] := by
  obtain ⟨h1, h2, e, h3⟩ := h
  exact tcells_mem h2 h3 hi
theorem TrAt.row {b : Nat} {H : GHeap} {g : Nat} {xss : List (List Int)} (h : TrAt b H g xss) {i : Nat} (hi : i < xss.length) : (xss.getD i []).length = 3 := h.three _ (getD_mem_list (d := []) hi)
theorem take_snoc_list {xss : List (List Int)} {i : Nat} (h : i < xss.length) : xss.take (i + 1) = xss.take i ++ [xss.getD i []] := by
  rw [List.take_add_one, List.getElem?_eq_getElem h, List.getD_eq_getElem?_getD, List.getElem?_eq_getElem h]; rfl
theorem three_eq {x : List Int} (h : x.length = 3) : [x.getD 0 0, x.getD 1 0, x.getD 2 0] = x := by
  match x, h with
  | [a, b, c], _ => rfl
end Go.GL
/- Triples of a composite of profunctors. No condition but those of each statement. -/
namespace Go.Proofs.Ytbdaddkbkdiglaa
open Go Go.GL Go.RowKit Go.Proofs
theorem sl_93_Ct : sliceT Try.prog 93 = some (98, 3) := by kernel_rfl
theorem ze_98_Ct : zeroT Try.prog 98 = some ([.int .i64 0, .int .i64 0, .int .i64 0], 3) := by kernel_rfl
theorem bt_98_Ct : buildT Try.prog 98 = some ([.int .i64 0, .int .i64 0, .int .i64 0], [(0, 1), (1, 1), (2, 1)]) := by kernel_rfl
theorem by_98_Ct : (Try.prog.info? 98).map (·.bytes) = some 24 := by kernel_rfl
theorem ag_98_Ct : aggT Try.prog 98 = some 3 := by kernel_rfl
theorem sz_98_Ct : (Try.prog.info? 98).map (·.size) = some 3 := by kernel_rfl
theorem fo_98_0_Ct : fieldOff Try.prog 98 0 = some 0 := by kernel_rfl
theorem fo_98_1_Ct : fieldOff Try.prog 98 1 = some 1 := by kernel_rfl
theorem fo_98_2_Ct : fieldOff Try.prog 98 2 = some 2 := by kernel_rfl
theorem l32Two_c {m k : Prof} {p q : ProfP} {H : GHeap} (hin : m.In H p := by assumption) (hin1 : k.In H q := by assumption) (hs : m.Small := by assumption) (hs1 : k.Small := by assumption) :
    GCalls Try.prog 78 [.agg (m.cells p).toArray, .agg (k.cells q).toArray] H (Ret (.int .i64 (bif B (m.Is ∧ k.Is) then (bif B (m.t = k.s) then 0 else 5) else 1)) H) := by
  refine GCalls.ret rfl ?_
  have w1 := hs.2.1
  have w2 := hs1.1
  refine GCalls.body (N := 19) (rs := [.tmp 4]) Try.func78 rfl rfl rfl rfl (fun Qx hret hend => ?_)
  refine .forget (fr' := [(0, some _), (1, some _)]) ⟨rfl, rfl, trivial⟩ ?_
  have hle := GHeap.Le.refl H
  have base_hin := hin
  have base_hin1 := hin1
  refine .seq (fun K1 hK1 => ?_)
  refine .region ?_
  refine .r rfl rfl rfl (.boxR rfl sz_54_VProf rfl) ?_
  rintro _ H2 ⟨g2, rfl, le2, ge2, at2⟩
  have nx_H2 := le2.1
  replace hle := hle.trans le2
  have lt_at2 := GHeap.lt_of_get at2
  replace hin := base_hin.mono hle
  replace hin1 := base_hin1.mono hle
  have hb2 : Prof.At _ g2 0 m p := ⟨Mem.of_get at2, hin⟩
  obtain ⟨fs2, ft2, c102, c112, c122, i22, i32, i42⟩ := hb2.get
  have hm2 : MemN _ _ _ _ _ := ⟨rfl, hb2.1⟩
  have hi2 := hb2.2
  have hms2 : MemN _ _ _ _ _ := ⟨rfl, fs2.1⟩
  have his2 := fs2.2
  have hmt2 : MemN _ _ _ _ _ := ⟨rfl, ft2.1⟩
  have hit2 := ft2.2
  refine .r rfl rfl rfl (.boxR rfl sz_54_VProf rfl) ?_
  rintro _ H3 ⟨g3, rfl, le3, ge3, at3⟩
  have nx_H3 := le3.1
  replace hle := hle.trans le3
  replace at2 := le3.2 _ _ at2
  have lt_at3 := GHeap.lt_of_get at3
  replace hin := base_hin.mono hle
  replace hin1 := base_hin1.mono hle
  clear hb2 fs2 ft2 c102 c112 c122 i22 i32 i42 hm2 hi2 hms2 his2 hmt2 hit2
  have hb2 : Prof.At _ g2 0 m p := ⟨Mem.of_get at2, hin⟩
  obtain ⟨fs2, ft2, c102, c112, c122, i22, i32, i42⟩ := hb2.get
  have hm2 : MemN _ _ _ _ _ := ⟨rfl, hb2.1⟩
  have hi2 := hb2.2
  have hms2 : MemN _ _ _ _ _ := ⟨rfl, fs2.1⟩
  have his2 := fs2.2
  have hmt2 : MemN _ _ _ _ _ := ⟨rfl, ft2.1⟩
  have hit2 := ft2.2
  have hb3 : Prof.At _ g3 0 k q := ⟨Mem.of_get at3, hin1⟩
  obtain ⟨fs3, ft3, c103, c113, c123, i23, i33, i43⟩ := hb3.get
  have hm3 : MemN _ _ _ _ _ := ⟨rfl, hb3.1⟩
  have hi3 := hb3.2
  have hms3 : MemN _ _ _ _ _ := ⟨rfl, fs3.1⟩
  have his3 := fs3.2
  have hmt3 : MemN _ _ _ _ _ := ⟨rfl, ft3.1⟩
  have hit3 := ft3.2
  refine .m rfl rfl rfl (.assign rfl) ?_
  refine .nil ?_
  refine hK1 _ _ ?_
  refine .seq (fun K2 hK2 => ?_)
  refine .seq (fun K3 hK3 => ?_)
  refine .region ?_
  refine .m rfl rfl rfl (.loadM ag_54_VProf rfl ⟨rfl, Mem.of_get at2⟩) ?_
  refine .callQ rfl rfl rfl rfl @Try.call76 rfl (l22Is_c) ?_
  refine .m rfl rfl rfl (.not rfl) ?_
  refine .m rfl rfl rfl (.move rfl) ?_
  refine .split (fun h8 => ?_) (fun h8 => ?_)
  ·
   try simp only [sps] at h8
   refine .sg rfl rfl rfl rfl rfl ?_
   refine .sg rfl rfl rfl rfl rfl ?_
   refine .sg rfl rfl rfl rfl rfl ?_
   refine .m rfl rfl rfl (.pickT rfl rfl) ?_
   refine .nil ?_
   refine hK3 _ _ ?_
   refine .condT rfl ?_
   refine .seq (fun K4 hK4 => ?_)
   refine .region ?_
   refine .m rfl rfl rfl (.assign rfl) ?_
   refine .nil ?_
   refine hK4 _ _ ?_
   refine .ret ?_
   -- leaf e1
   refine hret _ _ ?_
   refine ⟨_, rfl, ?_⟩
   first
   | exact ⟨by rw [B_true ⟨by assumption, by assumption⟩, B_true (by assumption)]; rfl, hle⟩
   | exact ⟨by rw [B_true ⟨by assumption, by assumption⟩, B_false (by assumption)]; rfl, hle⟩
   | exact ⟨by rw [B_false fun hh => absurd hh.1 (by assumption)]; rfl, hle⟩
   | exact ⟨by rw [B_false fun hh => absurd hh.2 (by assumption)]; rfl, hle⟩
  ·
   try simp only [sps] at h8
   refine .mg rfl rfl rfl rfl rfl (.loadM ag_54_VProf rfl ⟨rfl, Mem.of_get at3⟩) ?_
   refine .callQg rfl rfl rfl rfl rfl rfl @Try.call76 rfl (l22Is_c) ?_
   refine .mg rfl rfl rfl rfl rfl (.not rfl) ?_
   refine .m rfl rfl rfl (.pickF rfl rfl) ?_
   refine .nil ?_
   refine hK3 _ _ ?_
   refine .cond rfl (fun h12 => ?_) (fun h12 => ?_)
   ·
    try simp only [sps] at h12
    refine .seq (fun K5 hK5 => ?_)
    refine .region ?_
    refine .m rfl rfl rfl (.assign rfl) ?_
    refine .nil ?_
    refine hK5 _ _ ?_
    refine .ret ?_
    -- leaf e2
    refine hret _ _ ?_
    refine ⟨_, rfl, ?_⟩
    first
    | exact ⟨by rw [B_true ⟨by assumption, by assumption⟩, B_true (by assumption)]; rfl, hle⟩
    | exact ⟨by rw [B_true ⟨by assumption, by assumption⟩, B_false (by assumption)]; rfl, hle⟩
    | exact ⟨by rw [B_false fun hh => absurd hh.1 (by assumption)]; rfl, hle⟩
    | exact ⟨by rw [B_false fun hh => absurd hh.2 (by assumption)]; rfl, hle⟩
   ·
    try simp only [sps] at h12
    refine .skip ?_
    refine hK2 _ _ ?_
    refine .seq (fun K6 hK6 => ?_)
    refine .seq (fun K7 hK7 => ?_)
    refine .region ?_
    refine .m rfl rfl rfl (.fieldAddr fo_54_1_VProf rfl) ?_
    refine .m rfl rfl rfl (.loadM ag_34_D rfl (by assumption)) ?_
    refine .m rfl rfl rfl (.fieldAddr fo_54_0_VProf rfl) ?_
    refine .m rfl rfl rfl (.loadM ag_34_D rfl (by assumption)) ?_
    refine .callQ rfl rfl rfl rfl @Try.call84 rfl (l02Same_c) ?_
    refine .m rfl rfl rfl (.not rfl) ?_
    refine .nil ?_
    refine hK7 _ _ ?_
    refine .cond rfl (fun h18 => ?_) (fun h18 => ?_)
    ·
     simp only [sps] at h18
     refine .seq (fun K8 hK8 => ?_)
     refine .region ?_
     refine .m rfl rfl rfl (.assign rfl) ?_
     refine .nil ?_
     refine hK8 _ _ ?_
     refine .ret ?_
     -- leaf e3
     refine hret _ _ ?_
     refine ⟨_, rfl, ?_⟩
     first
     | exact ⟨by rw [B_true ⟨by assumption, by assumption⟩, B_true (by assumption)]; rfl, hle⟩
     | exact ⟨by rw [B_true ⟨by assumption, by assumption⟩, B_false (by assumption)]; rfl, hle⟩
     | exact ⟨by rw [B_false fun hh => absurd hh.1 (by assumption)]; rfl, hle⟩
     | exact ⟨by rw [B_false fun hh => absurd hh.2 (by assumption)]; rfl, hle⟩
    ·
     simp only [sps] at h18
     refine .skip ?_
     refine hK6 _ _ ?_
     refine .seq (fun K9 hK9 => ?_)
     refine .region ?_
     refine .m rfl rfl rfl (.assign rfl) ?_
     refine .nil ?_
     refine hK9 _ _ ?_
     refine .ret ?_
     -- leaf e4
     refine hret _ _ ?_
     refine ⟨_, rfl, ?_⟩
     first
     | exact ⟨by rw [B_true ⟨by assumption, by assumption⟩, B_true (by assumption)]; rfl, hle⟩
     | exact ⟨by rw [B_true ⟨by assumption, by assumption⟩, B_false (by assumption)]; rfl, hle⟩
     | exact ⟨by rw [B_false fun hh => absurd hh.1 (by assumption)]; rfl, hle⟩
     | exact ⟨by rw [B_false fun hh => absurd hh.2 (by assumption)]; rfl, hle⟩
theorem l32Place_c {m k : Prof} {p q : ProfP} {x z : Int} {H : GHeap} (hin : m.In H p := by assumption) (hin1 : k.In H q := by assumption) (hs : m.Small := by assumption) (hs1 : k.Small := by assumption) :
    GCalls Try.prog 52 [.agg (m.cells p).toArray, .agg (k.cells q).toArray, .int .i64 x, .int .i64 z] H (Ret (.int .i64 (ctCode m k x z)) H) := by
  refine GCalls.ret rfl ?_
  refine GCalls.body (N := 32) (rs := [.tmp 8]) Try.func52 rfl rfl rfl rfl (fun Qx hret hend => ?_)
  refine .forget (fr' := [(0, some _), (1, some _), (2, some _), (3, some _)]) ⟨rfl, rfl, rfl, rfl, trivial⟩ ?_
  have hle := GHeap.Le.refl H
  have base_hin := hin
  have base_hin1 := hin1
  refine .seq (fun K1 hK1 => ?_)
  refine .region ?_
  refine .r rfl rfl rfl (.boxR rfl sz_54_VProf rfl) ?_
  rintro _ H4 ⟨g4, rfl, le4, ge4, at4⟩
  have nx_H4 := le4.1
  replace hle := hle.trans le4
  have lt_at4 := GHeap.lt_of_get at4
  replace hin := base_hin.mono hle
  replace hin1 := base_hin1.mono hle
  have hb4 : Prof.At _ g4 0 m p := ⟨Mem.of_get at4, hin⟩
  obtain ⟨fs4, ft4, c104, c114, c124, i24, i34, i44⟩ := hb4.get
  have hm4 : MemN _ _ _ _ _ := ⟨rfl, hb4.1⟩
  have hi4 := hb4.2
  have hms4 : MemN _ _ _ _ _ := ⟨rfl, fs4.1⟩
  have his4 := fs4.2
  have hmt4 : MemN _ _ _ _ _ := ⟨rfl, ft4.1⟩
  have hit4 := ft4.2
  refine .r rfl rfl rfl (.boxR rfl sz_54_VProf rfl) ?_
  rintro _ H5 ⟨g5, rfl, le5, ge5, at5⟩
  have nx_H5 := le5.1
  replace hle := hle.trans le5
  replace at4 := le5.2 _ _ at4
  have lt_at5 := GHeap.lt_of_get at5
  replace hin := base_hin.mono hle
  replace hin1 := base_hin1.mono hle
  clear hb4 fs4 ft4 c104 c114 c124 i24 i34 i44 hm4 hi4 hms4 his4 hmt4 hit4
  have hb4 : Prof.At _ g4 0 m p := ⟨Mem.of_get at4, hin⟩
  obtain ⟨fs4, ft4, c104, c114, c124, i24, i34, i44⟩ := hb4.get
  have hm4 : MemN _ _ _ _ _ := ⟨rfl, hb4.1⟩
  have hi4 := hb4.2
  have hms4 : MemN _ _ _ _ _ := ⟨rfl, fs4.1⟩
  have his4 := fs4.2
  have hmt4 : MemN _ _ _ _ _ := ⟨rfl, ft4.1⟩
  have hit4 := ft4.2
  have hb5 : Prof.At _ g5 0 k q := ⟨Mem.of_get at5, hin1⟩
  obtain ⟨fs5, ft5, c105, c115, c125, i25, i35, i45⟩ := hb5.get
  have hm5 : MemN _ _ _ _ _ := ⟨rfl, hb5.1⟩
  have hi5 := hb5.2
  have hms5 : MemN _ _ _ _ _ := ⟨rfl, fs5.1⟩
  have his5 := fs5.2
  have hmt5 : MemN _ _ _ _ _ := ⟨rfl, ft5.1⟩
  have hit5 := ft5.2
  refine .m rfl rfl rfl (.assign rfl) ?_
  refine .nil ?_
  refine hK1 _ _ ?_
  refine .seq (fun K2 hK2 => ?_)
  refine .seq (fun K3 hK3 => ?_)
  refine .region ?_
  refine .m rfl rfl rfl (.loadM ag_54_VProf rfl ⟨rfl, Mem.of_get at4⟩) ?_
  refine .callQ rfl rfl rfl rfl @Try.call76 rfl (l22Is_c) ?_
  refine .m rfl rfl rfl (.not rfl) ?_
  refine .m rfl rfl rfl (.move rfl) ?_
  refine .split (fun h12 => ?_) (fun h12 => ?_)
  ·
   simp only [sps] at h12
   refine .sg rfl rfl rfl rfl rfl ?_
   refine .sg rfl rfl rfl rfl rfl ?_
   refine .sg rfl rfl rfl rfl rfl ?_
   refine .m rfl rfl rfl (.pickT rfl rfl) ?_
   refine .nil ?_
   refine hK3 _ _ ?_
   refine .condT rfl ?_
   refine .seq (fun K4 hK4 => ?_)
   refine .region ?_
   refine .m rfl rfl rfl (.assign rfl) ?_
   refine .nil ?_
   refine hK4 _ _ ?_
   refine .ret ?_
   -- leaf e1
   refine hret _ _ ?_
   refine ⟨_, rfl, ?_⟩
   first
   | exact ⟨by rw [ctCode_1 fun hh => absurd hh.1 (by assumption)], hle⟩
   | exact ⟨by rw [ctCode_1 fun hh => absurd hh.2 (by assumption)], hle⟩
   | exact ⟨by rw [ctCode_2 ⟨by assumption, by assumption⟩ fun hh => absurd hh.1 (by assumption)], hle⟩
   | exact ⟨by rw [ctCode_2 ⟨by assumption, by assumption⟩ fun hh => absurd hh.2 (by assumption)], hle⟩
   | exact ⟨by rw [ctCode_in ⟨by assumption, by assumption⟩ ⟨by assumption, by assumption⟩, (show B (m.Is ∧ k.Is) = true from B_true ⟨by assumption, by assumption⟩)]; rfl, hle⟩
  ·
   simp only [sps] at h12
   refine .mg rfl rfl rfl rfl rfl (.loadM ag_54_VProf rfl ⟨rfl, Mem.of_get at5⟩) ?_
   refine .callQg rfl rfl rfl rfl rfl rfl @Try.call76 rfl (l22Is_c) ?_
   refine .mg rfl rfl rfl rfl rfl (.not rfl) ?_
   refine .m rfl rfl rfl (.pickF rfl rfl) ?_
   refine .nil ?_
   refine hK3 _ _ ?_
   refine .cond rfl (fun h16 => ?_) (fun h16 => ?_)
   ·
    simp only [sps] at h16
    refine .seq (fun K5 hK5 => ?_)
    refine .region ?_
    refine .m rfl rfl rfl (.assign rfl) ?_
    refine .nil ?_
    refine hK5 _ _ ?_
    refine .ret ?_
    -- leaf e2
    refine hret _ _ ?_
    refine ⟨_, rfl, ?_⟩
    first
    | exact ⟨by rw [ctCode_1 fun hh => absurd hh.1 (by assumption)], hle⟩
    | exact ⟨by rw [ctCode_1 fun hh => absurd hh.2 (by assumption)], hle⟩
    | exact ⟨by rw [ctCode_2 ⟨by assumption, by assumption⟩ fun hh => absurd hh.1 (by assumption)], hle⟩
    | exact ⟨by rw [ctCode_2 ⟨by assumption, by assumption⟩ fun hh => absurd hh.2 (by assumption)], hle⟩
    | exact ⟨by rw [ctCode_in ⟨by assumption, by assumption⟩ ⟨by assumption, by assumption⟩, (show B (m.Is ∧ k.Is) = true from B_true ⟨by assumption, by assumption⟩)]; rfl, hle⟩
   ·
    simp only [sps] at h16
    refine .skip ?_
    refine hK2 _ _ ?_
    refine .seq (fun K6 hK6 => ?_)
    refine .seq (fun K7 hK7 => ?_)
    refine .region ?_
    refine .m rfl rfl rfl (.fieldAddr fo_54_0_VProf rfl) ?_
    refine .m rfl rfl rfl (.loadM ag_34_D rfl (by assumption)) ?_
    refine .m rfl rfl rfl (.move rfl) ?_
    refine .callQ rfl rfl rfl rfl @Try.call77 rfl (l02Object_c) ?_
    refine .m rfl rfl rfl (.not rfl) ?_
    refine .m rfl rfl rfl (.move rfl) ?_
    refine .split (fun h22 => ?_) (fun h22 => ?_)
    ·
     simp only [sps] at h22
     refine .sg rfl rfl rfl rfl rfl ?_
     refine .sg rfl rfl rfl rfl rfl ?_
     refine .sg rfl rfl rfl rfl rfl ?_
     refine .sg rfl rfl rfl rfl rfl ?_
     refine .sg rfl rfl rfl rfl rfl ?_
     refine .m rfl rfl rfl (.pickT rfl rfl) ?_
     refine .nil ?_
     refine hK7 _ _ ?_
     refine .condT rfl ?_
     refine .seq (fun K8 hK8 => ?_)
     refine .region ?_
     refine .m rfl rfl rfl (.assign rfl) ?_
     refine .nil ?_
     refine hK8 _ _ ?_
     refine .ret ?_
     -- leaf e3
     refine hret _ _ ?_
     refine ⟨_, rfl, ?_⟩
     first
     | exact ⟨by rw [ctCode_1 fun hh => absurd hh.1 (by assumption)], hle⟩
     | exact ⟨by rw [ctCode_1 fun hh => absurd hh.2 (by assumption)], hle⟩
     | exact ⟨by rw [ctCode_2 ⟨by assumption, by assumption⟩ fun hh => absurd hh.1 (by assumption)], hle⟩
     | exact ⟨by rw [ctCode_2 ⟨by assumption, by assumption⟩ fun hh => absurd hh.2 (by assumption)], hle⟩
     | exact ⟨by rw [ctCode_in ⟨by assumption, by assumption⟩ ⟨by assumption, by assumption⟩, (show B (m.Is ∧ k.Is) = true from B_true ⟨by assumption, by assumption⟩)]; rfl, hle⟩
    ·
     simp only [sps] at h22
     refine .mg rfl rfl rfl rfl rfl (.fieldAddr fo_54_1_VProf rfl) ?_
     refine .mg rfl rfl rfl rfl rfl (.loadM ag_34_D rfl (by assumption)) ?_
     refine .mg rfl rfl rfl rfl rfl (.move rfl) ?_
     refine .callQg rfl rfl rfl rfl rfl rfl @Try.call77 rfl (l02Object_c) ?_
     refine .mg rfl rfl rfl rfl rfl (.not rfl) ?_
     refine .m rfl rfl rfl (.pickF rfl rfl) ?_
     refine .nil ?_
     refine hK7 _ _ ?_
     refine .cond rfl (fun h28 => ?_) (fun h28 => ?_)
     ·
      simp only [sps] at h28
      refine .seq (fun K9 hK9 => ?_)
      refine .region ?_
      refine .m rfl rfl rfl (.assign rfl) ?_
      refine .nil ?_
      refine hK9 _ _ ?_
      refine .ret ?_
      -- leaf e4
      refine hret _ _ ?_
      refine ⟨_, rfl, ?_⟩
      first
      | exact ⟨by rw [ctCode_1 fun hh => absurd hh.1 (by assumption)], hle⟩
      | exact ⟨by rw [ctCode_1 fun hh => absurd hh.2 (by assumption)], hle⟩
      | exact ⟨by rw [ctCode_2 ⟨by assumption, by assumption⟩ fun hh => absurd hh.1 (by assumption)], hle⟩
      | exact ⟨by rw [ctCode_2 ⟨by assumption, by assumption⟩ fun hh => absurd hh.2 (by assumption)], hle⟩
      | exact ⟨by rw [ctCode_in ⟨by assumption, by assumption⟩ ⟨by assumption, by assumption⟩, (show B (m.Is ∧ k.Is) = true from B_true ⟨by assumption, by assumption⟩)]; rfl, hle⟩
     ·
      simp only [sps] at h28
      refine .skip ?_
      refine hK6 _ _ ?_
      refine .seq (fun K10 hK10 => ?_)
      refine .region ?_
      refine .m rfl rfl rfl (.loadM ag_54_VProf rfl ⟨rfl, Mem.of_get at4⟩) ?_
      refine .m rfl rfl rfl (.loadM ag_54_VProf rfl ⟨rfl, Mem.of_get at5⟩) ?_
      refine .callQ rfl rfl rfl rfl @Try.call78 rfl (l32Two_c) ?_
      refine .m rfl rfl rfl (.assign rfl) ?_
      refine .nil ?_
      refine hK10 _ _ ?_
      refine .ret ?_
      -- leaf e5
      refine hret _ _ ?_
      refine ⟨_, rfl, ?_⟩
      first
      | exact ⟨by rw [ctCode_1 fun hh => absurd hh.1 (by assumption)], hle⟩
      | exact ⟨by rw [ctCode_1 fun hh => absurd hh.2 (by assumption)], hle⟩
      | exact ⟨by rw [ctCode_2 ⟨by assumption, by assumption⟩ fun hh => absurd hh.1 (by assumption)], hle⟩
      | exact ⟨by rw [ctCode_2 ⟨by assumption, by assumption⟩ fun hh => absurd hh.2 (by assumption)], hle⟩
      | exact ⟨by rw [ctCode_in ⟨by assumption, by assumption⟩ ⟨by assumption, by assumption⟩, (show B (m.Is ∧ k.Is) = true from B_true ⟨by assumption, by assumption⟩)]; rfl, hle⟩
set_option maxHeartbeats 4000000 in
theorem l32Triples_c {m k : Prof} {p q : ProfP} {x z : Int} {H : GHeap} (hin : m.In H p := by assumption) (hin1 : k.In H q := by assumption) (hc : CtOk m k x z m.t.obj.toNat) (ho : 0 ≤ m.t.obj) :
    GCalls Try.prog 53 [.agg (m.cells p).toArray, .agg (k.cells q).toArray, .int .i64 x, .int .i64 z] H (NewIntssR H (ctL m k x z m.t.obj.toNat 0 0)) := by
  obtain ⟨b1, b2, b3, b4, b5, b6, b7, b8⟩ := id hc
  refine GCalls.body (N := 53) (rs := [.tmp 8]) Try.func53 rfl rfl rfl rfl (fun Qx hret hend => ?_)
  refine .forget (fr' := [(0, some _), (1, some _), (2, some _), (3, some _)]) ⟨rfl, rfl, rfl, rfl, trivial⟩ ?_
  have hle := GHeap.Le.refl H
  have base_hin := hin
  have base_hin1 := hin1
  refine .seq (fun K1 hK1 => ?_)
  refine .region ?_
  refine .r rfl rfl rfl (.boxR rfl sz_54_VProf rfl) ?_
  rintro _ H4 ⟨g4, rfl, le4, ge4, at4⟩
  have nx_H4 := le4.1
  replace hle := hle.trans le4
  have lt_at4 := GHeap.lt_of_get at4
  replace hin := base_hin.mono hle
  replace hin1 := base_hin1.mono hle
  have hb4 : Prof.At _ g4 0 m p := ⟨Mem.of_get at4, hin⟩
  obtain ⟨fs4, ft4, c104, c114, c124, i24, i34, i44⟩ := hb4.get
  have hm4 : MemN _ _ _ _ _ := ⟨rfl, hb4.1⟩
  have hi4 := hb4.2
  have hms4 : MemN _ _ _ _ _ := ⟨rfl, fs4.1⟩
  have his4 := fs4.2
  have hmt4 : MemN _ _ _ _ _ := ⟨rfl, ft4.1⟩
  have hit4 := ft4.2
  refine .r rfl rfl rfl (.boxR rfl sz_54_VProf rfl) ?_
  rintro _ H5 ⟨g5, rfl, le5, ge5, at5⟩
  have nx_H5 := le5.1
  replace hle := hle.trans le5
  replace at4 := le5.2 _ _ at4
  have lt_at5 := GHeap.lt_of_get at5
  replace hin := base_hin.mono hle
  replace hin1 := base_hin1.mono hle
  clear hb4 fs4 ft4 c104 c114 c124 i24 i34 i44 hm4 hi4 hms4 his4 hmt4 hit4
  have hb4 : Prof.At _ g4 0 m p := ⟨Mem.of_get at4, hin⟩
  obtain ⟨fs4, ft4, c104, c114, c124, i24, i34, i44⟩ := hb4.get
  have hm4 : MemN _ _ _ _ _ := ⟨rfl, hb4.1⟩
  have hi4 := hb4.2
  have hms4 : MemN _ _ _ _ _ := ⟨rfl, fs4.1⟩
  have his4 := fs4.2
  have hmt4 : MemN _ _ _ _ _ := ⟨rfl, ft4.1⟩
  have hit4 := ft4.2
  have hb5 : Prof.At _ g5 0 k q := ⟨Mem.of_get at5, hin1⟩
  obtain ⟨fs5, ft5, c105, c115, c125, i25, i35, i45⟩ := hb5.get
  have hm5 : MemN _ _ _ _ _ := ⟨rfl, hb5.1⟩
  have hi5 := hb5.2
  have hms5 : MemN _ _ _ _ _ := ⟨rfl, fs5.1⟩
  have his5 := fs5.2
  have hmt5 : MemN _ _ _ _ _ := ⟨rfl, ft5.1⟩
  have hit5 := ft5.2
  refine .m rfl rfl rfl (.assign rfl) ?_
  refine .nil ?_
  refine hK1 _ _ ?_
  refine .seq (fun K2 hK2 => ?_)
  refine .region ?_
  refine .r rfl rfl rfl (.litR rfl sl_23_B ze_22_E rfl rfl (by omega) (by omega) rfl rfl) ?_
  rintro _ H13 ⟨g13, rfl, le13, ge13, at13⟩
  have nx_H13 := le13.1
  replace hle := hle.trans le13
  replace at4 := le13.2 _ _ at4
  replace at5 := le13.2 _ _ at5
  have lt_at13 := GHeap.lt_of_get at13
  replace hin := base_hin.mono hle
  replace hin1 := base_hin1.mono hle
  clear hb4 fs4 ft4 c104 c114 c124 i24 i34 i44 hm4 hi4 hms4 his4 hmt4 hit4
  have hb4 : Prof.At _ g4 0 m p := ⟨Mem.of_get at4, hin⟩
  obtain ⟨fs4, ft4, c104, c114, c124, i24, i34, i44⟩ := hb4.get
  have hm4 : MemN _ _ _ _ _ := ⟨rfl, hb4.1⟩
  have hi4 := hb4.2
  have hms4 : MemN _ _ _ _ _ := ⟨rfl, fs4.1⟩
  have his4 := fs4.2
  have hmt4 : MemN _ _ _ _ _ := ⟨rfl, ft4.1⟩
  have hit4 := ft4.2
  clear hb5 fs5 ft5 c105 c115 c125 i25 i35 i45 hm5 hi5 hms5 his5 hmt5 hit5
  have hb5 : Prof.At _ g5 0 k q := ⟨Mem.of_get at5, hin1⟩
  obtain ⟨fs5, ft5, c105, c115, c125, i25, i35, i45⟩ := hb5.get
  have hm5 : MemN _ _ _ _ _ := ⟨rfl, hb5.1⟩
  have hi5 := hb5.2
  have hms5 : MemN _ _ _ _ _ := ⟨rfl, fs5.1⟩
  have his5 := fs5.2
  have hmt5 : MemN _ _ _ _ _ := ⟨rfl, ft5.1⟩
  have hit5 := ft5.2
  refine .m rfl rfl rfl (.assign rfl) ?_
  refine .nil ?_
  refine hK2 _ _ ?_
  refine .seq (fun K3 hK3 => ?_)
  refine .seq (fun K4 hK4 => ?_)
  refine .region ?_
  refine .m rfl rfl rfl (.assign rfl) ?_
  refine .nil ?_
  refine hK4 _ _ ?_
  refine .block ?_
  refine .loopR (σ := Nat × (Nat → Option Addr) × Nat × Nat) [(2, some _), (3, some _), (4, some _), (5, some _)] (fun (y, rr, gL9, nL9) => [(10, some (.int .i64 (y : Int))), (9, some (.slice (some ⟨gL9, 0, none⟩) nL9 nL9))]) (fun (y, rr, gL9, nL9) H' => St [g13] H13 H' ∧ H'.get gL9 = some (.row ((slsL rr (ctL m k x z y 0 0))) 22 true) ∧ (gL9 = g13 ∨ H13.next ≤ gL9) ∧ nL9 = (slsL rr (ctL m k x z y 0 0)).length ∧ y ≤ m.t.obj.toNat ∧ OwnL H.next H' 2 rr (ctL m k x z y 0 0)) (fun (y, rr, gL9, nL9) => m.t.obj.toNat - y) ((0, fun _ => none, _, _)) ⟨rfl, rfl, rfl, rfl, trivial⟩ ⟨rfl, rfl, trivial⟩ ?_ ?_
  ·
   refine ⟨.refl _ _, by first | assumption | exact at13 | simpa using at13, .inl rfl, by first | rfl | assumption | simp | omega, ?_⟩
   exact ⟨by omega, .nil _ _ _ _⟩
  ·
   rintro ⟨y, rr, gL9, nL9⟩ HL1 ⟨lst1, at_L9, pl_L9, ln_L9, hI⟩ KL1 hKL1
   refine .forget (fr' := [(10, some (.int .i64 (y : Int))), (9, some (.slice (some ⟨gL9, 0, none⟩) nL9 nL9)), (2, some _), (3, some _), (4, some _), (5, some _)]) ⟨rfl, rfl, rfl, rfl, rfl, rfl, trivial⟩ ?_
   have ge_L9 : H.next ≤ gL9 := by omega
   have nx_HL1 := lst1.nx
   replace hle := hle.st lst1 (fun k hk => ⟨by omega, trivial⟩)
   replace at4 := lst1.same _ _ ⟨by omega, trivial⟩ at4
   replace at5 := lst1.same _ _ ⟨by omega, trivial⟩ at5
   have lt_at_L9 := GHeap.lt_of_get at_L9
   replace hin := base_hin.mono hle
   replace hin1 := base_hin1.mono hle
   clear hb4 fs4 ft4 c104 c114 c124 i24 i34 i44 hm4 hi4 hms4 his4 hmt4 hit4
   have hb4 : Prof.At _ g4 0 m p := ⟨Mem.of_get at4, hin⟩
   obtain ⟨fs4, ft4, c104, c114, c124, i24, i34, i44⟩ := hb4.get
   have hm4 : MemN _ _ _ _ _ := ⟨rfl, hb4.1⟩
   have hi4 := hb4.2
   have hms4 : MemN _ _ _ _ _ := ⟨rfl, fs4.1⟩
   have his4 := fs4.2
   have hmt4 : MemN _ _ _ _ _ := ⟨rfl, ft4.1⟩
   have hit4 := ft4.2
   clear hb5 fs5 ft5 c105 c115 c125 i25 i35 i45 hm5 hi5 hms5 his5 hmt5 hit5
   have hb5 : Prof.At _ g5 0 k q := ⟨Mem.of_get at5, hin1⟩
   obtain ⟨fs5, ft5, c105, c115, c125, i25, i35, i45⟩ := hb5.get
   have hm5 : MemN _ _ _ _ _ := ⟨rfl, hb5.1⟩
   have hi5 := hb5.2
   have hms5 : MemN _ _ _ _ _ := ⟨rfl, fs5.1⟩
   have his5 := fs5.2
   have hmt5 : MemN _ _ _ _ _ := ⟨rfl, ft5.1⟩
   have hit5 := ft5.2
   obtain ⟨hy, hR⟩ := hI
   refine .seq (fun K5 hK5 => ?_)
   refine .seq (fun K6 hK6 => ?_)
   refine .region ?_
   obtain ⟨d0, d1, d2, d3, d4, e1, e2, e3, e4⟩ := ft4.get
   refine .m rfl rfl rfl (.move rfl) ?_
   refine .m rfl rfl rfl (.fieldAddr fo_54_1_VProf rfl) ?_
   refine .m rfl rfl rfl (.fieldAddr fo_34_0_B rfl) ?_
   refine .m rfl rfl rfl (.load on_2_A rfl (by assumption)) ?_
   refine .m rfl rfl rfl (.cmp rfl rfl rfl) ?_
   refine .nil ?_
   refine hK6 _ _ ?_
   refine .cond rfl (fun h18 => ?_) (fun h18 => ?_)
   ·
    simp only [sps] at h18
    have hpe := b7 y (by omega)
    have hqe := b8 y (by omega)
    have u1 := i24.2 x.toNat (by omega)
    have u2 := i25.2 y (by omega)
    refine .skip ?_
    refine hK5 _ _ ?_
    refine .seq (fun K7 hK7 => ?_)
    refine .block ?_
    refine .seq (fun K8 hK8 => ?_)
    refine .region ?_
    refine .m rfl rfl rfl (.assign rfl) ?_
    refine .nil ?_
    refine hK8 _ _ ?_
    refine .block ?_
    refine .loopR (σ := Nat × (Nat → Option Addr) × Nat × Nat) [(2, some _), (3, some _), (4, some _), (5, some _), (10, some _)] (fun (e, r2, gL9v2, nL9v2) => [(11, some (.int .i64 (e : Int))), (9, some (.slice (some ⟨gL9v2, 0, none⟩) nL9v2 nL9v2))]) (fun (e, r2, gL9v2, nL9v2) H' => St [gL9] HL1 H' ∧ H'.get gL9v2 = some (.row ((slsL r2 (ctL m k x z y e 0))) 22 true) ∧ (gL9v2 = gL9 ∨ HL1.next ≤ gL9v2) ∧ nL9v2 = (slsL r2 (ctL m k x z y e 0)).length ∧ e ≤ ((m.sz.getD x.toNat []).getD y 0).toNat ∧ OwnL H.next H' 2 r2 (ctL m k x z y e 0)) (fun (e, r2, gL9v2, nL9v2) => ((m.sz.getD x.toNat []).getD y 0).toNat - e) ((0, rr, _, _)) ⟨rfl, rfl, rfl, rfl, rfl, trivial⟩ ⟨rfl, rfl, trivial⟩ ?_ ?_
    ·
     refine ⟨.refl _ _, by first | assumption | exact at_L9 | simpa using at_L9, .inl rfl, by first | rfl | assumption | simp | omega, ?_⟩
     exact ⟨by omega, hR⟩
    ·
     rintro ⟨e, r2, gL9v2, nL9v2⟩ HL2 ⟨lst2, at_L9v2, pl_L9v2, ln_L9v2, hI⟩ KL2 hKL2
     refine .forget (fr' := [(11, some (.int .i64 (e : Int))), (9, some (.slice (some ⟨gL9v2, 0, none⟩) nL9v2 nL9v2)), (2, some _), (3, some _), (4, some _), (5, some _), (10, some _)]) ⟨rfl, rfl, rfl, rfl, rfl, rfl, rfl, trivial⟩ ?_
     have ge_L9v2 : H.next ≤ gL9v2 := by omega
     have nx_HL2 := lst2.nx
     replace hle := hle.st lst2 (fun k hk => ⟨by omega, trivial⟩)
     replace lst1 := lst1.st lst2 (fun k hk ho => by simp only [out, and_true] at ho ⊢ <;> omega)
     replace at4 := lst2.same _ _ ⟨by omega, trivial⟩ at4
     replace at5 := lst2.same _ _ ⟨by omega, trivial⟩ at5
     have lt_at_L9v2 := GHeap.lt_of_get at_L9v2
     replace hin := base_hin.mono hle
     replace hin1 := base_hin1.mono hle
     clear hb4 fs4 ft4 c104 c114 c124 i24 i34 i44 hm4 hi4 hms4 his4 hmt4 hit4
     have hb4 : Prof.At _ g4 0 m p := ⟨Mem.of_get at4, hin⟩
     obtain ⟨fs4, ft4, c104, c114, c124, i24, i34, i44⟩ := hb4.get
     have hm4 : MemN _ _ _ _ _ := ⟨rfl, hb4.1⟩
     have hi4 := hb4.2
     have hms4 : MemN _ _ _ _ _ := ⟨rfl, fs4.1⟩
     have his4 := fs4.2
     have hmt4 : MemN _ _ _ _ _ := ⟨rfl, ft4.1⟩
     have hit4 := ft4.2
     clear hb5 fs5 ft5 c105 c115 c125 i25 i35 i45 hm5 hi5 hms5 his5 hmt5 hit5
     have hb5 : Prof.At _ g5 0 k q := ⟨Mem.of_get at5, hin1⟩
     obtain ⟨fs5, ft5, c105, c115, c125, i25, i35, i45⟩ := hb5.get
     have hm5 : MemN _ _ _ _ _ := ⟨rfl, hb5.1⟩
     have hi5 := hb5.2
     have hms5 : MemN _ _ _ _ _ := ⟨rfl, fs5.1⟩
     have his5 := fs5.2
     have hmt5 : MemN _ _ _ _ _ := ⟨rfl, ft5.1⟩
     have hit5 := ft5.2
     clear u1 u2
     have u1 := i24.2 x.toNat (by omega)
     have u2 := i25.2 y (by omega)
     obtain ⟨he, hR⟩ := hI
     refine .seq (fun K9 hK9 => ?_)
     refine .seq (fun K10 hK10 => ?_)
     refine .region ?_
     refine .m rfl rfl rfl (.move rfl) ?_
     refine .m rfl rfl rfl (.fieldAddr fo_54_2_VProf rfl) ?_
     refine .m rfl rfl rfl (.load on_23_B rfl (by assumption)) ?_
     refine .m rfl rfl rfl (.move rfl) ?_
     refine .m rfl rfl rfl (.idx1 sl_23_B (Intss.sl (by assumption)) rfl rfl (by omega) (by omega)) ?_
     refine .m rfl rfl rfl (.loadR on_22_B (by assumption) rfl (by omega)) ?_
     refine .m rfl rfl rfl (.move rfl) ?_
     refine .m rfl rfl rfl (.idxN sl_22_A (by assumption) rfl rfl (by omega)) ?_
     refine .m rfl rfl rfl (.loadI on_2_A (by assumption) rfl (by omega)) ?_
     refine .m rfl rfl rfl (.cmp rfl rfl rfl) ?_
     refine .nil ?_
     refine hK10 _ _ ?_
     refine .cond rfl (fun h30 => ?_) (fun h30 => ?_)
     ·
      simp only [sps] at h30
      refine .skip ?_
      refine hK9 _ _ ?_
      refine .seq (fun K11 hK11 => ?_)
      refine .block ?_
      refine .seq (fun K12 hK12 => ?_)
      refine .region ?_
      refine .m rfl rfl rfl (.assign rfl) ?_
      refine .nil ?_
      refine hK12 _ _ ?_
      refine .block ?_
      refine .loopR (σ := Nat × (Nat → Option Addr) × Nat × Nat) [(2, some _), (3, some _), (4, some _), (5, some _), (10, some _), (11, some _)] (fun (d, r3, gL9v3, nL9v3) => [(12, some (.int .i64 (d : Int))), (9, some (.slice (some ⟨gL9v3, 0, none⟩) nL9v3 nL9v3))]) (fun (d, r3, gL9v3, nL9v3) H' => St [gL9v2] HL2 H' ∧ H'.get gL9v3 = some (.row ((slsL r3 (ctL m k x z y e d))) 22 true) ∧ (gL9v3 = gL9v2 ∨ HL2.next ≤ gL9v3) ∧ nL9v3 = (slsL r3 (ctL m k x z y e d)).length ∧ d ≤ ((k.sz.getD y []).getD z.toNat 0).toNat ∧ OwnL H.next H' 2 r3 (ctL m k x z y e d)) (fun (d, r3, gL9v3, nL9v3) => ((k.sz.getD y []).getD z.toNat 0).toNat - d) ((0, r2, _, _)) ⟨rfl, rfl, rfl, rfl, rfl, rfl, trivial⟩ ⟨rfl, rfl, trivial⟩ ?_ ?_
      ·
       refine ⟨.refl _ _, by first | assumption | exact at_L9v2 | simpa using at_L9v2, .inl rfl, by first | rfl | assumption | simp | omega, ?_⟩
       exact ⟨by omega, hR⟩
      ·
       rintro ⟨d, r3, gL9v3, nL9v3⟩ HL3 ⟨lst3, at_L9v3, pl_L9v3, ln_L9v3, hI⟩ KL3 hKL3
       refine .forget (fr' := [(12, some (.int .i64 (d : Int))), (9, some (.slice (some ⟨gL9v3, 0, none⟩) nL9v3 nL9v3)), (2, some _), (3, some _), (4, some _), (5, some _), (10, some _), (11, some _)]) ⟨rfl, rfl, rfl, rfl, rfl, rfl, rfl, rfl, trivial⟩ ?_
       have ge_L9v3 : H.next ≤ gL9v3 := by omega
       have nx_HL3 := lst3.nx
       replace hle := hle.st lst3 (fun k hk => ⟨by omega, trivial⟩)
       replace lst1 := lst1.st lst3 (fun k hk ho => by simp only [out, and_true] at ho ⊢ <;> omega)
       replace lst2 := lst2.st lst3 (fun k hk ho => by simp only [out, and_true] at ho ⊢ <;> omega)
       replace at4 := lst3.same _ _ ⟨by omega, trivial⟩ at4
       replace at5 := lst3.same _ _ ⟨by omega, trivial⟩ at5
       have lt_at_L9v3 := GHeap.lt_of_get at_L9v3
       replace hin := base_hin.mono hle
       replace hin1 := base_hin1.mono hle
       clear hb4 fs4 ft4 c104 c114 c124 i24 i34 i44 hm4 hi4 hms4 his4 hmt4 hit4
       have hb4 : Prof.At _ g4 0 m p := ⟨Mem.of_get at4, hin⟩
       obtain ⟨fs4, ft4, c104, c114, c124, i24, i34, i44⟩ := hb4.get
       have hm4 : MemN _ _ _ _ _ := ⟨rfl, hb4.1⟩
       have hi4 := hb4.2
       have hms4 : MemN _ _ _ _ _ := ⟨rfl, fs4.1⟩
       have his4 := fs4.2
       have hmt4 : MemN _ _ _ _ _ := ⟨rfl, ft4.1⟩
       have hit4 := ft4.2
       clear hb5 fs5 ft5 c105 c115 c125 i25 i35 i45 hm5 hi5 hms5 his5 hmt5 hit5
       have hb5 : Prof.At _ g5 0 k q := ⟨Mem.of_get at5, hin1⟩
       obtain ⟨fs5, ft5, c105, c115, c125, i25, i35, i45⟩ := hb5.get
       have hm5 : MemN _ _ _ _ _ := ⟨rfl, hb5.1⟩
       have hi5 := hb5.2
       have hms5 : MemN _ _ _ _ _ := ⟨rfl, fs5.1⟩
       have his5 := fs5.2
       have hmt5 : MemN _ _ _ _ _ := ⟨rfl, ft5.1⟩
       have hit5 := ft5.2
       clear u1 u2
       have u1 := i24.2 x.toNat (by omega)
       have u2 := i25.2 y (by omega)
       have rk := St.refl [gL9v3] HL3
       obtain ⟨hd, hR⟩ := hI
       have hat9 := at_L9v3
       have hln := hc.len (y := y) (e := e) (d := d) (by omega) (by omega) hd
       have hfl : (slsL r3 (ctL m k x z y e d)).length = (ctL m k x z y e d).length := length_slsL _ _
       refine .seq (fun K13 hK13 => ?_)
       refine .seq (fun K14 hK14 => ?_)
       refine .region ?_
       refine .m rfl rfl rfl (.move rfl) ?_
       refine .m rfl rfl rfl (.fieldAddr fo_54_2_VProf rfl) ?_
       refine .m rfl rfl rfl (.load on_23_B rfl (by assumption)) ?_
       refine .m rfl rfl rfl (.move rfl) ?_
       refine .m rfl rfl rfl (.idxN sl_23_B (Intss.sl (by assumption)) rfl rfl (by omega)) ?_
       refine .m rfl rfl rfl (.loadR on_22_B (by assumption) rfl (by omega)) ?_
       refine .m rfl rfl rfl (.move rfl) ?_
       refine .m rfl rfl rfl (.idx1 sl_22_A (by assumption) rfl rfl (by omega) (by omega)) ?_
       refine .m rfl rfl rfl (.loadI on_2_A (by assumption) rfl (by omega)) ?_
       refine .m rfl rfl rfl (.cmp rfl rfl rfl) ?_
       refine .nil ?_
       refine hK14 _ _ ?_
       refine .cond rfl (fun h42 => ?_) (fun h42 => ?_)
       ·
        simp only [sps] at h42
        refine .skip ?_
        refine hK13 _ _ ?_
        refine .seq (fun K15 hK15 => ?_)
        refine .block ?_
        refine .region ?_
        refine .m rfl rfl rfl (.move rfl) ?_
        refine .m rfl rfl rfl (.move rfl) ?_
        refine .m rfl rfl rfl (.move rfl) ?_
        refine .m rfl rfl rfl (.move rfl) ?_
        refine .r rfl rfl rfl (.litR rfl sl_22_A ze_2_E rfl rfl (by omega) (by omega) rfl rfl) ?_
        rintro _ H49 ⟨g49, rfl, le49, ge49, at49⟩
        have nx_H49 := le49.1
        replace hle := hle.trans le49
        replace lst1 := lst1.le le49
        replace lst2 := lst2.le le49
        replace lst3 := lst3.le le49
        replace rk := rk.le le49
        replace at4 := le49.2 _ _ at4
        replace at5 := le49.2 _ _ at5
        replace at_L9v3 := le49.2 _ _ at_L9v3
        have lt_at49 := GHeap.lt_of_get at49
        replace hin := base_hin.mono hle
        replace hin1 := base_hin1.mono hle
        clear hb4 fs4 ft4 c104 c114 c124 i24 i34 i44 hm4 hi4 hms4 his4 hmt4 hit4
        have hb4 : Prof.At _ g4 0 m p := ⟨Mem.of_get at4, hin⟩
        obtain ⟨fs4, ft4, c104, c114, c124, i24, i34, i44⟩ := hb4.get
        have hm4 : MemN _ _ _ _ _ := ⟨rfl, hb4.1⟩
        have hi4 := hb4.2
        have hms4 : MemN _ _ _ _ _ := ⟨rfl, fs4.1⟩
        have his4 := fs4.2
        have hmt4 : MemN _ _ _ _ _ := ⟨rfl, ft4.1⟩
        have hit4 := ft4.2
        clear hb5 fs5 ft5 c105 c115 c125 i25 i35 i45 hm5 hi5 hms5 his5 hmt5 hit5
        have hb5 : Prof.At _ g5 0 k q := ⟨Mem.of_get at5, hin1⟩
        obtain ⟨fs5, ft5, c105, c115, c125, i25, i35, i45⟩ := hb5.get
        have hm5 : MemN _ _ _ _ _ := ⟨rfl, hb5.1⟩
        have hi5 := hb5.2
        have hms5 : MemN _ _ _ _ _ := ⟨rfl, fs5.1⟩
        have his5 := fs5.2
        have hmt5 : MemN _ _ _ _ _ := ⟨rfl, ft5.1⟩
        have hit5 := ft5.2
        clear u1 u2
        have u1 := i24.2 x.toNat (by omega)
        have u2 := i25.2 y (by omega)
        refine .r rfl rfl rfl (.litR rfl sl_23_B ze_22_E rfl rfl (by omega) (by omega) rfl rfl) ?_
        rintro _ H50 ⟨g50, rfl, le50, ge50, at50⟩
        have nx_H50 := le50.1
        replace hle := hle.trans le50
        replace lst1 := lst1.le le50
        replace lst2 := lst2.le le50
        replace lst3 := lst3.le le50
        replace rk := rk.le le50
        replace at4 := le50.2 _ _ at4
        replace at5 := le50.2 _ _ at5
        replace at_L9v3 := le50.2 _ _ at_L9v3
        replace at49 := le50.2 _ _ at49
        have lt_at50 := GHeap.lt_of_get at50
        replace hin := base_hin.mono hle
        replace hin1 := base_hin1.mono hle
        clear hb4 fs4 ft4 c104 c114 c124 i24 i34 i44 hm4 hi4 hms4 his4 hmt4 hit4
        have hb4 : Prof.At _ g4 0 m p := ⟨Mem.of_get at4, hin⟩
        obtain ⟨fs4, ft4, c104, c114, c124, i24, i34, i44⟩ := hb4.get
        have hm4 : MemN _ _ _ _ _ := ⟨rfl, hb4.1⟩
        have hi4 := hb4.2
        have hms4 : MemN _ _ _ _ _ := ⟨rfl, fs4.1⟩
        have his4 := fs4.2
        have hmt4 : MemN _ _ _ _ _ := ⟨rfl, ft4.1⟩
        have hit4 := ft4.2
        clear hb5 fs5 ft5 c105 c115 c125 i25 i35 i45 hm5 hi5 hms5 his5 hmt5 hit5
        have hb5 : Prof.At _ g5 0 k q := ⟨Mem.of_get at5, hin1⟩
        obtain ⟨fs5, ft5, c105, c115, c125, i25, i35, i45⟩ := hb5.get
        have hm5 : MemN _ _ _ _ _ := ⟨rfl, hb5.1⟩
        have hi5 := hb5.2
        have hms5 : MemN _ _ _ _ _ := ⟨rfl, fs5.1⟩
        have his5 := fs5.2
        have hmt5 : MemN _ _ _ _ _ := ⟨rfl, ft5.1⟩
        have hit5 := ft5.2
        clear u1 u2
        have u1 := i24.2 x.toNat (by omega)
        have u2 := i25.2 y (by omega)
        refine .r rfl rfl rfl (.appendV rfl sl_23_B ze_22_E rfl by_22_E sl_23_B rfl rfl (by assumption) (by assumption) (by first | omega | (simp <;> omega)) rfl rfl (by omega) (by omega)) ?_
        rintro _ H51 ⟨g51, rfl, st51, ge51, at51⟩
        have nx_H51 := st51.nx
        replace hle := hle.st st51 (fun k hk => ⟨by omega, trivial⟩)
        replace lst1 := lst1.st st51 (fun k hk ho => by simp only [out, and_true] at ho ⊢ <;> omega)
        replace lst2 := lst2.st st51 (fun k hk ho => by simp only [out, and_true] at ho ⊢ <;> omega)
        replace lst3 := lst3.st st51 (fun k hk ho => by simp only [out, and_true] at ho ⊢ <;> omega)
        replace rk := rk.st st51 (fun k hk ho => by simp only [out, and_true] at ho ⊢ <;> omega)
        replace at4 := st51.same _ _ ⟨by omega, trivial⟩ at4
        replace at5 := st51.same _ _ ⟨by omega, trivial⟩ at5
        replace at49 := st51.same _ _ ⟨by omega, trivial⟩ at49
        replace at50 := st51.same _ _ ⟨by omega, trivial⟩ at50
        have lt_at51 := GHeap.lt_of_get at51
        replace hin := base_hin.mono hle
        replace hin1 := base_hin1.mono hle
        clear hb4 fs4 ft4 c104 c114 c124 i24 i34 i44 hm4 hi4 hms4 his4 hmt4 hit4
        have hb4 : Prof.At _ g4 0 m p := ⟨Mem.of_get at4, hin⟩
        obtain ⟨fs4, ft4, c104, c114, c124, i24, i34, i44⟩ := hb4.get
        have hm4 : MemN _ _ _ _ _ := ⟨rfl, hb4.1⟩
        have hi4 := hb4.2
        have hms4 : MemN _ _ _ _ _ := ⟨rfl, fs4.1⟩
        have his4 := fs4.2
        have hmt4 : MemN _ _ _ _ _ := ⟨rfl, ft4.1⟩
        have hit4 := ft4.2
        clear hb5 fs5 ft5 c105 c115 c125 i25 i35 i45 hm5 hi5 hms5 his5 hmt5 hit5
        have hb5 : Prof.At _ g5 0 k q := ⟨Mem.of_get at5, hin1⟩
        obtain ⟨fs5, ft5, c105, c115, c125, i25, i35, i45⟩ := hb5.get
        have hm5 : MemN _ _ _ _ _ := ⟨rfl, hb5.1⟩
        have hi5 := hb5.2
        have hms5 : MemN _ _ _ _ _ := ⟨rfl, fs5.1⟩
        have his5 := fs5.2
        have hmt5 : MemN _ _ _ _ _ := ⟨rfl, ft5.1⟩
        have hit5 := ft5.2
        clear u1 u2
        have u1 := i24.2 x.toNat (by omega)
        have u2 := i25.2 y (by omega)
        refine .m rfl rfl rfl (.assign rfl) ?_
        refine .nil ?_
        refine hK15 _ _ ?_
        refine .region ?_
        refine .m rfl rfl rfl (.move rfl) ?_
        refine .m rfl rfl rfl (.add rfl rfl rfl (by omega) (by omega)) ?_
        refine .m rfl rfl rfl (.assign rfl) ?_
        refine .nil ?_
        refine hKL3 ((d + 1, upd r3 (ctL m k x z y e d).length (some ⟨g49, 0, none⟩), _, _)) _ _ ?_ ?_ ⟨rfl, rfl, rfl, rfl, rfl, rfl, rfl, rfl, trivial⟩
        ·
         refine ⟨lst3, by first | assumption | (rw [ctL_snoc, slsL_snoc]; assumption), by omega, by first | omega | (simp only [List.length_append, List.length_cons, List.length_nil] <;> omega) | (rw [ctL_snoc, slsL_snoc] <;> (first | omega | (simp only [List.length_append, List.length_cons, List.length_nil] <;> omega))), ?_⟩
         exact ⟨by omega, by rw [ctL_snoc]; exact hR.snoc (x := ctPr y e d) (rk.lasts1 hat9 rfl) (by assumption) (by omega) (by omega)⟩
        ·
         (dsimp only; omega)
       ·
        try simp only [sps] at h42
        refine .exit ?_
        refine hK11 _ _ ?_
        refine .region ?_
        refine .m rfl rfl rfl (.move rfl) ?_
        refine .m rfl rfl rfl (.add rfl rfl rfl (by omega) (by omega)) ?_
        refine .m rfl rfl rfl (.assign rfl) ?_
        refine .nil ?_
        obtain rfl : d = ((k.sz.getD y []).getD z.toNat 0).toNat := by omega
        refine hKL2 ((e + 1, r3, _, _)) _ _ ?_ ?_ ⟨rfl, rfl, rfl, rfl, rfl, rfl, rfl, trivial⟩
        ·
         refine ⟨lst2, by first | assumption | (rw [ctL_next2]; assumption), by omega, by first | omega | (simp only [List.length_append, List.length_cons, List.length_nil] <;> omega) | (rw [ctL_next2] <;> (first | omega | (simp only [List.length_append, List.length_cons, List.length_nil] <;> omega))), ?_⟩
         exact ⟨by omega, by rw [ctL_next2]; exact hR⟩
        ·
         (dsimp only; omega)
     ·
      try simp only [sps] at h30
      refine .exit ?_
      refine hK7 _ _ ?_
      refine .region ?_
      refine .m rfl rfl rfl (.move rfl) ?_
      refine .m rfl rfl rfl (.add rfl rfl rfl (by omega) (by omega)) ?_
      refine .m rfl rfl rfl (.assign rfl) ?_
      refine .nil ?_
      obtain rfl : e = ((m.sz.getD x.toNat []).getD y 0).toNat := by omega
      refine hKL1 ((y + 1, r2, _, _)) _ _ ?_ ?_ ⟨rfl, rfl, rfl, rfl, rfl, rfl, trivial⟩
      ·
       refine ⟨lst1, by first | assumption | (rw [ctL_next1]; assumption), by omega, by first | omega | (simp only [List.length_append, List.length_cons, List.length_nil] <;> omega) | (rw [ctL_next1] <;> (first | omega | (simp only [List.length_append, List.length_cons, List.length_nil] <;> omega))), ?_⟩
       exact ⟨by omega, by rw [ctL_next1]; exact hR⟩
      ·
       (dsimp only; omega)
   ·
    try simp only [sps] at h18
    refine .exit ?_
    refine hK3 _ _ ?_
    refine .seq (fun K16 hK16 => ?_)
    refine .region ?_
    refine .m rfl rfl rfl (.move rfl) ?_
    refine .m rfl rfl rfl (.assign rfl) ?_
    refine .nil ?_
    refine hK16 _ _ ?_
    refine .ret ?_
    -- leaf e1
    refine hret _ _ ?_
    refine ⟨_, rfl, ?_⟩
    obtain rfl : y = m.t.obj.toNat := by omega
    exact ⟨hle, _, rr, by rw [ln_L9]; simp, hR.done at_L9 (by omega)⟩
set_option maxHeartbeats 4000000 in
theorem triplesAt_c {g o g' o' : Nat} {m k : Prof} {p q : ProfP} {x z : Int} {H : GHeap} (h : Prof.At H g o m p := by assumption) (h' : Prof.At H g' o' k q := by assumption) (hc : CtOk m k x z m.t.obj.toNat) (ho : 0 ≤ m.t.obj) :
    GCalls Try.prog 82 [.pointer (some ⟨g, o, none⟩), .pointer (some ⟨g', o', none⟩), .int .i64 x, .int .i64 z] H (fun v H' => H.Le H' ∧ ∃ g, v = .slice (some ⟨g, 0, none⟩) (ctL m k x z m.t.obj.toNat 0 0).length (ctL m k x z m.t.obj.toNat 0 0).length ∧ TrAt H.next H' g (ctL m k x z m.t.obj.toNat 0 0)) := by
  obtain ⟨b1, b2, b3, b4, b5, b6, b7, b8⟩ := id hc
  refine GCalls.body (N := 59) (rs := [.tmp 8]) Try.func82 rfl rfl rfl rfl (fun Qx hret hend => ?_)
  refine .forget (fr' := [(0, some _), (1, some _), (2, some _), (3, some _)]) ⟨rfl, rfl, rfl, rfl, trivial⟩ ?_
  have hle := GHeap.Le.refl H
  have base_h := h
  have base_h' := h'
  obtain ⟨fs, ft, c10, c11, c12, i2, i3, i4⟩ := h.get
  have hm : MemN _ _ _ _ _ := ⟨rfl, h.1⟩
  have hi := h.2
  have hms : MemN _ _ _ _ _ := ⟨rfl, fs.1⟩
  have his := fs.2
  have hmt : MemN _ _ _ _ _ := ⟨rfl, ft.1⟩
  have hit := ft.2
  obtain ⟨fsb, ftb, c10b, c11b, c12b, i2b, i3b, i4b⟩ := h'.get
  have hmb : MemN _ _ _ _ _ := ⟨rfl, h'.1⟩
  have hib := h'.2
  have hmsb : MemN _ _ _ _ _ := ⟨rfl, fsb.1⟩
  have hisb := fsb.2
  have hmtb : MemN _ _ _ _ _ := ⟨rfl, ftb.1⟩
  have hitb := ftb.2
  obtain ⟨d0, d1, d2, d3, d4, e1, e2, e3, e4⟩ := ft.get
  refine .seq (fun K1 hK1 => ?_)
  refine .region ?_
  refine .m rfl rfl rfl (.assign rfl) ?_
  refine .nil ?_
  refine hK1 _ _ ?_
  refine .seq (fun K2 hK2 => ?_)
  refine .region ?_
  refine .r rfl rfl rfl (.litR rfl sl_93_Ct ze_98_Ct rfl rfl (by omega) (by omega) rfl rfl) ?_
  rintro _ H13 ⟨g13, rfl, le13, ge13, at13⟩
  have nx_H13 := le13.1
  replace hle := hle.trans le13
  have lt_at13 := GHeap.lt_of_get at13
  replace h := base_h.mono hle
  replace h' := base_h'.mono hle
  clear fs ft c10 c11 c12 i2 i3 i4 hm hi hms his hmt hit fsb ftb c10b c11b c12b i2b i3b i4b hmb hib hmsb hisb hmtb hitb d0 d1 d2 d3 d4 e1 e2 e3 e4
  obtain ⟨fs, ft, c10, c11, c12, i2, i3, i4⟩ := h.get
  have hm : MemN _ _ _ _ _ := ⟨rfl, h.1⟩
  have hi := h.2
  have hms : MemN _ _ _ _ _ := ⟨rfl, fs.1⟩
  have his := fs.2
  have hmt : MemN _ _ _ _ _ := ⟨rfl, ft.1⟩
  have hit := ft.2
  obtain ⟨fsb, ftb, c10b, c11b, c12b, i2b, i3b, i4b⟩ := h'.get
  have hmb : MemN _ _ _ _ _ := ⟨rfl, h'.1⟩
  have hib := h'.2
  have hmsb : MemN _ _ _ _ _ := ⟨rfl, fsb.1⟩
  have hisb := fsb.2
  have hmtb : MemN _ _ _ _ _ := ⟨rfl, ftb.1⟩
  have hitb := ftb.2
  obtain ⟨d0, d1, d2, d3, d4, e1, e2, e3, e4⟩ := ft.get
  refine .m rfl rfl rfl (.assign rfl) ?_
  refine .nil ?_
  refine hK2 _ _ ?_
  refine .seq (fun K3 hK3 => ?_)
  refine .seq (fun K4 hK4 => ?_)
  refine .region ?_
  refine .m rfl rfl rfl (.move rfl) ?_
  refine .m rfl rfl rfl (.nilCheck rfl) ?_
  refine .m rfl rfl rfl (.fieldAddr fo_54_1_VProf rfl) ?_
  refine .m rfl rfl rfl (.fieldAddr fo_34_0_B rfl) ?_
  refine .m rfl rfl rfl (.load on_2_A rfl (by assumption)) ?_
  refine .m rfl rfl rfl (.move rfl) ?_
  refine .nil ?_
  refine hK4 _ _ ?_
  refine .block ?_
  refine .loopR (σ := Nat × Nat × Nat) [(0, some _), (1, some _), (2, some _), (3, some _), (18, some _)] (fun (y, gL9, nL9) => [(19, some (.int .i64 (y : Int))), (9, some (.slice (some ⟨gL9, 0, none⟩) nL9 nL9))]) (fun (y, gL9, nL9) H' => St [g13] H13 H' ∧ H'.get gL9 = some (.row (tcells (ctL m k x z y 0 0)) 98 true) ∧ (gL9 = g13 ∨ H13.next ≤ gL9) ∧ nL9 = (ctL m k x z y 0 0).length ∧ y ≤ m.t.obj.toNat) (fun (y, gL9, nL9) => m.t.obj.toNat - y) ((0, _, _)) ⟨rfl, rfl, rfl, rfl, rfl, trivial⟩ ⟨rfl, rfl, trivial⟩ ?_ ?_
  ·
   refine ⟨.refl _ _, by first | assumption | exact at13 | simpa using at13, .inl rfl, by first | rfl | assumption | simp | omega, ?_⟩
   omega
  ·
   rintro ⟨y, gL9, nL9⟩ HL1 ⟨lst1, at_L9, pl_L9, ln_L9, hI⟩ KL1 hKL1
   refine .forget (fr' := [(19, some (.int .i64 (y : Int))), (9, some (.slice (some ⟨gL9, 0, none⟩) nL9 nL9)), (0, some _), (1, some _), (2, some _), (3, some _), (18, some _)]) ⟨rfl, rfl, rfl, rfl, rfl, rfl, rfl, trivial⟩ ?_
   have ge_L9 : H.next ≤ gL9 := by omega
   have nx_HL1 := lst1.nx
   replace hle := hle.st lst1 (fun k hk => ⟨by omega, trivial⟩)
   have lt_at_L9 := GHeap.lt_of_get at_L9
   replace h := base_h.mono hle
   replace h' := base_h'.mono hle
   clear fs ft c10 c11 c12 i2 i3 i4 hm hi hms his hmt hit fsb ftb c10b c11b c12b i2b i3b i4b hmb hib hmsb hisb hmtb hitb d0 d1 d2 d3 d4 e1 e2 e3 e4
   obtain ⟨fs, ft, c10, c11, c12, i2, i3, i4⟩ := h.get
   have hm : MemN _ _ _ _ _ := ⟨rfl, h.1⟩
   have hi := h.2
   have hms : MemN _ _ _ _ _ := ⟨rfl, fs.1⟩
   have his := fs.2
   have hmt : MemN _ _ _ _ _ := ⟨rfl, ft.1⟩
   have hit := ft.2
   obtain ⟨fsb, ftb, c10b, c11b, c12b, i2b, i3b, i4b⟩ := h'.get
   have hmb : MemN _ _ _ _ _ := ⟨rfl, h'.1⟩
   have hib := h'.2
   have hmsb : MemN _ _ _ _ _ := ⟨rfl, fsb.1⟩
   have hisb := fsb.2
   have hmtb : MemN _ _ _ _ _ := ⟨rfl, ftb.1⟩
   have hitb := ftb.2
   obtain ⟨d0, d1, d2, d3, d4, e1, e2, e3, e4⟩ := ft.get
   have htl : (tcells (ctL m k x z y 0 0)).length = (ctL m k x z y 0 0).length * 3 := tcells_len ctL_three'
   refine .seq (fun K5 hK5 => ?_)
   refine .region ?_
   refine .m rfl rfl rfl (.cmp rfl rfl rfl) ?_
   refine .nil ?_
   refine hK5 _ _ ?_
   refine .seq (fun K6 hK6 => ?_)
   refine .cond rfl (fun h20 => ?_) (fun h20 => ?_)
   ·
    simp only [sps] at h20
    have hpe := b7 y (by omega)
    have hqe := b8 y (by omega)
    have u1 := i2.2 x.toNat (by omega)
    have u2 := i2b.2 y (by omega)
    refine .skip ?_
    refine hK6 _ _ ?_
    refine .seq (fun K7 hK7 => ?_)
    refine .block ?_
    refine .seq (fun K8 hK8 => ?_)
    refine .region ?_
    refine .m rfl rfl rfl (.move rfl) ?_
    refine .m rfl rfl rfl (.assign rfl) ?_
    refine .nil ?_
    refine hK8 _ _ ?_
    refine .seq (fun K9 hK9 => ?_)
    refine .region ?_
    refine .m rfl rfl rfl (.move rfl) ?_
    refine .m rfl rfl rfl (.nilCheck rfl) ?_
    refine .m rfl rfl rfl (.fieldAddr fo_54_2_VProf rfl) ?_
    refine .m rfl rfl rfl (.load on_23_B rfl (by assumption)) ?_
    refine .m rfl rfl rfl (.move rfl) ?_
    refine .m rfl rfl rfl (.idx1 sl_23_B (Intss.sl (by assumption)) rfl rfl (by omega) (by omega)) ?_
    refine .m rfl rfl rfl (.loadR on_22_B (by assumption) rfl (by omega)) ?_
    refine .m rfl rfl rfl (.move rfl) ?_
    refine .m rfl rfl rfl (.idxN sl_22_A (by assumption) rfl rfl (by omega)) ?_
    refine .m rfl rfl rfl (.loadI on_2_A (by assumption) rfl (by omega)) ?_
    refine .m rfl rfl rfl (.move rfl) ?_
    refine .nil ?_
    refine hK9 _ _ ?_
    refine .block ?_
    refine .loopR (σ := Nat × Nat × Nat) [(0, some _), (1, some _), (2, some _), (3, some _), (10, some _), (18, some _), (19, some _), (31, some _)] (fun (e, gL9v2, nL9v2) => [(32, some (.int .i64 (e : Int))), (9, some (.slice (some ⟨gL9v2, 0, none⟩) nL9v2 nL9v2))]) (fun (e, gL9v2, nL9v2) H' => St [gL9] HL1 H' ∧ H'.get gL9v2 = some (.row (tcells (ctL m k x z y e 0)) 98 true) ∧ (gL9v2 = gL9 ∨ HL1.next ≤ gL9v2) ∧ nL9v2 = (ctL m k x z y e 0).length ∧ e ≤ ((m.sz.getD x.toNat []).getD y 0).toNat) (fun (e, gL9v2, nL9v2) => ((m.sz.getD x.toNat []).getD y 0).toNat - e) ((0, _, _)) ⟨rfl, rfl, rfl, rfl, rfl, rfl, rfl, rfl, trivial⟩ ⟨rfl, rfl, trivial⟩ ?_ ?_
    ·
     refine ⟨.refl _ _, by first | assumption | exact at_L9 | simpa using at_L9, .inl rfl, by first | rfl | assumption | simp | omega, ?_⟩
     omega
    ·
     rintro ⟨e, gL9v2, nL9v2⟩ HL2 ⟨lst2, at_L9v2, pl_L9v2, ln_L9v2, hI⟩ KL2 hKL2
     refine .forget (fr' := [(32, some (.int .i64 (e : Int))), (9, some (.slice (some ⟨gL9v2, 0, none⟩) nL9v2 nL9v2)), (0, some _), (1, some _), (2, some _), (3, some _), (10, some _), (18, some _), (19, some _), (31, some _)]) ⟨rfl, rfl, rfl, rfl, rfl, rfl, rfl, rfl, rfl, rfl, trivial⟩ ?_
     have ge_L9v2 : H.next ≤ gL9v2 := by omega
     have nx_HL2 := lst2.nx
     replace hle := hle.st lst2 (fun k hk => ⟨by omega, trivial⟩)
     replace lst1 := lst1.st lst2 (fun k hk ho => by simp only [out, and_true] at ho ⊢ <;> omega)
     have lt_at_L9v2 := GHeap.lt_of_get at_L9v2
     replace h := base_h.mono hle
     replace h' := base_h'.mono hle
     clear fs ft c10 c11 c12 i2 i3 i4 hm hi hms his hmt hit fsb ftb c10b c11b c12b i2b i3b i4b hmb hib hmsb hisb hmtb hitb d0 d1 d2 d3 d4 e1 e2 e3 e4
     obtain ⟨fs, ft, c10, c11, c12, i2, i3, i4⟩ := h.get
     have hm : MemN _ _ _ _ _ := ⟨rfl, h.1⟩
     have hi := h.2
     have hms : MemN _ _ _ _ _ := ⟨rfl, fs.1⟩
     have his := fs.2
     have hmt : MemN _ _ _ _ _ := ⟨rfl, ft.1⟩
     have hit := ft.2
     obtain ⟨fsb, ftb, c10b, c11b, c12b, i2b, i3b, i4b⟩ := h'.get
     have hmb : MemN _ _ _ _ _ := ⟨rfl, h'.1⟩
     have hib := h'.2
     have hmsb : MemN _ _ _ _ _ := ⟨rfl, fsb.1⟩
     have hisb := fsb.2
     have hmtb : MemN _ _ _ _ _ := ⟨rfl, ftb.1⟩
     have hitb := ftb.2
     obtain ⟨d0, d1, d2, d3, d4, e1, e2, e3, e4⟩ := ft.get
     clear u1 u2
     have u1 := i2.2 x.toNat (by omega)
     have u2 := i2b.2 y (by omega)
     refine .seq (fun K10 hK10 => ?_)
     refine .region ?_
     refine .m rfl rfl rfl (.cmp rfl rfl rfl) ?_
     refine .nil ?_
     refine hK10 _ _ ?_
     refine .seq (fun K11 hK11 => ?_)
     refine .cond rfl (fun h33 => ?_) (fun h33 => ?_)
     ·
      simp only [sps] at h33
      refine .skip ?_
      refine hK11 _ _ ?_
      refine .seq (fun K12 hK12 => ?_)
      refine .block ?_
      refine .seq (fun K13 hK13 => ?_)
      refine .region ?_
      refine .m rfl rfl rfl (.move rfl) ?_
      refine .m rfl rfl rfl (.assign rfl) ?_
      refine .nil ?_
      refine hK13 _ _ ?_
      refine .seq (fun K14 hK14 => ?_)
      refine .region ?_
      refine .m rfl rfl rfl (.move rfl) ?_
      refine .m rfl rfl rfl (.nilCheck rfl) ?_
      refine .m rfl rfl rfl (.fieldAddr fo_54_2_VProf rfl) ?_
      refine .m rfl rfl rfl (.load on_23_B rfl (by assumption)) ?_
      refine .m rfl rfl rfl (.move rfl) ?_
      refine .m rfl rfl rfl (.idxN sl_23_B (Intss.sl (by assumption)) rfl rfl (by omega)) ?_
      refine .m rfl rfl rfl (.loadR on_22_B (by assumption) rfl (by omega)) ?_
      refine .m rfl rfl rfl (.move rfl) ?_
      refine .m rfl rfl rfl (.idx1 sl_22_A (by assumption) rfl rfl (by omega) (by omega)) ?_
      refine .m rfl rfl rfl (.loadI on_2_A (by assumption) rfl (by omega)) ?_
      refine .m rfl rfl rfl (.move rfl) ?_
      refine .nil ?_
      refine hK14 _ _ ?_
      refine .block ?_
      refine .loopR (σ := Nat × Nat × Nat) [(0, some _), (1, some _), (2, some _), (3, some _), (10, some _), (11, some _), (18, some _), (19, some _), (31, some _), (32, some _), (44, some _)] (fun (d, gL9v3, nL9v3) => [(45, some (.int .i64 (d : Int))), (9, some (.slice (some ⟨gL9v3, 0, none⟩) nL9v3 nL9v3))]) (fun (d, gL9v3, nL9v3) H' => St [gL9v2] HL2 H' ∧ H'.get gL9v3 = some (.row (tcells (ctL m k x z y e d)) 98 true) ∧ (gL9v3 = gL9v2 ∨ HL2.next ≤ gL9v3) ∧ nL9v3 = (ctL m k x z y e d).length ∧ d ≤ ((k.sz.getD y []).getD z.toNat 0).toNat) (fun (d, gL9v3, nL9v3) => ((k.sz.getD y []).getD z.toNat 0).toNat - d) ((0, _, _)) ⟨rfl, rfl, rfl, rfl, rfl, rfl, rfl, rfl, rfl, rfl, rfl, trivial⟩ ⟨rfl, rfl, trivial⟩ ?_ ?_
      ·
       refine ⟨.refl _ _, by first | assumption | exact at_L9v2 | simpa using at_L9v2, .inl rfl, by first | rfl | assumption | simp | omega, ?_⟩
       omega
      ·
       rintro ⟨d, gL9v3, nL9v3⟩ HL3 ⟨lst3, at_L9v3, pl_L9v3, ln_L9v3, hI⟩ KL3 hKL3
       refine .forget (fr' := [(45, some (.int .i64 (d : Int))), (9, some (.slice (some ⟨gL9v3, 0, none⟩) nL9v3 nL9v3)), (0, some _), (1, some _), (2, some _), (3, some _), (10, some _), (11, some _), (18, some _), (19, some _), (31, some _), (32, some _), (44, some _)]) ⟨rfl, rfl, rfl, rfl, rfl, rfl, rfl, rfl, rfl, rfl, rfl, rfl, rfl, trivial⟩ ?_
       have ge_L9v3 : H.next ≤ gL9v3 := by omega
       have nx_HL3 := lst3.nx
       replace hle := hle.st lst3 (fun k hk => ⟨by omega, trivial⟩)
       replace lst1 := lst1.st lst3 (fun k hk ho => by simp only [out, and_true] at ho ⊢ <;> omega)
       replace lst2 := lst2.st lst3 (fun k hk ho => by simp only [out, and_true] at ho ⊢ <;> omega)
       have lt_at_L9v3 := GHeap.lt_of_get at_L9v3
       replace h := base_h.mono hle
       replace h' := base_h'.mono hle
       clear fs ft c10 c11 c12 i2 i3 i4 hm hi hms his hmt hit fsb ftb c10b c11b c12b i2b i3b i4b hmb hib hmsb hisb hmtb hitb d0 d1 d2 d3 d4 e1 e2 e3 e4
       obtain ⟨fs, ft, c10, c11, c12, i2, i3, i4⟩ := h.get
       have hm : MemN _ _ _ _ _ := ⟨rfl, h.1⟩
       have hi := h.2
       have hms : MemN _ _ _ _ _ := ⟨rfl, fs.1⟩
       have his := fs.2
       have hmt : MemN _ _ _ _ _ := ⟨rfl, ft.1⟩
       have hit := ft.2
       obtain ⟨fsb, ftb, c10b, c11b, c12b, i2b, i3b, i4b⟩ := h'.get
       have hmb : MemN _ _ _ _ _ := ⟨rfl, h'.1⟩
       have hib := h'.2
       have hmsb : MemN _ _ _ _ _ := ⟨rfl, fsb.1⟩
       have hisb := fsb.2
       have hmtb : MemN _ _ _ _ _ := ⟨rfl, ftb.1⟩
       have hitb := ftb.2
       obtain ⟨d0, d1, d2, d3, d4, e1, e2, e3, e4⟩ := ft.get
       clear u1 u2
       have u1 := i2.2 x.toNat (by omega)
       have u2 := i2b.2 y (by omega)
       have hln := hc.len (y := y) (e := e) (d := d) (by omega) (by omega) hI
       have htl : (tcells (ctL m k x z y e d)).length = (ctL m k x z y e d).length * 3 := tcells_len ctL_three'
       refine .seq (fun K15 hK15 => ?_)
       refine .region ?_
       refine .m rfl rfl rfl (.cmp rfl rfl rfl) ?_
       refine .nil ?_
       refine hK15 _ _ ?_
       refine .seq (fun K16 hK16 => ?_)
       refine .cond rfl (fun h46 => ?_) (fun h46 => ?_)
       ·
        simp only [sps] at h46
        refine .skip ?_
        refine hK16 _ _ ?_
        refine .seq (fun K17 hK17 => ?_)
        refine .block ?_
        refine .seq (fun K18 hK18 => ?_)
        refine .region ?_
        refine .m rfl rfl rfl (.move rfl) ?_
        refine .m rfl rfl rfl (.assign rfl) ?_
        refine .nil ?_
        refine hK18 _ _ ?_
        refine .region ?_
        refine .m rfl rfl rfl (.move rfl) ?_
        refine .m rfl rfl rfl (.move rfl) ?_
        refine .m rfl rfl rfl (.move rfl) ?_
        refine .m rfl rfl rfl (.move rfl) ?_
        refine .m rfl rfl rfl (.build bt_98_Ct rfl rfl rfl) ?_
        refine .r rfl rfl rfl (.litR rfl sl_93_Ct ze_98_Ct rfl rfl (by omega) (by omega) rfl rfl) ?_
        rintro _ H53 ⟨g53, rfl, le53, ge53, at53⟩
        have nx_H53 := le53.1
        replace hle := hle.trans le53
        replace lst1 := lst1.le le53
        replace lst2 := lst2.le le53
        replace lst3 := lst3.le le53
        replace at_L9v3 := le53.2 _ _ at_L9v3
        have lt_at53 := GHeap.lt_of_get at53
        replace h := base_h.mono hle
        replace h' := base_h'.mono hle
        clear fs ft c10 c11 c12 i2 i3 i4 hm hi hms his hmt hit fsb ftb c10b c11b c12b i2b i3b i4b hmb hib hmsb hisb hmtb hitb d0 d1 d2 d3 d4 e1 e2 e3 e4
        obtain ⟨fs, ft, c10, c11, c12, i2, i3, i4⟩ := h.get
        have hm : MemN _ _ _ _ _ := ⟨rfl, h.1⟩
        have hi := h.2
        have hms : MemN _ _ _ _ _ := ⟨rfl, fs.1⟩
        have his := fs.2
        have hmt : MemN _ _ _ _ _ := ⟨rfl, ft.1⟩
        have hit := ft.2
        obtain ⟨fsb, ftb, c10b, c11b, c12b, i2b, i3b, i4b⟩ := h'.get
        have hmb : MemN _ _ _ _ _ := ⟨rfl, h'.1⟩
        have hib := h'.2
        have hmsb : MemN _ _ _ _ _ := ⟨rfl, fsb.1⟩
        have hisb := fsb.2
        have hmtb : MemN _ _ _ _ _ := ⟨rfl, ftb.1⟩
        have hitb := ftb.2
        obtain ⟨d0, d1, d2, d3, d4, e1, e2, e3, e4⟩ := ft.get
        clear u1 u2
        have u1 := i2.2 x.toNat (by omega)
        have u2 := i2b.2 y (by omega)
        refine .r rfl rfl rfl (.appendV rfl sl_93_Ct ze_98_Ct rfl by_98_Ct sl_93_Ct rfl rfl (by assumption) (by assumption) (by first | omega | (simp <;> omega)) rfl rfl (by omega) (by omega)) ?_
        rintro _ H54 ⟨g54, rfl, st54, ge54, at54⟩
        have nx_H54 := st54.nx
        replace hle := hle.st st54 (fun k hk => ⟨by omega, trivial⟩)
        replace lst1 := lst1.st st54 (fun k hk ho => by simp only [out, and_true] at ho ⊢ <;> omega)
        replace lst2 := lst2.st st54 (fun k hk ho => by simp only [out, and_true] at ho ⊢ <;> omega)
        replace lst3 := lst3.st st54 (fun k hk ho => by simp only [out, and_true] at ho ⊢ <;> omega)
        replace at53 := st54.same _ _ ⟨by omega, trivial⟩ at53
        have lt_at54 := GHeap.lt_of_get at54
        replace h := base_h.mono hle
        replace h' := base_h'.mono hle
        clear fs ft c10 c11 c12 i2 i3 i4 hm hi hms his hmt hit fsb ftb c10b c11b c12b i2b i3b i4b hmb hib hmsb hisb hmtb hitb d0 d1 d2 d3 d4 e1 e2 e3 e4
        obtain ⟨fs, ft, c10, c11, c12, i2, i3, i4⟩ := h.get
        have hm : MemN _ _ _ _ _ := ⟨rfl, h.1⟩
        have hi := h.2
        have hms : MemN _ _ _ _ _ := ⟨rfl, fs.1⟩
        have his := fs.2
        have hmt : MemN _ _ _ _ _ := ⟨rfl, ft.1⟩
        have hit := ft.2
        obtain ⟨fsb, ftb, c10b, c11b, c12b, i2b, i3b, i4b⟩ := h'.get
        have hmb : MemN _ _ _ _ _ := ⟨rfl, h'.1⟩
        have hib := h'.2
        have hmsb : MemN _ _ _ _ _ := ⟨rfl, fsb.1⟩
        have hisb := fsb.2
        have hmtb : MemN _ _ _ _ _ := ⟨rfl, ftb.1⟩
        have hitb := ftb.2
        obtain ⟨d0, d1, d2, d3, d4, e1, e2, e3, e4⟩ := ft.get
        clear u1 u2
        have u1 := i2.2 x.toNat (by omega)
        have u2 := i2b.2 y (by omega)
        refine .m rfl rfl rfl (.assign rfl) ?_
        refine .nil ?_
        refine hK17 _ _ ?_
        refine .region ?_
        refine .m rfl rfl rfl (.add rfl rfl rfl (by omega) (by omega)) ?_
        refine .m rfl rfl rfl (.move rfl) ?_
        refine .nil ?_
        refine hKL3 ((d + 1, _, _)) _ _ ?_ ?_ ⟨rfl, rfl, rfl, rfl, rfl, rfl, rfl, rfl, rfl, rfl, rfl, rfl, rfl, trivial⟩
        ·
         refine ⟨lst3, by first | assumption | (rw [ctT_snoc]; assumption) | (rw [ctL_snoc]; assumption), by omega, by first | omega | (simp only [List.length_append, List.length_cons, List.length_nil] <;> omega) | (rw [ctT_snoc] <;> (first | omega | (simp only [List.length_append, List.length_cons, List.length_nil] <;> omega))) | (rw [ctL_snoc] <;> (first | omega | (simp only [List.length_append, List.length_cons, List.length_nil] <;> omega))), ?_⟩
         omega
        ·
         (dsimp only; omega)
       ·
        try simp only [sps] at h46
        refine .exit ?_
        refine hK12 _ _ ?_
        refine .region ?_
        refine .m rfl rfl rfl (.add rfl rfl rfl (by omega) (by omega)) ?_
        refine .m rfl rfl rfl (.move rfl) ?_
        refine .nil ?_
        obtain rfl : d = ((k.sz.getD y []).getD z.toNat 0).toNat := by omega
        refine hKL2 ((e + 1, _, _)) _ _ ?_ ?_ ⟨rfl, rfl, rfl, rfl, rfl, rfl, rfl, rfl, rfl, rfl, trivial⟩
        ·
         refine ⟨lst2, by first | assumption | (rw [ctL_next2]; assumption), by omega, by first | omega | (simp only [List.length_append, List.length_cons, List.length_nil] <;> omega) | (rw [ctL_next2] <;> (first | omega | (simp only [List.length_append, List.length_cons, List.length_nil] <;> omega))), ?_⟩
         omega
        ·
         (dsimp only; omega)
     ·
      try simp only [sps] at h33
      refine .exit ?_
      refine hK7 _ _ ?_
      refine .region ?_
      refine .m rfl rfl rfl (.add rfl rfl rfl (by omega) (by omega)) ?_
      refine .m rfl rfl rfl (.move rfl) ?_
      refine .nil ?_
      obtain rfl : e = ((m.sz.getD x.toNat []).getD y 0).toNat := by omega
      refine hKL1 ((y + 1, _, _)) _ _ ?_ ?_ ⟨rfl, rfl, rfl, rfl, rfl, rfl, rfl, trivial⟩
      ·
       refine ⟨lst1, by first | assumption | (rw [ctL_next1]; assumption), by omega, by first | omega | (simp only [List.length_append, List.length_cons, List.length_nil] <;> omega) | (rw [ctL_next1] <;> (first | omega | (simp only [List.length_append, List.length_cons, List.length_nil] <;> omega))), ?_⟩
       omega
      ·
       (dsimp only; omega)
   ·
    try simp only [sps] at h20
    refine .exit ?_
    refine hK3 _ _ ?_
    refine .seq (fun K19 hK19 => ?_)
    refine .region ?_
    refine .m rfl rfl rfl (.move rfl) ?_
    refine .m rfl rfl rfl (.assign rfl) ?_
    refine .nil ?_
    refine hK19 _ _ ?_
    refine .ret ?_
    -- leaf e1
    refine hret _ _ ?_
    refine ⟨_, rfl, ?_⟩
    obtain rfl : y = m.t.obj.toNat := by omega
    exact ⟨hle, _, by rw [ln_L9], by omega, ctL_three', _, at_L9⟩
theorem triplesCode0_c {g o g' o' : Nat} {m k : Prof} {p q : ProfP} {x z : Int} {H : GHeap} (h : Prof.At H g o m p := by assumption) (h' : Prof.At H g' o' k q := by assumption) (hs : m.Small := by assumption) (hs1 : k.Small := by assumption) (hz : ctCode m k x z = 0 := by assumption) :
    GCalls Try.prog 56 [.pointer (some ⟨g, o, none⟩), .pointer (some ⟨g', o', none⟩), .int .i64 x, .int .i64 z] H (fun v H' => H.Le H' ∧ ∃ g, v = .tuple #[.slice (some ⟨g, 0, none⟩) (ctL m k x z m.t.obj.toNat 0 0).length (ctL m k x z m.t.obj.toNat 0 0).length, .int .i64 0] ∧ TrAt H.next H' g (ctL m k x z m.t.obj.toNat 0 0)) := by
  obtain ⟨z1, z2, z3, z4, z5, z6, z7⟩ := ctCode_0 hz
  obtain ⟨z8, z9⟩ := CtOk.of z1 z2 z3 z4 z5 z6 z7
  have w1 := hs.2.1
  have w2 := hs1.1
  have hob1 := z1.1.s.1.obj
  have hob2 := z2.1.t.1.obj
  refine GCalls.body (N := 51) (rs := [.tmp 8, .tmp 9]) Try.func56 rfl rfl rfl rfl (fun Qx hret hend => ?_)
  refine .forget (fr' := [(0, some _), (1, some _), (2, some _), (3, some _)]) ⟨rfl, rfl, rfl, rfl, trivial⟩ ?_
  have hle := GHeap.Le.refl H
  have base_h := h
  have base_h' := h'
  obtain ⟨fs, ft, c10, c11, c12, i2, i3, i4⟩ := h.get
  have hm : MemN _ _ _ _ _ := ⟨rfl, h.1⟩
  have hi := h.2
  have hms : MemN _ _ _ _ _ := ⟨rfl, fs.1⟩
  have his := fs.2
  have hmt : MemN _ _ _ _ _ := ⟨rfl, ft.1⟩
  have hit := ft.2
  obtain ⟨fsb, ftb, c10b, c11b, c12b, i2b, i3b, i4b⟩ := h'.get
  have hmb : MemN _ _ _ _ _ := ⟨rfl, h'.1⟩
  have hib := h'.2
  have hmsb : MemN _ _ _ _ _ := ⟨rfl, fsb.1⟩
  have hisb := fsb.2
  have hmtb : MemN _ _ _ _ _ := ⟨rfl, ftb.1⟩
  have hitb := ftb.2
  obtain ⟨d0, d1, d2, d3, d4, e1, e2, e3, e4⟩ := fs.get
  obtain ⟨f0, f1, f2, f3, f4, u1, u2, u3, u4⟩ := ftb.get
  refine .seq (fun K1 hK1 => ?_)
  refine .region ?_
  refine .m rfl rfl rfl (.assign rfl) ?_
  refine .m rfl rfl rfl (.assign rfl) ?_
  refine .nil ?_
  refine hK1 _ _ ?_
  refine .seq (fun K2 hK2 => ?_)
  refine .seq (fun K3 hK3 => ?_)
  refine .region ?_
  refine .m rfl rfl rfl (.move rfl) ?_
  refine .callQ rfl rfl rfl rfl @Try.call79 rfl (isProfunctor_c) ?_
  refine .m rfl rfl rfl (.not rfl) ?_
  refine .m rfl rfl rfl (.move rfl) ?_
  refine .split (fun h13 => ?_) (fun h13 => ?_)
  ·
   exact absurd z1 (by simpa only [sps] using h13)
  ·
   try simp only [sps] at h13
   refine .mg rfl rfl rfl rfl rfl (.move rfl) ?_
   refine .callQg rfl rfl rfl rfl rfl rfl @Try.call79 rfl (isProfunctor_c) ?_
   refine .mg rfl rfl rfl rfl rfl (.not rfl) ?_
   refine .m rfl rfl rfl (.pickF rfl rfl) ?_
   refine .nil ?_
   refine hK3 _ _ ?_
   refine .cond rfl (fun h17 => ?_) (fun h17 => ?_)
   ·
    exact absurd z2 (by simpa only [sps] using h17)
   ·
    try simp only [sps] at h17
    refine .skip ?_
    refine hK2 _ _ ?_
    refine .seq (fun K4 hK4 => ?_)
    refine .seq (fun K5 hK5 => ?_)
    refine .region ?_
    refine .m rfl rfl rfl (.move rfl) ?_
    refine .m rfl rfl rfl (.move rfl) ?_
    refine .m rfl rfl rfl (.nilCheck rfl) ?_
    refine .m rfl rfl rfl (.fieldAddr fo_54_0_VProf rfl) ?_
    refine .m rfl rfl rfl (.fieldAddr fo_34_0_B rfl) ?_
    refine .m rfl rfl rfl (.load on_2_A rfl (by assumption)) ?_
    refine .m rfl rfl rfl (.sub rfl rfl rfl (by omega) (by omega)) ?_
    refine .callQ rfl rfl rfl rfl @Try.call80 rfl (inRange_c) ?_
    refine .m rfl rfl rfl (.not rfl) ?_
    refine .m rfl rfl rfl (.move rfl) ?_
    refine .split (fun h27 => ?_) (fun h27 => ?_)
    ·
     simp only [sps] at h27; omega
    ·
     try simp only [sps] at h27
     refine .mg rfl rfl rfl rfl rfl (.move rfl) ?_
     refine .mg rfl rfl rfl rfl rfl (.move rfl) ?_
     refine .mg rfl rfl rfl rfl rfl (.nilCheck rfl) ?_
     refine .mg rfl rfl rfl rfl rfl (.fieldAddr fo_54_1_VProf rfl) ?_
     refine .mg rfl rfl rfl rfl rfl (.fieldAddr fo_34_0_B rfl) ?_
     refine .mg rfl rfl rfl rfl rfl (.load on_2_A rfl (by assumption)) ?_
     refine .mg rfl rfl rfl rfl rfl (.sub rfl rfl rfl (by omega) (by omega)) ?_
     refine .callQg rfl rfl rfl rfl rfl rfl @Try.call80 rfl (inRange_c) ?_
     refine .mg rfl rfl rfl rfl rfl (.not rfl) ?_
     refine .m rfl rfl rfl (.pickF rfl rfl) ?_
     refine .nil ?_
     refine hK5 _ _ ?_
     refine .cond rfl (fun h37 => ?_) (fun h37 => ?_)
     ·
      simp only [sps] at h37; omega
     ·
      try simp only [sps] at h37
      refine .skip ?_
      refine hK4 _ _ ?_
      refine .seq (fun K6 hK6 => ?_)
      refine .seq (fun K7 hK7 => ?_)
      refine .regionD mixed_orders_B (.q 0 (.q 1 (.q 2 (.q 3 (.q 4 (.q 5 (.c 6 0 (.q 7 (.done))))))))) (by kernel_rfl) ?_
      refine .m rfl rfl rfl rfl (.refl _) (.move rfl) ?_
      refine .m rfl rfl rfl rfl (.refl _) (.nilCheck rfl) ?_
      refine .m rfl rfl rfl rfl (.refl _) (.fieldAddr fo_54_1_VProf rfl) ?_
      refine .m rfl rfl rfl rfl (.refl _) (.move rfl) ?_
      refine .m rfl rfl rfl rfl (.refl _) (.nilCheck rfl) ?_
      refine .m rfl rfl rfl rfl (.refl _) (.fieldAddr fo_54_0_VProf rfl) ?_
      refine .callQ0 rfl rfl rfl rfl rfl @Try.call81 rfl (sameCategory_c) ?_
      refine .m rfl rfl rfl rfl (.refl _) (.not rfl) ?_
      refine .done ?_
      refine hK7 _ _ ?_
      refine .cond rfl (fun h45 => ?_) (fun h45 => ?_)
      ·
       exact absurd z7 (by simpa only [sps] using h45)
      ·
       try simp only [sps] at h45
       refine .skip ?_
       refine hK6 _ _ ?_
       refine .seq (fun K8 hK8 => ?_)
       refine .region ?_
       refine .m rfl rfl rfl (.move rfl) ?_
       refine .m rfl rfl rfl (.move rfl) ?_
       refine .m rfl rfl rfl (.move rfl) ?_
       refine .m rfl rfl rfl (.move rfl) ?_
       refine .call rfl rfl rfl rfl @Try.call82 rfl (triplesAt_c (hc := z8) (ho := z9)) ?_
       rintro _ H50 ⟨le50, g50, rfl, v50⟩
       have nx_H50 := le50.1
       replace hle := hle.trans le50
       have bs_v50 := v50
       have lv_v50 : Keep H.next H50 H50 := fun _ _ _ h => h
       replace h := base_h.mono hle
       replace h' := base_h'.mono hle
       clear fs ft c10 c11 c12 i2 i3 i4 hm hi hms his hmt hit fsb ftb c10b c11b c12b i2b i3b i4b hmb hib hmsb hisb hmtb hitb d0 d1 d2 d3 d4 e1 e2 e3 e4 f0 f1 f2 f3 f4 u1 u2 u3 u4
       obtain ⟨fs, ft, c10, c11, c12, i2, i3, i4⟩ := h.get
       have hm : MemN _ _ _ _ _ := ⟨rfl, h.1⟩
       have hi := h.2
       have hms : MemN _ _ _ _ _ := ⟨rfl, fs.1⟩
       have his := fs.2
       have hmt : MemN _ _ _ _ _ := ⟨rfl, ft.1⟩
       have hit := ft.2
       obtain ⟨fsb, ftb, c10b, c11b, c12b, i2b, i3b, i4b⟩ := h'.get
       have hmb : MemN _ _ _ _ _ := ⟨rfl, h'.1⟩
       have hib := h'.2
       have hmsb : MemN _ _ _ _ _ := ⟨rfl, fsb.1⟩
       have hisb := fsb.2
       have hmtb : MemN _ _ _ _ _ := ⟨rfl, ftb.1⟩
       have hitb := ftb.2
       obtain ⟨d0, d1, d2, d3, d4, e1, e2, e3, e4⟩ := fs.get
       obtain ⟨f0, f1, f2, f3, f4, u1, u2, u3, u4⟩ := ftb.get
       refine .m rfl rfl rfl (.assign rfl) ?_
       refine .m rfl rfl rfl (.assign rfl) ?_
       refine .nil ?_
       refine hK8 _ _ ?_
       refine .ret ?_
       -- leaf e1
       refine hret _ _ ?_
       refine ⟨_, _, rfl, rfl, ?_⟩
       exact ⟨hle, _, rfl, v50.keep (.of_le (.refl _)) (by omega)⟩
theorem triplesCode1_c {g o g' o' : Nat} {m k : Prof} {p q : ProfP} {x z : Int} {H : GHeap} (h : Prof.At H g o m p := by assumption) (h' : Prof.At H g' o' k q := by assumption) (hs : m.Small := by assumption) (hs1 : k.Small := by assumption) (hz : ¬ ctCode m k x z = 0 := by assumption) :
    GCalls Try.prog 56 [.pointer (some ⟨g, o, none⟩), .pointer (some ⟨g', o', none⟩), .int .i64 x, .int .i64 z] H (Ret (.tuple #[.slice none 0 0, .int .i64 (ctCode m k x z)]) H) := by
  refine GCalls.ret rfl ?_
  have w1 := hs.2.1
  have w2 := hs1.1
  refine GCalls.body (N := 51) (rs := [.tmp 8, .tmp 9]) Try.func56 rfl rfl rfl rfl (fun Qx hret hend => ?_)
  refine .forget (fr' := [(0, some _), (1, some _), (2, some _), (3, some _)]) ⟨rfl, rfl, rfl, rfl, trivial⟩ ?_
  have hle := GHeap.Le.refl H
  have base_h := h
  have base_h' := h'
  obtain ⟨fs, ft, c10, c11, c12, i2, i3, i4⟩ := h.get
  have hm : MemN _ _ _ _ _ := ⟨rfl, h.1⟩
  have hi := h.2
  have hms : MemN _ _ _ _ _ := ⟨rfl, fs.1⟩
  have his := fs.2
  have hmt : MemN _ _ _ _ _ := ⟨rfl, ft.1⟩
  have hit := ft.2
  obtain ⟨fsb, ftb, c10b, c11b, c12b, i2b, i3b, i4b⟩ := h'.get
  have hmb : MemN _ _ _ _ _ := ⟨rfl, h'.1⟩
  have hib := h'.2
  have hmsb : MemN _ _ _ _ _ := ⟨rfl, fsb.1⟩
  have hisb := fsb.2
  have hmtb : MemN _ _ _ _ _ := ⟨rfl, ftb.1⟩
  have hitb := ftb.2
  obtain ⟨d0, d1, d2, d3, d4, e1, e2, e3, e4⟩ := fs.get
  obtain ⟨f0, f1, f2, f3, f4, u1, u2, u3, u4⟩ := ftb.get
  refine .seq (fun K1 hK1 => ?_)
  refine .region ?_
  refine .m rfl rfl rfl (.assign rfl) ?_
  refine .m rfl rfl rfl (.assign rfl) ?_
  refine .nil ?_
  refine hK1 _ _ ?_
  refine .seq (fun K2 hK2 => ?_)
  refine .seq (fun K3 hK3 => ?_)
  refine .region ?_
  refine .m rfl rfl rfl (.move rfl) ?_
  refine .callQ rfl rfl rfl rfl @Try.call79 rfl (isProfunctor_c) ?_
  refine .m rfl rfl rfl (.not rfl) ?_
  refine .m rfl rfl rfl (.move rfl) ?_
  refine .split (fun h13 => ?_) (fun h13 => ?_)
  ·
   simp only [sps] at h13
   refine .sg rfl rfl rfl rfl rfl ?_
   refine .sg rfl rfl rfl rfl rfl ?_
   refine .sg rfl rfl rfl rfl rfl ?_
   refine .m rfl rfl rfl (.pickT rfl rfl) ?_
   refine .nil ?_
   refine hK3 _ _ ?_
   refine .condT rfl ?_
   refine .seq (fun K4 hK4 => ?_)
   refine .region ?_
   refine .m rfl rfl rfl (.assign rfl) ?_
   refine .m rfl rfl rfl (.assign rfl) ?_
   refine .nil ?_
   refine hK4 _ _ ?_
   refine .ret ?_
   -- leaf e1
   refine hret _ _ ?_
   refine ⟨_, _, rfl, rfl, ?_⟩
   first
   | exact ⟨by rw [ctCode_1 fun hh => absurd hh.1 (by assumption)], hle⟩
   | exact ⟨by rw [ctCode_1 fun hh => absurd hh.2 (by assumption)], hle⟩
   | exact ⟨by rw [ctCode_2 ⟨by assumption, by assumption⟩ (by omega)], hle⟩
   | exact ⟨by rw [ctCode_3 ⟨by assumption, by assumption⟩ ⟨by omega, by omega⟩ (by assumption)], hle⟩
  ·
   simp only [sps] at h13
   refine .mg rfl rfl rfl rfl rfl (.move rfl) ?_
   refine .callQg rfl rfl rfl rfl rfl rfl @Try.call79 rfl (isProfunctor_c) ?_
   refine .mg rfl rfl rfl rfl rfl (.not rfl) ?_
   refine .m rfl rfl rfl (.pickF rfl rfl) ?_
   refine .nil ?_
   refine hK3 _ _ ?_
   refine .cond rfl (fun h17 => ?_) (fun h17 => ?_)
   ·
    simp only [sps] at h17
    refine .seq (fun K5 hK5 => ?_)
    refine .region ?_
    refine .m rfl rfl rfl (.assign rfl) ?_
    refine .m rfl rfl rfl (.assign rfl) ?_
    refine .nil ?_
    refine hK5 _ _ ?_
    refine .ret ?_
    -- leaf e2
    refine hret _ _ ?_
    refine ⟨_, _, rfl, rfl, ?_⟩
    first
    | exact ⟨by rw [ctCode_1 fun hh => absurd hh.1 (by assumption)], hle⟩
    | exact ⟨by rw [ctCode_1 fun hh => absurd hh.2 (by assumption)], hle⟩
    | exact ⟨by rw [ctCode_2 ⟨by assumption, by assumption⟩ (by omega)], hle⟩
    | exact ⟨by rw [ctCode_3 ⟨by assumption, by assumption⟩ ⟨by omega, by omega⟩ (by assumption)], hle⟩
   ·
    simp only [sps] at h17
    refine .skip ?_
    refine hK2 _ _ ?_
    refine .seq (fun K6 hK6 => ?_)
    refine .seq (fun K7 hK7 => ?_)
    refine .region ?_
    have hob1 := h13.1.s.1.obj
    have hob2 := h17.1.t.1.obj
    refine .m rfl rfl rfl (.move rfl) ?_
    refine .m rfl rfl rfl (.move rfl) ?_
    refine .m rfl rfl rfl (.nilCheck rfl) ?_
    refine .m rfl rfl rfl (.fieldAddr fo_54_0_VProf rfl) ?_
    refine .m rfl rfl rfl (.fieldAddr fo_34_0_B rfl) ?_
    refine .m rfl rfl rfl (.load on_2_A rfl (by assumption)) ?_
    refine .m rfl rfl rfl (.sub rfl rfl rfl (by omega) (by omega)) ?_
    refine .callQ rfl rfl rfl rfl @Try.call80 rfl (inRange_c) ?_
    refine .m rfl rfl rfl (.not rfl) ?_
    refine .m rfl rfl rfl (.move rfl) ?_
    refine .split (fun h27 => ?_) (fun h27 => ?_)
    ·
     simp only [sps] at h27
     refine .sg rfl rfl rfl rfl rfl ?_
     refine .sg rfl rfl rfl rfl rfl ?_
     refine .sg rfl rfl rfl rfl rfl ?_
     refine .sg rfl rfl rfl rfl rfl ?_
     refine .sg rfl rfl rfl rfl rfl ?_
     refine .sg rfl rfl rfl rfl rfl ?_
     refine .sg rfl rfl rfl rfl rfl ?_
     refine .sg rfl rfl rfl rfl rfl ?_
     refine .sg rfl rfl rfl rfl rfl ?_
     refine .m rfl rfl rfl (.pickT rfl rfl) ?_
     refine .nil ?_
     refine hK7 _ _ ?_
     refine .condT rfl ?_
     refine .seq (fun K8 hK8 => ?_)
     refine .region ?_
     refine .m rfl rfl rfl (.assign rfl) ?_
     refine .m rfl rfl rfl (.assign rfl) ?_
     refine .nil ?_
     refine hK8 _ _ ?_
     refine .ret ?_
     -- leaf e3
     refine hret _ _ ?_
     refine ⟨_, _, rfl, rfl, ?_⟩
     first
     | exact ⟨by rw [ctCode_1 fun hh => absurd hh.1 (by assumption)], hle⟩
     | exact ⟨by rw [ctCode_1 fun hh => absurd hh.2 (by assumption)], hle⟩
     | exact ⟨by rw [ctCode_2 ⟨by assumption, by assumption⟩ (by omega)], hle⟩
     | exact ⟨by rw [ctCode_3 ⟨by assumption, by assumption⟩ ⟨by omega, by omega⟩ (by assumption)], hle⟩
    ·
     simp only [sps] at h27
     refine .mg rfl rfl rfl rfl rfl (.move rfl) ?_
     refine .mg rfl rfl rfl rfl rfl (.move rfl) ?_
     refine .mg rfl rfl rfl rfl rfl (.nilCheck rfl) ?_
     refine .mg rfl rfl rfl rfl rfl (.fieldAddr fo_54_1_VProf rfl) ?_
     refine .mg rfl rfl rfl rfl rfl (.fieldAddr fo_34_0_B rfl) ?_
     refine .mg rfl rfl rfl rfl rfl (.load on_2_A rfl (by assumption)) ?_
     refine .mg rfl rfl rfl rfl rfl (.sub rfl rfl rfl (by omega) (by omega)) ?_
     refine .callQg rfl rfl rfl rfl rfl rfl @Try.call80 rfl (inRange_c) ?_
     refine .mg rfl rfl rfl rfl rfl (.not rfl) ?_
     refine .m rfl rfl rfl (.pickF rfl rfl) ?_
     refine .nil ?_
     refine hK7 _ _ ?_
     refine .cond rfl (fun h37 => ?_) (fun h37 => ?_)
     ·
      simp only [sps] at h37
      refine .seq (fun K9 hK9 => ?_)
      refine .region ?_
      refine .m rfl rfl rfl (.assign rfl) ?_
      refine .m rfl rfl rfl (.assign rfl) ?_
      refine .nil ?_
      refine hK9 _ _ ?_
      refine .ret ?_
      -- leaf e4
      refine hret _ _ ?_
      refine ⟨_, _, rfl, rfl, ?_⟩
      first
      | exact ⟨by rw [ctCode_1 fun hh => absurd hh.1 (by assumption)], hle⟩
      | exact ⟨by rw [ctCode_1 fun hh => absurd hh.2 (by assumption)], hle⟩
      | exact ⟨by rw [ctCode_2 ⟨by assumption, by assumption⟩ (by omega)], hle⟩
      | exact ⟨by rw [ctCode_3 ⟨by assumption, by assumption⟩ ⟨by omega, by omega⟩ (by assumption)], hle⟩
     ·
      simp only [sps] at h37
      refine .skip ?_
      refine hK6 _ _ ?_
      refine .seq (fun K10 hK10 => ?_)
      refine .seq (fun K11 hK11 => ?_)
      refine .regionD mixed_orders_B (.q 0 (.q 1 (.q 2 (.q 3 (.q 4 (.q 5 (.c 6 0 (.q 7 (.done))))))))) (by kernel_rfl) ?_
      refine .m rfl rfl rfl rfl (.refl _) (.move rfl) ?_
      refine .m rfl rfl rfl rfl (.refl _) (.nilCheck rfl) ?_
      refine .m rfl rfl rfl rfl (.refl _) (.fieldAddr fo_54_1_VProf rfl) ?_
      refine .m rfl rfl rfl rfl (.refl _) (.move rfl) ?_
      refine .m rfl rfl rfl rfl (.refl _) (.nilCheck rfl) ?_
      refine .m rfl rfl rfl rfl (.refl _) (.fieldAddr fo_54_0_VProf rfl) ?_
      refine .callQ0 rfl rfl rfl rfl rfl @Try.call81 rfl (sameCategory_c) ?_
      refine .m rfl rfl rfl rfl (.refl _) (.not rfl) ?_
      refine .done ?_
      refine hK11 _ _ ?_
      refine .cond rfl (fun h45 => ?_) (fun h45 => ?_)
      ·
       simp only [sps] at h45
       refine .seq (fun K12 hK12 => ?_)
       refine .region ?_
       refine .m rfl rfl rfl (.assign rfl) ?_
       refine .m rfl rfl rfl (.assign rfl) ?_
       refine .nil ?_
       refine hK12 _ _ ?_
       refine .ret ?_
       -- leaf e5
       refine hret _ _ ?_
       refine ⟨_, _, rfl, rfl, ?_⟩
       first
       | exact ⟨by rw [ctCode_1 fun hh => absurd hh.1 (by assumption)], hle⟩
       | exact ⟨by rw [ctCode_1 fun hh => absurd hh.2 (by assumption)], hle⟩
       | exact ⟨by rw [ctCode_2 ⟨by assumption, by assumption⟩ (by omega)], hle⟩
       | exact ⟨by rw [ctCode_3 ⟨by assumption, by assumption⟩ ⟨by omega, by omega⟩ (by assumption)], hle⟩
      ·
       simp only [sps] at h45; exact absurd (ctCode_4 ⟨by assumption, by assumption⟩ ⟨by omega, by omega⟩ (by assumption)) hz
theorem specCompositeTriples_c {m k : Prof} {p q : ProfP} {x z : Int} {H : GHeap} (hin : m.In H p := by assumption) (hin1 : k.In H q := by assumption) (hs : m.Small := by assumption) (hs1 : k.Small := by assumption) :
    GCalls Try.prog 21 [.agg (m.cells p).toArray, .agg (k.cells q).toArray, .int .i64 x, .int .i64 z] H (fun v H' => H.Le H' ∧ ∃ a r, v = .tuple #[.slice a (ctR m k x z).length (ctR m k x z).length, .int .i64 (ctCode m k x z)] ∧ IntssR H.next H' a (ctR m k x z) r) := by
  refine GCalls.body (N := 24) (rs := [.tmp 8, .tmp 9]) Try.func21 rfl rfl rfl rfl (fun Qx hret hend => ?_)
  refine .forget (fr' := [(0, some _), (1, some _), (2, some _), (3, some _)]) ⟨rfl, rfl, rfl, rfl, trivial⟩ ?_
  have hle := GHeap.Le.refl H
  have base_hin := hin
  have base_hin1 := hin1
  refine .seq (fun K1 hK1 => ?_)
  refine .region ?_
  refine .r rfl rfl rfl (.boxR rfl sz_54_VProf rfl) ?_
  rintro _ H4 ⟨g4, rfl, le4, ge4, at4⟩
  have nx_H4 := le4.1
  replace hle := hle.trans le4
  have lt_at4 := GHeap.lt_of_get at4
  replace hin := base_hin.mono hle
  replace hin1 := base_hin1.mono hle
  have hb4 : Prof.At _ g4 0 m p := ⟨Mem.of_get at4, hin⟩
  obtain ⟨fs4, ft4, c104, c114, c124, i24, i34, i44⟩ := hb4.get
  have hm4 : MemN _ _ _ _ _ := ⟨rfl, hb4.1⟩
  have hi4 := hb4.2
  have hms4 : MemN _ _ _ _ _ := ⟨rfl, fs4.1⟩
  have his4 := fs4.2
  have hmt4 : MemN _ _ _ _ _ := ⟨rfl, ft4.1⟩
  have hit4 := ft4.2
  refine .r rfl rfl rfl (.boxR rfl sz_54_VProf rfl) ?_
  rintro _ H5 ⟨g5, rfl, le5, ge5, at5⟩
  have nx_H5 := le5.1
  replace hle := hle.trans le5
  replace at4 := le5.2 _ _ at4
  have lt_at5 := GHeap.lt_of_get at5
  replace hin := base_hin.mono hle
  replace hin1 := base_hin1.mono hle
  clear hb4 fs4 ft4 c104 c114 c124 i24 i34 i44 hm4 hi4 hms4 his4 hmt4 hit4
  have hb4 : Prof.At _ g4 0 m p := ⟨Mem.of_get at4, hin⟩
  obtain ⟨fs4, ft4, c104, c114, c124, i24, i34, i44⟩ := hb4.get
  have hm4 : MemN _ _ _ _ _ := ⟨rfl, hb4.1⟩
  have hi4 := hb4.2
  have hms4 : MemN _ _ _ _ _ := ⟨rfl, fs4.1⟩
  have his4 := fs4.2
  have hmt4 : MemN _ _ _ _ _ := ⟨rfl, ft4.1⟩
  have hit4 := ft4.2
  have hb5 : Prof.At _ g5 0 k q := ⟨Mem.of_get at5, hin1⟩
  obtain ⟨fs5, ft5, c105, c115, c125, i25, i35, i45⟩ := hb5.get
  have hm5 : MemN _ _ _ _ _ := ⟨rfl, hb5.1⟩
  have hi5 := hb5.2
  have hms5 : MemN _ _ _ _ _ := ⟨rfl, fs5.1⟩
  have his5 := fs5.2
  have hmt5 : MemN _ _ _ _ _ := ⟨rfl, ft5.1⟩
  have hit5 := ft5.2
  refine .m rfl rfl rfl (.assign rfl) ?_
  refine .m rfl rfl rfl (.assign rfl) ?_
  refine .nil ?_
  refine hK1 _ _ ?_
  refine .seq (fun K2 hK2 => ?_)
  refine .seq (fun K3 hK3 => ?_)
  refine .region ?_
  refine .m rfl rfl rfl (.loadM ag_54_VProf rfl ⟨rfl, Mem.of_get at4⟩) ?_
  refine .m rfl rfl rfl (.loadM ag_54_VProf rfl ⟨rfl, Mem.of_get at5⟩) ?_
  refine .m rfl rfl rfl (.move rfl) ?_
  refine .m rfl rfl rfl (.move rfl) ?_
  refine .callQ rfl rfl rfl rfl @Try.call52 rfl (l32Place_c) ?_
  refine .m rfl rfl rfl (.assign rfl) ?_
  refine .nil ?_
  refine hK3 _ _ ?_
  refine .seq (fun K4 hK4 => ?_)
  refine .region ?_
  refine .m rfl rfl rfl (.move rfl) ?_
  refine .m rfl rfl rfl (.cmp rfl rfl rfl) ?_
  refine .nil ?_
  refine hK4 _ _ ?_
  refine .cond rfl (fun h17 => ?_) (fun h17 => ?_)
  ·
   simp only [sps] at h17
   refine .seq (fun K5 hK5 => ?_)
   refine .region ?_
   refine .m rfl rfl rfl (.move rfl) ?_
   refine .m rfl rfl rfl (.assign rfl) ?_
   refine .m rfl rfl rfl (.assign rfl) ?_
   refine .nil ?_
   refine hK5 _ _ ?_
   refine .ret ?_
   -- leaf e1
   refine hret _ _ ?_
   refine ⟨_, _, rfl, rfl, ?_⟩
   rw [ctR_not h17]
   exact ⟨hle, none, fun _ => none, rfl, .nil _ _ _⟩
  ·
   simp only [sps] at h17
   refine .skip ?_
   refine hK2 _ _ ?_
   refine .seq (fun K6 hK6 => ?_)
   refine .region ?_
   obtain ⟨z1, z2, z3, z4, z5, z6, z7⟩ := ctCode_0 h17
   obtain ⟨z8, z9⟩ := CtOk.of z1 z2 z3 z4 z5 z6 z7
   refine .m rfl rfl rfl (.loadM ag_54_VProf rfl ⟨rfl, Mem.of_get at4⟩) ?_
   refine .m rfl rfl rfl (.loadM ag_54_VProf rfl ⟨rfl, Mem.of_get at5⟩) ?_
   refine .m rfl rfl rfl (.move rfl) ?_
   refine .m rfl rfl rfl (.move rfl) ?_
   refine .call rfl rfl rfl rfl @Try.call53 rfl (l32Triples_c (hc := z8) (ho := z9)) ?_
   rintro _ H23 ⟨le23, a23, r23, rfl, v23⟩
   have nx_H23 := le23.1
   replace hle := hle.trans le23
   replace at4 := le23.2 _ _ at4
   replace at5 := le23.2 _ _ at5
   have bs_v23 := v23
   have lv_v23 : Keep H5.next H23 H23 := fun _ _ _ h => h
   replace hin := base_hin.mono hle
   replace hin1 := base_hin1.mono hle
   clear hb4 fs4 ft4 c104 c114 c124 i24 i34 i44 hm4 hi4 hms4 his4 hmt4 hit4
   have hb4 : Prof.At _ g4 0 m p := ⟨Mem.of_get at4, hin⟩
   obtain ⟨fs4, ft4, c104, c114, c124, i24, i34, i44⟩ := hb4.get
   have hm4 : MemN _ _ _ _ _ := ⟨rfl, hb4.1⟩
   have hi4 := hb4.2
   have hms4 : MemN _ _ _ _ _ := ⟨rfl, fs4.1⟩
   have his4 := fs4.2
   have hmt4 : MemN _ _ _ _ _ := ⟨rfl, ft4.1⟩
   have hit4 := ft4.2
   clear hb5 fs5 ft5 c105 c115 c125 i25 i35 i45 hm5 hi5 hms5 his5 hmt5 hit5
   have hb5 : Prof.At _ g5 0 k q := ⟨Mem.of_get at5, hin1⟩
   obtain ⟨fs5, ft5, c105, c115, c125, i25, i35, i45⟩ := hb5.get
   have hm5 : MemN _ _ _ _ _ := ⟨rfl, hb5.1⟩
   have hi5 := hb5.2
   have hms5 : MemN _ _ _ _ _ := ⟨rfl, fs5.1⟩
   have his5 := fs5.2
   have hmt5 : MemN _ _ _ _ _ := ⟨rfl, ft5.1⟩
   have hit5 := ft5.2
   have i23 := v23.intss
   refine .m rfl rfl rfl (.assign rfl) ?_
   refine .m rfl rfl rfl (.assign rfl) ?_
   refine .nil ?_
   refine hK6 _ _ ?_
   refine .ret ?_
   -- leaf e2
   refine hret _ _ ?_
   refine ⟨_, _, rfl, rfl, ?_⟩
   rw [ctR_ok h17, h17]
   exact ⟨hle, a23, r23, rfl, v23.keep (.of_le (.refl _)) (by omega)⟩
theorem implCt0_c {m k : Prof} {p q : ProfP} {x z : Int} {H : GHeap} (hin : m.In H p := by assumption) (hin1 : k.In H q := by assumption) (hs : m.Small := by assumption) (hs1 : k.Small := by assumption) (hz : ctCode m k x z = 0) :
    GCalls Try.prog 23 [.agg (m.cells p).toArray, .agg (k.cells q).toArray, .int .i64 x, .int .i64 z] H (fun v H' => H.Le H' ∧ ∃ a r, v = .tuple #[.slice a (ctL m k x z m.t.obj.toNat 0 0).length (ctL m k x z m.t.obj.toNat 0 0).length, .int .i64 0] ∧ IntssR H.next H' a (ctL m k x z m.t.obj.toNat 0 0) r) := by
  obtain ⟨z1, z2, z3, z4, z5, z6, z7⟩ := ctCode_0 hz
  obtain ⟨z8, z9⟩ := CtOk.of z1 z2 z3 z4 z5 z6 z7
  have hln := z8.len0
  refine GCalls.body (N := 43) (rs := [.tmp 8, .tmp 9]) Try.func23 rfl rfl rfl rfl (fun Qx hret hend => ?_)
  refine .forget (fr' := [(0, some _), (1, some _), (2, some _), (3, some _)]) ⟨rfl, rfl, rfl, rfl, trivial⟩ ?_
  have hle := GHeap.Le.refl H
  have base_hin := hin
  have base_hin1 := hin1
  refine .seq (fun K1 hK1 => ?_)
  refine .region ?_
  refine .r rfl rfl rfl (.boxR rfl sz_54_VProf rfl) ?_
  rintro _ H4 ⟨g4, rfl, le4, ge4, at4⟩
  have nx_H4 := le4.1
  replace hle := hle.trans le4
  have lt_at4 := GHeap.lt_of_get at4
  replace hin := base_hin.mono hle
  replace hin1 := base_hin1.mono hle
  have hb4 : Prof.At _ g4 0 m p := ⟨Mem.of_get at4, hin⟩
  obtain ⟨fs4, ft4, c104, c114, c124, i24, i34, i44⟩ := hb4.get
  have hm4 : MemN _ _ _ _ _ := ⟨rfl, hb4.1⟩
  have hi4 := hb4.2
  have hms4 : MemN _ _ _ _ _ := ⟨rfl, fs4.1⟩
  have his4 := fs4.2
  have hmt4 : MemN _ _ _ _ _ := ⟨rfl, ft4.1⟩
  have hit4 := ft4.2
  refine .r rfl rfl rfl (.boxR rfl sz_54_VProf rfl) ?_
  rintro _ H5 ⟨g5, rfl, le5, ge5, at5⟩
  have nx_H5 := le5.1
  replace hle := hle.trans le5
  replace at4 := le5.2 _ _ at4
  have lt_at5 := GHeap.lt_of_get at5
  replace hin := base_hin.mono hle
  replace hin1 := base_hin1.mono hle
  clear hb4 fs4 ft4 c104 c114 c124 i24 i34 i44 hm4 hi4 hms4 his4 hmt4 hit4
  have hb4 : Prof.At _ g4 0 m p := ⟨Mem.of_get at4, hin⟩
  obtain ⟨fs4, ft4, c104, c114, c124, i24, i34, i44⟩ := hb4.get
  have hm4 : MemN _ _ _ _ _ := ⟨rfl, hb4.1⟩
  have hi4 := hb4.2
  have hms4 : MemN _ _ _ _ _ := ⟨rfl, fs4.1⟩
  have his4 := fs4.2
  have hmt4 : MemN _ _ _ _ _ := ⟨rfl, ft4.1⟩
  have hit4 := ft4.2
  have hb5 : Prof.At _ g5 0 k q := ⟨Mem.of_get at5, hin1⟩
  obtain ⟨fs5, ft5, c105, c115, c125, i25, i35, i45⟩ := hb5.get
  have hm5 : MemN _ _ _ _ _ := ⟨rfl, hb5.1⟩
  have hi5 := hb5.2
  have hms5 : MemN _ _ _ _ _ := ⟨rfl, fs5.1⟩
  have his5 := fs5.2
  have hmt5 : MemN _ _ _ _ _ := ⟨rfl, ft5.1⟩
  have hit5 := ft5.2
  refine .m rfl rfl rfl (.assign rfl) ?_
  refine .m rfl rfl rfl (.assign rfl) ?_
  refine .nil ?_
  refine hK1 _ _ ?_
  refine .seq (fun K2 hK2 => ?_)
  refine .region ?_
  refine .m rfl rfl rfl (.move rfl) ?_
  refine .m rfl rfl rfl (.move rfl) ?_
  refine .call rfl rfl rfl rfl @Try.call56 rfl (triplesCode0_c) ?_
  rintro _ H18 ⟨le18, g18, rfl, v18⟩
  have nx_H18 := le18.1
  replace hle := hle.trans le18
  replace at4 := le18.2 _ _ at4
  replace at5 := le18.2 _ _ at5
  have bs_v18 := v18
  have lv_v18 : Keep H5.next H18 H18 := fun _ _ _ h => h
  replace hin := base_hin.mono hle
  replace hin1 := base_hin1.mono hle
  clear hb4 fs4 ft4 c104 c114 c124 i24 i34 i44 hm4 hi4 hms4 his4 hmt4 hit4
  have hb4 : Prof.At _ g4 0 m p := ⟨Mem.of_get at4, hin⟩
  obtain ⟨fs4, ft4, c104, c114, c124, i24, i34, i44⟩ := hb4.get
  have hm4 : MemN _ _ _ _ _ := ⟨rfl, hb4.1⟩
  have hi4 := hb4.2
  have hms4 : MemN _ _ _ _ _ := ⟨rfl, fs4.1⟩
  have his4 := fs4.2
  have hmt4 : MemN _ _ _ _ _ := ⟨rfl, ft4.1⟩
  have hit4 := ft4.2
  clear hb5 fs5 ft5 c105 c115 c125 i25 i35 i45 hm5 hi5 hms5 his5 hmt5 hit5
  have hb5 : Prof.At _ g5 0 k q := ⟨Mem.of_get at5, hin1⟩
  obtain ⟨fs5, ft5, c105, c115, c125, i25, i35, i45⟩ := hb5.get
  have hm5 : MemN _ _ _ _ _ := ⟨rfl, hb5.1⟩
  have hi5 := hb5.2
  have hms5 : MemN _ _ _ _ _ := ⟨rfl, fs5.1⟩
  have his5 := fs5.2
  have hmt5 : MemN _ _ _ _ _ := ⟨rfl, ft5.1⟩
  have hit5 := ft5.2
  have i18 := v18.sl
  refine .m rfl rfl rfl (.move rfl) ?_
  refine .m rfl rfl rfl (.extract rfl rfl) ?_
  refine .m rfl rfl rfl (.extract rfl rfl) ?_
  refine .m rfl rfl rfl (.assign rfl) ?_
  refine .m rfl rfl rfl (.assign rfl) ?_
  refine .nil ?_
  refine hK2 _ _ ?_
  refine .seq (fun K3 hK3 => ?_)
  refine .seq (fun K4 hK4 => ?_)
  refine .region ?_
  refine .m rfl rfl rfl (.move rfl) ?_
  refine .m rfl rfl rfl (.cmp rfl rfl rfl) ?_
  refine .nil ?_
  refine hK4 _ _ ?_
  refine .cond rfl (fun h22 => ?_) (fun h22 => ?_)
  ·
   simp at h22
  ·
   try simp only [sps] at h22
   refine .skip ?_
   refine hK3 _ _ ?_
   refine .seq (fun K5 hK5 => ?_)
   refine .region ?_
   refine .r rfl rfl rfl (.litR rfl sl_23_B ze_22_E rfl rfl (by omega) (by omega) rfl rfl) ?_
   rintro _ H24 ⟨g24, rfl, le24, ge24, at24⟩
   have nx_H24 := le24.1
   replace hle := hle.trans le24
   replace at4 := le24.2 _ _ at4
   replace at5 := le24.2 _ _ at5
   replace lv_v18 := Keep.le lv_v18 le24
   replace v18 := bs_v18.keep lv_v18 (Nat.le_refl _)
   have lt_at24 := GHeap.lt_of_get at24
   replace hin := base_hin.mono hle
   replace hin1 := base_hin1.mono hle
   clear hb4 fs4 ft4 c104 c114 c124 i24 i34 i44 hm4 hi4 hms4 his4 hmt4 hit4
   have hb4 : Prof.At _ g4 0 m p := ⟨Mem.of_get at4, hin⟩
   obtain ⟨fs4, ft4, c104, c114, c124, i24, i34, i44⟩ := hb4.get
   have hm4 : MemN _ _ _ _ _ := ⟨rfl, hb4.1⟩
   have hi4 := hb4.2
   have hms4 : MemN _ _ _ _ _ := ⟨rfl, fs4.1⟩
   have his4 := fs4.2
   have hmt4 : MemN _ _ _ _ _ := ⟨rfl, ft4.1⟩
   have hit4 := ft4.2
   clear hb5 fs5 ft5 c105 c115 c125 i25 i35 i45 hm5 hi5 hms5 his5 hmt5 hit5
   have hb5 : Prof.At _ g5 0 k q := ⟨Mem.of_get at5, hin1⟩
   obtain ⟨fs5, ft5, c105, c115, c125, i25, i35, i45⟩ := hb5.get
   have hm5 : MemN _ _ _ _ _ := ⟨rfl, hb5.1⟩
   have hi5 := hb5.2
   have hms5 : MemN _ _ _ _ _ := ⟨rfl, fs5.1⟩
   have his5 := fs5.2
   have hmt5 : MemN _ _ _ _ _ := ⟨rfl, ft5.1⟩
   have hit5 := ft5.2
   clear i18
   have i18 := v18.sl
   refine .m rfl rfl rfl (.assign rfl) ?_
   refine .nil ?_
   refine hK5 _ _ ?_
   refine .seq (fun K6 hK6 => ?_)
   refine .seq (fun K7 hK7 => ?_)
   refine .region ?_
   refine .m rfl rfl rfl (.move rfl) ?_
   refine .m rfl rfl rfl (.len sl_93_Ct rfl) ?_
   refine .m rfl rfl rfl (.move rfl) ?_
   refine .nil ?_
   refine hK7 _ _ ?_
   refine .block ?_
   refine .loopR (σ := Nat × (Nat → Option Addr) × Nat × Nat) [(25, some _), (26, some _)] (fun (i, rr, gL12, nL12) => [(27, some (.int .i64 (i : Int))), (12, some (.slice (some ⟨gL12, 0, none⟩) nL12 nL12))]) (fun (i, rr, gL12, nL12) H' => St [g24] H24 H' ∧ H'.get gL12 = some (.row ((slsL rr ((ctL m k x z m.t.obj.toNat 0 0).take i))) 22 true) ∧ (gL12 = g24 ∨ H24.next ≤ gL12) ∧ nL12 = (slsL rr ((ctL m k x z m.t.obj.toNat 0 0).take i)).length ∧ i ≤ (ctL m k x z m.t.obj.toNat 0 0).length ∧ OwnL H.next H' 2 rr ((ctL m k x z m.t.obj.toNat 0 0).take i)) (fun (i, rr, gL12, nL12) => (ctL m k x z m.t.obj.toNat 0 0).length - i) ((0, fun _ => none, _, _)) ⟨rfl, rfl, trivial⟩ ⟨rfl, rfl, trivial⟩ ?_ ?_
   ·
    refine ⟨.refl _ _, by first | assumption | exact at24 | simpa using at24, .inl rfl, by first | rfl | assumption | simp | omega, ?_⟩
    exact ⟨by omega, .nil _ _ _ _⟩
   ·
    rintro ⟨i, rr, gL12, nL12⟩ HL1 ⟨lst1, at_L12, pl_L12, ln_L12, hI⟩ KL1 hKL1
    refine .forget (fr' := [(27, some (.int .i64 (i : Int))), (12, some (.slice (some ⟨gL12, 0, none⟩) nL12 nL12)), (25, some _), (26, some _)]) ⟨rfl, rfl, rfl, rfl, trivial⟩ ?_
    have ge_L12 : H.next ≤ gL12 := by omega
    have nx_HL1 := lst1.nx
    replace hle := hle.st lst1 (fun k hk => ⟨by omega, trivial⟩)
    replace at4 := lst1.same _ _ ⟨by omega, trivial⟩ at4
    replace at5 := lst1.same _ _ ⟨by omega, trivial⟩ at5
    replace lv_v18 := Keep.st lv_v18 lst1 (fun k hb hk => ⟨by omega, trivial⟩)
    replace v18 := bs_v18.keep lv_v18 (Nat.le_refl _)
    have lt_at_L12 := GHeap.lt_of_get at_L12
    replace hin := base_hin.mono hle
    replace hin1 := base_hin1.mono hle
    clear hb4 fs4 ft4 c104 c114 c124 i24 i34 i44 hm4 hi4 hms4 his4 hmt4 hit4
    have hb4 : Prof.At _ g4 0 m p := ⟨Mem.of_get at4, hin⟩
    obtain ⟨fs4, ft4, c104, c114, c124, i24, i34, i44⟩ := hb4.get
    have hm4 : MemN _ _ _ _ _ := ⟨rfl, hb4.1⟩
    have hi4 := hb4.2
    have hms4 : MemN _ _ _ _ _ := ⟨rfl, fs4.1⟩
    have his4 := fs4.2
    have hmt4 : MemN _ _ _ _ _ := ⟨rfl, ft4.1⟩
    have hit4 := ft4.2
    clear hb5 fs5 ft5 c105 c115 c125 i25 i35 i45 hm5 hi5 hms5 his5 hmt5 hit5
    have hb5 : Prof.At _ g5 0 k q := ⟨Mem.of_get at5, hin1⟩
    obtain ⟨fs5, ft5, c105, c115, c125, i25, i35, i45⟩ := hb5.get
    have hm5 : MemN _ _ _ _ _ := ⟨rfl, hb5.1⟩
    have hi5 := hb5.2
    have hms5 : MemN _ _ _ _ _ := ⟨rfl, fs5.1⟩
    have his5 := fs5.2
    have hmt5 : MemN _ _ _ _ _ := ⟨rfl, ft5.1⟩
    have hit5 := ft5.2
    clear i18
    have i18 := v18.sl
    have rk := St.refl [gL12] HL1
    obtain ⟨hi, hR⟩ := hI
    have hat12 := at_L12
    have htk : ((ctL m k x z m.t.obj.toNat 0 0).take i).length = i := by rw [List.length_take]; omega
    have hfl : (slsL rr ((ctL m k x z m.t.obj.toNat 0 0).take i)).length = ((ctL m k x z m.t.obj.toNat 0 0).take i).length := length_slsL _ _
    refine .seq (fun K8 hK8 => ?_)
    refine .region ?_
    refine .m rfl rfl rfl (.cmp rfl rfl rfl) ?_
    refine .nil ?_
    refine hK8 _ _ ?_
    refine .seq (fun K9 hK9 => ?_)
    refine .cond rfl (fun h28 => ?_) (fun h28 => ?_)
    ·
     simp only [sps] at h28
     refine .skip ?_
     refine hK9 _ _ ?_
     refine .seq (fun K10 hK10 => ?_)
     refine .block ?_
     refine .seq (fun K11 hK11 => ?_)
     refine .region ?_
     refine .m rfl rfl rfl (.idx sl_93_Ct (by assumption) (by omega) rfl rfl (by omega) (by omega) rfl) ?_
     have hm1 := v18.mem (i := i) (by omega)
     refine .m rfl rfl rfl (.loadM ag_98_Ct rfl (by assumption)) ?_
     refine .r rfl rfl rfl (.allocR rfl ze_98_Ct rfl) ?_
     rintro _ H14 ⟨g14, rfl, le14, ge14, at14⟩
     have nx_H14 := le14.1
     replace hle := hle.trans le14
     replace lst1 := lst1.le le14
     replace rk := rk.le le14
     replace at4 := le14.2 _ _ at4
     replace at5 := le14.2 _ _ at5
     replace at_L12 := le14.2 _ _ at_L12
     replace lv_v18 := Keep.le lv_v18 le14
     replace v18 := bs_v18.keep lv_v18 (Nat.le_refl _)
     have lt_at14 := GHeap.lt_of_get at14
     replace hin := base_hin.mono hle
     replace hin1 := base_hin1.mono hle
     clear hb4 fs4 ft4 c104 c114 c124 i24 i34 i44 hm4 hi4 hms4 his4 hmt4 hit4
     have hb4 : Prof.At _ g4 0 m p := ⟨Mem.of_get at4, hin⟩
     obtain ⟨fs4, ft4, c104, c114, c124, i24, i34, i44⟩ := hb4.get
     have hm4 : MemN _ _ _ _ _ := ⟨rfl, hb4.1⟩
     have hi4 := hb4.2
     have hms4 : MemN _ _ _ _ _ := ⟨rfl, fs4.1⟩
     have his4 := fs4.2
     have hmt4 : MemN _ _ _ _ _ := ⟨rfl, ft4.1⟩
     have hit4 := ft4.2
     clear hb5 fs5 ft5 c105 c115 c125 i25 i35 i45 hm5 hi5 hms5 his5 hmt5 hit5
     have hb5 : Prof.At _ g5 0 k q := ⟨Mem.of_get at5, hin1⟩
     obtain ⟨fs5, ft5, c105, c115, c125, i25, i35, i45⟩ := hb5.get
     have hm5 : MemN _ _ _ _ _ := ⟨rfl, hb5.1⟩
     have hi5 := hb5.2
     have hms5 : MemN _ _ _ _ _ := ⟨rfl, fs5.1⟩
     have his5 := fs5.2
     have hmt5 : MemN _ _ _ _ _ := ⟨rfl, ft5.1⟩
     have hit5 := ft5.2
     clear i18
     have i18 := v18.sl
     refine .r0 rfl rfl (.fillR rfl sz_98_Ct rfl rfl rfl rfl (by assumption) (by first | rfl | exact Nat.le_of_ble_eq_true rfl | simp)) ?_
     rintro _ H7003 ⟨rfl, st7003, at7003⟩
     have nx_H7003 := st7003.nx
     replace hle := hle.st st7003 (fun k hk => ⟨by omega, trivial⟩)
     replace lst1 := lst1.st st7003 (fun k hk ho => by simp only [out, and_true] at ho ⊢ <;> omega)
     replace rk := rk.st st7003 (fun k hk ho => by simp only [out, and_true] at ho ⊢ <;> omega)
     replace at4 := st7003.same _ _ ⟨by omega, trivial⟩ at4
     replace at5 := st7003.same _ _ ⟨by omega, trivial⟩ at5
     replace at_L12 := st7003.same _ _ ⟨by omega, trivial⟩ at_L12
     replace lv_v18 := Keep.st lv_v18 st7003 (fun k hb hk => ⟨by omega, trivial⟩)
     replace v18 := bs_v18.keep lv_v18 (Nat.le_refl _)
     have lt_at7003 := GHeap.lt_of_get at7003
     replace hin := base_hin.mono hle
     replace hin1 := base_hin1.mono hle
     clear hb4 fs4 ft4 c104 c114 c124 i24 i34 i44 hm4 hi4 hms4 his4 hmt4 hit4
     have hb4 : Prof.At _ g4 0 m p := ⟨Mem.of_get at4, hin⟩
     obtain ⟨fs4, ft4, c104, c114, c124, i24, i34, i44⟩ := hb4.get
     have hm4 : MemN _ _ _ _ _ := ⟨rfl, hb4.1⟩
     have hi4 := hb4.2
     have hms4 : MemN _ _ _ _ _ := ⟨rfl, fs4.1⟩
     have his4 := fs4.2
     have hmt4 : MemN _ _ _ _ _ := ⟨rfl, ft4.1⟩
     have hit4 := ft4.2
     clear hb5 fs5 ft5 c105 c115 c125 i25 i35 i45 hm5 hi5 hms5 his5 hmt5 hit5
     have hb5 : Prof.At _ g5 0 k q := ⟨Mem.of_get at5, hin1⟩
     obtain ⟨fs5, ft5, c105, c115, c125, i25, i35, i45⟩ := hb5.get
     have hm5 : MemN _ _ _ _ _ := ⟨rfl, hb5.1⟩
     have hi5 := hb5.2
     have hms5 : MemN _ _ _ _ _ := ⟨rfl, fs5.1⟩
     have his5 := fs5.2
     have hmt5 : MemN _ _ _ _ _ := ⟨rfl, ft5.1⟩
     have hit5 := ft5.2
     clear i18
     have i18 := v18.sl
     have mm7003 : MemN _ _ _ _ _ := ⟨rfl, Mem.of_get at7003⟩
     refine .nil ?_
     refine hK11 _ _ ?_
     refine .region ?_
     refine .m rfl rfl rfl (.move rfl) ?_
     have k0 : GHeap.cell _ g14 (0 + 0) = some (.int .i64 _) := Mem.of_get at7003 0 _ rfl
     have k1 : GHeap.cell _ g14 (0 + 1) = some (.int .i64 _) := Mem.of_get at7003 1 _ rfl
     have k2 : GHeap.cell _ g14 (0 + 2) = some (.int .i64 _) := Mem.of_get at7003 2 _ rfl
     refine .m rfl rfl rfl (.fieldAddr fo_98_0_Ct rfl) ?_
     refine .m rfl rfl rfl (.load on_2_A rfl (by assumption)) ?_
     refine .m rfl rfl rfl (.fieldAddr fo_98_1_Ct rfl) ?_
     refine .m rfl rfl rfl (.load on_2_A rfl (by assumption)) ?_
     refine .m rfl rfl rfl (.fieldAddr fo_98_2_Ct rfl) ?_
     refine .m rfl rfl rfl (.load on_2_A rfl (by assumption)) ?_
     refine .r rfl rfl rfl (.litR rfl sl_22_A ze_2_E rfl rfl (by omega) (by omega) rfl rfl) ?_
     rintro _ H38 ⟨g38, rfl, le38, ge38, at38⟩
     have nx_H38 := le38.1
     replace hle := hle.trans le38
     replace lst1 := lst1.le le38
     replace rk := rk.le le38
     replace at4 := le38.2 _ _ at4
     replace at5 := le38.2 _ _ at5
     replace at_L12 := le38.2 _ _ at_L12
     replace at7003 := le38.2 _ _ at7003
     replace lv_v18 := Keep.le lv_v18 le38
     replace v18 := bs_v18.keep lv_v18 (Nat.le_refl _)
     have lt_at38 := GHeap.lt_of_get at38
     replace hin := base_hin.mono hle
     replace hin1 := base_hin1.mono hle
     clear hb4 fs4 ft4 c104 c114 c124 i24 i34 i44 hm4 hi4 hms4 his4 hmt4 hit4
     have hb4 : Prof.At _ g4 0 m p := ⟨Mem.of_get at4, hin⟩
     obtain ⟨fs4, ft4, c104, c114, c124, i24, i34, i44⟩ := hb4.get
     have hm4 : MemN _ _ _ _ _ := ⟨rfl, hb4.1⟩
     have hi4 := hb4.2
     have hms4 : MemN _ _ _ _ _ := ⟨rfl, fs4.1⟩
     have his4 := fs4.2
     have hmt4 : MemN _ _ _ _ _ := ⟨rfl, ft4.1⟩
     have hit4 := ft4.2
     clear hb5 fs5 ft5 c105 c115 c125 i25 i35 i45 hm5 hi5 hms5 his5 hmt5 hit5
     have hb5 : Prof.At _ g5 0 k q := ⟨Mem.of_get at5, hin1⟩
     obtain ⟨fs5, ft5, c105, c115, c125, i25, i35, i45⟩ := hb5.get
     have hm5 : MemN _ _ _ _ _ := ⟨rfl, hb5.1⟩
     have hi5 := hb5.2
     have hms5 : MemN _ _ _ _ _ := ⟨rfl, fs5.1⟩
     have his5 := fs5.2
     have hmt5 : MemN _ _ _ _ _ := ⟨rfl, ft5.1⟩
     have hit5 := ft5.2
     clear i18
     have i18 := v18.sl
     clear mm7003
     have mm7003 : MemN _ _ _ _ _ := ⟨rfl, Mem.of_get at7003⟩
     refine .r rfl rfl rfl (.litR rfl sl_23_B ze_22_E rfl rfl (by omega) (by omega) rfl rfl) ?_
     rintro _ H39 ⟨g39, rfl, le39, ge39, at39⟩
     have nx_H39 := le39.1
     replace hle := hle.trans le39
     replace lst1 := lst1.le le39
     replace rk := rk.le le39
     replace at4 := le39.2 _ _ at4
     replace at5 := le39.2 _ _ at5
     replace at_L12 := le39.2 _ _ at_L12
     replace at7003 := le39.2 _ _ at7003
     replace at38 := le39.2 _ _ at38
     replace lv_v18 := Keep.le lv_v18 le39
     replace v18 := bs_v18.keep lv_v18 (Nat.le_refl _)
     have lt_at39 := GHeap.lt_of_get at39
     replace hin := base_hin.mono hle
     replace hin1 := base_hin1.mono hle
     clear hb4 fs4 ft4 c104 c114 c124 i24 i34 i44 hm4 hi4 hms4 his4 hmt4 hit4
     have hb4 : Prof.At _ g4 0 m p := ⟨Mem.of_get at4, hin⟩
     obtain ⟨fs4, ft4, c104, c114, c124, i24, i34, i44⟩ := hb4.get
     have hm4 : MemN _ _ _ _ _ := ⟨rfl, hb4.1⟩
     have hi4 := hb4.2
     have hms4 : MemN _ _ _ _ _ := ⟨rfl, fs4.1⟩
     have his4 := fs4.2
     have hmt4 : MemN _ _ _ _ _ := ⟨rfl, ft4.1⟩
     have hit4 := ft4.2
     clear hb5 fs5 ft5 c105 c115 c125 i25 i35 i45 hm5 hi5 hms5 his5 hmt5 hit5
     have hb5 : Prof.At _ g5 0 k q := ⟨Mem.of_get at5, hin1⟩
     obtain ⟨fs5, ft5, c105, c115, c125, i25, i35, i45⟩ := hb5.get
     have hm5 : MemN _ _ _ _ _ := ⟨rfl, hb5.1⟩
     have hi5 := hb5.2
     have hms5 : MemN _ _ _ _ _ := ⟨rfl, fs5.1⟩
     have his5 := fs5.2
     have hmt5 : MemN _ _ _ _ _ := ⟨rfl, ft5.1⟩
     have hit5 := ft5.2
     clear i18
     have i18 := v18.sl
     clear mm7003
     have mm7003 : MemN _ _ _ _ _ := ⟨rfl, Mem.of_get at7003⟩
     refine .r rfl rfl rfl (.appendV rfl sl_23_B ze_22_E rfl by_22_E sl_23_B rfl rfl (by assumption) (by assumption) (by first | omega | (simp <;> omega)) rfl rfl (by omega) (by omega)) ?_
     rintro _ H40 ⟨g40, rfl, st40, ge40, at40⟩
     have nx_H40 := st40.nx
     replace hle := hle.st st40 (fun k hk => ⟨by omega, trivial⟩)
     replace lst1 := lst1.st st40 (fun k hk ho => by simp only [out, and_true] at ho ⊢ <;> omega)
     replace rk := rk.st st40 (fun k hk ho => by simp only [out, and_true] at ho ⊢ <;> omega)
     replace at4 := st40.same _ _ ⟨by omega, trivial⟩ at4
     replace at5 := st40.same _ _ ⟨by omega, trivial⟩ at5
     replace at7003 := st40.same _ _ ⟨by omega, trivial⟩ at7003
     replace at38 := st40.same _ _ ⟨by omega, trivial⟩ at38
     replace at39 := st40.same _ _ ⟨by omega, trivial⟩ at39
     replace lv_v18 := Keep.st lv_v18 st40 (fun k hb hk => ⟨by omega, trivial⟩)
     replace v18 := bs_v18.keep lv_v18 (Nat.le_refl _)
     have lt_at40 := GHeap.lt_of_get at40
     replace hin := base_hin.mono hle
     replace hin1 := base_hin1.mono hle
     clear hb4 fs4 ft4 c104 c114 c124 i24 i34 i44 hm4 hi4 hms4 his4 hmt4 hit4
     have hb4 : Prof.At _ g4 0 m p := ⟨Mem.of_get at4, hin⟩
     obtain ⟨fs4, ft4, c104, c114, c124, i24, i34, i44⟩ := hb4.get
     have hm4 : MemN _ _ _ _ _ := ⟨rfl, hb4.1⟩
     have hi4 := hb4.2
     have hms4 : MemN _ _ _ _ _ := ⟨rfl, fs4.1⟩
     have his4 := fs4.2
     have hmt4 : MemN _ _ _ _ _ := ⟨rfl, ft4.1⟩
     have hit4 := ft4.2
     clear hb5 fs5 ft5 c105 c115 c125 i25 i35 i45 hm5 hi5 hms5 his5 hmt5 hit5
     have hb5 : Prof.At _ g5 0 k q := ⟨Mem.of_get at5, hin1⟩
     obtain ⟨fs5, ft5, c105, c115, c125, i25, i35, i45⟩ := hb5.get
     have hm5 : MemN _ _ _ _ _ := ⟨rfl, hb5.1⟩
     have hi5 := hb5.2
     have hms5 : MemN _ _ _ _ _ := ⟨rfl, fs5.1⟩
     have his5 := fs5.2
     have hmt5 : MemN _ _ _ _ _ := ⟨rfl, ft5.1⟩
     have hit5 := ft5.2
     clear i18
     have i18 := v18.sl
     clear mm7003
     have mm7003 : MemN _ _ _ _ _ := ⟨rfl, Mem.of_get at7003⟩
     refine .m rfl rfl rfl (.assign rfl) ?_
     refine .nil ?_
     refine hK10 _ _ ?_
     refine .region ?_
     refine .m rfl rfl rfl (.add rfl rfl rfl (by omega) (by omega)) ?_
     refine .m rfl rfl rfl (.move rfl) ?_
     refine .nil ?_
     refine hKL1 ((i + 1, upd rr ((ctL m k x z m.t.obj.toNat 0 0).take i).length (some ⟨g38, 0, none⟩), _, _)) _ _ ?_ ?_ ⟨rfl, rfl, rfl, rfl, trivial⟩
     ·
      refine ⟨lst1, by first | assumption | (rw [take_snoc_list (by omega), slsL_snoc, v18.row (i := i) (by omega)]; assumption), by omega, by first | omega | (simp only [List.length_append, List.length_cons, List.length_nil] <;> omega) | (rw [take_snoc_list (by omega), slsL_snoc, v18.row (i := i) (by omega)] <;> (first | omega | (simp only [List.length_append, List.length_cons, List.length_nil] <;> omega))), ?_⟩
      exact ⟨by omega, by rw [take_snoc_list (by omega), ← three_eq (v18.row (i := i) (by omega))]; exact hR.snoc (x := [_, _, _]) (rk.lasts1 hat12 rfl) (by assumption) (by omega) (by omega)⟩
     ·
      (dsimp only; omega)
    ·
     try simp only [sps] at h28
     refine .exit ?_
     refine hK6 _ _ ?_
     refine .seq (fun K12 hK12 => ?_)
     refine .region ?_
     refine .m rfl rfl rfl (.move rfl) ?_
     refine .m rfl rfl rfl (.assign rfl) ?_
     refine .m rfl rfl rfl (.assign rfl) ?_
     refine .nil ?_
     refine hK12 _ _ ?_
     refine .ret ?_
     -- leaf e1
     refine hret _ _ ?_
     refine ⟨_, _, rfl, rfl, ?_⟩
     obtain rfl : i = (ctL m k x z m.t.obj.toNat 0 0).length := by omega
     rw [List.take_length] at hR at_L12 ln_L12
     exact ⟨hle, _, rr, by rw [ln_L12]; simp, hR.done at_L12 (by omega)⟩
theorem implCt1_c {m k : Prof} {p q : ProfP} {x z : Int} {H : GHeap} (hin : m.In H p := by assumption) (hin1 : k.In H q := by assumption) (hs : m.Small := by assumption) (hs1 : k.Small := by assumption) (hz : ¬ ctCode m k x z = 0) :
    GCalls Try.prog 23 [.agg (m.cells p).toArray, .agg (k.cells q).toArray, .int .i64 x, .int .i64 z] H (Ret (.tuple #[.slice none 0 0, .int .i64 (ctCode m k x z)]) H) := by
  refine GCalls.ret rfl ?_
  refine GCalls.body (N := 43) (rs := [.tmp 8, .tmp 9]) Try.func23 rfl rfl rfl rfl (fun Qx hret hend => ?_)
  refine .forget (fr' := [(0, some _), (1, some _), (2, some _), (3, some _)]) ⟨rfl, rfl, rfl, rfl, trivial⟩ ?_
  have hle := GHeap.Le.refl H
  have base_hin := hin
  have base_hin1 := hin1
  refine .seq (fun K1 hK1 => ?_)
  refine .region ?_
  refine .r rfl rfl rfl (.boxR rfl sz_54_VProf rfl) ?_
  rintro _ H4 ⟨g4, rfl, le4, ge4, at4⟩
  have nx_H4 := le4.1
  replace hle := hle.trans le4
  have lt_at4 := GHeap.lt_of_get at4
  replace hin := base_hin.mono hle
  replace hin1 := base_hin1.mono hle
  have hb4 : Prof.At _ g4 0 m p := ⟨Mem.of_get at4, hin⟩
  obtain ⟨fs4, ft4, c104, c114, c124, i24, i34, i44⟩ := hb4.get
  have hm4 : MemN _ _ _ _ _ := ⟨rfl, hb4.1⟩
  have hi4 := hb4.2
  have hms4 : MemN _ _ _ _ _ := ⟨rfl, fs4.1⟩
  have his4 := fs4.2
  have hmt4 : MemN _ _ _ _ _ := ⟨rfl, ft4.1⟩
  have hit4 := ft4.2
  refine .r rfl rfl rfl (.boxR rfl sz_54_VProf rfl) ?_
  rintro _ H5 ⟨g5, rfl, le5, ge5, at5⟩
  have nx_H5 := le5.1
  replace hle := hle.trans le5
  replace at4 := le5.2 _ _ at4
  have lt_at5 := GHeap.lt_of_get at5
  replace hin := base_hin.mono hle
  replace hin1 := base_hin1.mono hle
  clear hb4 fs4 ft4 c104 c114 c124 i24 i34 i44 hm4 hi4 hms4 his4 hmt4 hit4
  have hb4 : Prof.At _ g4 0 m p := ⟨Mem.of_get at4, hin⟩
  obtain ⟨fs4, ft4, c104, c114, c124, i24, i34, i44⟩ := hb4.get
  have hm4 : MemN _ _ _ _ _ := ⟨rfl, hb4.1⟩
  have hi4 := hb4.2
  have hms4 : MemN _ _ _ _ _ := ⟨rfl, fs4.1⟩
  have his4 := fs4.2
  have hmt4 : MemN _ _ _ _ _ := ⟨rfl, ft4.1⟩
  have hit4 := ft4.2
  have hb5 : Prof.At _ g5 0 k q := ⟨Mem.of_get at5, hin1⟩
  obtain ⟨fs5, ft5, c105, c115, c125, i25, i35, i45⟩ := hb5.get
  have hm5 : MemN _ _ _ _ _ := ⟨rfl, hb5.1⟩
  have hi5 := hb5.2
  have hms5 : MemN _ _ _ _ _ := ⟨rfl, fs5.1⟩
  have his5 := fs5.2
  have hmt5 : MemN _ _ _ _ _ := ⟨rfl, ft5.1⟩
  have hit5 := ft5.2
  refine .m rfl rfl rfl (.assign rfl) ?_
  refine .m rfl rfl rfl (.assign rfl) ?_
  refine .nil ?_
  refine hK1 _ _ ?_
  refine .seq (fun K2 hK2 => ?_)
  refine .region ?_
  refine .m rfl rfl rfl (.move rfl) ?_
  refine .m rfl rfl rfl (.move rfl) ?_
  refine .callQ rfl rfl rfl rfl @Try.call56 rfl (triplesCode1_c) ?_
  refine .m rfl rfl rfl (.move rfl) ?_
  refine .m rfl rfl rfl (.extract rfl rfl) ?_
  refine .m rfl rfl rfl (.extract rfl rfl) ?_
  refine .m rfl rfl rfl (.assign rfl) ?_
  refine .m rfl rfl rfl (.assign rfl) ?_
  refine .nil ?_
  refine hK2 _ _ ?_
  refine .seq (fun K3 hK3 => ?_)
  refine .seq (fun K4 hK4 => ?_)
  refine .region ?_
  refine .m rfl rfl rfl (.move rfl) ?_
  refine .m rfl rfl rfl (.cmp rfl rfl rfl) ?_
  refine .nil ?_
  refine hK4 _ _ ?_
  refine .cond rfl (fun h22 => ?_) (fun h22 => ?_)
  ·
   simp only [sps] at h22
   refine .seq (fun K5 hK5 => ?_)
   refine .region ?_
   refine .m rfl rfl rfl (.move rfl) ?_
   refine .m rfl rfl rfl (.assign rfl) ?_
   refine .m rfl rfl rfl (.assign rfl) ?_
   refine .nil ?_
   refine hK5 _ _ ?_
   refine .ret ?_
   -- leaf e1
   refine hret _ _ ?_
   refine ⟨_, _, rfl, rfl, ?_⟩
   exact ⟨rfl, hle⟩
  ·
   exact absurd (by simpa only [sps] using h22) hz
theorem implCompositeTriples_c {m k : Prof} {p q : ProfP} {x z : Int} {H : GHeap} (hin : m.In H p := by assumption) (hin1 : k.In H q := by assumption) (hs : m.Small := by assumption) (hs1 : k.Small := by assumption) :
    GCalls Try.prog 23 [.agg (m.cells p).toArray, .agg (k.cells q).toArray, .int .i64 x, .int .i64 z] H (fun v H' => H.Le H' ∧ ∃ a r, v = .tuple #[.slice a (ctR m k x z).length (ctR m k x z).length, .int .i64 (ctCode m k x z)] ∧ IntssR H.next H' a (ctR m k x z) r) := by
  by_cases hz : ctCode m k x z = 0
  · rw [ctR_ok hz, hz]
    exact implCt0_c (hz := hz)
  · rw [ctR_not hz]
    refine (implCt1_c (hz := hz)).mono fun v H' h => ?_
    obtain ⟨rfl, rfl⟩ := h
    exact ⟨.refl _, none, fun _ => none, rfl, .nil _ _ _⟩
end Go.Proofs.Ytbdaddkbkdiglaa
/- The laws' helpers for SetFunctor. No condition but those of each statement. -/
namespace Go.Proofs.Ytbdaddkbkdiglaa
open Go Go.GL Go.RowKit Go.Proofs
end Go.Proofs.Ytbdaddkbkdiglaa
/- The laws' helpers for SetMap. No condition but those of each statement. -/
namespace Go.Proofs.Ytbdaddkbkdiglaa
open Go Go.GL Go.RowKit Go.Proofs
end Go.Proofs.Ytbdaddkbkdiglaa
/- Maps of set functors. No condition but those of each statement. -/
namespace Go.Proofs.Ytbdaddkbkdiglaa
open Go Go.GL Go.RowKit Go.Proofs
end Go.Proofs.Ytbdaddkbkdiglaa
/- The laws' helpers for Part. No condition but those of each statement. -/
namespace Go.Proofs.Ytbdaddkbkdiglaa
open Go Go.GL Go.RowKit Go.Proofs
end Go.Proofs.Ytbdaddkbkdiglaa
/- Parts of set functors. No condition but those of each statement. -/
namespace Go.Proofs.Ytbdaddkbkdiglaa
open Go Go.GL Go.RowKit Go.Proofs
theorem slA_mem1 {H : GHeap} {k n i : Nat} {f : Nat → Value} (h : SlA H (some ⟨k, 0, none⟩) n f) (hi : i < n) : MemN H k (0 + i) 1 [f i] := by
  refine ⟨rfl, fun j v hv => ?_⟩
  rcases h with h | ⟨g, o, e, h⟩
  · omega
  · cases e
    have := h i hi
    match j, hv with
    | 0, hv => simp at hv; subst hv; exact this
end Go.Proofs.Ytbdaddkbkdiglaa
/- Marks on set functors, their maps and parts. No condition but those of each statement. -/
namespace Go.Proofs.Ytbdaddkbkdiglaa
open Go Go.GL Go.RowKit Go.Proofs
end Go.Proofs.Ytbdaddkbkdiglaa
/- Marks on profunctors. No condition. -/
namespace Go.GL
def sumL3 : List (List (List Int)) → Nat
  | [] => 0
  | xs :: r => sumL xs + sumL3 r
theorem sumL3_take_succ {x : List (List (List Int))} {k : Nat} (h : k < x.length) : sumL3 (x.take (k + 1)) = sumL3 (x.take k) + sumL (x.getD k []) := by
  induction x generalizing k with
  | nil => simp at h
  | cons y r ih =>
    cases k with
    | zero => simp [sumL3]
    | succ k =>
      have := ih (k := k) (by simpa using h)
      simp only [List.take_succ_cons, sumL3, List.getD_cons_succ]
      omega
theorem sumL3_take_le {x : List (List (List Int))} {k : Nat} : sumL3 (x.take k) ≤ sumL3 x := by
  induction x generalizing k with
  | nil => simp
  | cons y r ih =>
    cases k with
    | zero => simp [sumL3]
    | succ k => simp only [List.take_succ_cons, sumL3]; have := ih (k := k); omega
theorem sumL3_le {m : Nat} : ∀ {x : List (List (List Int))}, (∀ i, sumL (x.getD i []) ≤ m) → sumL3 x ≤ x.length * m
  | [], _ => by simp [sumL3]
  | y :: r, h => by
    have h0 := h 0
    have := sumL3_le (x := r) fun i => by simpa using h (i + 1)
    simp only [sumL3, List.length_cons, Nat.add_mul]
    simp at h0
    omega
theorem sumL3_tot {x : List (List (List Int))} (h : Sm3 x) : sumL3 x ≤ 1048576 * (1048576 * 1048576) := by
  have := sumL3_le (m := 1048576 * 1048576) (x := x) fun i => sumL_tot (h.2 i).1 (h.2 i).2
  exact Nat.le_trans this (Nat.mul_le_mul_right _ h.1)
def rows3L (r : Nat → Nat → Option Addr) (x : List (List (List Int))) (n : Nat) : List Leaf := (List.range n).flatMap fun i => rowsL (r i) (x.getD i []) (x.getD i []).length
theorem rows3L_succ (r : Nat → Nat → Option Addr) (x : List (List (List Int))) (n : Nat) : rows3L r x (n + 1) = rows3L r x n ++ rowsL (r n) (x.getD n []) (x.getD n []).length := by simp [rows3L, List.range_succ]
theorem lvSum_rowsL_all (r : Nat → Option Addr) (xss : List (List Int)) : lvSum (rowsL r xss xss.length) = sumL xss := by rw [lvSum_rowsL r xss _ (Nat.le_refl _), List.take_length]
theorem lvSum_rows3L (r : Nat → Nat → Option Addr) (x : List (List (List Int))) : ∀ n, n ≤ x.length → lvSum (rows3L r x n) = sumL3 (x.take n)
  | 0, _ => by simp [rows3L, lvSum, sumL3]
  | n + 1, h => by rw [rows3L_succ, lvSum_append, lvSum_rows3L r x n (by omega), sumL3_take_succ (by omega), lvSum_rowsL_all]
def IntsssW (lo hi : Nat) (H : GHeap) (a : Option Addr) (x : List (List (List Int))) (r : Nat → Option Addr) (s : Nat → Nat → Option Addr) : Prop :=
  SlA H a x.length (fun i => .slice (r i) (x.getD i []).length (x.getD i []).length) ∧ (∀ i, i < x.length → IntssW lo hi H (r i) (x.getD i []) (s i)) ∧ HdGe lo a x.length
theorem IntsssW.stm {lo hi : Nat} {H H' : GHeap} {a : Option Addr} {x : List (List (List Int))} {r : Nat → Option Addr} {q : Nat → Nat → Option Addr} (h : IntsssW lo hi H a x r q) (s : StM lo hi H H') : IntsssW lo hi H' a x r q :=
  ⟨h.1.stm s fun i m e => (by cases e), fun i hi => (h.2.1 i hi).stm s, h.2.2⟩
theorem IntsssW.keep {lo lo' hi : Nat} {H H' : GHeap} {a : Option Addr} {x : List (List (List Int))} {r : Nat → Option Addr} {q : Nat → Nat → Option Addr} (h : IntsssW lo hi H a x r q) (k : Keep lo' H H') (hb : lo' ≤ lo) : IntsssW lo hi H' a x r q := ⟨h.1.keep h.2.2 k hb, fun i hi => (h.2.1 i hi).keep k hb, h.2.2⟩
theorem IntsssW.of_at {b : Nat} {H0 H : GHeap} {a : Option Addr} {x : List (List (List Int))} {r : Nat → Option Addr} {q : Nat → Nat → Option Addr} (h : IntsssAt b H0 a x r q) (k : Keep b H0 H) : IntsssW b H0.next H a x r q :=
  ⟨(h.keep k (Nat.le_refl _)).intsss.1, fun i hi => by obtain ⟨g, e, cs, _, _, _, _, _, h6⟩ := h; exact .of_at (h6 i hi) k, by obtain ⟨g, e, cs, h1, h2, _⟩ := h; exact .inr ⟨g, 0, h1, h2⟩⟩
def Prof.total (f : Prof) : Nat := f.s.total + (f.t.total + (sumL f.sz + (sumL3 f.be + sumL3 f.bh)))
def ProfW (lo hi : Nat) (H : GHeap) (f : Prof) (p : ProfP) : Prop := CatW lo hi H f.s p.s ∧ CatW lo hi H f.t p.t ∧ IntssW lo hi H p.a2 f.sz p.r2 ∧ IntsssW lo hi H p.a3 f.be p.r3 p.s3 ∧ IntsssW lo hi H p.a4 f.bh p.r4 p.s4
theorem ProfW.stm {lo hi : Nat} {H H' : GHeap} {c : Prof} {p : ProfP} (h : ProfW lo hi H c p) (s : StM lo hi H H') : ProfW lo hi H' c p := ⟨h.1.stm s, h.2.1.stm s, h.2.2.1.stm s, h.2.2.2.1.stm s, h.2.2.2.2.stm s⟩
theorem ProfW.keep {lo lo' hi : Nat} {H H' : GHeap} {c : Prof} {p : ProfP} (h : ProfW lo hi H c p) (k : Keep lo' H H') (hb : lo' ≤ lo) : ProfW lo hi H' c p := ⟨h.1.keep k hb, h.2.1.keep k hb, h.2.2.1.keep k hb, h.2.2.2.1.keep k hb, h.2.2.2.2.keep k hb⟩
theorem ProfW.of_at {b : Nat} {H0 H : GHeap} {c : Prof} {p : ProfP} (h : ProfAt b H0 c p) (k : Keep b H0 H) : ProfW b H0.next H c p := ⟨.of_at h.1 k, .of_at h.2.1 k, .of_at h.2.2.1 k, .of_at h.2.2.2.1 k, .of_at h.2.2.2.2 k⟩
def Prof.leaves (f : Prof) (p : ProfP) : List Leaf := f.s.leaves p.s ++ (f.t.leaves p.t ++ (rowsL p.r2 f.sz f.sz.length ++ (rows3L p.s3 f.be f.be.length ++ rows3L p.s4 f.bh f.bh.length)))
theorem Prof.Small.tot {c : Prof} (h : c.Small) : c.total ≤ 8 * 1048576 + 4 * 1048576 * 1048576 + 2 * (1048576 * (1048576 * 1048576)) := by
  obtain ⟨h1, h2, h3, h4, h5⟩ := h
  have := h1.tot
  have := h2.tot
  have := sumL_tot h3.1 h3.2
  have := sumL3_tot h4
  have := sumL3_tot h5
  unfold Prof.total
  omega
end Go.GL
/- Marks on profunctors. No condition but those of each statement. -/
namespace Go.Proofs.Ytbdaddkbkdiglaa
open Go Go.GL Go.RowKit Go.Proofs
theorem markInt64SSS_c {a : Option Addr} {x : List (List (List Int))} {r : Nat → Option Addr} {s : Nat → Nat → Option Addr} {lo hi : Nat} {k : Int} {H : GHeap} (h : IntsssW lo hi H a x r s := by assumption) (hm : Sm3 x := by assumption) (hk : 0 ≤ k := by omega) (hk' : k + sumL3 x ≤ 9223372036854775000 := by omega) :
    GCalls Try.prog 58 [.slice a x.length x.length, .int .i64 k] H (fun v H' => v = .int .i64 (k + sumL3 x) ∧ Marked lo hi H H' (rows3L s x x.length) k) := by
  obtain ⟨hl, hm2⟩ := hm
  refine GCalls.body (N := 19) (rs := [.tmp 4]) Try.func58 rfl rfl rfl rfl (fun Qx hret hend => ?_)
  refine .forget (fr' := [(0, some _), (1, some _)]) ⟨rfl, rfl, trivial⟩ ?_
  refine .seq (fun K1 hK1 => ?_)
  refine .region ?_
  refine .m rfl rfl rfl (.assign rfl) ?_
  refine .nil ?_
  refine hK1 _ _ ?_
  refine .seq (fun K2 hK2 => ?_)
  refine .seq (fun K3 hK3 => ?_)
  refine .region ?_
  refine .m rfl rfl rfl (.assign rfl) ?_
  refine .nil ?_
  refine hK3 _ _ ?_
  refine .block ?_
  refine .loopR (σ := Nat × Int) [(0, some _)] (fun (i, q) => [(5, some (.int .i64 (i : Int))), (1, some (.int .i64 q))]) (fun (i, q) H' => i ≤ x.length ∧ q = k + sumL3 (x.take i) ∧ Marked lo hi H H' (rows3L s x i) k) (fun (i, q) => x.length - i) ((0, k)) ⟨rfl, trivial⟩ ⟨rfl, rfl, trivial⟩ ?_ ?_
  ·
   exact ⟨by omega, by simp [sumL3], .nil _ _ _ _⟩
  ·
   rintro ⟨i, q⟩ H' hI KL1 hKL1
   refine .forget (fr' := [(5, some (.int .i64 (i : Int))), (1, some (.int .i64 q)), (0, some _)]) ⟨rfl, rfl, rfl, trivial⟩ ?_
   obtain ⟨hi', hq, hmk⟩ := hI
   have hw := h.stm hmk.stm
   have hsl := hw.1
   have hle1 := sumL3_take_le (x := x) (k := i + 1)
   refine .seq (fun K4 hK4 => ?_)
   refine .seq (fun K5 hK5 => ?_)
   refine .region ?_
   refine .m rfl rfl rfl (.move rfl) ?_
   refine .m rfl rfl rfl (.move rfl) ?_
   refine .m rfl rfl rfl (.len sl_47_VZ rfl) ?_
   refine .m rfl rfl rfl (.cmp rfl rfl rfl) ?_
   refine .nil ?_
   refine hK5 _ _ ?_
   refine .cond rfl (fun h9 => ?_) (fun h9 => ?_)
   ·
    simp only [sps] at h9
    have hts := sumL3_take_succ (x := x) (k := i) (by omega)
    refine .skip ?_
    refine hK4 _ _ ?_
    refine .seq (fun K6 hK6 => ?_)
    refine .block ?_
    refine .region ?_
    refine .m rfl rfl rfl (.move rfl) ?_
    refine .m rfl rfl rfl (.move rfl) ?_
    refine .m rfl rfl rfl (.idxN sl_47_VZ hsl rfl rfl (by omega)) ?_
    refine .m rfl rfl rfl (.loadE on_23_B hsl rfl (by omega)) ?_
    refine .m rfl rfl rfl (.move rfl) ?_
    refine .call rfl rfl rfl rfl @Try.call27 rfl (markInt64SS_c (hw.2.1 i (by omega)) (by omega) (by omega) (hm2 i).1) ?_
    rintro _ H17 ⟨rfl, mk17⟩
    refine .m rfl rfl rfl (.assign rfl) ?_
    refine .nil ?_
    refine hK6 _ _ ?_
    refine .region ?_
    refine .m rfl rfl rfl (.move rfl) ?_
    refine .m rfl rfl rfl (.add rfl rfl rfl (by omega) (by omega)) ?_
    refine .m rfl rfl rfl (.assign rfl) ?_
    refine .nil ?_
    refine hKL1 ((i + 1, _)) _ _ ?_ ?_ ⟨rfl, rfl, rfl, trivial⟩
    ·
     exact ⟨by omega, by rw [sumL3_take_succ (by omega)]; omega, by rw [rows3L_succ]; exact hmk.app' mk17 (by rw [lvSum_rows3L _ _ _ (by omega)]; omega)⟩
    ·
     (dsimp only; omega)
   ·
    try simp only [sps] at h9
    refine .exit ?_
    refine hK2 _ _ ?_
    refine .seq (fun K7 hK7 => ?_)
    refine .region ?_
    refine .m rfl rfl rfl (.move rfl) ?_
    refine .m rfl rfl rfl (.assign rfl) ?_
    refine .nil ?_
    refine hK7 _ _ ?_
    refine .ret ?_
    -- leaf e1
    refine hret _ _ ?_
    refine ⟨_, rfl, ?_⟩
    obtain rfl : i = x.length := by omega
    exact ⟨by rw [hq, List.take_length], hmk⟩
theorem markProfunctor_c {c : Prof} {p : ProfP} {lo hi : Nat} {k : Int} {H : GHeap} (w : ProfW lo hi H c p := by assumption) (hs : c.Small := by assumption) (hk : 0 ≤ k := by omega) (hk' : k + c.total ≤ 9223372036854775000 := by omega) (hhi : hi ≤ H.next := by omega) :
    GCalls Try.prog 26 [.agg (c.cells p).toArray, .int .i64 k] H (fun v H' => v = .int .i64 (k + c.total) ∧ Marked lo hi H H' (c.leaves p) k) := by
  obtain ⟨w1, w2, w3, w4, w5⟩ := w
  have ht : c.total = c.s.total + (c.t.total + (sumL c.sz + (sumL3 c.be + sumL3 c.bh))) := rfl
  obtain ⟨s1, s2, s3, s4, s5⟩ := hs
  obtain ⟨s31, s32⟩ := s3
  refine GCalls.body (N := 26) (rs := [.tmp 4]) Try.func26 rfl rfl rfl rfl (fun Qx hret hend => ?_)
  refine .forget (fr' := [(0, some _), (1, some _)]) ⟨rfl, rfl, trivial⟩ ?_
  refine .seq (fun K1 hK1 => ?_)
  refine .region ?_
  refine .r rfl rfl rfl (.boxR rfl sz_54_VProf rfl) ?_
  rintro _ H2 ⟨g2, rfl, le2, ge2, at2⟩
  have nx_H2 := le2.1
  have lt_at2 := GHeap.lt_of_get at2
  have mm2 : MemN _ _ _ _ _ := ⟨rfl, Mem.of_get at2⟩
  replace w1 := w1.stm (.of_le le2)
  replace w2 := w2.stm (.of_le le2)
  replace w3 := w3.stm (.of_le le2)
  replace w4 := w4.stm (.of_le le2)
  replace w5 := w5.stm (.of_le le2)
  refine .m rfl rfl rfl (.assign rfl) ?_
  refine .nil ?_
  refine hK1 _ _ ?_
  refine .seq (fun K2 hK2 => ?_)
  refine .region ?_
  have hx : Mem H2 g2 0 (c.s.cells p.s ++ (c.t.cells p.t ++ [.slice p.a2 c.sz.length c.sz.length, .slice p.a3 c.be.length c.be.length, .slice p.a4 c.bh.length c.bh.length])) := Mem.of_get at2
  have m1 : MemN H2 g2 (0 + 0) 5 (c.s.cells p.s) := ⟨rfl, hx.left⟩
  refine .m rfl rfl rfl (.fieldAddr fo_54_0_VProf rfl) ?_
  refine .m rfl rfl rfl (.loadM ag_34_D rfl (by assumption)) ?_
  refine .m rfl rfl rfl (.move rfl) ?_
  refine .call rfl rfl rfl rfl @Try.call41 rfl (markCategory_c) ?_
  rintro _ H8 ⟨rfl, mk8⟩
  have sm8 := mk8.stm
  have nx_H8 := sm8.nx
  replace at2 := sm8.same _ _ (by omega) at2
  replace w1 := w1.stm sm8
  replace w2 := w2.stm sm8
  replace w3 := w3.stm sm8
  replace w4 := w4.stm sm8
  replace w5 := w5.stm sm8
  clear mm2
  have mm2 : MemN _ _ _ _ _ := ⟨rfl, Mem.of_get at2⟩
  refine .m rfl rfl rfl (.assign rfl) ?_
  refine .nil ?_
  refine hK2 _ _ ?_
  refine .seq (fun K3 hK3 => ?_)
  refine .region ?_
  have hx : Mem H8 g2 0 (c.s.cells p.s ++ (c.t.cells p.t ++ [.slice p.a2 c.sz.length c.sz.length, .slice p.a3 c.be.length c.be.length, .slice p.a4 c.bh.length c.bh.length])) := Mem.of_get at2
  have m2 : MemN H8 g2 (0 + 5) 5 (c.t.cells p.t) := ⟨rfl, (hx.right (n := 5) rfl).left⟩
  refine .m rfl rfl rfl (.fieldAddr fo_54_1_VProf rfl) ?_
  refine .m rfl rfl rfl (.loadM ag_34_D rfl (by assumption)) ?_
  refine .m rfl rfl rfl (.move rfl) ?_
  refine .call rfl rfl rfl rfl @Try.call41 rfl (markCategory_c) ?_
  rintro _ H12 ⟨rfl, mk12⟩
  have sm12 := mk12.stm
  have nx_H12 := sm12.nx
  replace at2 := sm12.same _ _ (by omega) at2
  replace w1 := w1.stm sm12
  replace w2 := w2.stm sm12
  replace w3 := w3.stm sm12
  replace w4 := w4.stm sm12
  replace w5 := w5.stm sm12
  clear mm2
  have mm2 : MemN _ _ _ _ _ := ⟨rfl, Mem.of_get at2⟩
  refine .m rfl rfl rfl (.assign rfl) ?_
  refine .nil ?_
  refine hK3 _ _ ?_
  refine .seq (fun K4 hK4 => ?_)
  refine .region ?_
  have c1 : H12.cell g2 (0 + 10) = some (.slice p.a2 c.sz.length c.sz.length) := Mem.of_get at2 10 _ rfl
  refine .m rfl rfl rfl (.fieldAddr fo_54_2_VProf rfl) ?_
  refine .m rfl rfl rfl (.load on_23_B rfl (by assumption)) ?_
  refine .m rfl rfl rfl (.move rfl) ?_
  refine .call rfl rfl rfl rfl @Try.call27 rfl (markInt64SS_c) ?_
  rintro _ H16 ⟨rfl, mk16⟩
  have sm16 := mk16.stm
  have nx_H16 := sm16.nx
  replace at2 := sm16.same _ _ (by omega) at2
  replace w1 := w1.stm sm16
  replace w2 := w2.stm sm16
  replace w3 := w3.stm sm16
  replace w4 := w4.stm sm16
  replace w5 := w5.stm sm16
  clear mm2
  have mm2 : MemN _ _ _ _ _ := ⟨rfl, Mem.of_get at2⟩
  refine .m rfl rfl rfl (.assign rfl) ?_
  refine .nil ?_
  refine hK4 _ _ ?_
  refine .seq (fun K5 hK5 => ?_)
  refine .region ?_
  have c1 : H16.cell g2 (0 + 11) = some (.slice p.a3 c.be.length c.be.length) := Mem.of_get at2 11 _ rfl
  refine .m rfl rfl rfl (.fieldAddr fo_54_3_VProf rfl) ?_
  refine .m rfl rfl rfl (.load on_47_VProf rfl (by assumption)) ?_
  refine .m rfl rfl rfl (.move rfl) ?_
  refine .call rfl rfl rfl rfl @Try.call58 rfl (markInt64SSS_c) ?_
  rintro _ H20 ⟨rfl, mk20⟩
  have sm20 := mk20.stm
  have nx_H20 := sm20.nx
  replace at2 := sm20.same _ _ (by omega) at2
  replace w1 := w1.stm sm20
  replace w2 := w2.stm sm20
  replace w3 := w3.stm sm20
  replace w4 := w4.stm sm20
  replace w5 := w5.stm sm20
  clear mm2
  have mm2 : MemN _ _ _ _ _ := ⟨rfl, Mem.of_get at2⟩
  refine .m rfl rfl rfl (.assign rfl) ?_
  refine .nil ?_
  refine hK5 _ _ ?_
  refine .seq (fun K6 hK6 => ?_)
  refine .region ?_
  have c1 : H20.cell g2 (0 + 12) = some (.slice p.a4 c.bh.length c.bh.length) := Mem.of_get at2 12 _ rfl
  refine .m rfl rfl rfl (.fieldAddr fo_54_4_VProf rfl) ?_
  refine .m rfl rfl rfl (.load on_47_VProf rfl (by assumption)) ?_
  refine .m rfl rfl rfl (.move rfl) ?_
  refine .call rfl rfl rfl rfl @Try.call58 rfl (markInt64SSS_c) ?_
  rintro _ H24 ⟨rfl, mk24⟩
  have sm24 := mk24.stm
  have nx_H24 := sm24.nx
  replace at2 := sm24.same _ _ (by omega) at2
  replace w1 := w1.stm sm24
  replace w2 := w2.stm sm24
  replace w3 := w3.stm sm24
  replace w4 := w4.stm sm24
  replace w5 := w5.stm sm24
  clear mm2
  have mm2 : MemN _ _ _ _ _ := ⟨rfl, Mem.of_get at2⟩
  refine .m rfl rfl rfl (.assign rfl) ?_
  refine .nil ?_
  refine hK6 _ _ ?_
  refine .seq (fun K7 hK7 => ?_)
  refine .region ?_
  refine .m rfl rfl rfl (.move rfl) ?_
  refine .m rfl rfl rfl (.assign rfl) ?_
  refine .nil ?_
  refine hK7 _ _ ?_
  refine .ret ?_
  -- leaf e1
  refine hret _ _ ?_
  refine ⟨_, rfl, ?_⟩
  refine ⟨by rw [ht]; congr 1; omega, .le_left le2 (mk8.app' (mk12.app' (mk16.app' (mk20.app' mk24 ?_) ?_) ?_) ?_)⟩
  · rw [lvSum_rows3L _ _ _ (Nat.le_refl _), List.take_length]
  · rw [lvSum_rowsL_all]
  · rw [Cat.lvSum_leaves]
  · rw [Cat.lvSum_leaves]
end Go.Proofs.Ytbdaddkbkdiglaa
/- The law of CompositeTriples. No condition but those of each statement. -/
namespace Go.Proofs.Ytbdaddkbkdiglaa
open Go Go.GL Go.RowKit Go.Proofs
theorem ag_49_LCompositeTriples : aggT Try.prog 49 = some 13 := by kernel_rfl
set_option maxHeartbeats 40000000 in
theorem lawCompositeTriples_c {m : Prof} {p : ProfP} {k : Prof} {q : ProfP} {x : Int} {z : Int} {H : GHeap} (h0 : m.In H p) (w0 : m.Wide) (h1 : k.In H q) (w1 : k.Wide) (w2 : I64 x) (w3 : I64 z) :
    GCalls Try.prog 4 [.agg (m.cells p).toArray, .agg (k.cells q).toArray, .int .i64 x, .int .i64 z] H (fun v _ => v = .bool true) := by
  refine GCalls.body (N := 129) (rs := [.tmp 8]) Try.func4 rfl rfl rfl rfl (fun Qx hret hend => ?_)
  refine .forget (fr' := [(0, some _), (1, some _), (2, some _), (3, some _)]) ⟨rfl, rfl, rfl, rfl, trivial⟩ ?_
  have hle := GHeap.Le.refl H
  have base_h0 := h0
  have base_h1 := h1
  refine .seq (fun K1 hK1 => ?_)
  refine .region ?_
  refine .r rfl rfl rfl (.boxR rfl sz_49_VProf rfl) ?_
  rintro _ H4 ⟨g4, rfl, le4, ge4, at4⟩
  have nx_H4 := le4.1
  replace hle := hle.trans le4
  have lt_at4 := GHeap.lt_of_get at4
  replace h0 := base_h0.mono hle
  replace h1 := base_h1.mono hle
  have hb4 : Prof.At _ g4 0 m p := ⟨Mem.of_get at4, h0⟩
  obtain ⟨fs4, ft4, c104, c114, c124, i24, i34, i44⟩ := hb4.get
  have hm4 : MemN _ _ _ _ _ := ⟨rfl, hb4.1⟩
  have hi4 := hb4.2
  have hms4 : MemN _ _ _ _ _ := ⟨rfl, fs4.1⟩
  have his4 := fs4.2
  have hmt4 : MemN _ _ _ _ _ := ⟨rfl, ft4.1⟩
  have hit4 := ft4.2
  refine .r rfl rfl rfl (.boxR rfl sz_49_VProf rfl) ?_
  rintro _ H5 ⟨g5, rfl, le5, ge5, at5⟩
  have nx_H5 := le5.1
  replace hle := hle.trans le5
  replace at4 := le5.2 _ _ at4
  have lt_at5 := GHeap.lt_of_get at5
  replace h0 := base_h0.mono hle
  replace h1 := base_h1.mono hle
  clear hb4 fs4 ft4 c104 c114 c124 i24 i34 i44 hm4 hi4 hms4 his4 hmt4 hit4
  have hb4 : Prof.At _ g4 0 m p := ⟨Mem.of_get at4, h0⟩
  obtain ⟨fs4, ft4, c104, c114, c124, i24, i34, i44⟩ := hb4.get
  have hm4 : MemN _ _ _ _ _ := ⟨rfl, hb4.1⟩
  have hi4 := hb4.2
  have hms4 : MemN _ _ _ _ _ := ⟨rfl, fs4.1⟩
  have his4 := fs4.2
  have hmt4 : MemN _ _ _ _ _ := ⟨rfl, ft4.1⟩
  have hit4 := ft4.2
  have hb5 : Prof.At _ g5 0 k q := ⟨Mem.of_get at5, h1⟩
  obtain ⟨fs5, ft5, c105, c115, c125, i25, i35, i45⟩ := hb5.get
  have hm5 : MemN _ _ _ _ _ := ⟨rfl, hb5.1⟩
  have hi5 := hb5.2
  have hms5 : MemN _ _ _ _ _ := ⟨rfl, fs5.1⟩
  have his5 := fs5.2
  have hmt5 : MemN _ _ _ _ _ := ⟨rfl, ft5.1⟩
  have hit5 := ft5.2
  refine .m rfl rfl rfl (.assign rfl) ?_
  refine .nil ?_
  refine hK1 _ _ ?_
  refine .seq (fun K2 hK2 => ?_)
  refine .region ?_
  refine .m rfl rfl rfl (.assign rfl) ?_
  refine .nil ?_
  refine hK2 _ _ ?_
  refine .seq (fun K3 hK3 => ?_)
  refine .region ?_
  refine .m rfl rfl rfl (.loadM ag_49_LCompositeTriples rfl ⟨rfl, Mem.of_get at4⟩) ?_
  refine .m rfl rfl rfl (.move rfl) ?_
  refine .call rfl rfl rfl rfl @Try.call20 rfl (szProfunctor_c) ?_
  rintro _ _ ⟨heq, lf23, rfl, z123, z223, z323⟩
  obtain rfl := heq.symm
  refine .m rfl rfl rfl (.assign rfl) ?_
  refine .nil ?_
  refine hK3 _ _ ?_
  refine .seq (fun K4 hK4 => ?_)
  refine .seq (fun K5 hK5 => ?_)
  refine .region ?_
  refine .m rfl rfl rfl (.move rfl) ?_
  refine .m rfl rfl rfl (.cmp rfl rfl rfl) ?_
  refine .nil ?_
  refine hK5 _ _ ?_
  refine .cond rfl (fun h25 => ?_) (fun h25 => ?_)
  ·
   try simp only [sps] at h25
   refine .seq (fun K6 hK6 => ?_)
   refine .region ?_
   refine .m rfl rfl rfl (.assign rfl) ?_
   refine .nil ?_
   refine hK6 _ _ ?_
   refine .ret ?_
   -- leaf e1
   refine hret _ _ ?_
   refine ⟨_, rfl, ?_⟩
   first
   | exact rfl
   | exact absurd trivial (by assumption)
   | contradiction
   | (exfalso; omega)
  ·
   try simp only [sps] at h25
   have hsm23 := z323 (by omega)
   have tb23 := hsm23.tot
   refine .skip ?_
   refine hK4 _ _ ?_
   refine .seq (fun K7 hK7 => ?_)
   refine .region ?_
   refine .m rfl rfl rfl (.loadM ag_49_LCompositeTriples rfl ⟨rfl, Mem.of_get at5⟩) ?_
   refine .m rfl rfl rfl (.move rfl) ?_
   refine .call rfl rfl rfl rfl @Try.call20 rfl (szProfunctor_c) ?_
   rintro _ _ ⟨heq, lf28, rfl, z128, z228, z328⟩
   obtain rfl := heq.symm
   refine .m rfl rfl rfl (.assign rfl) ?_
   refine .nil ?_
   refine hK7 _ _ ?_
   refine .seq (fun K8 hK8 => ?_)
   refine .seq (fun K9 hK9 => ?_)
   refine .region ?_
   refine .m rfl rfl rfl (.move rfl) ?_
   refine .m rfl rfl rfl (.cmp rfl rfl rfl) ?_
   refine .nil ?_
   refine hK9 _ _ ?_
   refine .cond rfl (fun h30 => ?_) (fun h30 => ?_)
   ·
    try simp only [sps] at h30
    refine .seq (fun K10 hK10 => ?_)
    refine .region ?_
    refine .m rfl rfl rfl (.assign rfl) ?_
    refine .nil ?_
    refine hK10 _ _ ?_
    refine .ret ?_
    -- leaf e2
    refine hret _ _ ?_
    refine ⟨_, rfl, ?_⟩
    first
    | exact rfl
    | exact absurd trivial (by assumption)
    | contradiction
    | (exfalso; omega)
   ·
    simp only [sps] at h30
    obtain ⟨hcl, hcl2⟩ := ctR_small m k x z
    have hct := sumL_tot hcl hcl2
    have hsm28 := z328 (by omega)
    have tb28 := hsm28.tot
    refine .skip ?_
    refine hK8 _ _ ?_
    refine .seq (fun K11 hK11 => ?_)
    refine .regionD mixed_orders_B (.q 0 (.q 2 (.q 4 (.q 5 (.c 1 1 (.c 3 1 (.c 6 0 (.q 7 (.q 8 (.q 9 (.q 10 (.q 11 (.done))))))))))))) (by kernel_rfl) ?_
    refine .m rfl rfl rfl rfl (.refl _) (.loadM ag_49_LCompositeTriples rfl ⟨rfl, Mem.of_get at4⟩) ?_
    refine .m rfl rfl rfl rfl (.refl _) (.loadM ag_49_LCompositeTriples rfl ⟨rfl, Mem.of_get at5⟩) ?_
    refine .m rfl rfl rfl rfl (.refl _) (.move rfl) ?_
    refine .m rfl rfl rfl rfl (.refl _) (.move rfl) ?_
    refine .call1 rfl rfl rfl rfl rfl @Try.call22 rfl (toProfunctor_c) ?_
    rintro _ H33 ⟨le33, p33, rfl, v33⟩
    have hbl := le33
    refine ⟨hbl, ?_⟩
    have nx_H33 := le33.1
    replace hle := hle.trans le33
    replace at4 := le33.2 _ _ at4
    replace at5 := le33.2 _ _ at5
    have bs_v33 := v33
    have lv_v33 : Keep H5.next H33 H33 := fun _ _ _ h => h
    replace h0 := base_h0.mono hle
    replace h1 := base_h1.mono hle
    clear hb4 fs4 ft4 c104 c114 c124 i24 i34 i44 hm4 hi4 hms4 his4 hmt4 hit4
    have hb4 : Prof.At _ g4 0 m p := ⟨Mem.of_get at4, h0⟩
    obtain ⟨fs4, ft4, c104, c114, c124, i24, i34, i44⟩ := hb4.get
    have hm4 : MemN _ _ _ _ _ := ⟨rfl, hb4.1⟩
    have hi4 := hb4.2
    have hms4 : MemN _ _ _ _ _ := ⟨rfl, fs4.1⟩
    have his4 := fs4.2
    have hmt4 : MemN _ _ _ _ _ := ⟨rfl, ft4.1⟩
    have hit4 := ft4.2
    clear hb5 fs5 ft5 c105 c115 c125 i25 i35 i45 hm5 hi5 hms5 his5 hmt5 hit5
    have hb5 : Prof.At _ g5 0 k q := ⟨Mem.of_get at5, h1⟩
    obtain ⟨fs5, ft5, c105, c115, c125, i25, i35, i45⟩ := hb5.get
    have hm5 : MemN _ _ _ _ _ := ⟨rfl, hb5.1⟩
    have hi5 := hb5.2
    have hms5 : MemN _ _ _ _ _ := ⟨rfl, fs5.1⟩
    have his5 := fs5.2
    have hmt5 : MemN _ _ _ _ _ := ⟨rfl, ft5.1⟩
    have hit5 := ft5.2
    have i33 := v33.inn
    refine .call1 rfl rfl rfl rfl rfl @Try.call22 rfl (toProfunctor_c) ?_
    rintro _ H35 ⟨le35, p35, rfl, v35⟩
    replace hbl := hbl.trans le35
    refine ⟨hbl, ?_⟩
    have nx_H35 := le35.1
    replace hle := hle.trans le35
    replace at4 := le35.2 _ _ at4
    replace at5 := le35.2 _ _ at5
    replace lv_v33 := Keep.le lv_v33 le35
    replace v33 := bs_v33.keep lv_v33 (Nat.le_refl _)
    have bs_v35 := v35
    have lv_v35 : Keep H33.next H35 H35 := fun _ _ _ h => h
    replace h0 := base_h0.mono hle
    replace h1 := base_h1.mono hle
    clear hb4 fs4 ft4 c104 c114 c124 i24 i34 i44 hm4 hi4 hms4 his4 hmt4 hit4
    have hb4 : Prof.At _ g4 0 m p := ⟨Mem.of_get at4, h0⟩
    obtain ⟨fs4, ft4, c104, c114, c124, i24, i34, i44⟩ := hb4.get
    have hm4 : MemN _ _ _ _ _ := ⟨rfl, hb4.1⟩
    have hi4 := hb4.2
    have hms4 : MemN _ _ _ _ _ := ⟨rfl, fs4.1⟩
    have his4 := fs4.2
    have hmt4 : MemN _ _ _ _ _ := ⟨rfl, ft4.1⟩
    have hit4 := ft4.2
    clear hb5 fs5 ft5 c105 c115 c125 i25 i35 i45 hm5 hi5 hms5 his5 hmt5 hit5
    have hb5 : Prof.At _ g5 0 k q := ⟨Mem.of_get at5, h1⟩
    obtain ⟨fs5, ft5, c105, c115, c125, i25, i35, i45⟩ := hb5.get
    have hm5 : MemN _ _ _ _ _ := ⟨rfl, hb5.1⟩
    have hi5 := hb5.2
    have hms5 : MemN _ _ _ _ _ := ⟨rfl, fs5.1⟩
    have his5 := fs5.2
    have hmt5 : MemN _ _ _ _ _ := ⟨rfl, ft5.1⟩
    have hit5 := ft5.2
    clear i33
    have i33 := v33.inn
    have i35 := v35.inn
    refine .call0 rfl rfl rfl rfl rfl @Try.call21 rfl (specCompositeTriples_c) ?_
    rintro _ H38 ⟨le38, a38, r38, rfl, v38⟩
    have nx_H38 := le38.1
    replace hle := hle.trans le38
    replace at4 := le38.2 _ _ at4
    replace at5 := le38.2 _ _ at5
    replace lv_v33 := Keep.le lv_v33 le38
    replace v33 := bs_v33.keep lv_v33 (Nat.le_refl _)
    replace lv_v35 := Keep.le lv_v35 le38
    replace v35 := bs_v35.keep lv_v35 (Nat.le_refl _)
    have bs_v38 := v38
    have lv_v38 : Keep H35.next H38 H38 := fun _ _ _ h => h
    replace h0 := base_h0.mono hle
    replace h1 := base_h1.mono hle
    clear hb4 fs4 ft4 c104 c114 c124 i24 i34 i44 hm4 hi4 hms4 his4 hmt4 hit4
    have hb4 : Prof.At _ g4 0 m p := ⟨Mem.of_get at4, h0⟩
    obtain ⟨fs4, ft4, c104, c114, c124, i24, i34, i44⟩ := hb4.get
    have hm4 : MemN _ _ _ _ _ := ⟨rfl, hb4.1⟩
    have hi4 := hb4.2
    have hms4 : MemN _ _ _ _ _ := ⟨rfl, fs4.1⟩
    have his4 := fs4.2
    have hmt4 : MemN _ _ _ _ _ := ⟨rfl, ft4.1⟩
    have hit4 := ft4.2
    clear hb5 fs5 ft5 c105 c115 c125 i25 i35 i45 hm5 hi5 hms5 his5 hmt5 hit5
    have hb5 : Prof.At _ g5 0 k q := ⟨Mem.of_get at5, h1⟩
    obtain ⟨fs5, ft5, c105, c115, c125, i25, i35, i45⟩ := hb5.get
    have hm5 : MemN _ _ _ _ _ := ⟨rfl, hb5.1⟩
    have hi5 := hb5.2
    have hms5 : MemN _ _ _ _ _ := ⟨rfl, fs5.1⟩
    have his5 := fs5.2
    have hmt5 : MemN _ _ _ _ _ := ⟨rfl, ft5.1⟩
    have hit5 := ft5.2
    clear i33
    have i33 := v33.inn
    clear i35
    have i35 := v35.inn
    have i38 := v38.intss
    refine .m rfl rfl rfl rfl (.refl _) (.move rfl) ?_
    refine .m rfl rfl rfl rfl (.refl _) (.extract rfl rfl) ?_
    refine .m rfl rfl rfl rfl (.refl _) (.extract rfl rfl) ?_
    refine .m rfl rfl rfl rfl (.refl _) (.assign rfl) ?_
    refine .m rfl rfl rfl rfl (.refl _) (.assign rfl) ?_
    refine .done ?_
    refine hK11 _ _ ?_
    refine .seq (fun K12 hK12 => ?_)
    refine .region ?_
    refine .m rfl rfl rfl (.loadM ag_49_LCompositeTriples rfl ⟨rfl, Mem.of_get at4⟩) ?_
    refine .call rfl rfl rfl rfl @Try.call22 rfl (toProfunctor_c) ?_
    rintro _ H42 ⟨le42, p42, rfl, v42⟩
    have nx_H42 := le42.1
    replace hle := hle.trans le42
    replace at4 := le42.2 _ _ at4
    replace at5 := le42.2 _ _ at5
    replace lv_v33 := Keep.le lv_v33 le42
    replace v33 := bs_v33.keep lv_v33 (Nat.le_refl _)
    replace lv_v35 := Keep.le lv_v35 le42
    replace v35 := bs_v35.keep lv_v35 (Nat.le_refl _)
    replace lv_v38 := Keep.le lv_v38 le42
    replace v38 := bs_v38.keep lv_v38 (Nat.le_refl _)
    have bs_v42 := v42
    have lv_v42 : Keep H38.next H42 H42 := fun _ _ _ h => h
    replace h0 := base_h0.mono hle
    replace h1 := base_h1.mono hle
    clear hb4 fs4 ft4 c104 c114 c124 i24 i34 i44 hm4 hi4 hms4 his4 hmt4 hit4
    have hb4 : Prof.At _ g4 0 m p := ⟨Mem.of_get at4, h0⟩
    obtain ⟨fs4, ft4, c104, c114, c124, i24, i34, i44⟩ := hb4.get
    have hm4 : MemN _ _ _ _ _ := ⟨rfl, hb4.1⟩
    have hi4 := hb4.2
    have hms4 : MemN _ _ _ _ _ := ⟨rfl, fs4.1⟩
    have his4 := fs4.2
    have hmt4 : MemN _ _ _ _ _ := ⟨rfl, ft4.1⟩
    have hit4 := ft4.2
    clear hb5 fs5 ft5 c105 c115 c125 i25 i35 i45 hm5 hi5 hms5 his5 hmt5 hit5
    have hb5 : Prof.At _ g5 0 k q := ⟨Mem.of_get at5, h1⟩
    obtain ⟨fs5, ft5, c105, c115, c125, i25, i35, i45⟩ := hb5.get
    have hm5 : MemN _ _ _ _ _ := ⟨rfl, hb5.1⟩
    have hi5 := hb5.2
    have hms5 : MemN _ _ _ _ _ := ⟨rfl, fs5.1⟩
    have his5 := fs5.2
    have hmt5 : MemN _ _ _ _ _ := ⟨rfl, ft5.1⟩
    have hit5 := ft5.2
    clear i33
    have i33 := v33.inn
    clear i35
    have i35 := v35.inn
    clear i38
    have i38 := v38.intss
    have i42 := v42.inn
    refine .r rfl rfl rfl (.allocR rfl ze_54_VProf rfl) ?_
    rintro _ H12 ⟨g12, rfl, le12, ge12, at12⟩
    have nx_H12 := le12.1
    replace hle := hle.trans le12
    replace at4 := le12.2 _ _ at4
    replace at5 := le12.2 _ _ at5
    replace lv_v33 := Keep.le lv_v33 le12
    replace v33 := bs_v33.keep lv_v33 (Nat.le_refl _)
    replace lv_v35 := Keep.le lv_v35 le12
    replace v35 := bs_v35.keep lv_v35 (Nat.le_refl _)
    replace lv_v38 := Keep.le lv_v38 le12
    replace v38 := bs_v38.keep lv_v38 (Nat.le_refl _)
    replace lv_v42 := Keep.le lv_v42 le12
    replace v42 := bs_v42.keep lv_v42 (Nat.le_refl _)
    have lt_at12 := GHeap.lt_of_get at12
    replace h0 := base_h0.mono hle
    replace h1 := base_h1.mono hle
    clear hb4 fs4 ft4 c104 c114 c124 i24 i34 i44 hm4 hi4 hms4 his4 hmt4 hit4
    have hb4 : Prof.At _ g4 0 m p := ⟨Mem.of_get at4, h0⟩
    obtain ⟨fs4, ft4, c104, c114, c124, i24, i34, i44⟩ := hb4.get
    have hm4 : MemN _ _ _ _ _ := ⟨rfl, hb4.1⟩
    have hi4 := hb4.2
    have hms4 : MemN _ _ _ _ _ := ⟨rfl, fs4.1⟩
    have his4 := fs4.2
    have hmt4 : MemN _ _ _ _ _ := ⟨rfl, ft4.1⟩
    have hit4 := ft4.2
    clear hb5 fs5 ft5 c105 c115 c125 i25 i35 i45 hm5 hi5 hms5 his5 hmt5 hit5
    have hb5 : Prof.At _ g5 0 k q := ⟨Mem.of_get at5, h1⟩
    obtain ⟨fs5, ft5, c105, c115, c125, i25, i35, i45⟩ := hb5.get
    have hm5 : MemN _ _ _ _ _ := ⟨rfl, hb5.1⟩
    have hi5 := hb5.2
    have hms5 : MemN _ _ _ _ _ := ⟨rfl, fs5.1⟩
    have his5 := fs5.2
    have hmt5 : MemN _ _ _ _ _ := ⟨rfl, ft5.1⟩
    have hit5 := ft5.2
    clear i33
    have i33 := v33.inn
    clear i35
    have i35 := v35.inn
    clear i38
    have i38 := v38.intss
    clear i42
    have i42 := v42.inn
    refine .r0 rfl rfl (.fillR rfl sz_54_VProf rfl rfl rfl rfl (by assumption) (by first | rfl | exact Nat.le_of_ble_eq_true rfl | simp)) ?_
    rintro _ H9003 ⟨rfl, st9003, at9003⟩
    have nx_H9003 := st9003.nx
    replace hle := hle.st st9003 (fun k hk => ⟨by omega, trivial⟩)
    replace at4 := st9003.same _ _ ⟨by omega, trivial⟩ at4
    replace at5 := st9003.same _ _ ⟨by omega, trivial⟩ at5
    replace lv_v33 := Keep.st lv_v33 st9003 (fun k hb hk => ⟨by omega, trivial⟩)
    replace v33 := bs_v33.keep lv_v33 (Nat.le_refl _)
    replace lv_v35 := Keep.st lv_v35 st9003 (fun k hb hk => ⟨by omega, trivial⟩)
    replace v35 := bs_v35.keep lv_v35 (Nat.le_refl _)
    replace lv_v38 := Keep.st lv_v38 st9003 (fun k hb hk => ⟨by omega, trivial⟩)
    replace v38 := bs_v38.keep lv_v38 (Nat.le_refl _)
    replace lv_v42 := Keep.st lv_v42 st9003 (fun k hb hk => ⟨by omega, trivial⟩)
    replace v42 := bs_v42.keep lv_v42 (Nat.le_refl _)
    have lt_at9003 := GHeap.lt_of_get at9003
    replace h0 := base_h0.mono hle
    replace h1 := base_h1.mono hle
    clear hb4 fs4 ft4 c104 c114 c124 i24 i34 i44 hm4 hi4 hms4 his4 hmt4 hit4
    have hb4 : Prof.At _ g4 0 m p := ⟨Mem.of_get at4, h0⟩
    obtain ⟨fs4, ft4, c104, c114, c124, i24, i34, i44⟩ := hb4.get
    have hm4 : MemN _ _ _ _ _ := ⟨rfl, hb4.1⟩
    have hi4 := hb4.2
    have hms4 : MemN _ _ _ _ _ := ⟨rfl, fs4.1⟩
    have his4 := fs4.2
    have hmt4 : MemN _ _ _ _ _ := ⟨rfl, ft4.1⟩
    have hit4 := ft4.2
    clear hb5 fs5 ft5 c105 c115 c125 i25 i35 i45 hm5 hi5 hms5 his5 hmt5 hit5
    have hb5 : Prof.At _ g5 0 k q := ⟨Mem.of_get at5, h1⟩
    obtain ⟨fs5, ft5, c105, c115, c125, i25, i35, i45⟩ := hb5.get
    have hm5 : MemN _ _ _ _ _ := ⟨rfl, hb5.1⟩
    have hi5 := hb5.2
    have hms5 : MemN _ _ _ _ _ := ⟨rfl, fs5.1⟩
    have his5 := fs5.2
    have hmt5 : MemN _ _ _ _ _ := ⟨rfl, ft5.1⟩
    have hit5 := ft5.2
    clear i33
    have i33 := v33.inn
    clear i35
    have i35 := v35.inn
    clear i38
    have i38 := v38.intss
    clear i42
    have i42 := v42.inn
    have mm9003 : MemN _ _ _ _ _ := ⟨rfl, Mem.of_get at9003⟩
    refine .nil ?_
    refine hK12 _ _ ?_
    refine .seq (fun K13 hK13 => ?_)
    refine .region ?_
    refine .m rfl rfl rfl (.loadM ag_49_LCompositeTriples rfl ⟨rfl, Mem.of_get at5⟩) ?_
    refine .call rfl rfl rfl rfl @Try.call22 rfl (toProfunctor_c) ?_
    rintro _ H44 ⟨le44, p44, rfl, v44⟩
    have nx_H44 := le44.1
    replace hle := hle.trans le44
    replace at4 := le44.2 _ _ at4
    replace at5 := le44.2 _ _ at5
    replace at9003 := le44.2 _ _ at9003
    replace lv_v33 := Keep.le lv_v33 le44
    replace v33 := bs_v33.keep lv_v33 (Nat.le_refl _)
    replace lv_v35 := Keep.le lv_v35 le44
    replace v35 := bs_v35.keep lv_v35 (Nat.le_refl _)
    replace lv_v38 := Keep.le lv_v38 le44
    replace v38 := bs_v38.keep lv_v38 (Nat.le_refl _)
    replace lv_v42 := Keep.le lv_v42 le44
    replace v42 := bs_v42.keep lv_v42 (Nat.le_refl _)
    have bs_v44 := v44
    have lv_v44 : Keep H9003.next H44 H44 := fun _ _ _ h => h
    replace h0 := base_h0.mono hle
    replace h1 := base_h1.mono hle
    clear hb4 fs4 ft4 c104 c114 c124 i24 i34 i44 hm4 hi4 hms4 his4 hmt4 hit4
    have hb4 : Prof.At _ g4 0 m p := ⟨Mem.of_get at4, h0⟩
    obtain ⟨fs4, ft4, c104, c114, c124, i24, i34, i44⟩ := hb4.get
    have hm4 : MemN _ _ _ _ _ := ⟨rfl, hb4.1⟩
    have hi4 := hb4.2
    have hms4 : MemN _ _ _ _ _ := ⟨rfl, fs4.1⟩
    have his4 := fs4.2
    have hmt4 : MemN _ _ _ _ _ := ⟨rfl, ft4.1⟩
    have hit4 := ft4.2
    clear hb5 fs5 ft5 c105 c115 c125 i25 i35 i45 hm5 hi5 hms5 his5 hmt5 hit5
    have hb5 : Prof.At _ g5 0 k q := ⟨Mem.of_get at5, h1⟩
    obtain ⟨fs5, ft5, c105, c115, c125, i25, i35, i45⟩ := hb5.get
    have hm5 : MemN _ _ _ _ _ := ⟨rfl, hb5.1⟩
    have hi5 := hb5.2
    have hms5 : MemN _ _ _ _ _ := ⟨rfl, fs5.1⟩
    have his5 := fs5.2
    have hmt5 : MemN _ _ _ _ _ := ⟨rfl, ft5.1⟩
    have hit5 := ft5.2
    clear i33
    have i33 := v33.inn
    clear i35
    have i35 := v35.inn
    clear i38
    have i38 := v38.intss
    clear i42
    have i42 := v42.inn
    clear mm9003
    have mm9003 : MemN _ _ _ _ _ := ⟨rfl, Mem.of_get at9003⟩
    have i44 := v44.inn
    refine .r rfl rfl rfl (.allocR rfl ze_54_VProf rfl) ?_
    rintro _ H13 ⟨g13, rfl, le13, ge13, at13⟩
    have nx_H13 := le13.1
    replace hle := hle.trans le13
    replace at4 := le13.2 _ _ at4
    replace at5 := le13.2 _ _ at5
    replace at9003 := le13.2 _ _ at9003
    replace lv_v33 := Keep.le lv_v33 le13
    replace v33 := bs_v33.keep lv_v33 (Nat.le_refl _)
    replace lv_v35 := Keep.le lv_v35 le13
    replace v35 := bs_v35.keep lv_v35 (Nat.le_refl _)
    replace lv_v38 := Keep.le lv_v38 le13
    replace v38 := bs_v38.keep lv_v38 (Nat.le_refl _)
    replace lv_v42 := Keep.le lv_v42 le13
    replace v42 := bs_v42.keep lv_v42 (Nat.le_refl _)
    replace lv_v44 := Keep.le lv_v44 le13
    replace v44 := bs_v44.keep lv_v44 (Nat.le_refl _)
    have lt_at13 := GHeap.lt_of_get at13
    replace h0 := base_h0.mono hle
    replace h1 := base_h1.mono hle
    clear hb4 fs4 ft4 c104 c114 c124 i24 i34 i44 hm4 hi4 hms4 his4 hmt4 hit4
    have hb4 : Prof.At _ g4 0 m p := ⟨Mem.of_get at4, h0⟩
    obtain ⟨fs4, ft4, c104, c114, c124, i24, i34, i44⟩ := hb4.get
    have hm4 : MemN _ _ _ _ _ := ⟨rfl, hb4.1⟩
    have hi4 := hb4.2
    have hms4 : MemN _ _ _ _ _ := ⟨rfl, fs4.1⟩
    have his4 := fs4.2
    have hmt4 : MemN _ _ _ _ _ := ⟨rfl, ft4.1⟩
    have hit4 := ft4.2
    clear hb5 fs5 ft5 c105 c115 c125 i25 i35 i45 hm5 hi5 hms5 his5 hmt5 hit5
    have hb5 : Prof.At _ g5 0 k q := ⟨Mem.of_get at5, h1⟩
    obtain ⟨fs5, ft5, c105, c115, c125, i25, i35, i45⟩ := hb5.get
    have hm5 : MemN _ _ _ _ _ := ⟨rfl, hb5.1⟩
    have hi5 := hb5.2
    have hms5 : MemN _ _ _ _ _ := ⟨rfl, fs5.1⟩
    have his5 := fs5.2
    have hmt5 : MemN _ _ _ _ _ := ⟨rfl, ft5.1⟩
    have hit5 := ft5.2
    clear i33
    have i33 := v33.inn
    clear i35
    have i35 := v35.inn
    clear i38
    have i38 := v38.intss
    clear i42
    have i42 := v42.inn
    clear mm9003
    have mm9003 : MemN _ _ _ _ _ := ⟨rfl, Mem.of_get at9003⟩
    clear i44
    have i44 := v44.inn
    refine .r0 rfl rfl (.fillR rfl sz_54_VProf rfl rfl rfl rfl (by assumption) (by first | rfl | exact Nat.le_of_ble_eq_true rfl | simp)) ?_
    rintro _ H10003 ⟨rfl, st10003, at10003⟩
    have nx_H10003 := st10003.nx
    replace hle := hle.st st10003 (fun k hk => ⟨by omega, trivial⟩)
    replace at4 := st10003.same _ _ ⟨by omega, trivial⟩ at4
    replace at5 := st10003.same _ _ ⟨by omega, trivial⟩ at5
    replace at9003 := st10003.same _ _ ⟨by omega, trivial⟩ at9003
    replace lv_v33 := Keep.st lv_v33 st10003 (fun k hb hk => ⟨by omega, trivial⟩)
    replace v33 := bs_v33.keep lv_v33 (Nat.le_refl _)
    replace lv_v35 := Keep.st lv_v35 st10003 (fun k hb hk => ⟨by omega, trivial⟩)
    replace v35 := bs_v35.keep lv_v35 (Nat.le_refl _)
    replace lv_v38 := Keep.st lv_v38 st10003 (fun k hb hk => ⟨by omega, trivial⟩)
    replace v38 := bs_v38.keep lv_v38 (Nat.le_refl _)
    replace lv_v42 := Keep.st lv_v42 st10003 (fun k hb hk => ⟨by omega, trivial⟩)
    replace v42 := bs_v42.keep lv_v42 (Nat.le_refl _)
    replace lv_v44 := Keep.st lv_v44 st10003 (fun k hb hk => ⟨by omega, trivial⟩)
    replace v44 := bs_v44.keep lv_v44 (Nat.le_refl _)
    have lt_at10003 := GHeap.lt_of_get at10003
    replace h0 := base_h0.mono hle
    replace h1 := base_h1.mono hle
    clear hb4 fs4 ft4 c104 c114 c124 i24 i34 i44 hm4 hi4 hms4 his4 hmt4 hit4
    have hb4 : Prof.At _ g4 0 m p := ⟨Mem.of_get at4, h0⟩
    obtain ⟨fs4, ft4, c104, c114, c124, i24, i34, i44⟩ := hb4.get
    have hm4 : MemN _ _ _ _ _ := ⟨rfl, hb4.1⟩
    have hi4 := hb4.2
    have hms4 : MemN _ _ _ _ _ := ⟨rfl, fs4.1⟩
    have his4 := fs4.2
    have hmt4 : MemN _ _ _ _ _ := ⟨rfl, ft4.1⟩
    have hit4 := ft4.2
    clear hb5 fs5 ft5 c105 c115 c125 i25 i35 i45 hm5 hi5 hms5 his5 hmt5 hit5
    have hb5 : Prof.At _ g5 0 k q := ⟨Mem.of_get at5, h1⟩
    obtain ⟨fs5, ft5, c105, c115, c125, i25, i35, i45⟩ := hb5.get
    have hm5 : MemN _ _ _ _ _ := ⟨rfl, hb5.1⟩
    have hi5 := hb5.2
    have hms5 : MemN _ _ _ _ _ := ⟨rfl, fs5.1⟩
    have his5 := fs5.2
    have hmt5 : MemN _ _ _ _ _ := ⟨rfl, ft5.1⟩
    have hit5 := ft5.2
    clear i33
    have i33 := v33.inn
    clear i35
    have i35 := v35.inn
    clear i38
    have i38 := v38.intss
    clear i42
    have i42 := v42.inn
    clear mm9003
    have mm9003 : MemN _ _ _ _ _ := ⟨rfl, Mem.of_get at9003⟩
    clear i44
    have i44 := v44.inn
    have mm10003 : MemN _ _ _ _ _ := ⟨rfl, Mem.of_get at10003⟩
    refine .nil ?_
    refine hK13 _ _ ?_
    refine .seq (fun K14 hK14 => ?_)
    refine .region ?_
    refine .m rfl rfl rfl (.loadM ag_54_VProf rfl ⟨rfl, Mem.of_get at9003⟩) ?_
    refine .m rfl rfl rfl (.loadM ag_54_VProf rfl ⟨rfl, Mem.of_get at10003⟩) ?_
    refine .m rfl rfl rfl (.move rfl) ?_
    refine .m rfl rfl rfl (.move rfl) ?_
    refine .call rfl rfl rfl rfl @Try.call23 rfl (implCompositeTriples_c) ?_
    rintro _ H50 ⟨le50, a50, r50, rfl, v50⟩
    have nx_H50 := le50.1
    replace hle := hle.trans le50
    replace at4 := le50.2 _ _ at4
    replace at5 := le50.2 _ _ at5
    replace at9003 := le50.2 _ _ at9003
    replace at10003 := le50.2 _ _ at10003
    replace lv_v33 := Keep.le lv_v33 le50
    replace v33 := bs_v33.keep lv_v33 (Nat.le_refl _)
    replace lv_v35 := Keep.le lv_v35 le50
    replace v35 := bs_v35.keep lv_v35 (Nat.le_refl _)
    replace lv_v38 := Keep.le lv_v38 le50
    replace v38 := bs_v38.keep lv_v38 (Nat.le_refl _)
    replace lv_v42 := Keep.le lv_v42 le50
    replace v42 := bs_v42.keep lv_v42 (Nat.le_refl _)
    replace lv_v44 := Keep.le lv_v44 le50
    replace v44 := bs_v44.keep lv_v44 (Nat.le_refl _)
    have bs_v50 := v50
    have lv_v50 : Keep H10003.next H50 H50 := fun _ _ _ h => h
    replace h0 := base_h0.mono hle
    replace h1 := base_h1.mono hle
    clear hb4 fs4 ft4 c104 c114 c124 i24 i34 i44 hm4 hi4 hms4 his4 hmt4 hit4
    have hb4 : Prof.At _ g4 0 m p := ⟨Mem.of_get at4, h0⟩
    obtain ⟨fs4, ft4, c104, c114, c124, i24, i34, i44⟩ := hb4.get
    have hm4 : MemN _ _ _ _ _ := ⟨rfl, hb4.1⟩
    have hi4 := hb4.2
    have hms4 : MemN _ _ _ _ _ := ⟨rfl, fs4.1⟩
    have his4 := fs4.2
    have hmt4 : MemN _ _ _ _ _ := ⟨rfl, ft4.1⟩
    have hit4 := ft4.2
    clear hb5 fs5 ft5 c105 c115 c125 i25 i35 i45 hm5 hi5 hms5 his5 hmt5 hit5
    have hb5 : Prof.At _ g5 0 k q := ⟨Mem.of_get at5, h1⟩
    obtain ⟨fs5, ft5, c105, c115, c125, i25, i35, i45⟩ := hb5.get
    have hm5 : MemN _ _ _ _ _ := ⟨rfl, hb5.1⟩
    have hi5 := hb5.2
    have hms5 : MemN _ _ _ _ _ := ⟨rfl, fs5.1⟩
    have his5 := fs5.2
    have hmt5 : MemN _ _ _ _ _ := ⟨rfl, ft5.1⟩
    have hit5 := ft5.2
    clear i33
    have i33 := v33.inn
    clear i35
    have i35 := v35.inn
    clear i38
    have i38 := v38.intss
    clear i42
    have i42 := v42.inn
    clear mm9003
    have mm9003 : MemN _ _ _ _ _ := ⟨rfl, Mem.of_get at9003⟩
    clear i44
    have i44 := v44.inn
    clear mm10003
    have mm10003 : MemN _ _ _ _ _ := ⟨rfl, Mem.of_get at10003⟩
    have i50 := v50.intss
    refine .m rfl rfl rfl (.move rfl) ?_
    refine .m rfl rfl rfl (.extract rfl rfl) ?_
    refine .m rfl rfl rfl (.extract rfl rfl) ?_
    refine .m rfl rfl rfl (.assign rfl) ?_
    refine .m rfl rfl rfl (.assign rfl) ?_
    refine .nil ?_
    refine hK14 _ _ ?_
    refine .seq (fun K15 hK15 => ?_)
    refine .seq (fun K16 hK16 => ?_)
    refine .region ?_
    refine .m rfl rfl rfl (.move rfl) ?_
    refine .m rfl rfl rfl (.move rfl) ?_
    refine .callQ rfl rfl rfl rfl @Try.call24 rfl (eqInt64SS_c) ?_
    refine .m rfl rfl rfl (.not rfl) ?_
    refine .m rfl rfl rfl (.move rfl) ?_
    refine .split (fun h57 => ?_) (fun h57 => ?_)
    ·
     try simp only [sps] at h57
     refine .sg rfl rfl rfl rfl rfl ?_
     refine .sg rfl rfl rfl rfl rfl ?_
     refine .sg rfl rfl rfl rfl rfl ?_
     refine .m rfl rfl rfl (.pickT rfl rfl) ?_
     refine .nil ?_
     refine hK16 _ _ ?_
     refine .condT rfl ?_
     refine .seq (fun K17 hK17 => ?_)
     refine .region ?_
     refine .m rfl rfl rfl (.assign rfl) ?_
     refine .nil ?_
     refine hK17 _ _ ?_
     refine .ret ?_
     -- leaf e3
     refine hret _ _ ?_
     refine ⟨_, rfl, ?_⟩
     first
     | exact rfl
     | exact absurd trivial (by assumption)
     | contradiction
     | (exfalso; omega)
    ·
     try simp only [sps] at h57
     refine .mg rfl rfl rfl rfl rfl (.move rfl) ?_
     refine .mg rfl rfl rfl rfl rfl (.move rfl) ?_
     refine .mg rfl rfl rfl rfl rfl (.cmp rfl rfl rfl) ?_
     refine .m rfl rfl rfl (.pickF rfl rfl) ?_
     refine .nil ?_
     refine hK16 _ _ ?_
     refine .cond rfl (fun h61 => ?_) (fun h61 => ?_)
     ·
      try simp only [sps] at h61
      refine .seq (fun K18 hK18 => ?_)
      refine .region ?_
      refine .m rfl rfl rfl (.assign rfl) ?_
      refine .nil ?_
      refine hK18 _ _ ?_
      refine .ret ?_
      -- leaf e4
      refine hret _ _ ?_
      refine ⟨_, rfl, ?_⟩
      first
      | exact rfl
      | exact absurd trivial (by assumption)
      | contradiction
      | (exfalso; omega)
     ·
      try simp only [sps] at h61
      refine .skip ?_
      refine hK15 _ _ ?_
      refine .seq (fun K19 hK19 => ?_)
      refine .seq (fun K20 hK20 => ?_)
      refine .regionD mixed_orders_B (.q 0 (.q 1 (.c 2 1 (.c 3 0 (.q 4 (.done)))))) (by kernel_rfl) ?_
      refine .m rfl rfl rfl rfl (.refl _) (.loadM ag_54_VProf rfl ⟨rfl, Mem.of_get at9003⟩) ?_
      refine .m rfl rfl rfl rfl (.refl _) (.loadM ag_49_LCompositeTriples rfl ⟨rfl, Mem.of_get at4⟩) ?_
      refine .call1 rfl rfl rfl rfl rfl @Try.call22 rfl (toProfunctor_c) ?_
      rintro _ H64 ⟨le64, p64, rfl, v64⟩
      have hbl := le64
      refine ⟨hbl, ?_⟩
      have nx_H64 := le64.1
      replace hle := hle.trans le64
      replace at4 := le64.2 _ _ at4
      replace at5 := le64.2 _ _ at5
      replace at9003 := le64.2 _ _ at9003
      replace at10003 := le64.2 _ _ at10003
      replace lv_v33 := Keep.le lv_v33 le64
      replace v33 := bs_v33.keep lv_v33 (Nat.le_refl _)
      replace lv_v35 := Keep.le lv_v35 le64
      replace v35 := bs_v35.keep lv_v35 (Nat.le_refl _)
      replace lv_v38 := Keep.le lv_v38 le64
      replace v38 := bs_v38.keep lv_v38 (Nat.le_refl _)
      replace lv_v42 := Keep.le lv_v42 le64
      replace v42 := bs_v42.keep lv_v42 (Nat.le_refl _)
      replace lv_v44 := Keep.le lv_v44 le64
      replace v44 := bs_v44.keep lv_v44 (Nat.le_refl _)
      replace lv_v50 := Keep.le lv_v50 le64
      replace v50 := bs_v50.keep lv_v50 (Nat.le_refl _)
      have bs_v64 := v64
      have lv_v64 : Keep H50.next H64 H64 := fun _ _ _ h => h
      replace h0 := base_h0.mono hle
      replace h1 := base_h1.mono hle
      clear hb4 fs4 ft4 c104 c114 c124 i24 i34 i44 hm4 hi4 hms4 his4 hmt4 hit4
      have hb4 : Prof.At _ g4 0 m p := ⟨Mem.of_get at4, h0⟩
      obtain ⟨fs4, ft4, c104, c114, c124, i24, i34, i44⟩ := hb4.get
      have hm4 : MemN _ _ _ _ _ := ⟨rfl, hb4.1⟩
      have hi4 := hb4.2
      have hms4 : MemN _ _ _ _ _ := ⟨rfl, fs4.1⟩
      have his4 := fs4.2
      have hmt4 : MemN _ _ _ _ _ := ⟨rfl, ft4.1⟩
      have hit4 := ft4.2
      clear hb5 fs5 ft5 c105 c115 c125 i25 i35 i45 hm5 hi5 hms5 his5 hmt5 hit5
      have hb5 : Prof.At _ g5 0 k q := ⟨Mem.of_get at5, h1⟩
      obtain ⟨fs5, ft5, c105, c115, c125, i25, i35, i45⟩ := hb5.get
      have hm5 : MemN _ _ _ _ _ := ⟨rfl, hb5.1⟩
      have hi5 := hb5.2
      have hms5 : MemN _ _ _ _ _ := ⟨rfl, fs5.1⟩
      have his5 := fs5.2
      have hmt5 : MemN _ _ _ _ _ := ⟨rfl, ft5.1⟩
      have hit5 := ft5.2
      clear i33
      have i33 := v33.inn
      clear i35
      have i35 := v35.inn
      clear i38
      have i38 := v38.intss
      clear i42
      have i42 := v42.inn
      clear mm9003
      have mm9003 : MemN _ _ _ _ _ := ⟨rfl, Mem.of_get at9003⟩
      clear i44
      have i44 := v44.inn
      clear mm10003
      have mm10003 : MemN _ _ _ _ _ := ⟨rfl, Mem.of_get at10003⟩
      clear i50
      have i50 := v50.intss
      have i64 := v64.inn
      refine .callQ0 rfl rfl rfl rfl rfl @Try.call25 rfl (eqProfunctor_c) ?_
      refine .m rfl rfl rfl rfl (.refl _) (.not rfl) ?_
      refine .done ?_
      refine hK20 _ _ ?_
      refine .cond rfl (fun h66 => ?_) (fun h66 => ?_)
      ·
       try simp only [sps] at h66
       refine .seq (fun K21 hK21 => ?_)
       refine .region ?_
       refine .m rfl rfl rfl (.assign rfl) ?_
       refine .nil ?_
       refine hK21 _ _ ?_
       refine .ret ?_
       -- leaf e5
       refine hret _ _ ?_
       refine ⟨_, rfl, ?_⟩
       first
       | exact rfl
       | exact absurd trivial (by assumption)
       | contradiction
       | (exfalso; omega)
      ·
       try simp only [sps] at h66
       refine .skip ?_
       refine hK19 _ _ ?_
       refine .seq (fun K22 hK22 => ?_)
       refine .seq (fun K23 hK23 => ?_)
       refine .regionD mixed_orders_B (.q 0 (.q 1 (.c 2 1 (.c 3 0 (.q 4 (.done)))))) (by kernel_rfl) ?_
       refine .m rfl rfl rfl rfl (.refl _) (.loadM ag_54_VProf rfl ⟨rfl, Mem.of_get at10003⟩) ?_
       refine .m rfl rfl rfl rfl (.refl _) (.loadM ag_49_LCompositeTriples rfl ⟨rfl, Mem.of_get at5⟩) ?_
       refine .call1 rfl rfl rfl rfl rfl @Try.call22 rfl (toProfunctor_c) ?_
       rintro _ H69 ⟨le69, p69, rfl, v69⟩
       have hbl := le69
       refine ⟨hbl, ?_⟩
       have nx_H69 := le69.1
       replace hle := hle.trans le69
       replace at4 := le69.2 _ _ at4
       replace at5 := le69.2 _ _ at5
       replace at9003 := le69.2 _ _ at9003
       replace at10003 := le69.2 _ _ at10003
       replace lv_v33 := Keep.le lv_v33 le69
       replace v33 := bs_v33.keep lv_v33 (Nat.le_refl _)
       replace lv_v35 := Keep.le lv_v35 le69
       replace v35 := bs_v35.keep lv_v35 (Nat.le_refl _)
       replace lv_v38 := Keep.le lv_v38 le69
       replace v38 := bs_v38.keep lv_v38 (Nat.le_refl _)
       replace lv_v42 := Keep.le lv_v42 le69
       replace v42 := bs_v42.keep lv_v42 (Nat.le_refl _)
       replace lv_v44 := Keep.le lv_v44 le69
       replace v44 := bs_v44.keep lv_v44 (Nat.le_refl _)
       replace lv_v50 := Keep.le lv_v50 le69
       replace v50 := bs_v50.keep lv_v50 (Nat.le_refl _)
       replace lv_v64 := Keep.le lv_v64 le69
       replace v64 := bs_v64.keep lv_v64 (Nat.le_refl _)
       have bs_v69 := v69
       have lv_v69 : Keep H64.next H69 H69 := fun _ _ _ h => h
       replace h0 := base_h0.mono hle
       replace h1 := base_h1.mono hle
       clear hb4 fs4 ft4 c104 c114 c124 i24 i34 i44 hm4 hi4 hms4 his4 hmt4 hit4
       have hb4 : Prof.At _ g4 0 m p := ⟨Mem.of_get at4, h0⟩
       obtain ⟨fs4, ft4, c104, c114, c124, i24, i34, i44⟩ := hb4.get
       have hm4 : MemN _ _ _ _ _ := ⟨rfl, hb4.1⟩
       have hi4 := hb4.2
       have hms4 : MemN _ _ _ _ _ := ⟨rfl, fs4.1⟩
       have his4 := fs4.2
       have hmt4 : MemN _ _ _ _ _ := ⟨rfl, ft4.1⟩
       have hit4 := ft4.2
       clear hb5 fs5 ft5 c105 c115 c125 i25 i35 i45 hm5 hi5 hms5 his5 hmt5 hit5
       have hb5 : Prof.At _ g5 0 k q := ⟨Mem.of_get at5, h1⟩
       obtain ⟨fs5, ft5, c105, c115, c125, i25, i35, i45⟩ := hb5.get
       have hm5 : MemN _ _ _ _ _ := ⟨rfl, hb5.1⟩
       have hi5 := hb5.2
       have hms5 : MemN _ _ _ _ _ := ⟨rfl, fs5.1⟩
       have his5 := fs5.2
       have hmt5 : MemN _ _ _ _ _ := ⟨rfl, ft5.1⟩
       have hit5 := ft5.2
       clear i33
       have i33 := v33.inn
       clear i35
       have i35 := v35.inn
       clear i38
       have i38 := v38.intss
       clear i42
       have i42 := v42.inn
       clear mm9003
       have mm9003 : MemN _ _ _ _ _ := ⟨rfl, Mem.of_get at9003⟩
       clear i44
       have i44 := v44.inn
       clear mm10003
       have mm10003 : MemN _ _ _ _ _ := ⟨rfl, Mem.of_get at10003⟩
       clear i50
       have i50 := v50.intss
       clear i64
       have i64 := v64.inn
       have i69 := v69.inn
       refine .callQ0 rfl rfl rfl rfl rfl @Try.call25 rfl (eqProfunctor_c) ?_
       refine .m rfl rfl rfl rfl (.refl _) (.not rfl) ?_
       refine .done ?_
       refine hK23 _ _ ?_
       refine .cond rfl (fun h71 => ?_) (fun h71 => ?_)
       ·
        try simp only [sps] at h71
        refine .seq (fun K24 hK24 => ?_)
        refine .region ?_
        refine .m rfl rfl rfl (.assign rfl) ?_
        refine .nil ?_
        refine hK24 _ _ ?_
        refine .ret ?_
        -- leaf e6
        refine hret _ _ ?_
        refine ⟨_, rfl, ?_⟩
        first
        | exact rfl
        | exact absurd trivial (by assumption)
        | contradiction
        | (exfalso; omega)
       ·
        try simp only [sps] at h71
        refine .skip ?_
        refine hK22 _ _ ?_
        refine .seq (fun K25 hK25 => ?_)
        refine .region ?_
        refine .m rfl rfl rfl (.assign rfl) ?_
        refine .nil ?_
        refine hK25 _ _ ?_
        refine .seq (fun K26 hK26 => ?_)
        refine .region ?_
        refine .m rfl rfl rfl (.loadM ag_54_VProf rfl ⟨rfl, Mem.of_get at9003⟩) ?_
        refine .m rfl rfl rfl (.move rfl) ?_
        have w_v42 := ProfW.of_at bs_v42 lv_v42
        refine .call rfl rfl rfl rfl @Try.call26 rfl (markProfunctor_c) ?_
        rintro _ H74 ⟨rfl, mk74⟩
        have sm74 := mk74.stm
        have nx_H74 := sm74.nx
        replace hle := StM.le_left hle sm74 (by omega)
        replace at4 := sm74.same _ _ (by omega) at4
        replace at5 := sm74.same _ _ (by omega) at5
        replace at9003 := sm74.same _ _ (by omega) at9003
        replace at10003 := sm74.same _ _ (by omega) at10003
        replace lv_v33 := Keep.stM lv_v33 sm74 (fun k hb hk => by omega)
        replace v33 := bs_v33.keep lv_v33 (Nat.le_refl _)
        replace lv_v35 := Keep.stM lv_v35 sm74 (fun k hb hk => by omega)
        replace v35 := bs_v35.keep lv_v35 (Nat.le_refl _)
        replace lv_v38 := Keep.stM lv_v38 sm74 (fun k hb hk => by omega)
        replace v38 := bs_v38.keep lv_v38 (Nat.le_refl _)
        replace lv_v44 := Keep.stM lv_v44 sm74 (fun k hb hk => by omega)
        replace v44 := bs_v44.keep lv_v44 (Nat.le_refl _)
        replace lv_v50 := Keep.stM lv_v50 sm74 (fun k hb hk => by omega)
        replace v50 := bs_v50.keep lv_v50 (Nat.le_refl _)
        replace lv_v64 := Keep.stM lv_v64 sm74 (fun k hb hk => by omega)
        replace v64 := bs_v64.keep lv_v64 (Nat.le_refl _)
        replace lv_v69 := Keep.stM lv_v69 sm74 (fun k hb hk => by omega)
        replace v69 := bs_v69.keep lv_v69 (Nat.le_refl _)
        replace h0 := base_h0.mono hle
        replace h1 := base_h1.mono hle
        clear hb4 fs4 ft4 c104 c114 c124 i24 i34 i44 hm4 hi4 hms4 his4 hmt4 hit4
        have hb4 : Prof.At _ g4 0 m p := ⟨Mem.of_get at4, h0⟩
        obtain ⟨fs4, ft4, c104, c114, c124, i24, i34, i44⟩ := hb4.get
        have hm4 : MemN _ _ _ _ _ := ⟨rfl, hb4.1⟩
        have hi4 := hb4.2
        have hms4 : MemN _ _ _ _ _ := ⟨rfl, fs4.1⟩
        have his4 := fs4.2
        have hmt4 : MemN _ _ _ _ _ := ⟨rfl, ft4.1⟩
        have hit4 := ft4.2
        clear hb5 fs5 ft5 c105 c115 c125 i25 i35 i45 hm5 hi5 hms5 his5 hmt5 hit5
        have hb5 : Prof.At _ g5 0 k q := ⟨Mem.of_get at5, h1⟩
        obtain ⟨fs5, ft5, c105, c115, c125, i25, i35, i45⟩ := hb5.get
        have hm5 : MemN _ _ _ _ _ := ⟨rfl, hb5.1⟩
        have hi5 := hb5.2
        have hms5 : MemN _ _ _ _ _ := ⟨rfl, fs5.1⟩
        have his5 := fs5.2
        have hmt5 : MemN _ _ _ _ _ := ⟨rfl, ft5.1⟩
        have hit5 := ft5.2
        clear i33
        have i33 := v33.inn
        clear i35
        have i35 := v35.inn
        clear i38
        have i38 := v38.intss
        clear mm9003
        have mm9003 : MemN _ _ _ _ _ := ⟨rfl, Mem.of_get at9003⟩
        clear i44
        have i44 := v44.inn
        clear mm10003
        have mm10003 : MemN _ _ _ _ _ := ⟨rfl, Mem.of_get at10003⟩
        clear i50
        have i50 := v50.intss
        clear i64
        have i64 := v64.inn
        clear i69
        have i69 := v69.inn
        refine .m rfl rfl rfl (.assign rfl) ?_
        refine .nil ?_
        refine hK26 _ _ ?_
        refine .seq (fun K27 hK27 => ?_)
        refine .region ?_
        refine .m rfl rfl rfl (.loadM ag_54_VProf rfl ⟨rfl, Mem.of_get at10003⟩) ?_
        refine .m rfl rfl rfl (.move rfl) ?_
        have w_v44 := ProfW.of_at bs_v44 lv_v44
        refine .call rfl rfl rfl rfl @Try.call26 rfl (markProfunctor_c) ?_
        rintro _ H77 ⟨rfl, mk77⟩
        have sm77 := mk77.stm
        have nx_H77 := sm77.nx
        replace hle := StM.le_left hle sm77 (by omega)
        replace at4 := sm77.same _ _ (by omega) at4
        replace at5 := sm77.same _ _ (by omega) at5
        replace at9003 := sm77.same _ _ (by omega) at9003
        replace at10003 := sm77.same _ _ (by omega) at10003
        replace lv_v33 := Keep.stM lv_v33 sm77 (fun k hb hk => by omega)
        replace v33 := bs_v33.keep lv_v33 (Nat.le_refl _)
        replace lv_v35 := Keep.stM lv_v35 sm77 (fun k hb hk => by omega)
        replace v35 := bs_v35.keep lv_v35 (Nat.le_refl _)
        replace lv_v38 := Keep.stM lv_v38 sm77 (fun k hb hk => by omega)
        replace v38 := bs_v38.keep lv_v38 (Nat.le_refl _)
        replace lv_v50 := Keep.stM lv_v50 sm77 (fun k hb hk => by omega)
        replace v50 := bs_v50.keep lv_v50 (Nat.le_refl _)
        replace lv_v64 := Keep.stM lv_v64 sm77 (fun k hb hk => by omega)
        replace v64 := bs_v64.keep lv_v64 (Nat.le_refl _)
        replace lv_v69 := Keep.stM lv_v69 sm77 (fun k hb hk => by omega)
        replace v69 := bs_v69.keep lv_v69 (Nat.le_refl _)
        replace h0 := base_h0.mono hle
        replace h1 := base_h1.mono hle
        clear hb4 fs4 ft4 c104 c114 c124 i24 i34 i44 hm4 hi4 hms4 his4 hmt4 hit4
        have hb4 : Prof.At _ g4 0 m p := ⟨Mem.of_get at4, h0⟩
        obtain ⟨fs4, ft4, c104, c114, c124, i24, i34, i44⟩ := hb4.get
        have hm4 : MemN _ _ _ _ _ := ⟨rfl, hb4.1⟩
        have hi4 := hb4.2
        have hms4 : MemN _ _ _ _ _ := ⟨rfl, fs4.1⟩
        have his4 := fs4.2
        have hmt4 : MemN _ _ _ _ _ := ⟨rfl, ft4.1⟩
        have hit4 := ft4.2
        clear hb5 fs5 ft5 c105 c115 c125 i25 i35 i45 hm5 hi5 hms5 his5 hmt5 hit5
        have hb5 : Prof.At _ g5 0 k q := ⟨Mem.of_get at5, h1⟩
        obtain ⟨fs5, ft5, c105, c115, c125, i25, i35, i45⟩ := hb5.get
        have hm5 : MemN _ _ _ _ _ := ⟨rfl, hb5.1⟩
        have hi5 := hb5.2
        have hms5 : MemN _ _ _ _ _ := ⟨rfl, fs5.1⟩
        have his5 := fs5.2
        have hmt5 : MemN _ _ _ _ _ := ⟨rfl, ft5.1⟩
        have hit5 := ft5.2
        clear i33
        have i33 := v33.inn
        clear i35
        have i35 := v35.inn
        clear i38
        have i38 := v38.intss
        clear mm9003
        have mm9003 : MemN _ _ _ _ _ := ⟨rfl, Mem.of_get at9003⟩
        clear mm10003
        have mm10003 : MemN _ _ _ _ _ := ⟨rfl, Mem.of_get at10003⟩
        clear i50
        have i50 := v50.intss
        clear i64
        have i64 := v64.inn
        clear i69
        have i69 := v69.inn
        refine .m rfl rfl rfl (.assign rfl) ?_
        refine .nil ?_
        refine hK27 _ _ ?_
        refine .seq (fun K28 hK28 => ?_)
        refine .seq (fun K29 hK29 => ?_)
        refine .region ?_
        refine .m rfl rfl rfl (.move rfl) ?_
        refine .m rfl rfl rfl (.cmp rfl rfl rfl) ?_
        refine .m rfl rfl rfl (.move rfl) ?_
        refine .split (fun h80 => ?_) (fun h80 => ?_)
        ·
         try simp only [sps] at h80
         refine .sg rfl rfl rfl rfl rfl ?_
         refine .sg rfl rfl rfl rfl rfl ?_
         refine .sg rfl rfl rfl rfl rfl ?_
         refine .sg rfl rfl rfl rfl rfl ?_
         refine .m rfl rfl rfl (.pickT rfl rfl) ?_
         refine .m rfl rfl rfl (.move rfl) ?_
         refine .sg rfl rfl rfl rfl rfl ?_
         refine .sg rfl rfl rfl rfl rfl ?_
         refine .sg rfl rfl rfl rfl rfl ?_
         refine .m rfl rfl rfl (.pickT rfl rfl) ?_
         refine .nil ?_
         refine hK29 _ _ ?_
         refine .condT rfl ?_
         refine .seq (fun K30 hK30 => ?_)
         refine .region ?_
         refine .m rfl rfl rfl (.assign rfl) ?_
         refine .nil ?_
         refine hK30 _ _ ?_
         refine .ret ?_
         -- leaf e7
         refine hret _ _ ?_
         refine ⟨_, rfl, ?_⟩
         first
         | exact rfl
         | exact absurd trivial (by assumption)
         | contradiction
         | (exfalso; omega)
        ·
         try simp only [sps] at h80
         refine .mg rfl rfl rfl rfl rfl (.move rfl) ?_
         refine .mg rfl rfl rfl rfl rfl (.move rfl) ?_
         refine .callQg rfl rfl rfl rfl rfl rfl @Try.call24 rfl (eqInt64SS_c) ?_
         refine .mg rfl rfl rfl rfl rfl (.not rfl) ?_
         refine .m rfl rfl rfl (.pickF rfl rfl) ?_
         refine .m rfl rfl rfl (.move rfl) ?_
         refine .split (fun h86 => ?_) (fun h86 => ?_)
         ·
          try simp only [sps] at h86
          refine .sg rfl rfl rfl rfl rfl ?_
          refine .sg rfl rfl rfl rfl rfl ?_
          refine .sg rfl rfl rfl rfl rfl ?_
          refine .m rfl rfl rfl (.pickT rfl rfl) ?_
          refine .nil ?_
          refine hK29 _ _ ?_
          refine .condT rfl ?_
          refine .seq (fun K31 hK31 => ?_)
          refine .region ?_
          refine .m rfl rfl rfl (.assign rfl) ?_
          refine .nil ?_
          refine hK31 _ _ ?_
          refine .ret ?_
          -- leaf e8
          refine hret _ _ ?_
          refine ⟨_, rfl, ?_⟩
          first
          | exact rfl
          | exact absurd trivial (by assumption)
          | contradiction
          | (exfalso; omega)
         ·
          try simp only [sps] at h86
          refine .mg rfl rfl rfl rfl rfl (.move rfl) ?_
          refine .mg rfl rfl rfl rfl rfl (.move rfl) ?_
          refine .mg rfl rfl rfl rfl rfl (.cmp rfl rfl rfl) ?_
          refine .m rfl rfl rfl (.pickF rfl rfl) ?_
          refine .nil ?_
          refine hK29 _ _ ?_
          refine .cond rfl (fun h90 => ?_) (fun h90 => ?_)
          ·
           try simp only [sps] at h90
           refine .seq (fun K32 hK32 => ?_)
           refine .region ?_
           refine .m rfl rfl rfl (.assign rfl) ?_
           refine .nil ?_
           refine hK32 _ _ ?_
           refine .ret ?_
           -- leaf e9
           refine hret _ _ ?_
           refine ⟨_, rfl, ?_⟩
           first
           | exact rfl
           | exact absurd trivial (by assumption)
           | contradiction
           | (exfalso; omega)
          ·
           try simp only [sps] at h90
           refine .skip ?_
           refine hK28 _ _ ?_
           refine .seq (fun K33 hK33 => ?_)
           refine .region ?_
           refine .m rfl rfl rfl (.assign rfl) ?_
           refine .nil ?_
           refine hK33 _ _ ?_
           refine .seq (fun K34 hK34 => ?_)
           refine .region ?_
           refine .m rfl rfl rfl (.move rfl) ?_
           refine .m rfl rfl rfl (.move rfl) ?_
           have w_v50 := IntssW.of_r bs_v50 lv_v50
           refine .call rfl rfl rfl rfl @Try.call27 rfl (markInt64SS_c) ?_
           rintro _ H93 ⟨rfl, mk93⟩
           have sm93 := mk93.stm
           have nx_H93 := sm93.nx
           replace hle := StM.le_left hle sm93 (by omega)
           replace at4 := sm93.same _ _ (by omega) at4
           replace at5 := sm93.same _ _ (by omega) at5
           replace at9003 := sm93.same _ _ (by omega) at9003
           replace at10003 := sm93.same _ _ (by omega) at10003
           replace lv_v33 := Keep.stM lv_v33 sm93 (fun k hb hk => by omega)
           replace v33 := bs_v33.keep lv_v33 (Nat.le_refl _)
           replace lv_v35 := Keep.stM lv_v35 sm93 (fun k hb hk => by omega)
           replace v35 := bs_v35.keep lv_v35 (Nat.le_refl _)
           replace lv_v38 := Keep.stM lv_v38 sm93 (fun k hb hk => by omega)
           replace v38 := bs_v38.keep lv_v38 (Nat.le_refl _)
           replace lv_v64 := Keep.stM lv_v64 sm93 (fun k hb hk => by omega)
           replace v64 := bs_v64.keep lv_v64 (Nat.le_refl _)
           replace lv_v69 := Keep.stM lv_v69 sm93 (fun k hb hk => by omega)
           replace v69 := bs_v69.keep lv_v69 (Nat.le_refl _)
           replace h0 := base_h0.mono hle
           replace h1 := base_h1.mono hle
           clear hb4 fs4 ft4 c104 c114 c124 i24 i34 i44 hm4 hi4 hms4 his4 hmt4 hit4
           have hb4 : Prof.At _ g4 0 m p := ⟨Mem.of_get at4, h0⟩
           obtain ⟨fs4, ft4, c104, c114, c124, i24, i34, i44⟩ := hb4.get
           have hm4 : MemN _ _ _ _ _ := ⟨rfl, hb4.1⟩
           have hi4 := hb4.2
           have hms4 : MemN _ _ _ _ _ := ⟨rfl, fs4.1⟩
           have his4 := fs4.2
           have hmt4 : MemN _ _ _ _ _ := ⟨rfl, ft4.1⟩
           have hit4 := ft4.2
           clear hb5 fs5 ft5 c105 c115 c125 i25 i35 i45 hm5 hi5 hms5 his5 hmt5 hit5
           have hb5 : Prof.At _ g5 0 k q := ⟨Mem.of_get at5, h1⟩
           obtain ⟨fs5, ft5, c105, c115, c125, i25, i35, i45⟩ := hb5.get
           have hm5 : MemN _ _ _ _ _ := ⟨rfl, hb5.1⟩
           have hi5 := hb5.2
           have hms5 : MemN _ _ _ _ _ := ⟨rfl, fs5.1⟩
           have his5 := fs5.2
           have hmt5 : MemN _ _ _ _ _ := ⟨rfl, ft5.1⟩
           have hit5 := ft5.2
           clear i33
           have i33 := v33.inn
           clear i35
           have i35 := v35.inn
           clear i38
           have i38 := v38.intss
           clear mm9003
           have mm9003 : MemN _ _ _ _ _ := ⟨rfl, Mem.of_get at9003⟩
           clear mm10003
           have mm10003 : MemN _ _ _ _ _ := ⟨rfl, Mem.of_get at10003⟩
           clear i64
           have i64 := v64.inn
           clear i69
           have i69 := v69.inn
           have hd93 := mk93.held (v50.2)
           have wd93 := w_v50.stm sm93
           have bs_hd93 := hd93
           have lv_hd93 : Keep H10003.next H93 H93 := fun _ _ _ h => h
           have bs_wd93 := wd93
           have lv_wd93 : Keep H10003.next H93 H93 := fun _ _ _ h => h
           refine .m rfl rfl rfl (.assign rfl) ?_
           refine .nil ?_
           refine hK34 _ _ ?_
           refine .seq (fun K35 hK35 => ?_)
           refine .region ?_
           refine .m rfl rfl rfl (.assign rfl) ?_
           refine .nil ?_
           refine hK35 _ _ ?_
           refine .seq (fun K36 hK36 => ?_)
           refine .region ?_
           refine .m rfl rfl rfl (.move rfl) ?_
           refine .m rfl rfl rfl (.move rfl) ?_
           refine .callQ rfl rfl rfl rfl @Try.call28 rfl (heldInt64SSw_c) ?_
           refine .m rfl rfl rfl (.assign rfl) ?_
           refine .nil ?_
           refine hK36 _ _ ?_
           refine .seq (fun K37 hK37 => ?_)
           refine .seq (fun K38 hK38 => ?_)
           refine .region ?_
           refine .m rfl rfl rfl (.move rfl) ?_
           refine .m rfl rfl rfl (.cmp rfl rfl rfl) ?_
           refine .nil ?_
           refine hK38 _ _ ?_
           refine .cond rfl (fun h98 => ?_) (fun h98 => ?_)
           ·
            try simp only [sps] at h98
            refine .seq (fun K39 hK39 => ?_)
            refine .region ?_
            refine .m rfl rfl rfl (.assign rfl) ?_
            refine .nil ?_
            refine hK39 _ _ ?_
            refine .ret ?_
            -- leaf e10
            refine hret _ _ ?_
            refine ⟨_, rfl, ?_⟩
            first
            | exact rfl
            | exact absurd trivial (by assumption)
            | contradiction
            | (exfalso; omega)
           ·
            try simp only [sps] at h98
            refine .skip ?_
            refine hK37 _ _ ?_
            refine .seq (fun K40 hK40 => ?_)
            refine .seq (fun K41 hK41 => ?_)
            refine .region ?_
            refine .m rfl rfl rfl (.move rfl) ?_
            refine .m rfl rfl rfl (.move rfl) ?_
            refine .m rfl rfl rfl (.cmp rfl rfl rfl) ?_
            refine .nil ?_
            refine hK41 _ _ ?_
            refine .cond rfl (fun h101 => ?_) (fun h101 => ?_)
            ·
             try simp only [sps] at h101
             refine .seq (fun K42 hK42 => ?_)
             refine .region ?_
             refine .m rfl rfl rfl (.assign rfl) ?_
             refine .nil ?_
             refine hK42 _ _ ?_
             refine .ret ?_
             -- leaf e11
             refine hret _ _ ?_
             refine ⟨_, rfl, ?_⟩
             first
             | exact rfl
             | exact absurd trivial (by assumption)
             | contradiction
             | (exfalso; omega)
            ·
             try simp only [sps] at h101
             refine .skip ?_
             refine hK40 _ _ ?_
             refine .seq (fun K43 hK43 => ?_)
             refine .regionD mixed_orders_B (.q 0 (.q 2 (.q 4 (.q 5 (.c 1 1 (.c 3 1 (.c 6 0 (.q 7 (.q 8 (.q 9 (.q 10 (.q 11 (.done))))))))))))) (by kernel_rfl) ?_
             refine .m rfl rfl rfl rfl (.refl _) (.loadM ag_49_LCompositeTriples rfl ⟨rfl, Mem.of_get at4⟩) ?_
             refine .m rfl rfl rfl rfl (.refl _) (.loadM ag_49_LCompositeTriples rfl ⟨rfl, Mem.of_get at5⟩) ?_
             refine .m rfl rfl rfl rfl (.refl _) (.move rfl) ?_
             refine .m rfl rfl rfl rfl (.refl _) (.move rfl) ?_
             refine .call1 rfl rfl rfl rfl rfl @Try.call22 rfl (toProfunctor_c) ?_
             rintro _ H104 ⟨le104, p104, rfl, v104⟩
             have hbl := le104
             refine ⟨hbl, ?_⟩
             have nx_H104 := le104.1
             replace hle := hle.trans le104
             replace at4 := le104.2 _ _ at4
             replace at5 := le104.2 _ _ at5
             replace at9003 := le104.2 _ _ at9003
             replace at10003 := le104.2 _ _ at10003
             replace lv_v33 := Keep.le lv_v33 le104
             replace v33 := bs_v33.keep lv_v33 (Nat.le_refl _)
             replace lv_v35 := Keep.le lv_v35 le104
             replace v35 := bs_v35.keep lv_v35 (Nat.le_refl _)
             replace lv_v38 := Keep.le lv_v38 le104
             replace v38 := bs_v38.keep lv_v38 (Nat.le_refl _)
             replace lv_v64 := Keep.le lv_v64 le104
             replace v64 := bs_v64.keep lv_v64 (Nat.le_refl _)
             replace lv_v69 := Keep.le lv_v69 le104
             replace v69 := bs_v69.keep lv_v69 (Nat.le_refl _)
             replace lv_hd93 := Keep.le lv_hd93 le104
             replace hd93 := bs_hd93.keep lv_hd93 (Nat.le_refl _)
             replace lv_wd93 := Keep.le lv_wd93 le104
             replace wd93 := bs_wd93.keep lv_wd93 (Nat.le_refl _)
             have bs_v104 := v104
             have lv_v104 : Keep H93.next H104 H104 := fun _ _ _ h => h
             replace h0 := base_h0.mono hle
             replace h1 := base_h1.mono hle
             clear hb4 fs4 ft4 c104 c114 c124 i24 i34 i44 hm4 hi4 hms4 his4 hmt4 hit4
             have hb4 : Prof.At _ g4 0 m p := ⟨Mem.of_get at4, h0⟩
             obtain ⟨fs4, ft4, c104, c114, c124, i24, i34, i44⟩ := hb4.get
             have hm4 : MemN _ _ _ _ _ := ⟨rfl, hb4.1⟩
             have hi4 := hb4.2
             have hms4 : MemN _ _ _ _ _ := ⟨rfl, fs4.1⟩
             have his4 := fs4.2
             have hmt4 : MemN _ _ _ _ _ := ⟨rfl, ft4.1⟩
             have hit4 := ft4.2
             clear hb5 fs5 ft5 c105 c115 c125 i25 i35 i45 hm5 hi5 hms5 his5 hmt5 hit5
             have hb5 : Prof.At _ g5 0 k q := ⟨Mem.of_get at5, h1⟩
             obtain ⟨fs5, ft5, c105, c115, c125, i25, i35, i45⟩ := hb5.get
             have hm5 : MemN _ _ _ _ _ := ⟨rfl, hb5.1⟩
             have hi5 := hb5.2
             have hms5 : MemN _ _ _ _ _ := ⟨rfl, fs5.1⟩
             have his5 := fs5.2
             have hmt5 : MemN _ _ _ _ _ := ⟨rfl, ft5.1⟩
             have hit5 := ft5.2
             clear i33
             have i33 := v33.inn
             clear i35
             have i35 := v35.inn
             clear i38
             have i38 := v38.intss
             clear mm9003
             have mm9003 : MemN _ _ _ _ _ := ⟨rfl, Mem.of_get at9003⟩
             clear mm10003
             have mm10003 : MemN _ _ _ _ _ := ⟨rfl, Mem.of_get at10003⟩
             clear i64
             have i64 := v64.inn
             clear i69
             have i69 := v69.inn
             have i104 := v104.inn
             refine .call1 rfl rfl rfl rfl rfl @Try.call22 rfl (toProfunctor_c) ?_
             rintro _ H106 ⟨le106, p106, rfl, v106⟩
             replace hbl := hbl.trans le106
             refine ⟨hbl, ?_⟩
             have nx_H106 := le106.1
             replace hle := hle.trans le106
             replace at4 := le106.2 _ _ at4
             replace at5 := le106.2 _ _ at5
             replace at9003 := le106.2 _ _ at9003
             replace at10003 := le106.2 _ _ at10003
             replace lv_v33 := Keep.le lv_v33 le106
             replace v33 := bs_v33.keep lv_v33 (Nat.le_refl _)
             replace lv_v35 := Keep.le lv_v35 le106
             replace v35 := bs_v35.keep lv_v35 (Nat.le_refl _)
             replace lv_v38 := Keep.le lv_v38 le106
             replace v38 := bs_v38.keep lv_v38 (Nat.le_refl _)
             replace lv_v64 := Keep.le lv_v64 le106
             replace v64 := bs_v64.keep lv_v64 (Nat.le_refl _)
             replace lv_v69 := Keep.le lv_v69 le106
             replace v69 := bs_v69.keep lv_v69 (Nat.le_refl _)
             replace lv_hd93 := Keep.le lv_hd93 le106
             replace hd93 := bs_hd93.keep lv_hd93 (Nat.le_refl _)
             replace lv_wd93 := Keep.le lv_wd93 le106
             replace wd93 := bs_wd93.keep lv_wd93 (Nat.le_refl _)
             replace lv_v104 := Keep.le lv_v104 le106
             replace v104 := bs_v104.keep lv_v104 (Nat.le_refl _)
             have bs_v106 := v106
             have lv_v106 : Keep H104.next H106 H106 := fun _ _ _ h => h
             replace h0 := base_h0.mono hle
             replace h1 := base_h1.mono hle
             clear hb4 fs4 ft4 c104 c114 c124 i24 i34 i44 hm4 hi4 hms4 his4 hmt4 hit4
             have hb4 : Prof.At _ g4 0 m p := ⟨Mem.of_get at4, h0⟩
             obtain ⟨fs4, ft4, c104, c114, c124, i24, i34, i44⟩ := hb4.get
             have hm4 : MemN _ _ _ _ _ := ⟨rfl, hb4.1⟩
             have hi4 := hb4.2
             have hms4 : MemN _ _ _ _ _ := ⟨rfl, fs4.1⟩
             have his4 := fs4.2
             have hmt4 : MemN _ _ _ _ _ := ⟨rfl, ft4.1⟩
             have hit4 := ft4.2
             clear hb5 fs5 ft5 c105 c115 c125 i25 i35 i45 hm5 hi5 hms5 his5 hmt5 hit5
             have hb5 : Prof.At _ g5 0 k q := ⟨Mem.of_get at5, h1⟩
             obtain ⟨fs5, ft5, c105, c115, c125, i25, i35, i45⟩ := hb5.get
             have hm5 : MemN _ _ _ _ _ := ⟨rfl, hb5.1⟩
             have hi5 := hb5.2
             have hms5 : MemN _ _ _ _ _ := ⟨rfl, fs5.1⟩
             have his5 := fs5.2
             have hmt5 : MemN _ _ _ _ _ := ⟨rfl, ft5.1⟩
             have hit5 := ft5.2
             clear i33
             have i33 := v33.inn
             clear i35
             have i35 := v35.inn
             clear i38
             have i38 := v38.intss
             clear mm9003
             have mm9003 : MemN _ _ _ _ _ := ⟨rfl, Mem.of_get at9003⟩
             clear mm10003
             have mm10003 : MemN _ _ _ _ _ := ⟨rfl, Mem.of_get at10003⟩
             clear i64
             have i64 := v64.inn
             clear i69
             have i69 := v69.inn
             clear i104
             have i104 := v104.inn
             have i106 := v106.inn
             refine .call0 rfl rfl rfl rfl rfl @Try.call23 rfl (implCompositeTriples_c) ?_
             rintro _ H109 ⟨le109, a109, r109, rfl, v109⟩
             have nx_H109 := le109.1
             replace hle := hle.trans le109
             replace at4 := le109.2 _ _ at4
             replace at5 := le109.2 _ _ at5
             replace at9003 := le109.2 _ _ at9003
             replace at10003 := le109.2 _ _ at10003
             replace lv_v33 := Keep.le lv_v33 le109
             replace v33 := bs_v33.keep lv_v33 (Nat.le_refl _)
             replace lv_v35 := Keep.le lv_v35 le109
             replace v35 := bs_v35.keep lv_v35 (Nat.le_refl _)
             replace lv_v38 := Keep.le lv_v38 le109
             replace v38 := bs_v38.keep lv_v38 (Nat.le_refl _)
             replace lv_v64 := Keep.le lv_v64 le109
             replace v64 := bs_v64.keep lv_v64 (Nat.le_refl _)
             replace lv_v69 := Keep.le lv_v69 le109
             replace v69 := bs_v69.keep lv_v69 (Nat.le_refl _)
             replace lv_hd93 := Keep.le lv_hd93 le109
             replace hd93 := bs_hd93.keep lv_hd93 (Nat.le_refl _)
             replace lv_wd93 := Keep.le lv_wd93 le109
             replace wd93 := bs_wd93.keep lv_wd93 (Nat.le_refl _)
             replace lv_v104 := Keep.le lv_v104 le109
             replace v104 := bs_v104.keep lv_v104 (Nat.le_refl _)
             replace lv_v106 := Keep.le lv_v106 le109
             replace v106 := bs_v106.keep lv_v106 (Nat.le_refl _)
             have bs_v109 := v109
             have lv_v109 : Keep H106.next H109 H109 := fun _ _ _ h => h
             replace h0 := base_h0.mono hle
             replace h1 := base_h1.mono hle
             clear hb4 fs4 ft4 c104 c114 c124 i24 i34 i44 hm4 hi4 hms4 his4 hmt4 hit4
             have hb4 : Prof.At _ g4 0 m p := ⟨Mem.of_get at4, h0⟩
             obtain ⟨fs4, ft4, c104, c114, c124, i24, i34, i44⟩ := hb4.get
             have hm4 : MemN _ _ _ _ _ := ⟨rfl, hb4.1⟩
             have hi4 := hb4.2
             have hms4 : MemN _ _ _ _ _ := ⟨rfl, fs4.1⟩
             have his4 := fs4.2
             have hmt4 : MemN _ _ _ _ _ := ⟨rfl, ft4.1⟩
             have hit4 := ft4.2
             clear hb5 fs5 ft5 c105 c115 c125 i25 i35 i45 hm5 hi5 hms5 his5 hmt5 hit5
             have hb5 : Prof.At _ g5 0 k q := ⟨Mem.of_get at5, h1⟩
             obtain ⟨fs5, ft5, c105, c115, c125, i25, i35, i45⟩ := hb5.get
             have hm5 : MemN _ _ _ _ _ := ⟨rfl, hb5.1⟩
             have hi5 := hb5.2
             have hms5 : MemN _ _ _ _ _ := ⟨rfl, fs5.1⟩
             have his5 := fs5.2
             have hmt5 : MemN _ _ _ _ _ := ⟨rfl, ft5.1⟩
             have hit5 := ft5.2
             clear i33
             have i33 := v33.inn
             clear i35
             have i35 := v35.inn
             clear i38
             have i38 := v38.intss
             clear mm9003
             have mm9003 : MemN _ _ _ _ _ := ⟨rfl, Mem.of_get at9003⟩
             clear mm10003
             have mm10003 : MemN _ _ _ _ _ := ⟨rfl, Mem.of_get at10003⟩
             clear i64
             have i64 := v64.inn
             clear i69
             have i69 := v69.inn
             clear i104
             have i104 := v104.inn
             clear i106
             have i106 := v106.inn
             have i109 := v109.intss
             refine .m rfl rfl rfl rfl (.refl _) (.move rfl) ?_
             refine .m rfl rfl rfl rfl (.refl _) (.extract rfl rfl) ?_
             refine .m rfl rfl rfl rfl (.refl _) (.extract rfl rfl) ?_
             refine .m rfl rfl rfl rfl (.refl _) (.assign rfl) ?_
             refine .m rfl rfl rfl rfl (.refl _) (.assign rfl) ?_
             refine .done ?_
             refine hK43 _ _ ?_
             refine .seq (fun K44 hK44 => ?_)
             refine .seq (fun K45 hK45 => ?_)
             refine .region ?_
             refine .m rfl rfl rfl (.move rfl) ?_
             refine .m rfl rfl rfl (.move rfl) ?_
             refine .callQ rfl rfl rfl rfl @Try.call24 rfl (eqInt64SS_c) ?_
             refine .m rfl rfl rfl (.not rfl) ?_
             refine .m rfl rfl rfl (.move rfl) ?_
             refine .split (fun h116 => ?_) (fun h116 => ?_)
             ·
              try simp only [sps] at h116
              refine .sg rfl rfl rfl rfl rfl ?_
              refine .sg rfl rfl rfl rfl rfl ?_
              refine .sg rfl rfl rfl rfl rfl ?_
              refine .m rfl rfl rfl (.pickT rfl rfl) ?_
              refine .nil ?_
              refine hK45 _ _ ?_
              refine .condT rfl ?_
              refine .seq (fun K46 hK46 => ?_)
              refine .region ?_
              refine .m rfl rfl rfl (.assign rfl) ?_
              refine .nil ?_
              refine hK46 _ _ ?_
              refine .ret ?_
              -- leaf e12
              refine hret _ _ ?_
              refine ⟨_, rfl, ?_⟩
              first
              | exact rfl
              | exact absurd trivial (by assumption)
              | contradiction
              | (exfalso; omega)
             ·
              try simp only [sps] at h116
              refine .mg rfl rfl rfl rfl rfl (.move rfl) ?_
              refine .mg rfl rfl rfl rfl rfl (.move rfl) ?_
              refine .mg rfl rfl rfl rfl rfl (.cmp rfl rfl rfl) ?_
              refine .m rfl rfl rfl (.pickF rfl rfl) ?_
              refine .nil ?_
              refine hK45 _ _ ?_
              refine .cond rfl (fun h120 => ?_) (fun h120 => ?_)
              ·
               try simp only [sps] at h120
               refine .seq (fun K47 hK47 => ?_)
               refine .region ?_
               refine .m rfl rfl rfl (.assign rfl) ?_
               refine .nil ?_
               refine hK47 _ _ ?_
               refine .ret ?_
               -- leaf e13
               refine hret _ _ ?_
               refine ⟨_, rfl, ?_⟩
               first
               | exact rfl
               | exact absurd trivial (by assumption)
               | contradiction
               | (exfalso; omega)
              ·
               try simp only [sps] at h120
               refine .skip ?_
               refine hK44 _ _ ?_
               refine .seq (fun K48 hK48 => ?_)
               refine .region ?_
               refine .m rfl rfl rfl (.assign rfl) ?_
               refine .nil ?_
               refine hK48 _ _ ?_
               refine .seq (fun K49 hK49 => ?_)
               refine .region ?_
               refine .m rfl rfl rfl (.move rfl) ?_
               refine .m rfl rfl rfl (.move rfl) ?_
               refine .callQ rfl rfl rfl rfl @Try.call28 rfl (heldInt64SSw_c) ?_
               refine .m rfl rfl rfl (.assign rfl) ?_
               refine .nil ?_
               refine hK49 _ _ ?_
               refine .seq (fun K50 hK50 => ?_)
               refine .seq (fun K51 hK51 => ?_)
               refine .region ?_
               refine .m rfl rfl rfl (.move rfl) ?_
               refine .m rfl rfl rfl (.cmp rfl rfl rfl) ?_
               refine .nil ?_
               refine hK51 _ _ ?_
               refine .cond rfl (fun h125 => ?_) (fun h125 => ?_)
               ·
                try simp only [sps] at h125
                refine .seq (fun K52 hK52 => ?_)
                refine .region ?_
                refine .m rfl rfl rfl (.assign rfl) ?_
                refine .nil ?_
                refine hK52 _ _ ?_
                refine .ret ?_
                -- leaf e14
                refine hret _ _ ?_
                refine ⟨_, rfl, ?_⟩
                first
                | exact rfl
                | exact absurd trivial (by assumption)
                | contradiction
                | (exfalso; omega)
               ·
                try simp only [sps] at h125
                refine .skip ?_
                refine hK50 _ _ ?_
                refine .seq (fun K53 hK53 => ?_)
                refine .seq (fun K54 hK54 => ?_)
                refine .region ?_
                refine .m rfl rfl rfl (.move rfl) ?_
                refine .m rfl rfl rfl (.move rfl) ?_
                refine .m rfl rfl rfl (.cmp rfl rfl rfl) ?_
                refine .nil ?_
                refine hK54 _ _ ?_
                refine .cond rfl (fun h128 => ?_) (fun h128 => ?_)
                ·
                 try simp only [sps] at h128
                 refine .seq (fun K55 hK55 => ?_)
                 refine .region ?_
                 refine .m rfl rfl rfl (.assign rfl) ?_
                 refine .nil ?_
                 refine hK55 _ _ ?_
                 refine .ret ?_
                 -- leaf e15
                 refine hret _ _ ?_
                 refine ⟨_, rfl, ?_⟩
                 first
                 | exact rfl
                 | exact absurd trivial (by assumption)
                 | contradiction
                 | (exfalso; omega)
                ·
                 try simp only [sps] at h128
                 refine .skip ?_
                 refine hK53 _ _ ?_
                 refine .seq (fun K56 hK56 => ?_)
                 refine .region ?_
                 refine .m rfl rfl rfl (.assign rfl) ?_
                 refine .nil ?_
                 refine hK56 _ _ ?_
                 refine .ret ?_
                 -- leaf e16
                 refine hret _ _ ?_
                 refine ⟨_, rfl, ?_⟩
                 first
                 | exact rfl
                 | exact absurd trivial (by assumption)
                 | contradiction
                 | (exfalso; omega)
end Go.Proofs.Ytbdaddkbkdiglaa
/- The call of a law, whatever it takes: the arguments brought in one by one. No condition. -/
namespace Go.GL
open Go.RowKit Go.WideShapes Go.ChangeShapes Go.Deep

/-- An argument of type t may be brought in so that R holds of what stands for it. -/
structure Imp1 (P : Program) (t : TypeId) (R : GHeap → Value → Prop) : Prop where
  mono : ∀ {H H' : GHeap} {g : Value}, H.Le H' → R H g → R H' g
  imp : ∀ {T : Type} {enc : TypeId × Value → T} {B : Nat} {w0 : World} {ρ : Place} {H : GHeap} {w : World} {held : Bool} {base fuel : Nat} {v : Value} {x : DataW T × List MemPlace}, Sim P B w0 ρ H w → w.heap.size ≤ B →
    DataW.trod enc P w 0 (fun _ => true) held fuel t v.cells.toList = some x → Value.okWide P w .any base t v → ∃ ρ' H' g, Sim P B w0 ρ' H' w ∧ Ext ρ ρ' ∧ H.Le H' ∧ VRel ρ' g v ∧ R H' g

def structT (P : Program) (t : TypeId) : Bool := match P.underlying t with | some (.struct _) => true | _ => false
theorem imp1_struct {P : Program} {t : TypeId} {α β : Type} {cells : α → β → List Value} {I : GHeap → α → β → Prop} {W : α → Prop} (hm : ∀ {H H' : GHeap} {c : α} {p : β}, I H c p → H.Le H' → I H' c p)
    (hI : Imports P t (fun ρ H cs => ∃ (c : α) (p : β), LRel ρ (cells c p) cs ∧ I H c p ∧ W c)) (hst : structT P t = true) : Imp1 P t (fun H g => ∃ (c : α) (p : β), g = .agg (cells c p).toArray ∧ I H c p ∧ W c) where
  mono h := fun ⟨c, p, h1, h2, h3⟩ => ⟨c, p, h1, hm h2 h, h3⟩
  imp := by
    intro T enc B w0 ρ H w held base fuel v x hs hB h hv
    have hagg : ∃ cs, v = .agg cs := by
      unfold Value.okWide at hv
      unfold structT at hst
      split at hst
      · rename_i fs hu
        rw [hu] at hv
        obtain ⟨cs, h, _⟩ := hv
        exact ⟨cs, h⟩
      · cases hst
    obtain ⟨cs, rfl⟩ := hagg
    obtain ⟨ρ', H', h1, h2, h3, c, p, h4, h5, h6⟩ := hI hs hB h
    exact ⟨ρ', H', _, h1, h2, h3, by have := VRel.agg_of h4; simpa [Value.cells] using this, c, p, rfl, h5, h6⟩
theorem imp1_int {P : Program} {t : TypeId} (ht : i64T P t = true) : Imp1 P t (fun _ g => ∃ n, g = .int .i64 n ∧ I64 n) where
  mono _ := id
  imp := by
    intro T enc B w0 ρ H w held base fuel v x hs hB h hv
    obtain ⟨n, rfl⟩ := okWide_int (i64T_run ht) hv
    obtain ⟨ρ', H', h1, h2, h3, m, h4, h5⟩ := import_int ht hs hB h
    have : n = m := by simpa [Value.cells] using h4
    subst this
    exact ⟨ρ', H', _, h1, h2, h3, .int _ _, n, rfl, h5⟩
theorem imp1_ints {P : Program} {t : TypeId} (ht : intsT P t = true) : Imp1 P t (fun H g => ∃ a xs, g = .slice a xs.length xs.length ∧ Ints H a xs ∧ I64s xs) where
  mono h := fun ⟨a, xs, h1, h2, h3⟩ => ⟨a, xs, h1, h2.mono h, h3⟩
  imp := by
    intro T enc B w0 ρ H w held base fuel v x hs hB h hv
    obtain ⟨e, hu, _⟩ := intsT_run ht
    obtain ⟨a, l, c, rfl⟩ := okWide_slice hu hv
    obtain ⟨ρ', H', h1, h2, h3, a', xs, c', h4, h5, h6, h7⟩ := import_ints ht hs hB h
    have : Value.slice a l c = c' := by simpa [Value.cells] using h4
    subst this
    exact ⟨ρ', H', _, h1, h2, h3, h5, a', xs, rfl, h6, h7⟩
theorem imp1_intss {P : Program} {t : TypeId} (ht : intssT P t = true) : Imp1 P t (fun H g => ∃ a xss r, g = .slice a xss.length xss.length ∧ Intss H a xss r ∧ xss.length ≤ 9223372036854775807 ∧ ∀ i, I64s (xss.getD i [])) where
  mono h := fun ⟨a, xs, r, h1, h2, h3⟩ => ⟨a, xs, r, h1, h2.mono h, h3⟩
  imp := by
    intro T enc B w0 ρ H w held base fuel v x hs hB h hv
    obtain ⟨e, hu, _⟩ := intssT_run ht
    obtain ⟨a, l, c, rfl⟩ := okWide_slice hu hv
    obtain ⟨ρ', H', h1, h2, h3, a', xs, r, c', h4, h5, h6, h7⟩ := import_intss ht hs hB h
    have : Value.slice a l c = c' := by simpa [Value.cells] using h4
    subst this
    exact ⟨ρ', H', _, h1, h2, h3, h5, a', xs, r, rfl, h6, h7⟩
theorem imp1_intsss {P : Program} {t : TypeId} (ht : intsssT P t = true) : Imp1 P t (fun H g => ∃ a x r s, g = .slice a x.length x.length ∧ Intsss H a x r s ∧ Wd3 x) where
  mono h := fun ⟨a, xs, r, s, h1, h2, h3⟩ => ⟨a, xs, r, s, h1, h2.mono h, h3⟩
  imp := by
    intro T enc B w0 ρ H w held base fuel v x hs hB h hv
    obtain ⟨e, hu, _⟩ := intsssT_run ht
    obtain ⟨a, l, c, rfl⟩ := okWide_slice hu hv
    obtain ⟨ρ', H', h1, h2, h3, a', xs, r, s, c', h4, h5, h6, h7⟩ := import_intsss ht hs hB h
    have : Value.slice a l c = c' := by simpa [Value.cells] using h4
    subst this
    exact ⟨ρ', H', _, h1, h2, h3, h5, a', xs, r, s, rfl, h6, h7⟩

/-- Arguments of types ts may be brought in so that R holds of what stands for them. -/
structure ImpAll (P : Program) (ts : List TypeId) (R : GHeap → List Value → Prop) : Prop where
  imp : ∀ {T : Type} {enc : TypeId × Value → T} {B : Nat} {w0 : World} {ρ : Place} {H : GHeap} {w : World} {base : Nat} {vs : List Value} {ds : List (DataW T)} {ps : List MemPlace}, Sim P B w0 ρ H w → w.heap.size ≤ B →
    DataW.TrodAll enc P w 0 (fun _ => true) true ts vs ds ps → (∀ (j : Nat) t v, ts[j]? = some t → vs[j]? = some v → Value.okWide P w .any base t v) → ds.length = ts.length ∧ ∃ ρ' H' gs, Sim P B w0 ρ' H' w ∧ Ext ρ ρ' ∧ H.Le H' ∧ LRel ρ' gs vs ∧ R H' gs
theorem ImpAll.nil {P : Program} : ImpAll P [] (fun _ gs => gs = []) where
  imp := by
    intro T enc B w0 ρ H w base vs ds ps hs hB h hv
    obtain ⟨rfl, rfl, rfl⟩ := trodAll_nil h
    exact ⟨rfl, ρ, H, [], hs, .refl ρ, .refl H, .nil ρ, rfl⟩
theorem ImpAll.cons {P : Program} {t : TypeId} {ts : List TypeId} {R1 : GHeap → Value → Prop} {R : GHeap → List Value → Prop} (h1 : Imp1 P t R1) (h2 : ImpAll P ts R) : ImpAll P (t :: ts) (fun H gs => ∃ g r, gs = g :: r ∧ R1 H g ∧ R H r) where
  imp := by
    intro T enc B w0 ρ H w base vs ds ps hs hB h hv
    obtain ⟨v, vs, d, ds, p, q, rfl, rfl, rfl, ⟨fuel, k1⟩, k2⟩ := trodAll_cons h
    obtain ⟨ρ1, H1, g, s1, e1, l1, v1, r1⟩ := h1.imp hs hB k1 (hv 0 t v rfl rfl)
    obtain ⟨hl, ρ2, H2, gs, s2, e2, l2, v2, r2⟩ := h2.imp s1 hB k2 (fun j t v ht hj => hv (j + 1) t v (by simpa using ht) (by simpa using hj))
    exact ⟨by simp [hl], ρ2, H2, g :: gs, s2, e1.trans e2, l1.trans l2, .cons (v1.mono e2) v2, g, gs, rfl, h1.mono l2 r1, r2⟩

/-- The call of a law. -/
theorem law_calls {P : Program} {f : FuncId} {fn : Func} {ts : List TypeId} {tb : TypeId} {R : GHeap → List Value → Prop} (hI : ImpAll P ts R) (hp : fn.params = ts.toArray)
    (hc : ∀ H gs, R H gs → GCalls P f gs H fun v _ => v = .bool true)
    {T : Type} {enc : TypeId × Value → T} {W : World} {base : Nat} {args : Array Value} {s : ChangeSpec} {apart fresh handsOn again : Bool} {ds gs : List (DataW T)} {before : List MemPlace}
    (hval : ∀ (j : Nat) t v, fn.params[j]? = some t → args[j]? = some v → Value.okWide P W .any base t v)
    (hW : DataW.Whole enc P fn.params.toList s.vars apart W args.toList ds gs before)
    (hl : laidOutB P = true) (hr : readB P fn.params.toList = true) (hv : s.vars = []) (hrt : fn.resultTypes = #[tb]) (htb : P.underlying tb = some .bool)
    (hs : ∀ ds : List (DataW T), ds.length = ts.length → (s.fn T ds).results = [.lit (.bool true)] ∧ (s.fn T ds).args = ds ∧ (s.fn T ds).vars = []) :
    Calls P f args W fun e W' => ∃ v, e = .returned v ∧ s.post enc P fn apart fresh handsOn again W args v W' := by
  have hWW := hW
  obtain ⟨p, q, hA, _⟩ := hW
  rw [hp] at hA
  obtain ⟨hlen, ρ, H, gs', hs', _, _, hrel, hR⟩ := hI.imp (base := base) (Sim.start P W) (Nat.le_refl _) (by simpa using hA) (fun j t v ht hj => hval j t v (by rw [hp]; simpa using ht) (by simpa using hj))
  have := (hc H gs' hR) _ _ ρ args.toList W hs' hrel
  rw [Array.toArray_toList] at this
  refine this.mono fun e W' ⟨v, c, ρ', H', he, hv', _, hsim, hrv⟩ => ?_
  subst hv'
  cases hrv
  exact ⟨_, he, law_post hl hr hv hrt htb hWW (hs ds hlen).1 (hs ds hlen).2.1 (hs ds hlen).2.2 hsim.below⟩
end Go.GL
