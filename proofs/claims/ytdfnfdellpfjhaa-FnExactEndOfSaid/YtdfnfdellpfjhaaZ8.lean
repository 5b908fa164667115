/- Profunctors: what their laws are. No condition. -/
import Derived.Test.YtdfnfdellpfjhaaZ7
namespace Go.GL

def numsL (n : Nat) : List Int := (List.range n).map fun (i : Nat) => (i : Int)
@[simp] theorem length_numsL (n : Nat) : (numsL n).length = n := by simp [numsL]
theorem numsL_get {n i : Nat} (h : i < n) : (numsL n).getD i 0 = i := by simp [numsL, List.getD_eq_getElem?_getD, h]
theorem numsL_eq {n : Nat} {ys : List Int} (hl : ys.length = n) (h : ∀ i, i < n → ys.getD i 0 = (i : Int)) : ys = numsL n := by
  refine eq_of_getD (by rw [hl, length_numsL]) fun i hi => ?_
  rw [length_numsL] at hi
  rw [h i hi, numsL_get hi]
def NoMove (xs : List Int) : Prop := ∀ i : Nat, i < xs.length → xs.getD i 0 = i
theorem calm_iff {xs : List Int} {n : Nat} (h : xs.length = n) : xs = numsL n ↔ NoMove xs := by
  subst h
  exact ⟨fun e i hi => by rw [e]; exact numsL_get hi, fun hc => numsL_eq rfl hc⟩
theorem calm_iff' {xs : List Int} {n : Int} (h : (xs.length : Int) = n) : xs = numsL n.toNat ↔ NoMove xs := calm_iff (by omega)

structure Prof.Sized (m : Prof) : Prop where
  sl : (m.sz.length : Int) = m.s.obj
  bl : m.be.length = m.s.src.length
  hl : m.bh.length = m.t.src.length
  row : ∀ x, x < m.sz.length → ((m.sz.getD x []).length : Int) = m.t.obj
  rng : ∀ x, x < m.sz.length → ∀ y, y < (m.sz.getD x []).length → 0 ≤ (m.sz.getD x []).getD y 0 ∧ (m.sz.getD x []).getD y 0 ≤ 64
def Prof.BeOk (m : Prof) (a y : Nat) : Prop :=
  (((m.be.getD a []).getD y []).length : Int) = (m.sz.getD (m.s.tgt.getD a 0).toNat []).getD y 0 ∧ allIn ((m.be.getD a []).getD y []) ((m.sz.getD (m.s.src.getD a 0).toNat []).getD y 0) = true
def Prof.BhOk (m : Prof) (b x : Nat) : Prop :=
  (((m.bh.getD b []).getD x []).length : Int) = (m.sz.getD x []).getD (m.t.src.getD b 0).toNat 0 ∧ allIn ((m.bh.getD b []).getD x []) ((m.sz.getD x []).getD (m.t.tgt.getD b 0).toNat 0) = true
structure Prof.Maps (m : Prof) : Prop where
  be : ∀ a, a < m.be.length → ((m.be.getD a []).length : Int) = m.t.obj ∧ ∀ y, y < (m.be.getD a []).length → m.BeOk a y
  bh : ∀ b, b < m.bh.length → ((m.bh.getD b []).length : Int) = m.s.obj ∧ ∀ x, x < (m.bh.getD b []).length → m.BhOk b x
structure Prof.Shape (m : Prof) : Prop where
  s : m.s.Is
  t : m.t.Is
  z : m.Sized
  ok : m.Maps
theorem Prof.Sized.b {m : Prof} (z : m.Sized) (s : m.s.Is) {a : Nat} (ha : a < m.be.length) : a < m.s.src.length ∧ a < m.s.tgt.length ∧ 0 ≤ m.s.src.getD a 0 ∧ m.s.src.getD a 0 < m.sz.length ∧ 0 ≤ m.s.tgt.getD a 0 ∧ m.s.tgt.getD a 0 < m.sz.length ∧
    ((m.sz.getD (m.s.src.getD a 0).toNat []).length : Int) = m.t.obj ∧ ((m.sz.getD (m.s.tgt.getD a 0).toNat []).length : Int) = m.t.obj := by
  have h0 := z.bl
  have h1 := s.1.tl
  have h2 := s.1.src a (by omega)
  have h3 := s.1.tgt a (by omega)
  have h4 := z.sl
  exact ⟨by omega, by omega, by omega, by omega, by omega, by omega, z.row _ (by omega), z.row _ (by omega)⟩
theorem Prof.Sized.h {m : Prof} (z : m.Sized) (t : m.t.Is) {b : Nat} (hb : b < m.bh.length) : b < m.t.src.length ∧ b < m.t.tgt.length ∧ 0 ≤ m.t.src.getD b 0 ∧ m.t.src.getD b 0 < m.t.obj ∧ 0 ≤ m.t.tgt.getD b 0 ∧ m.t.tgt.getD b 0 < m.t.obj := by
  have h0 := z.hl
  have h1 := t.1.tl
  have h2 := t.1.src b (by omega)
  have h3 := t.1.tgt b (by omega)
  exact ⟨by omega, by omega, by omega, by omega, by omega, by omega⟩
theorem Prof.Shape.by {m : Prof} (h : m.Shape) {a y : Nat} (ha : a < m.be.length) (hy : (y : Int) < m.t.obj) : y < (m.be.getD a []).length ∧ y < (m.sz.getD (m.s.src.getD a 0).toNat []).length ∧ y < (m.sz.getD (m.s.tgt.getD a 0).toNat []).length ∧
    (((m.be.getD a []).getD y []).length : Int) = (m.sz.getD (m.s.tgt.getD a 0).toNat []).getD y 0 ∧ (∀ i, i < ((m.be.getD a []).getD y []).length → 0 ≤ ((m.be.getD a []).getD y []).getD i 0 ∧ ((m.be.getD a []).getD y []).getD i 0 < (m.sz.getD (m.s.src.getD a 0).toNat []).getD y 0) ∧
    (0 ≤ (m.sz.getD (m.s.src.getD a 0).toNat []).getD y 0 ∧ (m.sz.getD (m.s.src.getD a 0).toNat []).getD y 0 ≤ 64) ∧ 0 ≤ (m.sz.getD (m.s.tgt.getD a 0).toNat []).getD y 0 ∧ (m.sz.getD (m.s.tgt.getD a 0).toNat []).getD y 0 ≤ 64 := by
  have q := h.z.b h.s ha
  have r := h.ok.be a ha
  have r2 := r.2 y (by omega)
  exact ⟨by omega, by omega, by omega, r2.1, allIn_iff.1 r2.2, h.z.rng _ (by omega) _ (by omega), h.z.rng _ (by omega) _ (by omega)⟩
theorem Prof.Shape.hx {m : Prof} (h : m.Shape) {b x : Nat} (hb : b < m.bh.length) (hx : (x : Int) < m.s.obj) : x < (m.bh.getD b []).length ∧ x < m.sz.length ∧ (m.t.src.getD b 0).toNat < (m.sz.getD x []).length ∧ (m.t.tgt.getD b 0).toNat < (m.sz.getD x []).length ∧
    (((m.bh.getD b []).getD x []).length : Int) = (m.sz.getD x []).getD (m.t.src.getD b 0).toNat 0 ∧ (∀ i, i < ((m.bh.getD b []).getD x []).length → 0 ≤ ((m.bh.getD b []).getD x []).getD i 0 ∧ ((m.bh.getD b []).getD x []).getD i 0 < (m.sz.getD x []).getD (m.t.tgt.getD b 0).toNat 0) ∧
    (0 ≤ (m.sz.getD x []).getD (m.t.src.getD b 0).toNat 0 ∧ (m.sz.getD x []).getD (m.t.src.getD b 0).toNat 0 ≤ 64) ∧ 0 ≤ (m.sz.getD x []).getD (m.t.tgt.getD b 0).toNat 0 ∧ (m.sz.getD x []).getD (m.t.tgt.getD b 0).toNat 0 ≤ 64 := by
  have q := h.z.h h.t hb
  have z := h.z.sl
  have w := h.z.row x (by omega)
  have r := h.ok.bh b hb
  have r2 := r.2 x (by omega)
  exact ⟨by omega, by omega, by omega, by omega, r2.1, allIn_iff.1 r2.2, h.z.rng _ (by omega) _ (by omega), h.z.rng _ (by omega) _ (by omega)⟩
theorem Cat.Shape.comp {c : Cat} (h : c.Shape) {a b : Nat} (ha : a < c.src.length) (hb : b < c.src.length) (hp : 0 ≤ (c.comp.getD a []).getD b 0) :
    c.tgt.getD a 0 = c.src.getD b 0 ∧ (c.comp.getD a []).getD b 0 < c.src.length ∧ c.src.getD ((c.comp.getD a []).getD b 0).toNat 0 = c.src.getD a 0 ∧ c.tgt.getD ((c.comp.getD a []).getD b 0).toNat 0 = c.tgt.getD b 0 := by
  have u := (h.th_ge (f := a) (g := b) ha hb).1 hp
  exact ⟨u, ((Cat.Cell.pos u).1 (h.cell a (by have := h.cl; omega) b hb)).2⟩

structure Prof.Acts (m : Prof) : Prop where
  idb : ∀ y : Nat, (y : Int) < m.t.obj → ∀ x : Nat, (x : Int) < m.s.obj → NoMove ((m.be.getD (m.s.idn.getD x 0).toNat []).getD y []) ∧ NoMove ((m.bh.getD (m.t.idn.getD y 0).toNat []).getD x [])
  thb : ∀ y : Nat, (y : Int) < m.t.obj → ∀ a : Nat, a < m.s.src.length → ∀ b : Nat, b < m.s.src.length → 0 ≤ (m.s.comp.getD a []).getD b 0 →
    (m.be.getD ((m.s.comp.getD a []).getD b 0).toNat []).getD y [] = thenL ((m.be.getD b []).getD y []) ((m.be.getD a []).getD y [])
  thh : ∀ x : Nat, (x : Int) < m.s.obj → ∀ a : Nat, a < m.t.src.length → ∀ b : Nat, b < m.t.src.length → 0 ≤ (m.t.comp.getD a []).getD b 0 →
    (m.bh.getD ((m.t.comp.getD a []).getD b 0).toNat []).getD x [] = thenL ((m.bh.getD a []).getD x []) ((m.bh.getD b []).getD x [])
def Prof.MixAt (m : Prof) (a b : Nat) : Prop :=
  thenL ((m.be.getD a []).getD (m.t.src.getD b 0).toNat []) ((m.bh.getD b []).getD (m.s.src.getD a 0).toNat []) = thenL ((m.bh.getD b []).getD (m.s.tgt.getD a 0).toNat []) ((m.be.getD a []).getD (m.t.tgt.getD b 0).toNat [])
def Prof.Mix (m : Prof) : Prop := ∀ a, a < m.s.src.length → ∀ b, b < m.t.src.length → m.MixAt a b
def Prof.Is (m : Prof) : Prop := m.Shape ∧ m.Acts ∧ m.Mix

def sumN (f : Nat → Int) : Nat → Int
  | 0 => 0
  | n + 1 => sumN f n + f n
def Prof.diag (m : Prof) (i : Nat) : Int := (m.sz.getD i []).getD i 0
noncomputable def Prof.code (m : Prof) : Int := bif B m.Is then (bif B (m.s = m.t) then 0 else 5) else 1
theorem Prof.code_nis {m : Prof} (h : ¬ m.Is) : m.code = 1 := by unfold Prof.code; rw [B_false h]; rfl
theorem Prof.code_ne {m : Prof} (h : m.Is) (h' : ¬ m.s = m.t) : m.code = 5 := by unfold Prof.code; rw [B_true h, B_false h']; rfl
theorem Prof.code_ok {m : Prof} (h : m.Is) (h' : m.s = m.t) : m.code = 0 := by unfold Prof.code; rw [B_true h, B_true h']; rfl
theorem Prof.of_code {m : Prof} (h : m.code = 0) : m.Is ∧ m.s = m.t := by
  by_cases h1 : m.Is
  · by_cases h2 : m.s = m.t
    · exact ⟨h1, h2⟩
    · rw [Prof.code_ne h1 h2] at h; cases h
  · rw [Prof.code_nis h1] at h; cases h
theorem Prof.Sized.diag {m : Prof} (z : m.Sized) (e : m.s = m.t) {i : Nat} (hi : i < m.sz.length) : i < (m.sz.getD i []).length ∧ 0 ≤ m.diag i ∧ m.diag i ≤ 64 := by
  have h1 := z.row i hi
  have h2 := z.sl
  rw [e] at h2
  have h3 := z.rng i hi i (by omega)
  exact ⟨by omega, h3⟩
noncomputable def Prof.place (m : Prof) (x e : Int) : Int × Int := bif B (m.code = 0) then (bif B (0 ≤ x ∧ x < m.s.obj ∧ 0 ≤ e ∧ e < m.diag x.toNat) then (sumN m.diag x.toNat + e, 0) else (0, 2)) else (0, m.code)
abbrev L3 := List (List (List Int))
def Prof.CoOk (m n : Prof) (c : L3) (x y : Nat) : Prop := (((c.getD x []).getD y []).length : Int) = (m.sz.getD x []).getD y 0 ∧ allIn ((c.getD x []).getD y []) ((n.sz.getD x []).getD y 0) = true
structure Prof.Rows (m n : Prof) (c : L3) : Prop where
  cl : (c.length : Int) = m.s.obj
  row : ∀ x, x < c.length → ((c.getD x []).length : Int) = m.t.obj ∧ ∀ y, y < (c.getD x []).length → m.CoOk n c x y
def Prof.NatB (m n : Prof) (c : L3) (a y : Nat) : Prop :=
  thenL ((m.be.getD a []).getD y []) ((c.getD (m.s.src.getD a 0).toNat []).getD y []) = thenL ((c.getD (m.s.tgt.getD a 0).toNat []).getD y []) ((n.be.getD a []).getD y [])
def Prof.NatH (m n : Prof) (c : L3) (b x : Nat) : Prop :=
  thenL ((m.bh.getD b []).getD x []) ((c.getD x []).getD (m.t.tgt.getD b 0).toNat []) = thenL ((c.getD x []).getD (m.t.src.getD b 0).toNat []) ((n.bh.getD b []).getD x [])
structure Prof.IsMap (m n : Prof) (c : L3) : Prop where
  rows : m.Rows n c
  nb : ∀ a, a < m.s.src.length → ∀ y : Nat, (y : Int) < m.t.obj → m.NatB n c a y
  nh : ∀ b, b < m.t.src.length → ∀ x : Nat, (x : Int) < m.s.obj → m.NatH n c b x
end Go.GL
namespace Go.Proofs.Ytdfnfdellpfjhaa
open Go Go.GL Go.RowKit Go.Proofs
theorem ze_91_O : zeroT Try.prog 91 = some ([.pointer none], 1) := by kernel_rfl
theorem numbersN_c {n : Nat} {H : GHeap} (hn : n ≤ 1048576) : GCalls Try.prog 108 [.int .i64 (n : Int)] H (NewInts 2 H (numsL n)) := by
  refine GCalls.body (N := 18) (rs := [.tmp 2]) Try.func108 rfl rfl rfl rfl (fun Qx f hend => ?_)
  refine .fg [0] rfl ?_
  have d := GHeap.Le.refl H
  refine .seq (fun K1 t => .region (.mv rfl (.nil (t _ _ (.seq (fun K2 o => .region (.mv rfl ?_)))))))
  refine .R rfl (.makeIN rfl sl_22_A ze_2_E by_2_E rfl rfl (by omega) (by omega) (by omega)) ?_
  rintro _ H6 ⟨g6, rfl, s, ge6, j⟩
  replace d := d.trans s
  refine .mv rfl (.nil (o _ _ (.seq (fun K3 w => .seq (fun K4 u => .region (.mv rfl (.q rfl (.len sl_22_A rfl) (.mv rfl (.nil (u _ _ ?_))))))))))
  refine .block ?_
  refine .loopR (σ := Nat × List Int) [(3, some _), (8, some _)] (fun (k, ys) => [(9, some (.int .i64 (k : Int)))]) (fun (k, ys) H' => St [g6] H6 H' ∧ H'.get g6 = some (.row (ints ys) 2 true) ∧ k ≤ n ∧ ys.length = n ∧ ∀ i, i < k → ys.getD i 0 = (i : Int)) (fun (k, ys) => n - k) ((0, List.replicate n 0)) ⟨rfl, rfl, trivial⟩ ⟨rfl, trivial⟩ ?_ ?_
  ·
   refine ⟨.refl _ _, by first | assumption | exact j | simpa using j, ?_⟩
   exact ⟨by omega, by simp, fun _ _ => by omega⟩
  rintro ⟨k, ys⟩ HL1 ⟨b, a, hI⟩ KL1 h
  refine .forget (fr' := [(9, some (.int .i64 (k : Int))), (3, some _), (8, some _)]) ⟨rfl, rfl, rfl, trivial⟩ ?_
  replace d := d.st b (fun k hk => ⟨by omega, trivial⟩)
  obtain ⟨hk, hyl, ha⟩ := hI
  have hsl := SlA.of_ints a hyl
  refine .seq (fun K5 m => .region (.q rfl (.cmp rfl rfl rfl) (.nil (m _ _ (.seq (fun K6 l => ?_))))))
  refine .cond rfl (fun g => ?_) (fun g => ?_)
  ·
   simp only [sps] at g
   refine .skip ?_
   refine l _ _ (.seq (fun K7 r => ?_))
   refine .block ?_
   refine .seq (fun K8 p => .region (.mv rfl (.mv rfl (.nil (p _ _ (.region (.mv rfl (.mv rfl (.mv rfl ?_)))))))))
   refine .q rfl (.idxN sl_22_A (by first | assumption | exact SlA.of_row a (by first | rfl | (simp; done) | (simp <;> omega))) rfl rfl (by omega)) ?_
   refine .r0 rfl rfl (.storeI rfl sz_2_E rfl rfl (by assumption) (by first | omega | (simp <;> omega))) ?_
   rintro _ H5004 ⟨rfl, c, at5004⟩
   replace b := b.sA c
   refine .nil (r _ _ (.region ?_))
   refine .q rfl (.add rfl rfl rfl (by omega) (by omega)) ?_
   refine .mv rfl (.nil ?_)
   refine h ((k + 1, ys.set (0 + k) (k : Int))) _ _ ?_ ?_ ⟨rfl, rfl, rfl, trivial⟩
   ·
    refine ⟨b, by assumption, ?_⟩
    refine ⟨by omega, by simpa using hyl, fun i hi => ?_⟩
    rw [Nat.zero_add, getD_set (by omega)]
    split
    · rename_i e; rw [e]
    · exact ha i (by omega)
   (dsimp only; omega)
  try simp only [sps] at g
  refine .exit ?_
  refine w _ _ (.seq (fun K9 v => .region (.mv rfl (.mv rfl (.nil (v _ _ ?_))))))
  refine .ret ?_
  refine f _ _ ?_
  refine ⟨_, rfl, ?_⟩
  obtain rfl := numsL_eq hyl fun i hi => ha i (by omega)
  exact ⟨d, _, by rw [length_numsL], a, by omega⟩
theorem numbers_c {n : Int} {H : GHeap} (h0 : 0 ≤ n := by omega) (hn : n ≤ 1048576 := by omega) : GCalls Try.prog 108 [.int .i64 n] H (NewInts 2 H (numsL n.toNat)) := by
  have h := numbersN_c (n := n.toNat) (H := H) (by omega)
  rw [Int.toNat_of_nonneg h0] at h
  exact h
set_option maxHeartbeats 4000000 in
theorem pfShape_c {g o : Nat} {m : Prof} {p : ProfP} {H : GHeap} (h : Prof.At H g o m p := by assumption) (hs : m.Small := by assumption) : GCalls Try.prog 82 [.pointer (some ⟨g, o, none⟩)] H (Ret (.bool (B m.Shape)) H) := by
  refine GCalls.ret rfl ?_
  refine GCalls.body (N := 202) (rs := [.tmp 2]) Try.func82 rfl rfl rfl rfl (fun Qx d hend => ?_)
  refine .fg [0] rfl ?_
  have e := GHeap.Le.refl H
  have u := h
  obtain ⟨fs, ft, h3, h0, g7, i2, i3, i4⟩ := h.get
  have hm : MemN _ _ _ _ _ := ⟨rfl, h.1⟩
  have hi := h.2
  obtain ⟨c0, c1, c2, c3, c4, d1, d2, d3, d4⟩ := fs.get
  obtain ⟨x0, x1, x2, x3, x4, y1, y2, y3, y4⟩ := ft.get
  obtain ⟨s1, s2, ⟨s3, s4⟩, ⟨s5, s6⟩, s7, s8⟩ := hs
  refine .seq (fun K1 i1 => .region (.mv rfl (.nil (i1 _ _ (.seq (fun K2 h4 => ?_))))))
  refine .regionD mo_B (.q 0 (.q 1 (.q 2 (.q 3 (.q 4 (.q 5 (.q 6 (.q 7 (.done))))))))) (by kernel_rfl) ?_
  refine .mv rfl rfl (.q rfl (.nilCheck rfl) (.q rfl (.fieldAddr fo_34_0_VProf rfl) (.mv rfl rfl (.q rfl (.nilCheck rfl) (.q rfl (.fieldAddr fo_34_1_VProf rfl) (.mv rfl rfl (.mv rfl rfl ?_)))))))
  refine .done ?_
  refine h4 _ _ (.seq (fun K3 h5 => .seq (fun K4 a2 => ?_)))
  refine .regionD mo_B (.q 0 (.q 1 (.c 2 0 (.c 3 0 (.q 4 (.q 5 (.q 6 (.q 7 (.q 8 (.q 9 (.q 10 (.q 11 (.q 12 (.q 13 (.q 14 (.q 15 (.q 16 (.q 17 (.q 18 (.q 19 (.q 20 (.q 21 (.q 22 (.q 23 (.c 24 1 (.q 25 (.q 26 (.q 27 (.q 28 (.q 29 (.q 30 (.q 31 (.q 32 (.q 33 (.c 34 1 (.q 35 (.q 36 (.done)))))))))))))))))))))))))))))))))))))) (by kernel_rfl) ?_
  refine .mv rfl rfl (.mv rfl rfl ?_)
  refine .c0 rfl rfl rfl rfl (.litA rfl sl_139_F ze_91_O rfl rfl rfl rfl) ?_
  rintro _ a1 ⟨g23, rfl, f9, ge23, d5⟩
  replace e := e.trans f9
  have lt_at23 := GHeap.ltg d5
  replace h := u.mono e
  clear fs ft h3 h0 g7 i2 i3 i4 hm hi c0 c1 c2 c3 c4 d1 d2 d3 d4 x0 x1 x2 x3 x4 y1 y2 y3 y4
  obtain ⟨fs, ft, h3, h0, g7, i2, i3, i4⟩ := h.get
  have hm : MemN _ _ _ _ _ := ⟨rfl, h.1⟩
  have hi := h.2
  obtain ⟨c0, c1, c2, c3, c4, d1, d2, d3, d4⟩ := fs.get
  obtain ⟨x0, x1, x2, x3, x4, y1, y2, y3, y4⟩ := ft.get
  refine .callQ0 rfl rfl rfl rfl rfl @Try.call105 rfl (areCategories2_c) ?_
  refine .q rfl (.not rfl) (.mv rfl rfl ?_)
  refine .split (fun v => ?_) (fun v => ?_)
  ·
   try simp only [sps] at v
   refine .z rfl (.z rfl (.z rfl (.z rfl (.z rfl (.z rfl (.z rfl (.z rfl (.z rfl (.z rfl (.q rfl (.pickT rfl rfl) (.mv rfl rfl (.z rfl (.z rfl (.z rfl (.z rfl ?_)))))))))))))))
   refine .z rfl (.z rfl (.sgc rfl rfl rfl rfl rfl rfl (.z rfl (.q rfl (.pickT rfl rfl) (.mv rfl rfl (.z rfl (.z rfl (.z rfl (.z rfl (.z rfl (.z rfl (.sgc rfl rfl rfl rfl rfl rfl (.z rfl (.q rfl (.pickT rfl rfl) ?_))))))))))))))
   refine .done ?_
   refine a2 _ _ ?_
   refine .condT rfl ?_
   refine .seq (fun K5 h8 => .region (.mv rfl (.nil (h8 _ _ ?_))))
   refine .ret ?_
   refine d _ _ ?_
   refine ⟨_, rfl, ?_⟩
   exact ⟨congrArg _ (B_false fun hh => v ⟨hh.s, hh.t⟩), e⟩
  try simp only [sps] at v
  refine .qg rfl (.move rfl) (.qg rfl (.nilCheck rfl) (.qg rfl (.fieldAddr fo_34_2_VProf rfl) ?_))
  refine .qg rfl (.load on_23_B rfl (by assumption)) ?_
  refine .qg rfl (.len sl_23_B rfl) (.qg rfl (.move rfl) (.qg rfl (.nilCheck rfl) (.qg rfl (.fieldAddr fo_32_0_B rfl) ?_)))
  refine .qg rfl (.load on_2_A rfl (by assumption)) ?_
  refine .qg rfl (.cmp rfl rfl rfl) (.q rfl (.pickF rfl rfl) (.mv rfl rfl ?_))
  refine .split (fun g1 => ?_) (fun g1 => ?_)
  ·
   try simp only [sps] at g1
   refine .z rfl (.z rfl (.z rfl (.z rfl (.z rfl (.z rfl (.sgc rfl rfl rfl rfl rfl rfl (.z rfl (.q rfl (.pickT rfl rfl) (.mv rfl rfl (.z rfl (.z rfl (.z rfl (.z rfl (.z rfl (.z rfl ?_)))))))))))))))
   refine .sgc rfl rfl rfl rfl rfl rfl (.z rfl (.q rfl (.pickT rfl rfl) ?_))
   refine .done ?_
   refine a2 _ _ ?_
   refine .condT rfl ?_
   refine .seq (fun K6 h7 => .region (.mv rfl (.nil (h7 _ _ ?_))))
   refine .ret ?_
   refine d _ _ ?_
   refine ⟨_, rfl, ?_⟩
   exact ⟨congrArg _ (B_false fun hh => by have := hh.z.sl; omega), e⟩
  try simp only [sps] at g1
  refine .qg rfl (.move rfl) (.qg rfl (.nilCheck rfl) (.qg rfl (.fieldAddr fo_34_3_VProf rfl) ?_))
  refine .qg rfl (.load on_26_VProf rfl (by assumption)) ?_
  refine .qg rfl (.len sl_26_VZ rfl) (.qg rfl (.move rfl) ?_)
  refine .callQ1g rfl rfl rfl rfl rfl rfl rfl @Try.call106 rfl (arrows_c) (.refl _) ?_
  refine .qg rfl (.cmp rfl rfl rfl) (.q rfl (.pickF rfl rfl) (.mv rfl rfl ?_))
  refine .split (fun b2 => ?_) (fun b2 => ?_)
  ·
   try simp only [sps] at b2
   refine .z rfl (.z rfl (.z rfl (.z rfl (.z rfl (.z rfl (.sgc rfl rfl rfl rfl rfl rfl (.z rfl (.q rfl (.pickT rfl rfl) ?_))))))))
   refine .done ?_
   refine a2 _ _ ?_
   refine .condT rfl ?_
   refine .seq (fun K7 i0 => .region (.mv rfl (.nil (i0 _ _ ?_))))
   refine .ret ?_
   refine d _ _ ?_
   refine ⟨_, rfl, ?_⟩
   exact ⟨congrArg _ (B_false fun hh => by have := hh.z.bl; omega), e⟩
  try simp only [sps] at b2
  refine .qg rfl (.move rfl) (.qg rfl (.nilCheck rfl) (.qg rfl (.fieldAddr fo_34_4_VProf rfl) ?_))
  refine .qg rfl (.load on_26_VProf rfl (by assumption)) ?_
  refine .qg rfl (.len sl_26_VZ rfl) (.qg rfl (.move rfl) ?_)
  refine .callQ1g rfl rfl rfl rfl rfl rfl rfl @Try.call106 rfl (arrows_c) (.refl _) ?_
  refine .qg rfl (.cmp rfl rfl rfl) (.q rfl (.pickF rfl rfl) ?_)
  refine .done ?_
  refine a2 _ _ ?_
  refine .cond rfl (fun e4 => ?_) (fun e4 => ?_)
  ·
   try simp only [sps] at e4
   refine .seq (fun K8 h9 => .region (.mv rfl (.nil (h9 _ _ ?_))))
   refine .ret ?_
   refine d _ _ ?_
   refine ⟨_, rfl, ?_⟩
   exact ⟨congrArg _ (B_false fun hh => by have := hh.z.hl; omega), e⟩
  simp only [sps] at e4
  refine .skip ?_
  refine h5 _ _ (.seq (fun K9 h6 => .seq (fun K10 e0 => .region (.mv rfl (.q rfl (.nilCheck rfl) (.q rfl (.fieldAddr fo_34_2_VProf rfl) ?_))))))
  refine .q rfl (.load on_23_B rfl (by assumption)) ?_
  refine .q rfl (.len sl_23_B rfl) (.mv rfl (.nil (e0 _ _ ?_)))
  refine .block ?_
  have hC := v.1
  have hD := v.2
  have q1 := hC.1.tl
  have q2 := hD.1.tl
  refine .loopR (σ := Nat) [(0, some _), (3, some _), (4, some _), (61, some _), (62, some _)] (fun k => [(63, some (.int .i64 (k : Int)))]) (fun k H' => a1 = H' ∧ (k : Int) ≤ m.sz.length ∧ ∀ x, x < k → ((m.sz.getD x []).length : Int) = m.t.obj ∧ ∀ y, y < (m.sz.getD x []).length → 0 ≤ (m.sz.getD x []).getD y 0 ∧ (m.sz.getD x []).getD y 0 < 65) (fun k => (m.sz.length - k : Int).toNat) (0) ⟨rfl, rfl, rfl, rfl, rfl, trivial⟩ ⟨rfl, trivial⟩ ?_ ?_
  ·
   refine ⟨rfl, ?_⟩
   exact ⟨by omega, fun _ _ => by omega⟩
  rintro k _ ⟨rfl, hI⟩ KL1 b5
  refine .forget (fr' := [(63, some (.int .i64 (k : Int))), (0, some _), (3, some _), (4, some _), (61, some _), (62, some _)]) ⟨rfl, rfl, rfl, rfl, rfl, rfl, trivial⟩ ?_
  obtain ⟨hk1, e9⟩ := hI
  refine .seq (fun K11 e2 => .region (.q rfl (.cmp rfl rfl rfl) (.nil (e2 _ _ (.seq (fun K12 f6 => ?_))))))
  refine .cond rfl (fun d9 => ?_) (fun d9 => ?_)
  ·
   simp only [sps] at d9
   have r1 := i2.2 k (by omega)
   have r2 := s4 k
   refine .skip ?_
   refine f6 _ _ (.seq (fun K13 g2 => ?_))
   refine .block ?_
   refine .seq (fun K14 e8 => .region ?_)
   refine .q rfl (.idxN sl_23_B (Intss.sl (by assumption)) rfl rfl (by omega)) ?_
   refine .q rfl (.loadR on_22_B (by assumption) rfl (by omega)) ?_
   refine .mv rfl (.nil (e8 _ _ (.seq (fun K15 a0 => .region (.mv rfl (.q rfl (.len sl_22_A rfl) (.mv rfl (.q rfl (.nilCheck rfl) (.q rfl (.fieldAddr fo_32_0_B rfl) ?_)))))))))
   refine .q rfl (.load on_2_A rfl (by assumption)) ?_
   refine .q rfl (.cmp rfl rfl rfl) (.mv rfl ?_)
   refine .split (fun a4 => ?_) (fun a4 => ?_)
   ·
    try simp only [sps] at a4
    refine .z rfl (.z rfl (.z rfl (.q rfl (.pickT rfl rfl) (.nil (a0 _ _ ?_)))))
    refine .condT rfl ?_
    refine .seq (fun K16 g0 => .region (.mv rfl (.nil (g0 _ _ ?_))))
    refine .ret ?_
    refine d _ _ ?_
    refine ⟨_, rfl, ?_⟩
    exact ⟨congrArg _ (B_false fun hh => by have := hh.z.row k (by omega); omega), e⟩
   try simp only [sps] at a4
   refine .qg rfl (.move rfl) ?_
   refine .callQg rfl rfl rfl rfl rfl rfl @Try.call92 rfl (within_c) ?_
   refine .qg rfl (.not rfl) (.q rfl (.pickF rfl rfl) (.nil (a0 _ _ ?_)))
   refine .cond rfl (fun w => ?_) (fun w => ?_)
   ·
    try simp only [sps] at w
    refine .seq (fun K17 a5 => .region (.mv rfl (.nil (a5 _ _ ?_))))
    refine .ret ?_
    refine d _ _ ?_
    refine ⟨_, rfl, ?_⟩
    exact ⟨congrArg _ (B_false fun hh => by rw [allIn_iff.2 fun y hy => by have := hh.z.rng k (by omega) y (by omega); omega] at w; cases w), e⟩
   try simp only [sps] at w
   refine .skip ?_
   refine g2 _ _ (.region ?_)
   refine .q rfl (.add rfl rfl rfl (by omega) (by omega)) ?_
   refine .mv rfl (.nil ?_)
   refine b5 (k + 1) _ _ ?_ ?_ ⟨rfl, rfl, rfl, rfl, rfl, rfl, trivial⟩
   ·
    refine ⟨rfl, ?_⟩
    refine ⟨by omega, fun x hx => ?_⟩
    by_cases hltq : x < k
    · exact e9 x hltq
    · obtain rfl : x = k := by omega
      exact ⟨a4, w⟩
   omega
  try simp only [sps] at d9
  refine .exit ?_
  refine h6 _ _ (.seq (fun K18 b4 => .seq (fun K19 e3 => .region (.mv rfl (.q rfl (.nilCheck rfl) (.q rfl (.fieldAddr fo_34_3_VProf rfl) ?_))))))
  refine .q rfl (.load on_26_VProf rfl (by assumption)) ?_
  refine .q rfl (.len sl_26_VZ rfl) (.mv rfl (.nil (e3 _ _ ?_)))
  refine .block ?_
  have hz : m.Sized := ⟨by omega, by omega, by omega, fun x hx => (e9 x (by omega)).1, fun x hx y hy => by have := (e9 x (by omega)).2 y hy; omega⟩
  refine .loopR (σ := Nat) [(0, some _), (3, some _), (4, some _), (83, some _), (84, some _)] (fun a => [(85, some (.int .i64 (a : Int)))]) (fun a H' => a1 = H' ∧ (a : Int) ≤ m.be.length ∧ ∀ a', a' < a → ((m.be.getD a' []).length : Int) = m.t.obj ∧ ∀ y, y < (m.be.getD a' []).length → m.BeOk a' y) (fun a => (m.be.length - a : Int).toNat) (0) ⟨rfl, rfl, rfl, rfl, rfl, trivial⟩ ⟨rfl, trivial⟩ ?_ ?_
  ·
   refine ⟨rfl, ?_⟩
   exact ⟨by omega, fun _ _ => by omega⟩
  rintro a _ ⟨rfl, hI⟩ KL2 f7
  refine .forget (fr' := [(85, some (.int .i64 (a : Int))), (0, some _), (3, some _), (4, some _), (83, some _), (84, some _)]) ⟨rfl, rfl, rfl, rfl, rfl, rfl, trivial⟩ ?_
  obtain ⟨hk2, h2⟩ := hI
  refine .seq (fun K20 b1 => .region (.q rfl (.cmp rfl rfl rfl) (.nil (b1 _ _ (.seq (fun K21 b8 => ?_))))))
  refine .cond rfl (fun c9 => ?_) (fun c9 => ?_)
  ·
   simp only [sps] at c9
   have r1 := i3.2 a (by omega)
   have r2 := s6 a
   have r3 := hz.b hC (a := a) (by omega)
   refine .skip ?_
   refine b8 _ _ (.seq (fun K22 f1 => ?_))
   refine .block ?_
   refine .seq (fun K23 d8 => .region (.mv rfl ?_))
   refine .q rfl (.idxN sl_26_VZ (Intsss.sl (by assumption)) rfl rfl (by omega)) ?_
   refine .q rfl (.loadRR on_23_B (by assumption) rfl (by omega)) ?_
   refine .mv rfl (.mv rfl (.nil (d8 _ _ (.seq (fun K24 c8 => .seq (fun K25 d6 => .region (.mv rfl (.q rfl (.len sl_23_B rfl) (.mv rfl (.q rfl (.nilCheck rfl) (.q rfl (.fieldAddr fo_32_0_B rfl) ?_)))))))))))
   refine .q rfl (.load on_2_A rfl (by assumption)) ?_
   refine .q rfl (.cmp rfl rfl rfl) (.nil (d6 _ _ ?_))
   refine .cond rfl (fun a3 => ?_) (fun a3 => ?_)
   ·
    try simp only [sps] at a3
    refine .seq (fun K26 d0 => .region (.mv rfl (.nil (d0 _ _ ?_))))
    refine .ret ?_
    refine d _ _ ?_
    refine ⟨_, rfl, ?_⟩
    exact ⟨congrArg _ (B_false fun hh => by have := (hh.ok.be a (by omega)).1; omega), e⟩
   try simp only [sps] at a3
   refine .skip ?_
   refine c8 _ _ (.seq (fun K27 b6 => .region (.mv rfl (.q rfl (.len sl_23_B rfl) (.mv rfl (.nil (b6 _ _ ?_)))))))
   refine .block ?_
   refine .loopR (σ := Nat) [(0, some _), (3, some _), (4, some _), (7, some _), (83, some _), (84, some _), (85, some _), (97, some _), (98, some _)] (fun y => [(99, some (.int .i64 (y : Int)))]) (fun y H' => a1 = H' ∧ (y : Int) ≤ (m.be.getD a []).length ∧ ∀ y', y' < y → m.BeOk a y') (fun y => ((m.be.getD a []).length - y : Int).toNat) (0) ⟨rfl, rfl, rfl, rfl, rfl, rfl, rfl, rfl, rfl, trivial⟩ ⟨rfl, trivial⟩ ?_ ?_
   ·
    refine ⟨rfl, ?_⟩
    exact ⟨by omega, fun _ _ => by omega⟩
   rintro y _ ⟨rfl, hI⟩ KL3 e1
   refine .forget (fr' := [(99, some (.int .i64 (y : Int))), (0, some _), (3, some _), (4, some _), (7, some _), (83, some _), (84, some _), (85, some _), (97, some _), (98, some _)]) ⟨rfl, rfl, rfl, rfl, rfl, rfl, rfl, rfl, rfl, rfl, trivial⟩ ?_
   obtain ⟨hk3, g8⟩ := hI
   refine .seq (fun K28 f3 => .region (.q rfl (.cmp rfl rfl rfl) (.nil (f3 _ _ (.seq (fun K29 d7 => ?_))))))
   refine .cond rfl (fun r => ?_) (fun r => ?_)
   ·
    simp only [sps] at r
    have t1 := r1.2 y (by omega)
    have t2 := r2.2 y
    have t3 := i2.2 (m.s.src.getD a 0).toNat (by omega)
    have t4 := i2.2 (m.s.tgt.getD a 0).toNat (by omega)
    have t5 := hz.rng (m.s.src.getD a 0).toNat (by omega) y (by omega)
    refine .skip ?_
    refine d7 _ _ (.seq (fun K30 f4 => ?_))
    refine .block ?_
    refine .seq (fun K31 e6 => .region (.mv rfl ?_))
    refine .q rfl (.idxN sl_23_B (Intss.sl (by assumption)) rfl rfl (by omega)) ?_
    refine .q rfl (.loadR on_22_B (by assumption) rfl (by omega)) ?_
    refine .mv rfl (.mv rfl (.nil (e6 _ _ (.seq (fun K32 f8 => ?_)))))
    refine .regionD mo_B (.q 0 (.q 1 (.q 2 (.q 3 (.q 4 (.q 5 (.q 6 (.q 7 (.q 8 (.q 9 (.q 10 (.q 11 (.q 12 (.q 13 (.q 14 (.q 15 (.q 16 (.q 17 (.q 18 (.q 19 (.q 20 (.q 21 (.q 22 (.q 23 (.q 24 (.q 25 (.q 26 (.q 27 (.q 28 (.q 29 (.q 30 (.q 31 (.q 32 (.c 33 0 (.q 34 (.done)))))))))))))))))))))))))))))))))))) (by kernel_rfl) ?_
    refine .mv rfl rfl (.mv rfl rfl (.q rfl (.nilCheck rfl) (.q rfl (.fieldAddr fo_34_2_VProf rfl) ?_)))
    refine .q rfl (.load on_23_B rfl (by assumption)) ?_
    refine .mv rfl rfl (.q rfl (.nilCheck rfl) (.q rfl (.fieldAddr fo_32_2_B rfl) ?_))
    refine .q rfl (.load on_22_B rfl (by assumption)) ?_
    refine .mv rfl rfl ?_
    refine .q rfl (.idxN sl_22_A (by assumption) rfl rfl (by omega)) ?_
    refine .q rfl (.loadI on_2_A (by assumption) rfl (by omega)) ?_
    refine .q rfl (.idx1 sl_23_B (Intss.sl (by assumption)) rfl rfl (by omega) (by omega)) ?_
    refine .q rfl (.loadR on_22_B (by assumption) rfl (by omega)) ?_
    refine .mv rfl rfl ?_
    refine .q rfl (.idxN sl_22_A (by assumption) rfl rfl (by omega)) ?_
    refine .q rfl (.loadI on_2_A (by assumption) rfl (by omega)) ?_
    refine .mv rfl rfl (.q rfl (.nilCheck rfl) (.q rfl (.fieldAddr fo_34_2_VProf rfl) ?_))
    refine .q rfl (.load on_23_B rfl (by assumption)) ?_
    refine .mv rfl rfl (.q rfl (.nilCheck rfl) (.q rfl (.fieldAddr fo_32_1_B rfl) ?_))
    refine .q rfl (.load on_22_B rfl (by assumption)) ?_
    refine .mv rfl rfl ?_
    refine .q rfl (.idxN sl_22_A (by assumption) rfl rfl (by omega)) ?_
    refine .q rfl (.loadI on_2_A (by assumption) rfl (by omega)) ?_
    refine .q rfl (.idx1 sl_23_B (Intss.sl (by assumption)) rfl rfl (by omega) (by omega)) ?_
    refine .q rfl (.loadR on_22_B (by assumption) rfl (by omega)) ?_
    refine .mv rfl rfl ?_
    refine .q rfl (.idxN sl_22_A (by assumption) rfl rfl (by omega)) ?_
    refine .q rfl (.loadI on_2_A (by assumption) rfl (by omega)) ?_
    refine .callQ0 rfl rfl rfl rfl rfl @Try.call107 rfl (isMapOf_c) ?_
    refine .q rfl (.not rfl) ?_
    refine .done ?_
    refine f8 _ _ ?_
    refine .cond rfl (fun i => ?_) (fun i => ?_)
    ·
     simp only [B_iff, B_not, Bool.not_eq_true', Bool.not_eq_false'] at i
     refine .seq (fun K33 c7 => .region (.mv rfl (.nil (c7 _ _ ?_))))
     refine .ret ?_
     refine d _ _ ?_
     refine ⟨_, rfl, ?_⟩
     exact ⟨congrArg _ (B_false fun hh => i ((hh.ok.be a (by omega)).2 y (by omega))), e⟩
    simp only [B_iff, B_not, Bool.not_eq_true', Bool.not_eq_false'] at i
    refine .skip ?_
    refine f4 _ _ (.region ?_)
    refine .q rfl (.add rfl rfl rfl (by omega) (by omega)) ?_
    refine .mv rfl (.nil ?_)
    refine e1 (y + 1) _ _ ?_ ?_ ⟨rfl, rfl, rfl, rfl, rfl, rfl, rfl, rfl, rfl, rfl, trivial⟩
    ·
     refine ⟨rfl, ?_⟩
     refine ⟨by omega, fun y' hx => ?_⟩
     by_cases hltq : y' < y
     · exact g8 y' hltq
     · obtain rfl : y' = y := by omega
       exact i
    omega
   try simp only [sps] at r
   refine .exit ?_
   refine f1 _ _ (.region ?_)
   refine .q rfl (.add rfl rfl rfl (by omega) (by omega)) ?_
   refine .mv rfl (.nil ?_)
   refine f7 (a + 1) _ _ ?_ ?_ ⟨rfl, rfl, rfl, rfl, rfl, rfl, trivial⟩
   ·
    refine ⟨rfl, ?_⟩
    refine ⟨by omega, fun a' hx => ?_⟩
    by_cases hltq : a' < a
    · exact h2 a' hltq
    · obtain rfl : a' = a := by omega
      exact ⟨a3, fun y hy => g8 y (by omega)⟩
   omega
  try simp only [sps] at c9
  refine .exit ?_
  refine b4 _ _ (.seq (fun K34 f5 => .seq (fun K35 f2 => .region (.mv rfl (.q rfl (.nilCheck rfl) (.q rfl (.fieldAddr fo_34_4_VProf rfl) ?_))))))
  refine .q rfl (.load on_26_VProf rfl (by assumption)) ?_
  refine .q rfl (.len sl_26_VZ rfl) (.mv rfl (.nil (f2 _ _ ?_)))
  refine .block ?_
  refine .loopR (σ := Nat) [(0, some _), (3, some _), (4, some _), (144, some _), (145, some _)] (fun b => [(146, some (.int .i64 (b : Int)))]) (fun b H' => a1 = H' ∧ (b : Int) ≤ m.bh.length ∧ ∀ b', b' < b → ((m.bh.getD b' []).length : Int) = m.s.obj ∧ ∀ x, x < (m.bh.getD b' []).length → m.BhOk b' x) (fun b => (m.bh.length - b : Int).toNat) (0) ⟨rfl, rfl, rfl, rfl, rfl, trivial⟩ ⟨rfl, trivial⟩ ?_ ?_
  ·
   refine ⟨rfl, ?_⟩
   exact ⟨by omega, fun _ _ => by omega⟩
  rintro b _ ⟨rfl, hI⟩ KL4 e7
  refine .forget (fr' := [(146, some (.int .i64 (b : Int))), (0, some _), (3, some _), (4, some _), (144, some _), (145, some _)]) ⟨rfl, rfl, rfl, rfl, rfl, rfl, trivial⟩ ?_
  obtain ⟨hk4, h1⟩ := hI
  refine .seq (fun K36 g4 => .region (.q rfl (.cmp rfl rfl rfl) (.nil (g4 _ _ (.seq (fun K37 b9 => ?_))))))
  refine .cond rfl (fun n => ?_) (fun n => ?_)
  ·
   simp only [sps] at n
   have r1 := i4.2 b (by omega)
   have r2 := s8 b
   have r3 := hz.h hD (b := b) (by omega)
   refine .skip ?_
   refine b9 _ _ (.seq (fun K38 g6 => ?_))
   refine .block ?_
   refine .seq (fun K39 b7 => .region (.mv rfl ?_))
   refine .q rfl (.idxN sl_26_VZ (Intsss.sl (by assumption)) rfl rfl (by omega)) ?_
   refine .q rfl (.loadRR on_23_B (by assumption) rfl (by omega)) ?_
   refine .mv rfl (.mv rfl (.nil (b7 _ _ (.seq (fun K40 e5 => .seq (fun K41 c5 => .region (.mv rfl (.q rfl (.len sl_23_B rfl) (.mv rfl (.q rfl (.nilCheck rfl) (.q rfl (.fieldAddr fo_32_0_B rfl) ?_)))))))))))
   refine .q rfl (.load on_2_A rfl (by assumption)) ?_
   refine .q rfl (.cmp rfl rfl rfl) (.nil (c5 _ _ ?_))
   refine .cond rfl (fun j => ?_) (fun j => ?_)
   ·
    try simp only [sps] at j
    refine .seq (fun K42 a8 => .region (.mv rfl (.nil (a8 _ _ ?_))))
    refine .ret ?_
    refine d _ _ ?_
    refine ⟨_, rfl, ?_⟩
    exact ⟨congrArg _ (B_false fun hh => by have := (hh.ok.bh b (by omega)).1; omega), e⟩
   try simp only [sps] at j
   refine .skip ?_
   refine e5 _ _ (.seq (fun K43 f0 => .region (.mv rfl (.q rfl (.len sl_23_B rfl) (.mv rfl (.nil (f0 _ _ ?_)))))))
   refine .block ?_
   refine .loopR (σ := Nat) [(0, some _), (3, some _), (4, some _), (11, some _), (144, some _), (145, some _), (146, some _), (158, some _), (159, some _)] (fun x => [(160, some (.int .i64 (x : Int)))]) (fun x H' => a1 = H' ∧ (x : Int) ≤ (m.bh.getD b []).length ∧ ∀ x', x' < x → m.BhOk b x') (fun x => ((m.bh.getD b []).length - x : Int).toNat) (0) ⟨rfl, rfl, rfl, rfl, rfl, rfl, rfl, rfl, rfl, trivial⟩ ⟨rfl, trivial⟩ ?_ ?_
   ·
    refine ⟨rfl, ?_⟩
    exact ⟨by omega, fun _ _ => by omega⟩
   rintro x _ ⟨rfl, hI⟩ KL5 a6
   refine .forget (fr' := [(160, some (.int .i64 (x : Int))), (0, some _), (3, some _), (4, some _), (11, some _), (144, some _), (145, some _), (146, some _), (158, some _), (159, some _)]) ⟨rfl, rfl, rfl, rfl, rfl, rfl, rfl, rfl, rfl, rfl, trivial⟩ ?_
   obtain ⟨hk5, g9⟩ := hI
   refine .seq (fun K44 g3 => .region (.q rfl (.cmp rfl rfl rfl) (.nil (g3 _ _ (.seq (fun K45 g5 => ?_))))))
   refine .cond rfl (fun l => ?_) (fun l => ?_)
   ·
    simp only [sps] at l
    have t1 := r1.2 x (by omega)
    have t2 := r2.2 x
    have t3 := i2.2 x (by omega)
    have t4 := hz.row x (by omega)
    have t5 := hz.rng x (by omega) (m.t.tgt.getD b 0).toNat (by omega)
    refine .skip ?_
    refine g5 _ _ (.seq (fun K46 a9 => ?_))
    refine .block ?_
    refine .seq (fun K47 b0 => .region (.mv rfl ?_))
    refine .q rfl (.idxN sl_23_B (Intss.sl (by assumption)) rfl rfl (by omega)) ?_
    refine .q rfl (.loadR on_22_B (by assumption) rfl (by omega)) ?_
    refine .mv rfl (.mv rfl (.nil (b0 _ _ (.seq (fun K48 b3 => ?_)))))
    refine .regionD mo_B (.q 0 (.q 1 (.q 2 (.q 3 (.q 4 (.q 5 (.q 6 (.q 7 (.q 8 (.q 9 (.q 10 (.q 11 (.q 12 (.q 13 (.q 14 (.q 15 (.q 16 (.q 17 (.q 18 (.q 19 (.q 20 (.q 21 (.q 22 (.q 23 (.q 24 (.q 25 (.q 26 (.q 27 (.q 28 (.q 29 (.q 30 (.q 31 (.q 32 (.c 33 0 (.q 34 (.done)))))))))))))))))))))))))))))))))))) (by kernel_rfl) ?_
    refine .mv rfl rfl (.mv rfl rfl (.q rfl (.nilCheck rfl) (.q rfl (.fieldAddr fo_34_2_VProf rfl) ?_)))
    refine .q rfl (.load on_23_B rfl (by assumption)) ?_
    refine .mv rfl rfl ?_
    refine .q rfl (.idxN sl_23_B (Intss.sl (by assumption)) rfl rfl (by omega)) ?_
    refine .q rfl (.loadR on_22_B (by assumption) rfl (by omega)) ?_
    refine .mv rfl rfl (.q rfl (.nilCheck rfl) (.q rfl (.fieldAddr fo_32_1_B rfl) ?_))
    refine .q rfl (.load on_22_B rfl (by assumption)) ?_
    refine .mv rfl rfl ?_
    refine .q rfl (.idxN sl_22_A (by assumption) rfl rfl (by omega)) ?_
    refine .q rfl (.loadI on_2_A (by assumption) rfl (by omega)) ?_
    refine .q rfl (.idx1 sl_22_A (by assumption) rfl rfl (by omega) (by omega)) ?_
    refine .q rfl (.loadI on_2_A (by assumption) rfl (by omega)) ?_
    refine .mv rfl rfl (.q rfl (.nilCheck rfl) (.q rfl (.fieldAddr fo_34_2_VProf rfl) ?_))
    refine .q rfl (.load on_23_B rfl (by assumption)) ?_
    refine .mv rfl rfl ?_
    refine .q rfl (.idxN sl_23_B (Intss.sl (by assumption)) rfl rfl (by omega)) ?_
    refine .q rfl (.loadR on_22_B (by assumption) rfl (by omega)) ?_
    refine .mv rfl rfl (.q rfl (.nilCheck rfl) (.q rfl (.fieldAddr fo_32_2_B rfl) ?_))
    refine .q rfl (.load on_22_B rfl (by assumption)) ?_
    refine .mv rfl rfl ?_
    refine .q rfl (.idxN sl_22_A (by assumption) rfl rfl (by omega)) ?_
    refine .q rfl (.loadI on_2_A (by assumption) rfl (by omega)) ?_
    refine .q rfl (.idx1 sl_22_A (by assumption) rfl rfl (by omega) (by omega)) ?_
    refine .q rfl (.loadI on_2_A (by assumption) rfl (by omega)) ?_
    refine .callQ0 rfl rfl rfl rfl rfl @Try.call107 rfl (isMapOf_c) ?_
    refine .q rfl (.not rfl) ?_
    refine .done ?_
    refine b3 _ _ ?_
    refine .cond rfl (fun f => ?_) (fun f => ?_)
    ·
     simp only [B_iff, B_not, Bool.not_eq_true', Bool.not_eq_false'] at f
     refine .seq (fun K49 a7 => .region (.mv rfl (.nil (a7 _ _ ?_))))
     refine .ret ?_
     refine d _ _ ?_
     refine ⟨_, rfl, ?_⟩
     exact ⟨congrArg _ (B_false fun hh => f ((hh.ok.bh b (by omega)).2 x (by omega))), e⟩
    simp only [B_iff, B_not, Bool.not_eq_true', Bool.not_eq_false'] at f
    refine .skip ?_
    refine a9 _ _ (.region ?_)
    refine .q rfl (.add rfl rfl rfl (by omega) (by omega)) ?_
    refine .mv rfl (.nil ?_)
    refine a6 (x + 1) _ _ ?_ ?_ ⟨rfl, rfl, rfl, rfl, rfl, rfl, rfl, rfl, rfl, rfl, trivial⟩
    ·
     refine ⟨rfl, ?_⟩
     refine ⟨by omega, fun x' hx => ?_⟩
     by_cases hltq : x' < x
     · exact g9 x' hltq
     · obtain rfl : x' = x := by omega
       exact f
    omega
   try simp only [sps] at l
   refine .exit ?_
   refine g6 _ _ (.region ?_)
   refine .q rfl (.add rfl rfl rfl (by omega) (by omega)) ?_
   refine .mv rfl (.nil ?_)
   refine e7 (b + 1) _ _ ?_ ?_ ⟨rfl, rfl, rfl, rfl, rfl, rfl, trivial⟩
   ·
    refine ⟨rfl, ?_⟩
    refine ⟨by omega, fun b' hx => ?_⟩
    by_cases hltq : b' < b
    · exact h1 b' hltq
    · obtain rfl : b' = b := by omega
      exact ⟨j, fun x hx => g9 x (by omega)⟩
   omega
  try simp only [sps] at n
  refine .exit ?_
  refine f5 _ _ (.seq (fun K50 c6 => .region (.mv rfl (.nil (c6 _ _ ?_)))))
  refine .ret ?_
  refine d _ _ ?_
  refine ⟨_, rfl, ?_⟩
  exact ⟨congrArg _ (B_true ⟨hC, hD, hz, fun a ha => h2 a (by omega), fun b hb => h1 b (by omega)⟩), e⟩
set_option maxHeartbeats 4000000 in
theorem pfActs_c {g o : Nat} {m : Prof} {p : ProfP} {H : GHeap} (h : Prof.At H g o m p := by assumption) (hS : m.Shape := by assumption) : GCalls Try.prog 83 [.pointer (some ⟨g, o, none⟩)] H (Ret (.bool (B m.Acts)) H) := by
  refine GCalls.ret rfl ?_
  refine GCalls.body (N := 216) (rs := [.tmp 2]) Try.func83 rfl rfl rfl rfl (fun Qx a7 hend => ?_)
  refine .fg [0] rfl ?_
  have f := GHeap.Le.refl H
  have d := h
  obtain ⟨fs, ft, n, l, j, i2, i3, i4⟩ := h.get
  have hm : MemN _ _ _ _ _ := ⟨rfl, h.1⟩
  have hi := h.2
  obtain ⟨c0, c1, c2, c3, c4, d1, d2, d3, d4⟩ := fs.get
  obtain ⟨x0, x1, x2, x3, x4, y1, y2, y3, y4⟩ := ft.get
  have hC := hS.s.1
  have hD := hS.t.1
  have q1 := hC.il
  have q2 := hD.il
  have q3 := hC.cl
  have q4 := hD.cl
  have q5 := hS.z.sl
  have q6 := hS.z.bl
  have q7 := hS.z.hl
  have q8 := hC.obj
  have q9 := hD.obj
  have q10 := hC.n40
  have q11 := hD.n40
  refine .seq (fun K1 k0 => .region (.mv rfl (.nil (k0 _ _ (.seq (fun K2 j3 => ?_))))))
  refine .regionD mo_B (.q 0 (.q 1 (.q 2 (.q 3 (.q 4 (.q 5 (.q 6 (.q 7 (.done))))))))) (by kernel_rfl) ?_
  refine .mv rfl rfl (.q rfl (.nilCheck rfl) (.q rfl (.fieldAddr fo_34_0_VProf rfl) (.mv rfl rfl (.q rfl (.nilCheck rfl) (.q rfl (.fieldAddr fo_34_1_VProf rfl) (.mv rfl rfl (.mv rfl rfl ?_)))))))
  refine .done ?_
  refine j3 _ _ (.seq (fun K3 j4 => .seq (fun K4 j2 => .region (.mv rfl (.nil (j2 _ _ ?_))))))
  refine .block ?_
  refine .loopR (σ := Nat) [(0, some _), (3, some _), (4, some _)] (fun y => [(5, some (.int .i64 (y : Int)))]) (fun y H' => St [] H H' ∧ (y : Int) ≤ m.t.obj ∧ ∀ y', y' < y → (∀ x : Nat, x < m.s.idn.length → NoMove ((m.be.getD (m.s.idn.getD x 0).toNat []).getD y' []) ∧ NoMove ((m.bh.getD (m.t.idn.getD y' 0).toNat []).getD x [])) ∧ ∀ a : Nat, a < m.s.comp.length → ∀ b : Nat, b < (m.s.comp.getD a []).length → 0 ≤ (m.s.comp.getD a []).getD b 0 → (m.be.getD ((m.s.comp.getD a []).getD b 0).toNat []).getD y' [] = thenL ((m.be.getD b []).getD y' []) ((m.be.getD a []).getD y' [])) (fun y => (m.t.obj - y : Int).toNat) (0) ⟨rfl, rfl, rfl, trivial⟩ ⟨rfl, trivial⟩ ?_ ?_
  ·
   refine ⟨.refl _ _, ?_⟩
   exact ⟨by omega, fun _ _ => by omega⟩
  rintro y HL1 ⟨e, hI⟩ KL1 e8
  refine .forget (fr' := [(5, some (.int .i64 (y : Int))), (0, some _), (3, some _), (4, some _)]) ⟨rfl, rfl, rfl, rfl, trivial⟩ ?_
  replace f := f.st e (fun k hk => trivial)
  replace h := d.mono f
  clear fs ft n l j i2 i3 i4 hm hi c0 c1 c2 c3 c4 d1 d2 d3 d4 x0 x1 x2 x3 x4 y1 y2 y3 y4
  obtain ⟨fs, ft, n, l, j, i2, i3, i4⟩ := h.get
  have hm : MemN _ _ _ _ _ := ⟨rfl, h.1⟩
  have hi := h.2
  obtain ⟨c0, c1, c2, c3, c4, d1, d2, d3, d4⟩ := fs.get
  obtain ⟨x0, x1, x2, x3, x4, y1, y2, y3, y4⟩ := ft.get
  obtain ⟨hk1, g5⟩ := hI
  refine .seq (fun K5 j7 => .seq (fun K6 j6 => .region (.mv rfl (.mv rfl (.q rfl (.nilCheck rfl) (.q rfl (.fieldAddr fo_32_0_B rfl) ?_))))))
  refine .q rfl (.load on_2_A rfl (by assumption)) ?_
  refine .q rfl (.cmp rfl rfl rfl) (.nil (j6 _ _ ?_))
  refine .cond rfl (fun h5 => ?_) (fun h5 => ?_)
  ·
   simp only [sps] at h5
   have b1 := hD.idn y (by omega)
   refine .skip ?_
   refine j7 _ _ (.seq (fun K7 j9 => ?_))
   refine .block ?_
   refine .seq (fun K8 j8 => .seq (fun K9 j5 => .region (.mv rfl (.q rfl (.nilCheck rfl) (.q rfl (.fieldAddr fo_32_3_B rfl) ?_)))))
   refine .q rfl (.load on_22_B rfl (by assumption)) ?_
   refine .q rfl (.len sl_22_A rfl) (.mv rfl (.nil (j5 _ _ ?_)))
   refine .block ?_
   refine .loopR (σ := Nat) [(0, some _), (3, some _), (4, some _), (5, some _), (34, some _), (35, some _)] (fun x => [(36, some (.int .i64 (x : Int)))]) (fun x H' => St [] HL1 H' ∧ (x : Int) ≤ m.s.idn.length ∧ ∀ x', x' < x → NoMove ((m.be.getD (m.s.idn.getD x' 0).toNat []).getD y []) ∧ NoMove ((m.bh.getD (m.t.idn.getD y 0).toNat []).getD x' [])) (fun x => (m.s.idn.length - x : Int).toNat) (0) ⟨rfl, rfl, rfl, rfl, rfl, rfl, trivial⟩ ⟨rfl, trivial⟩ ?_ ?_
   ·
    refine ⟨.refl _ _, ?_⟩
    exact ⟨by omega, fun _ _ => by omega⟩
   rintro x HL2 ⟨a1, hI⟩ KL2 h6
   refine .forget (fr' := [(36, some (.int .i64 (x : Int))), (0, some _), (3, some _), (4, some _), (5, some _), (34, some _), (35, some _)]) ⟨rfl, rfl, rfl, rfl, rfl, rfl, rfl, trivial⟩ ?_
   replace f := f.st a1 (fun k hk => trivial)
   replace e := e.sA a1
   replace h := d.mono f
   clear fs ft n l j i2 i3 i4 hm hi c0 c1 c2 c3 c4 d1 d2 d3 d4 x0 x1 x2 x3 x4 y1 y2 y3 y4
   obtain ⟨fs, ft, n, l, j, i2, i3, i4⟩ := h.get
   have hm : MemN _ _ _ _ _ := ⟨rfl, h.1⟩
   have hi := h.2
   obtain ⟨c0, c1, c2, c3, c4, d1, d2, d3, d4⟩ := fs.get
   obtain ⟨x0, x1, x2, x3, x4, y1, y2, y3, y4⟩ := ft.get
   obtain ⟨hk2, j0⟩ := hI
   refine .seq (fun K10 f9 => .region (.q rfl (.cmp rfl rfl rfl) (.nil (f9 _ _ (.seq (fun K11 g1 => ?_))))))
   refine .cond rfl (fun g7 => ?_) (fun g7 => ?_)
   ·
    simp only [sps] at g7
    have r1 := hC.idn x (by omega)
    have r3 := hS.by (a := (m.s.idn.getD x 0).toNat) (y := y) (by omega) (by omega)
    rw [(hC.ids x (by omega)).1, (hC.ids x (by omega)).2, Int.toNat_natCast] at r3
    have s3 := hS.hx (b := (m.t.idn.getD y 0).toNat) (x := x) (by omega) (by omega)
    rw [(hD.ids y (by omega)).1, (hD.ids y (by omega)).2, Int.toNat_natCast] at s3
    have e1 := calm_iff' r3.2.2.2.1
    have e2 := calm_iff' s3.2.2.2.2.1
    have r2 := i3.2 (m.s.idn.getD x 0).toNat (by omega)
    have r4 := r2.2 y (by omega)
    have r5 := i2.2 x (by omega)
    have s2 := i4.2 (m.t.idn.getD y 0).toNat (by omega)
    have s4 := s2.2 x (by omega)
    refine .skip ?_
    refine g1 _ _ (.seq (fun K12 h4 => ?_))
    refine .block ?_
    refine .seq (fun K13 i0 => .region (.mv rfl ?_))
    refine .q rfl (.idxN sl_22_A (by assumption) rfl rfl (by omega)) ?_
    refine .q rfl (.loadI on_2_A (by assumption) rfl (by omega)) ?_
    refine .mv rfl (.mv rfl (.nil (i0 _ _ (.seq (fun K14 d5 => ?_)))))
    refine .regionD mo_B (.q 0 (.q 1 (.q 2 (.q 3 (.q 4 (.q 5 (.q 6 (.q 7 (.q 8 (.q 9 (.q 10 (.q 11 (.q 12 (.q 13 (.q 14 (.q 15 (.q 16 (.q 17 (.q 18 (.q 19 (.c 20 1 (.c 21 0 (.q 22 (.q 23 (.q 24 (.q 25 (.q 26 (.q 27 (.q 28 (.q 29 (.q 30 (.q 31 (.q 32 (.q 33 (.q 34 (.q 35 (.q 36 (.q 37 (.q 38 (.q 39 (.q 40 (.q 41 (.q 42 (.q 43 (.q 44 (.q 45 (.q 46 (.q 47 (.q 48 (.q 49 (.c 50 1 (.c 51 0 (.q 52 (.q 53 (.done))))))))))))))))))))))))))))))))))))))))))))))))))))))) (by kernel_rfl) ?_
    refine .mv rfl rfl (.q rfl (.nilCheck rfl) (.q rfl (.fieldAddr fo_34_3_VProf rfl) ?_))
    refine .q rfl (.load on_26_VProf rfl (by assumption)) ?_
    refine .mv rfl rfl ?_
    refine .q rfl (.idx1 sl_26_VZ (Intsss.sl (by assumption)) rfl rfl (by omega) (by omega)) ?_
    refine .q rfl (.loadRR on_23_B (by assumption) rfl (by omega)) ?_
    refine .mv rfl rfl ?_
    refine .q rfl (.idxN sl_23_B (Intss.sl (by assumption)) rfl rfl (by omega)) ?_
    refine .q rfl (.loadR on_22_B (by assumption) rfl (by omega)) ?_
    refine .mv rfl rfl (.q rfl (.nilCheck rfl) (.q rfl (.fieldAddr fo_34_2_VProf rfl) ?_))
    refine .q rfl (.load on_23_B rfl (by assumption)) ?_
    refine .mv rfl rfl ?_
    refine .q rfl (.idxN sl_23_B (Intss.sl (by assumption)) rfl rfl (by omega)) ?_
    refine .q rfl (.loadR on_22_B (by assumption) rfl (by omega)) ?_
    refine .mv rfl rfl ?_
    refine .q rfl (.idxN sl_22_A (by assumption) rfl rfl (by omega)) ?_
    refine .q rfl (.loadI on_2_A (by assumption) rfl (by omega)) ?_
    refine .call1 rfl rfl rfl rfl rfl @Try.call108 rfl (numbers_c) ?_
    rintro _ H61 ⟨b2, g61, rfl, b0, ge61⟩
    have c5 := b2
    refine ⟨c5, ?_⟩
    replace f := f.trans b2
    replace e := e.le b2
    replace a1 := a1.le b2
    have lt_at61 := GHeap.ltg b0
    replace h := d.mono f
    clear fs ft n l j i2 i3 i4 hm hi c0 c1 c2 c3 c4 d1 d2 d3 d4 x0 x1 x2 x3 x4 y1 y2 y3 y4
    obtain ⟨fs, ft, n, l, j, i2, i3, i4⟩ := h.get
    have hm : MemN _ _ _ _ _ := ⟨rfl, h.1⟩
    have hi := h.2
    obtain ⟨c0, c1, c2, c3, c4, d1, d2, d3, d4⟩ := fs.get
    obtain ⟨x0, x1, x2, x3, x4, y1, y2, y3, y4⟩ := ft.get
    clear r2 r4 r5 s2 s4
    have r2 := i3.2 (m.s.idn.getD x 0).toNat (by omega)
    have r4 := r2.2 y (by omega)
    have r5 := i2.2 x (by omega)
    have s2 := i4.2 (m.t.idn.getD y 0).toNat (by omega)
    have s4 := s2.2 x (by omega)
    have i9 := Ints.of_get b0
    refine .callQ0 rfl rfl rfl rfl rfl @Try.call85 rfl (same_c (hy := by rw [length_numsL]; omega)) ?_
    refine .q rfl (.not rfl) (.mv rfl rfl ?_)
    refine .split (fun c9 => ?_) (fun c9 => ?_)
    ·
     simp only [sps, e1] at c9
     refine .z rfl (.z rfl (.z rfl (.z rfl (.z rfl (.z rfl (.z rfl (.z rfl (.z rfl (.z rfl (.z rfl (.z rfl (.z rfl (.z rfl (.z rfl (.z rfl ?_)))))))))))))))
     refine .z rfl (.z rfl (.z rfl (.z rfl (.z rfl (.z rfl (.z rfl (.z rfl (.z rfl (.z rfl (.sgc rfl rfl rfl rfl rfl rfl (.sgc rfl rfl rfl rfl rfl rfl (.z rfl (.q rfl (.pickT rfl rfl) ?_)))))))))))))
     refine .done ?_
     refine d5 _ _ ?_
     refine .condT rfl ?_
     refine .seq (fun K15 e0 => .region (.mv rfl (.nil (e0 _ _ ?_))))
     refine .ret ?_
     refine a7 _ _ ?_
     refine ⟨_, rfl, ?_⟩
     exact ⟨congrArg _ (B_false fun hh => c9 (hh.idb y (by omega) x (by omega)).1), f⟩
    simp only [sps, e1] at c9
    refine .qg rfl (.move rfl) (.qg rfl (.nilCheck rfl) (.qg rfl (.fieldAddr fo_34_4_VProf rfl) ?_))
    refine .qg rfl (.load on_26_VProf rfl (by assumption)) ?_
    refine .qg rfl (.move rfl) (.qg rfl (.nilCheck rfl) (.qg rfl (.fieldAddr fo_32_3_B rfl) ?_))
    refine .qg rfl (.load on_22_B rfl (by assumption)) ?_
    refine .qg rfl (.move rfl) ?_
    refine .qg rfl (.idxN sl_22_A (by assumption) rfl rfl (by omega)) ?_
    refine .qg rfl (.loadI on_2_A (by assumption) rfl (by omega)) ?_
    refine .qg rfl (.idx1 sl_26_VZ (Intsss.sl (by assumption)) rfl rfl (by omega) (by omega)) ?_
    refine .qg rfl (.loadRR on_23_B (by assumption) rfl (by omega)) ?_
    refine .qg rfl (.move rfl) ?_
    refine .qg rfl (.idxN sl_23_B (Intss.sl (by assumption)) rfl rfl (by omega)) ?_
    refine .qg rfl (.loadR on_22_B (by assumption) rfl (by omega)) ?_
    refine .qg rfl (.move rfl) (.qg rfl (.nilCheck rfl) (.qg rfl (.fieldAddr fo_34_2_VProf rfl) ?_))
    refine .qg rfl (.load on_23_B rfl (by assumption)) ?_
    refine .qg rfl (.move rfl) ?_
    refine .qg rfl (.idxN sl_23_B (Intss.sl (by assumption)) rfl rfl (by omega)) ?_
    refine .qg rfl (.loadR on_22_B (by assumption) rfl (by omega)) ?_
    refine .qg rfl (.move rfl) ?_
    refine .qg rfl (.idxN sl_22_A (by assumption) rfl rfl (by omega)) ?_
    refine .qg rfl (.loadI on_2_A (by assumption) rfl (by omega)) ?_
    refine .call1g rfl rfl rfl rfl rfl rfl rfl @Try.call108 rfl (numbers_c) ?_
    rintro _ H91 ⟨a6, g91, rfl, d6, ge91⟩
    have c5 := a6
    refine ⟨c5, ?_⟩
    replace f := f.trans a6
    replace e := e.le a6
    replace a1 := a1.le a6
    replace b0 := a6.2 _ _ b0
    have lt_at91 := GHeap.ltg d6
    replace h := d.mono f
    clear fs ft n l j i2 i3 i4 hm hi c0 c1 c2 c3 c4 d1 d2 d3 d4 x0 x1 x2 x3 x4 y1 y2 y3 y4
    obtain ⟨fs, ft, n, l, j, i2, i3, i4⟩ := h.get
    have hm : MemN _ _ _ _ _ := ⟨rfl, h.1⟩
    have hi := h.2
    obtain ⟨c0, c1, c2, c3, c4, d1, d2, d3, d4⟩ := fs.get
    obtain ⟨x0, x1, x2, x3, x4, y1, y2, y3, y4⟩ := ft.get
    clear r2 r4 r5 s2 s4
    have r2 := i3.2 (m.s.idn.getD x 0).toNat (by omega)
    have r4 := r2.2 y (by omega)
    have r5 := i2.2 x (by omega)
    have s2 := i4.2 (m.t.idn.getD y 0).toNat (by omega)
    have s4 := s2.2 x (by omega)
    clear i9
    have i9 := Ints.of_get b0
    have i91 := Ints.of_get d6
    refine .callQ0g rfl rfl rfl rfl rfl rfl rfl @Try.call85 rfl (same_c (hy := by rw [length_numsL]; omega)) ?_
    refine .qg rfl (.not rfl) (.q rfl (.pickF rfl rfl) ?_)
    refine .done ?_
    refine d5 _ _ ?_
    refine .cond rfl (fun d8 => ?_) (fun d8 => ?_)
    ·
     simp only [sps, e2] at d8
     refine .seq (fun K16 h9 => .region (.mv rfl (.nil (h9 _ _ ?_))))
     refine .ret ?_
     refine a7 _ _ ?_
     refine ⟨_, rfl, ?_⟩
     exact ⟨congrArg _ (B_false fun hh => d8 (hh.idb y (by omega) x (by omega)).2), f⟩
    simp only [sps, e2] at d8
    refine .skip ?_
    refine h4 _ _ (.region ?_)
    refine .q rfl (.add rfl rfl rfl (by omega) (by omega)) ?_
    refine .mv rfl (.nil ?_)
    refine h6 (x + 1) _ _ ?_ ?_ ⟨rfl, rfl, rfl, rfl, rfl, rfl, rfl, trivial⟩
    ·
     refine ⟨a1, ?_⟩
     refine ⟨by omega, fun x' hx => ?_⟩
     by_cases hltq : x' < x
     · exact j0 x' hltq
     · obtain rfl : x' = x := by omega
       exact ⟨c9, d8⟩
    omega
   try simp only [sps] at g7
   refine .exit ?_
   refine j8 _ _ (.seq (fun K17 e3 => .region (.mv rfl (.q rfl (.nilCheck rfl) (.q rfl (.fieldAddr fo_32_4_B rfl) ?_)))))
   refine .q rfl (.load on_23_B rfl (by assumption)) ?_
   refine .q rfl (.len sl_23_B rfl) (.mv rfl (.nil (e3 _ _ ?_)))
   refine .block ?_
   refine .loopR (σ := Nat) [(0, some _), (3, some _), (4, some _), (5, some _), (99, some _), (100, some _)] (fun a => [(101, some (.int .i64 (a : Int)))]) (fun a H' => St [] HL2 H' ∧ (a : Int) ≤ m.s.comp.length ∧ ∀ a', a' < a → ∀ b : Nat, b < (m.s.comp.getD a' []).length → 0 ≤ (m.s.comp.getD a' []).getD b 0 → (m.be.getD ((m.s.comp.getD a' []).getD b 0).toNat []).getD y [] = thenL ((m.be.getD b []).getD y []) ((m.be.getD a' []).getD y [])) (fun a => (m.s.comp.length - a : Int).toNat) (0) ⟨rfl, rfl, rfl, rfl, rfl, rfl, trivial⟩ ⟨rfl, trivial⟩ ?_ ?_
   ·
    refine ⟨.refl _ _, ?_⟩
    exact ⟨by omega, fun _ _ => by omega⟩
   rintro a HL3 ⟨a3, hI⟩ KL3 g0
   refine .forget (fr' := [(101, some (.int .i64 (a : Int))), (0, some _), (3, some _), (4, some _), (5, some _), (99, some _), (100, some _)]) ⟨rfl, rfl, rfl, rfl, rfl, rfl, rfl, trivial⟩ ?_
   replace f := f.st a3 (fun k hk => trivial)
   replace e := e.sA a3
   replace h := d.mono f
   clear fs ft n l j i2 i3 i4 hm hi c0 c1 c2 c3 c4 d1 d2 d3 d4 x0 x1 x2 x3 x4 y1 y2 y3 y4
   obtain ⟨fs, ft, n, l, j, i2, i3, i4⟩ := h.get
   have hm : MemN _ _ _ _ _ := ⟨rfl, h.1⟩
   have hi := h.2
   obtain ⟨c0, c1, c2, c3, c4, d1, d2, d3, d4⟩ := fs.get
   obtain ⟨x0, x1, x2, x3, x4, y1, y2, y3, y4⟩ := ft.get
   obtain ⟨hk3, i7⟩ := hI
   refine .seq (fun K18 e7 => .region (.q rfl (.cmp rfl rfl rfl) (.nil (e7 _ _ (.seq (fun K19 g2 => ?_))))))
   refine .cond rfl (fun b8 => ?_) (fun b8 => ?_)
   ·
    simp only [sps] at b8
    have r1 := hC.row a (by omega)
    have r4 := hS.by (a := a) (y := y) (by omega) (by omega)
    have r2 := d4.2 a (by omega)
    have r3 := i3.2 a (by omega)
    have r5 := r3.2 y (by omega)
    refine .skip ?_
    refine g2 _ _ (.seq (fun K20 e6 => ?_))
    refine .block ?_
    refine .seq (fun K21 f0 => .region (.mv rfl ?_))
    refine .q rfl (.idxN sl_23_B (Intss.sl (by assumption)) rfl rfl (by omega)) ?_
    refine .q rfl (.loadR on_22_B (by assumption) rfl (by omega)) ?_
    refine .mv rfl (.mv rfl (.nil (f0 _ _ (.seq (fun K22 g8 => .region (.mv rfl (.q rfl (.len sl_22_A rfl) (.mv rfl (.nil (g8 _ _ ?_))))))))))
    refine .block ?_
    refine .loopR (σ := Nat) [(0, some _), (3, some _), (4, some _), (5, some _), (8, some _), (99, some _), (100, some _), (101, some _), (106, some _), (107, some _)] (fun b => [(108, some (.int .i64 (b : Int)))]) (fun b H' => St [] HL3 H' ∧ (b : Int) ≤ (m.s.comp.getD a []).length ∧ ∀ b', b' < b → 0 ≤ (m.s.comp.getD a []).getD b' 0 → (m.be.getD ((m.s.comp.getD a []).getD b' 0).toNat []).getD y [] = thenL ((m.be.getD b' []).getD y []) ((m.be.getD a []).getD y [])) (fun b => ((m.s.comp.getD a []).length - b : Int).toNat) (0) ⟨rfl, rfl, rfl, rfl, rfl, rfl, rfl, rfl, rfl, rfl, trivial⟩ ⟨rfl, trivial⟩ ?_ ?_
    ·
     refine ⟨.refl _ _, ?_⟩
     exact ⟨by omega, fun _ _ => by omega⟩
    rintro b HL4 ⟨a2, hI⟩ KL4 d0
    refine .forget (fr' := [(108, some (.int .i64 (b : Int))), (0, some _), (3, some _), (4, some _), (5, some _), (8, some _), (99, some _), (100, some _), (101, some _), (106, some _), (107, some _)]) ⟨rfl, rfl, rfl, rfl, rfl, rfl, rfl, rfl, rfl, rfl, rfl, trivial⟩ ?_
    replace f := f.st a2 (fun k hk => trivial)
    replace e := e.sA a2
    replace a3 := a3.sA a2
    replace h := d.mono f
    clear fs ft n l j i2 i3 i4 hm hi c0 c1 c2 c3 c4 d1 d2 d3 d4 x0 x1 x2 x3 x4 y1 y2 y3 y4
    obtain ⟨fs, ft, n, l, j, i2, i3, i4⟩ := h.get
    have hm : MemN _ _ _ _ _ := ⟨rfl, h.1⟩
    have hi := h.2
    obtain ⟨c0, c1, c2, c3, c4, d1, d2, d3, d4⟩ := fs.get
    obtain ⟨x0, x1, x2, x3, x4, y1, y2, y3, y4⟩ := ft.get
    clear r2 r3 r5
    have r2 := d4.2 a (by omega)
    have r3 := i3.2 a (by omega)
    have r5 := r3.2 y (by omega)
    obtain ⟨hk4, h0⟩ := hI
    refine .seq (fun K23 f8 => .region (.q rfl (.cmp rfl rfl rfl) (.nil (f8 _ _ (.seq (fun K24 f4 => ?_))))))
    refine .cond rfl (fun b5 => ?_) (fun b5 => ?_)
    ·
     simp only [sps] at b5
     have t4 := hS.by (a := b) (y := y) (by omega) (by omega)
     have t3 := i3.2 b (by omega)
     have t5 := t3.2 y (by omega)
     refine .skip ?_
     refine f4 _ _ (.seq (fun K25 c8 => ?_))
     refine .block ?_
     refine .seq (fun K26 f6 => .region (.mv rfl ?_))
     refine .q rfl (.idxN sl_22_A (by assumption) rfl rfl (by omega)) ?_
     refine .q rfl (.loadI on_2_A (by assumption) rfl (by omega)) ?_
     refine .mv rfl (.mv rfl (.nil (f6 _ _ (.seq (fun K27 c7 => ?_)))))
     refine .regionD mo_B (.q 0 (.q 1 (.q 2 (.q 3 (.q 4 (.q 5 (.q 6 (.q 7 (.q 8 (.q 9 (.q 10 (.q 11 (.q 12 (.q 13 (.q 14 (.q 15 (.q 16 (.q 17 (.q 18 (.q 19 (.q 20 (.q 21 (.q 22 (.q 23 (.q 24 (.q 25 (.q 26 (.q 27 (.q 28 (.q 29 (.q 30 (.q 31 (.q 32 (.c 33 1 (.c 34 0 (.q 35 (.q 36 (.done)))))))))))))))))))))))))))))))))))))) (by kernel_rfl) ?_
     refine .mv rfl rfl (.q rfl (.cmp rfl rfl rfl) (.mv rfl rfl ?_))
     refine .split (fun a9 => ?_) (fun a9 => ?_)
     ·
      simp only [sps] at a9
      have u1 := hC.comp (a := a) (b := b) (by omega) (by omega) a9
      have u4 := hS.by (a := ((m.s.comp.getD a []).getD b 0).toNat) (y := y) (by omega) (by omega)
      have u6 : ∀ i, i < ((m.be.getD b []).getD y []).length → 0 ≤ ((m.be.getD b []).getD y []).getD i 0 ∧ ((m.be.getD b []).getD y []).getD i 0 < ((m.be.getD a []).getD y []).length := fun i hi => by
        have := t4.2.2.2.2.1 i hi
        rw [← u1.1, ← r4.2.2.2.1] at this
        exact this
      have u3 := i3.2 ((m.s.comp.getD a []).getD b 0).toNat (by omega)
      have u5 := u3.2 y (by omega)
      refine .qg rfl (.move rfl) (.qg rfl (.nilCheck rfl) (.qg rfl (.fieldAddr fo_34_3_VProf rfl) ?_))
      refine .qg rfl (.load on_26_VProf rfl (by assumption)) ?_
      refine .qg rfl (.move rfl) ?_
      refine .qg rfl (.idx1 sl_26_VZ (Intsss.sl (by assumption)) rfl rfl (by omega) (by omega)) ?_
      refine .qg rfl (.loadRR on_23_B (by assumption) rfl (by omega)) ?_
      refine .qg rfl (.move rfl) ?_
      refine .qg rfl (.idxN sl_23_B (Intss.sl (by assumption)) rfl rfl (by omega)) ?_
      refine .qg rfl (.loadR on_22_B (by assumption) rfl (by omega)) ?_
      refine .qg rfl (.move rfl) (.qg rfl (.nilCheck rfl) (.qg rfl (.fieldAddr fo_34_3_VProf rfl) ?_))
      refine .qg rfl (.load on_26_VProf rfl (by assumption)) ?_
      refine .qg rfl (.move rfl) ?_
      refine .qg rfl (.idxN sl_26_VZ (Intsss.sl (by assumption)) rfl rfl (by omega)) ?_
      refine .qg rfl (.loadRR on_23_B (by assumption) rfl (by omega)) ?_
      refine .qg rfl (.move rfl) ?_
      refine .qg rfl (.idxN sl_23_B (Intss.sl (by assumption)) rfl rfl (by omega)) ?_
      refine .qg rfl (.loadR on_22_B (by assumption) rfl (by omega)) ?_
      refine .qg rfl (.move rfl) (.qg rfl (.nilCheck rfl) (.qg rfl (.fieldAddr fo_34_3_VProf rfl) ?_))
      refine .qg rfl (.load on_26_VProf rfl (by assumption)) ?_
      refine .qg rfl (.move rfl) ?_
      refine .qg rfl (.idxN sl_26_VZ (Intsss.sl (by assumption)) rfl rfl (by omega)) ?_
      refine .qg rfl (.loadRR on_23_B (by assumption) rfl (by omega)) ?_
      refine .qg rfl (.move rfl) ?_
      refine .qg rfl (.idxN sl_23_B (Intss.sl (by assumption)) rfl rfl (by omega)) ?_
      refine .qg rfl (.loadR on_22_B (by assumption) rfl (by omega)) ?_
      refine .call1g rfl rfl rfl rfl rfl rfl rfl @Try.call84 rfl (implThen_c) ?_
      rintro _ H146 ⟨a0, g146, rfl, b3, ge146⟩
      have c5 := a0
      refine ⟨c5, ?_⟩
      replace f := f.trans a0
      replace e := e.le a0
      replace a3 := a3.le a0
      replace a2 := a2.le a0
      have lt_at146 := GHeap.ltg b3
      replace h := d.mono f
      clear fs ft n l j i2 i3 i4 hm hi c0 c1 c2 c3 c4 d1 d2 d3 d4 x0 x1 x2 x3 x4 y1 y2 y3 y4
      obtain ⟨fs, ft, n, l, j, i2, i3, i4⟩ := h.get
      have hm : MemN _ _ _ _ _ := ⟨rfl, h.1⟩
      have hi := h.2
      obtain ⟨c0, c1, c2, c3, c4, d1, d2, d3, d4⟩ := fs.get
      obtain ⟨x0, x1, x2, x3, x4, y1, y2, y3, y4⟩ := ft.get
      clear r2 r3 r5
      have r2 := d4.2 a (by omega)
      have r3 := i3.2 a (by omega)
      have r5 := r3.2 y (by omega)
      clear t3 t5
      have t3 := i3.2 b (by omega)
      have t5 := t3.2 y (by omega)
      clear u3 u5
      have u3 := i3.2 ((m.s.comp.getD a []).getD b 0).toNat (by omega)
      have u5 := u3.2 y (by omega)
      have i146 := Ints.of_get b3
      refine .callQ0g rfl rfl rfl rfl rfl rfl rfl @Try.call85 rfl (same_c (hy := by rw [length_thenL]; omega)) ?_
      refine .qg rfl (.not rfl) (.q rfl (.pickT rfl rfl) ?_)
      refine .done ?_
      refine c7 _ _ ?_
      refine .cond rfl (fun a4 => ?_) (fun a4 => ?_)
      ·
       try simp only [sps] at a4
       refine .seq (fun K28 h1 => .region (.mv rfl (.nil (h1 _ _ ?_))))
       refine .ret ?_
       refine a7 _ _ ?_
       refine ⟨_, rfl, ?_⟩
       exact ⟨congrArg _ (B_false fun hh => a4 (hh.thb y (by omega) a (by omega) b (by omega) a9)), f⟩
      try simp only [sps] at a4
      refine .skip ?_
      refine c8 _ _ (.region ?_)
      refine .q rfl (.add rfl rfl rfl (by omega) (by omega)) ?_
      refine .mv rfl (.nil ?_)
      refine d0 (b + 1) _ _ ?_ ?_ ⟨rfl, rfl, rfl, rfl, rfl, rfl, rfl, rfl, rfl, rfl, rfl, trivial⟩
      ·
       refine ⟨a2, ?_⟩
       refine ⟨by omega, fun b' hx => ?_⟩
       by_cases hltq : b' < b
       · exact h0 b' hltq
       · obtain rfl : b' = b := by omega
         first | exact fun _ => a4 | exact fun hp => absurd hp (by omega)
      omega
     try simp only [sps] at a9
     refine .z rfl (.z rfl (.z rfl (.z rfl (.z rfl (.z rfl (.z rfl (.z rfl (.z rfl (.z rfl (.z rfl (.z rfl (.z rfl (.z rfl (.z rfl (.z rfl ?_)))))))))))))))
     refine .z rfl (.z rfl (.z rfl (.z rfl (.z rfl (.z rfl (.z rfl (.z rfl (.z rfl (.z rfl (.z rfl (.z rfl (.z rfl (.z rfl (.sgc rfl rfl rfl rfl rfl rfl (.sgc rfl rfl rfl rfl rfl rfl ?_)))))))))))))))
     refine .z rfl (.q rfl (.pickF rfl rfl) ?_)
     refine .done ?_
     refine c7 _ _ ?_
     refine .condF rfl ?_
     refine .skip ?_
     refine c8 _ _ (.region ?_)
     refine .q rfl (.add rfl rfl rfl (by omega) (by omega)) ?_
     refine .mv rfl (.nil ?_)
     refine d0 (b + 1) _ _ ?_ ?_ ⟨rfl, rfl, rfl, rfl, rfl, rfl, rfl, rfl, rfl, rfl, rfl, trivial⟩
     ·
      refine ⟨a2, ?_⟩
      refine ⟨by omega, fun b' hx => ?_⟩
      by_cases hltq : b' < b
      · exact h0 b' hltq
      · obtain rfl : b' = b := by omega
        first | exact fun _ => a4 | exact fun hp => absurd hp (by omega)
     omega
    try simp only [sps] at b5
    refine .exit ?_
    refine e6 _ _ (.region ?_)
    refine .q rfl (.add rfl rfl rfl (by omega) (by omega)) ?_
    refine .mv rfl (.nil ?_)
    refine g0 (a + 1) _ _ ?_ ?_ ⟨rfl, rfl, rfl, rfl, rfl, rfl, rfl, trivial⟩
    ·
     refine ⟨a3, ?_⟩
     refine ⟨by omega, fun a' hx => ?_⟩
     by_cases hltq : a' < a
     · exact i7 a' hltq
     · obtain rfl : a' = a := by omega
       exact fun b hb => h0 b (by omega)
    omega
   try simp only [sps] at b8
   refine .exit ?_
   refine j9 _ _ (.region (.mv rfl ?_))
   refine .q rfl (.add rfl rfl rfl (by omega) (by omega)) ?_
   refine .mv rfl (.nil ?_)
   refine e8 (y + 1) _ _ ?_ ?_ ⟨rfl, rfl, rfl, rfl, trivial⟩
   ·
    refine ⟨e, ?_⟩
    refine ⟨by omega, fun y' hx => ?_⟩
    by_cases hltq : y' < y
    · exact g5 y' hltq
    · obtain rfl : y' = y := by omega
      exact ⟨fun x hx => j0 x (by omega), fun a ha => i7 a (by omega)⟩
   omega
  try simp only [sps] at h5
  refine .exit ?_
  refine j4 _ _ (.seq (fun K29 f7 => .seq (fun K30 h2 => .region (.mv rfl (.nil (h2 _ _ ?_))))))
  refine .block ?_
  refine .loopR (σ := Nat) [(0, some _), (3, some _), (4, some _)] (fun x => [(12, some (.int .i64 (x : Int)))]) (fun x H' => St [] HL1 H' ∧ (x : Int) ≤ m.s.obj ∧ ∀ x', x' < x → ∀ a : Nat, a < m.t.comp.length → ∀ b : Nat, b < (m.t.comp.getD a []).length → 0 ≤ (m.t.comp.getD a []).getD b 0 → (m.bh.getD ((m.t.comp.getD a []).getD b 0).toNat []).getD x' [] = thenL ((m.bh.getD a []).getD x' []) ((m.bh.getD b []).getD x' [])) (fun x => (m.s.obj - x : Int).toNat) (0) ⟨rfl, rfl, rfl, trivial⟩ ⟨rfl, trivial⟩ ?_ ?_
  ·
   refine ⟨.refl _ _, ?_⟩
   exact ⟨by omega, fun _ _ => by omega⟩
  rintro x HL5 ⟨u, hI⟩ KL5 e4
  refine .forget (fr' := [(12, some (.int .i64 (x : Int))), (0, some _), (3, some _), (4, some _)]) ⟨rfl, rfl, rfl, rfl, trivial⟩ ?_
  replace f := f.st u (fun k hk => trivial)
  replace e := e.sA u
  replace h := d.mono f
  clear fs ft n l j i2 i3 i4 hm hi c0 c1 c2 c3 c4 d1 d2 d3 d4 x0 x1 x2 x3 x4 y1 y2 y3 y4
  obtain ⟨fs, ft, n, l, j, i2, i3, i4⟩ := h.get
  have hm : MemN _ _ _ _ _ := ⟨rfl, h.1⟩
  have hi := h.2
  obtain ⟨c0, c1, c2, c3, c4, d1, d2, d3, d4⟩ := fs.get
  obtain ⟨x0, x1, x2, x3, x4, y1, y2, y3, y4⟩ := ft.get
  obtain ⟨hk5, i8⟩ := hI
  refine .seq (fun K31 g4 => .seq (fun K32 h8 => .region (.mv rfl (.mv rfl (.q rfl (.nilCheck rfl) (.q rfl (.fieldAddr fo_32_0_B rfl) ?_))))))
  refine .q rfl (.load on_2_A rfl (by assumption)) ?_
  refine .q rfl (.cmp rfl rfl rfl) (.nil (h8 _ _ ?_))
  refine .cond rfl (fun b9 => ?_) (fun b9 => ?_)
  ·
   simp only [sps] at b9
   refine .skip ?_
   refine g4 _ _ (.seq (fun K33 f3 => ?_))
   refine .block ?_
   refine .seq (fun K34 h3 => .region (.mv rfl (.q rfl (.nilCheck rfl) (.q rfl (.fieldAddr fo_32_4_B rfl) ?_))))
   refine .q rfl (.load on_23_B rfl (by assumption)) ?_
   refine .q rfl (.len sl_23_B rfl) (.mv rfl (.nil (h3 _ _ ?_)))
   refine .block ?_
   refine .loopR (σ := Nat) [(0, some _), (3, some _), (4, some _), (12, some _), (163, some _), (164, some _)] (fun a => [(165, some (.int .i64 (a : Int)))]) (fun a H' => St [] HL5 H' ∧ (a : Int) ≤ m.t.comp.length ∧ ∀ a', a' < a → ∀ b : Nat, b < (m.t.comp.getD a' []).length → 0 ≤ (m.t.comp.getD a' []).getD b 0 → (m.bh.getD ((m.t.comp.getD a' []).getD b 0).toNat []).getD x [] = thenL ((m.bh.getD a' []).getD x []) ((m.bh.getD b []).getD x [])) (fun a => (m.t.comp.length - a : Int).toNat) (0) ⟨rfl, rfl, rfl, rfl, rfl, rfl, trivial⟩ ⟨rfl, trivial⟩ ?_ ?_
   ·
    refine ⟨.refl _ _, ?_⟩
    exact ⟨by omega, fun _ _ => by omega⟩
   rintro a HL6 ⟨w, hI⟩ KL6 h7
   refine .forget (fr' := [(165, some (.int .i64 (a : Int))), (0, some _), (3, some _), (4, some _), (12, some _), (163, some _), (164, some _)]) ⟨rfl, rfl, rfl, rfl, rfl, rfl, rfl, trivial⟩ ?_
   replace f := f.st w (fun k hk => trivial)
   replace e := e.sA w
   replace u := u.sA w
   replace h := d.mono f
   clear fs ft n l j i2 i3 i4 hm hi c0 c1 c2 c3 c4 d1 d2 d3 d4 x0 x1 x2 x3 x4 y1 y2 y3 y4
   obtain ⟨fs, ft, n, l, j, i2, i3, i4⟩ := h.get
   have hm : MemN _ _ _ _ _ := ⟨rfl, h.1⟩
   have hi := h.2
   obtain ⟨c0, c1, c2, c3, c4, d1, d2, d3, d4⟩ := fs.get
   obtain ⟨x0, x1, x2, x3, x4, y1, y2, y3, y4⟩ := ft.get
   obtain ⟨hk6, j1⟩ := hI
   refine .seq (fun K35 g9 => .region (.q rfl (.cmp rfl rfl rfl) (.nil (g9 _ _ (.seq (fun K36 i1 => ?_))))))
   refine .cond rfl (fun b7 => ?_) (fun b7 => ?_)
   ·
    simp only [sps] at b7
    have r1 := hD.row a (by omega)
    have r4 := hS.hx (b := a) (x := x) (by omega) (by omega)
    have r2 := y4.2 a (by omega)
    have r3 := i4.2 a (by omega)
    have r5 := r3.2 x (by omega)
    refine .skip ?_
    refine i1 _ _ (.seq (fun K37 f1 => ?_))
    refine .block ?_
    refine .seq (fun K38 i6 => .region (.mv rfl ?_))
    refine .q rfl (.idxN sl_23_B (Intss.sl (by assumption)) rfl rfl (by omega)) ?_
    refine .q rfl (.loadR on_22_B (by assumption) rfl (by omega)) ?_
    refine .mv rfl (.mv rfl (.nil (i6 _ _ (.seq (fun K39 e9 => .region (.mv rfl (.q rfl (.len sl_22_A rfl) (.mv rfl (.nil (e9 _ _ ?_))))))))))
    refine .block ?_
    refine .loopR (σ := Nat) [(0, some _), (3, some _), (4, some _), (12, some _), (13, some _), (163, some _), (164, some _), (165, some _), (170, some _), (171, some _)] (fun b => [(172, some (.int .i64 (b : Int)))]) (fun b H' => St [] HL6 H' ∧ (b : Int) ≤ (m.t.comp.getD a []).length ∧ ∀ b', b' < b → 0 ≤ (m.t.comp.getD a []).getD b' 0 → (m.bh.getD ((m.t.comp.getD a []).getD b' 0).toNat []).getD x [] = thenL ((m.bh.getD a []).getD x []) ((m.bh.getD b' []).getD x [])) (fun b => ((m.t.comp.getD a []).length - b : Int).toNat) (0) ⟨rfl, rfl, rfl, rfl, rfl, rfl, rfl, rfl, rfl, rfl, trivial⟩ ⟨rfl, trivial⟩ ?_ ?_
    ·
     refine ⟨.refl _ _, ?_⟩
     exact ⟨by omega, fun _ _ => by omega⟩
    rintro b HL7 ⟨v, hI⟩ KL7 d7
    refine .forget (fr' := [(172, some (.int .i64 (b : Int))), (0, some _), (3, some _), (4, some _), (12, some _), (13, some _), (163, some _), (164, some _), (165, some _), (170, some _), (171, some _)]) ⟨rfl, rfl, rfl, rfl, rfl, rfl, rfl, rfl, rfl, rfl, rfl, trivial⟩ ?_
    replace f := f.st v (fun k hk => trivial)
    replace e := e.sA v
    replace u := u.sA v
    replace w := w.sA v
    replace h := d.mono f
    clear fs ft n l j i2 i3 i4 hm hi c0 c1 c2 c3 c4 d1 d2 d3 d4 x0 x1 x2 x3 x4 y1 y2 y3 y4
    obtain ⟨fs, ft, n, l, j, i2, i3, i4⟩ := h.get
    have hm : MemN _ _ _ _ _ := ⟨rfl, h.1⟩
    have hi := h.2
    obtain ⟨c0, c1, c2, c3, c4, d1, d2, d3, d4⟩ := fs.get
    obtain ⟨x0, x1, x2, x3, x4, y1, y2, y3, y4⟩ := ft.get
    clear r2 r3 r5
    have r2 := y4.2 a (by omega)
    have r3 := i4.2 a (by omega)
    have r5 := r3.2 x (by omega)
    obtain ⟨hk7, f5⟩ := hI
    refine .seq (fun K40 g3 => .region (.q rfl (.cmp rfl rfl rfl) (.nil (g3 _ _ (.seq (fun K41 f2 => ?_))))))
    refine .cond rfl (fun b6 => ?_) (fun b6 => ?_)
    ·
     simp only [sps] at b6
     have t4 := hS.hx (b := b) (x := x) (by omega) (by omega)
     have t3 := i4.2 b (by omega)
     have t5 := t3.2 x (by omega)
     refine .skip ?_
     refine f2 _ _ (.seq (fun K42 c6 => ?_))
     refine .block ?_
     refine .seq (fun K43 g6 => .region (.mv rfl ?_))
     refine .q rfl (.idxN sl_22_A (by assumption) rfl rfl (by omega)) ?_
     refine .q rfl (.loadI on_2_A (by assumption) rfl (by omega)) ?_
     refine .mv rfl (.mv rfl (.nil (g6 _ _ (.seq (fun K44 d9 => ?_)))))
     refine .regionD mo_B (.q 0 (.q 1 (.q 2 (.q 3 (.q 4 (.q 5 (.q 6 (.q 7 (.q 8 (.q 9 (.q 10 (.q 11 (.q 12 (.q 13 (.q 14 (.q 15 (.q 16 (.q 17 (.q 18 (.q 19 (.q 20 (.q 21 (.q 22 (.q 23 (.q 24 (.q 25 (.q 26 (.q 27 (.q 28 (.q 29 (.q 30 (.q 31 (.q 32 (.c 33 1 (.c 34 0 (.q 35 (.q 36 (.done)))))))))))))))))))))))))))))))))))))) (by kernel_rfl) ?_
     refine .mv rfl rfl (.q rfl (.cmp rfl rfl rfl) (.mv rfl rfl ?_))
     refine .split (fun a8 => ?_) (fun a8 => ?_)
     ·
      simp only [sps] at a8
      have u1 := hD.comp (a := a) (b := b) (by omega) (by omega) a8
      have u4 := hS.hx (b := ((m.t.comp.getD a []).getD b 0).toNat) (x := x) (by omega) (by omega)
      have u6 : ∀ i, i < ((m.bh.getD a []).getD x []).length → 0 ≤ ((m.bh.getD a []).getD x []).getD i 0 ∧ ((m.bh.getD a []).getD x []).getD i 0 < ((m.bh.getD b []).getD x []).length := fun i hi => by
        have := r4.2.2.2.2.2.1 i hi
        rw [u1.1, ← t4.2.2.2.2.1] at this
        exact this
      have u3 := i4.2 ((m.t.comp.getD a []).getD b 0).toNat (by omega)
      have u5 := u3.2 x (by omega)
      refine .qg rfl (.move rfl) (.qg rfl (.nilCheck rfl) (.qg rfl (.fieldAddr fo_34_4_VProf rfl) ?_))
      refine .qg rfl (.load on_26_VProf rfl (by assumption)) ?_
      refine .qg rfl (.move rfl) ?_
      refine .qg rfl (.idx1 sl_26_VZ (Intsss.sl (by assumption)) rfl rfl (by omega) (by omega)) ?_
      refine .qg rfl (.loadRR on_23_B (by assumption) rfl (by omega)) ?_
      refine .qg rfl (.move rfl) ?_
      refine .qg rfl (.idxN sl_23_B (Intss.sl (by assumption)) rfl rfl (by omega)) ?_
      refine .qg rfl (.loadR on_22_B (by assumption) rfl (by omega)) ?_
      refine .qg rfl (.move rfl) (.qg rfl (.nilCheck rfl) (.qg rfl (.fieldAddr fo_34_4_VProf rfl) ?_))
      refine .qg rfl (.load on_26_VProf rfl (by assumption)) ?_
      refine .qg rfl (.move rfl) ?_
      refine .qg rfl (.idxN sl_26_VZ (Intsss.sl (by assumption)) rfl rfl (by omega)) ?_
      refine .qg rfl (.loadRR on_23_B (by assumption) rfl (by omega)) ?_
      refine .qg rfl (.move rfl) ?_
      refine .qg rfl (.idxN sl_23_B (Intss.sl (by assumption)) rfl rfl (by omega)) ?_
      refine .qg rfl (.loadR on_22_B (by assumption) rfl (by omega)) ?_
      refine .qg rfl (.move rfl) (.qg rfl (.nilCheck rfl) (.qg rfl (.fieldAddr fo_34_4_VProf rfl) ?_))
      refine .qg rfl (.load on_26_VProf rfl (by assumption)) ?_
      refine .qg rfl (.move rfl) ?_
      refine .qg rfl (.idxN sl_26_VZ (Intsss.sl (by assumption)) rfl rfl (by omega)) ?_
      refine .qg rfl (.loadRR on_23_B (by assumption) rfl (by omega)) ?_
      refine .qg rfl (.move rfl) ?_
      refine .qg rfl (.idxN sl_23_B (Intss.sl (by assumption)) rfl rfl (by omega)) ?_
      refine .qg rfl (.loadR on_22_B (by assumption) rfl (by omega)) ?_
      refine .call1g rfl rfl rfl rfl rfl rfl rfl @Try.call84 rfl (implThen_c) ?_
      rintro _ H210 ⟨r, g210, rfl, b4, ge210⟩
      have c5 := r
      refine ⟨c5, ?_⟩
      replace f := f.trans r
      replace e := e.le r
      replace u := u.le r
      replace w := w.le r
      replace v := v.le r
      have lt_at210 := GHeap.ltg b4
      replace h := d.mono f
      clear fs ft n l j i2 i3 i4 hm hi c0 c1 c2 c3 c4 d1 d2 d3 d4 x0 x1 x2 x3 x4 y1 y2 y3 y4
      obtain ⟨fs, ft, n, l, j, i2, i3, i4⟩ := h.get
      have hm : MemN _ _ _ _ _ := ⟨rfl, h.1⟩
      have hi := h.2
      obtain ⟨c0, c1, c2, c3, c4, d1, d2, d3, d4⟩ := fs.get
      obtain ⟨x0, x1, x2, x3, x4, y1, y2, y3, y4⟩ := ft.get
      clear r2 r3 r5
      have r2 := y4.2 a (by omega)
      have r3 := i4.2 a (by omega)
      have r5 := r3.2 x (by omega)
      clear t3 t5
      have t3 := i4.2 b (by omega)
      have t5 := t3.2 x (by omega)
      clear u3 u5
      have u3 := i4.2 ((m.t.comp.getD a []).getD b 0).toNat (by omega)
      have u5 := u3.2 x (by omega)
      have i210 := Ints.of_get b4
      refine .callQ0g rfl rfl rfl rfl rfl rfl rfl @Try.call85 rfl (same_c (hy := by rw [length_thenL]; omega)) ?_
      refine .qg rfl (.not rfl) (.q rfl (.pickT rfl rfl) ?_)
      refine .done ?_
      refine d9 _ _ ?_
      refine .cond rfl (fun a5 => ?_) (fun a5 => ?_)
      ·
       try simp only [sps] at a5
       refine .seq (fun K45 i5 => .region (.mv rfl (.nil (i5 _ _ ?_))))
       refine .ret ?_
       refine a7 _ _ ?_
       refine ⟨_, rfl, ?_⟩
       exact ⟨congrArg _ (B_false fun hh => a5 (hh.thh x (by omega) a (by omega) b (by omega) a8)), f⟩
      try simp only [sps] at a5
      refine .skip ?_
      refine c6 _ _ (.region ?_)
      refine .q rfl (.add rfl rfl rfl (by omega) (by omega)) ?_
      refine .mv rfl (.nil ?_)
      refine d7 (b + 1) _ _ ?_ ?_ ⟨rfl, rfl, rfl, rfl, rfl, rfl, rfl, rfl, rfl, rfl, rfl, trivial⟩
      ·
       refine ⟨v, ?_⟩
       refine ⟨by omega, fun b' hx => ?_⟩
       by_cases hltq : b' < b
       · exact f5 b' hltq
       · obtain rfl : b' = b := by omega
         first | exact fun _ => a5 | exact fun hp => absurd hp (by omega)
      omega
     try simp only [sps] at a8
     refine .z rfl (.z rfl (.z rfl (.z rfl (.z rfl (.z rfl (.z rfl (.z rfl (.z rfl (.z rfl (.z rfl (.z rfl (.z rfl (.z rfl (.z rfl (.z rfl ?_)))))))))))))))
     refine .z rfl (.z rfl (.z rfl (.z rfl (.z rfl (.z rfl (.z rfl (.z rfl (.z rfl (.z rfl (.z rfl (.z rfl (.z rfl (.z rfl (.sgc rfl rfl rfl rfl rfl rfl (.sgc rfl rfl rfl rfl rfl rfl ?_)))))))))))))))
     refine .z rfl (.q rfl (.pickF rfl rfl) ?_)
     refine .done ?_
     refine d9 _ _ ?_
     refine .condF rfl ?_
     refine .skip ?_
     refine c6 _ _ (.region ?_)
     refine .q rfl (.add rfl rfl rfl (by omega) (by omega)) ?_
     refine .mv rfl (.nil ?_)
     refine d7 (b + 1) _ _ ?_ ?_ ⟨rfl, rfl, rfl, rfl, rfl, rfl, rfl, rfl, rfl, rfl, rfl, trivial⟩
     ·
      refine ⟨v, ?_⟩
      refine ⟨by omega, fun b' hx => ?_⟩
      by_cases hltq : b' < b
      · exact f5 b' hltq
      · obtain rfl : b' = b := by omega
        first | exact fun _ => a5 | exact fun hp => absurd hp (by omega)
     omega
    try simp only [sps] at b6
    refine .exit ?_
    refine f1 _ _ (.region ?_)
    refine .q rfl (.add rfl rfl rfl (by omega) (by omega)) ?_
    refine .mv rfl (.nil ?_)
    refine h7 (a + 1) _ _ ?_ ?_ ⟨rfl, rfl, rfl, rfl, rfl, rfl, rfl, trivial⟩
    ·
     refine ⟨w, ?_⟩
     refine ⟨by omega, fun a' hx => ?_⟩
     by_cases hltq : a' < a
     · exact j1 a' hltq
     · obtain rfl : a' = a := by omega
       exact fun b hb => f5 b (by omega)
    omega
   try simp only [sps] at b7
   refine .exit ?_
   refine f3 _ _ (.region (.mv rfl ?_))
   refine .q rfl (.add rfl rfl rfl (by omega) (by omega)) ?_
   refine .mv rfl (.nil ?_)
   refine e4 (x + 1) _ _ ?_ ?_ ⟨rfl, rfl, rfl, rfl, trivial⟩
   ·
    refine ⟨u, ?_⟩
    refine ⟨by omega, fun x' hx => ?_⟩
    by_cases hltq : x' < x
    · exact i8 x' hltq
    · obtain rfl : x' = x := by omega
      exact fun a ha => j1 a (by omega)
   omega
  try simp only [sps] at b9
  refine .exit ?_
  refine f7 _ _ (.seq (fun K46 e5 => .region (.mv rfl (.nil (e5 _ _ ?_)))))
  refine .ret ?_
  refine a7 _ _ ?_
  refine ⟨_, rfl, ?_⟩
  exact ⟨congrArg _ (B_true ⟨fun y hy x hx => (g5 y (by omega)).1 x (by omega), fun y hy a ha b hb => (g5 y (by omega)).2 a (by omega) b (by have := hC.row a (by omega); omega), fun x hx a ha b hb => i8 x (by omega) a (by omega) b (by have := hD.row a (by omega); omega)⟩), f⟩
set_option maxHeartbeats 4000000 in
theorem isProfunctor_c {g o : Nat} {m : Prof} {p : ProfP} {H : GHeap} (h : Prof.At H g o m p := by assumption) (hs : m.Small := by assumption) : GCalls Try.prog 53 [.pointer (some ⟨g, o, none⟩)] H (Ret (.bool (B m.Is)) H) := by
  refine GCalls.ret rfl ?_
  refine GCalls.body (N := 111) (rs := [.tmp 2]) Try.func53 rfl rfl rfl rfl (fun Qx u hend => ?_)
  refine .fg [0] rfl ?_
  have f := GHeap.Le.refl H
  have d := h
  obtain ⟨fs, ft, a0, a1, w, i2, i3, i4⟩ := h.get
  have hm : MemN _ _ _ _ _ := ⟨rfl, h.1⟩
  have hi := h.2
  obtain ⟨c0, c1, c2, c3, c4, d1, d2, d3, d4⟩ := fs.get
  obtain ⟨x0, x1, x2, x3, x4, y1, y2, y3, y4⟩ := ft.get
  refine .seq (fun K1 d5 => .region (.mv rfl (.nil (d5 _ _ (.seq (fun K2 d9 => .seq (fun K3 d0 => .region (.mv rfl ?_))))))))
  refine .callQ rfl rfl rfl rfl @Try.call82 rfl (pfShape_c) ?_
  refine .q rfl (.not rfl) (.mv rfl ?_)
  refine .split (fun a3 => ?_) (fun a3 => ?_)
  ·
   try simp only [sps] at a3
   refine .z rfl (.z rfl (.z rfl (.q rfl (.pickT rfl rfl) (.nil (d0 _ _ ?_)))))
   refine .condT rfl ?_
   refine .seq (fun K4 d6 => .region (.mv rfl (.nil (d6 _ _ ?_))))
   refine .ret ?_
   refine u _ _ ?_
   refine ⟨_, rfl, ?_⟩
   exact ⟨congrArg _ (B_false fun hh => a3 hh.1), f⟩
  simp only [sps] at a3
  have hS := a3
  refine .qg rfl (.move rfl) ?_
  refine .callQg rfl rfl rfl rfl rfl rfl @Try.call83 rfl (pfActs_c) ?_
  refine .qg rfl (.not rfl) (.q rfl (.pickF rfl rfl) (.nil (d0 _ _ ?_)))
  refine .cond rfl (fun a4 => ?_) (fun a4 => ?_)
  ·
   try simp only [sps] at a4
   refine .seq (fun K5 e0 => .region (.mv rfl (.nil (e0 _ _ ?_))))
   refine .ret ?_
   refine u _ _ ?_
   refine ⟨_, rfl, ?_⟩
   exact ⟨congrArg _ (B_false fun hh => a4 hh.2.1), f⟩
  try simp only [sps] at a4
  refine .skip ?_
  refine d9 _ _ (.seq (fun K6 d8 => ?_))
  refine .regionD mo_B (.q 0 (.q 1 (.q 2 (.q 3 (.q 4 (.q 5 (.q 6 (.q 7 (.done))))))))) (by kernel_rfl) ?_
  refine .mv rfl rfl (.q rfl (.nilCheck rfl) (.q rfl (.fieldAddr fo_34_0_VProf rfl) (.mv rfl rfl (.q rfl (.nilCheck rfl) (.q rfl (.fieldAddr fo_34_1_VProf rfl) (.mv rfl rfl (.mv rfl rfl ?_)))))))
  refine .done ?_
  refine d8 _ _ (.seq (fun K7 e2 => .seq (fun K8 e1 => .region (.mv rfl (.q rfl (.nilCheck rfl) (.q rfl (.fieldAddr fo_34_3_VProf rfl) ?_))))))
  refine .q rfl (.load on_26_VProf rfl (by assumption)) ?_
  refine .q rfl (.len sl_26_VZ rfl) (.mv rfl (.nil (e1 _ _ ?_)))
  refine .block ?_
  have hC := hS.s.1
  have hD := hS.t.1
  have q5 := hS.z.sl
  have q6 := hS.z.bl
  have q7 := hS.z.hl
  have q10 := hC.n40
  have q11 := hD.n40
  have q12 := hC.tl
  have q13 := hD.tl
  refine .loopR (σ := Nat) [(0, some _), (3, some _), (4, some _), (27, some _)] (fun a => [(28, some (.int .i64 (a : Int)))]) (fun a H' => St [] H H' ∧ (a : Int) ≤ m.be.length ∧ ∀ a', a' < a → ∀ b, b < m.bh.length → m.MixAt a' b) (fun a => (m.be.length - a : Int).toNat) (0) ⟨rfl, rfl, rfl, rfl, trivial⟩ ⟨rfl, trivial⟩ ?_ ?_
  ·
   refine ⟨.refl _ _, ?_⟩
   exact ⟨by omega, fun _ _ => by omega⟩
  rintro a HL1 ⟨e, hI⟩ KL1 b5
  refine .forget (fr' := [(28, some (.int .i64 (a : Int))), (0, some _), (3, some _), (4, some _), (27, some _)]) ⟨rfl, rfl, rfl, rfl, rfl, trivial⟩ ?_
  replace f := f.st e (fun k hk => trivial)
  replace h := d.mono f
  clear fs ft a0 a1 w i2 i3 i4 hm hi c0 c1 c2 c3 c4 d1 d2 d3 d4 x0 x1 x2 x3 x4 y1 y2 y3 y4
  obtain ⟨fs, ft, a0, a1, w, i2, i3, i4⟩ := h.get
  have hm : MemN _ _ _ _ _ := ⟨rfl, h.1⟩
  have hi := h.2
  obtain ⟨c0, c1, c2, c3, c4, d1, d2, d3, d4⟩ := fs.get
  obtain ⟨x0, x1, x2, x3, x4, y1, y2, y3, y4⟩ := ft.get
  obtain ⟨hk1, c8⟩ := hI
  refine .seq (fun K9 d7 => .region (.q rfl (.cmp rfl rfl rfl) (.nil (d7 _ _ (.seq (fun K10 b9 => ?_))))))
  refine .cond rfl (fun a9 => ?_) (fun a9 => ?_)
  ·
   simp only [sps] at a9
   have r2 := hS.z.b hS.s (a := a) (by omega)
   have r1 := i3.2 a (by omega)
   refine .skip ?_
   refine b9 _ _ (.seq (fun K11 c5 => ?_))
   refine .block ?_
   refine .seq (fun K12 a7 => .region (.mv rfl (.mv rfl (.nil (a7 _ _ (.seq (fun K13 b8 => .region (.mv rfl (.q rfl (.nilCheck rfl) (.q rfl (.fieldAddr fo_34_4_VProf rfl) ?_))))))))))
   refine .q rfl (.load on_26_VProf rfl (by assumption)) ?_
   refine .q rfl (.len sl_26_VZ rfl) (.mv rfl (.nil (b8 _ _ ?_)))
   refine .block ?_
   refine .loopR (σ := Nat) [(0, some _), (3, some _), (4, some _), (5, some _), (27, some _), (28, some _), (35, some _)] (fun b => [(36, some (.int .i64 (b : Int)))]) (fun b H' => St [] HL1 H' ∧ (b : Int) ≤ m.bh.length ∧ ∀ b', b' < b → m.MixAt a b') (fun b => (m.bh.length - b : Int).toNat) (0) ⟨rfl, rfl, rfl, rfl, rfl, rfl, rfl, trivial⟩ ⟨rfl, trivial⟩ ?_ ?_
   ·
    refine ⟨.refl _ _, ?_⟩
    exact ⟨by omega, fun _ _ => by omega⟩
   rintro b HL2 ⟨j, hI⟩ KL2 a8
   refine .forget (fr' := [(36, some (.int .i64 (b : Int))), (0, some _), (3, some _), (4, some _), (5, some _), (27, some _), (28, some _), (35, some _)]) ⟨rfl, rfl, rfl, rfl, rfl, rfl, rfl, rfl, trivial⟩ ?_
   replace f := f.st j (fun k hk => trivial)
   replace e := e.sA j
   replace h := d.mono f
   clear fs ft a0 a1 w i2 i3 i4 hm hi c0 c1 c2 c3 c4 d1 d2 d3 d4 x0 x1 x2 x3 x4 y1 y2 y3 y4
   obtain ⟨fs, ft, a0, a1, w, i2, i3, i4⟩ := h.get
   have hm : MemN _ _ _ _ _ := ⟨rfl, h.1⟩
   have hi := h.2
   obtain ⟨c0, c1, c2, c3, c4, d1, d2, d3, d4⟩ := fs.get
   obtain ⟨x0, x1, x2, x3, x4, y1, y2, y3, y4⟩ := ft.get
   clear r1
   have r1 := i3.2 a (by omega)
   obtain ⟨hk2, c7⟩ := hI
   refine .seq (fun K14 b1 => .region (.q rfl (.cmp rfl rfl rfl) (.nil (b1 _ _ (.seq (fun K15 a5 => ?_))))))
   refine .cond rfl (fun b3 => ?_) (fun b3 => ?_)
   ·
    simp only [sps] at b3
    have t2 := hS.z.h hS.t (b := b) (by omega)
    have v1 := hS.by (a := a) (y := (m.t.src.getD b 0).toNat) (by omega) (by omega)
    have v2 := hS.by (a := a) (y := (m.t.tgt.getD b 0).toNat) (by omega) (by omega)
    have v3 := hS.hx (b := b) (x := (m.s.src.getD a 0).toNat) (by omega) (by omega)
    have v4 := hS.hx (b := b) (x := (m.s.tgt.getD a 0).toNat) (by omega) (by omega)
    have u1 : ∀ i, i < ((m.be.getD a []).getD (m.t.src.getD b 0).toNat []).length → 0 ≤ ((m.be.getD a []).getD (m.t.src.getD b 0).toNat []).getD i 0 ∧ ((m.be.getD a []).getD (m.t.src.getD b 0).toNat []).getD i 0 < ((m.bh.getD b []).getD (m.s.src.getD a 0).toNat []).length := fun i hi => by
      have := v1.2.2.2.2.1 i hi
      rw [← v3.2.2.2.2.1] at this
      exact this
    have u2 : ∀ i, i < ((m.bh.getD b []).getD (m.s.tgt.getD a 0).toNat []).length → 0 ≤ ((m.bh.getD b []).getD (m.s.tgt.getD a 0).toNat []).getD i 0 ∧ ((m.bh.getD b []).getD (m.s.tgt.getD a 0).toNat []).getD i 0 < ((m.be.getD a []).getD (m.t.tgt.getD b 0).toNat []).length := fun i hi => by
      have := v4.2.2.2.2.2.1 i hi
      rw [← v2.2.2.2.1] at this
      exact this
    have t1 := i4.2 b (by omega)
    have w1 := r1.2 (m.t.src.getD b 0).toNat (by omega)
    have w2 := r1.2 (m.t.tgt.getD b 0).toNat (by omega)
    have w3 := t1.2 (m.s.src.getD a 0).toNat (by omega)
    have w4 := t1.2 (m.s.tgt.getD a 0).toNat (by omega)
    refine .skip ?_
    refine a5 _ _ (.seq (fun K16 b4 => ?_))
    refine .block ?_
    refine .seq (fun K17 a6 => .region (.mv rfl (.mv rfl (.nil (a6 _ _ (.seq (fun K18 b2 => ?_)))))))
    refine .regionD mo_B (.q 0 (.q 1 (.q 2 (.q 3 (.q 4 (.q 5 (.q 6 (.q 7 (.q 8 (.q 9 (.q 10 (.q 11 (.q 12 (.q 13 (.q 14 (.q 15 (.q 16 (.q 17 (.q 18 (.q 19 (.q 20 (.q 21 (.q 22 (.q 23 (.q 24 (.q 25 (.q 26 (.q 27 (.q 28 (.q 29 (.q 30 (.q 31 (.c 32 0 (.q 33 (.done))))))))))))))))))))))))))))))))))) (by kernel_rfl) ?_
    refine .mv rfl rfl (.q rfl (.nilCheck rfl) (.q rfl (.fieldAddr fo_34_3_VProf rfl) ?_))
    refine .q rfl (.load on_26_VProf rfl (by assumption)) ?_
    refine .mv rfl rfl ?_
    refine .q rfl (.idxN sl_26_VZ (Intsss.sl (by assumption)) rfl rfl (by omega)) ?_
    refine .q rfl (.loadRR on_23_B (by assumption) rfl (by omega)) ?_
    refine .mv rfl rfl (.q rfl (.nilCheck rfl) (.q rfl (.fieldAddr fo_32_1_B rfl) ?_))
    refine .q rfl (.load on_22_B rfl (by assumption)) ?_
    refine .mv rfl rfl ?_
    refine .q rfl (.idxN sl_22_A (by assumption) rfl rfl (by omega)) ?_
    refine .q rfl (.loadI on_2_A (by assumption) rfl (by omega)) ?_
    refine .q rfl (.idx1 sl_23_B (Intss.sl (by assumption)) rfl rfl (by omega) (by omega)) ?_
    refine .q rfl (.loadR on_22_B (by assumption) rfl (by omega)) ?_
    refine .mv rfl rfl (.q rfl (.nilCheck rfl) (.q rfl (.fieldAddr fo_34_4_VProf rfl) ?_))
    refine .q rfl (.load on_26_VProf rfl (by assumption)) ?_
    refine .mv rfl rfl ?_
    refine .q rfl (.idxN sl_26_VZ (Intsss.sl (by assumption)) rfl rfl (by omega)) ?_
    refine .q rfl (.loadRR on_23_B (by assumption) rfl (by omega)) ?_
    refine .mv rfl rfl (.q rfl (.nilCheck rfl) (.q rfl (.fieldAddr fo_32_1_B rfl) ?_))
    refine .q rfl (.load on_22_B rfl (by assumption)) ?_
    refine .mv rfl rfl ?_
    refine .q rfl (.idxN sl_22_A (by assumption) rfl rfl (by omega)) ?_
    refine .q rfl (.loadI on_2_A (by assumption) rfl (by omega)) ?_
    refine .q rfl (.idx1 sl_23_B (Intss.sl (by assumption)) rfl rfl (by omega) (by omega)) ?_
    refine .q rfl (.loadR on_22_B (by assumption) rfl (by omega)) ?_
    refine .call0 rfl rfl rfl rfl rfl @Try.call84 rfl (implThen_c) ?_
    rintro _ H71 ⟨a2, g71, rfl, n, ge71⟩
    replace f := f.trans a2
    replace e := e.le a2
    replace j := j.le a2
    have lt_at71 := GHeap.ltg n
    replace h := d.mono f
    clear fs ft a0 a1 w i2 i3 i4 hm hi c0 c1 c2 c3 c4 d1 d2 d3 d4 x0 x1 x2 x3 x4 y1 y2 y3 y4
    obtain ⟨fs, ft, a0, a1, w, i2, i3, i4⟩ := h.get
    have hm : MemN _ _ _ _ _ := ⟨rfl, h.1⟩
    have hi := h.2
    obtain ⟨c0, c1, c2, c3, c4, d1, d2, d3, d4⟩ := fs.get
    obtain ⟨x0, x1, x2, x3, x4, y1, y2, y3, y4⟩ := ft.get
    clear r1
    have r1 := i3.2 a (by omega)
    clear t1 w1 w2 w3 w4
    have t1 := i4.2 b (by omega)
    have w1 := r1.2 (m.t.src.getD b 0).toNat (by omega)
    have w2 := r1.2 (m.t.tgt.getD b 0).toNat (by omega)
    have w3 := t1.2 (m.s.src.getD a 0).toNat (by omega)
    have w4 := t1.2 (m.s.tgt.getD a 0).toNat (by omega)
    have c9 := Ints.of_get n
    refine .mv rfl rfl ?_
    refine .done ?_
    refine b2 _ _ (.seq (fun K19 c6 => ?_))
    refine .regionD mo_B (.q 0 (.q 1 (.q 2 (.q 3 (.q 4 (.q 5 (.q 6 (.q 7 (.q 8 (.q 9 (.q 10 (.q 11 (.q 12 (.q 13 (.q 14 (.q 15 (.q 16 (.q 17 (.q 18 (.q 19 (.q 20 (.q 21 (.q 22 (.q 23 (.q 24 (.q 25 (.q 26 (.q 27 (.q 28 (.q 29 (.q 30 (.q 31 (.c 32 0 (.q 33 (.done))))))))))))))))))))))))))))))))))) (by kernel_rfl) ?_
    refine .mv rfl rfl (.q rfl (.nilCheck rfl) (.q rfl (.fieldAddr fo_34_4_VProf rfl) ?_))
    refine .q rfl (.load on_26_VProf rfl (by assumption)) ?_
    refine .mv rfl rfl ?_
    refine .q rfl (.idxN sl_26_VZ (Intsss.sl (by assumption)) rfl rfl (by omega)) ?_
    refine .q rfl (.loadRR on_23_B (by assumption) rfl (by omega)) ?_
    refine .mv rfl rfl (.q rfl (.nilCheck rfl) (.q rfl (.fieldAddr fo_32_2_B rfl) ?_))
    refine .q rfl (.load on_22_B rfl (by assumption)) ?_
    refine .mv rfl rfl ?_
    refine .q rfl (.idxN sl_22_A (by assumption) rfl rfl (by omega)) ?_
    refine .q rfl (.loadI on_2_A (by assumption) rfl (by omega)) ?_
    refine .q rfl (.idx1 sl_23_B (Intss.sl (by assumption)) rfl rfl (by omega) (by omega)) ?_
    refine .q rfl (.loadR on_22_B (by assumption) rfl (by omega)) ?_
    refine .mv rfl rfl (.q rfl (.nilCheck rfl) (.q rfl (.fieldAddr fo_34_3_VProf rfl) ?_))
    refine .q rfl (.load on_26_VProf rfl (by assumption)) ?_
    refine .mv rfl rfl ?_
    refine .q rfl (.idxN sl_26_VZ (Intsss.sl (by assumption)) rfl rfl (by omega)) ?_
    refine .q rfl (.loadRR on_23_B (by assumption) rfl (by omega)) ?_
    refine .mv rfl rfl (.q rfl (.nilCheck rfl) (.q rfl (.fieldAddr fo_32_2_B rfl) ?_))
    refine .q rfl (.load on_22_B rfl (by assumption)) ?_
    refine .mv rfl rfl ?_
    refine .q rfl (.idxN sl_22_A (by assumption) rfl rfl (by omega)) ?_
    refine .q rfl (.loadI on_2_A (by assumption) rfl (by omega)) ?_
    refine .q rfl (.idx1 sl_23_B (Intss.sl (by assumption)) rfl rfl (by omega) (by omega)) ?_
    refine .q rfl (.loadR on_22_B (by assumption) rfl (by omega)) ?_
    refine .call0 rfl rfl rfl rfl rfl @Try.call84 rfl (implThen_c) ?_
    rintro _ H104 ⟨l, g104, rfl, v, ge104⟩
    replace f := f.trans l
    replace e := e.le l
    replace j := j.le l
    replace n := l.2 _ _ n
    have lt_at104 := GHeap.ltg v
    replace h := d.mono f
    clear fs ft a0 a1 w i2 i3 i4 hm hi c0 c1 c2 c3 c4 d1 d2 d3 d4 x0 x1 x2 x3 x4 y1 y2 y3 y4
    obtain ⟨fs, ft, a0, a1, w, i2, i3, i4⟩ := h.get
    have hm : MemN _ _ _ _ _ := ⟨rfl, h.1⟩
    have hi := h.2
    obtain ⟨c0, c1, c2, c3, c4, d1, d2, d3, d4⟩ := fs.get
    obtain ⟨x0, x1, x2, x3, x4, y1, y2, y3, y4⟩ := ft.get
    clear r1
    have r1 := i3.2 a (by omega)
    clear t1 w1 w2 w3 w4
    have t1 := i4.2 b (by omega)
    have w1 := r1.2 (m.t.src.getD b 0).toNat (by omega)
    have w2 := r1.2 (m.t.tgt.getD b 0).toNat (by omega)
    have w3 := t1.2 (m.s.src.getD a 0).toNat (by omega)
    have w4 := t1.2 (m.s.tgt.getD a 0).toNat (by omega)
    clear c9
    have c9 := Ints.of_get n
    have i104 := Ints.of_get v
    refine .mv rfl rfl ?_
    refine .done ?_
    refine c6 _ _ (.seq (fun K20 b0 => .region (.mv rfl (.mv rfl ?_))))
    refine .callQ rfl rfl rfl rfl @Try.call85 rfl (same_c (hx := by rw [length_thenL]; omega) (hy := by rw [length_thenL]; omega)) ?_
    refine .q rfl (.not rfl) (.nil (b0 _ _ ?_))
    refine .cond rfl (fun r => ?_) (fun r => ?_)
    ·
     try simp only [sps] at r
     refine .seq (fun K21 b7 => .region (.mv rfl (.nil (b7 _ _ ?_))))
     refine .ret ?_
     refine u _ _ ?_
     refine ⟨_, rfl, ?_⟩
     exact ⟨congrArg _ (B_false fun hh => r (hh.2.2 a (by omega) b (by omega))), f⟩
    try simp only [sps] at r
    refine .skip ?_
    refine b4 _ _ (.region ?_)
    refine .q rfl (.add rfl rfl rfl (by omega) (by omega)) ?_
    refine .mv rfl (.nil ?_)
    refine a8 (b + 1) _ _ ?_ ?_ ⟨rfl, rfl, rfl, rfl, rfl, rfl, rfl, rfl, trivial⟩
    ·
     refine ⟨j, ?_⟩
     refine ⟨by omega, fun b' hx => ?_⟩
     by_cases hltq : b' < b
     · exact c7 b' hltq
     · obtain rfl : b' = b := by omega
       exact r
    omega
   try simp only [sps] at b3
   refine .exit ?_
   refine c5 _ _ (.region ?_)
   refine .q rfl (.add rfl rfl rfl (by omega) (by omega)) ?_
   refine .mv rfl (.nil ?_)
   refine b5 (a + 1) _ _ ?_ ?_ ⟨rfl, rfl, rfl, rfl, rfl, trivial⟩
   ·
    refine ⟨e, ?_⟩
    refine ⟨by omega, fun a' hx => ?_⟩
    by_cases hltq : a' < a
    · exact c8 a' hltq
    · obtain rfl : a' = a := by omega
      exact fun b hb => c7 b (by omega)
   omega
  try simp only [sps] at a9
  refine .exit ?_
  refine e2 _ _ (.seq (fun K22 b6 => .region (.mv rfl (.nil (b6 _ _ ?_)))))
  refine .ret ?_
  refine u _ _ ?_
  refine ⟨_, rfl, ?_⟩
  exact ⟨congrArg _ (B_true ⟨hS, a4, fun a ha b hb => c8 a (by omega) b (by omega)⟩), f⟩
end Go.Proofs.Ytdfnfdellpfjhaa
namespace Go.Proofs.Ytdfnfdellpfjhaa
open Go Go.GL Go.RowKit Go.Proofs
theorem l22Calm_c {a : Option Addr} {xs : List Int} {H : GHeap} (h : Ints H a xs := by assumption) (hl : xs.length ≤ 1048576 := by omega) :
    GCalls Try.prog 100 [.slice a xs.length xs.length] H (Ret (.bool (B (NoMove xs))) H) := by
  refine GCalls.body (N := 16) (rs := [.tmp 2]) Try.func100 rfl rfl rfl rfl (fun Qx b hend => ?_)
  refine .fg [0] rfl ?_
  refine .seq (fun K1 n => .region (.mv rfl (.nil (n _ _ (.seq (fun K2 j => .seq (fun K3 r => .region (.mv rfl (.nil (r _ _ ?_))))))))))
  refine .block ?_
  refine .loopR (σ := Nat) [(0, some _)] (fun k => [(3, some (.int .i64 (k : Int)))]) (fun k H' => H = H' ∧ (k : Int) ≤ xs.length ∧ ∀ i, i < k → xs.getD i 0 = (i : Int)) (fun k => (xs.length - k : Int).toNat) (0) ⟨rfl, trivial⟩ ⟨rfl, trivial⟩ ?_ ?_
  ·
   refine ⟨rfl, ?_⟩
   exact ⟨by omega, fun _ _ => by omega⟩
  rintro k _ ⟨rfl, hI⟩ KL1 d
  refine .forget (fr' := [(3, some (.int .i64 (k : Int))), (0, some _)]) ⟨rfl, rfl, trivial⟩ ?_
  obtain ⟨hk1, e⟩ := hI
  refine .seq (fun K4 o => .seq (fun K5 g => .region (.mv rfl (.mv rfl (.q rfl (.len sl_22_A rfl) (.q rfl (.cmp rfl rfl rfl) (.nil (g _ _ ?_))))))))
  refine .cond rfl (fun h7 => ?_) (fun h7 => ?_)
  ·
   try simp only [sps] at h7
   refine .skip ?_
   refine o _ _ (.seq (fun K6 f => ?_))
   refine .block ?_
   refine .seq (fun K7 m => .region (.mv rfl (.mv rfl ?_)))
   refine .q rfl (.idxN sl_22_A (by assumption) rfl rfl (by omega)) ?_
   refine .q rfl (.loadI on_2_A (by assumption) rfl (by omega)) ?_
   refine .mv rfl (.q rfl (.cmp rfl rfl rfl) (.nil (m _ _ ?_)))
   refine .cond rfl (fun c => ?_) (fun c => ?_)
   ·
    try simp only [sps] at c
    refine .seq (fun K8 l => .region (.mv rfl (.nil (l _ _ ?_))))
    refine .ret ?_
    refine b _ _ ?_
    refine ⟨_, rfl, ?_⟩
    exact .of (congrArg _ (B_false fun hh => c (hh k (by omega))))
   try simp only [sps] at c
   refine .skip ?_
   refine f _ _ (.region (.mv rfl ?_))
   refine .q rfl (.add rfl rfl rfl (by omega) (by omega)) ?_
   refine .mv rfl (.nil ?_)
   refine d (k + 1) _ _ ?_ ?_ ⟨rfl, rfl, trivial⟩
   ·
    refine ⟨rfl, ?_⟩
    refine ⟨by omega, fun i hx => ?_⟩
    by_cases hltq : i < k
    · exact e i hltq
    · obtain rfl : i = k := by omega
      exact c
   omega
  try simp only [sps] at h7
  refine .exit ?_
  refine j _ _ (.seq (fun K9 p => .region (.mv rfl (.nil (p _ _ ?_)))))
  refine .ret ?_
  refine b _ _ ?_
  refine ⟨_, rfl, ?_⟩
  exact .of (congrArg _ (B_true fun i hi => e i (by omega)))
theorem l22Sized_c {m : Prof} {p : ProfP} {H : GHeap} (hin : m.In H p := by assumption) (hs : m.Small := by assumption) (hC : m.s.Is := by assumption) (hD : m.t.Is := by assumption) :
    GCalls Try.prog 75 [.agg (m.cells p).toArray] H (Ret (.bool (B m.Sized)) H) := by
  refine GCalls.ret rfl ?_
  refine GCalls.body (N := 69) (rs := [.tmp 2]) Try.func75 rfl rfl rfl rfl (fun Qx a hend => ?_)
  refine .fg [0] rfl ?_
  have d := GHeap.Le.refl H
  have c := hin
  obtain ⟨s1, s2, ⟨s3, s4⟩, ⟨s5, s6⟩, s7, s8⟩ := hs
  refine .seq (fun K1 c6 => .region ?_)
  refine .R rfl (.boxR rfl sz_34_VProf rfl) ?_
  rintro _ H1 ⟨g1, rfl, b9, ge1, b⟩
  replace d := d.trans b9
  replace hin := c.mono d
  have b7 : Prof.At _ g1 0 m p := ⟨Mem.of_get b, hin⟩
  obtain ⟨b8, c3, c101, c111, c121, b3, -, -⟩ := b7.get
  refine .mv rfl (.nil (c6 _ _ (.seq (fun K2 b6 => .seq (fun K3 a6 => .region ?_)))))
  obtain ⟨c0, c1, -, -, -, -, -, -, -⟩ := b8.get
  obtain ⟨x0, x1, -, -, -, -, -, -, -⟩ := c3.get
  refine .q rfl (.fieldAddr fo_34_2_VProf rfl) ?_
  refine .q rfl (.load on_23_B rfl (by first | assumption | exact Mem.of_get b 10 _ rfl)) ?_
  refine .q rfl (.len sl_23_B rfl) (.q rfl (.fieldAddr fo_34_0_VProf rfl) (.q rfl (.fieldAddr fo_32_0_B rfl) ?_))
  refine .q rfl (.load on_2_A rfl (by first | assumption | exact Mem.of_get b 0 _ rfl)) ?_
  refine .q rfl (.cmp rfl rfl rfl) (.mv rfl ?_)
  refine .split (fun r => ?_) (fun r => ?_)
  ·
   try simp only [sps] at r
   refine .z rfl (.z rfl (.z rfl (.z rfl (.z rfl (.z rfl (.z rfl (.z rfl (.q rfl (.pickT rfl rfl) (.mv rfl (.z rfl (.z rfl (.z rfl (.z rfl (.z rfl (.z rfl ?_)))))))))))))))
   refine .z rfl (.z rfl (.q rfl (.pickT rfl rfl) (.nil (a6 _ _ ?_))))
   refine .condT rfl ?_
   refine .seq (fun K4 b2 => .region (.mv rfl (.nil (b2 _ _ ?_))))
   refine .ret ?_
   refine a _ _ ?_
   refine ⟨_, rfl, ?_⟩
   exact ⟨congrArg _ (B_false fun hh => by have := hh.sl; omega), d⟩
  try simp only [sps] at r
  refine .qg rfl (.fieldAddr fo_34_3_VProf rfl) ?_
  refine .qg rfl (.load on_26_VProf rfl (by first | assumption | exact Mem.of_get b 11 _ rfl)) ?_
  refine .qg rfl (.len sl_26_VZ rfl) (.qg rfl (.fieldAddr fo_34_0_VProf rfl) (.qg rfl (.fieldAddr fo_32_1_B rfl) ?_))
  refine .qg rfl (.load on_22_B rfl (by first | assumption | exact Mem.of_get b 1 _ rfl)) ?_
  refine .qg rfl (.len sl_22_A rfl) (.qg rfl (.cmp rfl rfl rfl) (.q rfl (.pickF rfl rfl) (.mv rfl ?_)))
  refine .split (fun u => ?_) (fun u => ?_)
  ·
   try simp only [sps] at u
   refine .z rfl (.z rfl (.z rfl (.z rfl (.z rfl (.z rfl (.z rfl (.z rfl (.q rfl (.pickT rfl rfl) (.nil (a6 _ _ ?_))))))))))
   refine .condT rfl ?_
   refine .seq (fun K5 c2 => .region (.mv rfl (.nil (c2 _ _ ?_))))
   refine .ret ?_
   refine a _ _ ?_
   refine ⟨_, rfl, ?_⟩
   exact ⟨congrArg _ (B_false fun hh => by have := hh.bl; omega), d⟩
  try simp only [sps] at u
  refine .qg rfl (.fieldAddr fo_34_4_VProf rfl) ?_
  refine .qg rfl (.load on_26_VProf rfl (by first | assumption | exact Mem.of_get b 12 _ rfl)) ?_
  refine .qg rfl (.len sl_26_VZ rfl) (.qg rfl (.fieldAddr fo_34_1_VProf rfl) (.qg rfl (.fieldAddr fo_32_1_B rfl) ?_))
  refine .qg rfl (.load on_22_B rfl (by first | assumption | exact Mem.of_get b 6 _ rfl)) ?_
  refine .qg rfl (.len sl_22_A rfl) (.qg rfl (.cmp rfl rfl rfl) (.q rfl (.pickF rfl rfl) (.nil (a6 _ _ ?_))))
  refine .cond rfl (fun l => ?_) (fun l => ?_)
  ·
   try simp only [sps] at l
   refine .seq (fun K6 b5 => .region (.mv rfl (.nil (b5 _ _ ?_))))
   refine .ret ?_
   refine a _ _ ?_
   refine ⟨_, rfl, ?_⟩
   exact ⟨congrArg _ (B_false fun hh => by have := hh.hl; omega), d⟩
  try simp only [sps] at l
  refine .skip ?_
  refine b6 _ _ (.seq (fun K7 c5 => .seq (fun K8 c4 => .region (.mv rfl (.nil (c4 _ _ ?_))))))
  refine .block ?_
  refine .loopR (σ := Nat) [(1, some _)] (fun k => [(3, some (.int .i64 (k : Int)))]) (fun k H' => H1 = H' ∧ (k : Int) ≤ m.sz.length ∧ ∀ x, x < k → ((m.sz.getD x []).length : Int) = m.t.obj ∧ ∀ y : Nat, y < (m.sz.getD x []).length → 0 ≤ (m.sz.getD x []).getD y 0 ∧ (m.sz.getD x []).getD y 0 ≤ 64) (fun k => (m.sz.length - k : Int).toNat) (0) ⟨rfl, trivial⟩ ⟨rfl, trivial⟩ ?_ ?_
  ·
   refine ⟨rfl, ?_⟩
   exact ⟨by omega, fun _ _ => by omega⟩
  rintro k _ ⟨rfl, hI⟩ KL1 a5
  refine .forget (fr' := [(3, some (.int .i64 (k : Int))), (1, some _)]) ⟨rfl, rfl, trivial⟩ ?_
  obtain ⟨hk1, a1⟩ := hI
  refine .seq (fun K9 b4 => .seq (fun K10 a9 => .region (.mv rfl (.q rfl (.fieldAddr fo_34_2_VProf rfl) ?_))))
  refine .q rfl (.load on_23_B rfl (by first | assumption | exact Mem.of_get b 10 _ rfl)) ?_
  refine .q rfl (.len sl_23_B rfl) (.q rfl (.cmp rfl rfl rfl) (.nil (a9 _ _ ?_)))
  refine .cond rfl (fun v => ?_) (fun v => ?_)
  ·
   simp only [sps] at v
   have r1 := b3.2 k (by omega)
   have r2 := s4 k
   refine .skip ?_
   refine b4 _ _ (.seq (fun K11 g => ?_))
   refine .block ?_
   refine .seq (fun K12 h => .seq (fun K13 a8 => ?_))
   refine .regionD mo_B (.q 0 (.q 1 (.q 2 (.q 3 (.q 4 (.q 5 (.q 6 (.q 7 (.q 8 (.q 9 (.done))))))))))) (by kernel_rfl) ?_
   refine .q rfl (.fieldAddr fo_34_2_VProf rfl) ?_
   refine .q rfl (.load on_23_B rfl (by first | assumption | exact Mem.of_get b 10 _ rfl)) ?_
   refine .mv rfl rfl ?_
   refine .q rfl (.idxN sl_23_B (Intss.sl (by assumption)) rfl rfl (by omega)) ?_
   refine .q rfl (.loadR on_22_B (by assumption) rfl (by omega)) ?_
   refine .q rfl (.len sl_22_A rfl) (.q rfl (.fieldAddr fo_34_1_VProf rfl) (.q rfl (.fieldAddr fo_32_0_B rfl) ?_))
   refine .q rfl (.load on_2_A rfl (by first | assumption | exact Mem.of_get b 5 _ rfl)) ?_
   refine .q rfl (.cmp rfl rfl rfl) ?_
   refine .done ?_
   refine a8 _ _ ?_
   refine .cond rfl (fun f => ?_) (fun f => ?_)
   ·
    try simp only [sps] at f
    refine .seq (fun K14 a0 => .region (.mv rfl (.nil (a0 _ _ ?_))))
    refine .ret ?_
    refine a _ _ ?_
    refine ⟨_, rfl, ?_⟩
    exact ⟨congrArg _ (B_false fun hh => by have := hh.row k (by omega); omega), d⟩
   try simp only [sps] at f
   refine .skip ?_
   refine h _ _ (.seq (fun K15 i => .region (.mv rfl (.nil (i _ _ ?_)))))
   refine .block ?_
   refine .loopR (σ := Nat) [(1, some _), (3, some _)] (fun j => [(4, some (.int .i64 (j : Int)))]) (fun j H' => H1 = H' ∧ (j : Int) ≤ (m.sz.getD k []).length ∧ ∀ y, y < j → 0 ≤ (m.sz.getD k []).getD y 0 ∧ (m.sz.getD k []).getD y 0 ≤ 64) (fun j => ((m.sz.getD k []).length - j : Int).toNat) (0) ⟨rfl, rfl, trivial⟩ ⟨rfl, trivial⟩ ?_ ?_
   ·
    refine ⟨rfl, ?_⟩
    exact ⟨by omega, fun _ _ => by omega⟩
   rintro j _ ⟨rfl, hI⟩ KL2 o
   refine .forget (fr' := [(4, some (.int .i64 (j : Int))), (1, some _), (3, some _)]) ⟨rfl, rfl, rfl, trivial⟩ ?_
   obtain ⟨hk2, b1⟩ := hI
   refine .seq (fun K16 a4 => .seq (fun K17 n => .region (.mv rfl (.q rfl (.fieldAddr fo_34_2_VProf rfl) ?_))))
   refine .q rfl (.load on_23_B rfl (by first | assumption | exact Mem.of_get b 10 _ rfl)) ?_
   refine .mv rfl ?_
   refine .q rfl (.idxN sl_23_B (Intss.sl (by assumption)) rfl rfl (by omega)) ?_
   refine .q rfl (.loadR on_22_B (by assumption) rfl (by omega)) ?_
   refine .q rfl (.len sl_22_A rfl) (.q rfl (.cmp rfl rfl rfl) (.nil (n _ _ ?_)))
   refine .cond rfl (fun a3 => ?_) (fun a3 => ?_)
   ·
    try simp only [sps] at a3
    refine .skip ?_
    refine a4 _ _ (.seq (fun K18 a2 => ?_))
    refine .block ?_
    refine .seq (fun K19 b0 => .region (.q rfl (.fieldAddr fo_34_2_VProf rfl) ?_))
    refine .q rfl (.load on_23_B rfl (by first | assumption | exact Mem.of_get b 10 _ rfl)) ?_
    refine .mv rfl ?_
    refine .q rfl (.idxN sl_23_B (Intss.sl (by assumption)) rfl rfl (by omega)) ?_
    refine .q rfl (.loadR on_22_B (by assumption) rfl (by omega)) ?_
    refine .mv rfl ?_
    refine .q rfl (.idxN sl_22_A (by assumption) rfl rfl (by omega)) ?_
    refine .q rfl (.loadI on_2_A (by assumption) rfl (by omega)) ?_
    refine .callQ rfl rfl rfl rfl @Try.call40 rfl (l01In_c) ?_
    refine .q rfl (.not rfl) (.nil (b0 _ _ ?_))
    refine .cond rfl (fun e => ?_) (fun e => ?_)
    ·
     try simp only [sps] at e
     refine .seq (fun K20 w => .region (.mv rfl (.nil (w _ _ ?_))))
     refine .ret ?_
     refine a _ _ ?_
     refine ⟨_, rfl, ?_⟩
     exact ⟨congrArg _ (B_false fun hh => by have := hh.rng k (by omega) j (by omega); omega), d⟩
    try simp only [sps] at e
    refine .skip ?_
    refine a2 _ _ (.region (.mv rfl ?_))
    refine .q rfl (.add rfl rfl rfl (by omega) (by omega)) ?_
    refine .mv rfl (.nil ?_)
    refine o (j + 1) _ _ ?_ ?_ ⟨rfl, rfl, rfl, trivial⟩
    ·
     refine ⟨rfl, ?_⟩
     refine ⟨by omega, fun y hx => ?_⟩
     by_cases hltq : y < j
     · exact b1 y hltq
     · obtain rfl : y = j := by omega
       exact e
    omega
   try simp only [sps] at a3
   refine .exit ?_
   refine g _ _ (.region (.mv rfl ?_))
   refine .q rfl (.add rfl rfl rfl (by omega) (by omega)) ?_
   refine .mv rfl (.nil ?_)
   refine a5 (k + 1) _ _ ?_ ?_ ⟨rfl, rfl, trivial⟩
   ·
    refine ⟨rfl, ?_⟩
    refine ⟨by omega, fun x hx => ?_⟩
    by_cases hltq : x < k
    · exact a1 x hltq
    · obtain rfl : x = k := by omega
      exact ⟨f, fun y hy => b1 y (by omega)⟩
   omega
  try simp only [sps] at v
  refine .exit ?_
  refine c5 _ _ (.seq (fun K21 a7 => .region (.mv rfl (.nil (a7 _ _ ?_)))))
  refine .ret ?_
  refine a _ _ ?_
  refine ⟨_, rfl, ?_⟩
  exact ⟨congrArg _ (B_true ⟨by omega, by omega, by omega, fun x hx => (a1 x (by omega)).1, fun x hx y hy => (a1 x (by omega)).2 y hy⟩), d⟩
set_option maxHeartbeats 4000000 in
theorem l22Maps_c {m : Prof} {p : ProfP} {H : GHeap} (hin : m.In H p := by assumption) (hs : m.Small := by assumption) (hC : m.s.Is := by assumption) (hD : m.t.Is := by assumption) (hz : m.Sized := by assumption) :
    GCalls Try.prog 76 [.agg (m.cells p).toArray] H (Ret (.bool (B m.Maps)) H) := by
  refine GCalls.ret rfl ?_
  refine GCalls.body (N := 147) (rs := [.tmp 2]) Try.func76 rfl rfl rfl rfl (fun Qx f hend => ?_)
  refine .fg [0] rfl ?_
  have g := GHeap.Le.refl H
  have d := hin
  obtain ⟨s1, s2, ⟨s3, s4⟩, ⟨s5, s6⟩, s7, s8⟩ := hs
  have q3 := hz.sl
  refine .seq (fun K1 e8 => .region ?_)
  refine .R rfl (.boxR rfl sz_34_VProf rfl) ?_
  rintro _ H1 ⟨g1, rfl, f5, ge1, e⟩
  replace g := g.trans f5
  replace hin := d.mono g
  have a0 : Prof.At _ g1 0 m p := ⟨Mem.of_get e, hin⟩
  obtain ⟨a1, a3, -, -, -, -, -, -⟩ := a0.get
  have c8 : MemN _ _ _ _ _ := ⟨rfl, a1.1⟩
  have d3 : MemN _ _ _ _ _ := ⟨rfl, a3.1⟩
  refine .mv rfl (.nil (e8 _ _ (.seq (fun K2 f3 => ?_))))
  refine .regionD mo_B (.q 0 (.q 1 (.q 2 (.q 3 (.or (.c 4 1 (.c 5 1 (.c 6 1 (.c 7 0 .done)))) (.c 5 1 (.c 4 1 (.c 6 1 (.c 7 0 .done))))))))) (by kernel_rfl) ?_
  refine .q rfl (.fieldAddr fo_34_0_VProf rfl) ?_
  refine .q rfl (.loadM ag_32_D rfl (by assumption)) ?_
  refine .q rfl (.fieldAddr fo_34_1_VProf rfl) ?_
  refine .q rfl (.loadM ag_32_D rfl (by assumption)) ?_
  refine .two [(1, some _)] rfl rfl rfl rfl rfl rfl rfl rfl rfl rfl rfl rfl rfl rfl rfl rfl rfl rfl ze_32_E rfl sz_32_D rfl rfl rfl rfl rfl (by rfl) (by rfl) rfl rfl rfl rfl rfl ⟨rfl, trivial⟩ rfl rfl (.refl _) ?_
  intro g3 g4 H4 fr4 e3 ge3 ge4 a4 u r
  replace g := g.trans e3
  replace e := e3.2 _ _ e
  replace hin := d.mono g
  clear a0 a1 a3 c8 d3
  have a0 : Prof.At _ g1 0 m p := ⟨Mem.of_get e, hin⟩
  obtain ⟨a1, a3, c101, c111, c121, b8, f8, f0⟩ := a0.get
  have c2 := a1.2
  have c1 := a3.2
  have e6 : Cat.At _ g3 0 m.s p.s := ⟨Mem.of_get a4, c2⟩
  obtain ⟨c03, c13, c23, -, -, i13, i23, -, -⟩ := e6.get
  have e7 : Cat.At _ g4 0 m.t p.t := ⟨Mem.of_get u, c1⟩
  obtain ⟨c04, c14, c24, -, -, i14, i24, -, -⟩ := e7.get
  refine f3 _ _ ?_
  refine .forget r ?_
  refine .seq (fun K3 f4 => .seq (fun K4 e9 => .region (.mv rfl (.nil (e9 _ _ ?_)))))
  refine .block ?_
  refine .loopR (σ := Nat) [(1, some _), (3, some _), (4, some _)] (fun a => [(5, some (.int .i64 (a : Int)))]) (fun a H' => H4 = H' ∧ (a : Int) ≤ m.be.length ∧ ∀ a', a' < a → ((m.be.getD a' []).length : Int) = m.t.obj ∧ ∀ y, y < (m.be.getD a' []).length → m.BeOk a' y) (fun a => (m.be.length - a : Int).toNat) (0) ⟨rfl, rfl, rfl, trivial⟩ ⟨rfl, trivial⟩ ?_ ?_
  ·
   refine ⟨rfl, ?_⟩
   exact ⟨by omega, fun _ _ => by omega⟩
  rintro a _ ⟨rfl, hI⟩ KL1 c4
  refine .forget (fr' := [(5, some (.int .i64 (a : Int))), (1, some _), (3, some _), (4, some _)]) ⟨rfl, rfl, rfl, rfl, trivial⟩ ?_
  obtain ⟨hk1, e4⟩ := hI
  refine .seq (fun K5 f6 => .seq (fun K6 f2 => .region (.mv rfl (.q rfl (.fieldAddr fo_34_3_VProf rfl) ?_))))
  refine .q rfl (.load on_26_VProf rfl (by first | assumption | exact Mem.of_get e 11 _ rfl)) ?_
  refine .q rfl (.len sl_26_VZ rfl) (.q rfl (.cmp rfl rfl rfl) (.nil (f2 _ _ ?_)))
  refine .cond rfl (fun b2 => ?_) (fun b2 => ?_)
  ·
   simp only [sps] at b2
   have r1 := f8.2 a (by omega)
   have r2 := s6 a
   have r3 := hz.b hC (a := a) (by omega)
   refine .skip ?_
   refine f6 _ _ (.seq (fun K7 f9 => ?_))
   refine .block ?_
   refine .seq (fun K8 f7 => .seq (fun K9 f1 => ?_))
   refine .regionD mo_B (.q 0 (.q 1 (.q 2 (.q 3 (.q 4 (.q 5 (.q 6 (.q 7 (.q 8 (.done)))))))))) (by kernel_rfl) ?_
   refine .q rfl (.fieldAddr fo_34_3_VProf rfl) ?_
   refine .q rfl (.load on_26_VProf rfl (by first | assumption | exact Mem.of_get e 11 _ rfl)) ?_
   refine .mv rfl rfl ?_
   refine .q rfl (.idxN sl_26_VZ (Intsss.sl (by assumption)) rfl rfl (by omega)) ?_
   refine .q rfl (.loadRR on_23_B (by assumption) rfl (by omega)) ?_
   refine .q rfl (.len sl_23_B rfl) (.q rfl (.fieldAddr fo_32_0_B rfl) ?_)
   refine .q rfl (.load on_2_A rfl (by first | assumption | exact Mem.of_get u 0 _ rfl)) ?_
   refine .q rfl (.cmp rfl rfl rfl) ?_
   refine .done ?_
   refine f1 _ _ ?_
   refine .cond rfl (fun v => ?_) (fun v => ?_)
   ·
    try simp only [sps] at v
    refine .seq (fun K10 d0 => .region (.mv rfl (.nil (d0 _ _ ?_))))
    refine .ret ?_
    refine f _ _ ?_
    refine ⟨_, rfl, ?_⟩
    exact ⟨congrArg _ (B_false fun hh => by have := (hh.be a (by omega)).1; omega), g⟩
   try simp only [sps] at v
   refine .skip ?_
   refine f7 _ _ (.seq (fun K11 d7 => .region (.mv rfl (.nil (d7 _ _ ?_)))))
   refine .block ?_
   refine .loopR (σ := Nat) [(1, some _), (3, some _), (4, some _), (5, some _)] (fun y => [(6, some (.int .i64 (y : Int)))]) (fun y H' => H4 = H' ∧ (y : Int) ≤ (m.be.getD a []).length ∧ ∀ y', y' < y → m.BeOk a y') (fun y => ((m.be.getD a []).length - y : Int).toNat) (0) ⟨rfl, rfl, rfl, rfl, trivial⟩ ⟨rfl, trivial⟩ ?_ ?_
   ·
    refine ⟨rfl, ?_⟩
    exact ⟨by omega, fun _ _ => by omega⟩
   rintro y _ ⟨rfl, hI⟩ KL2 a9
   refine .forget (fr' := [(6, some (.int .i64 (y : Int))), (1, some _), (3, some _), (4, some _), (5, some _)]) ⟨rfl, rfl, rfl, rfl, rfl, trivial⟩ ?_
   obtain ⟨hk2, e1⟩ := hI
   refine .seq (fun K12 a5 => .seq (fun K13 c9 => .region (.mv rfl (.q rfl (.fieldAddr fo_34_3_VProf rfl) ?_))))
   refine .q rfl (.load on_26_VProf rfl (by first | assumption | exact Mem.of_get e 11 _ rfl)) ?_
   refine .mv rfl ?_
   refine .q rfl (.idxN sl_26_VZ (Intsss.sl (by assumption)) rfl rfl (by omega)) ?_
   refine .q rfl (.loadRR on_23_B (by assumption) rfl (by omega)) ?_
   refine .q rfl (.len sl_23_B rfl) (.q rfl (.cmp rfl rfl rfl) (.nil (c9 _ _ ?_)))
   refine .cond rfl (fun d2 => ?_) (fun d2 => ?_)
   ·
    simp only [sps] at d2
    have t1 := r1.2 y (by omega)
    have t2 := r2.2 y
    have t3 := b8.2 (m.s.src.getD a 0).toNat (by omega)
    have t4 := b8.2 (m.s.tgt.getD a 0).toNat (by omega)
    refine .skip ?_
    refine a5 _ _ (.seq (fun K14 b6 => ?_))
    refine .block ?_
    refine .seq (fun K15 a6 => .region (.q rfl (.fieldAddr fo_34_3_VProf rfl) ?_))
    refine .q rfl (.load on_26_VProf rfl (by first | assumption | exact Mem.of_get e 11 _ rfl)) ?_
    refine .mv rfl ?_
    refine .q rfl (.idxN sl_26_VZ (Intsss.sl (by assumption)) rfl rfl (by omega)) ?_
    refine .q rfl (.loadRR on_23_B (by assumption) rfl (by omega)) ?_
    refine .mv rfl ?_
    refine .q rfl (.idxN sl_23_B (Intss.sl (by assumption)) rfl rfl (by omega)) ?_
    refine .q rfl (.loadR on_22_B (by assumption) rfl (by omega)) ?_
    refine .mv rfl (.nil (a6 _ _ (.seq (fun K16 o => ?_))))
    refine .regionD mo_B (.q 0 (.q 1 (.q 2 (.q 3 (.q 4 (.q 5 (.q 6 (.q 7 (.q 8 (.q 9 (.q 10 (.q 11 (.q 12 (.q 13 (.q 14 (.q 15 (.q 16 (.q 17 (.q 18 (.q 19 (.q 20 (.q 21 (.q 22 (.q 23 (.q 24 (.q 25 (.q 26 (.q 27 (.q 28 (.c 29 0 (.q 30 (.q 31 (.done))))))))))))))))))))))))))))))))) (by kernel_rfl) ?_
    refine .mv rfl rfl (.q rfl (.len sl_22_A rfl) (.q rfl (.fieldAddr fo_34_2_VProf rfl) ?_))
    refine .q rfl (.load on_23_B rfl (by first | assumption | exact Mem.of_get e 10 _ rfl)) ?_
    refine .q rfl (.fieldAddr fo_32_2_B rfl) ?_
    refine .q rfl (.load on_22_B rfl (by first | assumption | exact Mem.of_get a4 2 _ rfl)) ?_
    refine .mv rfl rfl ?_
    refine .q rfl (.idxN sl_22_A (by assumption) rfl rfl (by omega)) ?_
    refine .q rfl (.loadI on_2_A (by assumption) rfl (by omega)) ?_
    refine .q rfl (.idx1 sl_23_B (Intss.sl (by assumption)) rfl rfl (by omega) (by omega)) ?_
    refine .q rfl (.loadR on_22_B (by assumption) rfl (by omega)) ?_
    refine .mv rfl rfl ?_
    refine .q rfl (.idxN sl_22_A (by assumption) rfl rfl (by omega)) ?_
    refine .q rfl (.loadI on_2_A (by assumption) rfl (by omega)) ?_
    refine .q rfl (.cmp rfl rfl rfl) (.mv rfl rfl ?_)
    refine .split (fun a2 => ?_) (fun a2 => ?_)
    ·
     try simp only [sps] at a2
     refine .z rfl (.z rfl (.z rfl (.z rfl (.z rfl (.z rfl (.z rfl (.z rfl (.z rfl (.z rfl (.z rfl (.z rfl (.z rfl (.sgc rfl rfl rfl rfl rfl rfl (.z rfl (.q rfl (.pickT rfl rfl) ?_)))))))))))))))
     refine .done ?_
     refine o _ _ ?_
     refine .condT rfl ?_
     refine .seq (fun K17 a7 => .region (.mv rfl (.nil (a7 _ _ ?_))))
     refine .ret ?_
     refine f _ _ ?_
     refine ⟨_, rfl, ?_⟩
     exact ⟨congrArg _ (B_false fun hh => a2 ((hh.be a (by omega)).2 y (by omega)).1), g⟩
    try simp only [sps] at a2
    refine .qg rfl (.fieldAddr fo_34_2_VProf rfl) ?_
    refine .qg rfl (.load on_23_B rfl (by first | assumption | exact Mem.of_get e 10 _ rfl)) ?_
    refine .qg rfl (.fieldAddr fo_32_1_B rfl) ?_
    refine .qg rfl (.load on_22_B rfl (by first | assumption | exact Mem.of_get a4 1 _ rfl)) ?_
    refine .qg rfl (.move rfl) ?_
    refine .qg rfl (.idxN sl_22_A (by assumption) rfl rfl (by omega)) ?_
    refine .qg rfl (.loadI on_2_A (by assumption) rfl (by omega)) ?_
    refine .qg rfl (.idx1 sl_23_B (Intss.sl (by assumption)) rfl rfl (by omega) (by omega)) ?_
    refine .qg rfl (.loadR on_22_B (by assumption) rfl (by omega)) ?_
    refine .qg rfl (.move rfl) ?_
    refine .qg rfl (.idxN sl_22_A (by assumption) rfl rfl (by omega)) ?_
    refine .qg rfl (.loadI on_2_A (by assumption) rfl (by omega)) ?_
    refine .qg rfl (.move rfl) ?_
    refine .callQ0g rfl rfl rfl rfl rfl rfl rfl @Try.call62 rfl (l01Map_c) ?_
    refine .qg rfl (.not rfl) (.q rfl (.pickF rfl rfl) ?_)
    refine .done ?_
    refine o _ _ ?_
    refine .cond rfl (fun l => ?_) (fun l => ?_)
    ·
     simp only [B_iff, B_not, Bool.not_eq_true', Bool.not_eq_false'] at l
     refine .seq (fun K18 b9 => .region (.mv rfl (.nil (b9 _ _ ?_))))
     refine .ret ?_
     refine f _ _ ?_
     refine ⟨_, rfl, ?_⟩
     exact ⟨congrArg _ (B_false fun hh => by rw [((hh.be a (by omega)).2 y (by omega)).2] at l; cases l), g⟩
    simp only [B_iff, B_not, Bool.not_eq_true', Bool.not_eq_false'] at l
    refine .skip ?_
    refine b6 _ _ (.region (.mv rfl ?_))
    refine .q rfl (.add rfl rfl rfl (by omega) (by omega)) ?_
    refine .mv rfl (.nil ?_)
    refine a9 (y + 1) _ _ ?_ ?_ ⟨rfl, rfl, rfl, rfl, rfl, trivial⟩
    ·
     refine ⟨rfl, ?_⟩
     refine ⟨by omega, fun y' hx => ?_⟩
     by_cases hltq : y' < y
     · exact e1 y' hltq
     · obtain rfl : y' = y := by omega
       exact ⟨by omega, l⟩
    omega
   try simp only [sps] at d2
   refine .exit ?_
   refine f9 _ _ (.region (.mv rfl ?_))
   refine .q rfl (.add rfl rfl rfl (by omega) (by omega)) ?_
   refine .mv rfl (.nil ?_)
   refine c4 (a + 1) _ _ ?_ ?_ ⟨rfl, rfl, rfl, rfl, trivial⟩
   ·
    refine ⟨rfl, ?_⟩
    refine ⟨by omega, fun a' hx => ?_⟩
    by_cases hltq : a' < a
    · exact e4 a' hltq
    · obtain rfl : a' = a := by omega
      exact ⟨v, fun y hy => e1 y (by omega)⟩
   omega
  try simp only [sps] at b2
  refine .exit ?_
  refine f4 _ _ (.seq (fun K19 d9 => .seq (fun K20 b5 => .region (.mv rfl (.nil (b5 _ _ ?_))))))
  refine .block ?_
  refine .loopR (σ := Nat) [(1, some _), (3, some _), (4, some _)] (fun b => [(8, some (.int .i64 (b : Int)))]) (fun b H' => H4 = H' ∧ (b : Int) ≤ m.bh.length ∧ ∀ b', b' < b → ((m.bh.getD b' []).length : Int) = m.s.obj ∧ ∀ x, x < (m.bh.getD b' []).length → m.BhOk b' x) (fun b => (m.bh.length - b : Int).toNat) (0) ⟨rfl, rfl, rfl, trivial⟩ ⟨rfl, trivial⟩ ?_ ?_
  ·
   refine ⟨rfl, ?_⟩
   exact ⟨by omega, fun _ _ => by omega⟩
  rintro b _ ⟨rfl, hI⟩ KL3 d4
  refine .forget (fr' := [(8, some (.int .i64 (b : Int))), (1, some _), (3, some _), (4, some _)]) ⟨rfl, rfl, rfl, rfl, trivial⟩ ?_
  obtain ⟨hk3, e2⟩ := hI
  refine .seq (fun K21 c7 => .seq (fun K22 c6 => .region (.mv rfl (.q rfl (.fieldAddr fo_34_4_VProf rfl) ?_))))
  refine .q rfl (.load on_26_VProf rfl (by first | assumption | exact Mem.of_get e 12 _ rfl)) ?_
  refine .q rfl (.len sl_26_VZ rfl) (.q rfl (.cmp rfl rfl rfl) (.nil (c6 _ _ ?_)))
  refine .cond rfl (fun b3 => ?_) (fun b3 => ?_)
  ·
   simp only [sps] at b3
   have r1 := f0.2 b (by omega)
   have r2 := s8 b
   have r3 := hz.h hD (b := b) (by omega)
   refine .skip ?_
   refine c7 _ _ (.seq (fun K23 c3 => ?_))
   refine .block ?_
   refine .seq (fun K24 a8 => .seq (fun K25 b7 => ?_))
   refine .regionD mo_B (.q 0 (.q 1 (.q 2 (.q 3 (.q 4 (.q 5 (.q 6 (.q 7 (.q 8 (.done)))))))))) (by kernel_rfl) ?_
   refine .q rfl (.fieldAddr fo_34_4_VProf rfl) ?_
   refine .q rfl (.load on_26_VProf rfl (by first | assumption | exact Mem.of_get e 12 _ rfl)) ?_
   refine .mv rfl rfl ?_
   refine .q rfl (.idxN sl_26_VZ (Intsss.sl (by assumption)) rfl rfl (by omega)) ?_
   refine .q rfl (.loadRR on_23_B (by assumption) rfl (by omega)) ?_
   refine .q rfl (.len sl_23_B rfl) (.q rfl (.fieldAddr fo_32_0_B rfl) ?_)
   refine .q rfl (.load on_2_A rfl (by first | assumption | exact Mem.of_get a4 0 _ rfl)) ?_
   refine .q rfl (.cmp rfl rfl rfl) ?_
   refine .done ?_
   refine b7 _ _ ?_
   refine .cond rfl (fun w => ?_) (fun w => ?_)
   ·
    try simp only [sps] at w
    refine .seq (fun K26 b4 => .region (.mv rfl (.nil (b4 _ _ ?_))))
    refine .ret ?_
    refine f _ _ ?_
    refine ⟨_, rfl, ?_⟩
    exact ⟨congrArg _ (B_false fun hh => by have := (hh.bh b (by omega)).1; omega), g⟩
   try simp only [sps] at w
   refine .skip ?_
   refine a8 _ _ (.seq (fun K27 c5 => .region (.mv rfl (.nil (c5 _ _ ?_)))))
   refine .block ?_
   refine .loopR (σ := Nat) [(1, some _), (3, some _), (4, some _), (8, some _)] (fun x => [(9, some (.int .i64 (x : Int)))]) (fun x H' => H4 = H' ∧ (x : Int) ≤ (m.bh.getD b []).length ∧ ∀ x', x' < x → m.BhOk b x') (fun x => ((m.bh.getD b []).length - x : Int).toNat) (0) ⟨rfl, rfl, rfl, rfl, trivial⟩ ⟨rfl, trivial⟩ ?_ ?_
   ·
    refine ⟨rfl, ?_⟩
    exact ⟨by omega, fun _ _ => by omega⟩
   rintro x _ ⟨rfl, hI⟩ KL4 b1
   refine .forget (fr' := [(9, some (.int .i64 (x : Int))), (1, some _), (3, some _), (4, some _), (8, some _)]) ⟨rfl, rfl, rfl, rfl, rfl, trivial⟩ ?_
   obtain ⟨hk4, e5⟩ := hI
   refine .seq (fun K28 d5 => .seq (fun K29 c0 => .region (.mv rfl (.q rfl (.fieldAddr fo_34_4_VProf rfl) ?_))))
   refine .q rfl (.load on_26_VProf rfl (by first | assumption | exact Mem.of_get e 12 _ rfl)) ?_
   refine .mv rfl ?_
   refine .q rfl (.idxN sl_26_VZ (Intsss.sl (by assumption)) rfl rfl (by omega)) ?_
   refine .q rfl (.loadRR on_23_B (by assumption) rfl (by omega)) ?_
   refine .q rfl (.len sl_23_B rfl) (.q rfl (.cmp rfl rfl rfl) (.nil (c0 _ _ ?_)))
   refine .cond rfl (fun k => ?_) (fun k => ?_)
   ·
    simp only [sps] at k
    have t1 := r1.2 x (by omega)
    have t2 := r2.2 x
    have t3 := b8.2 x (by omega)
    have t4 := hz.row x (by omega)
    refine .skip ?_
    refine d5 _ _ (.seq (fun K30 d6 => ?_))
    refine .block ?_
    refine .seq (fun K31 b0 => .region (.q rfl (.fieldAddr fo_34_4_VProf rfl) ?_))
    refine .q rfl (.load on_26_VProf rfl (by first | assumption | exact Mem.of_get e 12 _ rfl)) ?_
    refine .mv rfl ?_
    refine .q rfl (.idxN sl_26_VZ (Intsss.sl (by assumption)) rfl rfl (by omega)) ?_
    refine .q rfl (.loadRR on_23_B (by assumption) rfl (by omega)) ?_
    refine .mv rfl ?_
    refine .q rfl (.idxN sl_23_B (Intss.sl (by assumption)) rfl rfl (by omega)) ?_
    refine .q rfl (.loadR on_22_B (by assumption) rfl (by omega)) ?_
    refine .mv rfl (.nil (b0 _ _ (.seq (fun K32 n => ?_))))
    refine .regionD mo_B (.q 0 (.q 1 (.q 2 (.q 3 (.q 4 (.q 5 (.q 6 (.q 7 (.q 8 (.q 9 (.q 10 (.q 11 (.q 12 (.q 13 (.q 14 (.q 15 (.q 16 (.q 17 (.q 18 (.q 19 (.q 20 (.q 21 (.q 22 (.q 23 (.q 24 (.q 25 (.q 26 (.q 27 (.q 28 (.c 29 0 (.q 30 (.q 31 (.done))))))))))))))))))))))))))))))))) (by kernel_rfl) ?_
    refine .mv rfl rfl (.q rfl (.len sl_22_A rfl) (.q rfl (.fieldAddr fo_34_2_VProf rfl) ?_))
    refine .q rfl (.load on_23_B rfl (by first | assumption | exact Mem.of_get e 10 _ rfl)) ?_
    refine .mv rfl rfl ?_
    refine .q rfl (.idxN sl_23_B (Intss.sl (by assumption)) rfl rfl (by omega)) ?_
    refine .q rfl (.loadR on_22_B (by assumption) rfl (by omega)) ?_
    refine .q rfl (.fieldAddr fo_32_1_B rfl) ?_
    refine .q rfl (.load on_22_B rfl (by first | assumption | exact Mem.of_get u 1 _ rfl)) ?_
    refine .mv rfl rfl ?_
    refine .q rfl (.idxN sl_22_A (by assumption) rfl rfl (by omega)) ?_
    refine .q rfl (.loadI on_2_A (by assumption) rfl (by omega)) ?_
    refine .q rfl (.idx1 sl_22_A (by assumption) rfl rfl (by omega) (by omega)) ?_
    refine .q rfl (.loadI on_2_A (by assumption) rfl (by omega)) ?_
    refine .q rfl (.cmp rfl rfl rfl) (.mv rfl rfl ?_)
    refine .split (fun j => ?_) (fun j => ?_)
    ·
     try simp only [sps] at j
     refine .z rfl (.z rfl (.z rfl (.z rfl (.z rfl (.z rfl (.z rfl (.z rfl (.z rfl (.z rfl (.z rfl (.z rfl (.z rfl (.sgc rfl rfl rfl rfl rfl rfl (.z rfl (.q rfl (.pickT rfl rfl) ?_)))))))))))))))
     refine .done ?_
     refine n _ _ ?_
     refine .condT rfl ?_
     refine .seq (fun K33 e0 => .region (.mv rfl (.nil (e0 _ _ ?_))))
     refine .ret ?_
     refine f _ _ ?_
     refine ⟨_, rfl, ?_⟩
     exact ⟨congrArg _ (B_false fun hh => j ((hh.bh b (by omega)).2 x (by omega)).1), g⟩
    try simp only [sps] at j
    refine .qg rfl (.fieldAddr fo_34_2_VProf rfl) ?_
    refine .qg rfl (.load on_23_B rfl (by first | assumption | exact Mem.of_get e 10 _ rfl)) ?_
    refine .qg rfl (.move rfl) ?_
    refine .qg rfl (.idxN sl_23_B (Intss.sl (by assumption)) rfl rfl (by omega)) ?_
    refine .qg rfl (.loadR on_22_B (by assumption) rfl (by omega)) ?_
    refine .qg rfl (.fieldAddr fo_32_2_B rfl) ?_
    refine .qg rfl (.load on_22_B rfl (by first | assumption | exact Mem.of_get u 2 _ rfl)) ?_
    refine .qg rfl (.move rfl) ?_
    refine .qg rfl (.idxN sl_22_A (by assumption) rfl rfl (by omega)) ?_
    refine .qg rfl (.loadI on_2_A (by assumption) rfl (by omega)) ?_
    refine .qg rfl (.idx1 sl_22_A (by assumption) rfl rfl (by omega) (by omega)) ?_
    refine .qg rfl (.loadI on_2_A (by assumption) rfl (by omega)) ?_
    refine .qg rfl (.move rfl) ?_
    refine .callQ0g rfl rfl rfl rfl rfl rfl rfl @Try.call62 rfl (l01Map_c) ?_
    refine .qg rfl (.not rfl) (.q rfl (.pickF rfl rfl) ?_)
    refine .done ?_
    refine n _ _ ?_
    refine .cond rfl (fun i => ?_) (fun i => ?_)
    ·
     simp only [B_iff, B_not, Bool.not_eq_true', Bool.not_eq_false'] at i
     refine .seq (fun K34 d8 => .region (.mv rfl (.nil (d8 _ _ ?_))))
     refine .ret ?_
     refine f _ _ ?_
     refine ⟨_, rfl, ?_⟩
     exact ⟨congrArg _ (B_false fun hh => by rw [((hh.bh b (by omega)).2 x (by omega)).2] at i; cases i), g⟩
    simp only [B_iff, B_not, Bool.not_eq_true', Bool.not_eq_false'] at i
    refine .skip ?_
    refine d6 _ _ (.region (.mv rfl ?_))
    refine .q rfl (.add rfl rfl rfl (by omega) (by omega)) ?_
    refine .mv rfl (.nil ?_)
    refine b1 (x + 1) _ _ ?_ ?_ ⟨rfl, rfl, rfl, rfl, rfl, trivial⟩
    ·
     refine ⟨rfl, ?_⟩
     refine ⟨by omega, fun x' hx => ?_⟩
     by_cases hltq : x' < x
     · exact e5 x' hltq
     · obtain rfl : x' = x := by omega
       exact ⟨by omega, i⟩
    omega
   try simp only [sps] at k
   refine .exit ?_
   refine c3 _ _ (.region (.mv rfl ?_))
   refine .q rfl (.add rfl rfl rfl (by omega) (by omega)) ?_
   refine .mv rfl (.nil ?_)
   refine d4 (b + 1) _ _ ?_ ?_ ⟨rfl, rfl, rfl, rfl, trivial⟩
   ·
    refine ⟨rfl, ?_⟩
    refine ⟨by omega, fun b' hx => ?_⟩
    by_cases hltq : b' < b
    · exact e2 b' hltq
    · obtain rfl : b' = b := by omega
      exact ⟨w, fun x hx => e5 x (by omega)⟩
   omega
  try simp only [sps] at b3
  refine .exit ?_
  refine d9 _ _ (.seq (fun K35 d1 => .region (.mv rfl (.nil (d1 _ _ ?_)))))
  refine .ret ?_
  refine f _ _ ?_
  refine ⟨_, rfl, ?_⟩
  exact ⟨congrArg _ (B_true ⟨fun a ha => e4 a (by omega), fun b hb => e2 b (by omega)⟩), g⟩
set_option maxHeartbeats 8000000 in
theorem l22Laws_c {m : Prof} {p : ProfP} {H : GHeap} (hin : m.In H p := by assumption) (hS : m.Shape := by assumption) :
    GCalls Try.prog 77 [.agg (m.cells p).toArray] H (Ret (.bool (B (m.Acts ∧ m.Mix))) H) := by
  refine GCalls.ret rfl ?_
  refine GCalls.body (N := 244) (rs := [.tmp 2]) Try.func77 rfl rfl rfl rfl (fun Qx e8 hend => ?_)
  refine .fg [0] rfl ?_
  have a3 := GHeap.Le.refl H
  have d := hin
  have hC := hS.s.1
  have hD := hS.t.1
  have q1 := hC.il
  have q2 := hD.il
  have q3 := hC.cl
  have q4 := hD.cl
  have q5 := hS.z.sl
  have q6 := hS.z.bl
  have q7 := hS.z.hl
  have q8 := hC.obj
  have q9 := hD.obj
  have q10 := hC.n40
  have q11 := hD.n40
  have q12 := hC.tl
  have q13 := hD.tl
  refine .seq (fun K1 o7 => .region ?_)
  refine .R rfl (.boxR rfl sz_34_VProf rfl) ?_
  rintro _ H1 ⟨g1, rfl, o3, ge1, v⟩
  replace a3 := a3.trans o3
  have lt_at1 := GHeap.ltg v
  replace hin := d.mono a3
  have g : Prof.At _ g1 0 m p := ⟨Mem.of_get v, hin⟩
  obtain ⟨r, o, u, a0, w, b5, a6, a7⟩ := g.get
  have b6 : MemN _ _ _ _ _ := ⟨rfl, g.1⟩
  have b2 := g.2
  have a1 : MemN _ _ _ _ _ := ⟨rfl, r.1⟩
  have f := r.2
  have a2 : MemN _ _ _ _ _ := ⟨rfl, o.1⟩
  have e := o.2
  refine .mv rfl (.nil (o7 _ _ (.seq (fun K2 n9 => ?_))))
  refine .regionD mo_B (.q 0 (.q 1 (.q 2 (.q 3 (.or (.c 4 1 (.c 5 1 (.c 6 1 (.c 7 0 .done)))) (.c 5 1 (.c 4 1 (.c 6 1 (.c 7 0 .done))))))))) (by kernel_rfl) ?_
  refine .q rfl (.fieldAddr fo_34_0_VProf rfl) ?_
  refine .q rfl (.loadM ag_32_D rfl (by assumption)) ?_
  refine .q rfl (.fieldAddr fo_34_1_VProf rfl) ?_
  refine .q rfl (.loadM ag_32_D rfl (by assumption)) ?_
  refine .two [(1, some _)] rfl rfl rfl rfl rfl rfl rfl rfl rfl rfl rfl rfl rfl rfl rfl rfl rfl rfl ze_32_E rfl sz_32_D rfl rfl rfl rfl rfl (by rfl) (by rfl) rfl rfl rfl rfl rfl ⟨rfl, trivial⟩ rfl rfl (.refl _) ?_
  intro g3 g4 H4 fr4 n2 ge3 ge4 a4 a5 h3
  replace a3 := a3.trans n2
  replace v := n2.2 _ _ v
  have lt_at3 := GHeap.ltg a4
  have lt_at4 := GHeap.ltg a5
  replace hin := d.mono a3
  clear g r o u a0 w b5 a6 a7 b6 b2 a1 f a2 e
  have g : Prof.At _ g1 0 m p := ⟨Mem.of_get v, hin⟩
  obtain ⟨r, o, u, a0, w, b5, a6, a7⟩ := g.get
  have b6 : MemN _ _ _ _ _ := ⟨rfl, g.1⟩
  have b2 := g.2
  have a1 : MemN _ _ _ _ _ := ⟨rfl, r.1⟩
  have f := r.2
  have a2 : MemN _ _ _ _ _ := ⟨rfl, o.1⟩
  have e := o.2
  have j : Cat.At _ g3 0 m.s p.s := ⟨Mem.of_get a4, f⟩
  obtain ⟨c6, d3, d0, c7, d8, c1, d1, d6, b0⟩ := j.get
  have d5 : MemN _ _ _ _ _ := ⟨rfl, j.1⟩
  have c2 := j.2
  have l : Cat.At _ g4 0 m.t p.t := ⟨Mem.of_get a5, e⟩
  obtain ⟨c8, c9, d2, d4, c5, d7, c0, b9, a9⟩ := l.get
  have c4 : MemN _ _ _ _ _ := ⟨rfl, l.1⟩
  have c3 := l.2
  refine n9 _ _ ?_
  refine .forget h3 ?_
  refine .seq (fun K3 o0 => .seq (fun K4 n8 => .region (.mv rfl (.nil (n8 _ _ ?_)))))
  refine .block ?_
  refine .loopR (σ := Nat) [(1, some _), (3, some _), (4, some _)] (fun y => [(5, some (.int .i64 (y : Int)))]) (fun y H' => St [] H4 H' ∧ (y : Int) ≤ m.t.obj ∧ ∀ y', y' < y → (∀ x : Nat, (x : Int) < m.s.obj → NoMove ((m.be.getD (m.s.idn.getD x 0).toNat []).getD y' []) ∧ NoMove ((m.bh.getD (m.t.idn.getD y' 0).toNat []).getD x [])) ∧ ∀ a : Nat, a < m.s.src.length → ∀ b : Nat, b < m.s.src.length → 0 ≤ (m.s.comp.getD a []).getD b 0 → (m.be.getD ((m.s.comp.getD a []).getD b 0).toNat []).getD y' [] = thenL ((m.be.getD b []).getD y' []) ((m.be.getD a []).getD y' [])) (fun y => (m.t.obj - y : Int).toNat) (0) ⟨rfl, rfl, rfl, trivial⟩ ⟨rfl, trivial⟩ ?_ ?_
  ·
   refine ⟨.refl _ _, ?_⟩
   exact ⟨by omega, fun _ _ => by omega⟩
  rintro y HL1 ⟨n, hI⟩ KL1 i7
  refine .forget (fr' := [(5, some (.int .i64 (y : Int))), (1, some _), (3, some _), (4, some _)]) ⟨rfl, rfl, rfl, rfl, trivial⟩ ?_
  replace a3 := a3.st n (fun k hk => trivial)
  replace v := n.same _ _ trivial v
  replace a4 := n.same _ _ trivial a4
  replace a5 := n.same _ _ trivial a5
  replace hin := d.mono a3
  clear g r o u a0 w b5 a6 a7 b6 b2 a1 f a2 e
  have g : Prof.At _ g1 0 m p := ⟨Mem.of_get v, hin⟩
  obtain ⟨r, o, u, a0, w, b5, a6, a7⟩ := g.get
  have b6 : MemN _ _ _ _ _ := ⟨rfl, g.1⟩
  have b2 := g.2
  have a1 : MemN _ _ _ _ _ := ⟨rfl, r.1⟩
  have f := r.2
  have a2 : MemN _ _ _ _ _ := ⟨rfl, o.1⟩
  have e := o.2
  clear j c6 d3 d0 c7 d8 c1 d1 d6 b0 d5 c2
  have j : Cat.At _ g3 0 m.s p.s := ⟨Mem.of_get a4, f⟩
  obtain ⟨c6, d3, d0, c7, d8, c1, d1, d6, b0⟩ := j.get
  have d5 : MemN _ _ _ _ _ := ⟨rfl, j.1⟩
  have c2 := j.2
  clear l c8 c9 d2 d4 c5 d7 c0 b9 a9 c4 c3
  have l : Cat.At _ g4 0 m.t p.t := ⟨Mem.of_get a5, e⟩
  obtain ⟨c8, c9, d2, d4, c5, d7, c0, b9, a9⟩ := l.get
  have c4 : MemN _ _ _ _ _ := ⟨rfl, l.1⟩
  have c3 := l.2
  obtain ⟨hk1, l0⟩ := hI
  refine .seq (fun K5 o4 => .seq (fun K6 o2 => .region (.mv rfl (.q rfl (.fieldAddr fo_32_0_B rfl) ?_))))
  refine .q rfl (.load on_2_A rfl (by first | assumption | exact Mem.of_get a5 0 _ rfl)) ?_
  refine .q rfl (.cmp rfl rfl rfl) (.nil (o2 _ _ ?_))
  refine .cond rfl (fun l1 => ?_) (fun l1 => ?_)
  ·
   simp only [sps] at l1
   have b1 := hD.idn y (by omega)
   refine .skip ?_
   refine o4 _ _ (.seq (fun K7 o6 => ?_))
   refine .block ?_
   refine .seq (fun K8 o5 => .seq (fun K9 o1 => .region (.mv rfl (.nil (o1 _ _ ?_)))))
   refine .block ?_
   refine .loopR (σ := Nat) [(1, some _), (3, some _), (4, some _), (5, some _)] (fun x => [(6, some (.int .i64 (x : Int)))]) (fun x H' => HL1 = H' ∧ (x : Int) ≤ m.s.obj ∧ ∀ x', x' < x → NoMove ((m.be.getD (m.s.idn.getD x' 0).toNat []).getD y []) ∧ NoMove ((m.bh.getD (m.t.idn.getD y 0).toNat []).getD x' [])) (fun x => (m.s.obj - x : Int).toNat) (0) ⟨rfl, rfl, rfl, rfl, trivial⟩ ⟨rfl, trivial⟩ ?_ ?_
   ·
    refine ⟨rfl, ?_⟩
    exact ⟨by omega, fun _ _ => by omega⟩
   rintro x _ ⟨rfl, hI⟩ KL2 m0
   refine .forget (fr' := [(6, some (.int .i64 (x : Int))), (1, some _), (3, some _), (4, some _), (5, some _)]) ⟨rfl, rfl, rfl, rfl, rfl, trivial⟩ ?_
   obtain ⟨hk2, n5⟩ := hI
   refine .seq (fun K10 k2 => .seq (fun K11 k4 => .region (.mv rfl (.q rfl (.fieldAddr fo_32_0_B rfl) ?_))))
   refine .q rfl (.load on_2_A rfl (by first | assumption | exact Mem.of_get a4 0 _ rfl)) ?_
   refine .q rfl (.cmp rfl rfl rfl) (.nil (k4 _ _ ?_))
   refine .cond rfl (fun h6 => ?_) (fun h6 => ?_)
   ·
    simp only [sps] at h6
    have r1 := hC.idn x (by omega)
    have r3 := hS.by (a := (m.s.idn.getD x 0).toNat) (y := y) (by omega) (by omega)
    rw [(hC.ids x (by omega)).1, (hC.ids x (by omega)).2, Int.toNat_natCast] at r3
    have s3 := hS.hx (b := (m.t.idn.getD y 0).toNat) (x := x) (by omega) (by omega)
    rw [(hD.ids y (by omega)).1, (hD.ids y (by omega)).2, Int.toNat_natCast] at s3
    have r2 := a6.2 (m.s.idn.getD x 0).toNat (by omega)
    have r4 := r2.2 y (by omega)
    have s2 := a7.2 (m.t.idn.getD y 0).toNat (by omega)
    have s4 := s2.2 x (by omega)
    refine .skip ?_
    refine k2 _ _ (.seq (fun K12 l9 => ?_))
    refine .block ?_
    refine .seq (fun K13 h2 => ?_)
    refine .regionD mo_B (.q 0 (.q 1 (.q 2 (.q 3 (.q 4 (.q 5 (.q 6 (.q 7 (.q 8 (.q 9 (.q 10 (.q 11 (.c 12 0 (.q 13 (.q 14 (.q 15 (.q 16 (.q 17 (.q 18 (.q 19 (.q 20 (.q 21 (.q 22 (.q 23 (.q 24 (.q 25 (.q 26 (.c 27 0 (.q 28 (.q 29 (.done))))))))))))))))))))))))))))))) (by kernel_rfl) ?_
    refine .q rfl (.fieldAddr fo_34_3_VProf rfl) ?_
    refine .q rfl (.load on_26_VProf rfl (by first | assumption | exact Mem.of_get v 11 _ rfl)) ?_
    refine .q rfl (.fieldAddr fo_32_3_B rfl) ?_
    refine .q rfl (.load on_22_B rfl (by first | assumption | exact Mem.of_get a4 3 _ rfl)) ?_
    refine .mv rfl rfl ?_
    refine .q rfl (.idxN sl_22_A (by assumption) rfl rfl (by omega)) ?_
    refine .q rfl (.loadI on_2_A (by assumption) rfl (by omega)) ?_
    refine .q rfl (.idx1 sl_26_VZ (Intsss.sl (by assumption)) rfl rfl (by omega) (by omega)) ?_
    refine .q rfl (.loadRR on_23_B (by assumption) rfl (by omega)) ?_
    refine .mv rfl rfl ?_
    refine .q rfl (.idxN sl_23_B (Intss.sl (by assumption)) rfl rfl (by omega)) ?_
    refine .q rfl (.loadR on_22_B (by assumption) rfl (by omega)) ?_
    refine .callQ0 rfl rfl rfl rfl rfl @Try.call100 rfl (l22Calm_c) ?_
    refine .q rfl (.not rfl) (.mv rfl rfl ?_)
    refine .split (fun f9 => ?_) (fun f9 => ?_)
    ·
     try simp only [sps] at f9
     refine .z rfl (.z rfl (.z rfl (.z rfl (.z rfl (.z rfl (.z rfl (.z rfl (.z rfl (.z rfl (.z rfl (.z rfl (.sgc rfl rfl rfl rfl rfl rfl (.z rfl (.q rfl (.pickT rfl rfl) ?_))))))))))))))
     refine .done ?_
     refine h2 _ _ ?_
     refine .condT rfl ?_
     refine .seq (fun K14 k8 => .region (.mv rfl (.nil (k8 _ _ ?_))))
     refine .ret ?_
     refine e8 _ _ ?_
     refine ⟨_, rfl, ?_⟩
     exact ⟨congrArg _ (B_false fun hh => f9 (hh.1.idb y (by omega) x (by omega)).1), a3⟩
    try simp only [sps] at f9
    refine .qg rfl (.fieldAddr fo_34_4_VProf rfl) ?_
    refine .qg rfl (.load on_26_VProf rfl (by first | assumption | exact Mem.of_get v 12 _ rfl)) ?_
    refine .qg rfl (.fieldAddr fo_32_3_B rfl) ?_
    refine .qg rfl (.load on_22_B rfl (by first | assumption | exact Mem.of_get a5 3 _ rfl)) ?_
    refine .qg rfl (.move rfl) ?_
    refine .qg rfl (.idxN sl_22_A (by assumption) rfl rfl (by omega)) ?_
    refine .qg rfl (.loadI on_2_A (by assumption) rfl (by omega)) ?_
    refine .qg rfl (.idx1 sl_26_VZ (Intsss.sl (by assumption)) rfl rfl (by omega) (by omega)) ?_
    refine .qg rfl (.loadRR on_23_B (by assumption) rfl (by omega)) ?_
    refine .qg rfl (.move rfl) ?_
    refine .qg rfl (.idxN sl_23_B (Intss.sl (by assumption)) rfl rfl (by omega)) ?_
    refine .qg rfl (.loadR on_22_B (by assumption) rfl (by omega)) ?_
    refine .callQ0g rfl rfl rfl rfl rfl rfl rfl @Try.call100 rfl (l22Calm_c) ?_
    refine .qg rfl (.not rfl) (.q rfl (.pickF rfl rfl) ?_)
    refine .done ?_
    refine h2 _ _ ?_
    refine .cond rfl (fun h0 => ?_) (fun h0 => ?_)
    ·
     try simp only [sps] at h0
     refine .seq (fun K15 h5 => .region (.mv rfl (.nil (h5 _ _ ?_))))
     refine .ret ?_
     refine e8 _ _ ?_
     refine ⟨_, rfl, ?_⟩
     exact ⟨congrArg _ (B_false fun hh => h0 (hh.1.idb y (by omega) x (by omega)).2), a3⟩
    try simp only [sps] at h0
    refine .skip ?_
    refine l9 _ _ (.region (.mv rfl ?_))
    refine .q rfl (.add rfl rfl rfl (by omega) (by omega)) ?_
    refine .mv rfl (.nil ?_)
    refine m0 (x + 1) _ _ ?_ ?_ ⟨rfl, rfl, rfl, rfl, rfl, trivial⟩
    ·
     refine ⟨rfl, ?_⟩
     refine ⟨by omega, fun x' hx => ?_⟩
     by_cases hltq : x' < x
     · exact n5 x' hltq
     · obtain rfl : x' = x := by omega
       exact ⟨f9, h0⟩
    omega
   try simp only [sps] at h6
   refine .exit ?_
   refine o5 _ _ (.seq (fun K16 m4 => .region (.mv rfl (.nil (m4 _ _ ?_)))))
   refine .block ?_
   refine .loopR (σ := Nat) [(1, some _), (3, some _), (4, some _), (5, some _)] (fun a => [(7, some (.int .i64 (a : Int)))]) (fun a H' => St [] HL1 H' ∧ (a : Int) ≤ m.s.src.length ∧ ∀ a', a' < a → ∀ b : Nat, b < m.s.src.length → 0 ≤ (m.s.comp.getD a' []).getD b 0 → (m.be.getD ((m.s.comp.getD a' []).getD b 0).toNat []).getD y [] = thenL ((m.be.getD b []).getD y []) ((m.be.getD a' []).getD y [])) (fun a => (m.s.src.length - a : Int).toNat) (0) ⟨rfl, rfl, rfl, rfl, trivial⟩ ⟨rfl, trivial⟩ ?_ ?_
   ·
    refine ⟨.refl _ _, ?_⟩
    exact ⟨by omega, fun _ _ => by omega⟩
   rintro a HL3 ⟨e4, hI⟩ KL3 k3
   refine .forget (fr' := [(7, some (.int .i64 (a : Int))), (1, some _), (3, some _), (4, some _), (5, some _)]) ⟨rfl, rfl, rfl, rfl, rfl, trivial⟩ ?_
   replace a3 := a3.st e4 (fun k hk => trivial)
   replace n := n.sA e4
   replace v := e4.same _ _ trivial v
   replace a4 := e4.same _ _ trivial a4
   replace a5 := e4.same _ _ trivial a5
   replace hin := d.mono a3
   clear g r o u a0 w b5 a6 a7 b6 b2 a1 f a2 e
   have g : Prof.At _ g1 0 m p := ⟨Mem.of_get v, hin⟩
   obtain ⟨r, o, u, a0, w, b5, a6, a7⟩ := g.get
   have b6 : MemN _ _ _ _ _ := ⟨rfl, g.1⟩
   have b2 := g.2
   have a1 : MemN _ _ _ _ _ := ⟨rfl, r.1⟩
   have f := r.2
   have a2 : MemN _ _ _ _ _ := ⟨rfl, o.1⟩
   have e := o.2
   clear j c6 d3 d0 c7 d8 c1 d1 d6 b0 d5 c2
   have j : Cat.At _ g3 0 m.s p.s := ⟨Mem.of_get a4, f⟩
   obtain ⟨c6, d3, d0, c7, d8, c1, d1, d6, b0⟩ := j.get
   have d5 : MemN _ _ _ _ _ := ⟨rfl, j.1⟩
   have c2 := j.2
   clear l c8 c9 d2 d4 c5 d7 c0 b9 a9 c4 c3
   have l : Cat.At _ g4 0 m.t p.t := ⟨Mem.of_get a5, e⟩
   obtain ⟨c8, c9, d2, d4, c5, d7, c0, b9, a9⟩ := l.get
   have c4 : MemN _ _ _ _ _ := ⟨rfl, l.1⟩
   have c3 := l.2
   obtain ⟨hk3, n3⟩ := hI
   refine .seq (fun K17 h7 => .seq (fun K18 i6 => .region (.mv rfl (.q rfl (.fieldAddr fo_32_1_B rfl) ?_))))
   refine .q rfl (.load on_22_B rfl (by first | assumption | exact Mem.of_get a4 1 _ rfl)) ?_
   refine .q rfl (.len sl_22_A rfl) (.q rfl (.cmp rfl rfl rfl) (.nil (i6 _ _ ?_)))
   refine .cond rfl (fun m3 => ?_) (fun m3 => ?_)
   ·
    simp only [sps] at m3
    have r1 := hC.row a (by omega)
    have r4 := hS.by (a := a) (y := y) (by omega) (by omega)
    have r2 := b0.2 a (by omega)
    have r3 := a6.2 a (by omega)
    have r5 := r3.2 y (by omega)
    refine .skip ?_
    refine h7 _ _ (.seq (fun K19 k5 => ?_))
    refine .block ?_
    refine .seq (fun K20 i4 => .region (.mv rfl (.nil (i4 _ _ ?_))))
    refine .block ?_
    refine .loopR (σ := Nat) [(1, some _), (3, some _), (4, some _), (5, some _), (7, some _)] (fun b => [(8, some (.int .i64 (b : Int)))]) (fun b H' => St [] HL3 H' ∧ (b : Int) ≤ m.s.src.length ∧ ∀ b', b' < b → 0 ≤ (m.s.comp.getD a []).getD b' 0 → (m.be.getD ((m.s.comp.getD a []).getD b' 0).toNat []).getD y [] = thenL ((m.be.getD b' []).getD y []) ((m.be.getD a []).getD y [])) (fun b => (m.s.src.length - b : Int).toNat) (0) ⟨rfl, rfl, rfl, rfl, rfl, trivial⟩ ⟨rfl, trivial⟩ ?_ ?_
    ·
     refine ⟨.refl _ _, ?_⟩
     exact ⟨by omega, fun _ _ => by omega⟩
    rintro b HL4 ⟨e3, hI⟩ KL4 g9
    refine .forget (fr' := [(8, some (.int .i64 (b : Int))), (1, some _), (3, some _), (4, some _), (5, some _), (7, some _)]) ⟨rfl, rfl, rfl, rfl, rfl, rfl, trivial⟩ ?_
    replace a3 := a3.st e3 (fun k hk => trivial)
    replace n := n.sA e3
    replace e4 := e4.sA e3
    replace v := e3.same _ _ trivial v
    replace a4 := e3.same _ _ trivial a4
    replace a5 := e3.same _ _ trivial a5
    replace hin := d.mono a3
    clear g r o u a0 w b5 a6 a7 b6 b2 a1 f a2 e
    have g : Prof.At _ g1 0 m p := ⟨Mem.of_get v, hin⟩
    obtain ⟨r, o, u, a0, w, b5, a6, a7⟩ := g.get
    have b6 : MemN _ _ _ _ _ := ⟨rfl, g.1⟩
    have b2 := g.2
    have a1 : MemN _ _ _ _ _ := ⟨rfl, r.1⟩
    have f := r.2
    have a2 : MemN _ _ _ _ _ := ⟨rfl, o.1⟩
    have e := o.2
    clear j c6 d3 d0 c7 d8 c1 d1 d6 b0 d5 c2
    have j : Cat.At _ g3 0 m.s p.s := ⟨Mem.of_get a4, f⟩
    obtain ⟨c6, d3, d0, c7, d8, c1, d1, d6, b0⟩ := j.get
    have d5 : MemN _ _ _ _ _ := ⟨rfl, j.1⟩
    have c2 := j.2
    clear l c8 c9 d2 d4 c5 d7 c0 b9 a9 c4 c3
    have l : Cat.At _ g4 0 m.t p.t := ⟨Mem.of_get a5, e⟩
    obtain ⟨c8, c9, d2, d4, c5, d7, c0, b9, a9⟩ := l.get
    have c4 : MemN _ _ _ _ _ := ⟨rfl, l.1⟩
    have c3 := l.2
    clear r2 r3 r5
    have r2 := b0.2 a (by omega)
    have r3 := a6.2 a (by omega)
    have r5 := r3.2 y (by omega)
    obtain ⟨hk4, l5⟩ := hI
    refine .seq (fun K21 j0 => .seq (fun K22 l3 => .region (.mv rfl (.q rfl (.fieldAddr fo_32_1_B rfl) ?_))))
    refine .q rfl (.load on_22_B rfl (by first | assumption | exact Mem.of_get a4 1 _ rfl)) ?_
    refine .q rfl (.len sl_22_A rfl) (.q rfl (.cmp rfl rfl rfl) (.nil (l3 _ _ ?_)))
    refine .cond rfl (fun j9 => ?_) (fun j9 => ?_)
    ·
     simp only [sps] at j9
     have t4 := hS.by (a := b) (y := y) (by omega) (by omega)
     have t3 := a6.2 b (by omega)
     have t5 := t3.2 y (by omega)
     refine .skip ?_
     refine j0 _ _ (.seq (fun K23 g7 => ?_))
     refine .block ?_
     refine .seq (fun K24 j7 => .region (.q rfl (.fieldAddr fo_32_4_B rfl) ?_))
     refine .q rfl (.load on_23_B rfl (by first | assumption | exact Mem.of_get a4 4 _ rfl)) ?_
     refine .mv rfl ?_
     refine .q rfl (.idxN sl_23_B (Intss.sl (by assumption)) rfl rfl (by omega)) ?_
     refine .q rfl (.loadR on_22_B (by assumption) rfl (by omega)) ?_
     refine .mv rfl ?_
     refine .q rfl (.idxN sl_22_A (by assumption) rfl rfl (by omega)) ?_
     refine .q rfl (.loadI on_2_A (by assumption) rfl (by omega)) ?_
     refine .mv rfl (.nil (j7 _ _ (.seq (fun K25 g5 => ?_))))
     refine .regionD mo_B (.q 0 (.q 1 (.q 2 (.q 3 (.q 4 (.q 5 (.q 6 (.q 7 (.q 8 (.q 9 (.q 10 (.q 11 (.q 12 (.q 13 (.q 14 (.q 15 (.q 16 (.q 17 (.q 18 (.q 19 (.q 20 (.q 21 (.q 22 (.q 23 (.q 24 (.q 25 (.q 26 (.c 27 1 (.c 28 0 (.q 29 (.q 30 (.done)))))))))))))))))))))))))))))))) (by kernel_rfl) ?_
     refine .mv rfl rfl (.q rfl (.cmp rfl rfl rfl) (.mv rfl rfl ?_))
     refine .split (fun g6 => ?_) (fun g6 => ?_)
     ·
      simp only [sps] at g6
      have u1 := hC.comp (a := a) (b := b) (by omega) (by omega) g6
      have u4 := hS.by (a := ((m.s.comp.getD a []).getD b 0).toNat) (y := y) (by omega) (by omega)
      have u6 : ∀ i, i < ((m.be.getD b []).getD y []).length → 0 ≤ ((m.be.getD b []).getD y []).getD i 0 ∧ ((m.be.getD b []).getD y []).getD i 0 < ((m.be.getD a []).getD y []).length := fun i hi => by
        have := t4.2.2.2.2.1 i hi
        rw [← u1.1, ← r4.2.2.2.1] at this
        exact this
      have u3 := a6.2 ((m.s.comp.getD a []).getD b 0).toNat (by omega)
      have u5 := u3.2 y (by omega)
      refine .qg rfl (.fieldAddr fo_34_3_VProf rfl) ?_
      refine .qg rfl (.load on_26_VProf rfl (by first | assumption | exact Mem.of_get v 11 _ rfl)) ?_
      refine .qg rfl (.move rfl) ?_
      refine .qg rfl (.idx1 sl_26_VZ (Intsss.sl (by assumption)) rfl rfl (by omega) (by omega)) ?_
      refine .qg rfl (.loadRR on_23_B (by assumption) rfl (by omega)) ?_
      refine .qg rfl (.move rfl) ?_
      refine .qg rfl (.idxN sl_23_B (Intss.sl (by assumption)) rfl rfl (by omega)) ?_
      refine .qg rfl (.loadR on_22_B (by assumption) rfl (by omega)) ?_
      refine .qg rfl (.fieldAddr fo_34_3_VProf rfl) ?_
      refine .qg rfl (.load on_26_VProf rfl (by first | assumption | exact Mem.of_get v 11 _ rfl)) ?_
      refine .qg rfl (.move rfl) ?_
      refine .qg rfl (.idxN sl_26_VZ (Intsss.sl (by assumption)) rfl rfl (by omega)) ?_
      refine .qg rfl (.loadRR on_23_B (by assumption) rfl (by omega)) ?_
      refine .qg rfl (.move rfl) ?_
      refine .qg rfl (.idxN sl_23_B (Intss.sl (by assumption)) rfl rfl (by omega)) ?_
      refine .qg rfl (.loadR on_22_B (by assumption) rfl (by omega)) ?_
      refine .qg rfl (.fieldAddr fo_34_3_VProf rfl) ?_
      refine .qg rfl (.load on_26_VProf rfl (by first | assumption | exact Mem.of_get v 11 _ rfl)) ?_
      refine .qg rfl (.move rfl) ?_
      refine .qg rfl (.idxN sl_26_VZ (Intsss.sl (by assumption)) rfl rfl (by omega)) ?_
      refine .qg rfl (.loadRR on_23_B (by assumption) rfl (by omega)) ?_
      refine .qg rfl (.move rfl) ?_
      refine .qg rfl (.idxN sl_23_B (Intss.sl (by assumption)) rfl rfl (by omega)) ?_
      refine .qg rfl (.loadR on_22_B (by assumption) rfl (by omega)) ?_
      refine .call1g rfl rfl rfl rfl rfl rfl rfl @Try.call101 rfl (l01Then_c) ?_
      rintro _ H113 ⟨b4, g113, rfl, f3, ge113⟩
      have m5 := b4
      refine ⟨m5, ?_⟩
      replace a3 := a3.trans b4
      replace n := n.le b4
      replace e4 := e4.le b4
      replace e3 := e3.le b4
      replace v := b4.2 _ _ v
      replace a4 := b4.2 _ _ a4
      replace a5 := b4.2 _ _ a5
      have lt_at113 := GHeap.ltg f3
      replace hin := d.mono a3
      clear g r o u a0 w b5 a6 a7 b6 b2 a1 f a2 e
      have g : Prof.At _ g1 0 m p := ⟨Mem.of_get v, hin⟩
      obtain ⟨r, o, u, a0, w, b5, a6, a7⟩ := g.get
      have b6 : MemN _ _ _ _ _ := ⟨rfl, g.1⟩
      have b2 := g.2
      have a1 : MemN _ _ _ _ _ := ⟨rfl, r.1⟩
      have f := r.2
      have a2 : MemN _ _ _ _ _ := ⟨rfl, o.1⟩
      have e := o.2
      clear j c6 d3 d0 c7 d8 c1 d1 d6 b0 d5 c2
      have j : Cat.At _ g3 0 m.s p.s := ⟨Mem.of_get a4, f⟩
      obtain ⟨c6, d3, d0, c7, d8, c1, d1, d6, b0⟩ := j.get
      have d5 : MemN _ _ _ _ _ := ⟨rfl, j.1⟩
      have c2 := j.2
      clear l c8 c9 d2 d4 c5 d7 c0 b9 a9 c4 c3
      have l : Cat.At _ g4 0 m.t p.t := ⟨Mem.of_get a5, e⟩
      obtain ⟨c8, c9, d2, d4, c5, d7, c0, b9, a9⟩ := l.get
      have c4 : MemN _ _ _ _ _ := ⟨rfl, l.1⟩
      have c3 := l.2
      clear r2 r3 r5
      have r2 := b0.2 a (by omega)
      have r3 := a6.2 a (by omega)
      have r5 := r3.2 y (by omega)
      clear t3 t5
      have t3 := a6.2 b (by omega)
      have t5 := t3.2 y (by omega)
      clear u3 u5
      have u3 := a6.2 ((m.s.comp.getD a []).getD b 0).toNat (by omega)
      have u5 := u3.2 y (by omega)
      have i113 := Ints.of_get f3
      refine .callQ0g rfl rfl rfl rfl rfl rfl rfl @Try.call60 rfl (l01Same_c (hy := by rw [length_thenL]; omega)) ?_
      refine .qg rfl (.not rfl) (.q rfl (.pickT rfl rfl) ?_)
      refine .done ?_
      refine g5 _ _ ?_
      refine .cond rfl (fun e6 => ?_) (fun e6 => ?_)
      ·
       try simp only [sps] at e6
       refine .seq (fun K26 k0 => .region (.mv rfl (.nil (k0 _ _ ?_))))
       refine .ret ?_
       refine e8 _ _ ?_
       refine ⟨_, rfl, ?_⟩
       exact ⟨congrArg _ (B_false fun hh => e6 (hh.1.thb y (by omega) a (by omega) b (by omega) g6)), a3⟩
      try simp only [sps] at e6
      refine .skip ?_
      refine g7 _ _ (.region (.mv rfl ?_))
      refine .q rfl (.add rfl rfl rfl (by omega) (by omega)) ?_
      refine .mv rfl (.nil ?_)
      refine g9 (b + 1) _ _ ?_ ?_ ⟨rfl, rfl, rfl, rfl, rfl, rfl, trivial⟩
      ·
       refine ⟨e3, ?_⟩
       refine ⟨by omega, fun b' hx => ?_⟩
       by_cases hltq : b' < b
       · exact l5 b' hltq
       · obtain rfl : b' = b := by omega
         first | exact fun _ => e6 | exact fun hp => absurd hp (by omega)
      omega
     try simp only [sps] at g6
     refine .z rfl (.z rfl (.z rfl (.z rfl (.z rfl (.z rfl (.z rfl (.z rfl (.z rfl (.z rfl (.z rfl (.z rfl (.z rfl (.z rfl (.z rfl (.z rfl ?_)))))))))))))))
     refine .z rfl (.z rfl (.z rfl (.z rfl (.z rfl (.z rfl (.z rfl (.z rfl (.sgc rfl rfl rfl rfl rfl rfl (.sgc rfl rfl rfl rfl rfl rfl (.z rfl (.q rfl (.pickF rfl rfl) ?_)))))))))))
     refine .done ?_
     refine g5 _ _ ?_
     refine .condF rfl ?_
     refine .skip ?_
     refine g7 _ _ (.region (.mv rfl ?_))
     refine .q rfl (.add rfl rfl rfl (by omega) (by omega)) ?_
     refine .mv rfl (.nil ?_)
     refine g9 (b + 1) _ _ ?_ ?_ ⟨rfl, rfl, rfl, rfl, rfl, rfl, trivial⟩
     ·
      refine ⟨e3, ?_⟩
      refine ⟨by omega, fun b' hx => ?_⟩
      by_cases hltq : b' < b
      · exact l5 b' hltq
      · obtain rfl : b' = b := by omega
        first | exact fun _ => e6 | exact fun hp => absurd hp (by omega)
     omega
    try simp only [sps] at j9
    refine .exit ?_
    refine k5 _ _ (.region (.mv rfl ?_))
    refine .q rfl (.add rfl rfl rfl (by omega) (by omega)) ?_
    refine .mv rfl (.nil ?_)
    refine k3 (a + 1) _ _ ?_ ?_ ⟨rfl, rfl, rfl, rfl, rfl, trivial⟩
    ·
     refine ⟨e4, ?_⟩
     refine ⟨by omega, fun a' hx => ?_⟩
     by_cases hltq : a' < a
     · exact n3 a' hltq
     · obtain rfl : a' = a := by omega
       exact fun b hb => l5 b (by omega)
    omega
   try simp only [sps] at m3
   refine .exit ?_
   refine o6 _ _ (.region (.mv rfl ?_))
   refine .q rfl (.add rfl rfl rfl (by omega) (by omega)) ?_
   refine .mv rfl (.nil ?_)
   refine i7 (y + 1) _ _ ?_ ?_ ⟨rfl, rfl, rfl, rfl, trivial⟩
   ·
    refine ⟨n, ?_⟩
    refine ⟨by omega, fun y' hx => ?_⟩
    by_cases hltq : y' < y
    · exact l0 y' hltq
    · obtain rfl : y' = y := by omega
      exact ⟨fun x hx => n5 x (by omega), fun a ha => n3 a (by omega)⟩
   omega
  try simp only [sps] at l1
  refine .exit ?_
  refine o0 _ _ (.seq (fun K27 i9 => .seq (fun K28 l7 => .region (.mv rfl (.nil (l7 _ _ ?_))))))
  refine .block ?_
  refine .loopR (σ := Nat) [(1, some _), (3, some _), (4, some _)] (fun x => [(10, some (.int .i64 (x : Int)))]) (fun x H' => St [] HL1 H' ∧ (x : Int) ≤ m.s.obj ∧ ∀ x', x' < x → ∀ a : Nat, a < m.t.src.length → ∀ b : Nat, b < m.t.src.length → 0 ≤ (m.t.comp.getD a []).getD b 0 → (m.bh.getD ((m.t.comp.getD a []).getD b 0).toNat []).getD x' [] = thenL ((m.bh.getD a []).getD x' []) ((m.bh.getD b []).getD x' [])) (fun x => (m.s.obj - x : Int).toNat) (0) ⟨rfl, rfl, rfl, trivial⟩ ⟨rfl, trivial⟩ ?_ ?_
  ·
   refine ⟨.refl _ _, ?_⟩
   exact ⟨by omega, fun _ _ => by omega⟩
  rintro x HL5 ⟨b7, hI⟩ KL5 h8
  refine .forget (fr' := [(10, some (.int .i64 (x : Int))), (1, some _), (3, some _), (4, some _)]) ⟨rfl, rfl, rfl, rfl, trivial⟩ ?_
  replace a3 := a3.st b7 (fun k hk => trivial)
  replace n := n.sA b7
  replace v := b7.same _ _ trivial v
  replace a4 := b7.same _ _ trivial a4
  replace a5 := b7.same _ _ trivial a5
  replace hin := d.mono a3
  clear g r o u a0 w b5 a6 a7 b6 b2 a1 f a2 e
  have g : Prof.At _ g1 0 m p := ⟨Mem.of_get v, hin⟩
  obtain ⟨r, o, u, a0, w, b5, a6, a7⟩ := g.get
  have b6 : MemN _ _ _ _ _ := ⟨rfl, g.1⟩
  have b2 := g.2
  have a1 : MemN _ _ _ _ _ := ⟨rfl, r.1⟩
  have f := r.2
  have a2 : MemN _ _ _ _ _ := ⟨rfl, o.1⟩
  have e := o.2
  clear j c6 d3 d0 c7 d8 c1 d1 d6 b0 d5 c2
  have j : Cat.At _ g3 0 m.s p.s := ⟨Mem.of_get a4, f⟩
  obtain ⟨c6, d3, d0, c7, d8, c1, d1, d6, b0⟩ := j.get
  have d5 : MemN _ _ _ _ _ := ⟨rfl, j.1⟩
  have c2 := j.2
  clear l c8 c9 d2 d4 c5 d7 c0 b9 a9 c4 c3
  have l : Cat.At _ g4 0 m.t p.t := ⟨Mem.of_get a5, e⟩
  obtain ⟨c8, c9, d2, d4, c5, d7, c0, b9, a9⟩ := l.get
  have c4 : MemN _ _ _ _ _ := ⟨rfl, l.1⟩
  have c3 := l.2
  obtain ⟨hk5, n4⟩ := hI
  refine .seq (fun K29 k1 => .seq (fun K30 l6 => .region (.mv rfl (.q rfl (.fieldAddr fo_32_0_B rfl) ?_))))
  refine .q rfl (.load on_2_A rfl (by first | assumption | exact Mem.of_get a4 0 _ rfl)) ?_
  refine .q rfl (.cmp rfl rfl rfl) (.nil (l6 _ _ ?_))
  refine .cond rfl (fun f6 => ?_) (fun f6 => ?_)
  ·
   simp only [sps] at f6
   refine .skip ?_
   refine k1 _ _ (.seq (fun K31 k7 => ?_))
   refine .block ?_
   refine .seq (fun K32 m2 => .region (.mv rfl (.nil (m2 _ _ ?_))))
   refine .block ?_
   refine .loopR (σ := Nat) [(1, some _), (3, some _), (4, some _), (10, some _)] (fun a => [(11, some (.int .i64 (a : Int)))]) (fun a H' => St [] HL5 H' ∧ (a : Int) ≤ m.t.src.length ∧ ∀ a', a' < a → ∀ b : Nat, b < m.t.src.length → 0 ≤ (m.t.comp.getD a' []).getD b 0 → (m.bh.getD ((m.t.comp.getD a' []).getD b 0).toNat []).getD x [] = thenL ((m.bh.getD a' []).getD x []) ((m.bh.getD b []).getD x [])) (fun a => (m.t.src.length - a : Int).toNat) (0) ⟨rfl, rfl, rfl, rfl, trivial⟩ ⟨rfl, trivial⟩ ?_ ?_
   ·
    refine ⟨.refl _ _, ?_⟩
    exact ⟨by omega, fun _ _ => by omega⟩
   rintro a HL6 ⟨e1, hI⟩ KL6 m1
   refine .forget (fr' := [(11, some (.int .i64 (a : Int))), (1, some _), (3, some _), (4, some _), (10, some _)]) ⟨rfl, rfl, rfl, rfl, rfl, trivial⟩ ?_
   replace a3 := a3.st e1 (fun k hk => trivial)
   replace n := n.sA e1
   replace b7 := b7.sA e1
   replace v := e1.same _ _ trivial v
   replace a4 := e1.same _ _ trivial a4
   replace a5 := e1.same _ _ trivial a5
   replace hin := d.mono a3
   clear g r o u a0 w b5 a6 a7 b6 b2 a1 f a2 e
   have g : Prof.At _ g1 0 m p := ⟨Mem.of_get v, hin⟩
   obtain ⟨r, o, u, a0, w, b5, a6, a7⟩ := g.get
   have b6 : MemN _ _ _ _ _ := ⟨rfl, g.1⟩
   have b2 := g.2
   have a1 : MemN _ _ _ _ _ := ⟨rfl, r.1⟩
   have f := r.2
   have a2 : MemN _ _ _ _ _ := ⟨rfl, o.1⟩
   have e := o.2
   clear j c6 d3 d0 c7 d8 c1 d1 d6 b0 d5 c2
   have j : Cat.At _ g3 0 m.s p.s := ⟨Mem.of_get a4, f⟩
   obtain ⟨c6, d3, d0, c7, d8, c1, d1, d6, b0⟩ := j.get
   have d5 : MemN _ _ _ _ _ := ⟨rfl, j.1⟩
   have c2 := j.2
   clear l c8 c9 d2 d4 c5 d7 c0 b9 a9 c4 c3
   have l : Cat.At _ g4 0 m.t p.t := ⟨Mem.of_get a5, e⟩
   obtain ⟨c8, c9, d2, d4, c5, d7, c0, b9, a9⟩ := l.get
   have c4 : MemN _ _ _ _ _ := ⟨rfl, l.1⟩
   have c3 := l.2
   obtain ⟨hk6, n6⟩ := hI
   refine .seq (fun K33 j6 => .seq (fun K34 l8 => .region (.mv rfl (.q rfl (.fieldAddr fo_32_1_B rfl) ?_))))
   refine .q rfl (.load on_22_B rfl (by first | assumption | exact Mem.of_get a5 1 _ rfl)) ?_
   refine .q rfl (.len sl_22_A rfl) (.q rfl (.cmp rfl rfl rfl) (.nil (l8 _ _ ?_)))
   refine .cond rfl (fun f8 => ?_) (fun f8 => ?_)
   ·
    simp only [sps] at f8
    have r1 := hD.row a (by omega)
    have r4 := hS.hx (b := a) (x := x) (by omega) (by omega)
    have r2 := a9.2 a (by omega)
    have r3 := a7.2 a (by omega)
    have r5 := r3.2 x (by omega)
    refine .skip ?_
    refine j6 _ _ (.seq (fun K35 l4 => ?_))
    refine .block ?_
    refine .seq (fun K36 m8 => .region (.mv rfl (.nil (m8 _ _ ?_))))
    refine .block ?_
    refine .loopR (σ := Nat) [(1, some _), (3, some _), (4, some _), (10, some _), (11, some _)] (fun b => [(12, some (.int .i64 (b : Int)))]) (fun b H' => St [] HL6 H' ∧ (b : Int) ≤ m.t.src.length ∧ ∀ b', b' < b → 0 ≤ (m.t.comp.getD a []).getD b' 0 → (m.bh.getD ((m.t.comp.getD a []).getD b' 0).toNat []).getD x [] = thenL ((m.bh.getD a []).getD x []) ((m.bh.getD b' []).getD x [])) (fun b => (m.t.src.length - b : Int).toNat) (0) ⟨rfl, rfl, rfl, rfl, rfl, trivial⟩ ⟨rfl, trivial⟩ ?_ ?_
    ·
     refine ⟨.refl _ _, ?_⟩
     exact ⟨by omega, fun _ _ => by omega⟩
    rintro b HL7 ⟨e0, hI⟩ KL7 h1
    refine .forget (fr' := [(12, some (.int .i64 (b : Int))), (1, some _), (3, some _), (4, some _), (10, some _), (11, some _)]) ⟨rfl, rfl, rfl, rfl, rfl, rfl, trivial⟩ ?_
    replace a3 := a3.st e0 (fun k hk => trivial)
    replace n := n.sA e0
    replace b7 := b7.sA e0
    replace e1 := e1.sA e0
    replace v := e0.same _ _ trivial v
    replace a4 := e0.same _ _ trivial a4
    replace a5 := e0.same _ _ trivial a5
    replace hin := d.mono a3
    clear g r o u a0 w b5 a6 a7 b6 b2 a1 f a2 e
    have g : Prof.At _ g1 0 m p := ⟨Mem.of_get v, hin⟩
    obtain ⟨r, o, u, a0, w, b5, a6, a7⟩ := g.get
    have b6 : MemN _ _ _ _ _ := ⟨rfl, g.1⟩
    have b2 := g.2
    have a1 : MemN _ _ _ _ _ := ⟨rfl, r.1⟩
    have f := r.2
    have a2 : MemN _ _ _ _ _ := ⟨rfl, o.1⟩
    have e := o.2
    clear j c6 d3 d0 c7 d8 c1 d1 d6 b0 d5 c2
    have j : Cat.At _ g3 0 m.s p.s := ⟨Mem.of_get a4, f⟩
    obtain ⟨c6, d3, d0, c7, d8, c1, d1, d6, b0⟩ := j.get
    have d5 : MemN _ _ _ _ _ := ⟨rfl, j.1⟩
    have c2 := j.2
    clear l c8 c9 d2 d4 c5 d7 c0 b9 a9 c4 c3
    have l : Cat.At _ g4 0 m.t p.t := ⟨Mem.of_get a5, e⟩
    obtain ⟨c8, c9, d2, d4, c5, d7, c0, b9, a9⟩ := l.get
    have c4 : MemN _ _ _ _ _ := ⟨rfl, l.1⟩
    have c3 := l.2
    clear r2 r3 r5
    have r2 := a9.2 a (by omega)
    have r3 := a7.2 a (by omega)
    have r5 := r3.2 x (by omega)
    obtain ⟨hk7, j8⟩ := hI
    refine .seq (fun K37 j1 => .seq (fun K38 n0 => .region (.mv rfl (.q rfl (.fieldAddr fo_32_1_B rfl) ?_))))
    refine .q rfl (.load on_22_B rfl (by first | assumption | exact Mem.of_get a5 1 _ rfl)) ?_
    refine .q rfl (.len sl_22_A rfl) (.q rfl (.cmp rfl rfl rfl) (.nil (n0 _ _ ?_)))
    refine .cond rfl (fun f7 => ?_) (fun f7 => ?_)
    ·
     simp only [sps] at f7
     have t4 := hS.hx (b := b) (x := x) (by omega) (by omega)
     have t3 := a7.2 b (by omega)
     have t5 := t3.2 x (by omega)
     refine .skip ?_
     refine j1 _ _ (.seq (fun K39 g0 => ?_))
     refine .block ?_
     refine .seq (fun K40 k6 => .region (.q rfl (.fieldAddr fo_32_4_B rfl) ?_))
     refine .q rfl (.load on_23_B rfl (by first | assumption | exact Mem.of_get a5 4 _ rfl)) ?_
     refine .mv rfl ?_
     refine .q rfl (.idxN sl_23_B (Intss.sl (by assumption)) rfl rfl (by omega)) ?_
     refine .q rfl (.loadR on_22_B (by assumption) rfl (by omega)) ?_
     refine .mv rfl ?_
     refine .q rfl (.idxN sl_22_A (by assumption) rfl rfl (by omega)) ?_
     refine .q rfl (.loadI on_2_A (by assumption) rfl (by omega)) ?_
     refine .mv rfl (.nil (k6 _ _ (.seq (fun K41 g2 => ?_))))
     refine .regionD mo_B (.q 0 (.q 1 (.q 2 (.q 3 (.q 4 (.q 5 (.q 6 (.q 7 (.q 8 (.q 9 (.q 10 (.q 11 (.q 12 (.q 13 (.q 14 (.q 15 (.q 16 (.q 17 (.q 18 (.q 19 (.q 20 (.q 21 (.q 22 (.q 23 (.q 24 (.q 25 (.q 26 (.c 27 1 (.c 28 0 (.q 29 (.q 30 (.done)))))))))))))))))))))))))))))))) (by kernel_rfl) ?_
     refine .mv rfl rfl (.q rfl (.cmp rfl rfl rfl) (.mv rfl rfl ?_))
     refine .split (fun f0 => ?_) (fun f0 => ?_)
     ·
      simp only [sps] at f0
      have u1 := hD.comp (a := a) (b := b) (by omega) (by omega) f0
      have u4 := hS.hx (b := ((m.t.comp.getD a []).getD b 0).toNat) (x := x) (by omega) (by omega)
      have u6 : ∀ i, i < ((m.bh.getD a []).getD x []).length → 0 ≤ ((m.bh.getD a []).getD x []).getD i 0 ∧ ((m.bh.getD a []).getD x []).getD i 0 < ((m.bh.getD b []).getD x []).length := fun i hi => by
        have := r4.2.2.2.2.2.1 i hi
        rw [u1.1, ← t4.2.2.2.2.1] at this
        exact this
      have u3 := a7.2 ((m.t.comp.getD a []).getD b 0).toNat (by omega)
      have u5 := u3.2 x (by omega)
      refine .qg rfl (.fieldAddr fo_34_4_VProf rfl) ?_
      refine .qg rfl (.load on_26_VProf rfl (by first | assumption | exact Mem.of_get v 12 _ rfl)) ?_
      refine .qg rfl (.move rfl) ?_
      refine .qg rfl (.idx1 sl_26_VZ (Intsss.sl (by assumption)) rfl rfl (by omega) (by omega)) ?_
      refine .qg rfl (.loadRR on_23_B (by assumption) rfl (by omega)) ?_
      refine .qg rfl (.move rfl) ?_
      refine .qg rfl (.idxN sl_23_B (Intss.sl (by assumption)) rfl rfl (by omega)) ?_
      refine .qg rfl (.loadR on_22_B (by assumption) rfl (by omega)) ?_
      refine .qg rfl (.fieldAddr fo_34_4_VProf rfl) ?_
      refine .qg rfl (.load on_26_VProf rfl (by first | assumption | exact Mem.of_get v 12 _ rfl)) ?_
      refine .qg rfl (.move rfl) ?_
      refine .qg rfl (.idxN sl_26_VZ (Intsss.sl (by assumption)) rfl rfl (by omega)) ?_
      refine .qg rfl (.loadRR on_23_B (by assumption) rfl (by omega)) ?_
      refine .qg rfl (.move rfl) ?_
      refine .qg rfl (.idxN sl_23_B (Intss.sl (by assumption)) rfl rfl (by omega)) ?_
      refine .qg rfl (.loadR on_22_B (by assumption) rfl (by omega)) ?_
      refine .qg rfl (.fieldAddr fo_34_4_VProf rfl) ?_
      refine .qg rfl (.load on_26_VProf rfl (by first | assumption | exact Mem.of_get v 12 _ rfl)) ?_
      refine .qg rfl (.move rfl) ?_
      refine .qg rfl (.idxN sl_26_VZ (Intsss.sl (by assumption)) rfl rfl (by omega)) ?_
      refine .qg rfl (.loadRR on_23_B (by assumption) rfl (by omega)) ?_
      refine .qg rfl (.move rfl) ?_
      refine .qg rfl (.idxN sl_23_B (Intss.sl (by assumption)) rfl rfl (by omega)) ?_
      refine .qg rfl (.loadR on_22_B (by assumption) rfl (by omega)) ?_
      refine .call1g rfl rfl rfl rfl rfl rfl rfl @Try.call101 rfl (l01Then_c) ?_
      rintro _ H172 ⟨a8, g172, rfl, f2, ge172⟩
      have m5 := a8
      refine ⟨m5, ?_⟩
      replace a3 := a3.trans a8
      replace n := n.le a8
      replace b7 := b7.le a8
      replace e1 := e1.le a8
      replace e0 := e0.le a8
      replace v := a8.2 _ _ v
      replace a4 := a8.2 _ _ a4
      replace a5 := a8.2 _ _ a5
      have lt_at172 := GHeap.ltg f2
      replace hin := d.mono a3
      clear g r o u a0 w b5 a6 a7 b6 b2 a1 f a2 e
      have g : Prof.At _ g1 0 m p := ⟨Mem.of_get v, hin⟩
      obtain ⟨r, o, u, a0, w, b5, a6, a7⟩ := g.get
      have b6 : MemN _ _ _ _ _ := ⟨rfl, g.1⟩
      have b2 := g.2
      have a1 : MemN _ _ _ _ _ := ⟨rfl, r.1⟩
      have f := r.2
      have a2 : MemN _ _ _ _ _ := ⟨rfl, o.1⟩
      have e := o.2
      clear j c6 d3 d0 c7 d8 c1 d1 d6 b0 d5 c2
      have j : Cat.At _ g3 0 m.s p.s := ⟨Mem.of_get a4, f⟩
      obtain ⟨c6, d3, d0, c7, d8, c1, d1, d6, b0⟩ := j.get
      have d5 : MemN _ _ _ _ _ := ⟨rfl, j.1⟩
      have c2 := j.2
      clear l c8 c9 d2 d4 c5 d7 c0 b9 a9 c4 c3
      have l : Cat.At _ g4 0 m.t p.t := ⟨Mem.of_get a5, e⟩
      obtain ⟨c8, c9, d2, d4, c5, d7, c0, b9, a9⟩ := l.get
      have c4 : MemN _ _ _ _ _ := ⟨rfl, l.1⟩
      have c3 := l.2
      clear r2 r3 r5
      have r2 := a9.2 a (by omega)
      have r3 := a7.2 a (by omega)
      have r5 := r3.2 x (by omega)
      clear t3 t5
      have t3 := a7.2 b (by omega)
      have t5 := t3.2 x (by omega)
      clear u3 u5
      have u3 := a7.2 ((m.t.comp.getD a []).getD b 0).toNat (by omega)
      have u5 := u3.2 x (by omega)
      have i172 := Ints.of_get f2
      refine .callQ0g rfl rfl rfl rfl rfl rfl rfl @Try.call60 rfl (l01Same_c (hy := by rw [length_thenL]; omega)) ?_
      refine .qg rfl (.not rfl) (.q rfl (.pickT rfl rfl) ?_)
      refine .done ?_
      refine g2 _ _ ?_
      refine .cond rfl (fun e7 => ?_) (fun e7 => ?_)
      ·
       try simp only [sps] at e7
       refine .seq (fun K42 i0 => .region (.mv rfl (.nil (i0 _ _ ?_))))
       refine .ret ?_
       refine e8 _ _ ?_
       refine ⟨_, rfl, ?_⟩
       exact ⟨congrArg _ (B_false fun hh => e7 (hh.1.thh x (by omega) a (by omega) b (by omega) f0)), a3⟩
      try simp only [sps] at e7
      refine .skip ?_
      refine g0 _ _ (.region (.mv rfl ?_))
      refine .q rfl (.add rfl rfl rfl (by omega) (by omega)) ?_
      refine .mv rfl (.nil ?_)
      refine h1 (b + 1) _ _ ?_ ?_ ⟨rfl, rfl, rfl, rfl, rfl, rfl, trivial⟩
      ·
       refine ⟨e0, ?_⟩
       refine ⟨by omega, fun b' hx => ?_⟩
       by_cases hltq : b' < b
       · exact j8 b' hltq
       · obtain rfl : b' = b := by omega
         first | exact fun _ => e7 | exact fun hp => absurd hp (by omega)
      omega
     try simp only [sps] at f0
     refine .z rfl (.z rfl (.z rfl (.z rfl (.z rfl (.z rfl (.z rfl (.z rfl (.z rfl (.z rfl (.z rfl (.z rfl (.z rfl (.z rfl (.z rfl (.z rfl ?_)))))))))))))))
     refine .z rfl (.z rfl (.z rfl (.z rfl (.z rfl (.z rfl (.z rfl (.z rfl (.sgc rfl rfl rfl rfl rfl rfl (.sgc rfl rfl rfl rfl rfl rfl (.z rfl (.q rfl (.pickF rfl rfl) ?_)))))))))))
     refine .done ?_
     refine g2 _ _ ?_
     refine .condF rfl ?_
     refine .skip ?_
     refine g0 _ _ (.region (.mv rfl ?_))
     refine .q rfl (.add rfl rfl rfl (by omega) (by omega)) ?_
     refine .mv rfl (.nil ?_)
     refine h1 (b + 1) _ _ ?_ ?_ ⟨rfl, rfl, rfl, rfl, rfl, rfl, trivial⟩
     ·
      refine ⟨e0, ?_⟩
      refine ⟨by omega, fun b' hx => ?_⟩
      by_cases hltq : b' < b
      · exact j8 b' hltq
      · obtain rfl : b' = b := by omega
        first | exact fun _ => e7 | exact fun hp => absurd hp (by omega)
     omega
    try simp only [sps] at f7
    refine .exit ?_
    refine l4 _ _ (.region (.mv rfl ?_))
    refine .q rfl (.add rfl rfl rfl (by omega) (by omega)) ?_
    refine .mv rfl (.nil ?_)
    refine m1 (a + 1) _ _ ?_ ?_ ⟨rfl, rfl, rfl, rfl, rfl, trivial⟩
    ·
     refine ⟨e1, ?_⟩
     refine ⟨by omega, fun a' hx => ?_⟩
     by_cases hltq : a' < a
     · exact n6 a' hltq
     · obtain rfl : a' = a := by omega
       exact fun b hb => j8 b (by omega)
    omega
   try simp only [sps] at f8
   refine .exit ?_
   refine k7 _ _ (.region (.mv rfl ?_))
   refine .q rfl (.add rfl rfl rfl (by omega) (by omega)) ?_
   refine .mv rfl (.nil ?_)
   refine h8 (x + 1) _ _ ?_ ?_ ⟨rfl, rfl, rfl, rfl, trivial⟩
   ·
    refine ⟨b7, ?_⟩
    refine ⟨by omega, fun x' hx => ?_⟩
    by_cases hltq : x' < x
    · exact n4 x' hltq
    · obtain rfl : x' = x := by omega
      exact fun a ha => n6 a (by omega)
   omega
  try simp only [sps] at f6
  refine .exit ?_
  refine i9 _ _ (.seq (fun K43 l2 => .seq (fun K44 m6 => .region (.mv rfl (.nil (m6 _ _ ?_))))))
  refine .block ?_
  refine .loopR (σ := Nat) [(1, some _), (3, some _), (4, some _)] (fun a => [(14, some (.int .i64 (a : Int)))]) (fun a H' => St [] HL5 H' ∧ (a : Int) ≤ m.s.src.length ∧ ∀ a', a' < a → ∀ b, b < m.t.src.length → m.MixAt a' b) (fun a => (m.s.src.length - a : Int).toNat) (0) ⟨rfl, rfl, rfl, trivial⟩ ⟨rfl, trivial⟩ ?_ ?_
  ·
   refine ⟨.refl _ _, ?_⟩
   exact ⟨by omega, fun _ _ => by omega⟩
  rintro a HL8 ⟨b8, hI⟩ KL8 k9
  refine .forget (fr' := [(14, some (.int .i64 (a : Int))), (1, some _), (3, some _), (4, some _)]) ⟨rfl, rfl, rfl, rfl, trivial⟩ ?_
  replace a3 := a3.st b8 (fun k hk => trivial)
  replace n := n.sA b8
  replace v := b8.same _ _ trivial v
  replace a4 := b8.same _ _ trivial a4
  replace a5 := b8.same _ _ trivial a5
  replace hin := d.mono a3
  clear g r o u a0 w b5 a6 a7 b6 b2 a1 f a2 e
  have g : Prof.At _ g1 0 m p := ⟨Mem.of_get v, hin⟩
  obtain ⟨r, o, u, a0, w, b5, a6, a7⟩ := g.get
  have b6 : MemN _ _ _ _ _ := ⟨rfl, g.1⟩
  have b2 := g.2
  have a1 : MemN _ _ _ _ _ := ⟨rfl, r.1⟩
  have f := r.2
  have a2 : MemN _ _ _ _ _ := ⟨rfl, o.1⟩
  have e := o.2
  clear j c6 d3 d0 c7 d8 c1 d1 d6 b0 d5 c2
  have j : Cat.At _ g3 0 m.s p.s := ⟨Mem.of_get a4, f⟩
  obtain ⟨c6, d3, d0, c7, d8, c1, d1, d6, b0⟩ := j.get
  have d5 : MemN _ _ _ _ _ := ⟨rfl, j.1⟩
  have c2 := j.2
  clear l c8 c9 d2 d4 c5 d7 c0 b9 a9 c4 c3
  have l : Cat.At _ g4 0 m.t p.t := ⟨Mem.of_get a5, e⟩
  obtain ⟨c8, c9, d2, d4, c5, d7, c0, b9, a9⟩ := l.get
  have c4 : MemN _ _ _ _ _ := ⟨rfl, l.1⟩
  have c3 := l.2
  obtain ⟨hk8, n1⟩ := hI
  refine .seq (fun K45 m9 => .seq (fun K46 i2 => .region (.mv rfl (.q rfl (.fieldAddr fo_32_1_B rfl) ?_))))
  refine .q rfl (.load on_22_B rfl (by first | assumption | exact Mem.of_get a4 1 _ rfl)) ?_
  refine .q rfl (.len sl_22_A rfl) (.q rfl (.cmp rfl rfl rfl) (.nil (i2 _ _ ?_)))
  refine .cond rfl (fun f5 => ?_) (fun f5 => ?_)
  ·
   simp only [sps] at f5
   have r2 := hS.z.b hS.s (a := a) (by omega)
   have r1 := a6.2 a (by omega)
   refine .skip ?_
   refine m9 _ _ (.seq (fun K47 i3 => ?_))
   refine .block ?_
   refine .seq (fun K48 i5 => .region (.mv rfl (.nil (i5 _ _ ?_))))
   refine .block ?_
   refine .loopR (σ := Nat) [(1, some _), (3, some _), (4, some _), (14, some _)] (fun b => [(15, some (.int .i64 (b : Int)))]) (fun b H' => St [] HL8 H' ∧ (b : Int) ≤ m.t.src.length ∧ ∀ b', b' < b → m.MixAt a b') (fun b => (m.t.src.length - b : Int).toNat) (0) ⟨rfl, rfl, rfl, rfl, trivial⟩ ⟨rfl, trivial⟩ ?_ ?_
   ·
    refine ⟨.refl _ _, ?_⟩
    exact ⟨by omega, fun _ _ => by omega⟩
   rintro b HL9 ⟨d9, hI⟩ KL9 i1
   refine .forget (fr' := [(15, some (.int .i64 (b : Int))), (1, some _), (3, some _), (4, some _), (14, some _)]) ⟨rfl, rfl, rfl, rfl, rfl, trivial⟩ ?_
   replace a3 := a3.st d9 (fun k hk => trivial)
   replace n := n.sA d9
   replace b8 := b8.sA d9
   replace v := d9.same _ _ trivial v
   replace a4 := d9.same _ _ trivial a4
   replace a5 := d9.same _ _ trivial a5
   replace hin := d.mono a3
   clear g r o u a0 w b5 a6 a7 b6 b2 a1 f a2 e
   have g : Prof.At _ g1 0 m p := ⟨Mem.of_get v, hin⟩
   obtain ⟨r, o, u, a0, w, b5, a6, a7⟩ := g.get
   have b6 : MemN _ _ _ _ _ := ⟨rfl, g.1⟩
   have b2 := g.2
   have a1 : MemN _ _ _ _ _ := ⟨rfl, r.1⟩
   have f := r.2
   have a2 : MemN _ _ _ _ _ := ⟨rfl, o.1⟩
   have e := o.2
   clear j c6 d3 d0 c7 d8 c1 d1 d6 b0 d5 c2
   have j : Cat.At _ g3 0 m.s p.s := ⟨Mem.of_get a4, f⟩
   obtain ⟨c6, d3, d0, c7, d8, c1, d1, d6, b0⟩ := j.get
   have d5 : MemN _ _ _ _ _ := ⟨rfl, j.1⟩
   have c2 := j.2
   clear l c8 c9 d2 d4 c5 d7 c0 b9 a9 c4 c3
   have l : Cat.At _ g4 0 m.t p.t := ⟨Mem.of_get a5, e⟩
   obtain ⟨c8, c9, d2, d4, c5, d7, c0, b9, a9⟩ := l.get
   have c4 : MemN _ _ _ _ _ := ⟨rfl, l.1⟩
   have c3 := l.2
   clear r1
   have r1 := a6.2 a (by omega)
   obtain ⟨hk9, n7⟩ := hI
   refine .seq (fun K49 h9 => .seq (fun K50 j3 => .region (.mv rfl (.q rfl (.fieldAddr fo_32_1_B rfl) ?_))))
   refine .q rfl (.load on_22_B rfl (by first | assumption | exact Mem.of_get a5 1 _ rfl)) ?_
   refine .q rfl (.len sl_22_A rfl) (.q rfl (.cmp rfl rfl rfl) (.nil (j3 _ _ ?_)))
   refine .cond rfl (fun f4 => ?_) (fun f4 => ?_)
   ·
    simp only [sps] at f4
    have t2 := hS.z.h hS.t (b := b) (by omega)
    have v1 := hS.by (a := a) (y := (m.t.src.getD b 0).toNat) (by omega) (by omega)
    have v2 := hS.by (a := a) (y := (m.t.tgt.getD b 0).toNat) (by omega) (by omega)
    have v3 := hS.hx (b := b) (x := (m.s.src.getD a 0).toNat) (by omega) (by omega)
    have v4 := hS.hx (b := b) (x := (m.s.tgt.getD a 0).toNat) (by omega) (by omega)
    have u1 : ∀ i, i < ((m.be.getD a []).getD (m.t.src.getD b 0).toNat []).length → 0 ≤ ((m.be.getD a []).getD (m.t.src.getD b 0).toNat []).getD i 0 ∧ ((m.be.getD a []).getD (m.t.src.getD b 0).toNat []).getD i 0 < ((m.bh.getD b []).getD (m.s.src.getD a 0).toNat []).length := fun i hi => by
      have := v1.2.2.2.2.1 i hi
      rw [← v3.2.2.2.2.1] at this
      exact this
    have u2 : ∀ i, i < ((m.bh.getD b []).getD (m.s.tgt.getD a 0).toNat []).length → 0 ≤ ((m.bh.getD b []).getD (m.s.tgt.getD a 0).toNat []).getD i 0 ∧ ((m.bh.getD b []).getD (m.s.tgt.getD a 0).toNat []).getD i 0 < ((m.be.getD a []).getD (m.t.tgt.getD b 0).toNat []).length := fun i hi => by
      have := v4.2.2.2.2.2.1 i hi
      rw [← v2.2.2.2.1] at this
      exact this
    have t1 := a7.2 b (by omega)
    have w1 := r1.2 (m.t.src.getD b 0).toNat (by omega)
    have w2 := r1.2 (m.t.tgt.getD b 0).toNat (by omega)
    have w3 := t1.2 (m.s.src.getD a 0).toNat (by omega)
    have w4 := t1.2 (m.s.tgt.getD a 0).toNat (by omega)
    refine .skip ?_
    refine h9 _ _ (.seq (fun K51 i8 => ?_))
    refine .block ?_
    refine .seq (fun K52 j5 => ?_)
    refine .regionD mo_B (.q 0 (.q 1 (.q 2 (.q 3 (.q 4 (.q 5 (.q 6 (.q 7 (.q 8 (.q 9 (.q 10 (.q 11 (.q 12 (.q 13 (.q 14 (.q 15 (.q 16 (.q 17 (.q 18 (.q 19 (.q 20 (.q 21 (.q 22 (.q 23 (.c 24 0 (.q 25 (.done))))))))))))))))))))))))))) (by kernel_rfl) ?_
    refine .q rfl (.fieldAddr fo_34_3_VProf rfl) ?_
    refine .q rfl (.load on_26_VProf rfl (by first | assumption | exact Mem.of_get v 11 _ rfl)) ?_
    refine .mv rfl rfl ?_
    refine .q rfl (.idxN sl_26_VZ (Intsss.sl (by assumption)) rfl rfl (by omega)) ?_
    refine .q rfl (.loadRR on_23_B (by assumption) rfl (by omega)) ?_
    refine .q rfl (.fieldAddr fo_32_1_B rfl) ?_
    refine .q rfl (.load on_22_B rfl (by first | assumption | exact Mem.of_get a5 1 _ rfl)) ?_
    refine .mv rfl rfl ?_
    refine .q rfl (.idxN sl_22_A (by assumption) rfl rfl (by omega)) ?_
    refine .q rfl (.loadI on_2_A (by assumption) rfl (by omega)) ?_
    refine .q rfl (.idx1 sl_23_B (Intss.sl (by assumption)) rfl rfl (by omega) (by omega)) ?_
    refine .q rfl (.loadR on_22_B (by assumption) rfl (by omega)) ?_
    refine .q rfl (.fieldAddr fo_34_4_VProf rfl) ?_
    refine .q rfl (.load on_26_VProf rfl (by first | assumption | exact Mem.of_get v 12 _ rfl)) ?_
    refine .mv rfl rfl ?_
    refine .q rfl (.idxN sl_26_VZ (Intsss.sl (by assumption)) rfl rfl (by omega)) ?_
    refine .q rfl (.loadRR on_23_B (by assumption) rfl (by omega)) ?_
    refine .q rfl (.fieldAddr fo_32_1_B rfl) ?_
    refine .q rfl (.load on_22_B rfl (by first | assumption | exact Mem.of_get a4 1 _ rfl)) ?_
    refine .mv rfl rfl ?_
    refine .q rfl (.idxN sl_22_A (by assumption) rfl rfl (by omega)) ?_
    refine .q rfl (.loadI on_2_A (by assumption) rfl (by omega)) ?_
    refine .q rfl (.idx1 sl_23_B (Intss.sl (by assumption)) rfl rfl (by omega) (by omega)) ?_
    refine .q rfl (.loadR on_22_B (by assumption) rfl (by omega)) ?_
    refine .call0 rfl rfl rfl rfl rfl @Try.call101 rfl (l01Then_c) ?_
    rintro _ H214 ⟨e2, g214, rfl, e5, ge214⟩
    replace a3 := a3.trans e2
    replace n := n.le e2
    replace b8 := b8.le e2
    replace d9 := d9.le e2
    replace v := e2.2 _ _ v
    replace a4 := e2.2 _ _ a4
    replace a5 := e2.2 _ _ a5
    have lt_at214 := GHeap.ltg e5
    replace hin := d.mono a3
    clear g r o u a0 w b5 a6 a7 b6 b2 a1 f a2 e
    have g : Prof.At _ g1 0 m p := ⟨Mem.of_get v, hin⟩
    obtain ⟨r, o, u, a0, w, b5, a6, a7⟩ := g.get
    have b6 : MemN _ _ _ _ _ := ⟨rfl, g.1⟩
    have b2 := g.2
    have a1 : MemN _ _ _ _ _ := ⟨rfl, r.1⟩
    have f := r.2
    have a2 : MemN _ _ _ _ _ := ⟨rfl, o.1⟩
    have e := o.2
    clear j c6 d3 d0 c7 d8 c1 d1 d6 b0 d5 c2
    have j : Cat.At _ g3 0 m.s p.s := ⟨Mem.of_get a4, f⟩
    obtain ⟨c6, d3, d0, c7, d8, c1, d1, d6, b0⟩ := j.get
    have d5 : MemN _ _ _ _ _ := ⟨rfl, j.1⟩
    have c2 := j.2
    clear l c8 c9 d2 d4 c5 d7 c0 b9 a9 c4 c3
    have l : Cat.At _ g4 0 m.t p.t := ⟨Mem.of_get a5, e⟩
    obtain ⟨c8, c9, d2, d4, c5, d7, c0, b9, a9⟩ := l.get
    have c4 : MemN _ _ _ _ _ := ⟨rfl, l.1⟩
    have c3 := l.2
    clear r1
    have r1 := a6.2 a (by omega)
    clear t1 w1 w2 w3 w4
    have t1 := a7.2 b (by omega)
    have w1 := r1.2 (m.t.src.getD b 0).toNat (by omega)
    have w2 := r1.2 (m.t.tgt.getD b 0).toNat (by omega)
    have w3 := t1.2 (m.s.src.getD a 0).toNat (by omega)
    have w4 := t1.2 (m.s.tgt.getD a 0).toNat (by omega)
    have g8 := Ints.of_get e5
    refine .mv rfl rfl ?_
    refine .done ?_
    refine j5 _ _ (.seq (fun K53 j4 => ?_))
    refine .regionD mo_B (.q 0 (.q 1 (.q 2 (.q 3 (.q 4 (.q 5 (.q 6 (.q 7 (.q 8 (.q 9 (.q 10 (.q 11 (.q 12 (.q 13 (.q 14 (.q 15 (.q 16 (.q 17 (.q 18 (.q 19 (.q 20 (.q 21 (.q 22 (.q 23 (.c 24 0 (.q 25 (.done))))))))))))))))))))))))))) (by kernel_rfl) ?_
    refine .q rfl (.fieldAddr fo_34_4_VProf rfl) ?_
    refine .q rfl (.load on_26_VProf rfl (by first | assumption | exact Mem.of_get v 12 _ rfl)) ?_
    refine .mv rfl rfl ?_
    refine .q rfl (.idxN sl_26_VZ (Intsss.sl (by assumption)) rfl rfl (by omega)) ?_
    refine .q rfl (.loadRR on_23_B (by assumption) rfl (by omega)) ?_
    refine .q rfl (.fieldAddr fo_32_2_B rfl) ?_
    refine .q rfl (.load on_22_B rfl (by first | assumption | exact Mem.of_get a4 2 _ rfl)) ?_
    refine .mv rfl rfl ?_
    refine .q rfl (.idxN sl_22_A (by assumption) rfl rfl (by omega)) ?_
    refine .q rfl (.loadI on_2_A (by assumption) rfl (by omega)) ?_
    refine .q rfl (.idx1 sl_23_B (Intss.sl (by assumption)) rfl rfl (by omega) (by omega)) ?_
    refine .q rfl (.loadR on_22_B (by assumption) rfl (by omega)) ?_
    refine .q rfl (.fieldAddr fo_34_3_VProf rfl) ?_
    refine .q rfl (.load on_26_VProf rfl (by first | assumption | exact Mem.of_get v 11 _ rfl)) ?_
    refine .mv rfl rfl ?_
    refine .q rfl (.idxN sl_26_VZ (Intsss.sl (by assumption)) rfl rfl (by omega)) ?_
    refine .q rfl (.loadRR on_23_B (by assumption) rfl (by omega)) ?_
    refine .q rfl (.fieldAddr fo_32_2_B rfl) ?_
    refine .q rfl (.load on_22_B rfl (by first | assumption | exact Mem.of_get a5 2 _ rfl)) ?_
    refine .mv rfl rfl ?_
    refine .q rfl (.idxN sl_22_A (by assumption) rfl rfl (by omega)) ?_
    refine .q rfl (.loadI on_2_A (by assumption) rfl (by omega)) ?_
    refine .q rfl (.idx1 sl_23_B (Intss.sl (by assumption)) rfl rfl (by omega) (by omega)) ?_
    refine .q rfl (.loadR on_22_B (by assumption) rfl (by omega)) ?_
    refine .call0 rfl rfl rfl rfl rfl @Try.call101 rfl (l01Then_c) ?_
    rintro _ H239 ⟨b3, g239, rfl, f1, ge239⟩
    replace a3 := a3.trans b3
    replace n := n.le b3
    replace b8 := b8.le b3
    replace d9 := d9.le b3
    replace v := b3.2 _ _ v
    replace a4 := b3.2 _ _ a4
    replace a5 := b3.2 _ _ a5
    replace e5 := b3.2 _ _ e5
    have lt_at239 := GHeap.ltg f1
    replace hin := d.mono a3
    clear g r o u a0 w b5 a6 a7 b6 b2 a1 f a2 e
    have g : Prof.At _ g1 0 m p := ⟨Mem.of_get v, hin⟩
    obtain ⟨r, o, u, a0, w, b5, a6, a7⟩ := g.get
    have b6 : MemN _ _ _ _ _ := ⟨rfl, g.1⟩
    have b2 := g.2
    have a1 : MemN _ _ _ _ _ := ⟨rfl, r.1⟩
    have f := r.2
    have a2 : MemN _ _ _ _ _ := ⟨rfl, o.1⟩
    have e := o.2
    clear j c6 d3 d0 c7 d8 c1 d1 d6 b0 d5 c2
    have j : Cat.At _ g3 0 m.s p.s := ⟨Mem.of_get a4, f⟩
    obtain ⟨c6, d3, d0, c7, d8, c1, d1, d6, b0⟩ := j.get
    have d5 : MemN _ _ _ _ _ := ⟨rfl, j.1⟩
    have c2 := j.2
    clear l c8 c9 d2 d4 c5 d7 c0 b9 a9 c4 c3
    have l : Cat.At _ g4 0 m.t p.t := ⟨Mem.of_get a5, e⟩
    obtain ⟨c8, c9, d2, d4, c5, d7, c0, b9, a9⟩ := l.get
    have c4 : MemN _ _ _ _ _ := ⟨rfl, l.1⟩
    have c3 := l.2
    clear r1
    have r1 := a6.2 a (by omega)
    clear t1 w1 w2 w3 w4
    have t1 := a7.2 b (by omega)
    have w1 := r1.2 (m.t.src.getD b 0).toNat (by omega)
    have w2 := r1.2 (m.t.tgt.getD b 0).toNat (by omega)
    have w3 := t1.2 (m.s.src.getD a 0).toNat (by omega)
    have w4 := t1.2 (m.s.tgt.getD a 0).toNat (by omega)
    clear g8
    have g8 := Ints.of_get e5
    have i239 := Ints.of_get f1
    refine .mv rfl rfl ?_
    refine .done ?_
    refine j4 _ _ (.seq (fun K54 j2 => .region (.mv rfl (.mv rfl ?_))))
    refine .callQ rfl rfl rfl rfl @Try.call60 rfl (l01Same_c (hx := by rw [length_thenL]; omega) (hy := by rw [length_thenL]; omega)) ?_
    refine .q rfl (.not rfl) (.nil (j2 _ _ ?_))
    refine .cond rfl (fun e9 => ?_) (fun e9 => ?_)
    ·
     try simp only [sps] at e9
     refine .seq (fun K55 h4 => .region (.mv rfl (.nil (h4 _ _ ?_))))
     refine .ret ?_
     refine e8 _ _ ?_
     refine ⟨_, rfl, ?_⟩
     exact ⟨congrArg _ (B_false fun hh => e9 (hh.2 a (by omega) b (by omega))), a3⟩
    try simp only [sps] at e9
    refine .skip ?_
    refine i8 _ _ (.region (.mv rfl ?_))
    refine .q rfl (.add rfl rfl rfl (by omega) (by omega)) ?_
    refine .mv rfl (.nil ?_)
    refine i1 (b + 1) _ _ ?_ ?_ ⟨rfl, rfl, rfl, rfl, rfl, trivial⟩
    ·
     refine ⟨d9, ?_⟩
     refine ⟨by omega, fun b' hx => ?_⟩
     by_cases hltq : b' < b
     · exact n7 b' hltq
     · obtain rfl : b' = b := by omega
       exact e9
    omega
   try simp only [sps] at f4
   refine .exit ?_
   refine i3 _ _ (.region (.mv rfl ?_))
   refine .q rfl (.add rfl rfl rfl (by omega) (by omega)) ?_
   refine .mv rfl (.nil ?_)
   refine k9 (a + 1) _ _ ?_ ?_ ⟨rfl, rfl, rfl, rfl, trivial⟩
   ·
    refine ⟨b8, ?_⟩
    refine ⟨by omega, fun a' hx => ?_⟩
    by_cases hltq : a' < a
    · exact n1 a' hltq
    · obtain rfl : a' = a := by omega
      exact fun b hb => n7 b (by omega)
   omega
  try simp only [sps] at f5
  refine .exit ?_
  refine l2 _ _ (.seq (fun K56 m7 => .region (.mv rfl (.nil (m7 _ _ ?_)))))
  refine .ret ?_
  refine e8 _ _ ?_
  refine ⟨_, rfl, ?_⟩
  exact ⟨congrArg _ (B_true ⟨⟨fun y hy x hx => (l0 y (by omega)).1 x (by omega), fun y hy a ha b hb => (l0 y (by omega)).2 a (by omega) b (by omega), fun x hx a ha b hb => n4 x (by omega) a (by omega) b (by omega)⟩, fun a ha b hb => n1 a (by omega) b (by omega)⟩), a3⟩
theorem l22Is_c {m : Prof} {p : ProfP} {H : GHeap} (hin : m.In H p := by assumption) (hs : m.Small := by assumption) :
    GCalls Try.prog 50 [.agg (m.cells p).toArray] H (Ret (.bool (B m.Is)) H) := by
  refine GCalls.ret rfl ?_
  have l := hs
  obtain ⟨w1, w2, _⟩ := l
  refine GCalls.body (N := 23) (rs := [.tmp 2]) Try.func50 rfl rfl rfl rfl (fun Qx a hend => ?_)
  refine .fg [0] rfl ?_
  have c := GHeap.Le.refl H
  have b := hin
  refine .seq (fun K1 n => .region ?_)
  refine .R rfl (.boxR rfl sz_34_VProf rfl) ?_
  rintro _ H1 ⟨g1, rfl, o, ge1, f⟩
  replace c := c.trans o
  replace hin := b.mono c
  have k : Prof.At _ g1 0 m p := ⟨Mem.of_get f, hin⟩
  obtain ⟨j, i, -, -, -, -, -, -⟩ := k.get
  have hi1 := k.2
  have hms1 : MemN _ _ _ _ _ := ⟨rfl, j.1⟩
  have his1 := j.2
  have hmt1 : MemN _ _ _ _ _ := ⟨rfl, i.1⟩
  have hit1 := i.2
  refine .mv rfl (.nil (n _ _ (.seq (fun K2 d => .region (.q rfl (.fieldAddr fo_34_0_VProf rfl) ?_)))))
  refine .q rfl (.loadM ag_32_D rfl (by assumption)) ?_
  refine .callQ rfl rfl rfl rfl @Try.call74 rfl (l02Is_c) ?_
  refine .mv rfl ?_
  refine .split (fun h6 => ?_) (fun h6 => ?_)
  ·
   try simp only [sps] at h6
   refine .qg rfl (.fieldAddr fo_34_1_VProf rfl) ?_
   refine .qg rfl (.loadM ag_32_D rfl (by assumption)) ?_
   refine .callQg rfl rfl rfl rfl rfl rfl @Try.call74 rfl (l02Is_c) ?_
   refine .q rfl (.pickT rfl rfl) (.mv rfl ?_)
   refine .split (fun g => ?_) (fun g => ?_)
   ·
    try simp only [sps] at g
    refine .qg rfl (.loadM ag_34_VProf rfl ⟨rfl, Mem.of_get f⟩) ?_
    refine .callQg rfl rfl rfl rfl rfl rfl @Try.call75 rfl (l22Sized_c) ?_
    refine .q rfl (.pickT rfl rfl) (.mv rfl ?_)
    refine .split (fun h => ?_) (fun h => ?_)
    ·
     try simp only [sps] at h
     refine .qg rfl (.loadM ag_34_VProf rfl ⟨rfl, Mem.of_get f⟩) ?_
     refine .callQg rfl rfl rfl rfl rfl rfl @Try.call76 rfl (l22Maps_c) ?_
     refine .q rfl (.pickT rfl rfl) (.mv rfl ?_)
     refine .split (fun e => ?_) (fun e => ?_)
     ·
      simp only [sps] at e
      have hS : m.Shape := ⟨h6, g, h, e⟩
      refine .qg rfl (.loadM ag_34_VProf rfl ⟨rfl, Mem.of_get f⟩) ?_
      refine .callQg rfl rfl rfl rfl rfl rfl @Try.call77 rfl (l22Laws_c) ?_
      refine .q rfl (.pickT rfl rfl) (.mv rfl (.nil (d _ _ ?_)))
      refine .ret ?_
      refine a _ _ ?_
      refine ⟨_, rfl, ?_⟩
      exact ⟨congrArg _ (B_congr ⟨fun hh => ⟨hh.2.1, hh.2.2⟩, fun hh => ⟨hS, hh.1, hh.2⟩⟩), c⟩
     try simp only [sps] at e
     refine .z rfl (.z rfl (.q rfl (.pickF rfl rfl) (.mv rfl (.nil (d _ _ ?_)))))
     refine .ret ?_
     refine a _ _ ?_
     refine ⟨_, rfl, ?_⟩
     exact ⟨congrArg _ (B_false fun hh => absurd hh.1.ok (by assumption)), c⟩
    try simp only [sps] at h
    refine .z rfl (.z rfl (.q rfl (.pickF rfl rfl) (.mv rfl (.z rfl (.z rfl (.q rfl (.pickF rfl rfl) (.mv rfl (.nil (d _ _ ?_)))))))))
    refine .ret ?_
    refine a _ _ ?_
    refine ⟨_, rfl, ?_⟩
    exact ⟨congrArg _ (B_false fun hh => absurd hh.1.z (by assumption)), c⟩
   try simp only [sps] at g
   refine .z rfl (.z rfl (.q rfl (.pickF rfl rfl) (.mv rfl (.z rfl (.z rfl (.q rfl (.pickF rfl rfl) (.mv rfl (.z rfl (.z rfl (.q rfl (.pickF rfl rfl) (.mv rfl (.nil (d _ _ ?_)))))))))))))
   refine .ret ?_
   refine a _ _ ?_
   refine ⟨_, rfl, ?_⟩
   exact ⟨congrArg _ (B_false fun hh => absurd hh.1.t (by assumption)), c⟩
  try simp only [sps] at h6
  refine .z rfl (.z rfl (.z rfl (.q rfl (.pickF rfl rfl) (.mv rfl (.z rfl (.z rfl (.q rfl (.pickF rfl rfl) (.mv rfl (.z rfl (.z rfl (.q rfl (.pickF rfl rfl) (.mv rfl (.z rfl (.z rfl (.q rfl (.pickF rfl rfl) ?_)))))))))))))))
  refine .mv rfl (.nil (d _ _ ?_))
  refine .ret ?_
  refine a _ _ ?_
  refine ⟨_, rfl, ?_⟩
  exact ⟨congrArg _ (B_false fun hh => absurd hh.1.s (by assumption)), c⟩
end Go.Proofs.Ytdfnfdellpfjhaa
