/- Products of categories; characteristics of sums and products; a small poset. No condition. -/
import Derived.Test.YtfanjkbaemhbmaaZ8
namespace Go.GL
open Go.RowKit
theorem pair_inj {a a' b b' k : Int} (h0 : 0 ≤ b) (h1 : b < k) (h0' : 0 ≤ b') (h1' : b' < k) (e : a * k + b = a' * k + b') : a = a' ∧ b = b' := by
  have q : ∀ a b : Int, 0 ≤ b → b < k → (a * k + b) / k = a := fun a b x y => by rw [Int.add_comm, Int.add_mul_ediv_right _ _ (by omega), Int.ediv_eq_zero_of_lt x y]; omega
  have q1 : a = a' := by rw [← q a b h0 h1, e, q a' b' h0' h1']
  subst q1
  exact ⟨rfl, by omega⟩
theorem pr_ind {P : Nat → Prop} {m n : Nat} (h : ∀ a b, a < n → b < m → P (a * m + b)) : ∀ i, i < n * m → P i := fun i hi => by
  have hm : 0 < m := Nat.pos_of_ne_zero (by rintro rfl; simp at hi)
  have := h (i / m) (i % m) (Nat.div_lt_of_lt_mul (by rw [Nat.mul_comm]; exact hi)) (Nat.mod_lt _ hm)
  rwa [Nat.mul_comm, Nat.div_add_mod] at this
theorem pr_lt {a b m n : Nat} (ha : a < n) (hb : b < m) : a * m + b < n * m := by
  have h1 : (a + 1) * m ≤ n * m := Nat.mul_le_mul_right m ha
  rw [Nat.succ_mul] at h1
  omega
theorem pr_nat {x y : Int} {m : Nat} (hx : 0 ≤ x) (hy : 0 ≤ y) : x * m + y = ((x.toNat * m + y.toNat : Nat) : Int) := by
  rw [Int.natCast_add, Int.natCast_mul, Int.toNat_of_nonneg hx, Int.toNat_of_nonneg hy]
theorem pr_bd {x y : Int} {n m : Nat} (hx : 0 ≤ x) (hx' : x < n) (hy : 0 ≤ y) (hy' : y < m) : 0 ≤ x * m + y ∧ x * m + y < (n * m : Nat) := by
  rw [pr_nat hx hy]
  have := pr_lt (a := x.toNat) (b := y.toNat) (n := n) (m := m) (by omega) (by omega)
  omega
def Cat.prL (xs ys : List Int) (k : Int) (n : Nat) : List Int := (List.range n).map fun i => xs.getD (i / ys.length) 0 * k + ys.getD (i % ys.length) 0
@[simp] theorem Cat.prL_len (xs ys : List Int) (k : Int) (n : Nat) : (Cat.prL xs ys k n).length = n := by simp [Cat.prL]
theorem Cat.prL_succ (xs ys : List Int) (k : Int) (n : Nat) : Cat.prL xs ys k (n + 1) = Cat.prL xs ys k n ++ [xs.getD (n / ys.length) 0 * k + ys.getD (n % ys.length) 0] := range_succ_map
theorem Cat.prL_get {xs ys : List Int} {k : Int} {n a b : Nat} (h : a * ys.length + b < n) (hb : b < ys.length) : (Cat.prL xs ys k n).getD (a * ys.length + b) 0 = xs.getD a 0 * k + ys.getD b 0 := by
  unfold Cat.prL
  rw [List.getD_eq_getElem?_getD, List.getElem?_map, List.getElem?_range h]
  show xs.getD ((a * ys.length + b) / ys.length) 0 * k + ys.getD ((a * ys.length + b) % ys.length) 0 = _
  rw [div_of hb, mod_of hb]
def Cat.prX (c d : Cat) (i j : Nat) : Int := (c.comp.getD (i / d.src.length) []).getD (j / d.src.length) 0 * d.src.length + (d.comp.getD (i % d.src.length) []).getD (j % d.src.length) 0
def Cat.prY (c d : Cat) (i j : Nat) : Nat := c.tn (i / d.src.length) (j / d.src.length) * d.src.length + d.tn (i % d.src.length) (j % d.src.length)
def Cat.prd (c d : Cat) : Cat := Cat.tab (c.obj * d.obj) (Cat.prL c.src d.src d.obj (c.src.length * d.src.length)) (Cat.prL c.tgt d.tgt d.obj (c.src.length * d.src.length)) (Cat.prL c.idn d.idn d.src.length (c.idn.length * d.idn.length)) (c.prX d)
theorem Cat.prY_at {c d : Cat} {a b a' b' : Nat} (hb : b < d.src.length) (hb' : b' < d.src.length) : c.prY d (a * d.src.length + b) (a' * d.src.length + b') = c.tn a a' * d.src.length + d.tn b b' := by
  unfold Cat.prY; rw [div_of hb, div_of hb', mod_of hb, mod_of hb']
theorem Cat.prX_at {c d : Cat} {a b a' b' : Nat} (hb : b < d.src.length) (hb' : b' < d.src.length) : c.prX d (a * d.src.length + b) (a' * d.src.length + b') = (c.comp.getD a []).getD a' 0 * d.src.length + (d.comp.getD b []).getD b' 0 := by
  unfold Cat.prX; rw [div_of hb, div_of hb', mod_of hb, mod_of hb']
section
variable {c d : Cat}
theorem Cat.prd_len : (c.prd d).src.length = c.src.length * d.src.length := Cat.prL_len ..
theorem Cat.prd_S {a b : Nat} (ha : a < c.src.length) (hb : b < d.src.length) : (c.prd d).src.getD (a * d.src.length + b) 0 = c.src.getD a 0 * d.obj + d.src.getD b 0 := Cat.prL_get (pr_lt ha hb) hb
theorem Cat.prd_T (hd : d.tgt.length = d.src.length) {a b : Nat} (ha : a < c.src.length) (hb : b < d.src.length) : (c.prd d).tgt.getD (a * d.src.length + b) 0 = c.tgt.getD a 0 * d.obj + d.tgt.getD b 0 := by
  rw [← hd] at hb ⊢
  exact Cat.prL_get (by rw [← hd]; exact pr_lt ha hb) hb
theorem Cat.prd_I {x y : Nat} (hx : x < c.idn.length) (hy : y < d.idn.length) : (c.prd d).idn.getD (x * d.idn.length + y) 0 = c.idn.getD x 0 * d.src.length + d.idn.getD y 0 := Cat.prL_get (pr_lt hx hy) hy
theorem Cat.prd_meet (sc : c.Shape) (sd : d.Shape) {a b a' b' : Nat} (hb : b < d.src.length) (hb' : b' < d.src.length) (e : c.tgt.getD a 0 * d.obj + d.tgt.getD b 0 = c.src.getD a' 0 * d.obj + d.src.getD b' 0) :
    c.tgt.getD a 0 = c.src.getD a' 0 ∧ d.tgt.getD b 0 = d.src.getD b' 0 := by
  have t := sd.tgt b (by have := sd.tl; omega)
  have s := sd.src b' hb'
  exact pair_inj t.1 t.2 s.1 s.2 e
theorem Cat.prd_is (hc : c.Is) (hd : d.Is) (ho : c.obj * d.obj ≤ 8) (hn : c.src.length * d.src.length ≤ 40) : (c.prd d).Is := by
  obtain ⟨sc, lc⟩ := hc
  obtain ⟨sd, ld⟩ := hd
  have tc := sc.tl
  have td := sd.tl
  have ic := sc.il
  have id := sd.il
  have oc := sc.obj
  have od := sd.obj
  have L : (Cat.prL c.src d.src d.obj (c.src.length * d.src.length)).length = c.src.length * d.src.length := Cat.prL_len ..
  have LI : (Cat.prL c.idn d.idn d.src.length (c.idn.length * d.idn.length)).length = c.idn.length * d.idn.length := Cat.prL_len ..
  have S : ∀ a b, a < c.src.length → b < d.src.length → (Cat.prL c.src d.src d.obj (c.src.length * d.src.length)).getD (a * d.src.length + b) 0 = c.src.getD a 0 * d.obj + d.src.getD b 0 := fun a b ha hb => Cat.prd_S (c := c) ha hb
  have T : ∀ a b, a < c.src.length → b < d.src.length → (Cat.prL c.tgt d.tgt d.obj (c.src.length * d.src.length)).getD (a * d.src.length + b) 0 = c.tgt.getD a 0 * d.obj + d.tgt.getD b 0 := fun a b ha hb => Cat.prd_T (c := c) td ha hb
  have I : ∀ x y, x < c.idn.length → y < d.idn.length → (Cat.prL c.idn d.idn d.src.length (c.idn.length * d.idn.length)).getD (x * d.idn.length + y) 0 = c.idn.getD x 0 * d.src.length + d.idn.getD y 0 := fun x y hx hy => Cat.prd_I (c := c) hx hy
  have eo : c.obj * d.obj = ((c.idn.length * d.idn.length : Nat) : Int) := by rw [Int.natCast_mul, ic, id]
  refine Cat.tab_is (c.prY d) ⟨by rw [eo]; omega, ho⟩ (by rw [L]; exact hn) (by rw [Cat.prL_len, Cat.prL_len]) ?_ ?_ (by rw [LI, eo]) ?_ ?_ (fun f g hf hg => ?_) ?_ (fun f g h hf hg hh => ?_)
  · rw [L]
    refine pr_ind fun a b ha hb => ?_
    rw [S a b ha hb, eo, ← id]
    have := sc.src a ha
    have := sd.src b hb
    exact pr_bd (by omega) (by omega) (by omega) (by omega)
  · rw [L]
    refine pr_ind fun a b ha hb => ?_
    rw [T a b ha hb, eo, ← id]
    have := sc.tgt a (by omega)
    have := sd.tgt b (by omega)
    exact pr_bd (by omega) (by omega) (by omega) (by omega)
  · rw [LI]
    refine pr_ind fun x y hx hy => ?_
    rw [I x y hx hy, L]
    have := sc.idn x hx
    have := sd.idn y hy
    exact pr_bd (by omega) (by omega) (by omega) (by omega)
  · rw [LI]
    refine pr_ind fun x y hx hy => ?_
    have h1 := sc.idn x hx
    have h2 := sd.idn y hy
    have h3 := sc.ids x hx
    have h4 := sd.ids y hy
    rw [I x y hx hy, pr_nat h1.1 h2.1, Int.toNat_natCast, S _ _ (by omega) (by omega), T _ _ (by omega) (by omega), h3.1, h3.2, h4.1, h4.2, ← id, Int.natCast_add, Int.natCast_mul]
    exact ⟨rfl, rfl⟩
  · rw [L] at hf hg ⊢
    revert f
    refine pr_ind fun a b ha hb => ?_
    revert g
    refine pr_ind fun a' b' ha' hb' => ?_
    rw [T a b ha hb, S a' b' ha' hb', T a' b' ha' hb', S a b ha hb]
    intro e
    obtain ⟨e1, e2⟩ := Cat.prd_meet sc sd hb hb' e
    obtain ⟨p1, p2, p3, p4⟩ := sc.tn ha ha' e1
    obtain ⟨q1, q2, q3, q4⟩ := sd.tn hb hb' e2
    rw [Cat.prX_at hb hb', Cat.prY_at hb hb', S _ _ p1 q1, T _ _ p1 q1, p2, p3, q2, q3, p4, q4, Int.natCast_add, Int.natCast_mul]
    exact ⟨rfl, pr_lt p1 q1, rfl, rfl⟩
  · rw [L]
    refine pr_ind fun a b ha hb => ?_
    have s1 := sc.src a ha
    have t1 := sc.tgt a (by omega)
    have s2 := sd.src b hb
    have t2 := sd.tgt b (by omega)
    have i1 := sc.idn_lt s1.1 s1.2
    have i2 := sc.idn_lt t1.1 t1.2
    have i3 := sd.idn_lt s2.1 s2.2
    have i4 := sd.idn_lt t2.1 t2.2
    rw [S a b ha hb, T a b ha hb, ← id, pr_nat s1.1 s2.1, pr_nat t1.1 t2.1, Int.toNat_natCast, Int.toNat_natCast, I _ _ (by omega) (by omega), I _ _ (by omega) (by omega), pr_nat i1.1 i3.1, pr_nat i2.1 i4.1, Int.toNat_natCast, Int.toNat_natCast, Cat.prY_at (by omega) hb, Cat.prY_at hb (by omega)]
    have q := lc.ids a ha
    have q' := ld.ids b hb
    unfold Cat.tn
    have q1 := q.1
    have q2 := q.2
    have q3 := q'.1
    have q4 := q'.2
    simp only [Cat.th, Int.toNat_natCast] at q1 q2 q3 q4
    rw [q1, q2, q3, q4]
    exact ⟨rfl, rfl⟩
  · rw [L] at hf hg hh
    revert f
    refine pr_ind fun a b ha hb => ?_
    revert g
    refine pr_ind fun a' b' ha' hb' => ?_
    revert h
    refine pr_ind fun u v hu hv => ?_
    rw [T a b ha hb, S a' b' ha' hb', T a' b' ha' hb', S u v hu hv]
    intro e e'
    obtain ⟨e1, e2⟩ := Cat.prd_meet sc sd hb hb' e
    obtain ⟨e3, e4⟩ := Cat.prd_meet sc sd hb' hv e'
    obtain ⟨p1, p2, p3, p4⟩ := sc.tn ha ha' e1
    obtain ⟨q1, q2, q3, q4⟩ := sd.tn hb hb' e2
    obtain ⟨r1, r2, r3, r4⟩ := sc.tn ha' hu e3
    obtain ⟨w1, w2, w3, w4⟩ := sd.tn hb' hv e4
    rw [Cat.prY_at hb hb', Cat.prY_at hb' hv, Cat.prY_at q1 hv, Cat.prY_at hb w1]
    have x := lc.as a ha a' ha' e1 u hu e3
    have y := ld.as b hb b' hb' e2 v hv e4
    simp only [Cat.th, Int.toNat_natCast] at x y
    unfold Cat.tn at p4 q4 r4 w4 ⊢
    rw [p4, r4] at x
    rw [q4, w4] at y
    simp only [Int.toNat_natCast] at x y
    rw [x, y]

theorem Cat.mv_pls1 (sc : c.Shape) {i : Nat} (h : i < c.src.length) : (c.pls d).mv i = c.mv i := by
  have s1 := sc.src i h
  have il := sc.il
  unfold Cat.mv
  rw [Cat.pls_S1 h, Cat.pls_I1 (by omega)]
theorem Cat.mv_pls2 (sc : c.Shape) (sd : d.Shape) {i : Nat} (h : i < d.src.length) : (c.pls d).mv (c.src.length + i) = d.mv i := by
  have s1 := sd.src i h
  have il := sd.il
  have ic := sc.il
  have oc := sc.obj
  rw [show (c.pls d).mv (c.src.length + i) = !decide ((c.pls d).idn.getD ((c.pls d).src.getD (c.src.length + i) 0).toNat 0 = ((c.src.length + i : Nat) : Int)) from rfl, Cat.pls_S2 h, show (c.obj + d.src.getD i 0).toNat = c.idn.length + (d.src.getD i 0).toNat by omega, Cat.pls_I2 (by omega)]
  unfold Cat.mv
  congr 1
  exact decide_eq_decide.2 (by omega)
theorem Cat.wk_pls (sc : c.Shape) (sd : d.Shape) : ∀ k, (∀ y : Nat, (y : Int) < c.obj → (c.pls d).wk (c.pls d).mv k y = c.wk c.mv k y) ∧ ∀ y : Nat, (y : Int) < d.obj → (c.pls d).wk (c.pls d).mv k (c.idn.length + y) = d.wk d.mv k y
  | 0 => ⟨fun _ _ => rfl, fun _ _ => rfl⟩
  | k + 1 => by
    obtain ⟨h1, h2⟩ := Cat.wk_pls sc sd k
    have tc := sc.tl
    have td := sd.tl
    have ic := sc.il
    have oc := sc.obj
    have key : ∀ y, (c.pls d).wk (c.pls d).mv (k + 1) y = sumN ((c.pls d).wkt (c.pls d).mv ((c.pls d).wk (c.pls d).mv k) y) c.src.length + sumN (fun i => (c.pls d).wkt (c.pls d).mv ((c.pls d).wk (c.pls d).mv k) y (c.src.length + i)) d.src.length := fun y => by
      show sumN _ (c.pls d).src.length = _
      rw [Cat.pls_len, sumN_split]
    constructor
    · intro y hy
      rw [key, sumN_zero (n := d.src.length) fun i hi => ?_]
      · rw [Int.add_zero]
        refine sumN_congr fun i hi => ?_
        have s1 := sc.src i hi
        unfold Cat.wkt
        rw [Cat.mv_pls1 sc hi, Cat.pls_T1 tc hi, Cat.pls_S1 hi, h1 _ (by omega)]
      · have t1 := sd.tgt i (by omega)
        unfold Cat.wkt
        rw [Cat.pls_T2 tc td hi]
        exact if_neg fun q => by omega
    · intro y hy
      rw [key, sumN_zero (n := c.src.length) fun i hi => ?_]
      · rw [Int.zero_add]
        refine sumN_congr fun i hi => ?_
        have s1 := sd.src i hi
        have t1 := sd.tgt i (by omega)
        unfold Cat.wkt
        rw [Cat.mv_pls2 sc sd hi, Cat.pls_T2 tc td hi, Cat.pls_S2 hi, show (c.obj + d.src.getD i 0).toNat = c.idn.length + (d.src.getD i 0).toNat by omega, h2 _ (by omega)]
        by_cases e : d.mv i = true ∧ d.tgt.getD i 0 = (y : Int)
        · rw [if_pos e, if_pos ⟨e.1, by rw [e.2]; omega⟩]
        · rw [if_neg e, if_neg fun q => e ⟨q.1, by omega⟩]
      · have t1 := sc.tgt i (by omega)
        unfold Cat.wkt
        rw [Cat.pls_T1 tc hi]
        exact if_neg fun q => by omega
theorem Cat.nc_pls (sc : c.Shape) (sd : d.Shape) (k : Nat) : (c.pls d).nc (c.pls d).mv k = c.nc c.mv k + d.nc d.mv k := by
  have ic := sc.il
  have oc := sc.obj
  have od := sd.obj
  obtain ⟨h1, h2⟩ := Cat.wk_pls sc sd k
  unfold Cat.nc
  rw [show (c.pls d).obj.toNat = c.obj.toNat + d.obj.toNat by show (c.obj + d.obj).toNat = _; omega, sumN_split]
  congr 1
  · exact sumN_congr fun y hy => h1 y (by omega)
  · exact sumN_congr fun y hy => by rw [show c.obj.toNat + y = c.idn.length + y by omega]; exact h2 y (by omega)
theorem Cat.chi_pls (sc : c.Shape) (sd : d.Shape) (k : Nat) : (c.pls d).chi k = c.chi k + d.chi k := by
  unfold Cat.chi
  rw [← sumN_add]
  exact sumN_congr fun i _ => by rw [Cat.nc_pls sc sd, Int.mul_add]
theorem Cat.wk_go {x : Nat} {k a : Nat} (ha : a < c.src.length) (hm : c.mv a = true) (ht : c.tgt.getD a 0 = (x : Int)) (h : c.wk c.mv k (c.src.getD a 0).toNat ≠ 0) : c.wk c.mv (k + 1) x ≠ 0 := fun e => by
  have := sumN_each (fun i _ => Cat.wkt_nn (c.wk_nn c.mv k) x i) (Int.le_of_eq e) a ha
  unfold Cat.wkt at this
  rw [if_pos ⟨hm, ht⟩] at this
  exact h this
theorem Cat.mv_prd (sc : c.Shape) (sd : d.Shape) {a b : Nat} (ha : a < c.src.length) (hb : b < d.src.length) (h : (c.prd d).mv (a * d.src.length + b) = true) : c.mv a = true ∨ d.mv b = true := by
  have s1 := sc.src a ha
  have s2 := sd.src b hb
  have ic := sc.il
  have id := sd.il
  cases h1 : c.mv a
  · cases h2 : d.mv b
    · refine absurd h ?_
      have e1 := Cat.mv_iff.1 h1
      have e2 := Cat.mv_iff.1 h2
      rw [Cat.mv_F (c := c.prd d) (by rw [Cat.prd_S ha hb, ← id, pr_nat s1.1 s2.1, Int.toNat_natCast, Cat.prd_I (by omega) (by omega), e1, e2, Int.natCast_add, Int.natCast_mul])]
      exact Bool.false_ne_true
    · exact .inr rfl
  · exact .inl rfl
theorem Cat.wk_prd (sc : c.Shape) (sd : d.Shape) : ∀ k x y : Nat, (x : Int) < c.obj → (y : Int) < d.obj → (c.prd d).wk (c.prd d).mv k (x * d.idn.length + y) ≠ 0 → ∃ i j, k ≤ i + j ∧ c.wk c.mv i x ≠ 0 ∧ d.wk d.mv j y ≠ 0
  | 0, x, y, _, _, _ => ⟨0, 0, Nat.le_refl _, by show (1 : Int) ≠ 0; omega, by show (1 : Int) ≠ 0; omega⟩
  | k + 1, x, y, hx, hy, h => by
    obtain ⟨i, hi, ht⟩ := sumN_pos h
    rw [Cat.prd_len] at hi
    revert i
    refine pr_ind fun a b ha hb => ?_
    intro ht
    have id := sd.il
    have s1 := sc.src a ha
    have s2 := sd.src b hb
    have t1 := sc.tgt a (by have := sc.tl; omega)
    have t2 := sd.tgt b (by have := sd.tl; omega)
    unfold Cat.wkt at ht
    split at ht
    · next q =>
      rw [Cat.prd_T sd.tl ha hb, Int.natCast_add, Int.natCast_mul, id] at q
      obtain ⟨e1, e2⟩ := pair_inj t2.1 t2.2 (by omega) hy q.2
      rw [Cat.prd_S ha hb, ← id, pr_nat s1.1 s2.1, Int.toNat_natCast] at ht
      obtain ⟨i, j, hij, h1, h2⟩ := Cat.wk_prd sc sd k _ _ (by omega) (by omega) ht
      cases m1 : c.mv a
      · have m2 : d.mv b = true := (Cat.mv_prd sc sd ha hb q.1).resolve_left (by rw [m1]; exact Bool.false_ne_true)
        have f1 := Cat.mv_iff.1 m1
        have f2 := sc.ids (c.src.getD a 0).toNat (by have := sc.il; omega)
        rw [f1, Int.toNat_natCast, e1, Int.toNat_of_nonneg s1.1] at f2
        refine ⟨i, j + 1, by omega, ?_, Cat.wk_go hb m2 e2 h2⟩
        rw [show x = (c.src.getD a 0).toNat by omega]
        exact h1
      · cases m2 : d.mv b
        · have f1 := Cat.mv_iff.1 m2
          have f2 := sd.ids (d.src.getD b 0).toNat (by have := sd.il; omega)
          rw [f1, Int.toNat_natCast, e2, Int.toNat_of_nonneg s2.1] at f2
          refine ⟨i + 1, j, by omega, Cat.wk_go ha m1 e1 h1, ?_⟩
          rw [show y = (d.src.getD b 0).toNat by omega]
          exact h2
        · exact ⟨i + 1, j + 1, by omega, Cat.wk_go ha m1 e1 h1, Cat.wk_go hb m2 e2 h2⟩
    · exact absurd rfl ht
theorem Cat.prd_obj (sc : c.Shape) (sd : d.Shape) : (c.prd d).obj = ((c.idn.length * d.idn.length : Nat) : Int) := by
  show c.obj * d.obj = _
  rw [Int.natCast_mul, sc.il, sd.il]
theorem Cat.Nil.prd (sc : c.Shape) (sd : d.Shape) {m n : Nat} (h1 : c.Nil m) (h2 : d.Nil n) : (c.prd d).Nil (m + n) := by
  have hi : ∀ z, z < c.idn.length * d.idn.length → (c.prd d).wk (c.prd d).mv (m + n) z = 0 := pr_ind fun x y hx hy => by
    refine Classical.byContradiction fun e => ?_
    have ic := sc.il
    have id := sd.il
    obtain ⟨i, j, hij, e1, e2⟩ := Cat.wk_prd sc sd (m + n) x y (by omega) (by omega) e
    by_cases q : m ≤ i
    · exact e1 (h1.ge sc i q x (by omega))
    · exact e2 (h2.ge sd j (by omega) y (by omega))
  intro z hz
  rw [Cat.prd_obj sc sd] at hz
  exact hi z (by omega)
theorem Cat.chi_prd (hc : c.Is) (hd : d.Is) (ho : c.obj * d.obj ≤ 8) (hn : c.src.length * d.src.length ≤ 40) {m n : Nat} (h1 : c.Nil m) (h2 : d.Nil n) : (c.prd d).chi (m + n) = c.chi m * d.chi n := by
  have sp := (Cat.prd_is hc hd ho hn).1
  have sc := hc.1
  have sd := hd.1
  have tc := sc.tl
  have td := sd.tl
  have ic := sc.il
  have id := sd.il
  have w1 := fun (y : Nat) (hy : (y : Int) < c.obj) => (h1.op sc).cow sc.op (y := y) hy
  have w2 := fun (y : Nat) (hy : (y : Int) < d.obj) => (h2.op sd).cow sd.op (y := y) hy
  have l1 : c.op.src.length = c.src.length := tc
  have l2 : d.op.src.length = d.src.length := td
  rw [l1] at w1
  rw [l2] at w2
  have hr := Cat.Nil.sum sp (h1.prd sc sd h2) (r := fun z => c.op.uw m (z / d.idn.length) * d.op.uw n (z % d.idn.length)) ?_
  · rw [← hr, Cat.prd_obj sc sd, Int.toNat_natCast, sumN_prod (fun x y => c.op.uw m x * d.op.uw n y), ← Cat.chi_op sc, ← Cat.chi_op sd, c.op.chi_uw, d.op.chi_uw,
      show c.op.obj.toNat = c.idn.length by show c.obj.toNat = _; omega, show d.op.obj.toNat = d.idn.length by show d.obj.toNat = _; omega, ← sumN_mul]
    exact sumN_congr fun x _ => sumN_mulL _ _ _
  · have hi : ∀ z, z < c.idn.length * d.idn.length → (c.prd d).op.wkp (c.prd d).any (fun z => c.op.uw m (z / d.idn.length) * d.op.uw n (z % d.idn.length)) (c.prd d).src.length z = 1 := pr_ind fun x y hx hy => by
      have a1 := w1 x (by omega)
      have a2 := w2 y (by omega)
      have e : ∀ i, i < c.src.length * d.src.length → (c.prd d).op.wkt (c.prd d).any (fun z => c.op.uw m (z / d.idn.length) * d.op.uw n (z % d.idn.length)) (x * d.idn.length + y) i = (fun a b => c.op.wkt c.any (c.op.uw m) x a * d.op.wkt d.any (d.op.uw n) y b) (i / d.src.length) (i % d.src.length) := pr_ind fun a b ha hb => by
        have s1 := sc.src a ha
        have s2 := sd.src b hb
        have t1 := sc.tgt a (by omega)
        have t2 := sd.tgt b (by omega)
        rw [div_of hb, mod_of hb]
        show (if (c.prd d).any _ = true ∧ (c.prd d).src.getD (a * d.src.length + b) 0 = ((x * d.idn.length + y : Nat) : Int) then (fun z => c.op.uw m (z / d.idn.length) * d.op.uw n (z % d.idn.length)) ((c.prd d).tgt.getD (a * d.src.length + b) 0).toNat else 0) = (if c.any a = true ∧ c.src.getD a 0 = (x : Int) then c.op.uw m (c.tgt.getD a 0).toNat else 0) * (if d.any b = true ∧ d.src.getD b 0 = (y : Int) then d.op.uw n (d.tgt.getD b 0).toNat else 0)
        rw [Cat.prd_S ha hb, Cat.prd_T td ha hb, ← id, pr_nat t1.1 t2.1, Int.toNat_natCast, Int.natCast_add, Int.natCast_mul]
        by_cases e1 : c.src.getD a 0 = (x : Int)
        · by_cases e2 : d.src.getD b 0 = (y : Int)
          · refine (if_pos ⟨rfl, by rw [e1, e2]⟩).trans (Eq.symm ?_)
            rw [if_pos ⟨rfl, e1⟩, if_pos ⟨rfl, e2⟩]
            show _ = c.op.uw m (_ / _) * d.op.uw n (_ % _)
            rw [div_of (by omega), mod_of (by omega)]
          · refine (if_neg fun q => e2 (pair_inj s2.1 (by omega) (by omega) (by omega) q.2).2).trans (Eq.symm ?_)
            rw [if_neg (c := d.any b = true ∧ d.src.getD b 0 = (y : Int)) fun q => e2 q.2, Int.mul_zero]
        · refine (if_neg fun q => e1 (pair_inj s2.1 (by omega) (by omega) (by omega) q.2).1).trans (Eq.symm ?_)
          rw [if_neg (c := c.any a = true ∧ c.src.getD a 0 = (x : Int)) fun q => e1 q.2, Int.zero_mul]
      show sumN _ (c.prd d).src.length = 1
      rw [Cat.prd_len, sumN_congr e, sumN_prod (fun a b => c.op.wkt c.any (c.op.uw m) x a * d.op.wkt d.any (d.op.uw n) y b)]
      have b2 : ∀ a, sumN (fun b => c.op.wkt c.any (c.op.uw m) x a * d.op.wkt d.any (d.op.uw n) y b) d.src.length = c.op.wkt c.any (c.op.uw m) x a * 1 := fun a => by rw [sumN_mulL]; exact congrArg _ a2
      rw [sumN_congr fun a _ => b2 a, sumN_mul, Int.mul_one]
      exact a1
    intro z hz
    rw [Cat.prd_obj sc sd] at hz
    exact hi z (by omega)
end

def vee : Cat := ⟨3, [0, 0, 0, 1, 2], [0, 1, 2, 1, 2], [0, 3, 4], [[0, 1, 2, -1, -1], [-1, -1, -1, 1, -1], [-1, -1, -1, -1, 2], [-1, -1, -1, 3, -1], [-1, -1, -1, -1, 4]]⟩
theorem vee_is : vee.Is := by
  have e : vee = Cat.tab 3 [0, 0, 0, 1, 2] [0, 1, 2, 1, 2] [0, 3, 4] (fun i j => (vee.comp.getD i []).getD j 0) := rfl
  rw [e]
  refine Cat.tab_is (fun i j => ((vee.comp.getD i []).getD j 0).toNat) (by decide) (by decide) (by decide) (by decide) (by decide) (by decide) (by decide) (by decide) ?_ (by decide) ?_
  · have : ∀ f, f < 5 → ∀ g, g < 5 → ([0, 1, 2, 1, 2] : List Int).getD f 0 = ([0, 0, 0, 1, 2] : List Int).getD g 0 → (vee.comp.getD f []).getD g 0 = (((vee.comp.getD f []).getD g 0).toNat : Int) ∧ ((vee.comp.getD f []).getD g 0).toNat < 5 ∧ ([0, 0, 0, 1, 2] : List Int).getD ((vee.comp.getD f []).getD g 0).toNat 0 = ([0, 0, 0, 1, 2] : List Int).getD f 0 ∧ ([0, 1, 2, 1, 2] : List Int).getD ((vee.comp.getD f []).getD g 0).toNat 0 = ([0, 1, 2, 1, 2] : List Int).getD g 0 := by decide
    exact fun f g hf hg => this f hf g hg
  · have : ∀ f, f < 5 → ∀ g, g < 5 → ∀ h, h < 5 → ([0, 1, 2, 1, 2] : List Int).getD f 0 = ([0, 0, 0, 1, 2] : List Int).getD g 0 → ([0, 1, 2, 1, 2] : List Int).getD g 0 = ([0, 0, 0, 1, 2] : List Int).getD h 0 → ((vee.comp.getD ((vee.comp.getD f []).getD g 0).toNat []).getD h 0).toNat = ((vee.comp.getD f []).getD ((vee.comp.getD g []).getD h 0).toNat 0).toNat := by decide
    exact fun f g h hf hg hh => this f hf g hg h hh
theorem vee_nil : vee.Nil 2 := by
  have h : ∀ y, y < 3 → vee.wk vee.mv 2 y = 0 := by decide
  exact fun y hy => h y (by have : (y : Int) < 3 := hy; omega)
theorem vee_chi : vee.chi 2 = 1 := by decide
end Go.GL
namespace Go.GL
open Go.RowKit
def Cat.wkL (c : Cat) (P : Nat → Bool) (k : Nat) : List Int := (List.range c.obj.toNat).map (c.wk P k)
def Cat.wkpL (c : Cat) (P : Nat → Bool) (k f : Nat) : List Int := (List.range c.obj.toNat).map (c.wkp P (c.wk P k) f)
@[simp] theorem Cat.length_wkL (c : Cat) (P : Nat → Bool) (k : Nat) : (c.wkL P k).length = c.obj.toNat := by simp [Cat.wkL]
@[simp] theorem Cat.length_wkpL (c : Cat) (P : Nat → Bool) (k f : Nat) : (c.wkpL P k f).length = c.obj.toNat := by simp [Cat.wkpL]
theorem Cat.wkL_get {c : Cat} {P : Nat → Bool} {k y : Nat} (h : y < c.obj.toNat) : (c.wkL P k).getD y 0 = c.wk P k y := by simp [Cat.wkL, List.getD_eq_getElem?_getD, h]
theorem Cat.wkpL_get {c : Cat} {P : Nat → Bool} {k f y : Nat} (h : y < c.obj.toNat) : (c.wkpL P k f).getD y 0 = c.wkp P (c.wk P k) f y := by simp [Cat.wkpL, List.getD_eq_getElem?_getD, h]
theorem Cat.wkpL_zero (c : Cat) (P : Nat → Bool) (k : Nat) : c.wkpL P k 0 = List.replicate c.obj.toNat 0 := by
  apply List.ext_getElem (by simp)
  intro i h1 h2
  simp [Cat.wkpL, Cat.wkp, sumN]
theorem Cat.wkpL_F {c : Cat} {P : Nat → Bool} {k f : Nat} (h : P f = false) : c.wkpL P k (f + 1) = c.wkpL P k f := by
  refine List.map_congr_left fun y _ => ?_
  show sumN _ f + c.wkt P (c.wk P k) y f = sumN _ f
  unfold Cat.wkt
  rw [if_neg (fun q => by rw [h] at q; exact Bool.false_ne_true q.1)]
  exact Int.add_zero _
theorem Cat.wkpL_T {c : Cat} {P : Nat → Bool} {k f : Nat} (hS : c.Shape) (hf : f < c.src.length) (h : P f = true) :
    (c.wkpL P k f).set (c.tgt.getD f 0).toNat ((c.wkpL P k f).getD (c.tgt.getD f 0).toNat 0 + (c.wkL P k).getD (c.src.getD f 0).toNat 0) = c.wkpL P k (f + 1) := by
  have s1 := hS.src f hf
  have t1 := hS.tgt f (by have := hS.tl; omega)
  rw [Cat.wkpL_get (by omega), Cat.wkL_get (by omega)]
  apply List.ext_getElem (by simp)
  intro y h1 h2
  have hy : y < c.obj.toNat := by simpa using h1
  rw [List.getElem_set]
  simp only [Cat.wkpL, List.getElem_map, List.getElem_range]
  have e : ∀ y, c.wkp P (c.wk P k) (f + 1) y = c.wkp P (c.wk P k) f y + c.wkt P (c.wk P k) y f := fun _ => rfl
  rw [e]
  unfold Cat.wkt
  by_cases e2 : (c.tgt.getD f 0).toNat = y
  · rw [if_pos e2, if_pos ⟨h, by omega⟩, e2]
  · rw [if_neg e2, if_neg (fun q => e2 (by rw [q.2]; rfl))]; omega
theorem pow40 {k : Nat} (h : k ≤ 8) : (40 : Int) ^ k ≤ 6553600000000 := by
  have : ∀ k, k < 9 → (40 : Int) ^ k ≤ 6553600000000 := by decide
  exact this k (by omega)
theorem Cat.wk_bd {c : Cat} (h : c.src.length ≤ 40) (P : Nat → Bool) {k : Nat} (hk : k ≤ 8) (y : Nat) : 0 ≤ c.wk P k y ∧ c.wk P k y ≤ 6553600000000 := by
  have h1 := c.wk_nn P k y
  have h2 := Cat.wk_le h P k y
  have h3 := pow40 hk
  omega
theorem Cat.wkL_bd {c : Cat} (h : c.src.length ≤ 40) (P : Nat → Bool) {k : Nat} (hk : k ≤ 8) (y : Nat) : 0 ≤ (c.wkL P k).getD y 0 ∧ (c.wkL P k).getD y 0 ≤ 6553600000000 := by
  by_cases hy : y < c.obj.toNat
  · rw [Cat.wkL_get hy]; exact Cat.wk_bd h P hk y
  · rw [List.getD_eq_getElem?_getD, List.getElem?_eq_none (by rw [Cat.length_wkL]; omega)]
    show (0 : Int) ≤ 0 ∧ (0 : Int) ≤ 6553600000000
    omega
theorem Cat.wkpL_bd {c : Cat} (h : c.src.length ≤ 40) (P : Nat → Bool) {k f : Nat} (hk : k ≤ 8) (hf : f ≤ 40) (y : Nat) : 0 ≤ (c.wkpL P k f).getD y 0 ∧ (c.wkpL P k f).getD y 0 ≤ 262144000000000 := by
  by_cases hy : y < c.obj.toNat
  · rw [Cat.wkpL_get hy]
    have h1 := Cat.wkp_le (c := c) (P := P) (w := c.wk P k) (M := 6553600000000) (by omega) (c.wk_nn P k) (fun x => (Cat.wk_bd h P hk x).2) f y
    omega
  · rw [List.getD_eq_getElem?_getD, List.getElem?_eq_none (by rw [Cat.length_wkpL]; omega)]
    show (0 : Int) ≤ 0 ∧ (0 : Int) ≤ 262144000000000
    omega
def Cat.ncS (c : Cat) (P : Nat → Bool) (k i : Nat) : Int := sumN (c.wk P k) i
theorem Cat.ncS_bd {c : Cat} (h : c.src.length ≤ 40) (P : Nat → Bool) {k : Nat} (hk : k ≤ 8) {i : Nat} (hi : i ≤ 8) : 0 ≤ c.ncS P k i ∧ c.ncS P k i ≤ 52428800000000 := by
  have := sumN_bd (f := c.wk P k) (c := 6553600000000) (N := i) (fun j _ => Cat.wk_bd h P hk j) (Nat.le_refl i)
  unfold Cat.ncS
  omega
theorem Cat.ncS_succ {c : Cat} {P : Nat → Bool} {k i : Nat} (h : i < c.obj.toNat) : c.ncS P k i + (c.wkL P k).getD i 0 = c.ncS P k (i + 1) := by rw [Cat.wkL_get h]; rfl
theorem Cat.nc_bd {c : Cat} (hS : c.Shape) (P : Nat → Bool) {k : Nat} (hk : k ≤ 8) : 0 ≤ c.nc P k ∧ c.nc P k ≤ 52428800000000 := Cat.ncS_bd hS.n40 P hk (by have := hS.obj; omega)
theorem wrap_sgn (k : Nat) : IntKind.i64.wrap (0 - sgn k) = sgn (k + 1) := by
  show _ = - sgn k
  rcases sgn_bd k with e | e <;> rw [e] <;> rfl
theorem sgn_mul {k : Nat} {n : Int} : (sgn k = 1 → sgn k * n = n) ∧ (sgn k = -1 → sgn k * n = -n) := ⟨fun h => by rw [h, Int.one_mul], fun h => by rw [h]; omega⟩
theorem sgn_bd2 {k : Nat} {n M : Int} (h : 0 ≤ n ∧ n ≤ M) : -M ≤ sgn k * n ∧ sgn k * n ≤ M := by
  have h1 := sgn_mul (k := k) (n := n)
  rcases sgn_bd k with e | e
  · have := h1.1 e; omega
  · have := h1.2 e; omega
theorem Cat.chi_bd {c : Cat} (hS : c.Shape) : ∀ {k : Nat}, k ≤ 9 → -(52428800000000 * (k : Int)) ≤ c.chi k ∧ c.chi k ≤ 52428800000000 * (k : Int)
  | 0, _ => by have : c.chi 0 = 0 := rfl; omega
  | k + 1, h => by
    have h1 := Cat.chi_bd hS (k := k) (by omega)
    have h2 := sgn_bd2 (k := k) (Cat.nc_bd hS c.mv (k := k) (by omega))
    have h3 : c.chi (k + 1) = c.chi k + sgn k * c.nc c.mv k := rfl
    omega
noncomputable def Cat.euV (c : Cat) : Int := bif B (c.Is ∧ c.nc c.mv c.obj.toNat ≤ 0) then c.chi c.obj.toNat else 0
noncomputable def Cat.euC (c : Cat) : Int := bif B c.Is then (bif B (c.nc c.mv c.obj.toNat ≤ 0) then 0 else 4) else 1
theorem Cat.eu_not {c : Cat} (h : ¬ c.Is) : c.euV = 0 ∧ c.euC = 1 := by unfold Cat.euV Cat.euC; rw [B_false h, B_false (fun q => h q.1)]; exact ⟨rfl, rfl⟩
theorem Cat.eu_no {c : Cat} (h : c.Is) (h' : ¬ c.nc c.mv c.obj.toNat ≤ 0) : c.euV = 0 ∧ c.euC = 4 := by unfold Cat.euV Cat.euC; rw [B_true h, B_false h', B_false (fun q => h' q.2)]; exact ⟨rfl, rfl⟩
theorem Cat.eu_ok {c : Cat} (h : c.Is) (h' : c.nc c.mv c.obj.toNat ≤ 0) : c.euV = c.chi c.obj.toNat ∧ c.euC = 0 := by unfold Cat.euV Cat.euC; rw [B_true h, B_true h', B_true ⟨h, h'⟩]; exact ⟨rfl, rfl⟩
theorem Cat.of_euC {c : Cat} (h : c.euC = 0) : c.Is ∧ c.nc c.mv c.obj.toNat ≤ 0 := by
  by_cases h1 : c.Is
  · by_cases h2 : c.nc c.mv c.obj.toNat ≤ 0
    · exact ⟨h1, h2⟩
    · rw [(Cat.eu_no h1 h2).2] at h; omega
  · rw [(Cat.eu_not h1).2] at h; omega
theorem Cat.eu_op {c : Cat} (h : c.euC = 0) : c.op.Is ∧ c.op.euC = 0 ∧ c.op.euV = c.euV := by
  obtain ⟨h1, h2⟩ := Cat.of_euC h
  have h3 := h1.op
  have h4 : c.op.nc c.op.mv c.op.obj.toNat ≤ 0 := by rw [Cat.nc_mv_op h1.1]; exact h2
  refine ⟨h3, (Cat.eu_ok h3 h4).2, ?_⟩
  rw [(Cat.eu_ok h3 h4).1, (Cat.eu_ok h1 h2).1]
  exact Cat.chi_op h1.1 _
theorem Cat.eu_pls {c : Cat} (h : c.euC = 0) (ho : c.obj + 3 ≤ 8) (hn : c.src.length + 5 ≤ 40) : (c.pls vee).Is ∧ (c.pls vee).euC = 0 ∧ (c.pls vee).euV = c.euV + 1 := by
  obtain ⟨h1, h2⟩ := Cat.of_euC h
  have h3 := Cat.pls_is h1 vee_is ho hn
  have oc := h1.1.obj
  have e : (c.pls vee).obj.toNat = c.obj.toNat + 3 := by show (c.obj + 3).toNat = _; omega
  have z1 := Cat.nil_of h2
  have z2 : c.Nil (c.obj.toNat + 3) := z1.ge h1.1 _ (by omega)
  have z3 : vee.Nil (c.obj.toNat + 3) := vee_nil.ge vee_is.1 _ (by omega)
  have h4 : (c.pls vee).nc (c.pls vee).mv (c.pls vee).obj.toNat ≤ 0 := by rw [e, Cat.nc_pls h1.1 vee_is.1, z2.nc, z3.nc]; exact Int.le_refl _
  refine ⟨h3, (Cat.eu_ok h3 h4).2, ?_⟩
  rw [(Cat.eu_ok h3 h4).1, (Cat.eu_ok h1 h2).1, e, Cat.chi_pls h1.1 vee_is.1, z1.chi h1.1 3, show c.obj.toNat + 3 = 2 + (c.obj.toNat + 1) by omega, vee_nil.chi vee_is.1, vee_chi]
theorem Cat.eu_prd {c : Cat} (h : c.euC = 0) (ho : c.obj * 3 ≤ 8) (hn : c.src.length * 5 ≤ 40) : (c.prd vee).Is ∧ (c.prd vee).euC = 0 ∧ (c.prd vee).euV = c.euV := by
  obtain ⟨h1, h2⟩ := Cat.of_euC h
  have h3 := Cat.prd_is h1 vee_is ho hn
  have oc := h1.1.obj
  have e : (c.prd vee).obj.toNat = c.obj.toNat * 3 := by show (c.obj * 3).toNat = _; omega
  have z1 := Cat.nil_of h2
  have z2 := z1.prd h1.1 vee_is.1 vee_nil
  have z4 := Cat.chi_prd h1 vee_is ho hn z1 vee_nil
  rw [vee_chi, Int.mul_one] at z4
  by_cases e0 : c.obj.toNat = 0
  · have e1 : (c.prd vee).obj.toNat = 0 := by omega
    have h4 : (c.prd vee).nc (c.prd vee).mv (c.prd vee).obj.toNat ≤ 0 := by unfold Cat.nc; rw [e1]; exact Int.le_refl _
    refine ⟨h3, (Cat.eu_ok h3 h4).2, ?_⟩
    rw [(Cat.eu_ok h3 h4).1, (Cat.eu_ok h1 h2).1, e1, e0]
    rfl
  · have z3 : (c.prd vee).Nil (c.prd vee).obj.toNat := z2.ge h3.1 _ (by omega)
    have h4 : (c.prd vee).nc (c.prd vee).mv (c.prd vee).obj.toNat ≤ 0 := by rw [z3.nc]; exact Int.le_refl _
    refine ⟨h3, (Cat.eu_ok h3 h4).2, ?_⟩
    rw [(Cat.eu_ok h3 h4).1, (Cat.eu_ok h1 h2).1, ← z4]
    have := z2.chi h3.1 ((c.prd vee).obj.toNat - (c.obj.toNat + 2))
    rw [← this]
    congr 1
    omega
end Go.GL
namespace Go.Proofs.Ytfanjkbaemhbmaa
open Go Go.GL Go.RowKit Go.Proofs
theorem isIdent_c {g o : Nat} {c : Cat} {p : CatP} {u : Int} {H : GHeap} (h : Cat.At H g o c p := by assumption) (hS : c.Shape := by assumption) (h0 : 0 ≤ u := by omega) (h1 : u < c.src.length := by omega) :
    GCalls Try.prog 73 [.pointer (some ⟨g, o, none⟩), .int .i64 u] H (Ret (.bool (decide (c.idn.getD (c.src.getD u.toNat 0).toNat 0 = u))) H) := by
  refine GCalls.ret rfl ?_
  have q1 := hS.src u.toNat (by omega)
  have q2 := hS.il
  refine GCalls.body (N := 20) (rs := [.tmp 4]) Try.func73 rfl rfl rfl rfl (fun Qx a hend => ?_)
  refine .fg [0, 1] rfl ?_
  have d := GHeap.Le.refl H
  obtain ⟨-, c1, -, c3, -, i1, -, i3, -⟩ := h.get
  refine .seq (fun K1 e => .region (.mv rfl (.nil (e _ _ (.seq (fun K2 b => ?_))))))
  refine .regionD mo_B (.q 0 (.q 1 (.q 2 (.q 3 (.q 4 (.q 5 (.q 6 (.q 7 (.q 8 (.q 9 (.q 10 (.q 11 (.q 12 (.q 13 (.q 14 (.q 15 (.done))))))))))))))))) (by kernel_rfl) ?_
  refine .mv rfl rfl (.q rfl (.nilCheck rfl) (.q rfl (.fieldAddr fo_27_3_B rfl) ?_))
  refine .q rfl (.load on_24_B rfl (by assumption)) ?_
  refine .mv rfl rfl (.q rfl (.nilCheck rfl) (.q rfl (.fieldAddr fo_27_1_B rfl) ?_))
  refine .q rfl (.load on_24_B rfl (by assumption)) ?_
  refine .mv rfl rfl ?_
  refine .q rfl (.idx1 sl_24_A (by assumption) rfl rfl (by omega) (by omega)) ?_
  refine .q rfl (.loadI on_2_A (by assumption) rfl (by omega)) ?_
  refine .q rfl (.idx1 sl_24_A (by assumption) rfl rfl (by omega) (by omega)) ?_
  refine .q rfl (.loadI on_2_A (by assumption) rfl (by omega)) ?_
  refine .mv rfl rfl (.q rfl (.cmp rfl rfl rfl) (.mv rfl rfl ?_))
  refine .done ?_
  refine b _ _ ?_
  refine .ret ?_
  refine a _ _ ?_
  refine ⟨_, rfl, ?_⟩
  exact ⟨rfl, d⟩
theorem moves_c {g o : Nat} {c : Cat} {p : CatP} {f : Nat} {H : GHeap} (h : Cat.At H g o c p := by assumption) (hS : c.Shape := by assumption) (h1 : f < c.src.length := by omega) :
    GCalls Try.prog 36 [.pointer (some ⟨g, o, none⟩), .int .i64 (f : Int)] H (Ret (.bool (c.mv f)) H) := by
  refine GCalls.ret rfl ?_
  refine GCalls.body (N := 9) (rs := [.tmp 4]) Try.func36 rfl rfl rfl rfl (fun Qx a hend => ?_)
  refine .fg [0, 1] rfl ?_
  have d := GHeap.Le.refl H
  have base_h := h
  refine .seq (fun K1 e => .region (.mv rfl (.nil (e _ _ (.seq (fun K2 b => .region (.mv rfl (.mv rfl ?_))))))))
  refine .callQ rfl rfl rfl rfl @Try.call73 rfl (isIdent_c) ?_
  refine .q rfl (.not rfl) (.mv rfl (.nil (b _ _ ?_)))
  refine .ret ?_
  refine a _ _ ?_
  refine ⟨_, rfl, ?_⟩
  exact ⟨rfl, d⟩
theorem anyArr_c {h : Int} {H : GHeap} : GCalls Try.prog 41 [.int .i64 h] H (Ret (.bool true) H) := by
  refine GCalls.body (N := 3) (rs := [.tmp 2]) Try.func41 rfl rfl rfl rfl (fun Qx a hend => ?_)
  refine .fg [0] rfl ?_
  refine .seq (fun K1 b => .region (.mv rfl (.nil (b _ _ (.seq (fun K2 c => .region (.mv rfl (.nil (c _ _ ?_)))))))))
  refine .ret ?_
  refine a _ _ ?_
  refine ⟨_, rfl, ?_⟩
  exact .of rfl
set_option maxHeartbeats 4000000 in
theorem chains_c {g o k fn : Nat} {bs : Array Value} {P : Nat → Bool} {c : Cat} {p : CatP} {H : GHeap} (h : Cat.At H g o c p := by assumption) (hS : c.Shape := by assumption) (hk : k ≤ 8)
    (hcall : ∀ (xs : Array Value) (w : World), (callFunc fn xs).run Try.prog w = .ok (.enter fn xs) w)
    (hq : ∀ H', H.Le H' → ∀ f : Nat, f < c.src.length → GCalls Try.prog fn (bs.toList ++ [.int .i64 (f : Int)]) H' (Ret (.bool (P f)) H')) :
    GCalls Try.prog 35 [.pointer (some ⟨g, o, none⟩), .int .i64 (k : Int), .func (.func fn) bs #[]] H (fun v H' => H.Le H' ∧ v = .int .i64 (c.nc P k)) := by
  have q1 := hS.tl
  have q2 := hS.n40
  have q3 := hS.obj
  refine GCalls.body (N := 73) (rs := [.tmp 6]) Try.func35 rfl rfl rfl rfl (fun Qx b7 hend => ?_)
  refine .fg [0, 1, 2] rfl ?_
  have d := GHeap.Le.refl H
  have b := h
  obtain ⟨c0, -, -, -, -, -, -, -, -⟩ := h.get
  refine .seq (fun K1 e3 => .region (.mv rfl (.nil (e3 _ _ (.seq (fun K2 d9 => .region (.mv rfl (.q rfl (.nilCheck rfl) (.q rfl (.fieldAddr fo_27_0_B rfl) ?_)))))))))
  refine .q rfl (.load on_2_A rfl (by assumption)) ?_
  refine .call rfl rfl rfl rfl @Try.call72 rfl (repeated_c (x := 1) (by omega) (by omega)) ?_
  rintro _ d0 ⟨a6, d1, rfl, y, ge17⟩
  replace d := d.trans a6
  have lt_at17 := GHeap.ltg y
  replace h := b.mono d
  clear c0
  refine .mv rfl (.nil (d9 _ _ (.seq (fun K3 e2 => ?_))))
  refine .block ?_
  refine .loopR (σ := Nat × Nat × Nat) [(0, some _), (2, some _)] (fun (i, n, u) => [(1, some (.int .i64 ((k : Int) - (i : Int)))), (7, some (.slice (some ⟨n, 0, none⟩) u u))]) (fun (i, n, u) H' => St [d1] d0 H' ∧ H'.get n = some (.row (ints (c.wkL P i)) 2 true) ∧ (n = d1 ∨ d0.next ≤ n) ∧ u = (c.wkL P i).length ∧ i ≤ k) (fun (i, n, u) => k - i) ((0, _, _)) ⟨rfl, rfl, trivial⟩ ⟨rfl, rfl, trivial⟩ ?_ ?_
  ·
   refine ⟨.refl _ _, by first | assumption | exact y | simpa using y, .inl rfl, by first | rfl | assumption | simp | omega, ?_⟩
   omega
  rintro ⟨i, n, u⟩ HL1 ⟨l, a, pl_L7, ln_L7, hI⟩ KL1 c5
  refine .forget (fr' := [(1, some (.int .i64 ((k : Int) - (i : Int)))), (7, some (.slice (some ⟨n, 0, none⟩) u u)), (0, some _), (2, some _)]) ⟨rfl, rfl, rfl, rfl, trivial⟩ ?_
  have ge_L7 : H.next ≤ n := by omega
  have nx_HL1 := l.nx
  replace d := d.st l (fun k hk => ⟨by omega, trivial⟩)
  have lt_at_L7 := GHeap.ltg a
  replace h := b.mono d
  obtain ⟨c0, -, -, -, -, -, -, -, -⟩ := h.get
  have d7 := c.length_wkL P (i + 1)
  refine .seq (fun K4 d5 => .seq (fun K5 d8 => .region (.mv rfl (.q rfl (.cmp rfl rfl rfl) (.nil (d8 _ _ ?_))))))
  refine .cond rfl (fun c9 => ?_) (fun c9 => ?_)
  ·
   simp only [sps] at c9
   refine .skip ?_
   refine d5 _ _ (.seq (fun K6 d6 => ?_))
   refine .block ?_
   refine .seq (fun K7 d3 => .region (.mv rfl (.q rfl (.nilCheck rfl) (.q rfl (.fieldAddr fo_27_0_B rfl) ?_))))
   refine .q rfl (.load on_2_A rfl (by assumption)) ?_
   refine .R rfl (.makeI rfl sl_24_A ze_2_Pa by_2_Pa rfl rfl (by omega) (by omega) (by omega) (by omega)) ?_
   rintro _ e1 ⟨d2, rfl, a0, ge26, b6⟩
   replace d := d.trans a0
   replace l := l.le a0
   replace a := a0.2 _ _ a
   replace h := b.mono d
   clear c0
   obtain ⟨-, c1, -, -, -, -, -, -, -⟩ := h.get
   refine .mv rfl (.nil (d3 _ _ (.seq (fun K8 d4 => .seq (fun K9 e0 => .region (.mv rfl (.q rfl (.nilCheck rfl) (.q rfl (.fieldAddr fo_27_1_B rfl) ?_))))))))
   refine .q rfl (.load on_24_B rfl (by assumption)) ?_
   refine .q rfl (.len sl_24_A rfl) (.mv rfl (.nil (e0 _ _ ?_)))
   refine .block ?_
   refine .loopR (σ := Nat) [(0, some _), (1, some _), (2, some _), (7, some _), (8, some _), (31, some _)] (fun f => [(32, some (.int .i64 (f : Int)))]) (fun f H' => St [d2] e1 H' ∧ H'.get d2 = some (.row (ints (c.wkpL P i f)) 2 true) ∧ f ≤ c.src.length) (fun f => c.src.length - f) (0) ⟨rfl, rfl, rfl, rfl, rfl, rfl, trivial⟩ ⟨rfl, trivial⟩ ?_ ?_
   ·
    refine ⟨.refl _ _, by (rw [Cat.wkpL_zero]; exact b6), ?_⟩
    omega
   rintro f HL2 ⟨e, r, hI⟩ KL2 a3
   refine .forget (fr' := [(32, some (.int .i64 (f : Int))), (0, some _), (1, some _), (2, some _), (7, some _), (8, some _), (31, some _)]) ⟨rfl, rfl, rfl, rfl, rfl, rfl, rfl, trivial⟩ ?_
   replace d := d.st e (fun k hk => ⟨by omega, trivial⟩)
   replace l := l.sA e
   replace a := e.s a
   replace h := b.mono d
   clear c1
   obtain ⟨-, c1, c2, -, -, i1, i2, -, -⟩ := h.get
   have hf8 := c.length_wkpL P i f
   have hf7 := c.length_wkL P i
   refine .seq (fun K10 c4 => .region (.q rfl (.cmp rfl rfl rfl) (.nil (c4 _ _ (.seq (fun K11 a7 => ?_))))))
   refine .cond rfl (fun b0 => ?_) (fun b0 => ?_)
   ·
    simp only [sps] at b0
    have s1 := hS.src f (by omega)
    have t1 := hS.tgt f (by omega)
    have b1 := Cat.wkL_bd q2 P (k := i) (by omega) (c.src.getD f 0).toNat
    have b2 := Cat.wkpL_bd q2 P (k := i) (f := f) (by omega) (by omega) (c.tgt.getD f 0).toNat
    refine .skip ?_
    refine a7 _ _ (.seq (fun K12 a1 => ?_))
    refine .block ?_
    refine .seq (fun K13 a8 => .region (.mv rfl (.mv rfl (.nil (a8 _ _ (.seq (fun K14 c8 => .region (.mv rfl (.mv rfl ?_)))))))))
    refine .callB rfl rfl rfl rfl rfl hcall rfl ((hq _ d f (by omega))) ?_
    rintro _ _ ⟨rfl, rfl⟩
    refine .nil (c8 _ _ ?_)
    refine .cond rfl (fun z => ?_) (fun z => ?_)
    ·
     try simp only [sps] at z
     refine .regionD mo_B (.q 0 (.q 1 (.q 2 (.q 3 (.q 4 (.q 5 (.q 6 (.q 7 (.q 8 (.q 9 (.q 10 (.q 11 (.q 12 (.q 13 (.q 14 (.q 15 (.q 16 (.q 17 (.q 18 (.q 19 (.q 20 (.q 21 (.c 22 0 (.done)))))))))))))))))))))))) (by kernel_rfl) ?_
     refine .mv rfl rfl (.mv rfl rfl (.q rfl (.nilCheck rfl) (.q rfl (.fieldAddr fo_27_2_B rfl) ?_)))
     refine .q rfl (.load on_24_B rfl (by assumption)) ?_
     refine .mv rfl rfl ?_
     refine .q rfl (.idxN sl_24_A (by assumption) rfl rfl (by omega)) ?_
     refine .q rfl (.loadI on_2_A (by assumption) rfl (by omega)) ?_
     refine .q rfl (.idx1 sl_24_A (by first | assumption | exact SlA.of_row r (by first | rfl | (simp; done) | (simp <;> omega))) rfl rfl (by omega) (by omega)) ?_
     refine .q rfl (.loadI on_2_A (by first | assumption | exact Ints.of_get r) rfl (by omega)) ?_
     refine .mv rfl rfl (.mv rfl rfl (.q rfl (.nilCheck rfl) (.q rfl (.fieldAddr fo_27_1_B rfl) ?_)))
     refine .q rfl (.load on_24_B rfl (by assumption)) ?_
     refine .mv rfl rfl ?_
     refine .q rfl (.idxN sl_24_A (by assumption) rfl rfl (by omega)) ?_
     refine .q rfl (.loadI on_2_A (by assumption) rfl (by omega)) ?_
     refine .q rfl (.idx1 sl_24_A (by first | assumption | exact SlA.of_row a (by first | rfl | (simp; done) | (simp <;> omega))) rfl rfl (by omega) (by omega)) ?_
     refine .q rfl (.loadI on_2_A (by first | assumption | exact Ints.of_get a) rfl (by omega)) ?_
     refine .q rfl (.add rfl rfl rfl (by omega) (by omega)) ?_
     refine .q rfl (.idx1 sl_24_A (by first | assumption | exact SlA.of_row r (by first | rfl | (simp; done) | (simp <;> omega))) rfl rfl (by omega) (by omega)) ?_
     refine .r0 rfl rfl rfl (.storeI rfl sz_2_Tb rfl rfl (by assumption) (by first | omega | (simp <;> omega))) ?_
     rintro _ H9022 ⟨rfl, t, m⟩
     replace d := d.st t (fun k hk => ⟨by omega, trivial⟩)
     replace e := e.sA t
     replace h := b.mono d
     clear c1 c2 i1 i2
     refine .done ?_
     refine a1 _ _ (.region ?_)
     refine .q rfl (.add rfl rfl rfl (by omega) (by omega)) ?_
     refine .mv rfl (.nil ?_)
     refine a3 (f + 1) _ _ ?_ ?_ ⟨rfl, rfl, rfl, rfl, rfl, rfl, rfl, trivial⟩
     ·
      refine ⟨e, by first | assumption | (rw [← Cat.wkpL_T hS (by omega) z]; simpa using m) | (rw [Cat.wkpL_F z]; assumption), ?_⟩
      omega
     omega
    try simp only [sps] at z
    refine .skip ?_
    refine a1 _ _ (.region ?_)
    refine .q rfl (.add rfl rfl rfl (by omega) (by omega)) ?_
    refine .mv rfl (.nil ?_)
    refine a3 (f + 1) _ _ ?_ ?_ ⟨rfl, rfl, rfl, rfl, rfl, rfl, rfl, trivial⟩
    ·
     refine ⟨e, by first | assumption | (rw [← Cat.wkpL_T hS (by omega) z]; simpa using m) | (rw [Cat.wkpL_F z]; assumption), ?_⟩
     omega
    omega
   try simp only [sps] at b0
   refine .exit ?_
   refine d4 _ _ (.region (.mv rfl (.mv rfl (.nil (d6 _ _ (.region (.mv rfl ?_)))))))
   refine .q rfl (.sub rfl rfl rfl (by omega) (by omega)) ?_
   refine .mv rfl (.nil ?_)
   obtain rfl : f = c.src.length := by omega
   rw [show (k : Int) - (i : Int) - 1 = (k : Int) - ((i + 1 : Nat) : Int) by omega]
   refine c5 ((i + 1, _, _)) _ _ ?_ ?_ ⟨rfl, rfl, rfl, rfl, trivial⟩
   ·
    refine ⟨l, by assumption, by omega, by first | omega | (simp only [List.length_append, List.length_cons, List.length_nil] <;> omega), ?_⟩
    omega
   (dsimp only; omega)
  simp only [sps] at c9
  obtain rfl : k = i := by omega
  refine .exit ?_
  refine e2 _ _ (.seq (fun K15 a4 => .region (.mv rfl (.nil (a4 _ _ (.seq (fun K16 a5 => .seq (fun K17 b8 => .region (.mv rfl (.q rfl (.len sl_24_A rfl) (.mv rfl (.nil (b8 _ _ ?_)))))))))))))
  refine .block ?_
  refine .loopR (σ := Nat) [(62, some _), (63, some _)] (fun j => [(64, some (.int .i64 (j : Int))), (10, some (.int .i64 (c.ncS P k j)))]) (fun j H' => St [n] HL1 H' ∧ H'.get n = some (.row (ints (c.wkL P k)) 2 true) ∧ j ≤ c.obj.toNat) (fun j => c.obj.toNat - j) (0) ⟨rfl, rfl, trivial⟩ ⟨rfl, rfl, trivial⟩ ?_ ?_
  ·
   refine ⟨.refl _ _, by first | assumption | exact a | simpa using a, ?_⟩
   omega
  rintro j HL3 ⟨a2, a, hI⟩ KL3 c6
  refine .forget (fr' := [(64, some (.int .i64 (j : Int))), (10, some (.int .i64 (c.ncS P k j))), (62, some _), (63, some _)]) ⟨rfl, rfl, rfl, rfl, trivial⟩ ?_
  replace d := d.st a2 (fun k hk => ⟨by omega, trivial⟩)
  replace h := b.mono d
  have d7 := c.length_wkL P k
  refine .seq (fun K18 c7 => .region (.q rfl (.cmp rfl rfl rfl) (.nil (c7 _ _ (.seq (fun K19 a9 => ?_))))))
  refine .cond rfl (fun b5 => ?_) (fun b5 => ?_)
  ·
   simp only [sps] at b5
   have b1 := Cat.wkL_bd q2 P hk j
   have b2 := Cat.ncS_bd q2 P hk (i := j) (by omega)
   have b3 := Cat.ncS_succ (c := c) (P := P) (k := k) (i := j) (by omega)
   refine .skip ?_
   refine a9 _ _ (.seq (fun K20 b9 => ?_))
   refine .block ?_
   refine .seq (fun K21 b4 => .region ?_)
   refine .q rfl (.idxN sl_24_A (by first | assumption | exact SlA.of_row a (by first | rfl | (simp; done) | (simp <;> omega))) rfl rfl (by omega)) ?_
   refine .q rfl (.loadI on_2_A (by first | assumption | exact Ints.of_get a) rfl (by omega)) ?_
   refine .mv rfl (.nil (b4 _ _ (.region (.mv rfl (.mv rfl ?_)))))
   refine .q rfl (.add rfl rfl rfl (by omega) (by omega)) ?_
   refine .mv rfl (.nil (b9 _ _ (.region ?_)))
   refine .q rfl (.add rfl rfl rfl (by omega) (by omega)) ?_
   refine .mv rfl (.nil ?_)
   rw [b3]
   refine c6 (j + 1) _ _ ?_ ?_ ⟨rfl, rfl, rfl, rfl, trivial⟩
   ·
    refine ⟨a2, by assumption, ?_⟩
    omega
   omega
  try simp only [sps] at b5
  refine .exit ?_
  refine a5 _ _ (.seq (fun K22 c3 => .region (.mv rfl (.mv rfl (.nil (c3 _ _ ?_))))))
  refine .ret ?_
  refine b7 _ _ ?_
  refine ⟨_, rfl, ?_⟩
  obtain rfl : j = c.obj.toNat := by omega
  exact ⟨d, rfl⟩
theorem l22Rep_c {v n : Int} {H : GHeap} (h0 : 0 ≤ n := by omega) (hn : n ≤ 1048576 := by omega) :
    GCalls Try.prog 74 [.int .i64 v, .int .i64 n] H (NewInts 2 H ((List.range n.toNat).map fun _ => v)) := by
  refine GCalls.body (N := 18) (rs := [.tmp 4]) Try.func74 rfl rfl rfl rfl (fun Qx m hend => ?_)
  refine .fg [0, 1] rfl ?_
  have e := GHeap.Le.refl H
  refine .seq (fun K1 z => .region (.mv rfl (.nil (z _ _ (.seq (fun K2 w => .region ?_))))))
  refine .R rfl (.litA rfl sl_24_A ze_2_Pa rfl rfl rfl rfl) ?_
  rintro _ H7 ⟨g7, rfl, x, ge7, h⟩
  replace e := e.trans x
  have lt_at7 := GHeap.ltg h
  replace h : GHeap.get H7 g7 = some (.row (ints []) 2 true) := h
  refine .mv rfl (.nil (w _ _ (.seq (fun K3 y => .seq (fun K4 s => .region (.mv rfl (.nil (s _ _ ?_))))))))
  refine .block ?_
  refine .loopR (σ := Nat × Nat × Nat) [(0, some _), (1, some _)] (fun (k, c, d) => [(6, some (.int .i64 (k : Int))), (5, some (.slice (some ⟨c, 0, none⟩) d d))]) (fun (k, c, d) H' => St [g7] H7 H' ∧ H'.get c = some (.row (ints ((List.range k).map fun _ => v)) 2 true) ∧ (c = g7 ∨ H7.next ≤ c) ∧ d = ((List.range k).map fun _ => v).length ∧ k ≤ n.toNat) (fun (k, c, d) => n.toNat - k) ((0, _, _)) ⟨rfl, rfl, trivial⟩ ⟨rfl, rfl, trivial⟩ ?_ ?_
  ·
   refine ⟨.refl _ _, by first | assumption | exact h | simpa using h, .inl rfl, by first | rfl | assumption | simp | omega, ?_⟩
   omega
  rintro ⟨k, c, d⟩ HL1 ⟨a, b, pl_L5, g, hI⟩ KL1 o
  refine .forget (fr' := [(6, some (.int .i64 (k : Int))), (5, some (.slice (some ⟨c, 0, none⟩) d d)), (0, some _), (1, some _)]) ⟨rfl, rfl, rfl, rfl, trivial⟩ ?_
  have ge_L5 : H.next ≤ c := by omega
  have nx_HL1 := a.nx
  replace e := e.st a (fun k hk => ⟨by omega, trivial⟩)
  have hrl : ((List.range k).map fun _ => v).length = k := by simp
  refine .seq (fun K5 u => .seq (fun K6 t => .region (.mv rfl (.mv rfl (.q rfl (.cmp rfl rfl rfl) (.nil (t _ _ ?_)))))))
  refine .cond rfl (fun i => ?_) (fun i => ?_)
  ·
   simp only [sps] at i
   refine .skip ?_
   refine u _ _ (.seq (fun K7 p => ?_))
   refine .block ?_
   refine .region (.mv rfl (.mv rfl ?_))
   refine .R rfl (.litA rfl sl_24_A ze_2_Pa rfl rfl rfl rfl) ?_
   rintro _ H15 ⟨g15, rfl, f, ge15, j⟩
   replace a := a.le f
   replace b := f.2 _ _ b
   have lt_at15 := GHeap.ltg j
   refine .R rfl (.appendI rfl sl_24_A ze_2_Pa rfl by_2_Pa sl_24_A rfl rfl (by assumption) (by assumption) (by first | omega | (simp <;> omega)) (by omega) (by omega)) ?_
   rintro _ H16 ⟨g16, rfl, l, ge16, at16⟩
   replace a := a.sA l
   refine .mv rfl (.nil (p _ _ (.region (.mv rfl ?_))))
   refine .q rfl (.add rfl rfl rfl (by omega) (by omega)) ?_
   refine .mv rfl (.nil ?_)
   refine o ((k + 1, _, _)) _ _ ?_ ?_ ⟨rfl, rfl, rfl, rfl, trivial⟩
   ·
    refine ⟨a, by first | assumption | (rw [range_succ_map]; assumption), by omega, by first | omega | (simp only [List.length_append, List.length_cons, List.length_nil] <;> omega) | (rw [range_succ_map] <;> (first | omega | (simp only [List.length_append, List.length_cons, List.length_nil] <;> omega))), ?_⟩
    omega
   (dsimp only; omega)
  try simp only [sps] at i
  refine .exit ?_
  refine y _ _ (.seq (fun K8 r => .region (.mv rfl (.mv rfl (.nil (r _ _ ?_))))))
  refine .ret ?_
  refine m _ _ ?_
  refine ⟨_, rfl, ?_⟩
  obtain rfl : k = n.toNat := by omega
  exact ⟨e, c, by rw [g], b, by omega⟩
set_option maxHeartbeats 4000000 in
theorem l33Walks_c {k : Nat} {c : Cat} {p : CatP} {H : GHeap} (hin : c.In H p := by assumption) (hs : c.Small := by assumption) (hS : c.Shape := by assumption) (hk : k ≤ 8) :
    GCalls Try.prog 39 [.agg (c.cells p).toArray, .int .i64 (k : Int), .bool true] H (NewInts 2 H (c.wkL c.mv k)) := by
  have q1 := hS.tl
  have q2 := hS.n40
  have q3 := hS.obj
  refine GCalls.body (N := 61) (rs := [.tmp 6]) Try.func39 rfl rfl rfl rfl (fun Qx a6 hend => ?_)
  refine .fg [0, 1, 2] rfl ?_
  have h := GHeap.Le.refl H
  have b := hin
  refine .seq (fun K1 d2 => .region ?_)
  refine .R rfl (.boxR rfl sz_27_D rfl) ?_
  rintro _ H3 ⟨g3, rfl, c2, ge3, e⟩
  replace h := h.trans c2
  have lt_at3 := GHeap.ltg e
  replace hin := b.mono h
  have n : Cat.At _ g3 0 c p := ⟨Mem.of_get e, hin⟩
  obtain ⟨b3, -, -, -, -, -, -, -, -⟩ := n.get
  refine .mv rfl (.nil (d2 _ _ (.seq (fun K2 c4 => .region (.q rfl (.fieldAddr fo_27_0_B rfl) ?_)))))
  refine .q rfl (.load on_2_A rfl (by first | assumption | exact Mem.of_get e 0 _ rfl)) ?_
  refine .call rfl rfl rfl rfl @Try.call74 rfl (l22Rep_c) ?_
  rintro _ b6 ⟨y, b5, rfl, x, ge12⟩
  replace h := h.trans y
  replace e := y.2 _ _ e
  have lt_at12 := GHeap.ltg x
  replace hin := b.mono h
  clear n b3
  have n : Cat.At _ g3 0 c p := ⟨Mem.of_get e, hin⟩
  refine .mv rfl (.nil (c4 _ _ (.seq (fun K3 c9 => ?_))))
  refine .block ?_
  refine .loopR (σ := Nat × Nat × Nat) [(2, some _), (3, some _)] (fun (i, t, v) => [(1, some (.int .i64 ((k : Int) - (i : Int)))), (7, some (.slice (some ⟨t, 0, none⟩) v v))]) (fun (i, t, v) H' => St [b5] b6 H' ∧ H'.get t = some (.row (ints (c.wkL c.mv i)) 2 true) ∧ (t = b5 ∨ b6.next ≤ t) ∧ v = (c.wkL c.mv i).length ∧ i ≤ k) (fun (i, t, v) => k - i) ((0, _, _)) ⟨rfl, rfl, trivial⟩ ⟨rfl, rfl, trivial⟩ ?_ ?_
  ·
   refine ⟨.refl _ _, by first | assumption | exact x | simpa using x, .inl rfl, by first | rfl | assumption | simp | omega, ?_⟩
   omega
  rintro ⟨i, t, v⟩ HL1 ⟨l, d, pl_L7, a1, hI⟩ KL1 b0
  refine .forget (fr' := [(1, some (.int .i64 ((k : Int) - (i : Int)))), (7, some (.slice (some ⟨t, 0, none⟩) v v)), (2, some _), (3, some _)]) ⟨rfl, rfl, rfl, rfl, trivial⟩ ?_
  have ge_L7 : H.next ≤ t := by omega
  have nx_HL1 := l.nx
  replace h := h.st l (fun k hk => ⟨by omega, trivial⟩)
  replace e := l.s e
  have lt_at_L7 := GHeap.ltg d
  replace hin := b.mono h
  clear n
  have n : Cat.At _ g3 0 c p := ⟨Mem.of_get e, hin⟩
  obtain ⟨b3, -, -, -, -, -, -, -, -⟩ := n.get
  have hf9 := c.length_wkL c.mv (i + 1)
  refine .seq (fun K4 b9 => .seq (fun K5 c3 => .region (.mv rfl (.q rfl (.cmp rfl rfl rfl) (.nil (c3 _ _ ?_))))))
  refine .cond rfl (fun a8 => ?_) (fun a8 => ?_)
  ·
   simp only [sps] at a8
   refine .skip ?_
   refine b9 _ _ (.seq (fun K6 c1 => ?_))
   refine .block ?_
   refine .seq (fun K7 b8 => .region (.q rfl (.fieldAddr fo_27_0_B rfl) ?_))
   refine .q rfl (.load on_2_A rfl (by first | assumption | exact Mem.of_get e 0 _ rfl)) ?_
   refine .R rfl (.makeI rfl sl_24_A ze_2_Pa by_2_Pa rfl rfl (by omega) (by omega) (by omega) (by omega)) ?_
   rintro _ d0 ⟨a3, rfl, u, ge19, a7⟩
   replace h := h.trans u
   replace l := l.le u
   replace e := u.2 _ _ e
   replace d := u.2 _ _ d
   replace hin := b.mono h
   clear n b3
   have n : Cat.At _ g3 0 c p := ⟨Mem.of_get e, hin⟩
   refine .mv rfl (.nil (b8 _ _ (.seq (fun K8 b7 => .seq (fun K9 c6 => .region (.mv rfl (.nil (c6 _ _ ?_))))))))
   refine .block ?_
   refine .loopR (σ := Nat) [(1, some _), (2, some _), (3, some _), (7, some _), (8, some _)] (fun f => [(9, some (.int .i64 (f : Int)))]) (fun f H' => St [a3] d0 H' ∧ H'.get a3 = some (.row (ints (c.wkpL c.mv i f)) 2 true) ∧ f ≤ c.src.length) (fun f => c.src.length - f) (0) ⟨rfl, rfl, rfl, rfl, rfl, trivial⟩ ⟨rfl, trivial⟩ ?_ ?_
   ·
    refine ⟨.refl _ _, by (rw [Cat.wkpL_zero]; exact a7), ?_⟩
    omega
   rintro f HL2 ⟨j, r, hI⟩ KL2 a0
   refine .forget (fr' := [(9, some (.int .i64 (f : Int))), (1, some _), (2, some _), (3, some _), (7, some _), (8, some _)]) ⟨rfl, rfl, rfl, rfl, rfl, rfl, trivial⟩ ?_
   replace h := h.st j (fun k hk => ⟨by omega, trivial⟩)
   replace l := l.sA j
   have g : NE g3 a3 := .a
   replace e := j.s e g.ne
   replace d := j.s d
   replace hin := b.mono h
   clear n
   have n : Cat.At _ g3 0 c p := ⟨Mem.of_get e, hin⟩
   obtain ⟨-, c8, c7, -, -, c0, c5, -, -⟩ := n.get
   have d1 := n.2
   have hf8 := c.length_wkpL c.mv i f
   have hf7 := c.length_wkL c.mv i
   refine .seq (fun K10 a9 => .seq (fun K11 a4 => .region (.mv rfl (.q rfl (.fieldAddr fo_27_1_B rfl) ?_))))
   refine .q rfl (.load on_24_B rfl (by first | assumption | exact Mem.of_get e 1 _ rfl)) ?_
   refine .q rfl (.len sl_24_A rfl) (.q rfl (.cmp rfl rfl rfl) (.nil (a4 _ _ ?_)))
   refine .cond rfl (fun a2 => ?_) (fun a2 => ?_)
   ·
    simp only [sps] at a2
    have s1 := hS.src f (by omega)
    have t1 := hS.tgt f (by omega)
    have b1 := Cat.wkL_bd q2 c.mv (k := i) (by omega) (c.src.getD f 0).toNat
    have b2 := Cat.wkpL_bd q2 c.mv (k := i) (f := f) (by omega) (by omega) (c.tgt.getD f 0).toNat
    refine .skip ?_
    refine a9 _ _ (.seq (fun K12 z => ?_))
    refine .block ?_
    refine .seq (fun K13 a5 => .region (.mv rfl (.q rfl (.not rfl) (.mv rfl ?_))))
    refine .qg rfl (.loadM ag_27_D rfl ⟨rfl, Mem.of_get e⟩) ?_
    refine .qg rfl (.move rfl) ?_
    refine .callQg rfl rfl rfl rfl rfl rfl @Try.call75 rfl (l02Unit_c) ?_
    refine .qg rfl (.not rfl) (.q rfl (.pickF rfl rfl) (.nil (a5 _ _ ?_)))
    refine .cond rfl (fun w => ?_) (fun w => ?_)
    ·
     try simp only [sps] at w
     refine .regionD mo_B (.q 0 (.q 1 (.q 2 (.q 3 (.q 4 (.q 5 (.q 6 (.q 7 (.q 8 (.q 9 (.q 10 (.q 11 (.q 12 (.q 13 (.q 14 (.q 15 (.q 16 (.q 17 (.q 18 (.q 19 (.q 20 (.q 21 (.q 22 (.q 23 (.c 24 0 (.done)))))))))))))))))))))))))) (by kernel_rfl) ?_
     refine .mv rfl rfl (.q rfl (.fieldAddr fo_27_2_B rfl) ?_)
     refine .q rfl (.load on_24_B rfl (by first | assumption | exact Mem.of_get e 2 _ rfl)) ?_
     refine .mv rfl rfl ?_
     refine .q rfl (.idxN sl_24_A (by assumption) rfl rfl (by omega)) ?_
     refine .q rfl (.loadI on_2_A (by assumption) rfl (by omega)) ?_
     refine .mv rfl rfl (.q rfl (.fieldAddr fo_27_2_B rfl) ?_)
     refine .q rfl (.load on_24_B rfl (by first | assumption | exact Mem.of_get e 2 _ rfl)) ?_
     refine .mv rfl rfl ?_
     refine .q rfl (.idxN sl_24_A (by assumption) rfl rfl (by omega)) ?_
     refine .q rfl (.loadI on_2_A (by assumption) rfl (by omega)) ?_
     refine .q rfl (.idx1 sl_24_A (by first | assumption | exact SlA.of_row r (by first | rfl | (simp; done) | (simp <;> omega))) rfl rfl (by omega) (by omega)) ?_
     refine .q rfl (.loadI on_2_A (by first | assumption | exact Ints.of_get r) rfl (by omega)) ?_
     refine .mv rfl rfl (.q rfl (.fieldAddr fo_27_1_B rfl) ?_)
     refine .q rfl (.load on_24_B rfl (by first | assumption | exact Mem.of_get e 1 _ rfl)) ?_
     refine .mv rfl rfl ?_
     refine .q rfl (.idxN sl_24_A (by assumption) rfl rfl (by omega)) ?_
     refine .q rfl (.loadI on_2_A (by assumption) rfl (by omega)) ?_
     refine .q rfl (.idx1 sl_24_A (by first | assumption | exact SlA.of_row d (by first | rfl | (simp; done) | (simp <;> omega))) rfl rfl (by omega) (by omega)) ?_
     refine .q rfl (.loadI on_2_A (by first | assumption | exact Ints.of_get d) rfl (by omega)) ?_
     refine .q rfl (.add rfl rfl rfl (by omega) (by omega)) ?_
     refine .q rfl (.idx1 sl_24_A (by first | assumption | exact SlA.of_row r (by first | rfl | (simp; done) | (simp <;> omega))) rfl rfl (by omega) (by omega)) ?_
     refine .r0 rfl rfl rfl (.storeI rfl sz_2_Tb rfl rfl (by assumption) (by first | omega | (simp <;> omega))) ?_
     rintro _ H9024 ⟨rfl, m, o⟩
     replace h := h.st m (fun k hk => ⟨by omega, trivial⟩)
     replace j := j.sA m
     replace e := m.s e g.ne
     replace hin := b.mono h
     clear n c8 c7 c0 c5 d1
     have n : Cat.At _ g3 0 c p := ⟨Mem.of_get e, hin⟩
     refine .done ?_
     refine z _ _ (.region (.mv rfl ?_))
     refine .q rfl (.add rfl rfl rfl (by omega) (by omega)) ?_
     refine .mv rfl (.nil ?_)
     refine a0 (f + 1) _ _ ?_ ?_ ⟨rfl, rfl, rfl, rfl, rfl, rfl, trivial⟩
     ·
      refine ⟨j, by first | assumption | (rw [← Cat.wkpL_T hS (by omega) (Cat.mv_T (c := c) (f := f) w)]; simpa using o) | (rw [Cat.wkpL_F (Cat.mv_F (c := c) (f := f) w)]; assumption), ?_⟩
      omega
     omega
    try simp only [sps] at w
    refine .skip ?_
    refine z _ _ (.region (.mv rfl ?_))
    refine .q rfl (.add rfl rfl rfl (by omega) (by omega)) ?_
    refine .mv rfl (.nil ?_)
    refine a0 (f + 1) _ _ ?_ ?_ ⟨rfl, rfl, rfl, rfl, rfl, rfl, trivial⟩
    ·
     refine ⟨j, by first | assumption | (rw [← Cat.wkpL_T hS (by omega) (Cat.mv_T (c := c) (f := f) w)]; simpa using o) | (rw [Cat.wkpL_F (Cat.mv_F (c := c) (f := f) w)]; assumption), ?_⟩
     omega
    omega
   try simp only [sps] at a2
   refine .exit ?_
   refine b7 _ _ (.region (.mv rfl (.mv rfl (.nil (c1 _ _ (.region (.mv rfl ?_)))))))
   refine .q rfl (.sub rfl rfl rfl (by omega) (by omega)) ?_
   refine .mv rfl (.nil ?_)
   obtain rfl : f = c.src.length := by omega
   rw [show (k : Int) - (i : Int) - 1 = (k : Int) - ((i + 1 : Nat) : Int) by omega]
   refine b0 ((i + 1, _, _)) _ _ ?_ ?_ ⟨rfl, rfl, rfl, rfl, trivial⟩
   ·
    refine ⟨l, by assumption, by omega, by first | omega | (simp only [List.length_append, List.length_cons, List.length_nil] <;> omega), ?_⟩
    omega
   (dsimp only; omega)
  try simp only [sps] at a8
  refine .exit ?_
  refine c9 _ _ (.seq (fun K14 b4 => .region (.mv rfl (.mv rfl (.nil (b4 _ _ ?_))))))
  refine .ret ?_
  refine a6 _ _ ?_
  refine ⟨_, rfl, ?_⟩
  obtain rfl : k = i := by omega
  exact ⟨h, t, by rw [a1], d, by omega⟩
theorem l33WalksZ_c {m : Int} {c : Cat} {p : CatP} {H : GHeap} (h0 : 0 ≤ m) (hin : c.In H p := by assumption) (hs : c.Small := by assumption) (hS : c.Shape := by assumption) (hk : m ≤ 8) :
    GCalls Try.prog 39 [.agg (c.cells p).toArray, .int .i64 m, .bool true] H (NewInts 2 H (c.wkL c.mv m.toNat)) := by
  have := l33Walks_c (k := m.toNat) hin hs hS (by omega)
  rwa [Int.toNat_of_nonneg h0] at this
theorem l33Sum_c {c : Cat} {P : Nat → Bool} {k : Nat} {a : Option Addr} {H : GHeap} (h : Ints H a (c.wkL P k) := by assumption) (hS : c.Shape := by assumption) (hk : k ≤ 8) :
    GCalls Try.prog 38 [.slice a (c.wkL P k).length (c.wkL P k).length] H (Ret (.int .i64 (c.nc P k)) H) := by
  have q2 := hS.n40
  have q3 := hS.obj
  have q4 := c.length_wkL P k
  refine GCalls.ret rfl ?_
  refine GCalls.body (N := 18) (rs := [.tmp 2]) Try.func38 rfl rfl rfl rfl (fun Qx d hend => ?_)
  refine .fg [0] rfl ?_
  have p := GHeap.Le.refl H
  have base_h := h
  refine .seq (fun K1 n => .region (.mv rfl (.nil (n _ _ (.seq (fun K2 f => .region (.mv rfl (.nil (f _ _ (.seq (fun K3 o => .seq (fun K4 m => .region (.mv rfl (.nil (m _ _ ?_)))))))))))))))
  refine .block ?_
  refine .loopR (σ := Nat) [(0, some _)] (fun j => [(4, some (.int .i64 (j : Int))), (3, some (.int .i64 (c.ncS P k j)))]) (fun j H' => H = H' ∧ j ≤ c.obj.toNat) (fun j => c.obj.toNat - j) (0) ⟨rfl, trivial⟩ ⟨rfl, rfl, trivial⟩ ?_ ?_
  ·
   refine ⟨rfl, ?_⟩
   omega
  rintro j _ ⟨rfl, hI⟩ KL1 b
  refine .forget (fr' := [(4, some (.int .i64 (j : Int))), (3, some (.int .i64 (c.ncS P k j))), (0, some _)]) ⟨rfl, rfl, rfl, trivial⟩ ?_
  refine .seq (fun K5 e => .seq (fun K6 r => .region (.mv rfl (.mv rfl (.q rfl (.len sl_24_A rfl) (.q rfl (.cmp rfl rfl rfl) (.nil (r _ _ ?_))))))))
  refine .cond rfl (fun h8 => ?_) (fun h8 => ?_)
  ·
   simp only [sps] at h8
   have b1 := Cat.wkL_bd q2 P hk j
   have b2 := Cat.ncS_bd q2 P hk (i := j) (by omega)
   have b3 := Cat.ncS_succ (c := c) (P := P) (k := k) (i := j) (by omega)
   refine .skip ?_
   refine e _ _ (.seq (fun K7 g => ?_))
   refine .block ?_
   refine .region (.mv rfl (.mv rfl (.mv rfl ?_)))
   refine .q rfl (.idxN sl_24_A (by assumption) rfl rfl (by omega)) ?_
   refine .q rfl (.loadI on_2_A (by assumption) rfl (by omega)) ?_
   refine .q rfl (.add rfl rfl rfl (by omega) (by omega)) ?_
   refine .mv rfl (.nil (g _ _ (.region (.mv rfl ?_))))
   refine .q rfl (.add rfl rfl rfl (by omega) (by omega)) ?_
   refine .mv rfl (.nil ?_)
   rw [b3]
   refine b (j + 1) _ _ ?_ ?_ ⟨rfl, rfl, rfl, trivial⟩
   ·
    refine ⟨rfl, ?_⟩
    omega
   omega
  try simp only [sps] at h8
  refine .exit ?_
  refine o _ _ (.seq (fun K8 l => .region (.mv rfl (.mv rfl (.nil (l _ _ ?_))))))
  refine .ret ?_
  refine d _ _ ?_
  refine ⟨_, rfl, ?_⟩
  obtain rfl : j = c.obj.toNat := by omega
  exact ⟨rfl, p⟩
theorem chainCode_c {g o k fn : Nat} {bs : Array Value} {P : Nat → Bool} {c : Cat} {p : CatP} {H : GHeap} (h : Cat.At H g o c p := by assumption) (hs : c.Small := by assumption) (hI : c.Is) (hk : k ≤ 8)
    (hcall : ∀ (xs : Array Value) (w : World), (callFunc fn xs).run Try.prog w = .ok (.enter fn xs) w)
    (hq : ∀ H', H.Le H' → ∀ f : Nat, f < c.src.length → GCalls Try.prog fn (bs.toList ++ [.int .i64 (f : Int)]) H' (Ret (.bool (P f)) H')) :
    GCalls Try.prog 40 [.pointer (some ⟨g, o, none⟩), .int .i64 (k : Int), .func (.func fn) bs #[]] H (fun v H' => H.Le H' ∧ v = .tuple #[.int .i64 (c.nc P k), .int .i64 0]) := by
  have hS := hI.1
  refine GCalls.body (N := 18) (rs := [.tmp 6, .tmp 7]) Try.func40 rfl rfl rfl rfl (fun Qx e hend => ?_)
  refine .fg [0, 1, 2] rfl ?_
  have b := GHeap.Le.refl H
  have a := h
  refine .seq (fun K1 r => .region (.mv rfl (.mv rfl (.nil (r _ _ (.seq (fun K2 m => .seq (fun K3 s => .region (.mv rfl ?_)))))))))
  refine .callQ rfl rfl rfl rfl @Try.call34 rfl (isCategory_c) ?_
  refine .q rfl (.not rfl) (.nil (s _ _ ?_))
  refine .cond rfl (fun i => ?_) (fun i => ?_)
  ·
   exact absurd i (by rw [B_true hI]; exact Bool.false_ne_true)
  try simp only [sps] at i
  refine .skip ?_
  refine m _ _ (.seq (fun K4 n => .seq (fun K5 l => .region (.mv rfl ?_))))
  refine .callQ rfl rfl rfl rfl @Try.call76 rfl (inRange_c) ?_
  refine .q rfl (.not rfl) (.nil (l _ _ ?_))
  refine .cond rfl (fun d => ?_) (fun d => ?_)
  ·
   exact absurd d (by simp only [sps]; omega)
  try simp only [sps] at d
  refine .skip ?_
  refine n _ _ (.seq (fun K6 t => .region (.mv rfl (.mv rfl (.mv rfl ?_)))))
  refine .call rfl rfl rfl rfl @Try.call35 rfl (chains_c (P := P) (bs := bs) (h := a) (hS := hS) (hk := hk) (hcall := hcall) (hq := fun H' hl f hf => hq H' (b.trans hl) f hf)) ?_
  rintro _ H17 ⟨j, rfl⟩
  replace b := b.trans j
  refine .mv rfl (.mv rfl (.nil (t _ _ ?_)))
  refine .ret ?_
  refine e _ _ ?_
  refine ⟨_, _, rfl, rfl, ?_⟩
  exact ⟨b, rfl⟩
theorem countChains_c {k : Nat} {c : Cat} {p : CatP} {H : GHeap} (hin : c.In H p := by assumption) (hs : c.Small := by assumption) (hI : c.Is := by assumption) (hk : k ≤ 8 := by omega) :
    GCalls Try.prog 11 [.agg (c.cells p).toArray, .int .i64 (k : Int)] H (fun v H' => H.Le H' ∧ v = .tuple #[.int .i64 (c.nc c.any k), .int .i64 0]) := by
  refine GCalls.body (N := 10) (rs := [.tmp 4, .tmp 5]) Try.func11 rfl rfl rfl rfl (fun Qx e hend => ?_)
  refine .fg [0, 1] rfl ?_
  have b := GHeap.Le.refl H
  have a := hin
  refine .seq (fun K1 m => .region ?_)
  refine .R rfl (.boxR rfl sz_27_D rfl) ?_
  rintro _ H2 ⟨g2, rfl, l, ge2, d⟩
  replace b := b.trans l
  replace hin := a.mono b
  have h : Cat.At _ g2 0 c p := ⟨Mem.of_get d, hin⟩
  refine .mv rfl (.mv rfl (.nil (m _ _ (.seq (fun K2 j => .region (.mv rfl ?_))))))
  refine .call rfl rfl rfl rfl @Try.call40 rfl (chainCode_c (g := g2) (P := c.any) (bs := #[]) (hI := hI) (hk := hk) (hcall := @Try.call41) (hq := fun H' hl f hf => anyArr_c)) ?_
  rintro _ H7 ⟨i, rfl⟩
  replace b := b.trans i
  replace d := i.2 _ _ d
  replace hin := a.mono b
  clear h
  have h : Cat.At _ g2 0 c p := ⟨Mem.of_get d, hin⟩
  refine .q rfl (.extract rfl rfl) (.q rfl (.extract rfl rfl) (.mv rfl (.mv rfl (.nil (j _ _ ?_)))))
  refine .ret ?_
  refine e _ _ ?_
  refine ⟨_, _, rfl, rfl, ?_⟩
  exact ⟨b, rfl⟩
theorem countProper_c {k : Nat} {c : Cat} {p : CatP} {H : GHeap} (hin : c.In H p := by assumption) (hs : c.Small := by assumption) (hI : c.Is := by assumption) (hk : k ≤ 8 := by omega) :
    GCalls Try.prog 10 [.agg (c.cells p).toArray, .int .i64 (k : Int)] H (fun v H' => H.Le H' ∧ v = .tuple #[.int .i64 (c.nc c.mv k), .int .i64 0]) := by
  refine GCalls.body (N := 11) (rs := [.tmp 4, .tmp 5]) Try.func10 rfl rfl rfl rfl (fun Qx e hend => ?_)
  refine .fg [0, 1] rfl ?_
  have b := GHeap.Le.refl H
  have a := hin
  refine .seq (fun K1 n => .region ?_)
  refine .R rfl (.boxR rfl sz_27_D rfl) ?_
  rintro _ H2 ⟨g2, rfl, m, ge2, d⟩
  replace b := b.trans m
  replace hin := a.mono b
  have i : Cat.At _ g2 0 c p := ⟨Mem.of_get d, hin⟩
  refine .mv rfl (.mv rfl (.nil (n _ _ (.seq (fun K2 l => .region (.mv rfl (.q rfl (.makeBound rfl) ?_)))))))
  refine .call rfl rfl rfl rfl @Try.call40 rfl (chainCode_c (g := g2) (P := c.mv) (bs := #[.pointer (some ⟨g2, 0, none⟩)]) (hI := hI) (hk := hk) (hcall := @Try.call36) (hq := fun H' hl f hf => moves_c (h := Cat.At.mono (by assumption) hl) (hS := hI.1) (h1 := hf))) ?_
  rintro _ H8 ⟨j, rfl⟩
  replace b := b.trans j
  replace d := j.2 _ _ d
  replace hin := a.mono b
  clear i
  have i : Cat.At _ g2 0 c p := ⟨Mem.of_get d, hin⟩
  refine .q rfl (.extract rfl rfl) (.q rfl (.extract rfl rfl) (.mv rfl (.mv rfl (.nil (l _ _ ?_)))))
  refine .ret ?_
  refine e _ _ ?_
  refine ⟨_, _, rfl, rfl, ?_⟩
  exact ⟨b, rfl⟩
set_option maxHeartbeats 4000000 in
theorem implEuler_c {c : Cat} {p : CatP} {H : GHeap} (hin : c.In H p := by assumption) (hs : c.Small := by assumption) :
    GCalls Try.prog 8 [.agg (c.cells p).toArray] H (fun v H' => H.Le H' ∧ v = .tuple #[.int .i64 c.euV, .int .i64 c.euC]) := by
  refine GCalls.body (N := 35) (rs := [.tmp 2, .tmp 3]) Try.func8 rfl rfl rfl rfl (fun Qx j hend => ?_)
  refine .fg [0] rfl ?_
  have d := GHeap.Le.refl H
  have a := hin
  refine .seq (fun K1 b8 => .region ?_)
  refine .R rfl (.boxR rfl sz_27_D rfl) ?_
  rintro _ H1 ⟨g1, rfl, a7, ge1, i⟩
  replace d := d.trans a7
  replace hin := a.mono d
  have m : Cat.At _ g1 0 c p := ⟨Mem.of_get i, hin⟩
  refine .mv rfl (.mv rfl (.nil (b8 _ _ (.seq (fun K2 b0 => .seq (fun K3 b7 => .region ?_))))))
  refine .callQ rfl rfl rfl rfl @Try.call34 rfl (isCategory_c) ?_
  refine .q rfl (.not rfl) (.nil (b7 _ _ ?_))
  refine .cond rfl (fun h9 => ?_) (fun h9 => ?_)
  ·
   try simp only [sps] at h9
   refine .seq (fun K4 a6 => .region (.mv rfl (.mv rfl (.nil (a6 _ _ ?_)))))
   refine .ret ?_
   refine j _ _ ?_
   refine ⟨_, _, rfl, rfl, ?_⟩
   rw [(Cat.eu_not h9).1, (Cat.eu_not h9).2]; exact ⟨d, rfl⟩
  simp only [sps] at h9
  have hC : c.Is := h9
  have hS := hC.1
  have q1 := hS.obj
  refine .skip ?_
  refine b0 _ _ (.seq (fun K5 a9 => .region (.mv rfl (.mv rfl (.nil (a9 _ _ (.seq (fun K6 a8 => .seq (fun K7 a4 => .region (.mv rfl (.nil (a4 _ _ ?_))))))))))))
  refine .block ?_
  refine .loopR (σ := Nat) [(1, some _)] (fun k => [(6, some (.int .i64 (k : Int))), (4, some (.int .i64 (c.chi k))), (5, some (.int .i64 (sgn k)))]) (fun k H' => St [] H1 H' ∧ k ≤ c.obj.toNat + 1 ∧ (k = c.obj.toNat + 1 → c.nc c.mv c.obj.toNat ≤ 0)) (fun k => c.obj.toNat + 1 - k) (0) ⟨rfl, trivial⟩ ⟨rfl, rfl, rfl, trivial⟩ ?_ ?_
  ·
   refine ⟨.refl _ _, ?_⟩
   exact ⟨by omega, fun e => by omega⟩
  rintro k HL1 ⟨b, hI⟩ KL1 s
  refine .forget (fr' := [(6, some (.int .i64 (k : Int))), (4, some (.int .i64 (c.chi k))), (5, some (.int .i64 (sgn k))), (1, some _)]) ⟨rfl, rfl, rfl, rfl, trivial⟩ ?_
  replace d := d.st b (fun k hk => trivial)
  replace i := b.same _ _ trivial i
  replace hin := a.mono d
  clear m
  have m : Cat.At _ g1 0 c p := ⟨Mem.of_get i, hin⟩
  obtain ⟨a3, -, -, -, -, -, -, -, -⟩ := m.get
  obtain ⟨hk, hno⟩ := hI
  have b1 := Cat.nc_bd hS c.mv (k := k)
  have b2 := Cat.chi_bd hS (k := k) (by omega)
  have b3 := sgn_bd k
  refine .seq (fun K8 a5 => .seq (fun K9 b6 => .region (.mv rfl (.q rfl (.fieldAddr fo_27_0_B rfl) ?_))))
  refine .q rfl (.load on_2_A rfl (by first | assumption | exact Mem.of_get i 0 _ rfl)) ?_
  refine .q rfl (.cmp rfl rfl rfl) (.nil (b6 _ _ ?_))
  refine .cond rfl (fun u => ?_) (fun u => ?_)
  ·
   simp only [sps] at u
   have b4 := b1 (by omega)
   have b5 := sgn_bd2 (k := k) b4
   refine .skip ?_
   refine a5 _ _ (.seq (fun K10 r => ?_))
   refine .block ?_
   refine .seq (fun K11 y => .region (.mv rfl (.q rfl (.makeBound rfl) ?_)))
   refine .call rfl rfl rfl rfl @Try.call35 rfl (chains_c (g := g1) (P := c.mv) (bs := #[.pointer (some ⟨g1, 0, none⟩)]) (hS := hS) (hk := by omega) (hcall := @Try.call36) (hq := fun H' hl f hf => moves_c (h := Cat.At.mono (by assumption) hl) (hS := hS) (h1 := hf))) ?_
   rintro _ H18 ⟨l, rfl⟩
   replace d := d.trans l
   replace b := b.le l
   replace i := l.2 _ _ i
   replace hin := a.mono d
   clear m a3
   have m : Cat.At _ g1 0 c p := ⟨Mem.of_get i, hin⟩
   obtain ⟨a3, -, -, -, -, -, -, -, -⟩ := m.get
   refine .mv rfl (.nil (y _ _ (.seq (fun K12 n => .seq (fun K13 o => .region (.mv rfl (.q rfl (.fieldAddr fo_27_0_B rfl) ?_)))))))
   refine .q rfl (.load on_2_A rfl (by first | assumption | exact Mem.of_get i 0 _ rfl)) ?_
   refine .q rfl (.cmp rfl rfl rfl) (.mv rfl ?_)
   refine .split (fun a0 => ?_) (fun a0 => ?_)
   ·
    try simp only [sps] at a0
    refine .qg rfl (.move rfl) (.qg rfl (.cmp rfl rfl rfl) (.q rfl (.pickT rfl rfl) (.nil (o _ _ ?_))))
    refine .cond rfl (fun w => ?_) (fun w => ?_)
    ·
     try simp only [sps] at w
     refine .seq (fun K14 a2 => .region (.mv rfl (.mv rfl (.nil (a2 _ _ ?_)))))
     refine .ret ?_
     refine j _ _ ?_
     refine ⟨_, _, rfl, rfl, ?_⟩
     obtain rfl : k = c.obj.toNat := by omega
     rw [(Cat.eu_no hC (by omega)).1, (Cat.eu_no hC (by omega)).2]
     exact ⟨d, rfl⟩
    try simp only [sps] at w
    refine .skip ?_
    refine n _ _ (.seq (fun K15 t => .region (.mv rfl (.mv rfl (.mv rfl ?_)))))
    refine .q rfl (.mul rfl rfl rfl (by omega) (by omega)) ?_
    refine .q rfl (.add rfl rfl rfl (by omega) (by omega)) ?_
    refine .mv rfl (.nil (t _ _ (.region (.mv rfl (.q rfl (.neg rfl) (.mv rfl (.nil (r _ _ (.region (.mv rfl ?_))))))))))
    refine .q rfl (.add rfl rfl rfl (by omega) (by omega)) ?_
    refine .mv rfl (.nil ?_)
    rw [wrap_sgn]
    refine s (k + 1) _ _ ?_ ?_ ⟨rfl, rfl, rfl, rfl, trivial⟩
    ·
     refine ⟨b, ?_⟩
     exact ⟨by omega, fun e => by have e2 : k = c.obj.toNat := (by omega); subst e2; omega⟩
    omega
   try simp only [sps] at a0
   refine .z rfl (.z rfl (.q rfl (.pickF rfl rfl) (.nil (o _ _ ?_))))
   refine .condF rfl ?_
   refine .skip ?_
   refine n _ _ (.seq (fun K16 x => .region (.mv rfl (.mv rfl (.mv rfl ?_)))))
   refine .q rfl (.mul rfl rfl rfl (by omega) (by omega)) ?_
   refine .q rfl (.add rfl rfl rfl (by omega) (by omega)) ?_
   refine .mv rfl (.nil (x _ _ (.region (.mv rfl (.q rfl (.neg rfl) (.mv rfl (.nil (r _ _ (.region (.mv rfl ?_))))))))))
   refine .q rfl (.add rfl rfl rfl (by omega) (by omega)) ?_
   refine .mv rfl (.nil ?_)
   rw [wrap_sgn]
   refine s (k + 1) _ _ ?_ ?_ ⟨rfl, rfl, rfl, rfl, trivial⟩
   ·
    refine ⟨b, ?_⟩
    exact ⟨by omega, fun e => by have e2 : k = c.obj.toNat := (by omega); subst e2; omega⟩
   omega
  try simp only [sps] at u
  refine .exit ?_
  refine a8 _ _ (.seq (fun K17 a1 => .region (.mv rfl (.mv rfl (.mv rfl (.nil (a1 _ _ ?_)))))))
  refine .ret ?_
  refine j _ _ ?_
  refine ⟨_, _, rfl, rfl, ?_⟩
  have hn := hno (by omega)
  have hx : c.chi k = c.chi c.obj.toNat := by rw [show k = c.obj.toNat + 1 by omega]; exact (Cat.nil_of hn).chi hS 1
  rw [(Cat.eu_ok hC hn).1, (Cat.eu_ok hC hn).2, hx]
  exact ⟨d, rfl⟩
set_option maxHeartbeats 4000000 in
theorem specEuler_c {c : Cat} {p : CatP} {H : GHeap} (hin : c.In H p := by assumption) (hs : c.Small := by assumption) :
    GCalls Try.prog 9 [.agg (c.cells p).toArray] H (fun v H' => H.Le H' ∧ v = .tuple #[.int .i64 c.euV, .int .i64 c.euC]) := by
  refine GCalls.body (N := 33) (rs := [.tmp 2, .tmp 3]) Try.func9 rfl rfl rfl rfl (fun Qx i hend => ?_)
  refine .fg [0] rfl ?_
  have d := GHeap.Le.refl H
  have a := hin
  refine .seq (fun K1 a8 => .region ?_)
  refine .R rfl (.boxR rfl sz_27_D rfl) ?_
  rintro _ H1 ⟨g1, rfl, a2, ge1, b⟩
  replace d := d.trans a2
  replace hin := a.mono d
  have f : Cat.At _ g1 0 c p := ⟨Mem.of_get b, hin⟩
  have x := f.2
  refine .mv rfl (.mv rfl (.nil (a8 _ _ (.seq (fun K2 a5 => .seq (fun K3 a7 => .region ?_))))))
  refine .q rfl (.loadM ag_27_D rfl ⟨rfl, Mem.of_get b⟩) ?_
  refine .callQ rfl rfl rfl rfl @Try.call37 rfl (l02Is_c) ?_
  refine .q rfl (.not rfl) (.nil (a7 _ _ ?_))
  refine .cond rfl (fun h9 => ?_) (fun h9 => ?_)
  ·
   try simp only [sps] at h9
   refine .seq (fun K4 a1 => .region (.mv rfl (.mv rfl (.nil (a1 _ _ ?_)))))
   refine .ret ?_
   refine i _ _ ?_
   refine ⟨_, _, rfl, rfl, ?_⟩
   rw [(Cat.eu_not h9).1, (Cat.eu_not h9).2]; exact ⟨d, rfl⟩
  simp only [sps] at h9
  have hC : c.Is := h9
  have hS := hC.1
  have q1 := hS.obj
  refine .skip ?_
  refine a5 _ _ (.seq (fun K5 a4 => .region (.mv rfl (.mv rfl (.nil (a4 _ _ (.seq (fun K6 a3 => .seq (fun K7 z => .region (.mv rfl (.nil (z _ _ ?_))))))))))))
  refine .block ?_
  refine .loopR (σ := Nat) [(1, some _)] (fun k => [(6, some (.int .i64 (k : Int))), (4, some (.int .i64 (c.chi k))), (5, some (.int .i64 (sgn k)))]) (fun k H' => St [] H1 H' ∧ k ≤ c.obj.toNat) (fun k => c.obj.toNat - k) (0) ⟨rfl, trivial⟩ ⟨rfl, rfl, rfl, trivial⟩ ?_ ?_
  ·
   refine ⟨.refl _ _, ?_⟩
   omega
  rintro k HL1 ⟨e, hI⟩ KL1 w
  refine .forget (fr' := [(6, some (.int .i64 (k : Int))), (4, some (.int .i64 (c.chi k))), (5, some (.int .i64 (sgn k))), (1, some _)]) ⟨rfl, rfl, rfl, rfl, trivial⟩ ?_
  replace d := d.st e (fun k hk => trivial)
  replace b := e.same _ _ trivial b
  replace hin := a.mono d
  clear f x
  have f : Cat.At _ g1 0 c p := ⟨Mem.of_get b, hin⟩
  obtain ⟨a9, -, -, -, -, -, -, -, -⟩ := f.get
  have x := f.2
  have b1 := Cat.nc_bd hS c.mv (k := k) (by omega)
  have b2 := Cat.chi_bd hS (k := k) (by omega)
  have b3 := sgn_bd k
  have b5 := sgn_bd2 (k := k) b1
  refine .seq (fun K8 a0 => .seq (fun K9 a6 => .region (.mv rfl (.q rfl (.fieldAddr fo_27_0_B rfl) ?_))))
  refine .q rfl (.load on_2_A rfl (by first | assumption | exact Mem.of_get b 0 _ rfl)) ?_
  refine .q rfl (.cmp rfl rfl rfl) (.nil (a6 _ _ ?_))
  refine .cond rfl (fun n => ?_) (fun n => ?_)
  ·
   simp only [sps] at n
   refine .skip ?_
   refine a0 _ _ (.seq (fun K10 u => ?_))
   refine .block ?_
   refine .seq (fun K11 s => .region (.mv rfl (.mv rfl ?_)))
   refine .q rfl (.loadM ag_27_D rfl ⟨rfl, Mem.of_get b⟩) ?_
   refine .mv rfl ?_
   refine .call rfl rfl rfl rfl @Try.call39 rfl (l33Walks_c (k := k) (hS := hS) (hk := by omega)) ?_
   rintro _ H20 ⟨g, g20, rfl, at20, ge20⟩
   replace d := d.trans g
   replace e := e.le g
   replace b := g.2 _ _ b
   replace hin := a.mono d
   clear f a9 x
   have f : Cat.At _ g1 0 c p := ⟨Mem.of_get b, hin⟩
   refine .call rfl rfl rfl rfl @Try.call38 rfl (l33Sum_c (c := c) (P := c.mv) (k := k) (h := Ints.of_get (by assumption)) (hS := hS) (hk := by omega)) ?_
   rintro _ _ ⟨rfl, rfl⟩
   refine .q rfl (.mul rfl rfl rfl (by omega) (by omega)) ?_
   refine .q rfl (.add rfl rfl rfl (by omega) (by omega)) ?_
   refine .mv rfl (.nil (s _ _ (.region (.mv rfl (.q rfl (.neg rfl) (.mv rfl (.nil (u _ _ (.region (.mv rfl ?_))))))))))
   refine .q rfl (.add rfl rfl rfl (by omega) (by omega)) ?_
   refine .mv rfl (.nil ?_)
   rw [wrap_sgn]
   refine w (k + 1) _ _ ?_ ?_ ⟨rfl, rfl, rfl, rfl, trivial⟩
   ·
    refine ⟨e, ?_⟩
    omega
   omega
  try simp only [sps] at n
  refine .exit ?_
  refine a3 _ _ (.seq (fun K12 o => .seq (fun K13 t => .region ?_)))
  refine .q rfl (.loadM ag_27_D rfl ⟨rfl, Mem.of_get b⟩) ?_
  refine .q rfl (.fieldAddr fo_27_0_B rfl) ?_
  refine .q rfl (.load on_2_A rfl (by first | assumption | exact Mem.of_get b 0 _ rfl)) ?_
  refine .call rfl rfl rfl rfl @Try.call39 rfl (l33WalksZ_c (m := c.obj) q1.1 (hS := hS) (hk := by omega)) ?_
  rintro _ H29 ⟨j, g29, rfl, at29, ge29⟩
  replace d := d.trans j
  replace b := j.2 _ _ b
  replace hin := a.mono d
  have f : Cat.At _ g1 0 c p := ⟨Mem.of_get b, hin⟩
  refine .call rfl rfl rfl rfl @Try.call38 rfl (l33Sum_c (c := c) (P := c.mv) (k := c.obj.toNat) (h := Ints.of_get (by assumption)) (hS := hS) (hk := by omega)) ?_
  rintro _ _ ⟨rfl, rfl⟩
  refine .q rfl (.cmp rfl rfl rfl) (.nil (t _ _ ?_))
  refine .cond rfl (fun r => ?_) (fun r => ?_)
  ·
   try simp only [sps] at r
   refine .seq (fun K14 y => .region (.mv rfl (.mv rfl (.nil (y _ _ ?_)))))
   refine .ret ?_
   refine i _ _ ?_
   refine ⟨_, _, rfl, rfl, ?_⟩
   obtain rfl : k = c.obj.toNat := by omega
   rw [(Cat.eu_no hC (by omega)).1, (Cat.eu_no hC (by omega)).2]
   exact ⟨d, rfl⟩
  try simp only [sps] at r
  refine .skip ?_
  refine o _ _ (.seq (fun K15 l => .region (.mv rfl (.mv rfl (.mv rfl (.nil (l _ _ ?_)))))))
  refine .ret ?_
  refine i _ _ ?_
  refine ⟨_, _, rfl, rfl, ?_⟩
  obtain rfl : k = c.obj.toNat := by omega
  rw [(Cat.eu_ok hC (by omega)).1, (Cat.eu_ok hC (by omega)).2]
  exact ⟨d, rfl⟩
end Go.Proofs.Ytfanjkbaemhbmaa
namespace Go.GL
def Cat.pw (c : Cat) (f : Int) : Nat → Int
  | 0 => f
  | k + 1 => c.th (c.pw f k) f
structure Cat.Cyc (c : Cat) (f : Int) (k a : Nat) : Prop where
  lt : a < k
  eq : c.pw f k = c.pw f a
  ne : ∀ i j, i < j → j < k → c.pw f i ≠ c.pw f j
inductive Cat.Pw (c : Cat) (f i p e : Int) : Prop
  | err (h : c.code [f] ≠ 0) (hi : i = 0) (hp : p = 0) (he : e = c.code [f])
  | ends (h : c.code [f] = 0) (hn : ¬ c.S f = c.T f) (hi : i = 0) (hp : p = 0) (he : e = 5)
  | yes (h : c.code [f] = 0) (hn : c.S f = c.T f) (k a : Nat) (hc : c.Cyc f k a) (hi : i = (a : Int) + 1) (hp : p = (k : Int) - a) (he : e = 0)
end Go.GL
namespace Go.GL
structure Cat.Chain (c : Cat) (xs : List Int) : Prop where
  all : ∀ i : Nat, i + 1 < xs.length → c.T (xs.getD i 0) = c.S (xs.getD (i + 1) 0)
structure Cat.Ch (c : Cat) (xs : List Int) : Prop where
  rg : ∀ i, i < xs.length → 0 ≤ xs.getD i 0 ∧ xs.getD i 0 < c.src.length
  ch : c.Chain xs
end Go.GL
namespace Go.GL
structure Spn where
  x : Int
  y : Int
  fits : Int → Int → Bool
  alone : Bool
def Cat.spL (c : Cat) (s : Spn) (w : Int) : List (Int × Int) := if s.alone = true then ((c.hom w s.x).filter fun a => s.fits a a).map fun a => (a, a) else (c.hom w s.x).flatMap fun a => ((c.hom w s.y).filter fun b => s.fits a b).map fun b => (a, b)
def Cat.spM (c : Cat) (p : Int × Int) (u : Int) : Int × Int := (c.th u p.1, c.th u p.2)
def Cat.spN (c : Cat) (z : Int) (p : Int × Int) (w : Int) (q : Int × Int) : Nat := ((c.hom w z).filter fun u => decide (c.spM p u = q)).length
structure Cat.SpU (c : Cat) (s : Spn) (z : Int) (p : Int × Int) : Prop where
  all : ∀ w : Nat, (w : Int) < c.obj → ∀ q ∈ c.spL s w, c.spN z p w q = 1
structure Cat.SpV (c : Cat) (s : Spn) (z : Int) (p : Int × Int) : Prop where
  all : ∀ w : Nat, (w : Int) < c.obj → (c.hom w z).length = (c.spL s w).length ∧ ((c.hom w z).map (c.spM p)).Nodup
structure Cat.SpC (c : Cat) (s : Spn) : Prop where
  go : ∀ (w z : Nat) (p : Int × Int) (u : Int), p ∈ c.spL s z → u ∈ c.hom w z → c.spM p u ∈ c.spL s w
structure Cat.SpE (c : Cat) (s : Spn) : Prop where
  ex : ∃ z : Nat, (z : Int) < c.obj ∧ ∃ p ∈ c.spL s z, c.SpU s z p
end Go.GL
namespace Go.GL
open Go.RowKit
section
variable {P : Program} {B : Nat} {w0 : World} {ρ : Place} {H : GHeap} {w : World} {fr : Slots} {o : Oper} {R : Option Value → GHeap → Prop}
end
end Go.GL
namespace Go.GL
open Go.RowKit
def prs (l : List (Int × Int)) : List Value := l.flatMap fun p => [.int .i64 p.1, .int .i64 p.2]
theorem prs_snoc (l : List (Int × Int)) (a b : Int) : prs (l ++ [(a, b)]) = prs l ++ [.int .i64 a, .int .i64 b] := by simp [prs]
@[simp] theorem length_prs (l : List (Int × Int)) : (prs l).length = l.length * 2 := by
  induction l with
  | nil => rfl
  | cons p l ih =>
    unfold prs at ih ⊢
    simp only [List.flatMap_cons, List.length_append, List.length_cons, List.length_nil, ih]
    omega
theorem prs_get {l : List (Int × Int)} {i j : Nat} (hi : i < l.length) (hj : j < 2) : (prs l)[i * 2 + j]? = [Value.int .i64 (l.getD i (0, 0)).1, .int .i64 (l.getD i (0, 0)).2][j]? := by
  induction l generalizing i with
  | nil => simp at hi
  | cons p l ih =>
    unfold prs
    rw [List.flatMap_cons]
    cases i with
    | zero =>
      rw [List.getElem?_append_left (by simp; omega)]
      simp only [Nat.zero_mul, Nat.zero_add, List.getD_cons_zero]
    | succ i =>
      rw [List.getElem?_append_right (by simp; omega)]
      simp only [List.length_cons, List.length_nil, List.getD_cons_succ]
      have := ih (i := i) (by simpa using hi)
      unfold prs at this
      rw [← this]
      congr 1
      omega
theorem prs_sl {H : GHeap} {g : Nat} {e : TypeId} {own : Bool} {l : List (Int × Int)} (hg : H.get g = some (.row (prs l) e own)) : SlA H (some ⟨g, 0, none⟩) (l.length * 2) (fun i => (prs l).getD i undef) :=
  .inr ⟨g, 0, rfl, fun i hi => by
    rw [GHeap.cell_of hg, Nat.zero_add]
    show _ = some ((prs l).getD i undef)
    rw [List.getD_eq_getElem?_getD, List.getElem?_eq_getElem (by rw [length_prs]; exact hi)]; rfl⟩
theorem prs_mem {H : GHeap} {g : Nat} {e : TypeId} {own : Bool} {l : List (Int × Int)} (hg : H.get g = some (.row (prs l) e own)) {i : Nat} (hi : i < l.length) :
    MemN H g (0 + (i : Int).toNat * 2) 2 [.int .i64 (l.getD i (0, 0)).1, .int .i64 (l.getD i (0, 0)).2] := by
  refine ⟨rfl, fun j v hv => ?_⟩
  rw [GHeap.cell_of hg, Int.toNat_natCast, Nat.zero_add]
  match j, hv with
  | 0, hv => rw [prs_get hi (by omega)]; exact hv
  | 1, hv => rw [prs_get hi (by omega)]; exact hv
  | n + 2, hv => simp at hv
structure PrsAt (b : Nat) (e : TypeId) (H : GHeap) (g : Nat) (l : List (Int × Int)) : Prop where
  lo : b ≤ g
  at' : H.get g = some (.row (prs l) e true)
def LastsN (T0 : TypeId) (H H' : GHeap) : Prop := ∀ e, (e != T0) = true → LastsV e H H'
structure SpnF (P : Program) (T0 : TypeId) (c : Cat) (gc : Nat) (p : CatP) (fn : Nat) (cap : Array Value) (s : Spn) (H : GHeap) : Prop where
  code : ∀ (xs : Array Value) (w : World), (callFunc fn xs).run P w = .ok (.enter fn xs) w
  run : ∀ H', LastsN T0 H H' → Cat.At H' gc 0 c p → ∀ (w : Nat) (a b : Int), a ∈ c.hom w s.x → (s.alone = true → b = a) → (¬ s.alone = true → b ∈ c.hom w s.y) → GCalls P fn ([.int .i64 a, .int .i64 b] ++ cap.toList) H' (Ret (.bool (s.fits a b)) H')
def SpnAt (P : Program) (TS T0 : TypeId) (c : Cat) (gc : Nat) (p : CatP) (H : GHeap) (g : Nat) (s : Spn) : Prop :=
  ∃ fn cap, H.get g = some (.row [.pointer (some ⟨gc, 0, none⟩), .int .i64 s.x, .int .i64 s.y, .func (.func fn) #[] cap, .bool s.alone] TS true) ∧ SpnF P T0 c gc p fn cap s H
def Spn.z : Spn := ⟨0, 0, fun _ _ => true, false⟩
structure SpnsAt (P : Program) (TS T0 : TypeId) (c : Cat) (gc : Nat) (p : CatP) (H : GHeap) (gs : List Nat) (ss : List Spn) : Prop where
  len : gs.length = ss.length
  row : ∀ i, i < ss.length → SpnAt P TS T0 c gc p H (gs.getD i 0) (ss.getD i .z)
structure Bef (n f t : Nat) (Q : Nat → Nat → Prop) : Prop where
  all : ∀ f' g', f' ≤ g' → g' < n → (f' < f ∨ (f' = f ∧ g' < t)) → Q f' g'
structure BefA (n f t : Nat) (Q : Nat → Nat → Prop) : Prop where
  all : ∀ f' g', g' < n → (f' < f ∨ (f' = f ∧ g' < t)) → Q f' g'
structure Spns3 (P : Program) (TS T0 : TypeId) (c : Cat) (gc : Nat) (p : CatP) (H : GHeap) (gs : List Nat) (ss : List Spn) (us : List Nat) (es : List Spn) (ws : List Nat) (ps : List Spn) : Prop where
  a : SpnsAt P TS T0 c gc p H gs ss
  b : SpnsAt P TS T0 c gc p H us es
  d : SpnsAt P TS T0 c gc p H ws ps
  ac : ∀ s ∈ ss, c.SpC s
  bc : ∀ s ∈ es, c.SpC s
  dc : ∀ s ∈ ps, c.SpC s
section
variable {P : Program} {TS T0 : TypeId} {c : Cat} {gc : Nat} {p : CatP} {H H' : GHeap} {gs us ws : List Nat} {ss es ps : List Spn} {g : Nat} {s : Spn}
end
end Go.GL
namespace Go.GL
open Go.RowKit
section
variable {P : Program} {fr : Slots} {H : GHeap}
theorem MStep.andn {t u : TypeId} {x y : Operand} {a : Int} (hx : ev fr x = some (.int .i64 a)) (hy : ev fr y = some (.int .i64 1)) (h : a = 0 ∨ a = 1) : MStep P fr H (.binOp .andNot t x y u) (.int .i64 0) := by
  rcases h with rfl | rfl
  · exact .intOp hx hy fun w => rfl
  · exact .intOp hx hy fun w => rfl
end
def idxP (l : List (Int × Int)) (p : Int × Int) : Int := idxLL (l.map fun q => [q.1, q.2]) [p.1, p.2]
theorem idxP_at {l : List (Int × Int)} {p : Int × Int} {k : Nat} (hk : k < l.length) : (l.map fun q => [q.1, q.2]).getD k [] = [p.1, p.2] ↔ l.getD k (0, 0) = p := by
  rw [List.getD_eq_getElem?_getD, List.getElem?_map, List.getElem?_eq_getElem hk, List.getD_eq_getElem?_getD, List.getElem?_eq_getElem hk]
  show [l[k].1, l[k].2] = [p.1, p.2] ↔ l[k] = p
  constructor
  · intro e
    injection e with e1 e2
    injection e2 with e2 _
    exact Prod.ext e1 e2
  · intro e; rw [e]
theorem idxP_some {l : List (Int × Int)} {p : Int × Int} {k : Nat} (hk : k < l.length) (h : l.getD k (0, 0) = p) (h0 : ∀ j, j < k → ¬ l.getD j (0, 0) = p) : idxP l p = (k : Int) :=
  idxLL_some (by rw [List.length_map]; exact hk) ((idxP_at hk).2 h) fun j hj e => h0 j hj ((idxP_at (by omega)).1 e)
theorem idxP_none {l : List (Int × Int)} {p : Int × Int} (h0 : ∀ j, j < l.length → ¬ l.getD j (0, 0) = p) : idxP l p = -1 :=
  idxLL_none fun j hj e => by
    rw [List.length_map] at hj
    exact h0 j hj ((idxP_at hj).1 e)
def veeR : List (List Int) := [[1, 1, 1], [0, 1, 0], [0, 0, 1]]
def veeP : List (Int × Int) := [(0, 0), (0, 1), (0, 2), (1, 1), (2, 2)]
def vkN (t : Nat) : Nat := [0, 1, 2, 3, 3, 4, 4, 4, 4, 5].getD t 5
def viN (t : Nat) : Nat := [0, 1, 1, 1, 1, 2, 2, 2, 2, 3].getD t 3
def vP (t : Nat) : List (Int × Int) := veeP.take (vkN t)
def vS (t : Nat) : List Int := (vP t).map Prod.fst
def vT (t : Nat) : List Int := (vP t).map Prod.snd
def vI (t : Nat) : List Int := [0, 3, 4].take (viN t)
@[simp] theorem length_vS (t : Nat) : (vS t).length = (vP t).length := by simp [vS]
@[simp] theorem length_vT (t : Nat) : (vT t).length = (vP t).length := by simp [vT]
theorem vP_le (t : Nat) : (vP t).length ≤ 5 := by unfold vP; exact Nat.le_trans (List.length_take_le' ..) (by decide)
theorem vI_le (t : Nat) : (vI t).length ≤ 3 := by unfold vI; exact Nat.le_trans (List.length_take_le' ..) (by decide)
theorem vee_T {i j : Nat} (hi : i < 3) (hj : j < 3) (h : ¬ (veeR.getD i []).getD j 0 = 0) : vP (3 * i + (j + 1)) = vP (3 * i + j) ++ [((i : Int), (j : Int))] ∧ vS (3 * i + (j + 1)) = vS (3 * i + j) ++ [(i : Int)] ∧ vT (3 * i + (j + 1)) = vT (3 * i + j) ++ [(j : Int)] := by
  have h0 : ∀ i, i < 3 → ∀ j, j < 3 → ¬ (veeR.getD i []).getD j 0 = 0 → vP (3 * i + (j + 1)) = vP (3 * i + j) ++ [((i : Int), (j : Int))] := by decide
  have h1 : ∀ i, i < 3 → ∀ j, j < 3 → ¬ (veeR.getD i []).getD j 0 = 0 → vS (3 * i + (j + 1)) = vS (3 * i + j) ++ [(i : Int)] := by decide
  have h2 : ∀ i, i < 3 → ∀ j, j < 3 → ¬ (veeR.getD i []).getD j 0 = 0 → vT (3 * i + (j + 1)) = vT (3 * i + j) ++ [(j : Int)] := by decide
  exact ⟨h0 i hi j hj h, h1 i hi j hj h, h2 i hi j hj h⟩
theorem vee_F {i j : Nat} (hi : i < 3) (hj : j < 3) (h : (veeR.getD i []).getD j 0 = 0) : vP (3 * i + (j + 1)) = vP (3 * i + j) ∧ vS (3 * i + (j + 1)) = vS (3 * i + j) ∧ vT (3 * i + (j + 1)) = vT (3 * i + j) ∧ vI (3 * i + (j + 1)) = vI (3 * i + j) := by
  have h0 : ∀ i, i < 3 → ∀ j, j < 3 → (veeR.getD i []).getD j 0 = 0 → vP (3 * i + (j + 1)) = vP (3 * i + j) := by decide
  have h1 : ∀ i, i < 3 → ∀ j, j < 3 → (veeR.getD i []).getD j 0 = 0 → vS (3 * i + (j + 1)) = vS (3 * i + j) := by decide
  have h2 : ∀ i, i < 3 → ∀ j, j < 3 → (veeR.getD i []).getD j 0 = 0 → vT (3 * i + (j + 1)) = vT (3 * i + j) := by decide
  have h3 : ∀ i, i < 3 → ∀ j, j < 3 → (veeR.getD i []).getD j 0 = 0 → vI (3 * i + (j + 1)) = vI (3 * i + j) := by decide
  exact ⟨h0 i hi j hj h, h1 i hi j hj h, h2 i hi j hj h, h3 i hi j hj h⟩
theorem vee_I {i : Nat} (hi : i < 3) : vI (3 * i + (i + 1)) = vI (3 * i + i) ++ [((vP (3 * i + i)).length : Int)] := by
  have : ∀ i, i < 3 → vI (3 * i + (i + 1)) = vI (3 * i + i) ++ [((vP (3 * i + i)).length : Int)] := by decide
  exact this i hi
theorem vee_N {i j : Nat} (hi : i < 3) (hj : j < 3) (h : ¬ i = j) : vI (3 * i + (j + 1)) = vI (3 * i + j) := by
  have : ∀ i, i < 3 → ∀ j, j < 3 → ¬ i = j → vI (3 * i + (j + 1)) = vI (3 * i + j) := by decide
  exact this i hi j hj h
theorem vee_row {i : Nat} (hi : i < 3) : (veeR.getD i []).length = 3 := by
  have : ∀ i, i < 3 → (veeR.getD i []).length = 3 := by decide
  exact this i hi
theorem vee_01 {i j : Nat} (hi : i < 3) (hj : j < 3) : (veeR.getD i []).getD j 0 = 0 ∨ (veeR.getD i []).getD j 0 = 1 := by
  have : ∀ i, i < 3 → ∀ j, j < 3 → (veeR.getD i []).getD j 0 = 0 ∨ (veeR.getD i []).getD j 0 = 1 := by decide
  exact this i hi j hj
theorem vee_11 {i : Nat} (hi : i < 3) : (veeR.getD i []).getD i 0 = 1 := by
  have : ∀ i, i < 3 → (veeR.getD i []).getD i 0 = 1 := by decide
  exact this i hi
theorem vee_tr {i j k : Nat} (hi : i < 3) (hj : j < 3) (hk : k < 3) (h : ¬ (veeR.getD i []).getD j 0 = 0) : (veeR.getD j []).getD k 0 ≤ (veeR.getD i []).getD k 0 := by
  have : ∀ i, i < 3 → ∀ j, j < 3 → ∀ k, k < 3 → ¬ (veeR.getD i []).getD j 0 = 0 → (veeR.getD j []).getD k 0 ≤ (veeR.getD i []).getD k 0 := by decide
  exact this i hi j hj k hk h
end Go.GL
