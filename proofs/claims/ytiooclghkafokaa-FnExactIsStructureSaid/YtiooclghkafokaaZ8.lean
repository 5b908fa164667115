/- Structures: tuples and their numbers. No condition. -/
import Derived.Test.YtiooclghkafokaaZ7
namespace Go.GL
theorem MStep.quoN {P : Program} {fr : Slots} {H : GHeap} {t u : TypeId} {x y : Operand} {a b : Int} (hx : ev fr x = some (.int .i64 a)) (hy : ev fr y = some (.int .i64 b)) (ha : 0 ≤ a) (hb : 0 < b) (hm : a ≤ 9223372036854775807) : MStep P fr H (.binOp .quo t x y u) (.int .i64 (a / b)) := by
  have h := MStep.quo (P := P) (H := H) (t := t) (u := u) hx hy (by omega)
  have h1 := Int.ediv_nonneg ha (Int.le_of_lt hb)
  have h2 := Int.ediv_le_self b ha
  rw [Int.tdiv_eq_ediv_of_nonneg ha, show IntKind.i64.wrap (a / b) = a / b by rw [IntKind.wrap_i64]; omega] at h
  exact h
theorem MStep.remN {P : Program} {fr : Slots} {H : GHeap} {t u : TypeId} {x y : Operand} {a b : Int} (hx : ev fr x = some (.int .i64 a)) (hy : ev fr y = some (.int .i64 b)) (ha : 0 ≤ a) (hb : 0 < b) : MStep P fr H (.binOp .rem t x y u) (.int .i64 (a % b)) := by
  have h := MStep.rem (P := P) (H := H) (t := t) (u := u) hx hy (by omega)
  rw [Int.tmod_eq_emod_of_nonneg ha] at h
  exact h
theorem quo_big {b : Int} (h0 : 0 < b) (h : b ≤ 16) : 62500000000 ≤ 1000000000000 / b := Int.le_ediv_of_mul_le h0 (by omega)
def prodN (l : List Int) : Nat → Int
  | 0 => 1
  | n + 1 => prodN l n * l.getD n 0
theorem prodN_nn {l : List Int} (h : ∀ i, i < l.length → 0 ≤ l.getD i 0) : ∀ {n}, n ≤ l.length → 0 ≤ prodN l n
  | 0, _ => by show (0 : Int) ≤ 1; omega
  | n + 1, hn => Int.mul_nonneg (prodN_nn h (by omega)) (h n (by omega))
theorem prodN_zero {l : List Int} {i : Nat} (hi : l.getD i 0 = 0) : ∀ {n}, i < n → prodN l n = 0
  | n + 1, hn => by
    by_cases e : i = n
    · subst e; show prodN l i * l.getD i 0 = 0; rw [hi, Int.mul_zero]
    · show prodN l n * _ = 0; rw [prodN_zero hi (by omega), Int.zero_mul]
theorem prodN_pos {l : List Int} (h : ∀ i, i < l.length → 0 ≤ l.getD i 0) {n : Nat} (hn : n ≤ l.length) (hp : 0 < prodN l n) {i : Nat} (hi : i < n) : 0 < l.getD i 0 := by
  have := h i (by omega)
  by_cases e : l.getD i 0 = 0
  · rw [prodN_zero e hi] at hp; omega
  · omega
theorem prodN_le {l : List Int} (h : ∀ i, i < l.length → 0 ≤ l.getD i 0 ∧ l.getD i 0 ≤ 16) (hl : l.length ≤ 2) {n : Nat} (hn : n ≤ l.length) : 0 ≤ prodN l n ∧ prodN l n ≤ 256 := by
  refine ⟨prodN_nn (fun i hi => (h i hi).1) hn, ?_⟩
  rcases (show n = 0 ∨ n = 1 ∨ n = 2 by omega) with rfl | rfl | rfl
  · show (1 : Int) ≤ 256; omega
  · have := h 0 (by omega)
    show (1 : Int) * l.getD 0 0 ≤ 256
    omega
  · have h0 := h 0 (by omega)
    have h1 := h 1 (by omega)
    have := Int.mul_le_mul h0.2 h1.2 h1.1 (by omega)
    show (1 : Int) * l.getD 0 0 * l.getD 1 0 ≤ 256
    rw [Int.one_mul]
    omega
def remV (l : List Int) (v : Int) : Nat → Int
  | 0 => v
  | j + 1 => remV l v j / l.getD (l.length - 1 - j) 0
theorem remV_nn {l : List Int} {v : Int} (h0 : 0 ≤ v) (h : ∀ i, i < l.length → 0 ≤ l.getD i 0) : ∀ {j}, j ≤ l.length → 0 ≤ remV l v j ∧ remV l v j ≤ v
  | 0, _ => ⟨h0, Int.le_refl _⟩
  | j + 1, hj => by
    have h1 := remV_nn h0 h (j := j) (by omega)
    have h2 := h (l.length - 1 - j) (by omega)
    show 0 ≤ _ / _ ∧ _ / _ ≤ v
    exact ⟨Int.ediv_nonneg h1.1 h2, Int.le_trans (Int.ediv_le_self _ h1.1) h1.2⟩
def digV (l : List Int) (v : Int) (i : Nat) : Int := remV l v (l.length - 1 - i) % l.getD i 0
def digP (l : List Int) (v : Int) (k : Nat) : List Int := (List.range l.length).map fun i => if k ≤ i then digV l v i else 0
@[simp] theorem length_digP (l : List Int) (v : Int) (k : Nat) : (digP l v k).length = l.length := by simp [digP]
theorem digP_get {l : List Int} {v : Int} {k i : Nat} (h : i < l.length) : (digP l v k).getD i 0 = if k ≤ i then digV l v i else 0 := by simp [digP, List.getD_eq_getElem?_getD, h]
theorem digP_start (l : List Int) (v : Int) : digP l v l.length = List.replicate l.length 0 := by
  refine List.eq_replicate_iff.2 ⟨by simp, fun b hb => ?_⟩
  obtain ⟨i, hi, rfl⟩ := List.mem_map.1 hb
  have := List.mem_range.1 hi
  exact if_neg (by omega)
theorem digP_set {l : List Int} {v : Int} {k : Nat} (hk : k < l.length) : (digP l v (k + 1)).set k (digV l v k) = digP l v k := by
  refine eq_of_getD (by simp) fun i hi => ?_
  rw [length_digP] at hi
  rw [getD_set (by simpa using hk), digP_get hi, digP_get hi]
  by_cases e : i = k
  · subst e; rw [if_pos rfl, if_pos (Nat.le_refl _)]
  · rw [if_neg e]
    by_cases e2 : k + 1 ≤ i
    · rw [if_pos e2, if_pos (by omega)]
    · rw [if_neg e2, if_neg (by omega)]
theorem remV_next {l : List Int} {v : Int} {k : Nat} (hk : k < l.length) : remV l v (l.length - k) = remV l v (l.length - 1 - k) / l.getD k 0 := by
  rw [show l.length - k = (l.length - 1 - k) + 1 by omega]
  show _ / l.getD (l.length - 1 - (l.length - 1 - k)) 0 = _
  rw [show l.length - 1 - (l.length - 1 - k) = k by omega]
def digL (l : List Int) (v : Int) : List Int := digP l v 0
theorem digL_in {l : List Int} {v : Int} {i : Nat} (hi : i < l.length) (h : 0 < l.getD i 0) : 0 ≤ (digL l v).getD i 0 ∧ (digL l v).getD i 0 < l.getD i 0 := by
  unfold digL
  rw [digP_get hi, if_pos (Nat.zero_le _)]
  unfold digV
  exact ⟨Int.emod_nonneg _ (by omega), Int.emod_lt_of_pos _ h⟩
def numN (l d : List Int) : Nat → Int
  | 0 => 0
  | n + 1 => numN l d n * l.getD n 0 + d.getD n 0
theorem numN_in {l d : List Int} {m : Nat} (h : ∀ i, i < m → 0 ≤ d.getD i 0 ∧ d.getD i 0 < l.getD i 0) : ∀ {n}, n ≤ m → 0 ≤ numN l d n ∧ numN l d n < prodN l n
  | 0, _ => by show (0 : Int) ≤ 0 ∧ (0 : Int) < 1; omega
  | n + 1, hn => by
    have h1 := numN_in h (n := n) (by omega)
    have h2 := h n (by omega)
    show 0 ≤ numN l d n * l.getD n 0 + d.getD n 0 ∧ numN l d n * l.getD n 0 + d.getD n 0 < prodN l n * l.getD n 0
    have h3 := Int.mul_nonneg h1.1 (show 0 ≤ l.getD n 0 by omega)
    have h4 := Int.mul_le_mul_of_nonneg_right (show numN l d n + 1 ≤ prodN l n by omega) (show 0 ≤ l.getD n 0 by omega)
    rw [Int.add_mul, Int.one_mul] at h4
    omega
def szsL (fs : List SFun) (so : List Int) (x : Nat) : List Int := so.map fun s => (fs.getD s.toNat SFun.z).sz.getD x 0
@[simp] theorem length_szsL (fs : List SFun) (so : List Int) (x : Nat) : (szsL fs so x).length = so.length := by simp [szsL]
theorem szsL_get {fs : List SFun} {so : List Int} {x i : Nat} (h : i < so.length) : (szsL fs so x).getD i 0 = (fs.getD (so.getD i 0).toNat SFun.z).sz.getD x 0 := by
  unfold szsL
  rw [List.getD_eq_getElem?_getD, List.getElem?_map, List.getElem?_eq_getElem h, List.getD_eq_getElem?_getD (l := so), List.getElem?_eq_getElem h]
  rfl
theorem szsL_snoc {fs : List SFun} {so : List Int} {x k : Nat} (h : k < so.length) : szsL fs (so.take (k + 1)) x = szsL fs (so.take k) x ++ [(fs.getD (so.getD k 0).toNat SFun.z).sz.getD x 0] := by
  unfold szsL
  rw [List.take_succ_eq_append_getElem h, List.map_append, List.getD_eq_getElem?_getD (l := so), List.getElem?_eq_getElem h]
  rfl
def tupN (fs : List SFun) (so : List Int) (x : Nat) : Int := prodN (szsL fs so x) so.length
def movD (fs : List SFun) (so : List Int) (a : Nat) (d : List Int) (k : Nat) : List Int := (List.range d.length).map fun i => if i < k then ((fs.getD (so.getD i 0).toNat SFun.z).ac.getD a []).getD (d.getD i 0).toNat 0 else d.getD i 0
@[simp] theorem length_movD (fs : List SFun) (so : List Int) (a : Nat) (d : List Int) (k : Nat) : (movD fs so a d k).length = d.length := by simp [movD]
theorem movD_get {fs : List SFun} {so d : List Int} {a k i : Nat} (h : i < d.length) : (movD fs so a d k).getD i 0 = if i < k then ((fs.getD (so.getD i 0).toNat SFun.z).ac.getD a []).getD (d.getD i 0).toNat 0 else d.getD i 0 := by simp [movD, List.getD_eq_getElem?_getD, h]
theorem movD_zero (fs : List SFun) (so : List Int) (a : Nat) (d : List Int) : movD fs so a d 0 = d := by
  refine eq_of_getD (by simp) fun i hi => ?_
  rw [movD_get (by simpa using hi), if_neg (Nat.not_lt_zero i)]
theorem movD_set {fs : List SFun} {so d : List Int} {a k : Nat} (h : k < d.length) : (movD fs so a d k).set k (((fs.getD (so.getD k 0).toNat SFun.z).ac.getD a []).getD ((movD fs so a d k).getD k 0).toNat 0) = movD fs so a d (k + 1) := by
  refine eq_of_getD (by simp) fun i hi => ?_
  rw [length_movD] at hi
  rw [getD_set (by simpa using h), movD_get hi, movD_get hi, movD_get h, if_neg (Nat.lt_irrefl k)]
  by_cases e : i = k
  · subst e; rw [if_pos rfl, if_pos (by omega)]
  · rw [if_neg e]
    by_cases e2 : i < k
    · rw [if_pos e2, if_pos (by omega)]
    · rw [if_neg e2, if_neg (by omega)]
def movN (fs : List SFun) (so : List Int) (x y a : Nat) (v : Int) : Int := numN (szsL fs so y) (movD fs so a (digL (szsL fs so x) v) so.length) so.length
end Go.GL
namespace Go.Proofs.Ytiooclghkafokaa
open Go Go.GL Go.RowKit Go.Proofs
theorem l01Total_c {a : Option Addr} {l : List Int} {H : GHeap} (h : Ints H a l := by assumption) (hl : ∀ i, i < l.length → 0 ≤ l.getD i 0 ∧ l.getD i 0 ≤ 16) (hn : l.length ≤ 2) :
    GCalls Try.prog 189 [.slice a l.length l.length] H (Ret (.int .i64 (prodN l l.length)) H) := by
  refine GCalls.ret rfl ?_
  refine GCalls.body (N := 37) (rs := [.tmp 2]) Try.func189 rfl rfl rfl rfl (fun Qx j hend => ?_)
  refine .fg [0] rfl ?_
  have g := GHeap.Le.refl H
  have c := h
  refine .seq (fun K1 a8 => .region (.mv rfl (.nil (a8 _ _ (.seq (fun K2 a5 => .seq (fun K3 b0 => .region (.mv rfl (.nil (b0 _ _ ?_))))))))))
  refine .block ?_
  refine .loopR (σ := Nat) [(0, some _)] (fun k => [(3, some (.int .i64 (k : Int)))]) (fun k H' => St [] H H' ∧ k ≤ l.length ∧ ∀ i, i < k → ¬ l.getD i 0 = 0) (fun k => l.length - k) (0) ⟨rfl, trivial⟩ ⟨rfl, trivial⟩ ?_ ?_
  ·
   refine ⟨.refl _ _, ?_⟩
   exact ⟨by omega, fun i hi => by omega⟩
  rintro k HL1 ⟨d, hI⟩ KL1 s
  refine .forget (fr' := [(3, some (.int .i64 (k : Int))), (0, some _)]) ⟨rfl, rfl, trivial⟩ ?_
  have nx_HL1 := d.nx
  replace g := g.st d (fun k hk => trivial)
  replace h := c.mono g
  obtain ⟨hk, hnz⟩ := hI
  refine .seq (fun K4 a6 => .seq (fun K5 a7 => .region (.mv rfl (.mv rfl (.q rfl (.len sl_24_A rfl) (.q rfl (.cmp rfl rfl rfl) (.nil (a7 _ _ ?_))))))))
  refine .cond rfl (fun h9 => ?_) (fun h9 => ?_)
  ·
   simp only [sps] at h9
   refine .skip ?_
   refine a6 _ _ (.seq (fun K6 a3 => ?_))
   refine .block ?_
   refine .seq (fun K7 a4 => .region (.mv rfl (.mv rfl ?_)))
   refine .q rfl (.idxN sl_24_A (by assumption) rfl rfl (by omega)) ?_
   refine .q rfl (.loadI on_2_A (by assumption) rfl (by omega)) ?_
   refine .q rfl (.cmp rfl rfl rfl) (.nil (a4 _ _ ?_))
   refine .cond rfl (fun a0 => ?_) (fun a0 => ?_)
   ·
    simp only [sps] at a0
    refine .seq (fun K8 a9 => .region (.mv rfl (.nil (a9 _ _ ?_))))
    refine .ret ?_
    refine j _ _ ?_
    refine ⟨_, rfl, ?_⟩
    rw [prodN_zero (i := k) (by assumption) (by omega)]
    exact ⟨rfl, g⟩
   simp only [sps] at a0
   refine .skip ?_
   refine a3 _ _ (.region (.mv rfl ?_))
   refine .q rfl (.add rfl rfl rfl (by omega) (by omega)) ?_
   refine .mv rfl (.nil ?_)
   refine s (k + 1) _ _ ?_ ?_ ⟨rfl, rfl, trivial⟩
   ·
    refine ⟨d, ?_⟩
    exact ⟨by omega, fun i hi => by
    by_cases e : i < k
    · exact hnz i e
    · obtain rfl : i = k := by omega
      assumption⟩
   omega
  simp only [sps] at h9
  refine .exit ?_
  refine a5 _ _ (.seq (fun K9 a2 => .region (.mv rfl (.nil (a2 _ _ (.seq (fun K10 y => .seq (fun K11 t => .region (.mv rfl (.nil (t _ _ ?_)))))))))))
  refine .block ?_
  refine .loopR (σ := Nat) [(0, some _)] (fun m => [(5, some (.int .i64 (m : Int))), (4, some (.int .i64 (prodN l m)))]) (fun m H' => St [] HL1 H' ∧ m ≤ l.length) (fun m => l.length - m) (0) ⟨rfl, trivial⟩ ⟨rfl, rfl, trivial⟩ ?_ ?_
  ·
   refine ⟨.refl _ _, ?_⟩
   omega
  rintro m HL2 ⟨f, hI⟩ KL2 w
  refine .forget (fr' := [(5, some (.int .i64 (m : Int))), (4, some (.int .i64 (prodN l m))), (0, some _)]) ⟨rfl, rfl, rfl, trivial⟩ ?_
  have nx_HL2 := f.nx
  replace g := g.st f (fun k hk => trivial)
  replace d := d.sA f
  replace h := c.mono g
  have hp := prodN_le hl hn hI
  refine .seq (fun K12 z => .seq (fun K13 v => .region (.mv rfl (.mv rfl (.q rfl (.len sl_24_A rfl) (.q rfl (.cmp rfl rfl rfl) (.nil (v _ _ ?_))))))))
  refine .cond rfl (fun x => ?_) (fun x => ?_)
  ·
   simp only [sps] at x
   have hm0 := hnz m (by omega)
   have hm1 := hl m (by omega)
   have hqb := quo_big (b := l.getD m 0) (by omega) (by omega)
   have hp1 := prodN_le hl hn (n := m + 1) (by omega)
   have hp2 : prodN l (m + 1) = prodN l m * l.getD m 0 := rfl
   refine .skip ?_
   refine z _ _ (.seq (fun K14 o => ?_))
   refine .block ?_
   refine .seq (fun K15 a1 => .seq (fun K16 u => .region (.mv rfl (.mv rfl (.mv rfl ?_)))))
   refine .q rfl (.idxN sl_24_A (by assumption) rfl rfl (by omega)) ?_
   refine .q rfl (.loadI on_2_A (by assumption) rfl (by omega)) ?_
   refine .q rfl (.quoN rfl rfl (by omega) (by omega) (by omega)) ?_
   refine .q rfl (.cmp rfl rfl rfl) (.nil (u _ _ ?_))
   refine .cond rfl (fun r => ?_) (fun r => ?_)
   ·
    simp only [sps] at r; omega
   try simp only [sps] at r
   refine .skip ?_
   refine a1 _ _ (.region (.mv rfl (.mv rfl (.mv rfl ?_))))
   refine .q rfl (.idxN sl_24_A (by assumption) rfl rfl (by omega)) ?_
   refine .q rfl (.loadI on_2_A (by assumption) rfl (by omega)) ?_
   refine .q rfl (.mul rfl rfl rfl (by omega) (by omega)) ?_
   refine .mv rfl (.nil (o _ _ (.region (.mv rfl ?_))))
   refine .q rfl (.add rfl rfl rfl (by omega) (by omega)) ?_
   refine .mv rfl (.nil ?_)
   refine w (m + 1) _ _ ?_ ?_ ⟨rfl, rfl, rfl, trivial⟩
   ·
    refine ⟨f, ?_⟩
    omega
   omega
  try simp only [sps] at x
  refine .exit ?_
  refine y _ _ (.seq (fun K17 p => .region (.mv rfl (.mv rfl (.nil (p _ _ ?_))))))
  refine .ret ?_
  refine j _ _ ?_
  refine ⟨_, rfl, ?_⟩
  obtain rfl : m = l.length := by omega
  exact ⟨rfl, g⟩
theorem l01At_c {a : Option Addr} {l : List Int} {v : Int} {H : GHeap} (h : Ints H a l := by assumption) (hl : ∀ i, i < l.length → 0 < l.getD i 0) (hn : l.length ≤ 2) (h0 : 0 ≤ v) (h1 : v ≤ 1048576) :
    GCalls Try.prog 191 [.slice a l.length l.length, .int .i64 v] H (NewInts 2 H (digL l v)) := by
  refine GCalls.body (N := 33) (rs := [.tmp 4]) Try.func191 rfl rfl rfl rfl (fun Qx m hend => ?_)
  refine .fg [0, 1] rfl ?_
  have g := GHeap.Le.refl H
  have c := h
  refine .seq (fun K1 a2 => .region (.mv rfl (.nil (a2 _ _ (.seq (fun K2 z => .region (.mv rfl (.q rfl (.len sl_24_A rfl) ?_))))))))
  refine .R rfl (.makeIN rfl sl_24_A ze_2_E by_2_E rfl rfl (by omega) (by omega) (by omega)) ?_
  rintro _ H9 ⟨g9, rfl, p, ge9, t⟩
  have nx_H9 := p.1
  replace g := g.trans p
  have lt_at9 := GHeap.ltg t
  replace h := c.mono g
  refine .mv rfl (.nil (z _ _ (.seq (fun K3 a4 => .seq (fun K4 a0 => .region (.mv rfl (.q rfl (.len sl_24_A rfl) ?_)))))))
  refine .q rfl (.sub rfl rfl rfl (by omega) (by omega)) ?_
  refine .mv rfl (.nil (a0 _ _ ?_))
  refine .block ?_
  refine .loopR (σ := Nat × Int) [(0, some _), (5, some _)] (fun (k, w) => [(6, some (.int .i64 ((k : Int) - 1))), (1, some (.int .i64 w))]) (fun (k, w) H' => St [g9] H9 H' ∧ H'.get g9 = some (.row (ints (digP l v k)) 2 true) ∧ k ≤ l.length ∧ w = remV l v (l.length - k)) (fun (k, w) => k) ((l.length, v)) ⟨rfl, rfl, trivial⟩ ⟨rfl, rfl, trivial⟩ ?_ ?_
  ·
   refine ⟨.refl _ _, by first | assumption | (rw [digP_start]; assumption) | (rw [digP_start]; simpa using t), ?_⟩
   exact ⟨Nat.le_refl _, by rw [Nat.sub_self]; rfl⟩
  rintro ⟨k, w⟩ HL1 ⟨f, e, hI⟩ KL1 n
  refine .forget (fr' := [(6, some (.int .i64 ((k : Int) - 1))), (1, some (.int .i64 w)), (0, some _), (5, some _)]) ⟨rfl, rfl, rfl, rfl, trivial⟩ ?_
  have nx_HL1 := f.nx
  replace g := g.st f (fun k hk => ⟨by omega, trivial⟩)
  have lt_at_L5 := GHeap.ltg e
  replace h := c.mono g
  obtain ⟨hk, hw⟩ := hI
  have hdl := length_digP l v k
  have hrn := remV_nn h0 (fun i hi => Int.le_of_lt (hl i hi)) (j := l.length - k) (by omega)
  refine .seq (fun K5 a1 => .seq (fun K6 x => .region (.mv rfl (.q rfl (.cmp rfl rfl rfl) (.nil (x _ _ ?_))))))
  refine .cond rfl (fun o => ?_) (fun o => ?_)
  ·
   simp only [sps] at o
   obtain ⟨k', rfl⟩ : ∃ k', k = k' + 1 := ⟨k - 1, by omega⟩
   have e8 : ((k' + 1 : Nat) : Int) - 1 = (k' : Int) := by omega
   rw [e8]
   have s : remV l v (l.length - (k' + 1)) = remV l v (l.length - 1 - k') := by rw [show l.length - (k' + 1) = l.length - 1 - k' by omega]
   have hdg : w % l.getD k' 0 = digV l v k' := by unfold digV; rw [hw, s]
   have hlk := hl k' (by omega)
   refine .skip ?_
   refine a1 _ _ (.seq (fun K7 y => ?_))
   refine .block ?_
   refine .seq (fun K8 a3 => .region (.mv rfl (.mv rfl (.mv rfl (.mv rfl (.mv rfl ?_))))))
   refine .q rfl (.idxN sl_24_A (by assumption) rfl rfl (by omega)) ?_
   refine .q rfl (.loadI on_2_A (by assumption) rfl (by omega)) ?_
   refine .q rfl (.remN rfl rfl (by omega) (by omega)) ?_
   refine .q rfl (.idxN sl_24_A (by first | assumption | exact SlA.of_row e (by first | rfl | (simp; done) | (simp <;> omega))) rfl rfl (by omega)) ?_
   refine .r0 rfl rfl (.storeI rfl sz_2_E rfl rfl (by assumption) (by first | omega | (simp <;> omega))) ?_
   rintro _ H5009 ⟨rfl, b, d⟩
   have nx_H5009 := b.nx
   replace g := g.st b (fun k hk => ⟨by omega, trivial⟩)
   replace f := f.sA b
   have lt_at5009 := GHeap.ltg d
   replace h := c.mono g
   rw [Nat.zero_add] at d
   refine .nil (a3 _ _ (.region (.mv rfl (.mv rfl (.mv rfl ?_)))))
   refine .q rfl (.idxN sl_24_A (by assumption) rfl rfl (by omega)) ?_
   refine .q rfl (.loadI on_2_A (by assumption) rfl (by omega)) ?_
   refine .q rfl (.quoN rfl rfl (by omega) (by omega) (by omega)) ?_
   refine .mv rfl (.nil (y _ _ (.region (.mv rfl ?_))))
   refine .q rfl (.sub (r := (k' : Int) - 1) rfl rfl (by omega) (by omega) (by omega)) ?_
   refine .mv rfl (.nil ?_)
   refine n ((k', _)) _ _ ?_ ?_ ⟨rfl, rfl, rfl, rfl, trivial⟩
   ·
    refine ⟨f, by first | assumption | (rw [← digP_set (by omega), ← hdg]; assumption), ?_⟩
    exact ⟨by omega, by rw [remV_next (by omega), ← s, hw]⟩
   (dsimp only; omega)
  simp only [sps] at o
  obtain rfl : k = 0 := by omega
  refine .exit ?_
  refine a4 _ _ (.seq (fun K9 u => .region (.mv rfl (.mv rfl (.nil (u _ _ ?_))))))
  refine .ret ?_
  refine m _ _ ?_
  refine ⟨_, rfl, ?_⟩
  exact ⟨g, g9, by unfold digL; rw [length_digP], e, by omega⟩
theorem l01Number_c {a b : Option Addr} {l d : List Int} {H : GHeap} (h : Ints H a l := by assumption) (h' : Ints H b d := by assumption) (hd : d.length = l.length) (hl : ∀ i, i < l.length → 0 ≤ l.getD i 0 ∧ l.getD i 0 ≤ 16) (hn : l.length ≤ 2) (hi : ∀ i, i < l.length → 0 ≤ d.getD i 0 ∧ d.getD i 0 < l.getD i 0) :
    GCalls Try.prog 192 [.slice a l.length l.length, .slice b d.length d.length] H (Ret (.int .i64 (numN l d l.length)) H) := by
  refine GCalls.ret rfl ?_
  refine GCalls.body (N := 25) (rs := [.tmp 4]) Try.func192 rfl rfl rfl rfl (fun Qx o hend => ?_)
  refine .fg [0, 1] rfl ?_
  have j := GHeap.Le.refl H
  have f := h
  have e := h'
  refine .seq (fun K1 y => .region (.mv rfl (.nil (y _ _ (.seq (fun K2 z => .region (.mv rfl (.nil (z _ _ (.seq (fun K3 r => .seq (fun K4 u => .region (.mv rfl (.nil (u _ _ ?_)))))))))))))))
  refine .block ?_
  refine .loopR (σ := Nat) [(0, some _), (1, some _)] (fun k => [(6, some (.int .i64 (k : Int))), (5, some (.int .i64 (numN l d k)))]) (fun k H' => St [] H H' ∧ k ≤ l.length) (fun k => l.length - k) (0) ⟨rfl, rfl, trivial⟩ ⟨rfl, rfl, trivial⟩ ?_ ?_
  ·
   refine ⟨.refl _ _, ?_⟩
   omega
  rintro k HL1 ⟨g, hI⟩ KL1 m
  refine .forget (fr' := [(6, some (.int .i64 (k : Int))), (5, some (.int .i64 (numN l d k))), (0, some _), (1, some _)]) ⟨rfl, rfl, rfl, rfl, trivial⟩ ?_
  have nx_HL1 := g.nx
  replace j := j.st g (fun k hk => trivial)
  replace h := f.mono j
  replace h' := e.mono j
  have hp := prodN_le hl hn hI
  have hq := numN_in hi hI
  refine .seq (fun K5 v => .seq (fun K6 s => .region (.mv rfl (.mv rfl (.q rfl (.len sl_24_A rfl) (.q rfl (.cmp rfl rfl rfl) (.nil (s _ _ ?_))))))))
  refine .cond rfl (fun p => ?_) (fun p => ?_)
  ·
   simp only [sps] at p
   have hp1 := prodN_le hl hn (n := k + 1) (by omega)
   have hq1 := numN_in hi (n := k + 1) (by omega)
   have w := hl k (by omega)
   have hk2 := hi k (by omega)
   have hq2 : numN l d (k + 1) = numN l d k * l.getD k 0 + d.getD k 0 := rfl
   have hq3 := Int.mul_nonneg hq.1 w.1
   refine .skip ?_
   refine v _ _ (.seq (fun K7 t => ?_))
   refine .block ?_
   refine .regionD mo_B (.q 0 (.q 1 (.q 2 (.q 3 (.q 4 (.q 5 (.q 6 (.q 7 (.q 8 (.q 9 (.q 10 (.c 11 0 (.done))))))))))))) (by kernel_rfl) ?_
   refine .mv rfl rfl (.mv rfl rfl (.mv rfl rfl ?_))
   refine .q rfl (.idxN sl_24_A (by assumption) rfl rfl (by omega)) ?_
   refine .q rfl (.loadI on_2_A (by assumption) rfl (by omega)) ?_
   refine .q rfl (.mul rfl rfl rfl (by omega) (by omega)) ?_
   refine .mv rfl rfl (.mv rfl rfl ?_)
   refine .q rfl (.idxN sl_24_A (by assumption) rfl rfl (by omega)) ?_
   refine .q rfl (.loadI on_2_A (by assumption) rfl (by omega)) ?_
   refine .q rfl (.add rfl rfl rfl (by omega) (by omega)) ?_
   refine .d0 rfl rfl rfl rfl (.quiet (.assign rfl) CIs.mk) ?_
   refine .done ?_
   refine t _ _ (.region (.mv rfl ?_))
   refine .q rfl (.add rfl rfl rfl (by omega) (by omega)) ?_
   refine .mv rfl (.nil ?_)
   refine m (k + 1) _ _ ?_ ?_ ⟨rfl, rfl, rfl, rfl, trivial⟩
   ·
    refine ⟨g, ?_⟩
    omega
   omega
  simp only [sps] at p
  refine .exit ?_
  refine r _ _ (.seq (fun K8 x => .region (.mv rfl (.mv rfl (.nil (x _ _ ?_))))))
  refine .ret ?_
  refine o _ _ ?_
  refine ⟨_, rfl, ?_⟩
  obtain rfl : k = l.length := by omega
  exact ⟨rfl, j⟩
end Go.Proofs.Ytiooclghkafokaa
namespace Go.Proofs.Ytiooclghkafokaa
open Go Go.GL Go.RowKit Go.Proofs
theorem isSize_c {v : Int} {H : GHeap} (h0 : 0 ≤ v := by omega) (h1 : v ≤ 16 := by omega) : GCalls Try.prog 222 [.int .i64 v] H (Ret (.bool true) H) := by
  have e : inR v 0 256 = true := by unfold inR; simp; omega
  refine GCalls.body (N := 5) (rs := [.tmp 2]) Try.func222 rfl rfl rfl rfl (fun Qx a hend => ?_)
  refine .fg [0] rfl ?_
  refine .seq (fun K1 b => .region (.mv rfl (.nil (b _ _ (.seq (fun K2 c => .region (.mv rfl ?_)))))))
  refine .callQ rfl rfl rfl rfl @Try.call115 rfl (inRange_c) ?_
  refine .mv rfl (.nil (c _ _ ?_))
  refine .ret ?_
  refine a _ _ ?_
  refine ⟨_, rfl, ?_⟩
  exact .of (by rw [e])
theorem areSizes_c {a : Option Addr} {l : List Int} {H : GHeap} (h : Ints H a l := by assumption) (hl : ∀ i, i < l.length → 0 ≤ l.getD i 0 ∧ l.getD i 0 ≤ 16) (hn : l.length ≤ 2) :
    GCalls Try.prog 219 [.slice a l.length l.length] H (Ret (.bool true) H) := by
  refine GCalls.ret rfl ?_
  refine GCalls.body (N := 15) (rs := [.tmp 2]) Try.func219 rfl rfl rfl rfl (fun Qx e hend => ?_)
  refine .fg [0] rfl ?_
  have d := GHeap.Le.refl H
  have b := h
  refine .seq (fun K1 u => .region (.mv rfl (.nil (u _ _ (.seq (fun K2 p => .seq (fun K3 m => .region (.mv rfl (.q rfl (.len sl_24_A rfl) (.mv rfl (.nil (m _ _ ?_))))))))))))
  refine .block ?_
  refine .loopR (σ := Nat) [(5, some _), (6, some _)] (fun k => [(7, some (.int .i64 (k : Int)))]) (fun k H' => St [] H H' ∧ k ≤ l.length) (fun k => l.length - k) (0) ⟨rfl, rfl, trivial⟩ ⟨rfl, trivial⟩ ?_ ?_
  ·
   refine ⟨.refl _ _, ?_⟩
   omega
  rintro k HL1 ⟨c, hI⟩ KL1 f
  refine .forget (fr' := [(7, some (.int .i64 (k : Int))), (5, some _), (6, some _)]) ⟨rfl, rfl, rfl, trivial⟩ ?_
  have nx_HL1 := c.nx
  replace d := d.st c (fun k hk => trivial)
  replace h := b.mono d
  refine .seq (fun K4 r => .region (.q rfl (.cmp rfl rfl rfl) (.nil (r _ _ (.seq (fun K5 t => ?_))))))
  refine .cond rfl (fun h8 => ?_) (fun h8 => ?_)
  ·
   simp only [sps] at h8
   have hk := hl k (by omega)
   refine .skip ?_
   refine t _ _ (.seq (fun K6 o => ?_))
   refine .block ?_
   refine .seq (fun K7 s => .region ?_)
   refine .q rfl (.idxN sl_24_A (by assumption) rfl rfl (by omega)) ?_
   refine .q rfl (.loadI on_2_A (by assumption) rfl (by omega)) ?_
   refine .mv rfl (.nil (s _ _ (.seq (fun K8 v => .region (.mv rfl ?_)))))
   refine .callQ rfl rfl rfl rfl @Try.call222 rfl (isSize_c) ?_
   refine .q rfl (.not rfl) (.nil (v _ _ ?_))
   refine .cond rfl (fun j => ?_) (fun j => ?_)
   ·
    try simp only [sps] at j
    refine .seq (fun K9 n => .region (.mv rfl (.nil (n _ _ ?_))))
    refine .ret ?_
    refine e _ _ ?_
    refine ⟨_, rfl, ?_⟩
    first
    | exact ⟨rfl, d⟩
    | exact absurd trivial (by assumption)
    | contradiction
    | (exfalso; simp_all)
   try simp only [sps] at j
   refine .skip ?_
   refine o _ _ (.region ?_)
   refine .q rfl (.add rfl rfl rfl (by omega) (by omega)) ?_
   refine .mv rfl (.nil ?_)
   refine f (k + 1) _ _ ?_ ?_ ⟨rfl, rfl, rfl, trivial⟩
   ·
    refine ⟨c, ?_⟩
    omega
   omega
  try simp only [sps] at h8
  refine .exit ?_
  refine p _ _ (.seq (fun K10 g => .region (.mv rfl (.nil (g _ _ ?_)))))
  refine .ret ?_
  refine e _ _ ?_
  refine ⟨_, rfl, ?_⟩
  first
  | exact ⟨rfl, d⟩
  | exact absurd trivial (by assumption)
  | contradiction
  | (exfalso; simp_all)
theorem tupleCount_c {a : Option Addr} {l : List Int} {H : GHeap} (h : Ints H a l := by assumption) (hl : ∀ i, i < l.length → 0 ≤ l.getD i 0 ∧ l.getD i 0 ≤ 16) (hn : l.length ≤ 2) :
    GCalls Try.prog 196 [.slice a l.length l.length] H (Ret (.int .i64 (prodN l l.length)) H) := by
  refine GCalls.ret rfl ?_
  have hpa := prodN_le hl hn (n := l.length) (Nat.le_refl _)
  refine GCalls.body (N := 22) (rs := [.tmp 2]) Try.func196 rfl rfl rfl rfl (fun Qx d hend => ?_)
  refine .fg [0] rfl ?_
  have e := GHeap.Le.refl H
  have b := h
  refine .seq (fun K1 y => .region (.mv rfl (.nil (y _ _ (.seq (fun K2 v => .region (.mv rfl (.nil (v _ _ (.seq (fun K3 a0 => .seq (fun K4 w => .region (.mv rfl (.q rfl (.len sl_24_A rfl) (.mv rfl ?_)))))))))))))))
  refine .nil (w _ _ ?_)
  refine .block ?_
  refine .loopR (σ := Nat) [(6, some _), (7, some _)] (fun k => [(8, some (.int .i64 (k : Int))), (3, some (.int .i64 (prodN l k)))]) (fun k H' => St [] H H' ∧ k ≤ l.length) (fun k => l.length - k) (0) ⟨rfl, rfl, trivial⟩ ⟨rfl, rfl, trivial⟩ ?_ ?_
  ·
   refine ⟨.refl _ _, ?_⟩
   omega
  rintro k HL1 ⟨c, hI⟩ KL1 j
  refine .forget (fr' := [(8, some (.int .i64 (k : Int))), (3, some (.int .i64 (prodN l k))), (6, some _), (7, some _)]) ⟨rfl, rfl, rfl, rfl, trivial⟩ ?_
  have nx_HL1 := c.nx
  replace e := e.st c (fun k hk => trivial)
  replace h := b.mono e
  have hp := prodN_le hl hn hI
  refine .seq (fun K5 x => .region (.q rfl (.cmp rfl rfl rfl) (.nil (x _ _ (.seq (fun K6 t => ?_))))))
  refine .cond rfl (fun h9 => ?_) (fun h9 => ?_)
  ·
   simp only [sps] at h9
   have hk := hl k (by omega)
   have hp1 := prodN_le hl hn (n := k + 1) (by omega)
   have hp2 : prodN l (k + 1) = prodN l k * l.getD k 0 := rfl
   refine .skip ?_
   refine t _ _ (.seq (fun K7 u => ?_))
   refine .block ?_
   refine .seq (fun K8 z => .region ?_)
   refine .q rfl (.idxN sl_24_A (by assumption) rfl rfl (by omega)) ?_
   refine .q rfl (.loadI on_2_A (by assumption) rfl (by omega)) ?_
   refine .mv rfl (.nil (z _ _ (.seq (fun K9 s => .seq (fun K10 p => .region (.mv rfl (.q rfl (.cmp rfl rfl rfl) (.nil (p _ _ ?_)))))))))
   refine .cond rfl (fun g => ?_) (fun g => ?_)
   ·
    simp only [sps] at g
    refine .seq (fun K11 m => .region (.mv rfl (.nil (m _ _ ?_))))
    refine .ret ?_
    refine d _ _ ?_
    refine ⟨_, rfl, ?_⟩
    rw [prodN_zero (i := k) (by assumption) (by omega)]
    exact ⟨rfl, e⟩
   simp only [sps] at g
   refine .skip ?_
   refine s _ _ (.seq (fun K12 r => .region (.mv rfl (.q rfl (.cmp rfl rfl rfl) (.nil (r _ _ ?_))))))
   refine .cond rfl (fun f => ?_) (fun f => ?_)
   ·
    try simp only [sps] at f
    refine .region (.mv rfl (.mv rfl ?_))
    refine .q rfl (.mul rfl rfl rfl (by omega) (by omega)) ?_
    refine .mv rfl (.nil (u _ _ (.region ?_)))
    refine .q rfl (.add rfl rfl rfl (by omega) (by omega)) ?_
    refine .mv rfl (.nil ?_)
    refine j (k + 1) _ _ ?_ ?_ ⟨rfl, rfl, rfl, rfl, trivial⟩
    ·
     refine ⟨c, ?_⟩
     omega
    omega
   simp only [sps] at f; omega
  simp only [sps] at h9
  refine .exit ?_
  refine a0 _ _ (.seq (fun K13 o => .region (.mv rfl (.q rfl (.min2 rfl rfl) (.mv rfl (.nil (o _ _ ?_)))))))
  refine .ret ?_
  refine d _ _ ?_
  refine ⟨_, rfl, ?_⟩
  obtain rfl : k = l.length := by omega
  exact ⟨by rw [Int.min_eq_left (by omega)], e⟩
end Go.Proofs.Ytiooclghkafokaa
namespace Go.Proofs.Ytiooclghkafokaa
open Go Go.GL Go.RowKit Go.Proofs
theorem tupleAt_c {a : Option Addr} {l : List Int} {v : Int} {H : GHeap} (h : Ints H a l := by assumption) (hl : ∀ i, i < l.length → 0 ≤ l.getD i 0 ∧ l.getD i 0 ≤ 16) (hn : l.length ≤ 2) (h0 : 0 ≤ v) (h1 : v < prodN l l.length) :
    GCalls Try.prog 214 [.slice a l.length l.length, .int .i64 v] H (fun r H' => H.Le H' ∧ ∃ g, r = .tuple #[.slice (some ⟨g, 0, none⟩) l.length l.length, .int .i64 0] ∧ H'.get g = some (.row (ints (digL l v)) 2 true) ∧ H.next ≤ g) := by
  have hpa := prodN_le hl hn (n := l.length) (Nat.le_refl _)
  have hlp : ∀ i, i < l.length → 0 < l.getD i 0 := fun i hi => prodN_pos (fun i hi => (hl i hi).1) (Nat.le_refl _) (by omega) hi
  have hir : inR v 0 (prodN l l.length - 1) = true := inR_iff.2 ⟨by omega, by omega⟩
  refine GCalls.body (N := 47) (rs := [.tmp 4, .tmp 5]) Try.func214 rfl rfl rfl rfl (fun Qx u hend => ?_)
  refine .fg [0, 1] rfl ?_
  have m := GHeap.Le.refl H
  have c := h
  refine .seq (fun K1 b6 => .region (.mv rfl (.mv rfl (.nil (b6 _ _ (.seq (fun K2 b3 => .seq (fun K3 b8 => .region (.mv rfl ?_)))))))))
  refine .call rfl rfl rfl rfl @Try.call219 rfl (areSizes_c (hl := hl) (hn := hn)) ?_
  rintro _ _ ⟨rfl, rfl⟩
  refine .q rfl (.not rfl) (.nil (b8 _ _ ?_))
  refine .cond rfl (fun z => ?_) (fun z => ?_)
  ·
   exact absurd z (by simp)
  try simp only [sps] at z
  refine .skip ?_
  refine b3 _ _ (.seq (fun K4 b4 => .region (.mv rfl ?_)))
  refine .call rfl rfl rfl rfl @Try.call196 rfl (tupleCount_c (hl := hl) (hn := hn)) ?_
  rintro _ _ ⟨rfl, rfl⟩
  refine .mv rfl (.nil (b4 _ _ (.seq (fun K5 b5 => .seq (fun K6 b0 => .region (.mv rfl (.q rfl (.cmp rfl rfl rfl) (.nil (b0 _ _ ?_)))))))))
  refine .cond rfl (fun x => ?_) (fun x => ?_)
  ·
   simp only [sps] at x; omega
  try simp only [sps] at x
  refine .skip ?_
  refine b5 _ _ (.seq (fun K7 b2 => .seq (fun K8 b7 => .region (.mv rfl (.mv rfl ?_)))))
  refine .q rfl (.sub rfl rfl rfl (by omega) (by omega)) ?_
  refine .callQ rfl rfl rfl rfl @Try.call115 rfl (inRange_c) ?_
  refine .q rfl (.not rfl) (.nil (b7 _ _ ?_))
  refine .cond rfl (fun a8 => ?_) (fun a8 => ?_)
  ·
   exact absurd a8 (by rw [hir]; simp)
  refine .skip ?_
  refine b2 _ _ (.seq (fun K9 a9 => .region (.mv rfl (.q rfl (.len sl_24_A rfl) ?_))))
  refine .R rfl (.makeIN rfl sl_24_A ze_2_E by_2_E rfl rfl (by omega) (by omega) (by omega)) ?_
  rintro _ b1 ⟨s, rfl, o, ge23, p⟩
  have nx_H23 := o.1
  replace m := m.trans o
  have lt_at23 := GHeap.ltg p
  replace h := c.mono m
  refine .mv rfl (.nil (a9 _ _ (.seq (fun K10 a3 => .seq (fun K11 a0 => .region (.mv rfl (.q rfl (.len sl_24_A rfl) ?_)))))))
  refine .q rfl (.sub rfl rfl rfl (by omega) (by omega)) ?_
  refine .mv rfl (.nil (a0 _ _ ?_))
  refine .block ?_
  refine .loopR (σ := Nat × Int) [(0, some _), (7, some _)] (fun (k, w) => [(8, some (.int .i64 ((k : Int) - 1))), (1, some (.int .i64 w))]) (fun (k, w) H' => St [s] b1 H' ∧ H'.get s = some (.row (ints (digP l v k)) 2 true) ∧ k ≤ l.length ∧ w = remV l v (l.length - k)) (fun (k, w) => k) ((l.length, v)) ⟨rfl, rfl, trivial⟩ ⟨rfl, rfl, trivial⟩ ?_ ?_
  ·
   refine ⟨.refl _ _, by first | assumption | (rw [digP_start]; assumption) | (rw [digP_start]; simpa using p), ?_⟩
   exact ⟨Nat.le_refl _, by rw [Nat.sub_self]; rfl⟩
  rintro ⟨k, w⟩ HL1 ⟨f, e, hI⟩ KL1 y
  refine .forget (fr' := [(8, some (.int .i64 ((k : Int) - 1))), (1, some (.int .i64 w)), (0, some _), (7, some _)]) ⟨rfl, rfl, rfl, rfl, trivial⟩ ?_
  have nx_HL1 := f.nx
  replace m := m.st f (fun k hk => ⟨by omega, trivial⟩)
  have lt_at_L7 := GHeap.ltg e
  replace h := c.mono m
  obtain ⟨hk, hw⟩ := hI
  have hdl := length_digP l v k
  have hrn := remV_nn h0 (fun i hi => Int.le_of_lt (hlp i hi)) (j := l.length - k) (by omega)
  refine .seq (fun K12 a5 => .seq (fun K13 a2 => .region (.mv rfl (.q rfl (.cmp rfl rfl rfl) (.nil (a2 _ _ ?_))))))
  refine .cond rfl (fun a4 => ?_) (fun a4 => ?_)
  ·
   simp only [sps] at a4
   obtain ⟨k', rfl⟩ : ∃ k', k = k' + 1 := ⟨k - 1, by omega⟩
   have e8 : ((k' + 1 : Nat) : Int) - 1 = (k' : Int) := by omega
   rw [e8]
   have a7 : remV l v (l.length - (k' + 1)) = remV l v (l.length - 1 - k') := by rw [show l.length - (k' + 1) = l.length - 1 - k' by omega]
   have hdg : w % l.getD k' 0 = digV l v k' := by unfold digV; rw [hw, a7]
   have hlk := hlp k' (by omega)
   refine .skip ?_
   refine a5 _ _ (.seq (fun K14 t => ?_))
   refine .block ?_
   refine .seq (fun K15 a6 => .region (.mv rfl (.mv rfl (.mv rfl (.mv rfl (.mv rfl ?_))))))
   refine .q rfl (.idxN sl_24_A (by assumption) rfl rfl (by omega)) ?_
   refine .q rfl (.loadI on_2_A (by assumption) rfl (by omega)) ?_
   refine .q rfl (.remN rfl rfl (by omega) (by omega)) ?_
   refine .q rfl (.idxN sl_24_A (by first | assumption | exact SlA.of_row e (by first | rfl | (simp; done) | (simp <;> omega))) rfl rfl (by omega)) ?_
   refine .r0 rfl rfl (.storeI rfl sz_2_E rfl rfl (by assumption) (by first | omega | (simp <;> omega))) ?_
   rintro _ H12009 ⟨rfl, b, d⟩
   have nx_H12009 := b.nx
   replace m := m.st b (fun k hk => ⟨by omega, trivial⟩)
   replace f := f.sA b
   have lt_at12009 := GHeap.ltg d
   replace h := c.mono m
   rw [Nat.zero_add] at d
   refine .nil (a6 _ _ (.region (.mv rfl (.mv rfl (.mv rfl ?_)))))
   refine .q rfl (.idxN sl_24_A (by assumption) rfl rfl (by omega)) ?_
   refine .q rfl (.loadI on_2_A (by assumption) rfl (by omega)) ?_
   refine .q rfl (.quoN rfl rfl (by omega) (by omega) (by omega)) ?_
   refine .mv rfl (.nil (t _ _ (.region (.mv rfl ?_))))
   refine .q rfl (.sub (r := (k' : Int) - 1) rfl rfl (by omega) (by omega) (by omega)) ?_
   refine .mv rfl (.nil ?_)
   refine y ((k', _)) _ _ ?_ ?_ ⟨rfl, rfl, rfl, rfl, trivial⟩
   ·
    refine ⟨f, by first | assumption | (rw [← digP_set (by omega), ← hdg]; assumption), ?_⟩
    exact ⟨by omega, by rw [remV_next (by omega), ← a7, hw]⟩
   (dsimp only; omega)
  simp only [sps] at a4
  obtain rfl : k = 0 := by omega
  refine .exit ?_
  refine a3 _ _ (.seq (fun K16 a1 => .region (.mv rfl (.mv rfl (.mv rfl (.nil (a1 _ _ ?_)))))))
  refine .ret ?_
  refine u _ _ ?_
  refine ⟨_, _, rfl, rfl, ?_⟩
  exact ⟨m, s, rfl, e, by omega⟩
theorem tupleNumber_c {a b : Option Addr} {l d : List Int} {H : GHeap} (h : Ints H a l := by assumption) (h' : Ints H b d := by assumption) (hd : d.length = l.length) (hl : ∀ i, i < l.length → 0 ≤ l.getD i 0 ∧ l.getD i 0 ≤ 16) (hn : l.length ≤ 2) (hi : ∀ i, i < l.length → 0 ≤ d.getD i 0 ∧ d.getD i 0 < l.getD i 0) :
    GCalls Try.prog 215 [.slice a l.length l.length, .slice b d.length d.length] H (Ret (.tuple #[.int .i64 (numN l d l.length), .int .i64 0]) H) := by
  refine GCalls.ret rfl ?_
  have hpa := prodN_le hl hn (n := l.length) (Nat.le_refl _)
  refine GCalls.body (N := 55) (rs := [.tmp 4, .tmp 5]) Try.func215 rfl rfl rfl rfl (fun Qx r hend => ?_)
  refine .fg [0, 1] rfl ?_
  have j := GHeap.Le.refl H
  have e := h
  have c := h'
  refine .seq (fun K1 b9 => .region (.mv rfl (.mv rfl (.nil (b9 _ _ (.seq (fun K2 b6 => .seq (fun K3 c1 => .region (.mv rfl ?_)))))))))
  refine .call rfl rfl rfl rfl @Try.call219 rfl (areSizes_c (hl := hl) (hn := hn)) ?_
  rintro _ _ ⟨rfl, rfl⟩
  refine .q rfl (.not rfl) (.nil (c1 _ _ ?_))
  refine .cond rfl (fun s => ?_) (fun s => ?_)
  ·
   exact absurd s (by simp)
  try simp only [sps] at s
  refine .skip ?_
  refine b6 _ _ (.seq (fun K4 b7 => .seq (fun K5 b8 => .region (.mv rfl (.q rfl (.len sl_24_A rfl) (.mv rfl (.q rfl (.len sl_24_A rfl) (.q rfl (.cmp rfl rfl rfl) (.nil (b8 _ _ ?_))))))))))
  refine .cond rfl (fun a4 => ?_) (fun a4 => ?_)
  ·
   simp only [sps] at a4; omega
  try simp only [sps] at a4
  refine .skip ?_
  refine b7 _ _ (.seq (fun K6 b4 => .seq (fun K7 b5 => .region (.mv rfl (.q rfl (.len sl_24_A rfl) (.mv rfl (.nil (b5 _ _ ?_))))))))
  refine .block ?_
  refine .loopR (σ := Nat) [(0, some _), (1, some _), (19, some _), (20, some _)] (fun k => [(21, some (.int .i64 (k : Int)))]) (fun k H' => St [] H H' ∧ k ≤ l.length) (fun k => l.length - k) (0) ⟨rfl, rfl, rfl, rfl, trivial⟩ ⟨rfl, trivial⟩ ?_ ?_
  ·
   refine ⟨.refl _ _, ?_⟩
   omega
  rintro k HL1 ⟨f, hI⟩ KL1 u
  refine .forget (fr' := [(21, some (.int .i64 (k : Int))), (0, some _), (1, some _), (19, some _), (20, some _)]) ⟨rfl, rfl, rfl, rfl, rfl, trivial⟩ ?_
  have nx_HL1 := f.nx
  replace j := j.st f (fun k hk => trivial)
  replace h := e.mono j
  replace h' := c.mono j
  refine .seq (fun K8 c0 => .region (.q rfl (.cmp rfl rfl rfl) (.nil (c0 _ _ (.seq (fun K9 b2 => ?_))))))
  refine .cond rfl (fun a3 => ?_) (fun a3 => ?_)
  ·
   simp only [sps] at a3
   have b0 := hl k (by omega)
   have b3 := hi k (by omega)
   have hir : inR (d.getD k 0) 0 (l.getD k 0 - 1) = true := inR_iff.2 ⟨by omega, by omega⟩
   refine .skip ?_
   refine b2 _ _ (.seq (fun K10 a5 => ?_))
   refine .block ?_
   refine .seq (fun K11 v => .region (.mv rfl ?_))
   refine .q rfl (.idxN sl_24_A (by assumption) rfl rfl (by omega)) ?_
   refine .q rfl (.loadI on_2_A (by assumption) rfl (by omega)) ?_
   refine .mv rfl (.mv rfl (.nil (v _ _ (.seq (fun K12 a6 => .region (.mv rfl (.mv rfl (.mv rfl ?_))))))))
   refine .q rfl (.idxN sl_24_A (by assumption) rfl rfl (by omega)) ?_
   refine .q rfl (.loadI on_2_A (by assumption) rfl (by omega)) ?_
   refine .q rfl (.sub rfl rfl rfl (by omega) (by omega)) ?_
   refine .callQ rfl rfl rfl rfl @Try.call115 rfl (inRange_c) ?_
   refine .q rfl (.not rfl) (.nil (a6 _ _ ?_))
   refine .cond rfl (fun b1 => ?_) (fun b1 => ?_)
   ·
    exact absurd b1 (by rw [hir]; simp)
   refine .skip ?_
   refine a5 _ _ (.region ?_)
   refine .q rfl (.add rfl rfl rfl (by omega) (by omega)) ?_
   refine .mv rfl (.nil ?_)
   refine u (k + 1) _ _ ?_ ?_ ⟨rfl, rfl, rfl, rfl, rfl, trivial⟩
   ·
    refine ⟨f, ?_⟩
    omega
   omega
  try simp only [sps] at a3
  refine .exit ?_
  refine b4 _ _ (.seq (fun K13 y => .seq (fun K14 o => .region (.mv rfl ?_))))
  refine .call rfl rfl rfl rfl @Try.call196 rfl (tupleCount_c (hl := hl) (hn := hn)) ?_
  rintro _ _ ⟨rfl, rfl⟩
  refine .q rfl (.cmp rfl rfl rfl) (.nil (o _ _ ?_))
  refine .cond rfl (fun z => ?_) (fun z => ?_)
  ·
   simp only [sps] at z; omega
  try simp only [sps] at z
  refine .skip ?_
  refine y _ _ (.seq (fun K15 a8 => .region (.mv rfl (.nil (a8 _ _ (.seq (fun K16 x => .seq (fun K17 p => .region (.mv rfl (.q rfl (.len sl_24_A rfl) (.mv rfl (.nil (p _ _ ?_)))))))))))))
  refine .block ?_
  refine .loopR (σ := Nat) [(0, some _), (38, some _), (39, some _)] (fun m => [(40, some (.int .i64 (m : Int))), (8, some (.int .i64 (numN l d m)))]) (fun m H' => St [] HL1 H' ∧ m ≤ l.length) (fun m => l.length - m) (0) ⟨rfl, rfl, rfl, trivial⟩ ⟨rfl, rfl, trivial⟩ ?_ ?_
  ·
   refine ⟨.refl _ _, ?_⟩
   omega
  rintro m HL2 ⟨g, hI⟩ KL2 a0
  refine .forget (fr' := [(40, some (.int .i64 (m : Int))), (8, some (.int .i64 (numN l d m))), (0, some _), (38, some _), (39, some _)]) ⟨rfl, rfl, rfl, rfl, rfl, trivial⟩ ?_
  have nx_HL2 := g.nx
  replace j := j.st g (fun k hk => trivial)
  replace f := f.sA g
  replace h := e.mono j
  replace h' := c.mono j
  have hp := prodN_le hl hn hI
  have hq := numN_in hi hI
  refine .seq (fun K18 w => .region (.q rfl (.cmp rfl rfl rfl) (.nil (w _ _ (.seq (fun K19 a1 => ?_))))))
  refine .cond rfl (fun a7 => ?_) (fun a7 => ?_)
  ·
   simp only [sps] at a7
   have hp1 := prodN_le hl hn (n := m + 1) (by omega)
   have hq1 := numN_in hi (n := m + 1) (by omega)
   have b0 := hl m (by omega)
   have b3 := hi m (by omega)
   have hq2 : numN l d (m + 1) = numN l d m * l.getD m 0 + d.getD m 0 := rfl
   have hq3 := Int.mul_nonneg hq.1 b0.1
   refine .skip ?_
   refine a1 _ _ (.seq (fun K20 a2 => ?_))
   refine .block ?_
   refine .seq (fun K21 t => .region (.mv rfl ?_))
   refine .q rfl (.idxN sl_24_A (by assumption) rfl rfl (by omega)) ?_
   refine .q rfl (.loadI on_2_A (by assumption) rfl (by omega)) ?_
   refine .mv rfl (.mv rfl (.nil (t _ _ (.region (.mv rfl (.mv rfl (.mv rfl ?_)))))))
   refine .q rfl (.idxN sl_24_A (by assumption) rfl rfl (by omega)) ?_
   refine .q rfl (.loadI on_2_A (by assumption) rfl (by omega)) ?_
   refine .q rfl (.mul rfl rfl rfl (by omega) (by omega)) ?_
   refine .mv rfl ?_
   refine .q rfl (.add rfl rfl rfl (by omega) (by omega)) ?_
   refine .mv rfl (.nil (a2 _ _ (.region ?_)))
   refine .q rfl (.add rfl rfl rfl (by omega) (by omega)) ?_
   refine .mv rfl (.nil ?_)
   refine a0 (m + 1) _ _ ?_ ?_ ⟨rfl, rfl, rfl, rfl, rfl, trivial⟩
   ·
    refine ⟨g, ?_⟩
    omega
   omega
  simp only [sps] at a7
  refine .exit ?_
  refine x _ _ (.seq (fun K22 a9 => .region (.mv rfl (.mv rfl (.mv rfl (.nil (a9 _ _ ?_)))))))
  refine .ret ?_
  refine r _ _ ?_
  refine ⟨_, _, rfl, rfl, ?_⟩
  obtain rfl : m = l.length := by omega
  exact ⟨rfl, j⟩
end Go.Proofs.Ytiooclghkafokaa
namespace Go.Proofs.Ytiooclghkafokaa
open Go Go.GL Go.RowKit Go.Proofs
theorem l29Sizes_c {a b : Option Addr} {fs : List SFun} {pp : Nat → SFunP} {so : List Int} {x : Int} {H : GHeap} (h : SFunsIn H a fs pp := by assumption) (h' : Ints H b so := by assumption) (hso : ∀ i, i < so.length → 0 ≤ so.getD i 0 ∧ so.getD i 0 < fs.length) (hx0 : 0 ≤ x) (hx : ∀ s, s < fs.length → x < (fs.getD s SFun.z).sz.length) (hn : so.length ≤ 2) :
    GCalls Try.prog 190 [.slice a fs.length fs.length, .slice b so.length so.length, .int .i64 x] H (NewInts 2 H (szsL fs so x.toNat)) := by
  refine GCalls.body (N := 31) (rs := [.tmp 6]) Try.func190 rfl rfl rfl rfl (fun Qx w hend => ?_)
  refine .fg [0, 1, 2] rfl ?_
  have f := GHeap.Le.refl H
  have d := h
  have c := h'
  have hsl := h.sl
  refine .seq (fun K1 a9 => .region (.mv rfl (.nil (a9 _ _ (.seq (fun K2 a6 => .region ?_))))))
  refine .R rfl (.litA rfl sl_24_A ze_2_E rfl rfl rfl rfl) ?_
  rintro _ H9 ⟨g9, rfl, a3, ge9, v⟩
  have nx_H9 := a3.1
  replace f := f.trans a3
  have lt_at9 := GHeap.ltg v
  replace h := d.mono f
  replace h' := c.mono f
  clear hsl
  have hsl := h.sl
  replace v : GHeap.get H9 g9 = some (.row (ints []) 2 true) := v
  refine .mv rfl (.nil (a6 _ _ (.seq (fun K3 b1 => .seq (fun K4 a7 => .region (.mv rfl (.nil (a7 _ _ ?_))))))))
  refine .block ?_
  refine .loopR (σ := Nat × Nat × Nat) [(0, some _), (1, some _), (2, some _)] (fun (k, l, r) => [(8, some (.int .i64 (k : Int))), (7, some (.slice (some ⟨l, 0, none⟩) r r))]) (fun (k, l, r) H' => St [g9] H9 H' ∧ H'.get l = some (.row (ints (szsL fs (so.take k) x.toNat)) 2 true) ∧ (l = g9 ∨ H9.next ≤ l) ∧ r = (szsL fs (so.take k) x.toNat).length ∧ k ≤ so.length) (fun (k, l, r) => so.length - k) ((0, _, _)) ⟨rfl, rfl, rfl, trivial⟩ ⟨rfl, rfl, trivial⟩ ?_ ?_
  ·
   refine ⟨.refl _ _, by first | assumption | exact v | simpa using v, .inl rfl, by first | rfl | assumption | simp | omega, ?_⟩
   omega
  rintro ⟨k, l, r⟩ HL1 ⟨j, e, pl_L7, p, hI⟩ KL1 a0
  refine .forget (fr' := [(8, some (.int .i64 (k : Int))), (7, some (.slice (some ⟨l, 0, none⟩) r r)), (0, some _), (1, some _), (2, some _)]) ⟨rfl, rfl, rfl, rfl, rfl, trivial⟩ ?_
  have ge_L7 : H.next ≤ l := by omega
  have nx_HL1 := j.nx
  replace f := f.st j (fun k hk => ⟨by omega, trivial⟩)
  have lt_at_L7 := GHeap.ltg e
  replace h := d.mono f
  replace h' := c.mono f
  clear hsl
  have hsl := h.sl
  have hsl2 := length_szsL fs (so.take k) x.toNat
  have htk : (so.take k).length = k := by rw [List.length_take]; omega
  refine .seq (fun K5 a8 => .seq (fun K6 a4 => .region (.mv rfl (.mv rfl (.q rfl (.len sl_24_A rfl) (.q rfl (.cmp rfl rfl rfl) (.nil (a4 _ _ ?_))))))))
  refine .cond rfl (fun y => ?_) (fun y => ?_)
  ·
   simp only [sps] at y
   have hs := hso k (by omega)
   have hxs := hx (so.getD k 0).toNat (by omega)
   obtain ⟨g, o, rfl, _⟩ := h.1.resolve_left (by omega)
   have t := h.1.at' (i := (so.getD k 0).toNat) (by omega)
   have c5 : GHeap.cell _ g (o + (so.getD k 0).toNat * 7 + 5) = some (.slice (pp (so.getD k 0).toNat).a1 (fs.getD (so.getD k 0).toNat SFun.z).sz.length (fs.getD (so.getD k 0).toNat SFun.z).sz.length) := t 5 _ rfl
   have u1 := (h.2 (so.getD k 0).toNat (by omega)).2.1
   refine .skip ?_
   refine a8 _ _ (.seq (fun K7 a5 => ?_))
   refine .block ?_
   refine .region (.mv rfl (.mv rfl (.mv rfl (.mv rfl ?_))))
   refine .q rfl (.idxN sl_24_A (by assumption) rfl rfl (by omega)) ?_
   refine .q rfl (.loadI on_2_A (by assumption) rfl (by omega)) ?_
   refine .q rfl (.idx sl_57_VSs hsl (by omega) rfl rfl (by omega) (by omega) rfl) ?_
   refine .q rfl (.fieldAddr fo_107_1_VSFun rfl) (.q rfl (.load on_24_B rfl c5) (.mv rfl ?_))
   refine .q rfl (.idx1 sl_24_A (by assumption) rfl rfl (by omega) (by omega)) ?_
   refine .q rfl (.loadI on_2_A (by assumption) rfl (by omega)) ?_
   refine .R rfl (.litA rfl sl_24_A ze_2_E rfl rfl rfl rfl) ?_
   rintro _ H28 ⟨g28, rfl, n, ge28, u⟩
   have nx_H28 := n.1
   replace f := f.trans n
   replace j := j.le n
   replace e := n.2 _ _ e
   have lt_at28 := GHeap.ltg u
   replace h := d.mono f
   replace h' := c.mono f
   clear hsl
   have hsl := h.sl
   clear t c5 u1
   have t := h.1.at' (i := (so.getD k 0).toNat) (by omega)
   have c5 : GHeap.cell _ g (o + (so.getD k 0).toNat * 7 + 5) = some (.slice (pp (so.getD k 0).toNat).a1 (fs.getD (so.getD k 0).toNat SFun.z).sz.length (fs.getD (so.getD k 0).toNat SFun.z).sz.length) := t 5 _ rfl
   have u1 := (h.2 (so.getD k 0).toNat (by omega)).2.1
   refine .R rfl (.appendI rfl sl_24_A ze_2_E rfl by_2_E sl_24_A rfl rfl (by assumption) (by assumption) (by first | omega | (simp <;> omega)) (by omega) (by omega)) ?_
   rintro _ H29 ⟨g29, rfl, m, ge29, a2⟩
   have nx_H29 := m.nx
   replace f := f.st m (fun k hk => ⟨by omega, trivial⟩)
   replace j := j.sA m
   replace u := m.s u
   have lt_at29 := GHeap.ltg a2
   replace h := d.mono f
   replace h' := c.mono f
   clear hsl
   have hsl := h.sl
   clear t c5 u1
   have t := h.1.at' (i := (so.getD k 0).toNat) (by omega)
   have c5 : GHeap.cell _ g (o + (so.getD k 0).toNat * 7 + 5) = some (.slice (pp (so.getD k 0).toNat).a1 (fs.getD (so.getD k 0).toNat SFun.z).sz.length (fs.getD (so.getD k 0).toNat SFun.z).sz.length) := t 5 _ rfl
   have u1 := (h.2 (so.getD k 0).toNat (by omega)).2.1
   refine .mv rfl (.nil (a5 _ _ (.region (.mv rfl ?_))))
   refine .q rfl (.add rfl rfl rfl (by omega) (by omega)) ?_
   refine .mv rfl (.nil ?_)
   refine a0 ((k + 1, _, _)) _ _ ?_ ?_ ⟨rfl, rfl, rfl, rfl, rfl, trivial⟩
   ·
    refine ⟨j, by first | assumption | (rw [szsL_snoc (by omega)]; assumption), by omega, by first | omega | (simp only [List.length_append, List.length_cons, List.length_nil] <;> omega) | (rw [szsL_snoc (by omega)] <;> (first | omega | (simp only [List.length_append, List.length_cons, List.length_nil] <;> omega))), ?_⟩
    omega
   (dsimp only; omega)
  simp only [sps] at y
  refine .exit ?_
  refine b1 _ _ (.seq (fun K8 b0 => .region (.mv rfl (.mv rfl (.nil (b0 _ _ ?_))))))
  refine .ret ?_
  refine w _ _ ?_
  refine ⟨_, rfl, ?_⟩
  obtain rfl : k = so.length := by omega
  rw [List.take_length] at e p
  exact ⟨f, l, by rw [p], e, by omega⟩
theorem sizes_in {fs : List SFun} {so : List Int} {x : Nat} (hso : ∀ i, i < so.length → 0 ≤ so.getD i 0 ∧ so.getD i 0 < fs.length) (h : ∀ s, s < fs.length → 0 ≤ (fs.getD s SFun.z).sz.getD x 0 ∧ (fs.getD s SFun.z).sz.getD x 0 ≤ 16) : ∀ i, i < (szsL fs so x).length → 0 ≤ (szsL fs so x).getD i 0 ∧ (szsL fs so x).getD i 0 ≤ 16 := fun i hi => by
  rw [length_szsL] at hi
  have := hso i hi
  rw [szsL_get hi]
  exact h _ (by omega)
theorem l29Count_c {a b : Option Addr} {fs : List SFun} {pp : Nat → SFunP} {so : List Int} {x : Int} {H : GHeap} (h : SFunsIn H a fs pp := by assumption) (h' : Ints H b so := by assumption) (hso : ∀ i, i < so.length → 0 ≤ so.getD i 0 ∧ so.getD i 0 < fs.length) (hx0 : 0 ≤ x) (hx : ∀ s, s < fs.length → x < (fs.getD s SFun.z).sz.length) (hs : ∀ s, s < fs.length → 0 ≤ (fs.getD s SFun.z).sz.getD x.toNat 0 ∧ (fs.getD s SFun.z).sz.getD x.toNat 0 ≤ 16) (hn : so.length ≤ 2) :
    GCalls Try.prog 149 [.slice a fs.length fs.length, .slice b so.length so.length, .int .i64 x] H (Ret (.int .i64 (tupN fs so x.toNat)) H) := by
  refine GCalls.ret rfl ?_
  have hl := length_szsL fs so x.toNat
  refine GCalls.body (N := 12) (rs := [.tmp 6]) Try.func149 rfl rfl rfl rfl (fun Qx j hend => ?_)
  refine .fg [0, 1, 2] rfl ?_
  have g := GHeap.Le.refl H
  have d := h
  have c := h'
  refine .seq (fun K1 k => .region (.mv rfl (.nil (k _ _ (.seq (fun K2 l => .region (.mv rfl (.mv rfl (.mv rfl ?_)))))))))
  refine .call rfl rfl rfl rfl @Try.call190 rfl (l29Sizes_c (hso := hso) (hx0 := hx0) (hx := hx) (hn := hn)) ?_
  rintro _ H10 ⟨f, g10, rfl, e, ge10⟩
  have nx_H10 := f.1
  replace g := g.trans f
  have lt_at10 := GHeap.ltg e
  replace h := d.mono g
  replace h' := c.mono g
  have i10 := Ints.of_get e
  refine .call rfl rfl rfl rfl @Try.call189 rfl (l01Total_c (hl := sizes_in hso hs) (hn := by omega)) ?_
  rintro _ _ ⟨rfl, rfl⟩
  refine .mv rfl (.nil (l _ _ ?_))
  refine .ret ?_
  refine j _ _ ?_
  refine ⟨_, rfl, ?_⟩
  exact ⟨by unfold tupN; rw [hl], g⟩
theorem sizesAt_c {g0 o0 : Nat} {c : Str} {p : StrP} {b : Option Addr} {so : List Int} {x : Int} {H : GHeap} (h : Str.At H g0 o0 c p := by assumption) (h' : Ints H b so := by assumption) (hso : ∀ i, i < so.length → 0 ≤ so.getD i 0 ∧ so.getD i 0 < c.sf.length) (hx0 : 0 ≤ x) (hx : ∀ s, s < c.sf.length → x < (c.sf.getD s SFun.z).sz.length) (hn : so.length ≤ 2) :
    GCalls Try.prog 197 [.pointer (some ⟨g0, o0, none⟩), .slice b so.length so.length, .int .i64 x] H (NewInts 2 H (szsL c.sf so x.toNat)) := by
  refine GCalls.body (N := 33) (rs := [.tmp 6]) Try.func197 rfl rfl rfl rfl (fun Qx a7 hend => ?_)
  refine .fg [0, 1, 2] rfl ?_
  have j := GHeap.Le.refl H
  have e := h
  have a := h'
  obtain ⟨n, a0, d, w⟩ := h.get
  have hms : MemN _ _ _ _ _ := ⟨rfl, h.1⟩
  have his := h.2
  have hsl := d.sl
  refine .seq (fun K1 b9 => .region (.mv rfl (.nil (b9 _ _ (.seq (fun K2 b6 => .region ?_))))))
  refine .R rfl (.litA rfl sl_24_A ze_2_E rfl rfl rfl rfl) ?_
  rintro _ a8 ⟨b0, rfl, a6, ge10, m⟩
  have nx_H10 := a6.1
  replace j := j.trans a6
  have lt_at10 := GHeap.ltg m
  replace h := e.mono j
  replace h' := a.mono j
  clear n a0 d w hms his hsl
  obtain ⟨n, a0, d, w⟩ := h.get
  have hms : MemN _ _ _ _ _ := ⟨rfl, h.1⟩
  have his := h.2
  have hsl := d.sl
  replace m : GHeap.get a8 b0 = some (.row (ints []) 2 true) := m
  refine .mv rfl (.nil (b6 _ _ (.seq (fun K3 c1 => .seq (fun K4 b7 => .region (.mv rfl (.q rfl (.len sl_24_A rfl) (.mv rfl (.nil (b7 _ _ ?_))))))))))
  refine .block ?_
  refine .loopR (σ := Nat × Nat × Nat) [(0, some _), (2, some _), (11, some _), (12, some _)] (fun (k, r, a2) => [(13, some (.int .i64 (k : Int))), (7, some (.slice (some ⟨r, 0, none⟩) a2 a2))]) (fun (k, r, a2) H' => St [b0] a8 H' ∧ H'.get r = some (.row (ints (szsL c.sf (so.take k) x.toNat)) 2 true) ∧ (r = b0 ∨ a8.next ≤ r) ∧ a2 = (szsL c.sf (so.take k) x.toNat).length ∧ k ≤ so.length) (fun (k, r, a2) => so.length - k) ((0, _, _)) ⟨rfl, rfl, rfl, rfl, trivial⟩ ⟨rfl, rfl, trivial⟩ ?_ ?_
  ·
   refine ⟨.refl _ _, by first | assumption | exact m | simpa using m, .inl rfl, by first | rfl | assumption | simp | omega, ?_⟩
   omega
  rintro ⟨k, r, a2⟩ HL1 ⟨l, f, pl_L7, y, hI⟩ KL1 a9
  refine .forget (fr' := [(13, some (.int .i64 (k : Int))), (7, some (.slice (some ⟨r, 0, none⟩) a2 a2)), (0, some _), (2, some _), (11, some _), (12, some _)]) ⟨rfl, rfl, rfl, rfl, rfl, rfl, trivial⟩ ?_
  have ge_L7 : H.next ≤ r := by omega
  have nx_HL1 := l.nx
  replace j := j.st l (fun k hk => ⟨by omega, trivial⟩)
  have lt_at_L7 := GHeap.ltg f
  replace h := e.mono j
  replace h' := a.mono j
  clear n a0 d w hms his hsl
  obtain ⟨n, a0, d, w⟩ := h.get
  have hms : MemN _ _ _ _ _ := ⟨rfl, h.1⟩
  have his := h.2
  have hsl := d.sl
  have hsl2 := length_szsL c.sf (so.take k) x.toNat
  have htk : (so.take k).length = k := by rw [List.length_take]; omega
  refine .seq (fun K5 b8 => .region (.q rfl (.cmp rfl rfl rfl) (.nil (b8 _ _ (.seq (fun K6 b4 => ?_))))))
  refine .cond rfl (fun b2 => ?_) (fun b2 => ?_)
  ·
   simp only [sps] at b2
   have hs := hso k (by omega)
   have hxs := hx (so.getD k 0).toNat (by omega)
   obtain ⟨g, o, hga, _⟩ := d.1.resolve_left (by omega)
   have t := d.1
   rw [hga] at t
   have a4 := t.at' (i := (so.getD k 0).toNat) (by omega)
   have c5 : GHeap.cell _ g (o + (so.getD k 0).toNat * 7 + 5) = some (.slice (p.p0 (so.getD k 0).toNat).a1 (c.sf.getD (so.getD k 0).toNat SFun.z).sz.length (c.sf.getD (so.getD k 0).toNat SFun.z).sz.length) := a4 5 _ rfl
   have u1 := (d.2 (so.getD k 0).toNat (by omega)).2.1
   have a3 := n
   rw [hga] at a3
   rw [hga] at hsl
   refine .skip ?_
   refine b4 _ _ (.seq (fun K7 b5 => ?_))
   refine .block ?_
   refine .seq (fun K8 c0 => .region ?_)
   refine .q rfl (.idxN sl_24_A (by assumption) rfl rfl (by omega)) ?_
   refine .q rfl (.loadI on_2_A (by assumption) rfl (by omega)) ?_
   refine .mv rfl (.nil (c0 _ _ (.region (.mv rfl (.mv rfl (.q rfl (.nilCheck rfl) (.q rfl (.fieldAddr fo_60_0_VStr rfl) (.q rfl (.load on_57_VStr rfl a3) (.mv rfl ?_)))))))))
   refine .q rfl (.idx sl_57_VSs hsl (by omega) rfl rfl (by omega) (by omega) rfl) ?_
   refine .q rfl (.fieldAddr fo_107_1_VSFun rfl) (.q rfl (.load on_24_B rfl c5) (.mv rfl ?_))
   refine .q rfl (.idx1 sl_24_A (by assumption) rfl rfl (by omega) (by omega)) ?_
   refine .q rfl (.loadI on_2_A (by assumption) rfl (by omega)) ?_
   refine .R rfl (.litA rfl sl_24_A ze_2_E rfl rfl rfl rfl) ?_
   rintro _ H29 ⟨g29, rfl, u, ge29, a5⟩
   have nx_H29 := u.1
   replace j := j.trans u
   replace l := l.le u
   replace f := u.2 _ _ f
   have lt_at29 := GHeap.ltg a5
   replace h := e.mono j
   replace h' := a.mono j
   clear n a0 d w hms his hsl
   obtain ⟨n, a0, d, w⟩ := h.get
   have hms : MemN _ _ _ _ _ := ⟨rfl, h.1⟩
   have his := h.2
   have hsl := d.sl
   clear t a4 c5 u1 a3
   have t := d.1
   rw [hga] at t
   have a4 := t.at' (i := (so.getD k 0).toNat) (by omega)
   have c5 : GHeap.cell _ g (o + (so.getD k 0).toNat * 7 + 5) = some (.slice (p.p0 (so.getD k 0).toNat).a1 (c.sf.getD (so.getD k 0).toNat SFun.z).sz.length (c.sf.getD (so.getD k 0).toNat SFun.z).sz.length) := a4 5 _ rfl
   have u1 := (d.2 (so.getD k 0).toNat (by omega)).2.1
   have a3 := n
   rw [hga] at a3
   rw [hga] at hsl
   refine .R rfl (.appendI rfl sl_24_A ze_2_E rfl by_2_E sl_24_A rfl rfl (by assumption) (by assumption) (by first | omega | (simp <;> omega)) (by omega) (by omega)) ?_
   rintro _ H30 ⟨g30, rfl, v, ge30, b1⟩
   have nx_H30 := v.nx
   replace j := j.st v (fun k hk => ⟨by omega, trivial⟩)
   replace l := l.sA v
   replace a5 := v.s a5
   have lt_at30 := GHeap.ltg b1
   replace h := e.mono j
   replace h' := a.mono j
   clear n a0 d w hms his hsl
   obtain ⟨n, a0, d, w⟩ := h.get
   have hms : MemN _ _ _ _ _ := ⟨rfl, h.1⟩
   have his := h.2
   have hsl := d.sl
   clear t a4 c5 u1 a3
   have t := d.1
   rw [hga] at t
   have a4 := t.at' (i := (so.getD k 0).toNat) (by omega)
   have c5 : GHeap.cell _ g (o + (so.getD k 0).toNat * 7 + 5) = some (.slice (p.p0 (so.getD k 0).toNat).a1 (c.sf.getD (so.getD k 0).toNat SFun.z).sz.length (c.sf.getD (so.getD k 0).toNat SFun.z).sz.length) := a4 5 _ rfl
   have u1 := (d.2 (so.getD k 0).toNat (by omega)).2.1
   have a3 := n
   rw [hga] at a3
   rw [hga] at hsl
   refine .mv rfl (.nil (b5 _ _ (.region ?_)))
   refine .q rfl (.add rfl rfl rfl (by omega) (by omega)) ?_
   refine .mv rfl (.nil ?_)
   refine a9 ((k + 1, _, _)) _ _ ?_ ?_ ⟨rfl, rfl, rfl, rfl, rfl, rfl, trivial⟩
   ·
    refine ⟨l, by first | assumption | (rw [szsL_snoc (by omega)]; assumption), by omega, by first | omega | (simp only [List.length_append, List.length_cons, List.length_nil] <;> omega) | (rw [szsL_snoc (by omega)] <;> (first | omega | (simp only [List.length_append, List.length_cons, List.length_nil] <;> omega))), ?_⟩
    omega
   (dsimp only; omega)
  simp only [sps] at b2
  refine .exit ?_
  refine c1 _ _ (.seq (fun K9 b3 => .region (.mv rfl (.mv rfl (.nil (b3 _ _ ?_))))))
  refine .ret ?_
  refine a7 _ _ ?_
  refine ⟨_, rfl, ?_⟩
  obtain rfl : k = so.length := by omega
  rw [List.take_length] at f y
  exact ⟨j, r, by rw [y], f, by omega⟩
end Go.Proofs.Ytiooclghkafokaa
namespace Go.Proofs.Ytiooclghkafokaa
open Go Go.GL Go.RowKit Go.Proofs
structure OneSh (fs : List SFun) : Prop where
  pos : 0 < fs.length
  is : ∀ s, s < fs.length → (fs.getD s SFun.z).Is
  sh : ∀ s, s < fs.length → (fs.getD s SFun.z).sh = (fs.getD 0 SFun.z).sh
theorem OneSh.sz {fs : List SFun} (h : OneSh fs) {a : Nat} (ha : a < (fs.getD 0 SFun.z).sh.src.length) {s : Nat} (hs : s < fs.length) :
    (0 ≤ (fs.getD 0 SFun.z).sh.src.getD a 0 ∧ (fs.getD 0 SFun.z).sh.src.getD a 0 < (fs.getD s SFun.z).sz.length) ∧ (0 ≤ (fs.getD 0 SFun.z).sh.tgt.getD a 0 ∧ (fs.getD 0 SFun.z).sh.tgt.getD a 0 < (fs.getD s SFun.z).sz.length) ∧ a < (fs.getD s SFun.z).ac.length ∧ (((fs.getD s SFun.z).ac.getD a []).length : Int) = (fs.getD s SFun.z).sz.getD ((fs.getD 0 SFun.z).sh.src.getD a 0).toNat 0 ∧
      ∀ e, e < ((fs.getD s SFun.z).ac.getD a []).length → 0 ≤ ((fs.getD s SFun.z).ac.getD a []).getD e 0 ∧ ((fs.getD s SFun.z).ac.getD a []).getD e 0 < (fs.getD s SFun.z).sz.getD ((fs.getD 0 SFun.z).sh.tgt.getD a 0).toNat 0 := by
  have hI := (h.is s hs).1
  have e := h.sh s hs
  rw [← e] at ha ⊢
  have q := hI.ends ha
  have hal := hI.al
  exact ⟨⟨q.1, q.2.1⟩, ⟨q.2.2.1, q.2.2.2.1⟩, by omega, q.2.2.2.2, fun x hx => hI.act (by omega) hx⟩
theorem OneSh.le {fs : List SFun} (h : OneSh fs) {x : Nat} : ∀ s, s < fs.length → 0 ≤ (fs.getD s SFun.z).sz.getD x 0 ∧ (fs.getD s SFun.z).sz.getD x 0 ≤ 16 := fun s hs => by
  by_cases e : x < (fs.getD s SFun.z).sz.length
  · exact (h.is s hs).1.sz x e
  · rw [List.getD_eq_getElem?_getD, List.getElem?_eq_none (by omega)]
    exact ⟨Int.le_refl _, by decide⟩
theorem l01NumberN_c {a b : Option Addr} {n : Nat} {l d : List Int} {H : GHeap} (hdn : d.length = n) (h : Ints H a l := by assumption) (h' : Ints H b d := by assumption) (hd : d.length = l.length) (hl : ∀ i, i < l.length → 0 ≤ l.getD i 0 ∧ l.getD i 0 ≤ 16) (hn : l.length ≤ 2) (hi : ∀ i, i < l.length → 0 ≤ d.getD i 0 ∧ d.getD i 0 < l.getD i 0) :
    GCalls Try.prog 192 [.slice a l.length l.length, .slice b n n] H (Ret (.int .i64 (numN l d l.length)) H) := by
  subst hdn
  exact l01Number_c h h' hd hl hn hi
set_option maxHeartbeats 4000000 in
theorem l29Move_c {a b : Option Addr} {fs : List SFun} {pp : Nat → SFunP} {so : List Int} {ar : Nat} {v : Int} {H : GHeap} (h : SFunsIn H a fs pp := by assumption) (h' : Ints H b so := by assumption) (hf : OneSh fs) (hso : ∀ i, i < so.length → 0 ≤ so.getD i 0 ∧ so.getD i 0 < fs.length) (hn : so.length ≤ 2) (ha : ar < (fs.getD 0 SFun.z).sh.src.length) (h0 : 0 ≤ v) (h1 : v < tupN fs so ((fs.getD 0 SFun.z).sh.src.getD ar 0).toNat) :
    GCalls Try.prog 150 [.slice a fs.length fs.length, .slice b so.length so.length, .int .i64 (ar : Int), .int .i64 v] H (Ret (.int .i64 (movN fs so ((fs.getD 0 SFun.z).sh.src.getD ar 0).toNat ((fs.getD 0 SFun.z).sh.tgt.getD ar 0).toNat ar v)) H) := by
  refine GCalls.ret rfl ?_
  obtain ⟨g, o, rfl, _⟩ := h.1.resolve_left (by have := hf.pos; omega)
  have hpos := hf.pos
  have z0 := hf.sz ha hpos
  obtain ⟨x, hx⟩ : ∃ x, x = (fs.getD 0 SFun.z).sh.src.getD ar 0 := ⟨_, rfl⟩
  obtain ⟨y, hy⟩ : ∃ y, y = (fs.getD 0 SFun.z).sh.tgt.getD ar 0 := ⟨_, rfl⟩
  rw [← hx] at h1 ⊢
  rw [← hy]
  have hD := length_szsL fs so x.toNat
  have hE := length_szsL fs so y.toNat
  have hxs : ∀ s, s < fs.length → x < (fs.getD s SFun.z).sz.length := fun s hs => by have := (hf.sz ha hs).1; omega
  have hys : ∀ s, s < fs.length → y < (fs.getD s SFun.z).sz.length := fun s hs => by have := (hf.sz ha hs).2.1; omega
  have hlx := sizes_in hso (hf.le (x := x.toNat))
  have hly := sizes_in hso (hf.le (x := y.toNat))
  have hpx := prodN_le hlx (by omega) (n := (szsL fs so x.toNat).length) (Nat.le_refl _)
  have h2 : v < prodN (szsL fs so x.toNat) (szsL fs so x.toNat).length := by rw [hD]; exact h1
  have hlp : ∀ i, i < (szsL fs so x.toNat).length → 0 < (szsL fs so x.toNat).getD i 0 := fun i hi => prodN_pos (fun i hi => (hlx i hi).1) (Nat.le_refl _) (by omega) hi
  have hdl : (digL (szsL fs so x.toNat) v).length = so.length := by unfold digL; rw [length_digP, hD]
  have htl := (hf.is 0 hpos).1.c.1.tl
  have hmi : ∀ i, i < (szsL fs so y.toNat).length → 0 ≤ (movD fs so ar (digL (szsL fs so x.toNat) v) so.length).getD i 0 ∧ (movD fs so ar (digL (szsL fs so x.toNat) v) so.length).getD i 0 < (szsL fs so y.toNat).getD i 0 := fun i hi => by
    rw [hE] at hi
    have hs := hso i hi
    have zi := hf.sz ha (s := (so.getD i 0).toNat) (by omega)
    rw [← hx, ← hy] at zi
    have hd := digL_in (l := szsL fs so x.toNat) (v := v) (i := i) (by omega) (hlp i (by omega))
    rw [szsL_get hi] at hd
    rw [movD_get (by omega), if_pos hi, szsL_get hi]
    exact zi.2.2.2.2 _ (by omega)
  refine GCalls.body (N := 62) (rs := [.tmp 8]) Try.func150 rfl rfl rfl rfl (fun Qx c7 hend => ?_)
  refine .fg [0, 1, 2, 3] rfl ?_
  have r := GHeap.Le.refl H
  have m := h
  have j := h'
  have hsl := h.sl
  have hmc : MemN _ g (o + (0 : Int).toNat * 7 + 0) 5 ((fs.getD 0 SFun.z).sh.cells (pp 0).sh) := ⟨rfl, (h.1.at' (i := 0) hpos).left⟩
  have hcin := (h.2 0 hpos).1
  refine .seq (fun K1 e0 => .region (.mv rfl (.nil (e0 _ _ (.seq (fun K2 d7 => .region (.mv rfl ?_)))))))
  refine .q rfl (.idx sl_57_VSs hsl (by omega) rfl rfl (by omega) (by omega) rfl) ?_
  refine .q rfl (.fieldAddr fo_107_0_VSFun rfl) (.q rfl (.loadM ag_27_D rfl hmc) ?_)
  refine .R rfl (.allocR rfl ze_27_E rfl) ?_
  rintro _ H9 ⟨g9, rfl, d0, ge9, d6⟩
  have nx_H9 := d0.1
  replace r := r.trans d0
  have lt_at9 := GHeap.ltg d6
  replace h := m.mono r
  replace h' := j.mono r
  clear hsl hmc hcin
  have hsl := h.sl
  have hmc : MemN _ g (o + (0 : Int).toNat * 7 + 0) 5 ((fs.getD 0 SFun.z).sh.cells (pp 0).sh) := ⟨rfl, (h.1.at' (i := 0) hpos).left⟩
  have hcin := (h.2 0 hpos).1
  refine .r0 rfl rfl (.fillA rfl sz_27_D rfl rfl rfl rfl) ?_
  rintro _ H1005 ⟨rfl, a5, e⟩
  have nx_H1005 := a5.nx
  replace r := r.st a5 (fun k hk => ⟨by omega, trivial⟩)
  have lt_at1005 := GHeap.ltg e
  replace h := m.mono r
  replace h' := j.mono r
  clear hsl hmc hcin
  have hsl := h.sl
  have hmc : MemN _ g (o + (0 : Int).toNat * 7 + 0) 5 ((fs.getD 0 SFun.z).sh.cells (pp 0).sh) := ⟨rfl, (h.1.at' (i := 0) hpos).left⟩
  have hcin := (h.2 0 hpos).1
  have f : MemN _ _ _ _ _ := ⟨rfl, Mem.of_get e⟩
  have u : Cat.At _ g9 0 (fs.getD 0 SFun.z).sh (pp 0).sh := ⟨Mem.of_get e, hcin⟩
  obtain ⟨b2, b6, b4, a8, b0, b1, b7, b5, b8⟩ := u.get
  have b3 : MemN _ _ _ _ _ := ⟨rfl, u.1⟩
  have a9 := u.2
  refine .nil (d7 _ _ (.seq (fun K3 e2 => .region (.mv rfl (.mv rfl (.q rfl (.fieldAddr fo_27_1_B rfl) ?_))))))
  refine .q rfl (.load on_24_B rfl (by first | assumption | exact Mem.of_get e 1 _ rfl)) ?_
  refine .mv rfl ?_
  refine .q rfl (.idxN sl_24_A (by assumption) rfl rfl (by omega)) ?_
  refine .q rfl (.loadI on_2_A (by assumption) rfl (by omega)) ?_
  rw [← hx]
  refine .call rfl rfl rfl rfl @Try.call190 rfl (l29Sizes_c (x := x) (hso := hso) (hx0 := by omega) (hx := hxs) (hn := hn)) ?_
  rintro _ H23 ⟨c2, d1, rfl, t, ge23⟩
  have nx_H23 := c2.1
  replace r := r.trans c2
  replace e := c2.2 _ _ e
  have lt_at23 := GHeap.ltg t
  replace h := m.mono r
  replace h' := j.mono r
  clear hsl hmc hcin
  have hsl := h.sl
  have hmc : MemN _ g (o + (0 : Int).toNat * 7 + 0) 5 ((fs.getD 0 SFun.z).sh.cells (pp 0).sh) := ⟨rfl, (h.1.at' (i := 0) hpos).left⟩
  have hcin := (h.2 0 hpos).1
  clear f
  have f : MemN _ _ _ _ _ := ⟨rfl, Mem.of_get e⟩
  clear u b2 b6 b4 a8 b0 b1 b7 b5 b8 b3 a9
  have u : Cat.At _ g9 0 (fs.getD 0 SFun.z).sh (pp 0).sh := ⟨Mem.of_get e, hcin⟩
  obtain ⟨b2, b6, b4, a8, b0, b1, b7, b5, b8⟩ := u.get
  have b3 : MemN _ _ _ _ _ := ⟨rfl, u.1⟩
  have a9 := u.2
  have c1 := Ints.of_get t
  refine .mv rfl ?_
  refine .call rfl rfl rfl rfl @Try.call191 rfl (l01At_c (hl := hlp) (hn := by omega) (h0 := h0) (h1 := by omega)) ?_
  rintro _ d3 ⟨b9, c5, rfl, a7, ge25⟩
  have nx_H25 := b9.1
  replace r := r.trans b9
  replace e := b9.2 _ _ e
  replace t := b9.2 _ _ t
  have lt_at25 := GHeap.ltg a7
  replace h := m.mono r
  replace h' := j.mono r
  clear hsl hmc hcin
  have hsl := h.sl
  have hmc : MemN _ g (o + (0 : Int).toNat * 7 + 0) 5 ((fs.getD 0 SFun.z).sh.cells (pp 0).sh) := ⟨rfl, (h.1.at' (i := 0) hpos).left⟩
  have hcin := (h.2 0 hpos).1
  clear f
  have f : MemN _ _ _ _ _ := ⟨rfl, Mem.of_get e⟩
  clear u b2 b6 b4 a8 b0 b1 b7 b5 b8 b3 a9
  have u : Cat.At _ g9 0 (fs.getD 0 SFun.z).sh (pp 0).sh := ⟨Mem.of_get e, hcin⟩
  obtain ⟨b2, b6, b4, a8, b0, b1, b7, b5, b8⟩ := u.get
  have b3 : MemN _ _ _ _ _ := ⟨rfl, u.1⟩
  have a9 := u.2
  clear c1
  have c1 := Ints.of_get t
  have c3 := Ints.of_get a7
  refine .mv rfl (.nil (e2 _ _ (.seq (fun K4 d8 => .seq (fun K5 d9 => .region (.mv rfl (.nil (d9 _ _ ?_))))))))
  refine .block ?_
  refine .loopR (σ := Nat) [(0, some _), (1, some _), (2, some _), (9, some _), (10, some _)] (fun k => [(11, some (.int .i64 (k : Int)))]) (fun k H' => St [c5] d3 H' ∧ H'.get c5 = some (.row (ints (movD fs so ar (digL (szsL fs so x.toNat) v) k)) 2 true) ∧ k ≤ so.length) (fun k => so.length - k) (0) ⟨rfl, rfl, rfl, rfl, rfl, trivial⟩ ⟨rfl, trivial⟩ ?_ ?_
  ·
   refine ⟨.refl _ _, by (rw [movD_zero]; assumption), ?_⟩
   omega
  rintro k HL1 ⟨a3, p, hI⟩ KL1 c9
  refine .forget (fr' := [(11, some (.int .i64 (k : Int))), (0, some _), (1, some _), (2, some _), (9, some _), (10, some _)]) ⟨rfl, rfl, rfl, rfl, rfl, rfl, trivial⟩ ?_
  have nx_HL1 := a3.nx
  replace r := r.st a3 (fun k hk => ⟨by omega, trivial⟩)
  have a1 : NE g9 c5 := .a
  replace e := a3.s e a1.ne
  have w : NE d1 c5 := .a
  replace t := a3.s t w.ne
  have lt_at_L10 := GHeap.ltg p
  replace h := m.mono r
  replace h' := j.mono r
  clear hsl hmc hcin
  have hsl := h.sl
  have hmc : MemN _ g (o + (0 : Int).toNat * 7 + 0) 5 ((fs.getD 0 SFun.z).sh.cells (pp 0).sh) := ⟨rfl, (h.1.at' (i := 0) hpos).left⟩
  have hcin := (h.2 0 hpos).1
  clear f
  have f : MemN _ _ _ _ _ := ⟨rfl, Mem.of_get e⟩
  clear u b2 b6 b4 a8 b0 b1 b7 b5 b8 b3 a9
  have u : Cat.At _ g9 0 (fs.getD 0 SFun.z).sh (pp 0).sh := ⟨Mem.of_get e, hcin⟩
  obtain ⟨b2, b6, b4, a8, b0, b1, b7, b5, b8⟩ := u.get
  have b3 : MemN _ _ _ _ _ := ⟨rfl, u.1⟩
  have a9 := u.2
  clear c1
  have c1 := Ints.of_get t
  clear c3
  have c3 := Ints.of_get a7
  have hml := length_movD fs so ar (digL (szsL fs so x.toNat) v) k
  refine .seq (fun K6 d4 => .seq (fun K7 d5 => .region (.mv rfl (.mv rfl (.q rfl (.len sl_24_A rfl) (.q rfl (.cmp rfl rfl rfl) (.nil (d5 _ _ ?_))))))))
  refine .cond rfl (fun c8 => ?_) (fun c8 => ?_)
  ·
   simp only [sps] at c8
   have hs := hso k (by omega)
   have zk := hf.sz ha (s := (so.getD k 0).toNat) (by omega)
   rw [← hx, ← hy] at zk
   have hdk := digL_in (l := szsL fs so x.toNat) (v := v) (i := k) (by omega) (hlp k (by omega))
   rw [szsL_get (by omega)] at hdk
   have hmk : (movD fs so ar (digL (szsL fs so x.toNat) v) k).getD k 0 = (digL (szsL fs so x.toNat) v).getD k 0 := by rw [movD_get (by omega), if_neg (by omega)]
   have c0 := h.1.at' (i := (so.getD k 0).toNat) (by omega)
   have c6 : GHeap.cell _ g (o + (so.getD k 0).toNat * 7 + 6) = some (.slice (pp (so.getD k 0).toNat).a2 (fs.getD (so.getD k 0).toNat SFun.z).ac.length (fs.getD (so.getD k 0).toNat SFun.z).ac.length) := c0 6 _ rfl
   have u2 := (h.2 (so.getD k 0).toNat (by omega)).2.2
   have u3 := u2.2 ar (by omega)
   refine .skip ?_
   refine d4 _ _ (.seq (fun K8 e1 => ?_))
   refine .block ?_
   refine .regionD mo_B (.q 0 (.q 1 (.q 2 (.q 3 (.q 4 (.q 5 (.q 6 (.q 7 (.q 8 (.q 9 (.q 10 (.q 11 (.q 12 (.q 13 (.q 14 (.q 15 (.q 16 (.q 17 (.q 18 (.q 19 (.c 20 0 (.done)))))))))))))))))))))) (by kernel_rfl) ?_
   refine .mv rfl rfl (.mv rfl rfl (.mv rfl rfl (.mv rfl rfl (.mv rfl rfl ?_))))
   refine .q rfl (.idxN sl_24_A (by assumption) rfl rfl (by omega)) ?_
   refine .q rfl (.loadI on_2_A (by assumption) rfl (by omega)) ?_
   refine .q rfl (.idx sl_57_VSs hsl (by omega) rfl rfl (by omega) (by omega) rfl) ?_
   refine .q rfl (.fieldAddr fo_107_2_VSFun rfl) (.q rfl (.load on_25_B rfl c6) (.mv rfl rfl ?_))
   refine .q rfl (.idxN sl_25_B (Intss.sl (by assumption)) rfl rfl (by omega)) ?_
   refine .q rfl (.loadR on_24_B (by assumption) rfl (by omega)) ?_
   refine .mv rfl rfl (.mv rfl rfl ?_)
   refine .q rfl (.idxN sl_24_A (by first | assumption | exact SlA.of_row p (by first | rfl | (simp; done) | (simp <;> omega))) rfl rfl (by omega)) ?_
   refine .q rfl (.loadI on_2_A (by first | assumption | exact Ints.of_get p) rfl (by omega)) ?_
   refine .q rfl (.idx1 sl_24_A (by assumption) rfl rfl (by omega) (by omega)) ?_
   refine .q rfl (.loadI on_2_A (by assumption) rfl (by omega)) ?_
   refine .q rfl (.idxN sl_24_A (by first | assumption | exact SlA.of_row p (by first | rfl | (simp; done) | (simp <;> omega))) rfl rfl (by omega)) ?_
   refine .r0 rfl rfl rfl (.storeI rfl sz_2_E rfl rfl (by assumption) (by first | omega | (simp <;> omega))) ?_
   rintro _ H6020 ⟨rfl, a0, a6⟩
   have nx_H6020 := a0.nx
   replace r := r.st a0 (fun k hk => ⟨by omega, trivial⟩)
   replace a3 := a3.sA a0
   replace e := a0.s e a1.ne
   replace t := a0.s t w.ne
   have lt_at6020 := GHeap.ltg a6
   replace h := m.mono r
   replace h' := j.mono r
   clear hsl hmc hcin
   have hsl := h.sl
   have hmc : MemN _ g (o + (0 : Int).toNat * 7 + 0) 5 ((fs.getD 0 SFun.z).sh.cells (pp 0).sh) := ⟨rfl, (h.1.at' (i := 0) hpos).left⟩
   have hcin := (h.2 0 hpos).1
   clear f
   have f : MemN _ _ _ _ _ := ⟨rfl, Mem.of_get e⟩
   clear u b2 b6 b4 a8 b0 b1 b7 b5 b8 b3 a9
   have u : Cat.At _ g9 0 (fs.getD 0 SFun.z).sh (pp 0).sh := ⟨Mem.of_get e, hcin⟩
   obtain ⟨b2, b6, b4, a8, b0, b1, b7, b5, b8⟩ := u.get
   have b3 : MemN _ _ _ _ _ := ⟨rfl, u.1⟩
   have a9 := u.2
   clear c1
   have c1 := Ints.of_get t
   clear c3
   have c3 := Ints.of_get a7
   clear c0 c6 u2 u3
   have c0 := h.1.at' (i := (so.getD k 0).toNat) (by omega)
   have c6 : GHeap.cell _ g (o + (so.getD k 0).toNat * 7 + 6) = some (.slice (pp (so.getD k 0).toNat).a2 (fs.getD (so.getD k 0).toNat SFun.z).ac.length (fs.getD (so.getD k 0).toNat SFun.z).ac.length) := c0 6 _ rfl
   have u2 := (h.2 (so.getD k 0).toNat (by omega)).2.2
   have u3 := u2.2 ar (by omega)
   rw [Nat.zero_add] at a6
   refine .done ?_
   refine e1 _ _ (.region (.mv rfl ?_))
   refine .q rfl (.add rfl rfl rfl (by omega) (by omega)) ?_
   refine .mv rfl (.nil ?_)
   refine c9 (k + 1) _ _ ?_ ?_ ⟨rfl, rfl, rfl, rfl, rfl, rfl, trivial⟩
   ·
    refine ⟨a3, by first | assumption | (rw [← movD_set (by omega)]; assumption), ?_⟩
    omega
   omega
  simp only [sps] at c8
  obtain rfl : k = so.length := by omega
  refine .exit ?_
  refine d8 _ _ (.seq (fun K9 d2 => .region (.mv rfl (.mv rfl (.q rfl (.fieldAddr fo_27_2_B rfl) ?_)))))
  refine .q rfl (.load on_24_B rfl (by first | assumption | exact Mem.of_get e 2 _ rfl)) ?_
  refine .mv rfl ?_
  refine .q rfl (.idxN sl_24_A (by assumption) rfl rfl (by omega)) ?_
  refine .q rfl (.loadI on_2_A (by assumption) rfl (by omega)) ?_
  rw [← hy]
  refine .call rfl rfl rfl rfl @Try.call190 rfl (l29Sizes_c (x := y) (hso := hso) (hx0 := by omega) (hx := hys) (hn := hn)) ?_
  rintro _ H59 ⟨a4, g59, rfl, c4, ge59⟩
  have nx_H59 := a4.1
  replace r := r.trans a4
  replace a3 := a3.le a4
  replace e := a4.2 _ _ e
  replace t := a4.2 _ _ t
  replace p := a4.2 _ _ p
  have lt_at59 := GHeap.ltg c4
  replace h := m.mono r
  replace h' := j.mono r
  clear hsl hmc hcin
  have hsl := h.sl
  have hmc : MemN _ g (o + (0 : Int).toNat * 7 + 0) 5 ((fs.getD 0 SFun.z).sh.cells (pp 0).sh) := ⟨rfl, (h.1.at' (i := 0) hpos).left⟩
  have hcin := (h.2 0 hpos).1
  clear f
  have f : MemN _ _ _ _ _ := ⟨rfl, Mem.of_get e⟩
  clear u b2 b6 b4 a8 b0 b1 b7 b5 b8 b3 a9
  have u : Cat.At _ g9 0 (fs.getD 0 SFun.z).sh (pp 0).sh := ⟨Mem.of_get e, hcin⟩
  obtain ⟨b2, b6, b4, a8, b0, b1, b7, b5, b8⟩ := u.get
  have b3 : MemN _ _ _ _ _ := ⟨rfl, u.1⟩
  have a9 := u.2
  clear c1
  have c1 := Ints.of_get t
  clear c3
  have c3 := Ints.of_get a7
  have i59 := Ints.of_get c4
  refine .mv rfl ?_
  refine .call rfl rfl rfl rfl @Try.call192 rfl (l01NumberN_c (d := movD fs so ar (digL (szsL fs so x.toNat) v) so.length) (hdn := by rw [length_movD]) (h' := Ints.of_get p) (hd := by rw [length_movD]; omega) (hl := hly) (hn := by omega) (hi := hmi)) ?_
  rintro _ _ ⟨rfl, rfl⟩
  refine .mv rfl (.nil (d2 _ _ ?_))
  refine .ret ?_
  refine c7 _ _ ?_
  refine ⟨_, rfl, ?_⟩
  exact ⟨by rw [hE]; rfl, r⟩
end Go.Proofs.Ytiooclghkafokaa
namespace Go.Proofs.Ytiooclghkafokaa
open Go Go.GL Go.RowKit Go.Proofs
theorem tupleNumberN_c {a b : Option Addr} {n : Nat} {l d : List Int} {H : GHeap} (hdn : d.length = n) (h : Ints H a l := by assumption) (h' : Ints H b d := by assumption) (hd : d.length = l.length) (hl : ∀ i, i < l.length → 0 ≤ l.getD i 0 ∧ l.getD i 0 ≤ 16) (hn : l.length ≤ 2) (hi : ∀ i, i < l.length → 0 ≤ d.getD i 0 ∧ d.getD i 0 < l.getD i 0) :
    GCalls Try.prog 215 [.slice a l.length l.length, .slice b n n] H (Ret (.tuple #[.int .i64 (numN l d l.length), .int .i64 0]) H) := by
  subst hdn
  exact tupleNumber_c h h' hd hl hn hi
set_option maxHeartbeats 4000000 in
theorem moveTuple_c {g0 o0 : Nat} {c : Str} {p : StrP} {b : Option Addr} {so : List Int} {ar : Nat} {v : Int} {H : GHeap} (h : Str.At H g0 o0 c p := by assumption) (h' : Ints H b so := by assumption) (hf : OneSh c.sf) (hso : ∀ i, i < so.length → 0 ≤ so.getD i 0 ∧ so.getD i 0 < c.sf.length) (hn : so.length ≤ 2) (ha : ar < (c.sf.getD 0 SFun.z).sh.src.length) (h0 : 0 ≤ v) (h1 : v < tupN c.sf so ((c.sf.getD 0 SFun.z).sh.src.getD ar 0).toNat) :
    GCalls Try.prog 198 [.pointer (some ⟨g0, o0, none⟩), .slice b so.length so.length, .int .i64 (ar : Int), .int .i64 v] H (Ret (.int .i64 (movN c.sf so ((c.sf.getD 0 SFun.z).sh.src.getD ar 0).toNat ((c.sf.getD 0 SFun.z).sh.tgt.getD ar 0).toNat ar v)) H) := by
  refine GCalls.ret rfl ?_
  obtain ⟨g, o, hga, _⟩ := h.2.1.1.resolve_left (by have := hf.pos; omega)
  have hpos := hf.pos
  have z0 := hf.sz ha hpos
  obtain ⟨x, hx⟩ : ∃ x, x = (c.sf.getD 0 SFun.z).sh.src.getD ar 0 := ⟨_, rfl⟩
  obtain ⟨y, hy⟩ : ∃ y, y = (c.sf.getD 0 SFun.z).sh.tgt.getD ar 0 := ⟨_, rfl⟩
  rw [← hx] at h1 ⊢
  rw [← hy]
  have hD := length_szsL c.sf so x.toNat
  have hE := length_szsL c.sf so y.toNat
  have hxs : ∀ s, s < c.sf.length → x < (c.sf.getD s SFun.z).sz.length := fun s hs => by have := (hf.sz ha hs).1; omega
  have hys : ∀ s, s < c.sf.length → y < (c.sf.getD s SFun.z).sz.length := fun s hs => by have := (hf.sz ha hs).2.1; omega
  have hlx := sizes_in hso (hf.le (x := x.toNat))
  have hly := sizes_in hso (hf.le (x := y.toNat))
  have hpx := prodN_le hlx (by omega) (n := (szsL c.sf so x.toNat).length) (Nat.le_refl _)
  have h2 : v < prodN (szsL c.sf so x.toNat) (szsL c.sf so x.toNat).length := by rw [hD]; exact h1
  have hlp : ∀ i, i < (szsL c.sf so x.toNat).length → 0 < (szsL c.sf so x.toNat).getD i 0 := fun i hi => prodN_pos (fun i hi => (hlx i hi).1) (Nat.le_refl _) (by omega) hi
  have hdl : (digL (szsL c.sf so x.toNat) v).length = so.length := by unfold digL; rw [length_digP, hD]
  have htl := (hf.is 0 hpos).1.c.1.tl
  have hmi : ∀ i, i < (szsL c.sf so y.toNat).length → 0 ≤ (movD c.sf so ar (digL (szsL c.sf so x.toNat) v) so.length).getD i 0 ∧ (movD c.sf so ar (digL (szsL c.sf so x.toNat) v) so.length).getD i 0 < (szsL c.sf so y.toNat).getD i 0 := fun i hi => by
    rw [hE] at hi
    have hs := hso i hi
    have zi := hf.sz ha (s := (so.getD i 0).toNat) (by omega)
    rw [← hx, ← hy] at zi
    have hd := digL_in (l := szsL c.sf so x.toNat) (v := v) (i := i) (by omega) (hlp i (by omega))
    rw [szsL_get hi] at hd
    rw [movD_get (by omega), if_pos hi, szsL_get hi]
    exact zi.2.2.2.2 _ (by omega)
  refine GCalls.body (N := 81) (rs := [.tmp 8]) Try.func198 rfl rfl rfl rfl (fun Qx b6 hend => ?_)
  refine .fg [0, 1, 2, 3] rfl ?_
  have w := GHeap.Le.refl H
  have t := h
  have m := h'
  obtain ⟨a4, a9, f, a8⟩ := h.get
  have hms : MemN _ _ _ _ _ := ⟨rfl, h.1⟩
  have his := h.2
  have r := f.1
  rw [hga] at r
  have a1 := a4
  rw [hga] at a1
  have hsl := f.sl
  rw [hga] at hsl
  have hca : Cat.At _ g (o + (0 : Int).toNat * 7 + 0) (c.sf.getD 0 SFun.z).sh (p.p0 0).sh := ⟨(r.at' (i := 0) hpos).left, (f.2 0 hpos).1⟩
  obtain ⟨d0, d1, d2, d3, d4, e1, e2, e3, e4⟩ := hca.get
  refine .seq (fun K1 d5 => .region (.mv rfl (.nil (d5 _ _ (.seq (fun K2 c7 => .region (.mv rfl (.q rfl (.nilCheck rfl) (.q rfl (.fieldAddr fo_60_0_VStr rfl) (.q rfl (.load on_57_VStr rfl a1) ?_))))))))))
  refine .q rfl (.idx sl_57_VSs hsl (by omega) rfl rfl (by omega) (by omega) rfl) ?_
  refine .q rfl (.fieldAddr fo_107_0_VSFun rfl) (.mv rfl (.nil (c7 _ _ (.seq (fun K3 d7 => .region (.mv rfl (.mv rfl (.mv rfl (.q rfl (.nilCheck rfl) (.q rfl (.fieldAddr fo_27_1_B rfl) ?_))))))))))
  refine .q rfl (.load on_24_B rfl (by assumption)) ?_
  refine .mv rfl ?_
  refine .q rfl (.idxN sl_24_A (by assumption) rfl rfl (by omega)) ?_
  refine .q rfl (.loadI on_2_A (by assumption) rfl (by omega)) ?_
  rw [← hx]
  refine .call rfl rfl rfl rfl @Try.call197 rfl (sizesAt_c (x := x) (hso := hso) (hx0 := by omega) (hx := hxs) (hn := hn)) ?_
  rintro _ H32 ⟨b4, d8, rfl, j, ge32⟩
  have nx_H32 := b4.1
  replace w := w.trans b4
  have lt_at32 := GHeap.ltg j
  replace h := t.mono w
  replace h' := m.mono w
  clear a4 a9 f a8 hms his r a1 hsl hca d0 d1 d2 d3 d4 e1 e2 e3 e4
  obtain ⟨a4, a9, f, a8⟩ := h.get
  have hms : MemN _ _ _ _ _ := ⟨rfl, h.1⟩
  have his := h.2
  have r := f.1
  rw [hga] at r
  have a1 := a4
  rw [hga] at a1
  have hsl := f.sl
  rw [hga] at hsl
  have hca : Cat.At _ g (o + (0 : Int).toNat * 7 + 0) (c.sf.getD 0 SFun.z).sh (p.p0 0).sh := ⟨(r.at' (i := 0) hpos).left, (f.2 0 hpos).1⟩
  obtain ⟨d0, d1, d2, d3, d4, e1, e2, e3, e4⟩ := hca.get
  have b1 := Ints.of_get j
  refine .mv rfl ?_
  refine .call rfl rfl rfl rfl @Try.call214 rfl (tupleAt_c (hl := hlx) (hn := by omega) (h0 := h0) (h1 := h2)) ?_
  rintro _ c3 ⟨b2, b9, rfl, a5, ge34⟩
  have nx_H34 := b2.1
  replace w := w.trans b2
  replace j := b2.2 _ _ j
  have lt_at34 := GHeap.ltg a5
  replace h := t.mono w
  replace h' := m.mono w
  clear a4 a9 f a8 hms his r a1 hsl hca d0 d1 d2 d3 d4 e1 e2 e3 e4
  obtain ⟨a4, a9, f, a8⟩ := h.get
  have hms : MemN _ _ _ _ _ := ⟨rfl, h.1⟩
  have his := h.2
  have r := f.1
  rw [hga] at r
  have a1 := a4
  rw [hga] at a1
  have hsl := f.sl
  rw [hga] at hsl
  have hca : Cat.At _ g (o + (0 : Int).toNat * 7 + 0) (c.sf.getD 0 SFun.z).sh (p.p0 0).sh := ⟨(r.at' (i := 0) hpos).left, (f.2 0 hpos).1⟩
  obtain ⟨d0, d1, d2, d3, d4, e1, e2, e3, e4⟩ := hca.get
  clear b1
  have b1 := Ints.of_get j
  have b3 := Ints.of_get a5
  refine .mv rfl (.q rfl (.extract rfl rfl) (.q rfl (.extract rfl rfl) (.mv rfl (.mv rfl (.nil (d7 _ _ (.seq (fun K4 c8 => .seq (fun K5 c9 => .region (.mv rfl (.q rfl (.len sl_24_A rfl) (.mv rfl (.nil (c9 _ _ ?_))))))))))))))
  refine .block ?_
  refine .loopR (σ := Nat) [(0, some _), (1, some _), (2, some _), (9, some _), (10, some _), (37, some _), (38, some _)] (fun k => [(39, some (.int .i64 (k : Int)))]) (fun k H' => St [b9] c3 H' ∧ H'.get b9 = some (.row (ints (movD c.sf so ar (digL (szsL c.sf so x.toNat) v) k)) 2 true) ∧ k ≤ so.length) (fun k => so.length - k) (0) ⟨rfl, rfl, rfl, rfl, rfl, rfl, rfl, trivial⟩ ⟨rfl, trivial⟩ ?_ ?_
  ·
   refine ⟨.refl _ _, by (rw [movD_zero]; assumption), ?_⟩
   omega
  rintro k HL1 ⟨a3, e, hI⟩ KL1 b7
  refine .forget (fr' := [(39, some (.int .i64 (k : Int))), (0, some _), (1, some _), (2, some _), (9, some _), (10, some _), (37, some _), (38, some _)]) ⟨rfl, rfl, rfl, rfl, rfl, rfl, rfl, rfl, trivial⟩ ?_
  have nx_HL1 := a3.nx
  replace w := w.st a3 (fun k hk => ⟨by omega, trivial⟩)
  have u : NE d8 b9 := .a
  replace j := a3.s j u.ne
  have lt_at_L10 := GHeap.ltg e
  replace h := t.mono w
  replace h' := m.mono w
  clear a4 a9 f a8 hms his r a1 hsl hca d0 d1 d2 d3 d4 e1 e2 e3 e4
  obtain ⟨a4, a9, f, a8⟩ := h.get
  have hms : MemN _ _ _ _ _ := ⟨rfl, h.1⟩
  have his := h.2
  have r := f.1
  rw [hga] at r
  have a1 := a4
  rw [hga] at a1
  have hsl := f.sl
  rw [hga] at hsl
  have hca : Cat.At _ g (o + (0 : Int).toNat * 7 + 0) (c.sf.getD 0 SFun.z).sh (p.p0 0).sh := ⟨(r.at' (i := 0) hpos).left, (f.2 0 hpos).1⟩
  obtain ⟨d0, d1, d2, d3, d4, e1, e2, e3, e4⟩ := hca.get
  clear b1
  have b1 := Ints.of_get j
  clear b3
  have b3 := Ints.of_get a5
  have hml := length_movD c.sf so ar (digL (szsL c.sf so x.toNat) v) k
  refine .seq (fun K6 c4 => .region (.q rfl (.cmp rfl rfl rfl) (.nil (c4 _ _ (.seq (fun K7 c5 => ?_))))))
  refine .cond rfl (fun c0 => ?_) (fun c0 => ?_)
  ·
   simp only [sps] at c0
   have hs := hso k (by omega)
   have zk := hf.sz ha (s := (so.getD k 0).toNat) (by omega)
   rw [← hx, ← hy] at zk
   have hdk := digL_in (l := szsL c.sf so x.toNat) (v := v) (i := k) (by omega) (hlp k (by omega))
   rw [szsL_get (by omega)] at hdk
   have hmk : (movD c.sf so ar (digL (szsL c.sf so x.toNat) v) k).getD k 0 = (digL (szsL c.sf so x.toNat) v).getD k 0 := by rw [movD_get (by omega), if_neg (by omega)]
   have b0 := r.at' (i := (so.getD k 0).toNat) (by omega)
   have c6 : GHeap.cell _ g (o + (so.getD k 0).toNat * 7 + 6) = some (.slice (p.p0 (so.getD k 0).toNat).a2 (c.sf.getD (so.getD k 0).toNat SFun.z).ac.length (c.sf.getD (so.getD k 0).toNat SFun.z).ac.length) := b0 6 _ rfl
   have u2 := (f.2 (so.getD k 0).toNat (by omega)).2.2
   have u3 := u2.2 ar (by omega)
   refine .skip ?_
   refine c5 _ _ (.seq (fun K8 d6 => ?_))
   refine .block ?_
   refine .seq (fun K9 c2 => .region (.mv rfl ?_))
   refine .q rfl (.idxN sl_24_A (by assumption) rfl rfl (by omega)) ?_
   refine .q rfl (.loadI on_2_A (by assumption) rfl (by omega)) ?_
   refine .mv rfl (.mv rfl (.nil (c2 _ _ ?_)))
   refine .regionD mo_B (.q 0 (.q 1 (.q 2 (.q 3 (.q 4 (.q 5 (.q 6 (.q 7 (.q 8 (.q 9 (.q 10 (.q 11 (.q 12 (.q 13 (.q 14 (.q 15 (.q 16 (.q 17 (.q 18 (.q 19 (.c 20 0 (.done)))))))))))))))))))))) (by kernel_rfl) ?_
   refine .mv rfl rfl (.mv rfl rfl (.mv rfl rfl (.q rfl (.nilCheck rfl) (.q rfl (.fieldAddr fo_60_0_VStr rfl) (.q rfl (.load on_57_VStr rfl a1) (.mv rfl rfl ?_))))))
   refine .q rfl (.idx sl_57_VSs hsl (by omega) rfl rfl (by omega) (by omega) rfl) ?_
   refine .q rfl (.fieldAddr fo_107_2_VSFun rfl) (.q rfl (.load on_25_B rfl c6) (.mv rfl rfl ?_))
   refine .q rfl (.idxN sl_25_B (Intss.sl (by assumption)) rfl rfl (by omega)) ?_
   refine .q rfl (.loadR on_24_B (by assumption) rfl (by omega)) ?_
   refine .mv rfl rfl (.mv rfl rfl ?_)
   refine .q rfl (.idxN sl_24_A (by first | assumption | exact SlA.of_row e (by first | rfl | (simp; done) | (simp <;> omega))) rfl rfl (by omega)) ?_
   refine .q rfl (.loadI on_2_A (by first | assumption | exact Ints.of_get e) rfl (by omega)) ?_
   refine .q rfl (.idx1 sl_24_A (by assumption) rfl rfl (by omega) (by omega)) ?_
   refine .q rfl (.loadI on_2_A (by assumption) rfl (by omega)) ?_
   refine .q rfl (.idxN sl_24_A (by first | assumption | exact SlA.of_row e (by first | rfl | (simp; done) | (simp <;> omega))) rfl rfl (by omega)) ?_
   refine .r0 rfl rfl rfl (.storeI rfl sz_2_E rfl rfl (by assumption) (by first | omega | (simp <;> omega))) ?_
   rintro _ H6020 ⟨rfl, a0, a7⟩
   have nx_H6020 := a0.nx
   replace w := w.st a0 (fun k hk => ⟨by omega, trivial⟩)
   replace a3 := a3.sA a0
   replace j := a0.s j u.ne
   have lt_at6020 := GHeap.ltg a7
   replace h := t.mono w
   replace h' := m.mono w
   clear a4 a9 f a8 hms his r a1 hsl hca d0 d1 d2 d3 d4 e1 e2 e3 e4
   obtain ⟨a4, a9, f, a8⟩ := h.get
   have hms : MemN _ _ _ _ _ := ⟨rfl, h.1⟩
   have his := h.2
   have r := f.1
   rw [hga] at r
   have a1 := a4
   rw [hga] at a1
   have hsl := f.sl
   rw [hga] at hsl
   have hca : Cat.At _ g (o + (0 : Int).toNat * 7 + 0) (c.sf.getD 0 SFun.z).sh (p.p0 0).sh := ⟨(r.at' (i := 0) hpos).left, (f.2 0 hpos).1⟩
   obtain ⟨d0, d1, d2, d3, d4, e1, e2, e3, e4⟩ := hca.get
   clear b1
   have b1 := Ints.of_get j
   clear b3
   have b3 := Ints.of_get a5
   clear b0 c6 u2 u3
   have b0 := r.at' (i := (so.getD k 0).toNat) (by omega)
   have c6 : GHeap.cell _ g (o + (so.getD k 0).toNat * 7 + 6) = some (.slice (p.p0 (so.getD k 0).toNat).a2 (c.sf.getD (so.getD k 0).toNat SFun.z).ac.length (c.sf.getD (so.getD k 0).toNat SFun.z).ac.length) := b0 6 _ rfl
   have u2 := (f.2 (so.getD k 0).toNat (by omega)).2.2
   have u3 := u2.2 ar (by omega)
   rw [Nat.zero_add] at a7
   refine .done ?_
   refine d6 _ _ (.region ?_)
   refine .q rfl (.add rfl rfl rfl (by omega) (by omega)) ?_
   refine .mv rfl (.nil ?_)
   refine b7 (k + 1) _ _ ?_ ?_ ⟨rfl, rfl, rfl, rfl, rfl, rfl, rfl, rfl, trivial⟩
   ·
    refine ⟨a3, by first | assumption | (rw [← movD_set (by omega)]; assumption), ?_⟩
    omega
   omega
  simp only [sps] at c0
  obtain rfl : k = so.length := by omega
  refine .exit ?_
  refine c8 _ _ (.seq (fun K10 c1 => .region (.mv rfl (.mv rfl (.mv rfl (.q rfl (.nilCheck rfl) (.q rfl (.fieldAddr fo_27_2_B rfl) ?_)))))))
  refine .q rfl (.load on_24_B rfl (by assumption)) ?_
  refine .mv rfl ?_
  refine .q rfl (.idxN sl_24_A (by assumption) rfl rfl (by omega)) ?_
  refine .q rfl (.loadI on_2_A (by assumption) rfl (by omega)) ?_
  rw [← hy]
  refine .call rfl rfl rfl rfl @Try.call197 rfl (sizesAt_c (x := y) (hso := hso) (hx0 := by omega) (hx := hys) (hn := hn)) ?_
  rintro _ H75 ⟨a6, g75, rfl, b5, ge75⟩
  have nx_H75 := a6.1
  replace w := w.trans a6
  replace a3 := a3.le a6
  replace j := a6.2 _ _ j
  replace e := a6.2 _ _ e
  have lt_at75 := GHeap.ltg b5
  replace h := t.mono w
  replace h' := m.mono w
  clear a4 a9 f a8 hms his r a1 hsl hca d0 d1 d2 d3 d4 e1 e2 e3 e4
  obtain ⟨a4, a9, f, a8⟩ := h.get
  have hms : MemN _ _ _ _ _ := ⟨rfl, h.1⟩
  have his := h.2
  have r := f.1
  rw [hga] at r
  have a1 := a4
  rw [hga] at a1
  have hsl := f.sl
  rw [hga] at hsl
  have hca : Cat.At _ g (o + (0 : Int).toNat * 7 + 0) (c.sf.getD 0 SFun.z).sh (p.p0 0).sh := ⟨(r.at' (i := 0) hpos).left, (f.2 0 hpos).1⟩
  obtain ⟨d0, d1, d2, d3, d4, e1, e2, e3, e4⟩ := hca.get
  clear b1
  have b1 := Ints.of_get j
  clear b3
  have b3 := Ints.of_get a5
  have i75 := Ints.of_get b5
  refine .mv rfl ?_
  refine .call rfl rfl rfl rfl @Try.call215 rfl (tupleNumberN_c (d := movD c.sf so ar (digL (szsL c.sf so x.toNat) v) so.length) (hdn := by rw [length_movD, hdl, hD]) (h' := Ints.of_get e) (hd := by rw [length_movD]; omega) (hl := hly) (hn := by omega) (hi := hmi)) ?_
  rintro _ _ ⟨rfl, rfl⟩
  refine .mv rfl (.q rfl (.extract rfl rfl) (.q rfl (.extract rfl rfl) (.mv rfl (.mv rfl (.nil (c1 _ _ (.seq (fun K11 b8 => .region (.mv rfl (.mv rfl (.nil (b8 _ _ ?_))))))))))))
  refine .ret ?_
  refine b6 _ _ ?_
  refine ⟨_, rfl, ?_⟩
  exact ⟨by rw [hE]; rfl, w⟩
end Go.Proofs.Ytiooclghkafokaa
namespace Go.Proofs.Ytiooclghkafokaa
open Go Go.GL Go.RowKit Go.Proofs
theorem eqss_of_getD {xs ys : List (List Int)} (hl : xs.length = ys.length) (h : ∀ i, i < xs.length → xs.getD i [] = ys.getD i []) : xs = ys := by
  apply List.ext_getElem hl
  intro i h1 h2
  have := h i h1
  simpa [List.getD_eq_getElem?_getD, h1, h2] using this
theorem Cat.eq_iff {c d : Cat} : c = d ↔ c.obj = d.obj ∧ c.src = d.src ∧ c.tgt = d.tgt ∧ c.idn = d.idn ∧ c.comp = d.comp := by
  cases c; cases d; simp
theorem compare_c {a b : Option Addr} {xs ys : List Int} {H : GHeap} (h : Ints H a xs := by assumption) (h' : Ints H b ys := by assumption) (hx : xs.length ≤ 1048576 := by omega) (hy : ys.length ≤ 1048576 := by omega) :
    GCalls Try.prog 211 [.slice a xs.length xs.length, .slice b ys.length ys.length] H (fun v H' => H' = H ∧ ∃ n, v = .int .i64 n ∧ (n = 0 ↔ xs = ys)) := by
  refine GCalls.body (N := 39) (rs := [.tmp 4]) Try.func211 rfl rfl rfl rfl (fun Qx c hend => ?_)
  refine .fg [0, 1] rfl ?_
  refine .seq (fun K1 a6 => .region (.mv rfl (.nil (a6 _ _ (.seq (fun K2 a3 => .seq (fun K3 a8 => .region (.mv rfl (.q rfl (.len sl_24_A rfl) (.mv rfl (.nil (a8 _ _ ?_))))))))))))
  refine .block ?_
  refine .loopR (σ := Nat) [(0, some _), (1, some _), (7, some _)] (fun k => [(8, some (.int .i64 (k : Int)))]) (fun k H' => H = H' ∧ k ≤ xs.length ∧ k ≤ ys.length ∧ ∀ i, i < k → xs.getD i 0 = ys.getD i 0) (fun k => xs.length - k) (0) ⟨rfl, rfl, rfl, trivial⟩ ⟨rfl, trivial⟩ ?_ ?_
  ·
   refine ⟨rfl, ?_⟩
   exact ⟨by omega, by omega, fun i hi => by omega⟩
  rintro k _ ⟨rfl, hI⟩ KL1 j
  refine .forget (fr' := [(8, some (.int .i64 (k : Int))), (0, some _), (1, some _), (7, some _)]) ⟨rfl, rfl, rfl, rfl, trivial⟩ ?_
  obtain ⟨hk, hk', d⟩ := hI
  refine .seq (fun K4 a4 => .region (.q rfl (.cmp rfl rfl rfl) (.nil (a4 _ _ (.seq (fun K5 a5 => ?_))))))
  refine .cond rfl (fun h9 => ?_) (fun h9 => ?_)
  ·
   try simp only [sps] at h9
   refine .skip ?_
   refine a5 _ _ (.seq (fun K6 a1 => ?_))
   refine .block ?_
   refine .seq (fun K7 a2 => .region (.mv rfl (.mv rfl (.nil (a2 _ _ (.seq (fun K8 a7 => .seq (fun K9 a0 => .region (.mv rfl (.mv rfl (.q rfl (.len sl_24_A rfl) (.q rfl (.cmp rfl rfl rfl) (.nil (a0 _ _ ?_))))))))))))))
   refine .cond rfl (fun m => ?_) (fun m => ?_)
   ·
    try simp only [sps] at m
    refine .seq (fun K10 u => .region (.mv rfl (.nil (u _ _ ?_))))
    refine .ret ?_
    refine c _ _ ?_
    refine ⟨_, rfl, ?_⟩
    exact ⟨rfl, _, rfl, fun e => by omega, fun e => by subst e; first | omega | simp_all⟩
   try simp only [sps] at m
   refine .skip ?_
   refine a7 _ _ (.seq (fun K11 l => ?_))
   refine .regionD mo_B (.q 0 (.q 1 (.q 2 (.q 3 (.q 4 (.q 5 (.q 6 (.q 7 (.q 8 (.done)))))))))) (by kernel_rfl) ?_
   refine .mv rfl rfl (.mv rfl rfl ?_)
   refine .q rfl (.idxN sl_24_A (by assumption) rfl rfl (by omega)) ?_
   refine .q rfl (.loadI on_2_A (by assumption) rfl (by omega)) ?_
   refine .mv rfl rfl (.mv rfl rfl ?_)
   refine .q rfl (.idxN sl_24_A (by assumption) rfl rfl (by omega)) ?_
   refine .q rfl (.loadI on_2_A (by assumption) rfl (by omega)) ?_
   refine .q rfl (.cmp rfl rfl rfl) ?_
   refine .done ?_
   refine l _ _ ?_
   refine .cond rfl (fun w => ?_) (fun w => ?_)
   ·
    try simp only [sps] at w
    refine .seq (fun K12 x => .seq (fun K13 r => ?_))
    refine .regionD mo_B (.q 0 (.q 1 (.q 2 (.q 3 (.q 4 (.q 5 (.q 6 (.q 7 (.q 8 (.done)))))))))) (by kernel_rfl) ?_
    refine .mv rfl rfl (.mv rfl rfl ?_)
    refine .q rfl (.idxN sl_24_A (by assumption) rfl rfl (by omega)) ?_
    refine .q rfl (.loadI on_2_A (by assumption) rfl (by omega)) ?_
    refine .mv rfl rfl (.mv rfl rfl ?_)
    refine .q rfl (.idxN sl_24_A (by assumption) rfl rfl (by omega)) ?_
    refine .q rfl (.loadI on_2_A (by assumption) rfl (by omega)) ?_
    refine .q rfl (.cmp rfl rfl rfl) ?_
    refine .done ?_
    refine r _ _ ?_
    refine .cond rfl (fun t => ?_) (fun t => ?_)
    ·
     try simp only [sps] at t
     refine .seq (fun K14 f => .region (.mv rfl (.nil (f _ _ ?_))))
     refine .ret ?_
     refine c _ _ ?_
     refine ⟨_, rfl, ?_⟩
     exact ⟨rfl, _, rfl, fun e => by omega, fun e => by subst e; first | omega | simp_all⟩
    try simp only [sps] at t
    refine .skip ?_
    refine x _ _ (.seq (fun K15 z => .region (.mv rfl (.nil (z _ _ ?_)))))
    refine .ret ?_
    refine c _ _ ?_
    refine ⟨_, rfl, ?_⟩
    exact ⟨rfl, _, rfl, fun e => by omega, fun e => by subst e; first | omega | simp_all⟩
   try simp only [sps] at w
   refine .skip ?_
   refine a1 _ _ (.region ?_)
   refine .q rfl (.add rfl rfl rfl (by omega) (by omega)) ?_
   refine .mv rfl (.nil ?_)
   refine j (k + 1) _ _ ?_ ?_ ⟨rfl, rfl, rfl, rfl, trivial⟩
   ·
    refine ⟨rfl, ?_⟩
    refine ⟨by omega, by omega, fun i hi => ?_⟩
    by_cases e : i < k
    · exact d i e
    · obtain rfl : i = k := by omega
      assumption
   omega
  try simp only [sps] at h9
  refine .exit ?_
  refine a3 _ _ (.seq (fun K16 p => .seq (fun K17 g => .region (.mv rfl (.q rfl (.len sl_24_A rfl) (.mv rfl (.q rfl (.len sl_24_A rfl) (.q rfl (.cmp rfl rfl rfl) (.nil (g _ _ ?_))))))))))
  refine .cond rfl (fun y => ?_) (fun y => ?_)
  ·
   try simp only [sps] at y
   refine .seq (fun K18 o => .region (.mv rfl (.nil (o _ _ ?_))))
   refine .ret ?_
   refine c _ _ ?_
   refine ⟨_, rfl, ?_⟩
   exact ⟨rfl, _, rfl, fun e => by omega, fun e => by subst e; first | omega | simp_all⟩
  try simp only [sps] at y
  refine .skip ?_
  refine p _ _ (.seq (fun K19 s => .region (.mv rfl (.nil (s _ _ ?_)))))
  refine .ret ?_
  refine c _ _ ?_
  refine ⟨_, rfl, ?_⟩
  exact ⟨rfl, _, rfl, fun _ => eq_of_getD (by omega) fun i hi => d i (by omega), fun _ => rfl⟩
theorem same_c {a b : Option Addr} {xs ys : List Int} {H : GHeap} (h : Ints H a xs := by assumption) (h' : Ints H b ys := by assumption) (hx : xs.length ≤ 1048576 := by omega) (hy : ys.length ≤ 1048576 := by omega) :
    GCalls Try.prog 186 [.slice a xs.length xs.length, .slice b ys.length ys.length] H (Ret (.bool (decide (xs = ys))) H) := by
  refine GCalls.body (N := 9) (rs := [.tmp 4]) Try.func186 rfl rfl rfl rfl (fun Qx c hend => ?_)
  refine .fg [0, 1] rfl ?_
  refine .seq (fun K1 d => .region (.mv rfl (.nil (d _ _ (.seq (fun K2 e => .region (.mv rfl (.mv rfl ?_))))))))
  refine .call rfl rfl rfl rfl @Try.call211 rfl (compare_c) ?_
  rintro _ _ ⟨rfl, n, rfl, hn⟩
  refine .q rfl (.cmp rfl rfl rfl) (.mv rfl (.nil (e _ _ ?_)))
  refine .ret ?_
  refine c _ _ ?_
  refine ⟨_, rfl, ?_⟩
  exact .of (congrArg _ (by rw [Bool.eq_iff_iff]; simp [hn]))
theorem l01Same_c {a b : Option Addr} {xs ys : List Int} {H : GHeap} (h : Ints H a xs := by assumption) (h' : Ints H b ys := by assumption) (hx : xs.length ≤ 1048576 := by omega) (hy : ys.length ≤ 1048576 := by omega) :
    GCalls Try.prog 146 [.slice a xs.length xs.length, .slice b ys.length ys.length] H (Ret (.bool (decide (xs = ys))) H) := by
  refine GCalls.body (N := 26) (rs := [.tmp 4]) Try.func146 rfl rfl rfl rfl (fun Qx c hend => ?_)
  refine .fg [0, 1] rfl ?_
  refine .seq (fun K1 x => .region (.mv rfl (.nil (x _ _ (.seq (fun K2 y => .seq (fun K3 p => .region (.mv rfl (.q rfl (.len sl_24_A rfl) (.mv rfl (.q rfl (.len sl_24_A rfl) (.q rfl (.cmp rfl rfl rfl) (.nil (p _ _ ?_))))))))))))))
  refine .cond rfl (fun n => ?_) (fun n => ?_)
  ·
   try simp only [sps] at n
   refine .seq (fun K4 v => .region (.mv rfl (.nil (v _ _ ?_))))
   refine .ret ?_
   refine c _ _ ?_
   refine ⟨_, rfl, ?_⟩
   exact .of (congrArg _ (decide_eq_false fun e => by subst e; first | omega | simp_all))
  try simp only [sps] at n
  refine .skip ?_
  refine y _ _ (.seq (fun K5 w => .seq (fun K6 t => .region (.mv rfl (.nil (t _ _ ?_))))))
  refine .block ?_
  refine .loopR (σ := Nat) [(0, some _), (1, some _)] (fun k => [(5, some (.int .i64 (k : Int)))]) (fun k H' => H = H' ∧ k ≤ xs.length ∧ ∀ i, i < k → xs.getD i 0 = ys.getD i 0) (fun k => xs.length - k) (0) ⟨rfl, rfl, trivial⟩ ⟨rfl, trivial⟩ ?_ ?_
  ·
   refine ⟨rfl, ?_⟩
   exact ⟨by omega, fun i hi => by omega⟩
  rintro k _ ⟨rfl, hI⟩ KL1 f
  refine .forget (fr' := [(5, some (.int .i64 (k : Int))), (0, some _), (1, some _)]) ⟨rfl, rfl, rfl, trivial⟩ ?_
  obtain ⟨hk, d⟩ := hI
  refine .seq (fun K7 u => .seq (fun K8 r => .region (.mv rfl (.mv rfl (.q rfl (.len sl_24_A rfl) (.q rfl (.cmp rfl rfl rfl) (.nil (r _ _ ?_))))))))
  refine .cond rfl (fun o => ?_) (fun o => ?_)
  ·
   try simp only [sps] at o
   refine .skip ?_
   refine u _ _ (.seq (fun K9 s => ?_))
   refine .block ?_
   refine .seq (fun K10 j => ?_)
   refine .regionD mo_B (.q 0 (.q 1 (.q 2 (.q 3 (.q 4 (.q 5 (.q 6 (.q 7 (.q 8 (.done)))))))))) (by kernel_rfl) ?_
   refine .mv rfl rfl (.mv rfl rfl ?_)
   refine .q rfl (.idxN sl_24_A (by assumption) rfl rfl (by omega)) ?_
   refine .q rfl (.loadI on_2_A (by assumption) rfl (by omega)) ?_
   refine .mv rfl rfl (.mv rfl rfl ?_)
   refine .q rfl (.idxN sl_24_A (by assumption) rfl rfl (by omega)) ?_
   refine .q rfl (.loadI on_2_A (by assumption) rfl (by omega)) ?_
   refine .q rfl (.cmp rfl rfl rfl) ?_
   refine .done ?_
   refine j _ _ ?_
   refine .cond rfl (fun m => ?_) (fun m => ?_)
   ·
    try simp only [sps] at m
    refine .seq (fun K11 g => .region (.mv rfl (.nil (g _ _ ?_))))
    refine .ret ?_
    refine c _ _ ?_
    refine ⟨_, rfl, ?_⟩
    exact .of (congrArg _ (decide_eq_false fun e => by subst e; first | omega | simp_all))
   try simp only [sps] at m
   refine .skip ?_
   refine s _ _ (.region (.mv rfl ?_))
   refine .q rfl (.add rfl rfl rfl (by omega) (by omega)) ?_
   refine .mv rfl (.nil ?_)
   refine f (k + 1) _ _ ?_ ?_ ⟨rfl, rfl, rfl, trivial⟩
   ·
    refine ⟨rfl, ?_⟩
    refine ⟨by omega, fun i hi => ?_⟩
    by_cases e : i < k
    · exact d i e
    · obtain rfl : i = k := by omega
      assumption
   omega
  try simp only [sps] at o
  refine .exit ?_
  refine w _ _ (.seq (fun K12 l => .region (.mv rfl (.nil (l _ _ ?_)))))
  refine .ret ?_
  refine c _ _ ?_
  refine ⟨_, rfl, ?_⟩
  exact .of (congrArg _ (decide_eq_true (eq_of_getD (by omega) fun i hi => d i (by omega))))
theorem l01Same2_c {a b : Option Addr} {xs ys : List (List Int)} {r r' : Nat → Option Addr} {H : GHeap} (h : Intss H a xs r := by assumption) (h' : Intss H b ys r' := by assumption) (hx : xs.length ≤ 1048576 := by omega) (hy : ys.length ≤ 1048576 := by omega) (hxs : ∀ i, (xs.getD i []).length ≤ 1048576 := by assumption) (hys : ∀ i, (ys.getD i []).length ≤ 1048576 := by assumption) :
    GCalls Try.prog 147 [.slice a xs.length xs.length, .slice b ys.length ys.length] H (Ret (.bool (decide (xs = ys))) H) := by
  refine GCalls.body (N := 27) (rs := [.tmp 4]) Try.func147 rfl rfl rfl rfl (fun Qx d hend => ?_)
  refine .fg [0, 1] rfl ?_
  refine .seq (fun K1 z => .region (.mv rfl (.nil (z _ _ (.seq (fun K2 a0 => .seq (fun K3 s => .region (.mv rfl (.q rfl (.len sl_25_B rfl) (.mv rfl (.q rfl (.len sl_25_B rfl) (.q rfl (.cmp rfl rfl rfl) (.nil (s _ _ ?_))))))))))))))
  refine .cond rfl (fun o => ?_) (fun o => ?_)
  ·
   try simp only [sps] at o
   refine .seq (fun K4 x => .region (.mv rfl (.nil (x _ _ ?_))))
   refine .ret ?_
   refine d _ _ ?_
   refine ⟨_, rfl, ?_⟩
   exact .of (congrArg _ (decide_eq_false fun e => by subst e; first | omega | simp_all))
  try simp only [sps] at o
  refine .skip ?_
  refine a0 _ _ (.seq (fun K5 y => .seq (fun K6 v => .region (.mv rfl (.nil (v _ _ ?_))))))
  refine .block ?_
  refine .loopR (σ := Nat) [(0, some _), (1, some _)] (fun k => [(5, some (.int .i64 (k : Int)))]) (fun k H' => H = H' ∧ k ≤ xs.length ∧ ∀ i, i < k → xs.getD i [] = ys.getD i []) (fun k => xs.length - k) (0) ⟨rfl, rfl, trivial⟩ ⟨rfl, trivial⟩ ?_ ?_
  ·
   refine ⟨rfl, ?_⟩
   exact ⟨by omega, fun i hi => by omega⟩
  rintro k _ ⟨rfl, hI⟩ KL1 g
  refine .forget (fr' := [(5, some (.int .i64 (k : Int))), (0, some _), (1, some _)]) ⟨rfl, rfl, rfl, trivial⟩ ?_
  obtain ⟨hk, f⟩ := hI
  refine .seq (fun K7 w => .seq (fun K8 t => .region (.mv rfl (.mv rfl (.q rfl (.len sl_25_B rfl) (.q rfl (.cmp rfl rfl rfl) (.nil (t _ _ ?_))))))))
  refine .cond rfl (fun p => ?_) (fun p => ?_)
  ·
   try simp only [sps] at p
   refine .skip ?_
   refine w _ _ (.seq (fun K9 u => ?_))
   refine .block ?_
   refine .seq (fun K10 l => ?_)
   refine .regionD mo_B (.q 0 (.q 1 (.q 2 (.q 3 (.q 4 (.q 5 (.q 6 (.q 7 (.c 8 0 (.q 9 (.done))))))))))) (by kernel_rfl) ?_
   have q1 := hxs k
   have q2 := hys k
   have q3 := h.2 k (by omega)
   have q4 := h'.2 k (by omega)
   refine .mv rfl rfl (.mv rfl rfl ?_)
   refine .q rfl (.idxN sl_25_B (Intss.sl (by assumption)) rfl rfl (by omega)) ?_
   refine .q rfl (.loadR on_24_B (by assumption) rfl (by omega)) ?_
   refine .mv rfl rfl (.mv rfl rfl ?_)
   refine .q rfl (.idxN sl_25_B (Intss.sl (by assumption)) rfl rfl (by omega)) ?_
   refine .q rfl (.loadR on_24_B (by assumption) rfl (by omega)) ?_
   refine .callQ0 rfl rfl rfl rfl rfl @Try.call146 rfl (l01Same_c) ?_
   refine .q rfl (.not rfl) ?_
   refine .done ?_
   refine l _ _ ?_
   refine .cond rfl (fun m => ?_) (fun m => ?_)
   ·
    try simp only [sps] at m
    refine .seq (fun K11 j => .region (.mv rfl (.nil (j _ _ ?_))))
    refine .ret ?_
    refine d _ _ ?_
    refine ⟨_, rfl, ?_⟩
    exact .of (congrArg _ (decide_eq_false fun e => by subst e; first | omega | simp_all))
   try simp only [sps] at m
   refine .skip ?_
   refine u _ _ (.region (.mv rfl ?_))
   refine .q rfl (.add rfl rfl rfl (by omega) (by omega)) ?_
   refine .mv rfl (.nil ?_)
   refine g (k + 1) _ _ ?_ ?_ ⟨rfl, rfl, rfl, trivial⟩
   ·
    refine ⟨rfl, ?_⟩
    refine ⟨by omega, fun i hi => ?_⟩
    by_cases e : i < k
    · exact f i e
    · obtain rfl : i = k := by omega
      assumption
   omega
  try simp only [sps] at p
  refine .exit ?_
  refine y _ _ (.seq (fun K12 n => .region (.mv rfl (.nil (n _ _ ?_)))))
  refine .ret ?_
  refine d _ _ ?_
  refine ⟨_, rfl, ?_⟩
  exact .of (congrArg _ (decide_eq_true (eqss_of_getD (by omega) fun i hi => f i (by omega))))
theorem sameCategory_c {g o g' o' : Nat} {c d : Cat} {p q : CatP} {H : GHeap} (h : Cat.At H g o c p := by assumption) (h' : Cat.At H g' o' d q := by assumption) (hs : c.Small := by assumption) (hs' : d.Small := by assumption) :
    GCalls Try.prog 140 [.pointer (some ⟨g, o, none⟩), .pointer (some ⟨g', o', none⟩)] H (Ret (.bool (B (c = d))) H) := by
  refine GCalls.body (N := 89) (rs := [.tmp 4]) Try.func140 rfl rfl rfl rfl (fun Qx a hend => ?_)
  refine .fg [0, 1] rfl ?_
  obtain ⟨c0, c1, c2, c3, c4, i1, i2, i3, i4⟩ := h.get
  obtain ⟨d0, d1, d2, d3, d4, j1, j2, j3, j4⟩ := h'.get
  obtain ⟨s1, s2, s3, s4, s5, s6⟩ := hs
  obtain ⟨t1, t2, t3, t4, t5, t6⟩ := hs'
  refine .seq (fun K1 b0 => .region (.mv rfl (.nil (b0 _ _ (.seq (fun K2 a7 => .seq (fun K3 f => ?_)))))))
  refine .regionD mo_B (.q 0 (.q 1 (.q 2 (.q 3 (.q 4 (.q 5 (.q 6 (.q 7 (.q 8 (.q 9 (.q 10 (.q 11 (.q 12 (.q 13 (.q 14 (.q 15 (.q 16 (.q 17 (.c 18 0 (.q 19 (.q 20 (.q 21 (.q 22 (.q 23 (.q 24 (.q 25 (.q 26 (.q 27 (.q 28 (.q 29 (.c 30 0 (.q 31 (.q 32 (.q 33 (.q 34 (.q 35 (.q 36 (.q 37 (.q 38 (.q 39 (.q 40 (.q 41 (.c 42 0 (.q 43 (.q 44 (.q 45 (.q 46 (.q 47 (.q 48 (.q 49 (.q 50 (.q 51 (.q 52 (.q 53 (.q 54 (.q 55 (.q 56 (.q 57 (.done))))))))))))))))))))))))))))))))))))))))))))))))))))))))))) (by kernel_rfl) ?_
  refine .mv rfl rfl (.q rfl (.nilCheck rfl) (.q rfl (.fieldAddr fo_27_0_B rfl) ?_))
  refine .q rfl (.load on_2_A rfl (by assumption)) ?_
  refine .mv rfl rfl (.q rfl (.nilCheck rfl) (.q rfl (.fieldAddr fo_27_0_B rfl) ?_))
  refine .q rfl (.load on_2_A rfl (by assumption)) ?_
  refine .q rfl (.cmp rfl rfl rfl) (.mv rfl rfl ?_)
  refine .split (fun m => ?_) (fun m => ?_)
  ·
   try simp only [sps] at m
   refine .z rfl (.z rfl (.z rfl (.z rfl (.z rfl (.z rfl (.z rfl (.z rfl (.sgc rfl rfl rfl rfl rfl rfl (.z rfl (.q rfl (.pickT rfl rfl) (.mv rfl rfl (.z rfl (.z rfl (.z rfl (.z rfl ?_)))))))))))))))
   refine .z rfl (.z rfl (.z rfl (.z rfl (.sgc rfl rfl rfl rfl rfl rfl (.z rfl (.q rfl (.pickT rfl rfl) (.mv rfl rfl (.z rfl (.z rfl (.z rfl (.z rfl (.z rfl (.z rfl (.z rfl (.z rfl ?_)))))))))))))))
   refine .sgc rfl rfl rfl rfl rfl rfl (.z rfl (.q rfl (.pickT rfl rfl) (.mv rfl rfl (.z rfl (.z rfl (.z rfl (.z rfl (.z rfl (.z rfl (.z rfl (.z rfl (.z rfl (.z rfl (.z rfl (.q rfl (.pickT rfl rfl) ?_)))))))))))))))
   refine .done ?_
   refine f _ _ ?_
   refine .condT rfl ?_
   refine .seq (fun K4 a8 => .region (.mv rfl (.nil (a8 _ _ ?_))))
   refine .ret ?_
   refine a _ _ ?_
   refine ⟨_, rfl, ?_⟩
   exact .of (congrArg _ (B_false fun e => by subst e; first | omega | simp_all))
  try simp only [sps] at m
  refine .qg rfl (.move rfl) (.qg rfl (.nilCheck rfl) (.qg rfl (.fieldAddr fo_27_1_B rfl) ?_))
  refine .qg rfl (.load on_24_B rfl (by assumption)) ?_
  refine .qg rfl (.move rfl) (.qg rfl (.nilCheck rfl) (.qg rfl (.fieldAddr fo_27_1_B rfl) ?_))
  refine .qg rfl (.load on_24_B rfl (by assumption)) ?_
  refine .callQ0g rfl rfl rfl rfl rfl rfl rfl @Try.call186 rfl (same_c) ?_
  refine .qg rfl (.not rfl) (.q rfl (.pickF rfl rfl) (.mv rfl rfl ?_))
  refine .split (fun n => ?_) (fun n => ?_)
  ·
   try simp only [sps] at n
   refine .z rfl (.z rfl (.z rfl (.z rfl (.z rfl (.z rfl (.z rfl (.z rfl (.sgc rfl rfl rfl rfl rfl rfl (.z rfl (.q rfl (.pickT rfl rfl) (.mv rfl rfl (.z rfl (.z rfl (.z rfl (.z rfl ?_)))))))))))))))
   refine .z rfl (.z rfl (.z rfl (.z rfl (.sgc rfl rfl rfl rfl rfl rfl (.z rfl (.q rfl (.pickT rfl rfl) (.mv rfl rfl (.z rfl (.z rfl (.z rfl (.z rfl (.z rfl (.z rfl (.z rfl (.z rfl ?_)))))))))))))))
   refine .z rfl (.z rfl (.z rfl (.q rfl (.pickT rfl rfl) ?_)))
   refine .done ?_
   refine f _ _ ?_
   refine .condT rfl ?_
   refine .seq (fun K5 a9 => .region (.mv rfl (.nil (a9 _ _ ?_))))
   refine .ret ?_
   refine a _ _ ?_
   refine ⟨_, rfl, ?_⟩
   exact .of (congrArg _ (B_false fun e => by subst e; first | omega | simp_all))
  try simp only [sps] at n
  refine .qg rfl (.move rfl) (.qg rfl (.nilCheck rfl) (.qg rfl (.fieldAddr fo_27_2_B rfl) ?_))
  refine .qg rfl (.load on_24_B rfl (by assumption)) ?_
  refine .qg rfl (.move rfl) (.qg rfl (.nilCheck rfl) (.qg rfl (.fieldAddr fo_27_2_B rfl) ?_))
  refine .qg rfl (.load on_24_B rfl (by assumption)) ?_
  refine .callQ0g rfl rfl rfl rfl rfl rfl rfl @Try.call186 rfl (same_c) ?_
  refine .qg rfl (.not rfl) (.q rfl (.pickF rfl rfl) (.mv rfl rfl ?_))
  refine .split (fun a2 => ?_) (fun a2 => ?_)
  ·
   try simp only [sps] at a2
   refine .z rfl (.z rfl (.z rfl (.z rfl (.z rfl (.z rfl (.z rfl (.z rfl (.sgc rfl rfl rfl rfl rfl rfl (.z rfl (.q rfl (.pickT rfl rfl) (.mv rfl rfl (.z rfl (.z rfl (.z rfl (.z rfl ?_)))))))))))))))
   refine .z rfl (.z rfl (.z rfl (.z rfl (.z rfl (.z rfl (.z rfl (.q rfl (.pickT rfl rfl) ?_)))))))
   refine .done ?_
   refine f _ _ ?_
   refine .condT rfl ?_
   refine .seq (fun K6 a5 => .region (.mv rfl (.nil (a5 _ _ ?_))))
   refine .ret ?_
   refine a _ _ ?_
   refine ⟨_, rfl, ?_⟩
   exact .of (congrArg _ (B_false fun e => by subst e; first | omega | simp_all))
  try simp only [sps] at a2
  refine .qg rfl (.move rfl) (.qg rfl (.nilCheck rfl) (.qg rfl (.fieldAddr fo_27_3_B rfl) ?_))
  refine .qg rfl (.load on_24_B rfl (by assumption)) ?_
  refine .qg rfl (.move rfl) (.qg rfl (.nilCheck rfl) (.qg rfl (.fieldAddr fo_27_3_B rfl) ?_))
  refine .qg rfl (.load on_24_B rfl (by assumption)) ?_
  refine .callQ0g rfl rfl rfl rfl rfl rfl rfl @Try.call186 rfl (same_c) ?_
  refine .qg rfl (.not rfl) (.q rfl (.pickF rfl rfl) (.mv rfl rfl ?_))
  refine .split (fun x => ?_) (fun x => ?_)
  ·
   try simp only [sps] at x
   refine .z rfl (.z rfl (.z rfl (.z rfl (.z rfl (.z rfl (.z rfl (.z rfl (.z rfl (.z rfl (.z rfl (.q rfl (.pickT rfl rfl) ?_)))))))))))
   refine .done ?_
   refine f _ _ ?_
   refine .condT rfl ?_
   refine .seq (fun K7 a6 => .region (.mv rfl (.nil (a6 _ _ ?_))))
   refine .ret ?_
   refine a _ _ ?_
   refine ⟨_, rfl, ?_⟩
   exact .of (congrArg _ (B_false fun e => by subst e; first | omega | simp_all))
  try simp only [sps] at x
  refine .qg rfl (.move rfl) (.qg rfl (.nilCheck rfl) (.qg rfl (.fieldAddr fo_27_4_B rfl) ?_))
  refine .qg rfl (.load on_25_B rfl (by assumption)) ?_
  refine .qg rfl (.len sl_25_B rfl) (.qg rfl (.move rfl) (.qg rfl (.nilCheck rfl) (.qg rfl (.fieldAddr fo_27_4_B rfl) ?_)))
  refine .qg rfl (.load on_25_B rfl (by assumption)) ?_
  refine .qg rfl (.len sl_25_B rfl) (.qg rfl (.cmp rfl rfl rfl) (.q rfl (.pickF rfl rfl) ?_))
  refine .done ?_
  refine f _ _ ?_
  refine .cond rfl (fun v => ?_) (fun v => ?_)
  ·
   try simp only [sps] at v
   refine .seq (fun K8 b1 => .region (.mv rfl (.nil (b1 _ _ ?_))))
   refine .ret ?_
   refine a _ _ ?_
   refine ⟨_, rfl, ?_⟩
   exact .of (congrArg _ (B_false fun e => by subst e; first | omega | simp_all))
  try simp only [sps] at v
  refine .skip ?_
  refine a7 _ _ (.seq (fun K9 a4 => .seq (fun K10 y => .region (.mv rfl (.q rfl (.nilCheck rfl) (.q rfl (.fieldAddr fo_27_4_B rfl) ?_))))))
  refine .q rfl (.load on_25_B rfl (by assumption)) ?_
  refine .q rfl (.len sl_25_B rfl) (.mv rfl (.nil (y _ _ ?_)))
  refine .block ?_
  refine .loopR (σ := Nat) [(0, some _), (1, some _), (68, some _)] (fun k => [(69, some (.int .i64 (k : Int)))]) (fun k H' => H = H' ∧ k ≤ c.comp.length ∧ ∀ i, i < k → c.comp.getD i [] = d.comp.getD i []) (fun k => c.comp.length - k) (0) ⟨rfl, rfl, rfl, trivial⟩ ⟨rfl, trivial⟩ ?_ ?_
  ·
   refine ⟨rfl, ?_⟩
   exact ⟨by omega, fun i hi => by omega⟩
  rintro k _ ⟨rfl, hI⟩ KL1 r
  refine .forget (fr' := [(69, some (.int .i64 (k : Int))), (0, some _), (1, some _), (68, some _)]) ⟨rfl, rfl, rfl, rfl, trivial⟩ ?_
  obtain ⟨hk, b⟩ := hI
  refine .seq (fun K11 s => .region (.q rfl (.cmp rfl rfl rfl) (.nil (s _ _ (.seq (fun K12 a1 => ?_))))))
  refine .cond rfl (fun a0 => ?_) (fun a0 => ?_)
  ·
   try simp only [sps] at a0
   refine .skip ?_
   refine a1 _ _ (.seq (fun K13 u => ?_))
   refine .block ?_
   refine .seq (fun K14 j => .region (.mv rfl (.mv rfl (.nil (j _ _ (.seq (fun K15 a3 => ?_)))))))
   refine .regionD mo_B (.q 0 (.q 1 (.q 2 (.q 3 (.q 4 (.q 5 (.q 6 (.q 7 (.q 8 (.q 9 (.q 10 (.q 11 (.q 12 (.q 13 (.c 14 0 (.q 15 (.done))))))))))))))))) (by kernel_rfl) ?_
   have q1 := s5 k
   have q2 := t5 k
   have q3 := i4.2 k (by omega)
   have q4 := j4.2 k (by omega)
   refine .mv rfl rfl (.q rfl (.nilCheck rfl) (.q rfl (.fieldAddr fo_27_4_B rfl) ?_))
   refine .q rfl (.load on_25_B rfl (by assumption)) ?_
   refine .mv rfl rfl ?_
   refine .q rfl (.idxN sl_25_B (Intss.sl (by assumption)) rfl rfl (by omega)) ?_
   refine .q rfl (.loadR on_24_B (by assumption) rfl (by omega)) ?_
   refine .mv rfl rfl (.q rfl (.nilCheck rfl) (.q rfl (.fieldAddr fo_27_4_B rfl) ?_))
   refine .q rfl (.load on_25_B rfl (by assumption)) ?_
   refine .mv rfl rfl ?_
   refine .q rfl (.idxN sl_25_B (Intss.sl (by assumption)) rfl rfl (by omega)) ?_
   refine .q rfl (.loadR on_24_B (by assumption) rfl (by omega)) ?_
   refine .callQ0 rfl rfl rfl rfl rfl @Try.call186 rfl (same_c) ?_
   refine .q rfl (.not rfl) ?_
   refine .done ?_
   refine a3 _ _ ?_
   refine .cond rfl (fun w => ?_) (fun w => ?_)
   ·
    try simp only [sps] at w
    refine .seq (fun K16 t => .region (.mv rfl (.nil (t _ _ ?_))))
    refine .ret ?_
    refine a _ _ ?_
    refine ⟨_, rfl, ?_⟩
    exact .of (congrArg _ (B_false fun e => by subst e; first | omega | simp_all))
   try simp only [sps] at w
   refine .skip ?_
   refine u _ _ (.region ?_)
   refine .q rfl (.add rfl rfl rfl (by omega) (by omega)) ?_
   refine .mv rfl (.nil ?_)
   refine r (k + 1) _ _ ?_ ?_ ⟨rfl, rfl, rfl, rfl, trivial⟩
   ·
    refine ⟨rfl, ?_⟩
    refine ⟨by omega, fun i hi => ?_⟩
    by_cases e : i < k
    · exact b i e
    · obtain rfl : i = k := by omega
      assumption
   omega
  try simp only [sps] at a0
  refine .exit ?_
  refine a4 _ _ (.seq (fun K17 l => .region (.mv rfl (.nil (l _ _ ?_)))))
  refine .ret ?_
  refine a _ _ ?_
  refine ⟨_, rfl, ?_⟩
  exact .of (congrArg _ (B_true (Cat.eq_iff.2 ⟨by assumption, by assumption, by assumption, by assumption, eqss_of_getD (by omega) fun i hi => b i (by omega)⟩)))
theorem l02Same_c {c d : Cat} {p p' : CatP} {H : GHeap} (hin : c.In H p := by assumption) (hin' : d.In H p' := by assumption) (hs : c.Small := by assumption) (hs' : d.Small := by assumption) :
    GCalls Try.prog 85 [.agg (c.cells p).toArray, .agg (d.cells p').toArray] H (Ret (.bool (B (c = d))) H) := by
  refine GCalls.ret rfl ?_
  obtain ⟨s1, s2, s3, s4, s5, s6⟩ := hs
  obtain ⟨t1, t2, t3, t4, t5, t6⟩ := hs'
  refine GCalls.body (N := 38) (rs := [.tmp 4]) Try.func85 rfl rfl rfl rfl (fun Qx a hend => ?_)
  refine .fg [0, 1] rfl ?_
  refine .seq (fun K1 l => .region (.d rfl rfl rfl (.box rfl sz_27_D rfl CIs.mk) ?_))
  show GRun _ _ _ _ _ _ (H.push (.row (c.cells p) 27 true))
  have b := GHeap.le_push H (.row (c.cells p) 27 true)
  have hb : Cat.At (H.push (.row (c.cells p) 27 true)) H.next 0 c p := ⟨Mem.new _ _ _ _, hin.mono b⟩
  generalize H.push (.row (c.cells p) 27 true) = H1 at *
  refine .d rfl rfl rfl (.box rfl sz_27_D rfl CIs.mk) ?_
  show GRun _ _ _ _ _ _ (H1.push (.row (d.cells p') 27 true))
  have f := GHeap.le_push H1 (.row (d.cells p') 27 true)
  have hb' : Cat.At (H1.push (.row (d.cells p') 27 true)) H1.next 0 d p' := ⟨Mem.new _ _ _ _, (hin'.mono b).mono f⟩
  replace hb := hb.mono f
  replace b := b.trans f
  generalize H1.push (.row (d.cells p') 27 true) = H2 at *
  obtain ⟨c0, c1, c2, c3, c4, i1, i2, i3, i4⟩ := hb.get
  obtain ⟨d0, d1, d2, d3, d4, j1, j2, j3, j4⟩ := hb'.get
  refine .mv rfl (.nil (l _ _ (.seq (fun K2 g => .region (.q rfl (.fieldAddr fo_27_0_B rfl) ?_)))))
  refine .q rfl (.load on_2_A rfl (by assumption)) ?_
  refine .q rfl (.fieldAddr fo_27_0_B rfl) ?_
  refine .q rfl (.load on_2_A rfl (by assumption)) ?_
  refine .q rfl (.cmp rfl rfl rfl) (.mv rfl ?_)
  refine .split (fun j => ?_) (fun j => ?_)
  ·
   try simp only [sps] at j
   refine .qg rfl (.fieldAddr fo_27_1_B rfl) ?_
   refine .qg rfl (.load on_24_B rfl (by assumption)) ?_
   refine .qg rfl (.fieldAddr fo_27_1_B rfl) ?_
   refine .qg rfl (.load on_24_B rfl (by assumption)) ?_
   refine .callQg rfl rfl rfl rfl rfl rfl @Try.call146 rfl (l01Same_c) ?_
   refine .q rfl (.pickT rfl rfl) (.mv rfl ?_)
   refine .split (fun i => ?_) (fun i => ?_)
   ·
    try simp only [sps] at i
    refine .qg rfl (.fieldAddr fo_27_2_B rfl) ?_
    refine .qg rfl (.load on_24_B rfl (by assumption)) ?_
    refine .qg rfl (.fieldAddr fo_27_2_B rfl) ?_
    refine .qg rfl (.load on_24_B rfl (by assumption)) ?_
    refine .callQg rfl rfl rfl rfl rfl rfl @Try.call146 rfl (l01Same_c) ?_
    refine .q rfl (.pickT rfl rfl) (.mv rfl ?_)
    refine .split (fun h => ?_) (fun h => ?_)
    ·
     try simp only [sps] at h
     refine .qg rfl (.fieldAddr fo_27_3_B rfl) ?_
     refine .qg rfl (.load on_24_B rfl (by assumption)) ?_
     refine .qg rfl (.fieldAddr fo_27_3_B rfl) ?_
     refine .qg rfl (.load on_24_B rfl (by assumption)) ?_
     refine .callQg rfl rfl rfl rfl rfl rfl @Try.call146 rfl (l01Same_c) ?_
     refine .q rfl (.pickT rfl rfl) (.mv rfl ?_)
     refine .split (fun k => ?_) (fun k => ?_)
     ·
      try simp only [sps] at k
      refine .qg rfl (.fieldAddr fo_27_4_B rfl) ?_
      refine .qg rfl (.load on_25_B rfl (by assumption)) ?_
      refine .qg rfl (.fieldAddr fo_27_4_B rfl) ?_
      refine .qg rfl (.load on_25_B rfl (by assumption)) ?_
      refine .callQg rfl rfl rfl rfl rfl rfl @Try.call147 rfl (l01Same2_c) ?_
      refine .q rfl (.pickT rfl rfl) (.mv rfl (.nil (g _ _ ?_)))
      refine .ret ?_
      refine a _ _ ?_
      refine ⟨_, rfl, ?_⟩
      exact ⟨congrArg _ (by rw [Bool.eq_iff_iff, B_iff, Cat.eq_iff]; simp_all), b⟩
     try simp only [sps] at k
     refine .z rfl (.z rfl (.z rfl (.z rfl (.z rfl (.q rfl (.pickF rfl rfl) (.mv rfl (.nil (g _ _ ?_))))))))
     refine .ret ?_
     refine a _ _ ?_
     refine ⟨_, rfl, ?_⟩
     exact ⟨congrArg _ (B_false fun e => by subst e; first | omega | simp_all), b⟩
    try simp only [sps] at h
    refine .z rfl (.z rfl (.z rfl (.z rfl (.z rfl (.q rfl (.pickF rfl rfl) (.mv rfl (.z rfl (.z rfl (.z rfl (.z rfl (.z rfl (.q rfl (.pickF rfl rfl) (.mv rfl (.nil (g _ _ ?_)))))))))))))))
    refine .ret ?_
    refine a _ _ ?_
    refine ⟨_, rfl, ?_⟩
    exact ⟨congrArg _ (B_false fun e => by subst e; first | omega | simp_all), b⟩
   try simp only [sps] at i
   refine .z rfl (.z rfl (.z rfl (.z rfl (.z rfl (.q rfl (.pickF rfl rfl) (.mv rfl (.z rfl (.z rfl (.z rfl (.z rfl (.z rfl (.q rfl (.pickF rfl rfl) (.mv rfl (.z rfl (.z rfl ?_)))))))))))))))
   refine .z rfl (.z rfl (.z rfl (.q rfl (.pickF rfl rfl) (.mv rfl (.nil (g _ _ ?_))))))
   refine .ret ?_
   refine a _ _ ?_
   refine ⟨_, rfl, ?_⟩
   exact ⟨congrArg _ (B_false fun e => by subst e; first | omega | simp_all), b⟩
  try simp only [sps] at j
  refine .z rfl (.z rfl (.z rfl (.z rfl (.z rfl (.q rfl (.pickF rfl rfl) (.mv rfl (.z rfl (.z rfl (.z rfl (.z rfl (.z rfl (.q rfl (.pickF rfl rfl) (.mv rfl (.z rfl (.z rfl ?_)))))))))))))))
  refine .z rfl (.z rfl (.z rfl (.q rfl (.pickF rfl rfl) (.mv rfl (.z rfl (.z rfl (.z rfl (.z rfl (.z rfl (.q rfl (.pickF rfl rfl) (.mv rfl (.nil (g _ _ ?_)))))))))))))
  refine .ret ?_
  refine a _ _ ?_
  refine ⟨_, rfl, ?_⟩
  exact ⟨congrArg _ (B_false fun e => by subst e; first | omega | simp_all), b⟩
end Go.Proofs.Ytiooclghkafokaa
namespace Go.Proofs.Ytiooclghkafokaa
open Go Go.GL Go.RowKit Go.Proofs
end Go.Proofs.Ytiooclghkafokaa
namespace Go.Proofs.Ytiooclghkafokaa
open Go Go.GL Go.RowKit Go.Proofs
theorem fo_107_0_P : fieldOff Try.prog 107 0 = some 0 := by kernel_rfl
theorem fo_107_1_P : fieldOff Try.prog 107 1 = some 5 := by kernel_rfl
theorem fo_107_2_P : fieldOff Try.prog 107 2 = some 6 := by kernel_rfl
theorem isMapOf_c {a : Option Addr} {xs : List Int} {m n : Int} {H : GHeap} (h : Ints H a xs := by assumption) (hn : -9223372036854775808 < n := by omega) (hn' : n ≤ 9223372036854775807 := by omega) (hl : xs.length ≤ 1048576 := by omega) :
    GCalls Try.prog 213 [.slice a xs.length xs.length, .int .i64 m, .int .i64 n] H (Ret (.bool (B ((xs.length : Int) = m ∧ allIn xs n = true))) H) := by
  refine GCalls.body (N := 16) (rs := [.tmp 6]) Try.func213 rfl rfl rfl rfl (fun Qx c hend => ?_)
  refine .fg [0, 1, 2] rfl ?_
  refine .seq (fun K1 e => .region (.mv rfl (.nil (e _ _ (.seq (fun K2 d => .region (.mv rfl (.q rfl (.len sl_24_A rfl) (.mv rfl (.q rfl (.cmp rfl rfl rfl) (.mv rfl ?_)))))))))))
  refine .split (fun b => ?_) (fun b => ?_)
  ·
   simp only [beq_iff_eq, beq_eq_false_iff_ne] at b
   refine .qg rfl (.move rfl) (.qg rfl (.move rfl) ?_)
   refine .callQg rfl rfl rfl rfl rfl rfl @Try.call116 rfl (within_c) ?_
   refine .q rfl (.pickT rfl rfl) (.mv rfl (.nil (d _ _ ?_)))
   refine .ret ?_
   refine c _ _ ?_
   refine ⟨_, rfl, ?_⟩
   first
   | exact .of (congrArg _ (B_false fun hh => b hh.1))
   | exact .of (congrArg _ (by rw [Bool.eq_iff_iff, B_iff]; exact ⟨fun hh => hh.2, fun hh => ⟨b, hh⟩⟩))
  simp only [beq_iff_eq, beq_eq_false_iff_ne] at b
  refine .z rfl (.z rfl (.z rfl (.q rfl (.pickF rfl rfl) (.mv rfl (.nil (d _ _ ?_))))))
  refine .ret ?_
  refine c _ _ ?_
  refine ⟨_, rfl, ?_⟩
  first
  | exact .of (congrArg _ (B_false fun hh => b hh.1))
  | exact .of (congrArg _ (by rw [Bool.eq_iff_iff, B_iff]; exact ⟨fun hh => hh.2, fun hh => ⟨b, hh⟩⟩))
theorem sfShape_c {g o : Nat} {f : SFun} {p : SFunP} {H : GHeap} (h : SFun.At H g o f p := by assumption) (hs : f.Small := by assumption) : GCalls Try.prog 193 [.pointer (some ⟨g, o, none⟩)] H (Ret (.bool (B f.Shape)) H) := by
  refine GCalls.body (N := 82) (rs := [.tmp 2]) Try.func193 rfl rfl rfl rfl (fun Qx b hend => ?_)
  refine .fg [0] rfl ?_
  obtain ⟨fsh, c5, c6, i1, i2⟩ := h.get
  obtain ⟨c0, c1, c2, -, -, d1, d2, -, -⟩ := fsh.get
  obtain ⟨s1, s2, s3, s4⟩ := hs
  refine .seq (fun K1 a8 => .region (.mv rfl (.nil (a8 _ _ (.seq (fun K2 a6 => .region (.mv rfl (.q rfl (.nilCheck rfl) (.q rfl (.fieldAddr fo_107_0_P rfl) (.mv rfl (.nil (a6 _ _ (.seq (fun K3 b0 => .seq (fun K4 m => ?_)))))))))))))))
  refine .regionD mo_B (.q 0 (.c 1 0 (.q 2 (.q 3 (.q 4 (.q 5 (.q 6 (.q 7 (.q 8 (.q 9 (.q 10 (.q 11 (.q 12 (.q 13 (.q 14 (.q 15 (.q 16 (.q 17 (.q 18 (.q 19 (.c 20 0 (.q 21 (.q 22 (.q 23 (.q 24 (.q 25 (.q 26 (.q 27 (.q 28 (.q 29 (.c 30 1 (.q 31 (.q 32 (.done)))))))))))))))))))))))))))))))))) (by kernel_rfl) ?_
  refine .mv rfl rfl ?_
  refine .callQ0 rfl rfl rfl rfl rfl @Try.call53 rfl (isCategory_c) ?_
  refine .q rfl (.not rfl) (.mv rfl rfl ?_)
  refine .split (fun l => ?_) (fun l => ?_)
  ·
   try simp only [sps] at l
   refine .z rfl (.z rfl (.z rfl (.z rfl (.z rfl (.z rfl (.z rfl (.z rfl (.z rfl (.z rfl (.q rfl (.pickT rfl rfl) (.mv rfl rfl (.z rfl (.z rfl (.z rfl (.z rfl ?_)))))))))))))))
   refine .sgc rfl rfl rfl rfl rfl rfl (.z rfl (.q rfl (.pickT rfl rfl) (.mv rfl rfl (.z rfl (.z rfl (.z rfl (.z rfl (.z rfl (.z rfl (.sgc rfl rfl rfl rfl rfl rfl (.z rfl (.q rfl (.pickT rfl rfl) ?_))))))))))))
   refine .done ?_
   refine m _ _ ?_
   refine .condT rfl ?_
   refine .seq (fun K5 a7 => .region (.mv rfl (.nil (a7 _ _ ?_))))
   refine .ret ?_
   refine b _ _ ?_
   refine ⟨_, rfl, ?_⟩
   exact .of (congrArg _ (B_false fun hh => l hh.c))
  try simp only [sps] at l
  refine .qg rfl (.move rfl) (.qg rfl (.nilCheck rfl) (.qg rfl (.fieldAddr fo_107_1_P rfl) ?_))
  refine .qg rfl (.load on_24_B rfl (by assumption)) ?_
  refine .qg rfl (.len sl_24_A rfl) (.qg rfl (.move rfl) (.qg rfl (.nilCheck rfl) (.qg rfl (.fieldAddr fo_27_0_B rfl) ?_)))
  refine .qg rfl (.load on_2_A rfl (by assumption)) ?_
  refine .qg rfl (.cmp rfl rfl rfl) (.q rfl (.pickF rfl rfl) (.mv rfl rfl ?_))
  refine .split (fun e => ?_) (fun e => ?_)
  ·
   try simp only [sps] at e
   refine .z rfl (.z rfl (.z rfl (.z rfl (.sgc rfl rfl rfl rfl rfl rfl (.z rfl (.q rfl (.pickT rfl rfl) (.mv rfl rfl (.z rfl (.z rfl (.z rfl (.z rfl (.z rfl (.z rfl (.sgc rfl rfl rfl rfl rfl rfl (.z rfl ?_)))))))))))))))
   refine .q rfl (.pickT rfl rfl) ?_
   refine .done ?_
   refine m _ _ ?_
   refine .condT rfl ?_
   refine .seq (fun K6 a4 => .region (.mv rfl (.nil (a4 _ _ ?_))))
   refine .ret ?_
   refine b _ _ ?_
   refine ⟨_, rfl, ?_⟩
   exact .of (congrArg _ (B_false fun hh => e hh.zl))
  try simp only [sps] at e
  refine .qg rfl (.move rfl) (.qg rfl (.nilCheck rfl) (.qg rfl (.fieldAddr fo_107_1_P rfl) ?_))
  refine .qg rfl (.load on_24_B rfl (by assumption)) ?_
  refine .callQ0g rfl rfl rfl rfl rfl rfl rfl @Try.call116 rfl (within_c) ?_
  refine .qg rfl (.not rfl) (.q rfl (.pickF rfl rfl) (.mv rfl rfl ?_))
  refine .split (fun d => ?_) (fun d => ?_)
  ·
   try simp only [sps] at d
   refine .z rfl (.z rfl (.z rfl (.z rfl (.z rfl (.z rfl (.sgc rfl rfl rfl rfl rfl rfl (.z rfl (.q rfl (.pickT rfl rfl) ?_))))))))
   refine .done ?_
   refine m _ _ ?_
   refine .condT rfl ?_
   refine .seq (fun K7 a5 => .region (.mv rfl (.nil (a5 _ _ ?_))))
   refine .ret ?_
   refine b _ _ ?_
   refine ⟨_, rfl, ?_⟩
   exact .of (congrArg _ (B_false fun hh => by rw [allIn_iff.2 fun i hi => by have := hh.sz i hi; omega] at d; cases d))
  try simp only [sps] at d
  refine .qg rfl (.move rfl) (.qg rfl (.nilCheck rfl) (.qg rfl (.fieldAddr fo_107_2_P rfl) ?_))
  refine .qg rfl (.load on_25_B rfl (by assumption)) ?_
  refine .qg rfl (.len sl_25_B rfl) (.qg rfl (.move rfl) ?_)
  refine .callQ1g rfl rfl rfl rfl rfl rfl rfl @Try.call67 rfl (arrows_c) (.refl _) ?_
  refine .qg rfl (.cmp rfl rfl rfl) (.q rfl (.pickF rfl rfl) ?_)
  refine .done ?_
  refine m _ _ ?_
  refine .cond rfl (fun a0 => ?_) (fun a0 => ?_)
  ·
   try simp only [sps] at a0
   refine .seq (fun K8 a9 => .region (.mv rfl (.nil (a9 _ _ ?_))))
   refine .ret ?_
   refine b _ _ ?_
   refine ⟨_, rfl, ?_⟩
   exact .of (congrArg _ (B_false fun hh => by have := hh.al; omega))
  try simp only [sps] at a0
  refine .skip ?_
  refine b0 _ _ (.seq (fun K9 a3 => .seq (fun K10 x => .region (.mv rfl (.q rfl (.nilCheck rfl) (.q rfl (.fieldAddr fo_107_2_P rfl) ?_))))))
  refine .q rfl (.load on_25_B rfl (by assumption)) ?_
  refine .q rfl (.len sl_25_B rfl) (.mv rfl (.nil (x _ _ ?_)))
  refine .block ?_
  have hC := l
  have hS := hC.1
  have q1 := hS.tl
  refine .loopR (σ := Nat) [(0, some _), (3, some _), (45, some _), (46, some _)] (fun k => [(47, some (.int .i64 (k : Int)))]) (fun k H' => H = H' ∧ (k : Int) ≤ f.ac.length ∧ ∀ a, a < k → f.AcOk a) (fun k => (f.ac.length - k : Int).toNat) (0) ⟨rfl, rfl, rfl, rfl, trivial⟩ ⟨rfl, trivial⟩ ?_ ?_
  ·
   refine ⟨rfl, ?_⟩
   exact ⟨by omega, fun _ _ => by omega⟩
  rintro k _ ⟨rfl, hI⟩ KL1 s
  refine .forget (fr' := [(47, some (.int .i64 (k : Int))), (0, some _), (3, some _), (45, some _), (46, some _)]) ⟨rfl, rfl, rfl, rfl, rfl, trivial⟩ ?_
  obtain ⟨hk1, a2⟩ := hI
  refine .seq (fun K11 t => .region (.q rfl (.cmp rfl rfl rfl) (.nil (t _ _ (.seq (fun K12 y => ?_))))))
  refine .cond rfl (fun v => ?_) (fun v => ?_)
  ·
   simp only [sps] at v
   have q3 := hS.src k (by omega)
   have q4 := hS.tgt k (by omega)
   have q5 := d (f.sh.tgt.getD k 0).toNat (by omega)
   have q6 := i2.2 k (by omega)
   have q7 := s4 k
   refine .skip ?_
   refine y _ _ (.seq (fun K13 w => ?_))
   refine .block ?_
   refine .seq (fun K14 n => .region (.mv rfl ?_))
   refine .q rfl (.idxN sl_25_B (Intss.sl (by assumption)) rfl rfl (by omega)) ?_
   refine .q rfl (.loadR on_24_B (by assumption) rfl (by omega)) ?_
   refine .mv rfl (.mv rfl (.nil (n _ _ (.seq (fun K15 a1 => ?_)))))
   refine .regionD mo_B (.q 0 (.q 1 (.q 2 (.q 3 (.q 4 (.q 5 (.q 6 (.q 7 (.q 8 (.q 9 (.q 10 (.q 11 (.q 12 (.q 13 (.q 14 (.q 15 (.q 16 (.q 17 (.q 18 (.q 19 (.q 20 (.q 21 (.q 22 (.q 23 (.q 24 (.q 25 (.q 26 (.c 27 0 (.q 28 (.done)))))))))))))))))))))))))))))) (by kernel_rfl) ?_
   refine .mv rfl rfl (.mv rfl rfl (.q rfl (.nilCheck rfl) (.q rfl (.fieldAddr fo_107_1_P rfl) ?_)))
   refine .q rfl (.load on_24_B rfl (by assumption)) ?_
   refine .mv rfl rfl (.q rfl (.nilCheck rfl) (.q rfl (.fieldAddr fo_27_1_B rfl) ?_))
   refine .q rfl (.load on_24_B rfl (by assumption)) ?_
   refine .mv rfl rfl ?_
   refine .q rfl (.idxN sl_24_A (by assumption) rfl rfl (by omega)) ?_
   refine .q rfl (.loadI on_2_A (by assumption) rfl (by omega)) ?_
   refine .q rfl (.idx1 sl_24_A (by assumption) rfl rfl (by omega) (by omega)) ?_
   refine .q rfl (.loadI on_2_A (by assumption) rfl (by omega)) ?_
   refine .mv rfl rfl (.q rfl (.nilCheck rfl) (.q rfl (.fieldAddr fo_107_1_P rfl) ?_))
   refine .q rfl (.load on_24_B rfl (by assumption)) ?_
   refine .mv rfl rfl (.q rfl (.nilCheck rfl) (.q rfl (.fieldAddr fo_27_2_B rfl) ?_))
   refine .q rfl (.load on_24_B rfl (by assumption)) ?_
   refine .mv rfl rfl ?_
   refine .q rfl (.idxN sl_24_A (by assumption) rfl rfl (by omega)) ?_
   refine .q rfl (.loadI on_2_A (by assumption) rfl (by omega)) ?_
   refine .q rfl (.idx1 sl_24_A (by assumption) rfl rfl (by omega) (by omega)) ?_
   refine .q rfl (.loadI on_2_A (by assumption) rfl (by omega)) ?_
   refine .callQ0 rfl rfl rfl rfl rfl @Try.call213 rfl (isMapOf_c) ?_
   refine .q rfl (.not rfl) ?_
   refine .done ?_
   refine a1 _ _ ?_
   refine .cond rfl (fun j => ?_) (fun j => ?_)
   ·
    simp only [B_iff, B_not, Bool.not_eq_true', Bool.not_eq_false'] at j
    refine .seq (fun K16 u => .region (.mv rfl (.nil (u _ _ ?_))))
    refine .ret ?_
    refine b _ _ ?_
    refine ⟨_, rfl, ?_⟩
    exact .of (congrArg _ (B_false fun hh => j (hh.ac k (by omega))))
   simp only [B_iff, B_not, Bool.not_eq_true', Bool.not_eq_false'] at j
   refine .skip ?_
   refine w _ _ (.region ?_)
   refine .q rfl (.add rfl rfl rfl (by omega) (by omega)) ?_
   refine .mv rfl (.nil ?_)
   refine s (k + 1) _ _ ?_ ?_ ⟨rfl, rfl, rfl, rfl, rfl, trivial⟩
   ·
    refine ⟨rfl, ?_⟩
    refine ⟨by omega, fun a hx => ?_⟩
    by_cases hltq : a < k
    · exact a2 a hltq
    · obtain rfl : a = k := by omega
      exact j
   omega
  try simp only [sps] at v
  refine .exit ?_
  refine a3 _ _ (.seq (fun K17 r => .region (.mv rfl (.nil (r _ _ ?_)))))
  refine .ret ?_
  refine b _ _ ?_
  refine ⟨_, rfl, ?_⟩
  exact .of (congrArg _ (B_true ⟨hC, e, fun i hi => by have := d i hi; omega, by omega, fun a ha => a2 a (by omega)⟩))
theorem sfFault_c {g o : Nat} {f : SFun} {p : SFunP} {H : GHeap} (h : SFun.At H g o f p := by assumption) (hS : f.Shape := by assumption) :
    GCalls Try.prog 194 [.pointer (some ⟨g, o, none⟩)] H (fun v H' => (∃ k x y z, v = .tuple #[.int .i64 k, .int .i64 x, .int .i64 y, .int .i64 z] ∧ (k = 0 ↔ f.Laws)) ∧ H' = H) := by
  refine GCalls.body (N := 109) (rs := [.tmp 2, .tmp 3, .tmp 4, .tmp 5]) Try.func194 rfl rfl rfl rfl (fun Qx i hend => ?_)
  refine .fg [0] rfl ?_
  obtain ⟨fsh, -, c6, -, i2⟩ := h.get
  obtain ⟨-, -, -, c3, c4, -, -, d3, d4⟩ := fsh.get
  have hC := hS.c.1
  have q1 := hC.tl
  have q2 := hC.obj
  have q3 := hC.n40
  have q4 := hC.cl
  have q5 := hC.il
  have q6 := hS.al
  have q7 := hS.zl
  refine .seq (fun K1 e7 => .region (.mv rfl (.mv rfl (.mv rfl (.mv rfl (.nil (e7 _ _ (.seq (fun K2 e4 => .region (.mv rfl (.q rfl (.nilCheck rfl) (.q rfl (.fieldAddr fo_107_0_P rfl) (.mv rfl (.nil (e4 _ _ ?_)))))))))))))))
  refine .seq (fun K3 e9 => .seq (fun K4 e5 => .region (.mv rfl (.q rfl (.nilCheck rfl) (.q rfl (.fieldAddr fo_27_3_B rfl) ?_)))))
  refine .q rfl (.load on_24_B rfl (by assumption)) ?_
  refine .q rfl (.len sl_24_A rfl) (.mv rfl (.nil (e5 _ _ ?_)))
  refine .block ?_
  refine .loopR (σ := Nat) [(0, some _), (6, some _), (23, some _), (24, some _)] (fun k => [(25, some (.int .i64 (k : Int)))]) (fun k H' => H = H' ∧ (k : Int) ≤ f.sh.idn.length ∧ ∀ x, x < k → ∀ e : Nat, e < (f.ac.getD (f.sh.idn.getD x 0).toNat []).length → (f.ac.getD (f.sh.idn.getD x 0).toNat []).getD e 0 = e) (fun k => (f.sh.idn.length - k : Int).toNat) (0) ⟨rfl, rfl, rfl, rfl, trivial⟩ ⟨rfl, trivial⟩ ?_ ?_
  ·
   refine ⟨rfl, ?_⟩
   exact ⟨by omega, fun _ _ => by omega⟩
  rintro k _ ⟨rfl, hI⟩ KL1 a6
  refine .forget (fr' := [(25, some (.int .i64 (k : Int))), (0, some _), (6, some _), (23, some _), (24, some _)]) ⟨rfl, rfl, rfl, rfl, rfl, trivial⟩ ?_
  obtain ⟨hk1, d8⟩ := hI
  refine .seq (fun K5 e6 => .region (.q rfl (.cmp rfl rfl rfl) (.nil (e6 _ _ (.seq (fun K6 e2 => ?_))))))
  refine .cond rfl (fun c0 => ?_) (fun c0 => ?_)
  ·
   simp only [sps] at c0
   have r1 := hC.idn k (by omega)
   have r2 := i2.2 (f.sh.idn.getD k 0).toNat (by omega)
   have r3 := hS.ends (a := (f.sh.idn.getD k 0).toNat) (by omega)
   have r4 := hS.sz (f.sh.src.getD (f.sh.idn.getD k 0).toNat 0).toNat (by omega)
   refine .skip ?_
   refine e2 _ _ (.seq (fun K7 e3 => ?_))
   refine .block ?_
   refine .seq (fun K8 e8 => .region (.mv rfl ?_))
   refine .q rfl (.idxN sl_24_A (by assumption) rfl rfl (by omega)) ?_
   refine .q rfl (.loadI on_2_A (by assumption) rfl (by omega)) ?_
   refine .mv rfl (.mv rfl (.nil (e8 _ _ (.seq (fun K9 e1 => .region (.mv rfl (.q rfl (.nilCheck rfl) (.q rfl (.fieldAddr fo_107_2_P rfl) ?_))))))))
   refine .q rfl (.load on_25_B rfl (by assumption)) ?_
   refine .mv rfl ?_
   refine .q rfl (.idx1 sl_25_B (Intss.sl (by assumption)) rfl rfl (by omega) (by omega)) ?_
   refine .q rfl (.loadR on_24_B (by assumption) rfl (by omega)) ?_
   refine .q rfl (.len sl_24_A rfl) (.mv rfl (.nil (e1 _ _ ?_)))
   refine .block ?_
   refine .loopR (σ := Nat) [(0, some _), (6, some _), (7, some _), (23, some _), (24, some _), (25, some _), (36, some _), (37, some _)] (fun l => [(38, some (.int .i64 (l : Int)))]) (fun l H' => H = H' ∧ (l : Int) ≤ (f.ac.getD (f.sh.idn.getD k 0).toNat []).length ∧ ∀ e, e < l → (f.ac.getD (f.sh.idn.getD k 0).toNat []).getD e 0 = e) (fun l => ((f.ac.getD (f.sh.idn.getD k 0).toNat []).length - l : Int).toNat) (0) ⟨rfl, rfl, rfl, rfl, rfl, rfl, rfl, rfl, trivial⟩ ⟨rfl, trivial⟩ ?_ ?_
   ·
    refine ⟨rfl, ?_⟩
    exact ⟨by omega, fun _ _ => by omega⟩
   rintro l _ ⟨rfl, hI⟩ KL2 b5
   refine .forget (fr' := [(38, some (.int .i64 (l : Int))), (0, some _), (6, some _), (7, some _), (23, some _), (24, some _), (25, some _), (36, some _), (37, some _)]) ⟨rfl, rfl, rfl, rfl, rfl, rfl, rfl, rfl, rfl, trivial⟩ ?_
   obtain ⟨hk2, d9⟩ := hI
   refine .seq (fun K10 c2 => .region (.q rfl (.cmp rfl rfl rfl) (.nil (c2 _ _ (.seq (fun K11 a7 => ?_))))))
   refine .cond rfl (fun d0 => ?_) (fun d0 => ?_)
   ·
    try simp only [sps] at d0
    refine .skip ?_
    refine a7 _ _ (.seq (fun K12 c5 => ?_))
    refine .block ?_
    refine .seq (fun K13 b4 => .region (.mv rfl ?_))
    refine .q rfl (.idxN sl_24_A (by assumption) rfl rfl (by omega)) ?_
    refine .q rfl (.loadI on_2_A (by assumption) rfl (by omega)) ?_
    refine .mv rfl (.mv rfl (.nil (b4 _ _ (.seq (fun K14 u => .region (.mv rfl (.mv rfl (.q rfl (.cmp rfl rfl rfl) (.nil (u _ _ ?_))))))))))
    refine .cond rfl (fun m => ?_) (fun m => ?_)
    ·
     try simp only [sps] at m
     refine .seq (fun K15 d6 => .region (.mv rfl (.mv rfl (.mv rfl (.mv rfl (.mv rfl (.mv rfl (.nil (d6 _ _ ?_)))))))))
     refine .ret ?_
     refine i _ _ ?_
     refine ⟨_, _, _, _, rfl, rfl, rfl, rfl, ?_⟩
     exact ⟨⟨_, _, _, _, rfl, ⟨fun hh => absurd hh (by decide), fun hL => absurd (hL.ids k (by omega) l (by omega)) m⟩⟩, rfl⟩
    try simp only [sps] at m
    refine .skip ?_
    refine c5 _ _ (.region ?_)
    refine .q rfl (.add rfl rfl rfl (by omega) (by omega)) ?_
    refine .mv rfl (.nil ?_)
    refine b5 (l + 1) _ _ ?_ ?_ ⟨rfl, rfl, rfl, rfl, rfl, rfl, rfl, rfl, rfl, trivial⟩
    ·
     refine ⟨rfl, ?_⟩
     refine ⟨by omega, fun e hx => ?_⟩
     by_cases hltq : e < l
     · exact d9 e hltq
     · obtain rfl : e = l := by omega
       exact m
    omega
   try simp only [sps] at d0
   refine .exit ?_
   refine e3 _ _ (.region ?_)
   refine .q rfl (.add rfl rfl rfl (by omega) (by omega)) ?_
   refine .mv rfl (.nil ?_)
   refine a6 (k + 1) _ _ ?_ ?_ ⟨rfl, rfl, rfl, rfl, rfl, trivial⟩
   ·
    refine ⟨rfl, ?_⟩
    refine ⟨by omega, fun x hx => ?_⟩
    by_cases hltq : x < k
    · exact d8 x hltq
    · obtain rfl : x = k := by omega
      exact fun e he => d9 e (by omega)
   omega
  try simp only [sps] at c0
  refine .exit ?_
  refine e9 _ _ (.seq (fun K16 a9 => .seq (fun K17 a0 => .region (.mv rfl (.q rfl (.nilCheck rfl) (.q rfl (.fieldAddr fo_27_4_B rfl) ?_))))))
  refine .q rfl (.load on_25_B rfl (by assumption)) ?_
  refine .q rfl (.len sl_25_B rfl) (.mv rfl (.nil (a0 _ _ ?_)))
  refine .block ?_
  refine .loopR (σ := Nat) [(0, some _), (53, some _), (54, some _)] (fun a => [(55, some (.int .i64 (a : Int)))]) (fun a H' => H = H' ∧ (a : Int) ≤ f.sh.comp.length ∧ ∀ a', a' < a → ∀ b : Nat, b < f.sh.src.length → f.sh.tgt.getD a' 0 = f.sh.src.getD b 0 → ∀ e : Nat, e < (f.ac.getD a' []).length → (f.ac.getD ((f.sh.comp.getD a' []).getD b 0).toNat []).getD e 0 = (f.ac.getD b []).getD ((f.ac.getD a' []).getD e 0).toNat 0) (fun a => (f.sh.comp.length - a : Int).toNat) (0) ⟨rfl, rfl, rfl, trivial⟩ ⟨rfl, trivial⟩ ?_ ?_
  ·
   refine ⟨rfl, ?_⟩
   exact ⟨by omega, fun _ _ => by omega⟩
  rintro a _ ⟨rfl, hI⟩ KL3 b1
  refine .forget (fr' := [(55, some (.int .i64 (a : Int))), (0, some _), (53, some _), (54, some _)]) ⟨rfl, rfl, rfl, rfl, trivial⟩ ?_
  obtain ⟨hk3, e0⟩ := hI
  refine .seq (fun K18 a8 => .region (.q rfl (.cmp rfl rfl rfl) (.nil (a8 _ _ (.seq (fun K19 b6 => ?_))))))
  refine .cond rfl (fun b3 => ?_) (fun b3 => ?_)
  ·
   simp only [sps] at b3
   have r1 := hC.row a (by omega)
   have r2 := d4.2 a (by omega)
   have r3 := i2.2 a (by omega)
   have r4 := hS.ends (a := a) (by omega)
   have r5 := hS.sz (f.sh.src.getD a 0).toNat (by omega)
   refine .skip ?_
   refine b6 _ _ (.seq (fun K20 b8 => ?_))
   refine .block ?_
   refine .seq (fun K21 a5 => .region (.mv rfl ?_))
   refine .q rfl (.idxN sl_25_B (Intss.sl (by assumption)) rfl rfl (by omega)) ?_
   refine .q rfl (.loadR on_24_B (by assumption) rfl (by omega)) ?_
   refine .mv rfl (.mv rfl (.nil (a5 _ _ (.seq (fun K22 d7 => .region (.mv rfl (.q rfl (.len sl_24_A rfl) (.mv rfl (.nil (d7 _ _ ?_))))))))))
   refine .block ?_
   refine .loopR (σ := Nat) [(0, some _), (11, some _), (53, some _), (54, some _), (55, some _), (60, some _), (61, some _)] (fun b => [(62, some (.int .i64 (b : Int)))]) (fun b H' => H = H' ∧ (b : Int) ≤ (f.sh.comp.getD a []).length ∧ ∀ b', b' < b → f.sh.tgt.getD a 0 = f.sh.src.getD b' 0 → ∀ e : Nat, e < (f.ac.getD a []).length → (f.ac.getD ((f.sh.comp.getD a []).getD b' 0).toNat []).getD e 0 = (f.ac.getD b' []).getD ((f.ac.getD a []).getD e 0).toNat 0) (fun b => ((f.sh.comp.getD a []).length - b : Int).toNat) (0) ⟨rfl, rfl, rfl, rfl, rfl, rfl, rfl, trivial⟩ ⟨rfl, trivial⟩ ?_ ?_
   ·
    refine ⟨rfl, ?_⟩
    exact ⟨by omega, fun _ _ => by omega⟩
   rintro b _ ⟨rfl, hI⟩ KL4 j
   refine .forget (fr' := [(62, some (.int .i64 (b : Int))), (0, some _), (11, some _), (53, some _), (54, some _), (55, some _), (60, some _), (61, some _)]) ⟨rfl, rfl, rfl, rfl, rfl, rfl, rfl, rfl, trivial⟩ ?_
   obtain ⟨hk4, b0⟩ := hI
   refine .seq (fun K23 c1 => .region (.q rfl (.cmp rfl rfl rfl) (.nil (c1 _ _ (.seq (fun K24 d1 => ?_))))))
   refine .cond rfl (fun b9 => ?_) (fun b9 => ?_)
   ·
    simp only [sps] at b9
    have t1 := i2.2 b (by omega)
    have t2 := hS.ends (a := b) (by omega)
    refine .skip ?_
    refine d1 _ _ (.seq (fun K25 n => ?_))
    refine .block ?_
    refine .seq (fun K26 s => .region (.mv rfl ?_))
    refine .q rfl (.idxN sl_24_A (by assumption) rfl rfl (by omega)) ?_
    refine .q rfl (.loadI on_2_A (by assumption) rfl (by omega)) ?_
    refine .mv rfl (.mv rfl (.nil (s _ _ (.seq (fun K27 d5 => .seq (fun K28 d2 => .region (.mv rfl (.q rfl (.cmp rfl rfl rfl) (.nil (d2 _ _ ?_))))))))))
    refine .cond rfl (fun r => ?_) (fun r => ?_)
    ·
     try simp only [sps] at r
     refine .exit ?_
     refine n _ _ (.region ?_)
     refine .q rfl (.add rfl rfl rfl (by omega) (by omega)) ?_
     refine .mv rfl (.nil ?_)
     refine j (b + 1) _ _ ?_ ?_ ⟨rfl, rfl, rfl, rfl, rfl, rfl, rfl, rfl, trivial⟩
     ·
      refine ⟨rfl, ?_⟩
      refine ⟨by omega, fun b' hx => ?_⟩
      by_cases hltq : b' < b
      · exact b0 b' hltq
      · obtain rfl : b' = b := by omega
        first | exact fun _ e he => b7 e (by omega) | exact fun hn => absurd ((hC.th_ge (f := a) (g := b') (by omega) (by omega)).2 hn) (by show ¬ (0 ≤ (f.sh.comp.getD a []).getD b' 0); omega)
     omega
    simp only [sps] at r
    have u1 : f.sh.tgt.getD a 0 = f.sh.src.getD b 0 := (hC.th_ge (f := a) (g := b) (by omega) (by omega)).1 r
    have u2 := (Cat.Cell.pos u1).1 (hC.cell a (by omega) b (by omega))
    have u3 := i2.2 ((f.sh.comp.getD a []).getD b 0).toNat (by omega)
    have u4 := hS.ends (a := ((f.sh.comp.getD a []).getD b 0).toNat) (by omega)
    rw [u2.2.2.1] at u4
    have u5 := t2.2.2.2.2
    rw [← u1] at u5
    refine .skip ?_
    refine d5 _ _ (.seq (fun K29 a3 => .region (.mv rfl (.q rfl (.nilCheck rfl) (.q rfl (.fieldAddr fo_107_2_P rfl) ?_)))))
    refine .q rfl (.load on_25_B rfl (by assumption)) ?_
    refine .mv rfl ?_
    refine .q rfl (.idxN sl_25_B (Intss.sl (by assumption)) rfl rfl (by omega)) ?_
    refine .q rfl (.loadR on_24_B (by assumption) rfl (by omega)) ?_
    refine .q rfl (.len sl_24_A rfl) (.mv rfl (.nil (a3 _ _ ?_)))
    refine .block ?_
    refine .loopR (σ := Nat) [(0, some _), (11, some _), (13, some _), (14, some _), (53, some _), (54, some _), (55, some _), (60, some _), (61, some _), (62, some _), (75, some _), (76, some _)] (fun e => [(77, some (.int .i64 (e : Int)))]) (fun e H' => H = H' ∧ (e : Int) ≤ (f.ac.getD a []).length ∧ ∀ e', e' < e → (f.ac.getD ((f.sh.comp.getD a []).getD b 0).toNat []).getD e' 0 = (f.ac.getD b []).getD ((f.ac.getD a []).getD e' 0).toNat 0) (fun e => ((f.ac.getD a []).length - e : Int).toNat) (0) ⟨rfl, rfl, rfl, rfl, rfl, rfl, rfl, rfl, rfl, rfl, rfl, rfl, trivial⟩ ⟨rfl, trivial⟩ ?_ ?_
    ·
     refine ⟨rfl, ?_⟩
     exact ⟨by omega, fun _ _ => by omega⟩
    rintro e _ ⟨rfl, hI⟩ KL5 a2
    refine .forget (fr' := [(77, some (.int .i64 (e : Int))), (0, some _), (11, some _), (13, some _), (14, some _), (53, some _), (54, some _), (55, some _), (60, some _), (61, some _), (62, some _), (75, some _), (76, some _)]) ⟨rfl, rfl, rfl, rfl, rfl, rfl, rfl, rfl, rfl, rfl, rfl, rfl, rfl, trivial⟩ ?_
    obtain ⟨hk5, b7⟩ := hI
    refine .seq (fun K30 a1 => .region (.q rfl (.cmp rfl rfl rfl) (.nil (a1 _ _ (.seq (fun K31 c9 => ?_))))))
    refine .cond rfl (fun c8 => ?_) (fun c8 => ?_)
    ·
     simp only [sps] at c8
     have v1 := hS.act (a := a) (by omega) (e := e) (by omega)
     refine .skip ?_
     refine c9 _ _ (.seq (fun K32 c7 => ?_))
     refine .block ?_
     refine .seq (fun K33 a4 => .region (.mv rfl ?_))
     refine .q rfl (.idxN sl_24_A (by assumption) rfl rfl (by omega)) ?_
     refine .q rfl (.loadI on_2_A (by assumption) rfl (by omega)) ?_
     refine .mv rfl (.mv rfl (.nil (a4 _ _ (.seq (fun K34 t => ?_)))))
     refine .regionD mo_B (.q 0 (.q 1 (.q 2 (.q 3 (.q 4 (.q 5 (.q 6 (.q 7 (.q 8 (.q 9 (.q 10 (.q 11 (.q 12 (.q 13 (.q 14 (.q 15 (.q 16 (.q 17 (.q 18 (.q 19 (.q 20 (.done)))))))))))))))))))))) (by kernel_rfl) ?_
     refine .mv rfl rfl (.q rfl (.nilCheck rfl) (.q rfl (.fieldAddr fo_107_2_P rfl) ?_))
     refine .q rfl (.load on_25_B rfl (by assumption)) ?_
     refine .mv rfl rfl ?_
     refine .q rfl (.idx1 sl_25_B (Intss.sl (by assumption)) rfl rfl (by omega) (by omega)) ?_
     refine .q rfl (.loadR on_24_B (by assumption) rfl (by omega)) ?_
     refine .mv rfl rfl ?_
     refine .q rfl (.idxN sl_24_A (by assumption) rfl rfl (by omega)) ?_
     refine .q rfl (.loadI on_2_A (by assumption) rfl (by omega)) ?_
     refine .mv rfl rfl (.q rfl (.nilCheck rfl) (.q rfl (.fieldAddr fo_107_2_P rfl) ?_))
     refine .q rfl (.load on_25_B rfl (by assumption)) ?_
     refine .mv rfl rfl ?_
     refine .q rfl (.idxN sl_25_B (Intss.sl (by assumption)) rfl rfl (by omega)) ?_
     refine .q rfl (.loadR on_24_B (by assumption) rfl (by omega)) ?_
     refine .mv rfl rfl ?_
     refine .q rfl (.idx1 sl_24_A (by assumption) rfl rfl (by omega) (by omega)) ?_
     refine .q rfl (.loadI on_2_A (by assumption) rfl (by omega)) ?_
     refine .q rfl (.cmp rfl rfl rfl) ?_
     refine .done ?_
     refine t _ _ ?_
     refine .cond rfl (fun d => ?_) (fun d => ?_)
     ·
      try simp only [sps] at d
      refine .seq (fun K35 w => .region (.mv rfl (.mv rfl (.mv rfl (.mv rfl (.mv rfl (.mv rfl (.mv rfl (.nil (w _ _ ?_))))))))))
      refine .ret ?_
      refine i _ _ ?_
      refine ⟨_, _, _, _, rfl, rfl, rfl, rfl, ?_⟩
      exact ⟨⟨_, _, _, _, rfl, ⟨fun hh => absurd hh (by decide), fun hL => absurd (hL.th a (by omega) b (by omega) u1 e (by omega)) d⟩⟩, rfl⟩
     try simp only [sps] at d
     refine .skip ?_
     refine c7 _ _ (.region ?_)
     refine .q rfl (.add rfl rfl rfl (by omega) (by omega)) ?_
     refine .mv rfl (.nil ?_)
     refine a2 (e + 1) _ _ ?_ ?_ ⟨rfl, rfl, rfl, rfl, rfl, rfl, rfl, rfl, rfl, rfl, rfl, rfl, rfl, trivial⟩
     ·
      refine ⟨rfl, ?_⟩
      refine ⟨by omega, fun e' hx => ?_⟩
      by_cases hltq : e' < e
      · exact b7 e' hltq
      · obtain rfl : e' = e := by omega
        exact d
     omega
    try simp only [sps] at c8
    refine .exit ?_
    refine n _ _ (.region ?_)
    refine .q rfl (.add rfl rfl rfl (by omega) (by omega)) ?_
    refine .mv rfl (.nil ?_)
    refine j (b + 1) _ _ ?_ ?_ ⟨rfl, rfl, rfl, rfl, rfl, rfl, rfl, rfl, trivial⟩
    ·
     refine ⟨rfl, ?_⟩
     refine ⟨by omega, fun b' hx => ?_⟩
     by_cases hltq : b' < b
     · exact b0 b' hltq
     · obtain rfl : b' = b := by omega
       first | exact fun _ e he => b7 e (by omega) | exact fun hn => absurd ((hC.th_ge (f := a) (g := b') (by omega) (by omega)).2 hn) (by show ¬ (0 ≤ (f.sh.comp.getD a []).getD b' 0); omega)
    omega
   try simp only [sps] at b9
   refine .exit ?_
   refine b8 _ _ (.region ?_)
   refine .q rfl (.add rfl rfl rfl (by omega) (by omega)) ?_
   refine .mv rfl (.nil ?_)
   refine b1 (a + 1) _ _ ?_ ?_ ⟨rfl, rfl, rfl, rfl, trivial⟩
   ·
    refine ⟨rfl, ?_⟩
    refine ⟨by omega, fun a' hx => ?_⟩
    by_cases hltq : a' < a
    · exact e0 a' hltq
    · obtain rfl : a' = a := by omega
      exact fun b hb => b0 b (by omega)
   omega
  try simp only [sps] at b3
  refine .exit ?_
  refine a9 _ _ (.seq (fun K36 b2 => .region (.mv rfl (.mv rfl (.mv rfl (.mv rfl (.nil (b2 _ _ ?_))))))))
  refine .ret ?_
  refine i _ _ ?_
  refine ⟨_, _, _, _, rfl, rfl, rfl, rfl, ?_⟩
  exact ⟨⟨_, _, _, _, rfl, ⟨fun _ => ⟨fun x hx => d8 x (by omega), fun a ha => e0 a (by omega)⟩, fun _ => rfl⟩⟩, rfl⟩
theorem isSetFunctor_c {g o : Nat} {f : SFun} {p : SFunP} {H : GHeap} (h : SFun.At H g o f p := by assumption) (hs : f.Small := by assumption) : GCalls Try.prog 153 [.pointer (some ⟨g, o, none⟩)] H (Ret (.bool (B f.Is)) H) := by
  refine GCalls.body (N := 19) (rs := [.tmp 2]) Try.func153 rfl rfl rfl rfl (fun Qx a hend => ?_)
  refine .fg [0] rfl ?_
  have hle := GHeap.Le.refl H
  have base_h := h
  refine .seq (fun K1 j => .region (.mv rfl (.nil (j _ _ (.seq (fun K2 k => .seq (fun K3 c => .region (.mv rfl ?_))))))))
  refine .callQ rfl rfl rfl rfl @Try.call193 rfl (sfShape_c) ?_
  refine .q rfl (.not rfl) (.nil (c _ _ ?_))
  refine .cond rfl (fun h9 => ?_) (fun h9 => ?_)
  ·
   try simp only [sps] at h9
   refine .seq (fun K4 e => .region (.mv rfl (.nil (e _ _ ?_))))
   refine .ret ?_
   refine a _ _ ?_
   refine ⟨_, rfl, ?_⟩
   exact .of (congrArg _ (B_false fun hh => h9 hh.1))
  try simp only [sps] at h9
  refine .skip ?_
  refine k _ _ (.seq (fun K5 i => .region (.mv rfl ?_)))
  refine .call rfl rfl rfl rfl @Try.call194 rfl (sfFault_c) ?_
  rintro _ _ ⟨⟨k12, x12, y12, z12, rfl, b⟩, heq⟩
  obtain rfl := heq.symm
  refine .mv rfl (.q rfl (.extract rfl rfl) (.q rfl (.extract rfl rfl) (.q rfl (.extract rfl rfl) (.q rfl (.extract rfl rfl) (.mv rfl (.mv rfl (.mv rfl (.mv rfl (.nil (i _ _ (.seq (fun K6 d => .region (.mv rfl (.q rfl (.cmp rfl rfl rfl) (.mv rfl ?_)))))))))))))))
  refine .nil (d _ _ ?_)
  refine .ret ?_
  refine a _ _ ?_
  refine ⟨_, rfl, ?_⟩
  exact .of (congrArg _ (by rw [Bool.eq_iff_iff, B_iff]; simp only [sps]; rw [b]; exact ⟨fun hh => hh.2, fun hh => ⟨h9, hh⟩⟩))
end Go.Proofs.Ytiooclghkafokaa
namespace Go.Proofs.Ytiooclghkafokaa
open Go Go.GL Go.RowKit Go.Proofs
end Go.Proofs.Ytiooclghkafokaa
namespace Go.Proofs.Ytiooclghkafokaa
open Go Go.GL Go.RowKit Go.Proofs
theorem l19Shape_c {f : SFun} {p : SFunP} {H : GHeap} (hin : f.In H p := by assumption) (hs : f.Small := by assumption) : GCalls Try.prog 144 [.agg (f.cells p).toArray] H (Ret (.bool (B f.Shape)) H) := by
  refine GCalls.ret rfl ?_
  refine GCalls.body (N := 85) (rs := [.tmp 2]) Try.func144 rfl rfl rfl rfl (fun Qx b hend => ?_)
  refine .fg [0] rfl ?_
  have g := GHeap.Le.refl H
  have e := hin
  obtain ⟨s1, s2, s3, s4⟩ := hs
  refine .seq (fun K1 c7 => .region ?_)
  refine .R rfl (.boxR rfl sz_107_VSFun rfl) ?_
  rintro _ H1 ⟨g1, rfl, b4, ge1, d⟩
  have nx_H1 := b4.1
  replace g := g.trans b4
  have lt_at1 := GHeap.ltg d
  replace hin := e.mono g
  have w : SFun.At _ g1 0 f p := ⟨Mem.of_get d, hin⟩
  obtain ⟨h, c51, c61, i11, b8⟩ := w.get
  have hm1 : MemN _ _ _ _ _ := ⟨rfl, w.1⟩
  have hi1 := w.2
  have hmsh1 : MemN _ _ _ _ _ := ⟨rfl, h.1⟩
  have hish1 := h.2
  refine .mv rfl (.nil (c7 _ _ (.seq (fun K2 b9 => .seq (fun K3 a6 => .region ?_)))))
  obtain ⟨c0, c1, c2, c3, c4, d1, d2, d3, d4⟩ := h.get
  refine .q rfl (.fieldAddr fo_107_0_P rfl) ?_
  refine .q rfl (.loadM ag_27_D rfl (by assumption)) ?_
  refine .callQ rfl rfl rfl rfl @Try.call98 rfl (l02Is_c) ?_
  refine .q rfl (.not rfl) (.mv rfl ?_)
  refine .split (fun h9 => ?_) (fun h9 => ?_)
  ·
   try simp only [sps] at h9
   refine .z rfl (.z rfl (.z rfl (.z rfl (.z rfl (.z rfl (.z rfl (.q rfl (.pickT rfl rfl) (.mv rfl (.z rfl (.z rfl (.z rfl (.z rfl (.z rfl (.z rfl (.z rfl ?_)))))))))))))))
   refine .z rfl (.q rfl (.pickT rfl rfl) (.nil (a6 _ _ ?_)))
   refine .condT rfl ?_
   refine .seq (fun K4 c5 => .region (.mv rfl (.nil (c5 _ _ ?_))))
   refine .ret ?_
   refine b _ _ ?_
   refine ⟨_, rfl, ?_⟩
   exact ⟨congrArg _ (B_false fun hh => h9 hh.c), g⟩
  try simp only [sps] at h9
  refine .qg rfl (.fieldAddr fo_107_1_P rfl) ?_
  refine .qg rfl (.load on_24_B rfl (by first | assumption | exact Mem.of_get d 5 _ rfl)) ?_
  refine .qg rfl (.len sl_24_A rfl) (.qg rfl (.fieldAddr fo_107_0_P rfl) (.qg rfl (.fieldAddr fo_27_0_B rfl) ?_))
  refine .qg rfl (.load on_2_A rfl (by first | assumption | exact Mem.of_get d 0 _ rfl)) ?_
  refine .qg rfl (.cmp rfl rfl rfl) (.q rfl (.pickF rfl rfl) (.mv rfl ?_))
  refine .split (fun o => ?_) (fun o => ?_)
  ·
   try simp only [sps] at o
   refine .z rfl (.z rfl (.z rfl (.z rfl (.z rfl (.z rfl (.z rfl (.z rfl (.q rfl (.pickT rfl rfl) (.nil (a6 _ _ ?_))))))))))
   refine .condT rfl ?_
   refine .seq (fun K5 c6 => .region (.mv rfl (.nil (c6 _ _ ?_))))
   refine .ret ?_
   refine b _ _ ?_
   refine ⟨_, rfl, ?_⟩
   exact ⟨congrArg _ (B_false fun hh => o hh.zl), g⟩
  try simp only [sps] at o
  refine .qg rfl (.fieldAddr fo_107_2_P rfl) ?_
  refine .qg rfl (.load on_25_B rfl (by first | assumption | exact Mem.of_get d 6 _ rfl)) ?_
  refine .qg rfl (.len sl_25_B rfl) (.qg rfl (.fieldAddr fo_107_0_P rfl) (.qg rfl (.fieldAddr fo_27_1_B rfl) ?_))
  refine .qg rfl (.load on_24_B rfl (by first | assumption | exact Mem.of_get d 1 _ rfl)) ?_
  refine .qg rfl (.len sl_24_A rfl) (.qg rfl (.cmp rfl rfl rfl) (.q rfl (.pickF rfl rfl) (.nil (a6 _ _ ?_))))
  refine .cond rfl (fun u => ?_) (fun u => ?_)
  ·
   try simp only [sps] at u
   refine .seq (fun K6 b6 => .region (.mv rfl (.nil (b6 _ _ ?_))))
   refine .ret ?_
   refine b _ _ ?_
   refine ⟨_, rfl, ?_⟩
   exact ⟨congrArg _ (B_false fun hh => by have := hh.al; omega), g⟩
  try simp only [sps] at u
  refine .skip ?_
  refine b9 _ _ (.seq (fun K7 b7 => .seq (fun K8 c8 => .region (.mv rfl (.nil (c8 _ _ ?_))))))
  refine .block ?_
  have hC := h9
  have hS := hC.1
  have q1 := hS.tl
  have q2 := hS.obj
  refine .loopR (σ := Nat) [(1, some _)] (fun j => [(3, some (.int .i64 (j : Int)))]) (fun j H' => H1 = H' ∧ (j : Int) ≤ f.sz.length ∧ ∀ i, i < j → 0 ≤ f.sz.getD i 0 ∧ f.sz.getD i 0 ≤ 16) (fun j => (f.sz.length - j : Int).toNat) (0) ⟨rfl, trivial⟩ ⟨rfl, trivial⟩ ?_ ?_
  ·
   refine ⟨rfl, ?_⟩
   exact ⟨by omega, fun _ _ => by omega⟩
  rintro j _ ⟨rfl, hI⟩ KL1 x
  refine .forget (fr' := [(3, some (.int .i64 (j : Int))), (1, some _)]) ⟨rfl, rfl, trivial⟩ ?_
  obtain ⟨hk1, b2⟩ := hI
  refine .seq (fun K9 b5 => .seq (fun K10 a7 => .region (.mv rfl (.q rfl (.fieldAddr fo_107_1_P rfl) ?_))))
  refine .q rfl (.load on_24_B rfl (by first | assumption | exact Mem.of_get d 5 _ rfl)) ?_
  refine .q rfl (.len sl_24_A rfl) (.q rfl (.cmp rfl rfl rfl) (.nil (a7 _ _ ?_)))
  refine .cond rfl (fun a8 => ?_) (fun a8 => ?_)
  ·
   try simp only [sps] at a8
   refine .skip ?_
   refine b5 _ _ (.seq (fun K11 y => ?_))
   refine .block ?_
   refine .seq (fun K12 a9 => .region (.q rfl (.fieldAddr fo_107_1_P rfl) ?_))
   refine .q rfl (.load on_24_B rfl (by first | assumption | exact Mem.of_get d 5 _ rfl)) ?_
   refine .mv rfl ?_
   refine .q rfl (.idxN sl_24_A (by assumption) rfl rfl (by omega)) ?_
   refine .q rfl (.loadI on_2_A (by assumption) rfl (by omega)) ?_
   refine .callQ rfl rfl rfl rfl @Try.call83 rfl (l01In_c) ?_
   refine .q rfl (.not rfl) (.nil (a9 _ _ ?_))
   refine .cond rfl (fun r => ?_) (fun r => ?_)
   ·
    try simp only [sps] at r
    refine .seq (fun K13 a3 => .region (.mv rfl (.nil (a3 _ _ ?_))))
    refine .ret ?_
    refine b _ _ ?_
    refine ⟨_, rfl, ?_⟩
    exact ⟨congrArg _ (B_false fun hh => by have := hh.sz j (by omega); omega), g⟩
   try simp only [sps] at r
   refine .skip ?_
   refine y _ _ (.region (.mv rfl ?_))
   refine .q rfl (.add rfl rfl rfl (by omega) (by omega)) ?_
   refine .mv rfl (.nil ?_)
   refine x (j + 1) _ _ ?_ ?_ ⟨rfl, rfl, trivial⟩
   ·
    refine ⟨rfl, ?_⟩
    refine ⟨by omega, fun i hx => ?_⟩
    by_cases hltq : i < j
    · exact b2 i hltq
    · obtain rfl : i = j := by omega
      exact r
   omega
  try simp only [sps] at a8
  refine .exit ?_
  refine b7 _ _ (.seq (fun K14 s => .seq (fun K15 b0 => .region (.mv rfl (.nil (b0 _ _ ?_))))))
  refine .block ?_
  refine .loopR (σ := Nat) [(1, some _)] (fun k => [(4, some (.int .i64 (k : Int)))]) (fun k H' => H1 = H' ∧ (k : Int) ≤ f.ac.length ∧ ∀ a, a < k → f.AcOk a) (fun k => (f.ac.length - k : Int).toNat) (0) ⟨rfl, trivial⟩ ⟨rfl, trivial⟩ ?_ ?_
  ·
   refine ⟨rfl, ?_⟩
   exact ⟨by omega, fun _ _ => by omega⟩
  rintro k _ ⟨rfl, hI⟩ KL2 a4
  refine .forget (fr' := [(4, some (.int .i64 (k : Int))), (1, some _)]) ⟨rfl, rfl, trivial⟩ ?_
  obtain ⟨hk2, b3⟩ := hI
  refine .seq (fun K16 a1 => .seq (fun K17 t => .region (.mv rfl (.q rfl (.fieldAddr fo_107_2_P rfl) ?_))))
  refine .q rfl (.load on_25_B rfl (by first | assumption | exact Mem.of_get d 6 _ rfl)) ?_
  refine .q rfl (.len sl_25_B rfl) (.q rfl (.cmp rfl rfl rfl) (.nil (t _ _ ?_)))
  refine .cond rfl (fun a2 => ?_) (fun a2 => ?_)
  ·
   simp only [sps] at a2
   have q3 := hS.src k (by omega)
   have q4 := hS.tgt k (by omega)
   have q6 := b8.2 k (by omega)
   have q7 := s4 k
   refine .skip ?_
   refine a1 _ _ (.seq (fun K18 a0 => ?_))
   refine .block ?_
   refine .seq (fun K19 m => ?_)
   refine .regionD mo_B (.q 0 (.q 1 (.q 2 (.q 3 (.q 4 (.q 5 (.q 6 (.q 7 (.q 8 (.q 9 (.q 10 (.q 11 (.q 12 (.q 13 (.q 14 (.q 15 (.q 16 (.q 17 (.q 18 (.q 19 (.q 20 (.q 21 (.q 22 (.q 23 (.q 24 (.q 25 (.q 26 (.q 27 (.q 28 (.q 29 (.q 30 (.q 31 (.q 32 (.c 33 0 (.q 34 (.q 35 (.done))))))))))))))))))))))))))))))))))))) (by kernel_rfl) ?_
   refine .q rfl (.fieldAddr fo_107_2_P rfl) ?_
   refine .q rfl (.load on_25_B rfl (by first | assumption | exact Mem.of_get d 6 _ rfl)) ?_
   refine .mv rfl rfl ?_
   refine .q rfl (.idxN sl_25_B (Intss.sl (by assumption)) rfl rfl (by omega)) ?_
   refine .q rfl (.loadR on_24_B (by assumption) rfl (by omega)) ?_
   refine .q rfl (.len sl_24_A rfl) (.q rfl (.fieldAddr fo_107_1_P rfl) ?_)
   refine .q rfl (.load on_24_B rfl (by first | assumption | exact Mem.of_get d 5 _ rfl)) ?_
   refine .q rfl (.fieldAddr fo_107_0_P rfl) (.q rfl (.fieldAddr fo_27_1_B rfl) ?_)
   refine .q rfl (.load on_24_B rfl (by first | assumption | exact Mem.of_get d 1 _ rfl)) ?_
   refine .mv rfl rfl ?_
   refine .q rfl (.idxN sl_24_A (by assumption) rfl rfl (by omega)) ?_
   refine .q rfl (.loadI on_2_A (by assumption) rfl (by omega)) ?_
   refine .q rfl (.idx1 sl_24_A (by assumption) rfl rfl (by omega) (by omega)) ?_
   refine .q rfl (.loadI on_2_A (by assumption) rfl (by omega)) ?_
   refine .q rfl (.cmp rfl rfl rfl) (.mv rfl rfl ?_)
   refine .split (fun n => ?_) (fun n => ?_)
   ·
    try simp only [sps] at n
    refine .z rfl (.z rfl (.z rfl (.z rfl (.z rfl (.z rfl (.z rfl (.z rfl (.z rfl (.z rfl (.z rfl (.z rfl (.z rfl (.z rfl (.z rfl (.sgc rfl rfl rfl rfl rfl rfl ?_)))))))))))))))
    refine .z rfl (.q rfl (.pickT rfl rfl) ?_)
    refine .done ?_
    refine m _ _ ?_
    refine .condT rfl ?_
    refine .seq (fun K20 a5 => .region (.mv rfl (.nil (a5 _ _ ?_))))
    refine .ret ?_
    refine b _ _ ?_
    refine ⟨_, rfl, ?_⟩
    exact ⟨congrArg _ (B_false fun hh => n (hh.ac k (by omega)).1), g⟩
   try simp only [sps] at n
   refine .qg rfl (.fieldAddr fo_107_1_P rfl) ?_
   refine .qg rfl (.load on_24_B rfl (by first | assumption | exact Mem.of_get d 5 _ rfl)) ?_
   refine .qg rfl (.fieldAddr fo_107_0_P rfl) (.qg rfl (.fieldAddr fo_27_2_B rfl) ?_)
   refine .qg rfl (.load on_24_B rfl (by first | assumption | exact Mem.of_get d 2 _ rfl)) ?_
   refine .qg rfl (.move rfl) ?_
   refine .qg rfl (.idxN sl_24_A (by assumption) rfl rfl (by omega)) ?_
   refine .qg rfl (.loadI on_2_A (by assumption) rfl (by omega)) ?_
   refine .qg rfl (.idx1 sl_24_A (by assumption) rfl rfl (by omega) (by omega)) ?_
   refine .qg rfl (.loadI on_2_A (by assumption) rfl (by omega)) ?_
   refine .qg rfl (.fieldAddr fo_107_2_P rfl) ?_
   refine .qg rfl (.load on_25_B rfl (by first | assumption | exact Mem.of_get d 6 _ rfl)) ?_
   refine .qg rfl (.move rfl) ?_
   refine .qg rfl (.idxN sl_25_B (Intss.sl (by assumption)) rfl rfl (by omega)) ?_
   refine .qg rfl (.loadR on_24_B (by assumption) rfl (by omega)) ?_
   refine .callQ0g rfl rfl rfl rfl rfl rfl rfl @Try.call120 rfl (l01Map_c) ?_
   refine .qg rfl (.not rfl) (.q rfl (.pickF rfl rfl) ?_)
   refine .done ?_
   refine m _ _ ?_
   refine .cond rfl (fun l => ?_) (fun l => ?_)
   ·
    simp only [B_iff, B_not, Bool.not_eq_true', Bool.not_eq_false'] at l
    refine .seq (fun K21 v => .region (.mv rfl (.nil (v _ _ ?_))))
    refine .ret ?_
    refine b _ _ ?_
    refine ⟨_, rfl, ?_⟩
    exact ⟨congrArg _ (B_false fun hh => by rw [(hh.ac k (by omega)).2] at l; cases l), g⟩
   simp only [B_iff, B_not, Bool.not_eq_true', Bool.not_eq_false'] at l
   refine .skip ?_
   refine a0 _ _ (.region (.mv rfl ?_))
   refine .q rfl (.add rfl rfl rfl (by omega) (by omega)) ?_
   refine .mv rfl (.nil ?_)
   refine a4 (k + 1) _ _ ?_ ?_ ⟨rfl, rfl, trivial⟩
   ·
    refine ⟨rfl, ?_⟩
    refine ⟨by omega, fun a hx => ?_⟩
    by_cases hltq : a < k
    · exact b3 a hltq
    · obtain rfl : a = k := by omega
      exact ⟨by omega, l⟩
   omega
  try simp only [sps] at a2
  refine .exit ?_
  refine s _ _ (.seq (fun K22 b1 => .region (.mv rfl (.nil (b1 _ _ ?_)))))
  refine .ret ?_
  refine b _ _ ?_
  refine ⟨_, rfl, ?_⟩
  exact ⟨congrArg _ (B_true ⟨hC, by omega, fun i hi => b2 i (by omega), by omega, fun a ha => b3 a (by omega)⟩), g⟩
theorem l19Fault_c {f : SFun} {p : SFunP} {H : GHeap} (hin : f.In H p := by assumption) (hS : f.Shape := by assumption) :
    GCalls Try.prog 145 [.agg (f.cells p).toArray] H (fun v H' => ((∃ k x y z, v = .tuple #[.int .i64 k, .int .i64 x, .int .i64 y, .int .i64 z] ∧ (k = 0 ↔ f.Laws)) ∧ flat v = true) ∧ H' = H) := by
  refine (GCalls.quiet (φ := fun v => (∃ k x y z, v = .tuple #[.int .i64 k, .int .i64 x, .int .i64 y, .int .i64 z] ∧ (k = 0 ↔ f.Laws)) ∧ flat v = true) ?_)
  refine GCalls.body (N := 117) (rs := [.tmp 2, .tmp 3, .tmp 4, .tmp 5]) Try.func145 rfl rfl rfl rfl (fun Qx a0 hend => ?_)
  refine .fg [0] rfl ?_
  have t := GHeap.Le.refl H
  have g := hin
  have hC := hS.c.1
  have q1 := hC.tl
  have q2 := hC.obj
  have q3 := hC.n40
  have q4 := hC.cl
  have q5 := hC.il
  have q6 := hS.al
  have q7 := hS.zl
  refine .seq (fun K1 f5 => .region ?_)
  refine .R rfl (.boxR rfl sz_107_VSFun rfl) ?_
  rintro _ H1 ⟨g1, rfl, e6, ge1, o⟩
  have nx_H1 := e6.1
  replace t := t.trans e6
  have lt_at1 := GHeap.ltg o
  replace hin := g.mono t
  have r : SFun.At _ g1 0 f p := ⟨Mem.of_get o, hin⟩
  obtain ⟨h, a8, a6, a7, w⟩ := r.get
  have a5 : MemN _ _ _ _ _ := ⟨rfl, r.1⟩
  have a9 := r.2
  have n : MemN _ _ _ _ _ := ⟨rfl, h.1⟩
  have j := h.2
  refine .mv rfl (.mv rfl (.mv rfl (.mv rfl (.nil (f5 _ _ (.seq (fun K2 f2 => .region (.q rfl (.fieldAddr fo_107_0_P rfl) ?_))))))))
  refine .q rfl (.loadM ag_27_D rfl (by assumption)) ?_
  refine .R rfl (.allocR rfl ze_27_E rfl) ?_
  rintro _ H6 ⟨g6, rfl, b3, ge6, f8⟩
  have nx_H6 := b3.1
  replace t := t.trans b3
  replace o := b3.2 _ _ o
  have lt_at6 := GHeap.ltg f8
  replace hin := g.mono t
  clear r h a8 a6 a7 w a5 a9 n j
  have r : SFun.At _ g1 0 f p := ⟨Mem.of_get o, hin⟩
  obtain ⟨h, a8, a6, a7, w⟩ := r.get
  have a5 : MemN _ _ _ _ _ := ⟨rfl, r.1⟩
  have a9 := r.2
  have n : MemN _ _ _ _ _ := ⟨rfl, h.1⟩
  have j := h.2
  refine .r0 rfl rfl (.fillA rfl sz_27_D rfl rfl rfl rfl) ?_
  rintro _ i ⟨rfl, m, d⟩
  have nx_H1003 := m.nx
  replace t := t.st m (fun k hk => ⟨by omega, trivial⟩)
  replace o := m.s o
  have lt_at1003 := GHeap.ltg d
  replace hin := g.mono t
  clear r h a8 a6 a7 w a5 a9 n j
  have r : SFun.At _ g1 0 f p := ⟨Mem.of_get o, hin⟩
  obtain ⟨h, a8, a6, a7, w⟩ := r.get
  have a5 : MemN _ _ _ _ _ := ⟨rfl, r.1⟩
  have a9 := r.2
  have n : MemN _ _ _ _ _ := ⟨rfl, h.1⟩
  have j := h.2
  have mm1003 : MemN _ _ _ _ _ := ⟨rfl, Mem.of_get d⟩
  have c2 : Cat.At _ g6 0 f.sh p.sh := ⟨Mem.of_get d, j⟩
  obtain ⟨c06, c16, c26, c36, c46, i16, i26, i36, e9⟩ := c2.get
  have hm6 : MemN _ _ _ _ _ := ⟨rfl, c2.1⟩
  have hi6 := c2.2
  refine .nil (f2 _ _ (.seq (fun K3 f7 => .seq (fun K4 f3 => .region (.mv rfl (.nil (f3 _ _ ?_)))))))
  refine .block ?_
  refine .loopR (σ := Nat) [(1, some _), (6, some _)] (fun k => [(7, some (.int .i64 (k : Int)))]) (fun k H' => i = H' ∧ (k : Int) ≤ f.sh.obj ∧ ∀ x, x < k → ∀ e : Nat, e < (f.ac.getD (f.sh.idn.getD x 0).toNat []).length → (f.ac.getD (f.sh.idn.getD x 0).toNat []).getD e 0 = e) (fun k => (f.sh.obj - k : Int).toNat) (0) ⟨rfl, rfl, trivial⟩ ⟨rfl, trivial⟩ ?_ ?_
  ·
   refine ⟨rfl, ?_⟩
   exact ⟨by omega, fun _ _ => by omega⟩
  rintro k _ ⟨rfl, hI⟩ KL1 b9
  refine .forget (fr' := [(7, some (.int .i64 (k : Int))), (1, some _), (6, some _)]) ⟨rfl, rfl, rfl, trivial⟩ ?_
  obtain ⟨hk1, e5⟩ := hI
  refine .seq (fun K5 f4 => .seq (fun K6 f0 => .region (.mv rfl (.q rfl (.fieldAddr fo_27_0_B rfl) ?_))))
  refine .q rfl (.load on_2_A rfl (by first | assumption | exact Mem.of_get d 0 _ rfl)) ?_
  refine .q rfl (.cmp rfl rfl rfl) (.nil (f0 _ _ ?_))
  refine .cond rfl (fun d5 => ?_) (fun d5 => ?_)
  ·
   simp only [sps] at d5
   have r1 := hC.idn k (by omega)
   have r2 := w.2 (f.sh.idn.getD k 0).toNat (by omega)
   have r3 := hS.ends (a := (f.sh.idn.getD k 0).toNat) (by omega)
   rw [(hC.ids k (by omega)).1] at r3
   have r4 := hS.sz k (by omega)
   have r5 : ((k : Int)).toNat = k := Int.toNat_natCast k
   rw [r5] at r3
   refine .skip ?_
   refine f4 _ _ (.seq (fun K7 f1 => ?_))
   refine .block ?_
   refine .seq (fun K8 f6 => .region (.mv rfl (.nil (f6 _ _ ?_))))
   refine .block ?_
   refine .loopR (σ := Nat) [(1, some _), (6, some _), (7, some _)] (fun l => [(8, some (.int .i64 (l : Int)))]) (fun l H' => i = H' ∧ (l : Int) ≤ (f.ac.getD (f.sh.idn.getD k 0).toNat []).length ∧ ∀ e, e < l → (f.ac.getD (f.sh.idn.getD k 0).toNat []).getD e 0 = e) (fun l => ((f.ac.getD (f.sh.idn.getD k 0).toNat []).length - l : Int).toNat) (0) ⟨rfl, rfl, rfl, trivial⟩ ⟨rfl, trivial⟩ ?_ ?_
   ·
    refine ⟨rfl, ?_⟩
    exact ⟨by omega, fun _ _ => by omega⟩
   rintro l _ ⟨rfl, hI⟩ KL2 c9
   refine .forget (fr' := [(8, some (.int .i64 (l : Int))), (1, some _), (6, some _), (7, some _)]) ⟨rfl, rfl, rfl, rfl, trivial⟩ ?_
   obtain ⟨hk2, e4⟩ := hI
   refine .seq (fun K9 e8 => .seq (fun K10 d6 => .region (.mv rfl (.q rfl (.fieldAddr fo_107_1_P rfl) ?_))))
   refine .q rfl (.load on_24_B rfl (by first | assumption | exact Mem.of_get o 5 _ rfl)) ?_
   refine .mv rfl ?_
   refine .q rfl (.idxN sl_24_A (by assumption) rfl rfl (by omega)) ?_
   refine .q rfl (.loadI on_2_A (by assumption) rfl (by omega)) ?_
   refine .q rfl (.cmp rfl rfl rfl) (.nil (d6 _ _ ?_))
   refine .cond rfl (fun d3 => ?_) (fun d3 => ?_)
   ·
    try simp only [sps] at d3
    refine .skip ?_
    refine e8 _ _ (.seq (fun K11 c1 => ?_))
    refine .block ?_
    refine .seq (fun K12 d8 => ?_)
    refine .regionD mo_B (.q 0 (.q 1 (.q 2 (.q 3 (.q 4 (.q 5 (.q 6 (.q 7 (.q 8 (.q 9 (.q 10 (.q 11 (.q 12 (.q 13 (.done))))))))))))))) (by kernel_rfl) ?_
    refine .q rfl (.fieldAddr fo_107_2_P rfl) ?_
    refine .q rfl (.load on_25_B rfl (by first | assumption | exact Mem.of_get o 6 _ rfl)) ?_
    refine .q rfl (.fieldAddr fo_27_3_B rfl) ?_
    refine .q rfl (.load on_24_B rfl (by first | assumption | exact Mem.of_get d 3 _ rfl)) ?_
    refine .mv rfl rfl ?_
    refine .q rfl (.idxN sl_24_A (by assumption) rfl rfl (by omega)) ?_
    refine .q rfl (.loadI on_2_A (by assumption) rfl (by omega)) ?_
    refine .q rfl (.idx1 sl_25_B (Intss.sl (by assumption)) rfl rfl (by omega) (by omega)) ?_
    refine .q rfl (.loadR on_24_B (by assumption) rfl (by omega)) ?_
    refine .mv rfl rfl ?_
    refine .q rfl (.idxN sl_24_A (by assumption) rfl rfl (by omega)) ?_
    refine .q rfl (.loadI on_2_A (by assumption) rfl (by omega)) ?_
    refine .mv rfl rfl (.q rfl (.cmp rfl rfl rfl) ?_)
    refine .done ?_
    refine d8 _ _ ?_
    refine .cond rfl (fun a3 => ?_) (fun a3 => ?_)
    ·
     try simp only [sps] at a3
     refine .seq (fun K13 c7 => .region (.mv rfl (.mv rfl (.mv rfl (.mv rfl (.mv rfl (.mv rfl (.nil (c7 _ _ ?_)))))))))
     refine .ret ?_
     refine a0 _ _ ?_
     refine ⟨_, _, _, _, rfl, rfl, rfl, rfl, ?_⟩
     exact ⟨⟨⟨_, _, _, _, rfl, ⟨fun hh => absurd hh (by decide), fun hL => absurd (hL.ids k (by omega) l (by omega)) a3⟩⟩, rfl⟩, rfl, t⟩
    try simp only [sps] at a3
    refine .skip ?_
    refine c1 _ _ (.region (.mv rfl ?_))
    refine .q rfl (.add rfl rfl rfl (by omega) (by omega)) ?_
    refine .mv rfl (.nil ?_)
    refine c9 (l + 1) _ _ ?_ ?_ ⟨rfl, rfl, rfl, rfl, trivial⟩
    ·
     refine ⟨rfl, ?_⟩
     refine ⟨by omega, fun e hx => ?_⟩
     by_cases hltq : e < l
     · exact e4 e hltq
     · obtain rfl : e = l := by omega
       exact a3
    omega
   try simp only [sps] at d3
   refine .exit ?_
   refine f1 _ _ (.region (.mv rfl ?_))
   refine .q rfl (.add rfl rfl rfl (by omega) (by omega)) ?_
   refine .mv rfl (.nil ?_)
   refine b9 (k + 1) _ _ ?_ ?_ ⟨rfl, rfl, rfl, trivial⟩
   ·
    refine ⟨rfl, ?_⟩
    refine ⟨by omega, fun x hx => ?_⟩
    by_cases hltq : x < k
    · exact e5 x hltq
    · obtain rfl : x = k := by omega
      exact fun e he => e4 e (by omega)
   omega
  try simp only [sps] at d5
  refine .exit ?_
  refine f7 _ _ (.seq (fun K14 b2 => .seq (fun K15 e3 => .region (.mv rfl (.nil (e3 _ _ ?_))))))
  refine .block ?_
  refine .loopR (σ := Nat) [(1, some _), (6, some _)] (fun a => [(9, some (.int .i64 (a : Int)))]) (fun a H' => i = H' ∧ (a : Int) ≤ f.sh.src.length ∧ ∀ a', a' < a → ∀ b : Nat, b < f.sh.src.length → f.sh.tgt.getD a' 0 = f.sh.src.getD b 0 → ∀ e : Nat, e < (f.ac.getD a' []).length → (f.ac.getD ((f.sh.comp.getD a' []).getD b 0).toNat []).getD e 0 = (f.ac.getD b []).getD ((f.ac.getD a' []).getD e 0).toNat 0) (fun a => (f.sh.src.length - a : Int).toNat) (0) ⟨rfl, rfl, trivial⟩ ⟨rfl, trivial⟩ ?_ ?_
  ·
   refine ⟨rfl, ?_⟩
   exact ⟨by omega, fun _ _ => by omega⟩
  rintro a _ ⟨rfl, hI⟩ KL3 c6
  refine .forget (fr' := [(9, some (.int .i64 (a : Int))), (1, some _), (6, some _)]) ⟨rfl, rfl, rfl, trivial⟩ ?_
  obtain ⟨hk3, e7⟩ := hI
  refine .seq (fun K16 c4 => .seq (fun K17 b4 => .region (.mv rfl (.q rfl (.fieldAddr fo_27_1_B rfl) ?_))))
  refine .q rfl (.load on_24_B rfl (by first | assumption | exact Mem.of_get d 1 _ rfl)) ?_
  refine .q rfl (.len sl_24_A rfl) (.q rfl (.cmp rfl rfl rfl) (.nil (b4 _ _ ?_)))
  refine .cond rfl (fun b0 => ?_) (fun b0 => ?_)
  ·
   simp only [sps] at b0
   have r1 := hC.row a (by omega)
   have r2 := e9.2 a (by omega)
   have r3 := w.2 a (by omega)
   have r4 := hS.ends (a := a) (by omega)
   have r5 := hS.sz (f.sh.src.getD a 0).toNat (by omega)
   refine .skip ?_
   refine c4 _ _ (.seq (fun K18 c3 => ?_))
   refine .block ?_
   refine .seq (fun K19 d2 => .region (.mv rfl (.nil (d2 _ _ ?_))))
   refine .block ?_
   refine .loopR (σ := Nat) [(1, some _), (6, some _), (9, some _)] (fun b => [(10, some (.int .i64 (b : Int)))]) (fun b H' => i = H' ∧ (b : Int) ≤ f.sh.src.length ∧ ∀ b', b' < b → f.sh.tgt.getD a 0 = f.sh.src.getD b' 0 → ∀ e : Nat, e < (f.ac.getD a []).length → (f.ac.getD ((f.sh.comp.getD a []).getD b' 0).toNat []).getD e 0 = (f.ac.getD b' []).getD ((f.ac.getD a []).getD e 0).toNat 0) (fun b => (f.sh.src.length - b : Int).toNat) (0) ⟨rfl, rfl, rfl, trivial⟩ ⟨rfl, trivial⟩ ?_ ?_
   ·
    refine ⟨rfl, ?_⟩
    exact ⟨by omega, fun _ _ => by omega⟩
   rintro b _ ⟨rfl, hI⟩ KL4 a2
   refine .forget (fr' := [(10, some (.int .i64 (b : Int))), (1, some _), (6, some _), (9, some _)]) ⟨rfl, rfl, rfl, rfl, trivial⟩ ?_
   obtain ⟨hk4, c5⟩ := hI
   refine .seq (fun K20 d1 => .seq (fun K21 b8 => .region (.mv rfl (.q rfl (.fieldAddr fo_27_1_B rfl) ?_))))
   refine .q rfl (.load on_24_B rfl (by first | assumption | exact Mem.of_get d 1 _ rfl)) ?_
   refine .q rfl (.len sl_24_A rfl) (.q rfl (.cmp rfl rfl rfl) (.nil (b8 _ _ ?_)))
   refine .cond rfl (fun c8 => ?_) (fun c8 => ?_)
   ·
    simp only [sps] at c8
    have t1 := w.2 b (by omega)
    have t2 := hS.ends (a := b) (by omega)
    refine .skip ?_
    refine d1 _ _ (.seq (fun K22 a4 => ?_))
    refine .block ?_
    refine .seq (fun K23 d4 => .seq (fun K24 e0 => ?_))
    refine .regionD mo_B (.q 0 (.q 1 (.q 2 (.q 3 (.q 4 (.q 5 (.q 6 (.q 7 (.q 8 (.q 9 (.q 10 (.done)))))))))))) (by kernel_rfl) ?_
    refine .q rfl (.fieldAddr fo_27_2_B rfl) ?_
    refine .q rfl (.load on_24_B rfl (by first | assumption | exact Mem.of_get d 2 _ rfl)) ?_
    refine .mv rfl rfl ?_
    refine .q rfl (.idxN sl_24_A (by assumption) rfl rfl (by omega)) ?_
    refine .q rfl (.loadI on_2_A (by assumption) rfl (by omega)) ?_
    refine .q rfl (.fieldAddr fo_27_1_B rfl) ?_
    refine .q rfl (.load on_24_B rfl (by first | assumption | exact Mem.of_get d 1 _ rfl)) ?_
    refine .mv rfl rfl ?_
    refine .q rfl (.idxN sl_24_A (by assumption) rfl rfl (by omega)) ?_
    refine .q rfl (.loadI on_2_A (by assumption) rfl (by omega)) ?_
    refine .q rfl (.cmp rfl rfl rfl) ?_
    refine .done ?_
    refine e0 _ _ ?_
    refine .cond rfl (fun a1 => ?_) (fun a1 => ?_)
    ·
     try simp only [sps] at a1
     refine .exit ?_
     refine a4 _ _ (.region (.mv rfl ?_))
     refine .q rfl (.add rfl rfl rfl (by omega) (by omega)) ?_
     refine .mv rfl (.nil ?_)
     refine a2 (b + 1) _ _ ?_ ?_ ⟨rfl, rfl, rfl, rfl, trivial⟩
     ·
      refine ⟨rfl, ?_⟩
      refine ⟨by omega, fun b' hx => ?_⟩
      by_cases hltq : b' < b
      · exact c5 b' hltq
      · obtain rfl : b' = b := by omega
        first | exact fun _ e he => d0 e (by omega) | exact fun hn => absurd hn a1
     omega
    simp only [sps] at a1
    have u1 : f.sh.tgt.getD a 0 = f.sh.src.getD b 0 := a1
    have u2 := (Cat.Cell.pos u1).1 (hC.cell a (by omega) b (by omega))
    have u3 := w.2 ((f.sh.comp.getD a []).getD b 0).toNat (by omega)
    have u4 := hS.ends (a := ((f.sh.comp.getD a []).getD b 0).toNat) (by omega)
    rw [u2.2.2.1] at u4
    have u5 := t2.2.2.2.2
    rw [← u1] at u5
    refine .skip ?_
    refine d4 _ _ (.seq (fun K25 d7 => .region (.mv rfl (.nil (d7 _ _ ?_)))))
    refine .block ?_
    refine .loopR (σ := Nat) [(1, some _), (6, some _), (9, some _), (10, some _)] (fun e => [(11, some (.int .i64 (e : Int)))]) (fun e H' => i = H' ∧ (e : Int) ≤ (f.ac.getD a []).length ∧ ∀ e', e' < e → (f.ac.getD ((f.sh.comp.getD a []).getD b 0).toNat []).getD e' 0 = (f.ac.getD b []).getD ((f.ac.getD a []).getD e' 0).toNat 0) (fun e => ((f.ac.getD a []).length - e : Int).toNat) (0) ⟨rfl, rfl, rfl, rfl, trivial⟩ ⟨rfl, trivial⟩ ?_ ?_
    ·
     refine ⟨rfl, ?_⟩
     exact ⟨by omega, fun _ _ => by omega⟩
    rintro e _ ⟨rfl, hI⟩ KL5 b6
    refine .forget (fr' := [(11, some (.int .i64 (e : Int))), (1, some _), (6, some _), (9, some _), (10, some _)]) ⟨rfl, rfl, rfl, rfl, rfl, trivial⟩ ?_
    obtain ⟨hk5, d0⟩ := hI
    refine .seq (fun K26 b1 => .seq (fun K27 e2 => ?_))
    refine .regionD mo_B (.q 0 (.q 1 (.q 2 (.q 3 (.q 4 (.q 5 (.q 6 (.q 7 (.q 8 (.q 9 (.q 10 (.done)))))))))))) (by kernel_rfl) ?_
    refine .mv rfl rfl (.q rfl (.fieldAddr fo_107_1_P rfl) ?_)
    refine .q rfl (.load on_24_B rfl (by first | assumption | exact Mem.of_get o 5 _ rfl)) ?_
    refine .q rfl (.fieldAddr fo_27_1_B rfl) ?_
    refine .q rfl (.load on_24_B rfl (by first | assumption | exact Mem.of_get d 1 _ rfl)) ?_
    refine .mv rfl rfl ?_
    refine .q rfl (.idxN sl_24_A (by assumption) rfl rfl (by omega)) ?_
    refine .q rfl (.loadI on_2_A (by assumption) rfl (by omega)) ?_
    refine .q rfl (.idx1 sl_24_A (by assumption) rfl rfl (by omega) (by omega)) ?_
    refine .q rfl (.loadI on_2_A (by assumption) rfl (by omega)) ?_
    refine .q rfl (.cmp rfl rfl rfl) ?_
    refine .done ?_
    refine e2 _ _ ?_
    refine .cond rfl (fun c0 => ?_) (fun c0 => ?_)
    ·
     simp only [sps] at c0
     have v1 := hS.act (a := a) (by omega) (e := e) (by omega)
     refine .skip ?_
     refine b1 _ _ (.seq (fun K28 e1 => ?_))
     refine .block ?_
     refine .seq (fun K29 b7 => ?_)
     refine .regionD mo_B (.q 0 (.q 1 (.q 2 (.q 3 (.q 4 (.q 5 (.q 6 (.q 7 (.q 8 (.q 9 (.q 10 (.q 11 (.q 12 (.q 13 (.q 14 (.q 15 (.q 16 (.q 17 (.q 18 (.q 19 (.q 20 (.q 21 (.q 22 (.q 23 (.q 24 (.q 25 (.q 26 (.q 27 (.q 28 (.q 29 (.q 30 (.done)))))))))))))))))))))))))))))))) (by kernel_rfl) ?_
     refine .q rfl (.fieldAddr fo_107_2_P rfl) ?_
     refine .q rfl (.load on_25_B rfl (by first | assumption | exact Mem.of_get o 6 _ rfl)) ?_
     refine .q rfl (.fieldAddr fo_27_4_B rfl) ?_
     refine .q rfl (.load on_25_B rfl (by first | assumption | exact Mem.of_get d 4 _ rfl)) ?_
     refine .mv rfl rfl ?_
     refine .q rfl (.idxN sl_25_B (Intss.sl (by assumption)) rfl rfl (by omega)) ?_
     refine .q rfl (.loadR on_24_B (by assumption) rfl (by omega)) ?_
     refine .mv rfl rfl ?_
     refine .q rfl (.idxN sl_24_A (by assumption) rfl rfl (by omega)) ?_
     refine .q rfl (.loadI on_2_A (by assumption) rfl (by omega)) ?_
     refine .q rfl (.idx1 sl_25_B (Intss.sl (by assumption)) rfl rfl (by omega) (by omega)) ?_
     refine .q rfl (.loadR on_24_B (by assumption) rfl (by omega)) ?_
     refine .mv rfl rfl ?_
     refine .q rfl (.idxN sl_24_A (by assumption) rfl rfl (by omega)) ?_
     refine .q rfl (.loadI on_2_A (by assumption) rfl (by omega)) ?_
     refine .q rfl (.fieldAddr fo_107_2_P rfl) ?_
     refine .q rfl (.load on_25_B rfl (by first | assumption | exact Mem.of_get o 6 _ rfl)) ?_
     refine .mv rfl rfl ?_
     refine .q rfl (.idxN sl_25_B (Intss.sl (by assumption)) rfl rfl (by omega)) ?_
     refine .q rfl (.loadR on_24_B (by assumption) rfl (by omega)) ?_
     refine .q rfl (.fieldAddr fo_107_2_P rfl) ?_
     refine .q rfl (.load on_25_B rfl (by first | assumption | exact Mem.of_get o 6 _ rfl)) ?_
     refine .mv rfl rfl ?_
     refine .q rfl (.idxN sl_25_B (Intss.sl (by assumption)) rfl rfl (by omega)) ?_
     refine .q rfl (.loadR on_24_B (by assumption) rfl (by omega)) ?_
     refine .mv rfl rfl ?_
     refine .q rfl (.idxN sl_24_A (by assumption) rfl rfl (by omega)) ?_
     refine .q rfl (.loadI on_2_A (by assumption) rfl (by omega)) ?_
     refine .q rfl (.idx1 sl_24_A (by assumption) rfl rfl (by omega) (by omega)) ?_
     refine .q rfl (.loadI on_2_A (by assumption) rfl (by omega)) ?_
     refine .q rfl (.cmp rfl rfl rfl) ?_
     refine .done ?_
     refine b7 _ _ ?_
     refine .cond rfl (fun u => ?_) (fun u => ?_)
     ·
      try simp only [sps] at u
      refine .seq (fun K30 b5 => .region (.mv rfl (.mv rfl (.mv rfl (.mv rfl (.mv rfl (.mv rfl (.mv rfl (.nil (b5 _ _ ?_))))))))))
      refine .ret ?_
      refine a0 _ _ ?_
      refine ⟨_, _, _, _, rfl, rfl, rfl, rfl, ?_⟩
      exact ⟨⟨⟨_, _, _, _, rfl, ⟨fun hh => absurd hh (by decide), fun hL => absurd (hL.th a (by omega) b (by omega) u1 e (by omega)) u⟩⟩, rfl⟩, rfl, t⟩
     try simp only [sps] at u
     refine .skip ?_
     refine e1 _ _ (.region (.mv rfl ?_))
     refine .q rfl (.add rfl rfl rfl (by omega) (by omega)) ?_
     refine .mv rfl (.nil ?_)
     refine b6 (e + 1) _ _ ?_ ?_ ⟨rfl, rfl, rfl, rfl, rfl, trivial⟩
     ·
      refine ⟨rfl, ?_⟩
      refine ⟨by omega, fun e' hx => ?_⟩
      by_cases hltq : e' < e
      · exact d0 e' hltq
      · obtain rfl : e' = e := by omega
        exact u
     omega
    try simp only [sps] at c0
    refine .exit ?_
    refine a4 _ _ (.region (.mv rfl ?_))
    refine .q rfl (.add rfl rfl rfl (by omega) (by omega)) ?_
    refine .mv rfl (.nil ?_)
    refine a2 (b + 1) _ _ ?_ ?_ ⟨rfl, rfl, rfl, rfl, trivial⟩
    ·
     refine ⟨rfl, ?_⟩
     refine ⟨by omega, fun b' hx => ?_⟩
     by_cases hltq : b' < b
     · exact c5 b' hltq
     · obtain rfl : b' = b := by omega
       first | exact fun _ e he => d0 e (by omega) | exact fun hn => absurd hn a1
    omega
   try simp only [sps] at c8
   refine .exit ?_
   refine c3 _ _ (.region (.mv rfl ?_))
   refine .q rfl (.add rfl rfl rfl (by omega) (by omega)) ?_
   refine .mv rfl (.nil ?_)
   refine c6 (a + 1) _ _ ?_ ?_ ⟨rfl, rfl, rfl, trivial⟩
   ·
    refine ⟨rfl, ?_⟩
    refine ⟨by omega, fun a' hx => ?_⟩
    by_cases hltq : a' < a
    · exact e7 a' hltq
    · obtain rfl : a' = a := by omega
      exact fun b hb => c5 b (by omega)
   omega
  try simp only [sps] at b0
  refine .exit ?_
  refine b2 _ _ (.seq (fun K31 d9 => .region (.mv rfl (.mv rfl (.mv rfl (.mv rfl (.nil (d9 _ _ ?_))))))))
  refine .ret ?_
  refine a0 _ _ ?_
  refine ⟨_, _, _, _, rfl, rfl, rfl, rfl, ?_⟩
  exact ⟨⟨⟨_, _, _, _, rfl, ⟨fun _ => ⟨fun x hx => e5 x (by omega), fun a ha => e7 a (by omega)⟩, fun _ => rfl⟩⟩, rfl⟩, rfl, t⟩
theorem l19Is_c {f : SFun} {p : SFunP} {H : GHeap} (hin : f.In H p := by assumption) (hs : f.Small := by assumption) : GCalls Try.prog 84 [.agg (f.cells p).toArray] H (Ret (.bool (B f.Is)) H) := by
  refine GCalls.ret rfl ?_
  refine GCalls.body (N := 19) (rs := [.tmp 2]) Try.func84 rfl rfl rfl rfl (fun Qx d hend => ?_)
  refine .fg [0] rfl ?_
  have c := GHeap.Le.refl H
  have a := hin
  refine .seq (fun K1 n => .region ?_)
  refine .R rfl (.boxR rfl sz_107_VSFun rfl) ?_
  rintro _ H1 ⟨g1, rfl, i, ge1, e⟩
  have nx_H1 := i.1
  replace c := c.trans i
  have lt_at1 := GHeap.ltg e
  replace hin := a.mono c
  have g : SFun.At _ g1 0 f p := ⟨Mem.of_get e, hin⟩
  obtain ⟨b, c51, c61, i11, i21⟩ := g.get
  have hm1 : MemN _ _ _ _ _ := ⟨rfl, g.1⟩
  have hi1 := g.2
  have hmsh1 : MemN _ _ _ _ _ := ⟨rfl, b.1⟩
  have hish1 := b.2
  refine .mv rfl (.nil (n _ _ (.seq (fun K2 o => .seq (fun K3 j => .region ?_)))))
  refine .q rfl (.loadM ag_107_VSFun rfl ⟨rfl, Mem.of_get e⟩) ?_
  refine .callQ rfl rfl rfl rfl @Try.call144 rfl (l19Shape_c) ?_
  refine .q rfl (.not rfl) (.nil (j _ _ ?_))
  refine .cond rfl (fun h9 => ?_) (fun h9 => ?_)
  ·
   try simp only [sps] at h9
   refine .seq (fun K4 l => .region (.mv rfl (.nil (l _ _ ?_))))
   refine .ret ?_
   refine d _ _ ?_
   refine ⟨_, rfl, ?_⟩
   exact ⟨congrArg _ (B_false fun hh => h9 hh.1), c⟩
  try simp only [sps] at h9
  refine .skip ?_
  refine o _ _ (.seq (fun K5 m => .region ?_))
  refine .q rfl (.loadM ag_107_VSFun rfl ⟨rfl, Mem.of_get e⟩) ?_
  refine .call rfl rfl rfl rfl @Try.call145 rfl (l19Fault_c) ?_
  rintro _ _ ⟨⟨⟨k12, x12, y12, z12, rfl, h⟩, _⟩, heq⟩
  obtain rfl := heq.symm
  refine .mv rfl (.q rfl (.extract rfl rfl) (.q rfl (.extract rfl rfl) (.q rfl (.extract rfl rfl) (.q rfl (.extract rfl rfl) (.mv rfl (.mv rfl (.mv rfl (.mv rfl (.nil (m _ _ (.seq (fun K6 k => .region (.mv rfl (.q rfl (.cmp rfl rfl rfl) (.mv rfl ?_)))))))))))))))
  refine .nil (k _ _ ?_)
  refine .ret ?_
  refine d _ _ ?_
  refine ⟨_, rfl, ?_⟩
  exact ⟨congrArg _ (by rw [Bool.eq_iff_iff, B_iff]; simp only [sps]; rw [h]; exact ⟨fun hh => hh.2, fun hh => ⟨h9, hh⟩⟩), c⟩
end Go.Proofs.Ytiooclghkafokaa
namespace Go.Proofs.Ytiooclghkafokaa
open Go Go.GL Go.RowKit Go.Proofs
end Go.Proofs.Ytiooclghkafokaa
namespace Go.Proofs.Ytiooclghkafokaa
open Go Go.GL Go.RowKit Go.Proofs
end Go.Proofs.Ytiooclghkafokaa
namespace Go.Proofs.Ytiooclghkafokaa
open Go Go.GL Go.RowKit Go.Proofs
theorem l01Has_c {a : Option Addr} {xs : List Int} {n : Int} {H : GHeap} (h : Ints H a xs := by assumption) (hl : xs.length ≤ 1048576 := by omega) :
    GCalls Try.prog 126 [.slice a xs.length xs.length, .int .i64 n] H (Ret (.bool (xs.contains n)) H) := by
  refine GCalls.body (N := 18) (rs := [.tmp 4]) Try.func126 rfl rfl rfl rfl (fun Qx b hend => ?_)
  refine .fg [0, 1] rfl ?_
  refine .seq (fun K1 s => .region (.mv rfl (.nil (s _ _ (.seq (fun K2 m => .seq (fun K3 g => .region (.mv rfl (.nil (g _ _ ?_))))))))))
  refine .block ?_
  refine .loopR (σ := Nat) [(0, some _), (1, some _)] (fun k => [(5, some (.int .i64 (k : Int)))]) (fun k H' => H = H' ∧ (k : Int) ≤ xs.length ∧ ∀ i, i < k → ¬ xs.getD i 0 = n) (fun k => (xs.length - k : Int).toNat) (0) ⟨rfl, rfl, trivial⟩ ⟨rfl, trivial⟩ ?_ ?_
  ·
   refine ⟨rfl, ?_⟩
   exact ⟨by omega, fun _ _ => by omega⟩
  rintro k _ ⟨rfl, hI⟩ KL1 d
  refine .forget (fr' := [(5, some (.int .i64 (k : Int))), (0, some _), (1, some _)]) ⟨rfl, rfl, rfl, trivial⟩ ?_
  obtain ⟨hk1, f⟩ := hI
  refine .seq (fun K4 o => .seq (fun K5 r => .region (.mv rfl (.mv rfl (.q rfl (.len sl_24_A rfl) (.q rfl (.cmp rfl rfl rfl) (.nil (r _ _ ?_))))))))
  refine .cond rfl (fun h9 => ?_) (fun h9 => ?_)
  ·
   try simp only [sps] at h9
   refine .skip ?_
   refine o _ _ (.seq (fun K6 l => ?_))
   refine .block ?_
   refine .seq (fun K7 p => .region (.mv rfl (.mv rfl ?_)))
   refine .q rfl (.idxN sl_24_A (by assumption) rfl rfl (by omega)) ?_
   refine .q rfl (.loadI on_2_A (by assumption) rfl (by omega)) ?_
   refine .mv rfl (.q rfl (.cmp rfl rfl rfl) (.nil (p _ _ ?_)))
   refine .cond rfl (fun c => ?_) (fun c => ?_)
   ·
    try simp only [sps] at c
    refine .seq (fun K8 t => .region (.mv rfl (.nil (t _ _ ?_))))
    refine .ret ?_
    refine b _ _ ?_
    refine ⟨_, rfl, ?_⟩
    exact .of (congrArg _ (List.contains_iff_mem.2 (by rw [← c]; exact getD_mem (by omega))))
   try simp only [sps] at c
   refine .skip ?_
   refine l _ _ (.region (.mv rfl ?_))
   refine .q rfl (.add rfl rfl rfl (by omega) (by omega)) ?_
   refine .mv rfl (.nil ?_)
   refine d (k + 1) _ _ ?_ ?_ ⟨rfl, rfl, rfl, trivial⟩
   ·
    refine ⟨rfl, ?_⟩
    refine ⟨by omega, fun i hx => ?_⟩
    by_cases hltq : i < k
    · exact f i hltq
    · obtain rfl : i = k := by omega
      first | assumption | omega | simp_all
   omega
  try simp only [sps] at h9
  refine .exit ?_
  refine m _ _ (.seq (fun K9 j => .region (.mv rfl (.nil (j _ _ ?_)))))
  refine .ret ?_
  refine b _ _ ?_
  refine ⟨_, rfl, ?_⟩
  exact .of (congrArg _ (Bool.eq_false_iff.2 fun hc => by
    obtain ⟨i, hi, e⟩ := mem_getD (List.contains_iff_mem.1 hc)
    exact f i (by omega) e))
end Go.Proofs.Ytiooclghkafokaa
namespace Go.Proofs.Ytiooclghkafokaa
open Go Go.GL Go.RowKit Go.Proofs
theorem has_c {a : Option Addr} {xs : List Int} {n : Int} {H : GHeap} (h : Ints H a xs := by assumption) (hl : xs.length ≤ 1048576 := by omega) :
    GCalls Try.prog 178 [.slice a xs.length xs.length, .int .i64 n] H (Ret (.bool (xs.contains n)) H) := by
  refine GCalls.body (N := 17) (rs := [.tmp 4]) Try.func178 rfl rfl rfl rfl (fun Qx b hend => ?_)
  refine .fg [0, 1] rfl ?_
  refine .seq (fun K1 u => .region (.mv rfl (.nil (u _ _ (.seq (fun K2 v => .seq (fun K3 l => .region (.mv rfl (.q rfl (.len sl_24_A rfl) (.mv rfl (.nil (l _ _ ?_))))))))))))
  refine .block ?_
  refine .loopR (σ := Nat) [(1, some _), (7, some _), (8, some _)] (fun k => [(9, some (.int .i64 (k : Int)))]) (fun k H' => H = H' ∧ (k : Int) ≤ xs.length ∧ ∀ i, i < k → ¬ xs.getD i 0 = n) (fun k => (xs.length - k : Int).toNat) (0) ⟨rfl, rfl, rfl, trivial⟩ ⟨rfl, trivial⟩ ?_ ?_
  ·
   refine ⟨rfl, ?_⟩
   exact ⟨by omega, fun _ _ => by omega⟩
  rintro k _ ⟨rfl, hI⟩ KL1 d
  refine .forget (fr' := [(9, some (.int .i64 (k : Int))), (1, some _), (7, some _), (8, some _)]) ⟨rfl, rfl, rfl, rfl, trivial⟩ ?_
  obtain ⟨hk1, j⟩ := hI
  refine .seq (fun K4 r => .region (.q rfl (.cmp rfl rfl rfl) (.nil (r _ _ (.seq (fun K5 s => ?_))))))
  refine .cond rfl (fun g => ?_) (fun g => ?_)
  ·
   try simp only [sps] at g
   refine .skip ?_
   refine s _ _ (.seq (fun K6 o => ?_))
   refine .block ?_
   refine .seq (fun K7 p => .region ?_)
   refine .q rfl (.idxN sl_24_A (by assumption) rfl rfl (by omega)) ?_
   refine .q rfl (.loadI on_2_A (by assumption) rfl (by omega)) ?_
   refine .mv rfl (.nil (p _ _ (.seq (fun K8 t => .region (.mv rfl (.mv rfl (.q rfl (.cmp rfl rfl rfl) (.nil (t _ _ ?_)))))))))
   refine .cond rfl (fun c => ?_) (fun c => ?_)
   ·
    try simp only [sps] at c
    refine .seq (fun K9 m => .region (.mv rfl (.nil (m _ _ ?_))))
    refine .ret ?_
    refine b _ _ ?_
    refine ⟨_, rfl, ?_⟩
    exact .of (congrArg _ (List.contains_iff_mem.2 (by rw [← c]; exact getD_mem (by omega))))
   try simp only [sps] at c
   refine .skip ?_
   refine o _ _ (.region ?_)
   refine .q rfl (.add rfl rfl rfl (by omega) (by omega)) ?_
   refine .mv rfl (.nil ?_)
   refine d (k + 1) _ _ ?_ ?_ ⟨rfl, rfl, rfl, rfl, trivial⟩
   ·
    refine ⟨rfl, ?_⟩
    refine ⟨by omega, fun i hx => ?_⟩
    by_cases hltq : i < k
    · exact j i hltq
    · obtain rfl : i = k := by omega
      first | assumption | omega | simp_all
   omega
  try simp only [sps] at g
  refine .exit ?_
  refine v _ _ (.seq (fun K10 f => .region (.mv rfl (.nil (f _ _ ?_)))))
  refine .ret ?_
  refine b _ _ ?_
  refine ⟨_, rfl, ?_⟩
  exact .of (congrArg _ (Bool.eq_false_iff.2 fun hc => by
    obtain ⟨i, hi, e⟩ := mem_getD (List.contains_iff_mem.1 hc)
    exact j i (by omega) e))
end Go.Proofs.Ytiooclghkafokaa
namespace Go.Proofs.Ytiooclghkafokaa
open Go Go.GL Go.RowKit Go.Proofs
end Go.Proofs.Ytiooclghkafokaa
namespace Go.GL

def Rising (xs : List Int) : Prop := ∀ i, 1 ≤ i → i < xs.length → xs.getD (i - 1) 0 < xs.getD i 0
structure SFun.Part (f : SFun) (me : List (List Int)) : Prop where
  pl : me.length = f.sz.length
  rs : ∀ x, x < me.length → Rising (me.getD x []) ∧ allIn (me.getD x []) (f.sz.getD x 0) = true
  cl : ∀ a, a < f.ac.length → ∀ i, i < (me.getD (f.sh.src.getD a 0).toNat []).length → (me.getD (f.sh.tgt.getD a 0).toNat []).contains ((f.ac.getD a []).getD ((me.getD (f.sh.src.getD a 0).toNat []).getD i 0).toNat 0) = true
end Go.GL
