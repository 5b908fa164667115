/- Sources of numbers. No condition but those of each statement. -/
import Derived.Test.YtfanjkbaemhbmaaZ7
namespace Go.Proofs.Ytfanjkbaemhbmaa
open Go Go.GL Go.RowKit Go.Proofs
theorem us_84_Da : (Try.prog.underlying 84).isSome = true := by kernel_rfl
theorem it_2_Da : intT Try.prog 2 = some .i64 := by kernel_rfl
theorem fo_86_2_Da : fieldOff Try.prog 86 2 = some 2 := by kernel_rfl
theorem on_84_Da : oneT Try.prog 84 = true := by kernel_rfl
theorem sz_84_Da : (Try.prog.info? 84).map (·.size) = some 1 := by kernel_rfl
theorem fo_86_1_Da : fieldOff Try.prog 86 1 = some 1 := by kernel_rfl
theorem on_3_Da : oneT Try.prog 3 = true := by kernel_rfl
theorem fo_86_0_Da : fieldOff Try.prog 86 0 = some 0 := by kernel_rfl
theorem on_22_Da : oneT Try.prog 22 = true := by kernel_rfl
theorem sl_22_Da : sliceT Try.prog 22 = some (5, 1) := by kernel_rfl
theorem on_5_Da : oneT Try.prog 5 = true := by kernel_rfl
theorem us_5_Da : (Try.prog.underlying 5).isSome = true := by kernel_rfl
theorem sz_3_Da : (Try.prog.info? 3).map (·.size) = some 1 := by kernel_rfl
theorem us_3_Da : (Try.prog.underlying 3).isSome = true := by kernel_rfl
theorem it_84_Da : intT Try.prog 84 = some .u64 := by kernel_rfl
theorem bt_86_Da : buildT Try.prog 86 = some ([.slice none 0 0, .int .i64 0, .int .u64 0], [(0, 1), (1, 1), (2, 1)]) := by kernel_rfl
theorem sz_86_Da : (Try.prog.info? 86).map (·.size) = some 3 := by kernel_rfl
theorem l01Next_c {gS : Nat} {n : Int} {H : GHeap} (hs : DSrc 86 H gS := by assumption) :
    GCalls Try.prog 30 [.pointer (some ⟨gS, 0, none⟩), .int .i64 n] H (Drawn 86 gS n H) := by
  obtain ⟨a, xs, p, hh, hg, ⟨p0, p1⟩, hx, hb, hlt⟩ := hs
  have hx0 := andU_le ((IntKind.wrap .u64 (IntKind.wrap .u64 (hh * 6364136223846793005) + 1442695040888963407)).fdiv (2 ^ 33))
  have hlo : ∀ b o t, a = some ⟨b, o, t⟩ → out [gS] b := fun b o t ha => ⟨by have := hlt b o t ha; omega, trivial⟩
  refine GCalls.body (N := 58) (rs := [.tmp 4]) Try.func30 rfl rfl rfl rfl (fun Qx j hend => ?_)
  refine .fg [0, 1] rfl ?_
  have f := St.refl [gS] H
  have hbs := hb.st f hlo
  refine .seq (fun K1 v => .region (.mv rfl (.nil (v _ _ (.seq (fun K2 u => .seq (fun K3 a1 => .region (.mv rfl (.q rfl (.cmp rfl rfl rfl) (.nil (a1 _ _ ?_)))))))))))
  refine .cond rfl (fun h7 => ?_) (fun h7 => ?_)
  ·
   try simp only [sps] at h7
   refine .seq (fun K4 a0 => .region (.mv rfl (.nil (a0 _ _ ?_))))
   refine .ret ?_
   refine j _ _ ?_
   refine ⟨_, rfl, ?_⟩
   exact ⟨0, rfl, by omega, fun h => by omega, fun _ => rfl, f, a, xs, p, hh, hg, ⟨p0, p1⟩, hx, hbs, hlt⟩
  try simp only [sps] at h7
  refine .skip ?_
  refine u _ _ (.seq (fun K5 w => .region (.mv rfl (.mv rfl (.q rfl (.nilCheck rfl) (.q rfl (.fieldAddr fo_86_2_Da rfl) ?_))))))
  refine .q rfl (.load on_84_Da rfl (by first | assumption | exact Mem.of_get hg 2 _ rfl)) ?_
  refine .q rfl (.arith rfl rfl rfl) (.q rfl (.arith rfl rfl rfl) (.q rfl (.nilCheck rfl) (.q rfl (.fieldAddr fo_86_2_Da rfl) ?_)))
  refine .r0 rfl rfl (.storeR rfl sz_84_Da rfl rfl rfl (by assumption) (by first | exact Nat.le_of_ble_eq_true rfl | (simp; done) | (simp <;> omega))) ?_
  rintro _ H3009 ⟨rfl, g, d⟩
  replace f := f.sA g
  clear hbs
  have hbs := hb.st f hlo
  have c0 := hbs.1
  have c1 := hbs.2 p.toNat
  try simp only [Nat.zero_add, List.set_cons_succ, List.set_cons_zero] at d
  refine .nil (w _ _ (.seq (fun K6 y => .region (.mv rfl (.q rfl (.nilCheck rfl) (.q rfl (.fieldAddr fo_86_2_Da rfl) ?_))))))
  refine .q rfl (.load on_84_Da rfl (by first | assumption | exact Mem.of_get d 2 _ rfl)) ?_
  refine .q rfl (.shrU rfl rfl) (.q rfl (.andU rfl rfl) ?_)
  refine .q rfl (.conv64 us_84_Da it_2_Da rfl (Int.le_trans (by decide) (andU_le _).1) (Int.le_trans (andU_le _).2 (by decide))) ?_
  refine .mv rfl (.nil (y _ _ (.seq (fun K7 r => .seq (fun K8 z => ?_)))))
  refine .regionD mo_B (.q 0 (.q 1 (.q 2 (.q 3 (.q 4 (.q 5 (.q 6 (.q 7 (.q 8 (.q 9 (.done))))))))))) (by kernel_rfl) ?_
  refine .mv rfl rfl (.q rfl (.nilCheck rfl) (.q rfl (.fieldAddr fo_86_1_Da rfl) ?_))
  refine .q rfl (.load on_3_Da rfl (by first | assumption | exact Mem.of_get d 1 _ rfl)) ?_
  refine .mv rfl rfl (.q rfl (.nilCheck rfl) (.q rfl (.fieldAddr fo_86_0_Da rfl) ?_))
  refine .q rfl (.load on_22_Da rfl (by first | assumption | exact Mem.of_get d 0 _ rfl)) ?_
  refine .q rfl (.len sl_22_Da rfl) (.q rfl (.cmp rfl rfl rfl) ?_)
  refine .done ?_
  refine z _ _ ?_
  refine .cond rfl (fun m => ?_) (fun m => ?_)
  ·
   try simp only [sps] at m
   refine .seq (fun K9 s => ?_)
   refine .regionD mo_B (.q 0 (.q 1 (.q 2 (.q 3 (.q 4 (.q 5 (.q 6 (.q 7 (.q 8 (.q 9 (.q 10 (.q 11 (.q 12 (.c 13 0 (.done))))))))))))))) (by kernel_rfl) ?_
   refine .mv rfl rfl (.mv rfl rfl (.q rfl (.nilCheck rfl) (.q rfl (.fieldAddr fo_86_0_Da rfl) ?_)))
   refine .q rfl (.load on_22_Da rfl (by first | assumption | exact Mem.of_get d 0 _ rfl)) ?_
   refine .mv rfl rfl (.q rfl (.nilCheck rfl) (.q rfl (.fieldAddr fo_86_1_Da rfl) ?_))
   refine .q rfl (.load on_3_Da rfl (by first | assumption | exact Mem.of_get d 1 _ rfl)) ?_
   refine .q rfl (.idx1 sl_22_Da (by assumption) rfl rfl (by omega) (by omega)) ?_
   refine .q rfl (.loadE on_5_Da (by assumption) rfl (by omega)) ?_
   refine .q rfl (.conv64 us_5_Da it_2_Da rfl (by omega) (by omega)) ?_
   refine .q rfl (.add rfl rfl rfl (by omega) (by omega)) ?_
   refine .d0 rfl rfl rfl rfl (.quiet (.assign rfl) CIs.mk) ?_
   refine .done ?_
   refine s _ _ (.region (.mv rfl (.mv rfl (.q rfl (.nilCheck rfl) (.q rfl (.fieldAddr fo_86_1_Da rfl) ?_)))))
   refine .q rfl (.load on_3_Da rfl (by first | assumption | exact Mem.of_get d 1 _ rfl)) ?_
   refine .q rfl (.add rfl rfl rfl (by omega) (by omega)) ?_
   refine .q rfl (.nilCheck rfl) (.q rfl (.fieldAddr fo_86_1_Da rfl) ?_)
   refine .r0 rfl rfl (.storeR rfl sz_3_Da rfl rfl rfl (by assumption) (by first | exact Nat.le_of_ble_eq_true rfl | (simp; done) | (simp <;> omega))) ?_
   rintro _ H7008 ⟨rfl, i, e⟩
   replace f := f.sA i
   clear hbs c0 c1
   have hbs := hb.st f hlo
   have c1 := hbs.2 p.toNat
   try simp only [Nat.zero_add, List.set_cons_succ, List.set_cons_zero] at e
   refine .nil (r _ _ (.seq (fun K10 l => .region (.mv rfl (.mv rfl ?_)))))
   refine .q rfl (.rem rfl rfl (by omega)) ?_
   refine .mv rfl (.nil (l _ _ ?_))
   refine .ret ?_
   refine j _ _ ?_
   refine ⟨_, rfl, ?_⟩
   have hm := tmod_bd (x := Go.GL.andU ((IntKind.wrap .u64 (IntKind.wrap .u64 (hh * 6364136223846793005) + 1442695040888963407)).fdiv (2 ^ 33)) 16777215 + xs.getD p.toNat 0) (n := n) (by omega) (by omega)
   exact ⟨_, rfl, hm.1, fun _ => hm.2, fun h => by omega, f, a, xs, p + 1, _, e, ⟨by omega, by omega⟩, hx, hbs, hlt⟩
  try simp only [sps] at m
  refine .skip ?_
  refine r _ _ (.seq (fun K11 k => .region (.mv rfl (.mv rfl ?_))))
  refine .q rfl (.rem rfl rfl (by omega)) ?_
  refine .mv rfl (.nil (k _ _ ?_))
  refine .ret ?_
  refine j _ _ ?_
  refine ⟨_, rfl, ?_⟩
  have hm := tmod_bd (x := Go.GL.andU ((IntKind.wrap .u64 (IntKind.wrap .u64 (hh * 6364136223846793005) + 1442695040888963407)).fdiv (2 ^ 33)) 16777215) (n := n) (by omega) (by omega)
  exact ⟨_, rfl, hm.1, fun _ => hm.2, fun h => by omega, f, a, xs, p, _, d, ⟨p0, p1⟩, hx, hbs, hlt⟩
theorem l01From_c {a : Option Addr} {xs : List Int} {H : GHeap} (hb : Bytes H a xs := by assumption) (hlt : ∀ b o t, a = some ⟨b, o, t⟩ → b < H.next) (hx : xs.length ≤ 4096 := by omega) :
    GCalls Try.prog 29 [.slice a xs.length xs.length] H (fun v H' => H.Le H' ∧ ∃ g, v = .pointer (some ⟨g, 0, none⟩) ∧ H.next ≤ g ∧ DSrc 86 H' g) := by
  refine GCalls.body (N := 38) (rs := [.tmp 2]) Try.func29 rfl rfl rfl rfl (fun Qx m hend => ?_)
  refine .fg [0] rfl ?_
  have j := GHeap.Le.refl H
  have f := hb
  refine .seq (fun K1 y => .region (.mv rfl (.nil (y _ _ (.seq (fun K2 a1 => .region (.mv rfl (.mv rfl (.q rfl (.len sl_22_Da rfl) (.q rfl (.conv us_3_Da it_84_Da rfl) (.q rfl (.arith rfl rfl rfl) (.q rfl (.build bt_86_Da rfl rfl rfl) ?_))))))))))))
  refine .R rfl (.boxR rfl sz_86_Da rfl) ?_
  rintro _ a5 ⟨n, rfl, p, ge11, l⟩
  replace j := j.trans p
  refine .mv rfl (.nil (a1 _ _ (.seq (fun K3 x => .seq (fun K4 a2 => .region (.mv rfl (.nil (a2 _ _ ?_))))))))
  refine .block ?_
  refine .loopR (σ := Nat × Int) [(0, some _), (3, some _)] (fun (k, hh) => [(4, some (.int .i64 (k : Int)))]) (fun (k, hh) H' => St [n] a5 H' ∧ H'.get n = some (.row ([.slice a xs.length xs.length, .int .i64 0, .int .u64 hh]) 86 true) ∧ k ≤ xs.length) (fun (k, hh) => xs.length - k) ((0, IntKind.wrap .u64 (7019 + IntKind.wrap .u64 (xs.length : Int)))) ⟨rfl, rfl, trivial⟩ ⟨rfl, trivial⟩ ?_ ?_
  ·
   refine ⟨.refl _ _, by first | assumption | exact l | simpa using l, ?_⟩
   omega
  rintro ⟨k, hh⟩ HL1 ⟨e, d, hI⟩ KL1 r
  refine .forget (fr' := [(4, some (.int .i64 (k : Int))), (0, some _), (3, some _)]) ⟨rfl, rfl, rfl, trivial⟩ ?_
  replace j := j.st e (fun k hk => ⟨by omega, trivial⟩)
  replace hb := f.mono j
  refine .seq (fun K5 a4 => .seq (fun K6 w => .region (.mv rfl (.mv rfl (.q rfl (.len sl_22_Da rfl) (.q rfl (.cmp rfl rfl rfl) (.mv rfl ?_)))))))
  refine .split (fun s => ?_) (fun s => ?_)
  ·
   try simp only [sps] at s
   refine .qg rfl (.move rfl) (.qg rfl (.cmp rfl rfl rfl) (.q rfl (.pickT rfl rfl) (.nil (w _ _ ?_))))
   refine .cond rfl (fun u => ?_) (fun u => ?_)
   ·
    simp only [sps] at u
    refine .skip ?_
    refine a4 _ _ (.seq (fun K7 a6 => ?_))
    refine .block ?_
    refine .regionD mo_B (.q 0 (.q 1 (.q 2 (.q 3 (.q 4 (.q 5 (.q 6 (.q 7 (.q 8 (.q 9 (.q 10 (.q 11 (.q 12 (.q 13 (.q 14 (.c 15 0 (.done))))))))))))))))) (by kernel_rfl) ?_
    have c0 := hb.1
    refine .mv rfl rfl (.mv rfl rfl (.q rfl (.nilCheck rfl) (.q rfl (.fieldAddr fo_86_2_Da rfl) ?_)))
    refine .q rfl (.load on_84_Da rfl (by first | assumption | exact Mem.of_get d 2 _ rfl)) ?_
    refine .q rfl (.arith rfl rfl rfl) (.mv rfl rfl (.mv rfl rfl ?_))
    refine .q rfl (.idxN sl_22_Da (by assumption) rfl rfl (by omega)) ?_
    refine .q rfl (.loadE on_5_Da (by assumption) rfl (by omega)) ?_
    refine .q rfl (.conv us_5_Da it_84_Da rfl) (.q rfl (.arith rfl rfl rfl) (.q rfl (.arith rfl rfl rfl) (.q rfl (.nilCheck rfl) (.q rfl (.fieldAddr fo_86_2_Da rfl) ?_))))
    refine .r0 rfl rfl rfl (.storeR rfl sz_84_Da rfl rfl rfl (by assumption) (by first | exact Nat.le_of_ble_eq_true rfl | (simp; done) | (simp <;> omega))) ?_
    rintro _ H5015 ⟨rfl, h, i⟩
    replace e := e.sA h
    try simp only [Nat.zero_add, List.set_cons_succ, List.set_cons_zero] at i
    refine .done ?_
    refine a6 _ _ (.region (.mv rfl ?_))
    refine .q rfl (.add rfl rfl rfl (by omega) (by omega)) ?_
    refine .mv rfl (.nil ?_)
    refine r ((k + 1, IntKind.wrap .u64 (IntKind.wrap .u64 (IntKind.wrap .u64 (hh * 1099511628211) + IntKind.wrap .u64 (xs.getD k 0)) + 7))) _ _ ?_ ?_ ⟨rfl, rfl, rfl, trivial⟩
    ·
     refine ⟨e, by assumption, ?_⟩
     omega
    (dsimp only; omega)
   simp only [sps] at u
   refine .exit ?_
   refine x _ _ (.seq (fun K8 a0 => .region (.mv rfl (.mv rfl (.nil (a0 _ _ ?_))))))
   refine .ret ?_
   refine m _ _ ?_
   refine ⟨_, rfl, ?_⟩
   exact ⟨j, n, rfl, by omega, a, xs, 0, hh, d, ⟨by omega, by omega⟩, hx, hb, fun b o t ha => by have := hlt b o t ha; omega⟩
  try simp only [sps] at s
  refine .z rfl (.z rfl (.q rfl (.pickF rfl rfl) (.nil (w _ _ ?_))))
  refine .condF rfl ?_
  refine .exit ?_
  refine x _ _ (.seq (fun K9 a3 => .region (.mv rfl (.mv rfl (.nil (a3 _ _ ?_))))))
  refine .ret ?_
  refine m _ _ ?_
  refine ⟨_, rfl, ?_⟩
  exact ⟨j, n, rfl, by omega, a, xs, 0, hh, d, ⟨by omega, by omega⟩, hx, hb, fun b o t ha => by have := hlt b o t ha; omega⟩
theorem l01Pick_c {gS : Nat} {a : Option Addr} {xs : List Int} {H : GHeap} (hs : DSrc 86 H gS := by assumption) (hl : ∀ H', St [gS] H H' → Ints H' a xs) (h0 : 0 < xs.length) :
    GCalls Try.prog 106 [.pointer (some ⟨gS, 0, none⟩), .slice a xs.length xs.length] H (fun v H' => ∃ i, i < xs.length ∧ v = .int .i64 (xs.getD i 0) ∧ St [gS] H H' ∧ DSrc 86 H' gS) := by
  refine GCalls.body (N := 12) (rs := [.tmp 4]) Try.func106 rfl rfl rfl rfl (fun Qx c hend => ?_)
  refine .fg [0, 1] rfl ?_
  have b := St.refl [gS] H
  refine .seq (fun K1 d => .region (.mv rfl (.nil (d _ _ (.seq (fun K2 f => .region (.mv rfl (.mv rfl (.mv rfl (.q rfl (.len sl_24_A rfl) ?_))))))))))
  refine .call rfl rfl rfl rfl @Try.call30 rfl (l01Next_c) ?_
  rintro _ H9 ⟨k9, rfl, ka9, kb9, kc9, e, hs⟩
  replace b := b.sA e
  have i0 := hl _ b
  refine .q rfl (.idx1 sl_24_A (by assumption) rfl rfl (by omega) (by omega)) ?_
  refine .q rfl (.loadI on_2_A (by assumption) rfl (by omega)) ?_
  refine .mv rfl (.nil (f _ _ ?_))
  refine .ret ?_
  refine c _ _ ?_
  refine ⟨_, rfl, ?_⟩
  exact ⟨_, by omega, rfl, b, hs⟩
end Go.Proofs.Ytfanjkbaemhbmaa
namespace Go.GL
theorem rng_snoc {f : Nat → Int} {i : Nat} : (List.range (i + 1)).map f = (List.range i).map f ++ [f i] := by rw [List.range_succ, List.map_append]; rfl
def Cat.opRow (c : Cat) (f g : Nat) : List Int := (List.range g).map fun g => (c.comp.getD g []).getD f 0
def Cat.opTab (c : Cat) (k : Nat) : List (List Int) := (List.range k).map fun f => c.opRow f c.src.length
def Cat.op (c : Cat) : Cat := ⟨c.obj, c.tgt, c.src, c.idn, c.opTab c.src.length⟩
@[simp] theorem Cat.length_opRow (c : Cat) (f g : Nat) : (c.opRow f g).length = g := by simp [opRow]
@[simp] theorem Cat.length_opTab (c : Cat) (k : Nat) : (c.opTab k).length = k := by simp [opTab]
theorem Cat.opRow_snoc {c : Cat} {f g : Nat} : c.opRow f (g + 1) = c.opRow f g ++ [(c.comp.getD g []).getD f 0] := rng_snoc
theorem Cat.opTab_snoc {c : Cat} {k : Nat} : c.opTab (k + 1) = c.opTab k ++ [c.opRow k c.src.length] := by unfold opTab; rw [List.range_succ, List.map_append]; rfl
theorem Cat.opTab_get {c : Cat} {k i : Nat} (h : i < k) : (c.opTab k).getD i [] = c.opRow i c.src.length := by unfold opTab; simp [List.getD_eq_getElem?_getD, h]
theorem Cat.opRow_get {c : Cat} {f g j : Nat} (h : j < g) : (c.opRow f g).getD j 0 = (c.comp.getD j []).getD f 0 := by unfold opRow; simp [List.getD_eq_getElem?_getD, h]
theorem Cat.Rect.op {c : Cat} {N : Nat} (h : c.Rect N) : c.op.Rect N := by
  obtain ⟨h1, h2, h3, h4, h5, h6, h7, h8, h9, h10⟩ := h
  refine ⟨h1, by simp only [Cat.op]; omega, by simp only [Cat.op]; omega, h5, h4, h6, h7, by simp [Cat.op]; omega, fun f hf => ?_, fun f hf g hg => ?_⟩
  · simp only [Cat.op, length_opTab] at hf ⊢
    rw [opTab_get hf, length_opRow]; omega
  · simp only [Cat.op, length_opTab] at hf hg ⊢
    rw [opTab_get hf, opRow_get (by omega)]
    exact h10 g (by omega) f hf
theorem Cat.Rect.mono {c : Cat} {N M : Nat} (h : c.Rect N) (hm : N ≤ M) : c.Rect M := by
  obtain ⟨h1, h2, h3, h4, h5, h6, h7, h8, h9, h10⟩ := h
  exact ⟨⟨h1.1, by omega⟩, by omega, h3, fun i hi => by have := h4 i hi; omega, fun i hi => by have := h5 i hi; omega, h6, fun i hi => by have := h7 i hi; omega, h8, h9, fun f hf g hg => by have := h10 f hf g hg; omega⟩
end Go.GL
namespace Go.GL
def Bd (lo hi : Int) (l : List Int) : Prop := ∀ i, i < l.length → lo ≤ l.getD i 0 ∧ l.getD i 0 ≤ hi
theorem Bd.nil (lo hi : Int) : Bd lo hi [] := fun i h => by simp at h
theorem Bd.snoc {lo hi x : Int} {l : List Int} (h : Bd lo hi l) (h1 : lo ≤ x) (h2 : x ≤ hi) : Bd lo hi (l ++ [x]) := fun i hi => by
  rw [List.length_append, List.length_singleton] at hi
  by_cases e : i = l.length
  · subst e
    simp only [List.getD_eq_getElem?_getD, List.getElem?_concat_length, Option.getD_some]
    omega
  · have : i < l.length := by omega
    have h3 := h i this
    simp only [List.getD_eq_getElem?_getD, List.getElem?_append_left this] at h3 ⊢
    exact h3
theorem Bd.mono {lo hi lo' hi' : Int} {l : List Int} (h : Bd lo hi l) (h1 : lo' ≤ lo) (h2 : hi ≤ hi') : Bd lo' hi' l := fun i hi => by have := h i hi; omega
theorem Bd.rep {lo hi x : Int} (n : Nat) (h1 : lo ≤ x) (h2 : x ≤ hi) : Bd lo hi (List.replicate n x) := fun i hi => by
  rw [List.length_replicate] at hi
  simp [List.getD_eq_getElem?_getD, hi, h1, h2]
def Tb (lo hi : Int) (w : Nat) (T : List (List Int)) : Prop := ∀ i, i < T.length → (T.getD i []).length = w ∧ Bd lo hi (T.getD i [])
theorem Tb.nil (lo hi : Int) (w : Nat) : Tb lo hi w [] := fun i h => by simp at h
theorem Tb.snoc {lo hi : Int} {w : Nat} {x : List Int} {l : List (List Int)} (h : Tb lo hi w l) (h1 : x.length = w) (h2 : Bd lo hi x) : Tb lo hi w (l ++ [x]) := fun i hi => by
  rw [List.length_append, List.length_singleton] at hi
  by_cases e : i = l.length
  · subst e
    simp only [List.getD_eq_getElem?_getD, List.getElem?_concat_length, Option.getD_some]
    exact ⟨h1, h2⟩
  · have : i < l.length := by omega
    have h3 := h i this
    simp only [List.getD_eq_getElem?_getD, List.getElem?_append_left this] at h3 ⊢
    exact h3
theorem Tb.mono {lo hi lo' hi' : Int} {w : Nat} {l : List (List Int)} (h : Tb lo hi w l) (h1 : lo' ≤ lo) (h2 : hi ≤ hi') : Tb lo' hi' w l := fun i hi => ⟨(h i hi).1, (h i hi).2.mono h1 h2⟩
theorem Tb.at {lo hi : Int} {w i j : Nat} {T : List (List Int)} (h : Tb lo hi w T) (h1 : i < T.length) (hj : j < w) : lo ≤ (T.getD i []).getD j 0 ∧ (T.getD i []).getD j 0 ≤ hi := (h i h1).2 j (by rw [(h i h1).1]; exact hj)
theorem rect_mk {n : Int} {N : Nat} {ss ts is : List Int} {cs : List (List Int)} (h0 : 0 ≤ n ∧ n ≤ N) (h1 : ss.length ≤ N) (h2 : ts.length = ss.length) (h3 : Bd 0 N ss) (h4 : Bd 0 N ts) (h5 : (is.length : Int) = n) (h6 : Bd 0 N is) (h7 : cs.length = ss.length) (h8 : Tb (-(N : Int) - 1) N ss.length cs) : Cat.Rect ⟨n, ss, ts, is, cs⟩ N :=
  ⟨h0, h1, h2, h3, h4, h5, h6, h7, fun f hf => (h8 f hf).1, fun f hf g hg => h8.at hf hg⟩
theorem bd_iff {lo hi : Int} {l : List Int} : Bd lo hi l ↔ ∀ x ∈ l, lo ≤ x ∧ x ≤ hi := by
  constructor
  · intro h x hx
    obtain ⟨i, h1, rfl⟩ := List.getElem_of_mem hx
    have := h i h1
    rwa [List.getD_eq_getElem?_getD, List.getElem?_eq_getElem h1] at this
  · intro h i hi
    rw [List.getD_eq_getElem?_getD, List.getElem?_eq_getElem hi]
    exact h _ (List.getElem_mem hi)
theorem tb_iff {lo hi : Int} {w : Nat} {T : List (List Int)} : Tb lo hi w T ↔ ∀ r ∈ T, r.length = w ∧ ∀ x ∈ r, lo ≤ x ∧ x ≤ hi := by
  constructor
  · intro h r hr
    obtain ⟨i, h1, rfl⟩ := List.getElem_of_mem hr
    have := h i h1
    rw [List.getD_eq_getElem?_getD, List.getElem?_eq_getElem h1] at this
    exact ⟨this.1, bd_iff.1 this.2⟩
  · intro h i hi
    rw [List.getD_eq_getElem?_getD, List.getElem?_eq_getElem hi]
    have := h _ (List.getElem_mem hi)
    exact ⟨this.1, bd_iff.2 this.2⟩
theorem Cat.Rect.sum {c d : Cat} {N M : Nat} (h : c.Rect N) (h' : d.Rect M) : (c.sum d).Rect (N + M) := by
  obtain ⟨a1, a2, a3, a4, a5, a6, a7, a8, a9, a10⟩ := h
  obtain ⟨b1, b2, b3, b4, b5, b6, b7, b8, b9, b10⟩ := h'
  have s1 := bd_iff.1 (show Bd 0 N c.src from a4)
  have s2 := bd_iff.1 (show Bd 0 N c.tgt from a5)
  have s3 := bd_iff.1 (show Bd 0 N c.idn from a7)
  have t1 := bd_iff.1 (show Bd 0 M d.src from b4)
  have t2 := bd_iff.1 (show Bd 0 M d.tgt from b5)
  have t3 := bd_iff.1 (show Bd 0 M d.idn from b7)
  have s4 := tb_iff.1 (show Tb (-(N : Int) - 1) N c.src.length c.comp from fun i hi => ⟨a9 i hi, fun j hj => a10 i hi j (by rw [← a9 i hi]; exact hj)⟩)
  have t4 := tb_iff.1 (show Tb (-(M : Int) - 1) M d.src.length d.comp from fun i hi => ⟨b9 i hi, fun j hj => b10 i hi j (by rw [← b9 i hi]; exact hj)⟩)
  refine rect_mk (by omega) (by simp [Cat.sum]; omega) (by simp [Cat.sum]; omega) (bd_iff.2 ?_) (bd_iff.2 ?_) (by simp [Cat.sum]; omega) (bd_iff.2 ?_) (by simp [Cat.sum, Cat.sumL]; omega) (tb_iff.2 ?_)
  · intro x hx
    simp only [Cat.sum, List.mem_append, List.mem_map] at hx
    rcases hx with h | ⟨y, h, rfl⟩
    · have := s1 x h; omega
    · have := t1 y h; omega
  · intro x hx
    simp only [Cat.sum, List.mem_append, List.mem_map] at hx
    rcases hx with h | ⟨y, h, rfl⟩
    · have := s2 x h; omega
    · have := t2 y h; omega
  · intro x hx
    simp only [Cat.sum, List.mem_append, List.mem_map] at hx
    rcases hx with h | ⟨y, h, rfl⟩
    · have := s3 x h; omega
    · have := t3 y h; omega
  · intro r hr
    simp only [Cat.sum, Cat.sumL, List.mem_append, List.mem_map] at hr
    rcases hr with ⟨y, h, rfl⟩ | ⟨y, h, rfl⟩
    · have := s4 y h
      refine ⟨by simp [Cat.sum]; omega, fun x hx => ?_⟩
      rcases List.mem_append.1 hx with h | h
      · have := this.2 x h; omega
      · have := (List.mem_replicate.1 h).2; omega
    · have := t4 y h
      refine ⟨by simp [Cat.sum, sumRow]; omega, fun x hx => ?_⟩
      rcases List.mem_append.1 hx with h | h
      · have := (List.mem_replicate.1 h).2; omega
      · obtain ⟨z, h1, rfl⟩ := List.mem_map.1 h
        have := this.2 z h1
        split <;> omega
end Go.GL
namespace Go.GL
def LitAt (b : Nat) (H : GHeap) (e : TypeId) : List Nat → List (List Int) → Prop
  | [], [] => True
  | g :: gs, x :: T => (b ≤ g ∧ H.get g = some (.row (ints x) e true)) ∧ LitAt b H e gs T
  | _, _ => False
theorem LitAt.get {b : Nat} {H : GHeap} {e : TypeId} : ∀ {gs : List Nat} {T : List (List Int)}, LitAt b H e gs T → gs.length = T.length ∧ ∀ i, i < T.length → b ≤ gs.getD i 0 ∧ H.get (gs.getD i 0) = some (.row (ints (T.getD i [])) e true)
  | [], [], _ => ⟨rfl, fun i h => by simp at h⟩
  | g :: gs, x :: T, h => by
    obtain ⟨h1, h2⟩ := h.2.get
    refine ⟨by simp [h1], fun i hi => ?_⟩
    cases i with
    | zero => exact h.1
    | succ i => exact h2 i (by simpa using hi)
  | [], _ :: _, h => h.elim
  | _ :: _, [], h => h.elim
theorem lit_own {b : Nat} {H : GHeap} {e : TypeId} {gs : List Nat} {T : List (List Int)} (h : LitAt b H e gs T) (hd : gs.Nodup) : OwnL b H e (fun i => some ⟨gs.getD i 0, 0, none⟩) T := by
  obtain ⟨h1, h2⟩ := h.get
  refine ⟨fun i hi => ⟨_, rfl, h2 i hi⟩, fun i j hi hj e => ?_⟩
  have e' : gs.getD i 0 = gs.getD j 0 := by simpa using e
  simp only [List.getD_eq_getElem?_getD, List.getElem?_eq_getElem (show i < gs.length by omega), List.getElem?_eq_getElem (show j < gs.length by omega), Option.getD_some] at e'
  exact (List.getElem_inj hd).1 e'
theorem row_nes {gs : List Nat} {g n : Nat} (h : g ∉ gs) (hn : n ≤ gs.length := by exact Nat.le_refl _) : ∀ i, i < n → (fun i => some (⟨gs.getD i 0, 0, none⟩ : Addr)) i ≠ some ⟨g, 0, none⟩ := fun i hi e => h (by
  have e' : gs.getD i 0 = g := by simpa using e
  rw [List.getD_eq_getElem?_getD, List.getElem?_eq_getElem (by omega)] at e'
  exact e' ▸ List.getElem_mem (by omega))
theorem OwnCat.low {eI eS : TypeId} {b b' : Nat} {H : GHeap} {c : Cat} {g1 g2 g3 g4 : Nat} {rr : Nat → Option Addr} (h : OwnCat eI eS b H c g1 g2 g3 g4 rr) (hb : b' ≤ b) : OwnCat eI eS b' H c g1 g2 g3 g4 rr :=
  ⟨h.a1, h.a2, h.a3, h.a4, Nat.le_trans hb h.b1, Nat.le_trans hb h.b2, Nat.le_trans hb h.b3, Nat.le_trans hb h.b4, h.n12, h.n13, h.n23, h.rows.low hb, h.r1, h.r2, h.r3⟩
theorem mul_bdg {a b A B : Int} (h : 0 ≤ a ∧ a ≤ A) (h' : 0 ≤ b ∧ b ≤ B) : 0 ≤ a * b ∧ a * b ≤ A * B := ⟨Int.mul_nonneg h.1 h'.1, Int.mul_le_mul h.2 h'.2 h'.1 (by omega)⟩
theorem mul_bd {a b : Int} (h : 0 ≤ a ∧ a ≤ 256) (h' : 0 ≤ b ∧ b ≤ 128) : 0 ≤ a * b ∧ a * b ≤ 32768 := ⟨Int.mul_nonneg h.1 h'.1, by have := Int.mul_le_mul h.2 h'.2 h'.1 (by omega : (0 : Int) ≤ 256); omega⟩
theorem mulN_bd {a b : Nat} (h : a ≤ 256) (h' : b ≤ 128) : a * b ≤ 32768 := Nat.mul_le_mul h h'
theorem sm (a m : Nat) : (a + 1) * m = a * m + m := Nat.succ_mul a m
theorem smz (x : Nat) (z : Int) : ((x + 1 : Nat) : Int) * z = x * z + z := by rw [Int.natCast_add, Int.add_mul]; simp
end Go.GL
namespace Go.Proofs.Ytfanjkbaemhbmaa
open Go Go.GL Go.RowKit Go.Proofs
theorem sz_127_Dg : (Try.prog.info? 127).map (·.size) = some 3 := by kernel_rfl
theorem fo_127_0_Dg : fieldOff Try.prog 127 0 = some 0 := by kernel_rfl
theorem fo_127_1_Dg : fieldOff Try.prog 127 1 = some 1 := by kernel_rfl
theorem fo_127_2_Dg : fieldOff Try.prog 127 2 = some 2 := by kernel_rfl
theorem l01Less_c {a b : Option Addr} {xs ys : List Int} {H : GHeap} (ha : Ints H a xs := by assumption) (hb : Ints H b ys := by assumption) (hx : xs.length ≤ 1048576 := by omega) :
    GCalls Try.prog 136 [.slice a xs.length xs.length, .slice b ys.length ys.length] H (fun v H' => H.Le H' ∧ ∃ q, v = .bool q) := by
  refine GCalls.body (N := 41) (rs := [.tmp 4]) Try.func136 rfl rfl rfl rfl (fun Qx c hend => ?_)
  refine .fg [0, 1] rfl ?_
  have g := GHeap.Le.refl H
  have base_ha := ha
  have base_hb := hb
  refine .seq (fun K1 n => .region (.mv rfl (.nil (n _ _ (.seq (fun K2 k => .seq (fun K3 t => .region (.mv rfl (.nil (t _ _ ?_))))))))))
  refine .block ?_
  refine .loopR (σ := Nat) [(0, some _), (1, some _)] (fun i => [(5, some (.int .i64 (i : Int)))]) (fun i H' => H = H' ∧ i ≤ xs.length) (fun i => xs.length - i) (0) ⟨rfl, rfl, trivial⟩ ⟨rfl, trivial⟩ ?_ ?_
  ·
   refine ⟨rfl, ?_⟩
   omega
  rintro i _ ⟨rfl, hI⟩ KL1 d
  refine .forget (fr' := [(5, some (.int .i64 (i : Int))), (0, some _), (1, some _)]) ⟨rfl, rfl, rfl, trivial⟩ ?_
  refine .seq (fun K4 s => .seq (fun K5 l => .region (.mv rfl (.mv rfl (.q rfl (.len sl_24_A rfl) (.q rfl (.cmp rfl rfl rfl) (.mv rfl ?_)))))))
  refine .split (fun h => ?_) (fun h => ?_)
  ·
   simp only [sps] at h
   refine .qg rfl (.move rfl) (.qg rfl (.move rfl) (.qg rfl (.len sl_24_A rfl) (.qg rfl (.cmp rfl rfl rfl) (.q rfl (.pickT rfl rfl) (.nil (l _ _ ?_))))))
   refine .cond rfl (fun j => ?_) (fun j => ?_)
   ·
    simp only [sps] at j
    refine .skip ?_
    refine s _ _ (.seq (fun K6 p => ?_))
    refine .block ?_
    refine .seq (fun K7 o => ?_)
    refine .regionD mo_B (.q 0 (.q 1 (.q 2 (.q 3 (.q 4 (.q 5 (.q 6 (.q 7 (.q 8 (.done)))))))))) (by kernel_rfl) ?_
    refine .mv rfl rfl (.mv rfl rfl ?_)
    refine .q rfl (.idxN sl_24_A (by assumption) rfl rfl (by omega)) ?_
    refine .q rfl (.loadI on_2_A (by assumption) rfl (by omega)) ?_
    refine .mv rfl rfl (.mv rfl rfl ?_)
    refine .q rfl (.idxN sl_24_A (by assumption) rfl rfl (by omega)) ?_
    refine .q rfl (.loadI on_2_A (by assumption) rfl (by omega)) ?_
    refine .q rfl (.cmp rfl rfl rfl) ?_
    refine .done ?_
    refine o _ _ ?_
    refine .cond rfl (fun f => ?_) (fun f => ?_)
    ·
     try simp only [sps] at f
     refine .seq (fun K8 r => ?_)
     refine .regionD mo_B (.q 0 (.q 1 (.q 2 (.q 3 (.q 4 (.q 5 (.q 6 (.q 7 (.q 8 (.q 9 (.done))))))))))) (by kernel_rfl) ?_
     refine .mv rfl rfl (.mv rfl rfl ?_)
     refine .q rfl (.idxN sl_24_A (by assumption) rfl rfl (by omega)) ?_
     refine .q rfl (.loadI on_2_A (by assumption) rfl (by omega)) ?_
     refine .mv rfl rfl (.mv rfl rfl ?_)
     refine .q rfl (.idxN sl_24_A (by assumption) rfl rfl (by omega)) ?_
     refine .q rfl (.loadI on_2_A (by assumption) rfl (by omega)) ?_
     refine .q rfl (.cmp rfl rfl rfl) (.mv rfl rfl ?_)
     refine .done ?_
     refine r _ _ ?_
     refine .ret ?_
     refine c _ _ ?_
     refine ⟨_, rfl, ?_⟩
     exact ⟨g, _, rfl⟩
    try simp only [sps] at f
    refine .skip ?_
    refine p _ _ (.region (.mv rfl ?_))
    refine .q rfl (.add rfl rfl rfl (by omega) (by omega)) ?_
    refine .mv rfl (.nil ?_)
    refine d (i + 1) _ _ ?_ ?_ ⟨rfl, rfl, rfl, trivial⟩
    ·
     refine ⟨rfl, ?_⟩
     omega
    omega
   simp only [sps] at j
   refine .exit ?_
   refine k _ _ (.seq (fun K9 m => .region (.mv rfl (.q rfl (.len sl_24_A rfl) (.mv rfl (.q rfl (.len sl_24_A rfl) (.q rfl (.cmp rfl rfl rfl) (.mv rfl (.nil (m _ _ ?_))))))))))
   refine .ret ?_
   refine c _ _ ?_
   refine ⟨_, rfl, ?_⟩
   exact ⟨g, _, rfl⟩
  simp only [sps] at h
  refine .z rfl (.z rfl (.z rfl (.z rfl (.q rfl (.pickF rfl rfl) (.nil (l _ _ ?_))))))
  refine .condF rfl ?_
  refine .exit ?_
  refine k _ _ (.seq (fun K10 e => .region (.mv rfl (.q rfl (.len sl_24_A rfl) (.mv rfl (.q rfl (.len sl_24_A rfl) (.q rfl (.cmp rfl rfl rfl) (.mv rfl (.nil (e _ _ ?_))))))))))
  refine .ret ?_
  refine c _ _ ?_
  refine ⟨_, rfl, ?_⟩
  exact ⟨g, _, rfl⟩
theorem l03Before_c {a b : Option Addr} {xs ys : List Int} {x1 x2 y1 y2 : Int} {H : GHeap} (ha : Ints H a xs := by assumption) (hb : Ints H b ys := by assumption) (hx : xs.length ≤ 1048576 := by omega) :
    GCalls Try.prog 134 [.agg #[.int .i64 x1, .int .i64 y1, .slice a xs.length xs.length], .agg #[.int .i64 x2, .int .i64 y2, .slice b ys.length ys.length]] H (fun v H' => H.Le H' ∧ ∃ q, v = .bool q) := by
  refine GCalls.body (N := 30) (rs := [.tmp 4]) Try.func134 rfl rfl rfl rfl (fun Qx g hend => ?_)
  refine .fg [0, 1] rfl ?_
  have c := GHeap.Le.refl H
  have d := ha
  have e := hb
  refine .seq (fun K1 m => .region ?_)
  refine .R rfl (.boxR rfl sz_127_Dg rfl) ?_
  rintro _ H2 ⟨g2, rfl, p, ge2, f⟩
  replace c := c.trans p
  refine .R rfl (.boxR rfl sz_127_Dg rfl) ?_
  rintro _ H3 ⟨g3, rfl, k, ge3, h⟩
  replace c := c.trans k
  replace f := k.2 _ _ f
  replace ha := d.mono c
  replace hb := e.mono c
  refine .mv rfl (.nil (m _ _ (.seq (fun K2 l => .seq (fun K3 o => .region (.q rfl (.fieldAddr fo_127_0_Dg rfl) ?_))))))
  refine .q rfl (.load on_2_A rfl (by first | assumption | exact Mem.of_get f 0 _ rfl)) ?_
  refine .q rfl (.fieldAddr fo_127_0_Dg rfl) ?_
  refine .q rfl (.load on_2_A rfl (by first | assumption | exact Mem.of_get h 0 _ rfl)) ?_
  refine .q rfl (.cmp rfl rfl rfl) (.nil (o _ _ ?_))
  refine .cond rfl (fun h9 => ?_) (fun h9 => ?_)
  ·
   try simp only [sps] at h9
   refine .seq (fun K4 u => .region (.q rfl (.fieldAddr fo_127_0_Dg rfl) ?_))
   refine .q rfl (.load on_2_A rfl (by first | assumption | exact Mem.of_get f 0 _ rfl)) ?_
   refine .q rfl (.fieldAddr fo_127_0_Dg rfl) ?_
   refine .q rfl (.load on_2_A rfl (by first | assumption | exact Mem.of_get h 0 _ rfl)) ?_
   refine .q rfl (.cmp rfl rfl rfl) (.mv rfl (.nil (u _ _ ?_)))
   refine .ret ?_
   refine g _ _ ?_
   refine ⟨_, rfl, ?_⟩
   exact ⟨c, _, rfl⟩
  try simp only [sps] at h9
  refine .skip ?_
  refine l _ _ (.seq (fun K5 n => .seq (fun K6 s => .region (.q rfl (.fieldAddr fo_127_1_Dg rfl) ?_))))
  refine .q rfl (.load on_2_A rfl (by first | assumption | exact Mem.of_get f 1 _ rfl)) ?_
  refine .q rfl (.fieldAddr fo_127_1_Dg rfl) ?_
  refine .q rfl (.load on_2_A rfl (by first | assumption | exact Mem.of_get h 1 _ rfl)) ?_
  refine .q rfl (.cmp rfl rfl rfl) (.nil (s _ _ ?_))
  refine .cond rfl (fun i => ?_) (fun i => ?_)
  ·
   try simp only [sps] at i
   refine .seq (fun K7 r => .region (.q rfl (.fieldAddr fo_127_1_Dg rfl) ?_))
   refine .q rfl (.load on_2_A rfl (by first | assumption | exact Mem.of_get f 1 _ rfl)) ?_
   refine .q rfl (.fieldAddr fo_127_1_Dg rfl) ?_
   refine .q rfl (.load on_2_A rfl (by first | assumption | exact Mem.of_get h 1 _ rfl)) ?_
   refine .q rfl (.cmp rfl rfl rfl) (.mv rfl (.nil (r _ _ ?_)))
   refine .ret ?_
   refine g _ _ ?_
   refine ⟨_, rfl, ?_⟩
   exact ⟨c, _, rfl⟩
  try simp only [sps] at i
  refine .skip ?_
  refine n _ _ (.seq (fun K8 t => .region (.q rfl (.fieldAddr fo_127_2_Dg rfl) ?_)))
  refine .q rfl (.load on_24_B rfl (by first | assumption | exact Mem.of_get f 2 _ rfl)) ?_
  refine .q rfl (.fieldAddr fo_127_2_Dg rfl) ?_
  refine .q rfl (.load on_24_B rfl (by first | assumption | exact Mem.of_get h 2 _ rfl)) ?_
  refine .call rfl rfl rfl rfl @Try.call136 rfl (l01Less_c) ?_
  rintro _ H29 ⟨j, q29, rfl⟩
  replace c := c.trans j
  refine .mv rfl (.nil (t _ _ ?_))
  refine .ret ?_
  refine g _ _ ?_
  refine ⟨_, rfl, ?_⟩
  exact ⟨c, _, rfl⟩
end Go.Proofs.Ytfanjkbaemhbmaa
namespace Go.GL
theorem slsL_lens {r : Nat → Option Addr} {X Y : List (List Int)} (hl : X.length = Y.length) (h : ∀ i, (X.getD i []).length = (Y.getD i []).length) : slsL r X = slsL r Y := by
  unfold slsL slsOf
  rw [hl]
  exact List.map_congr_left fun i _ => by rw [h i]
theorem getD_set_len {T : List (List Int)} {i : Nat} {ys : List Int} (h : ys.length = (T.getD i []).length) (j : Nat) : ((T.set i ys).getD j []).length = (T.getD j []).length := by
  rw [List.getD_eq_getElem?_getD, List.getElem?_set, List.getD_eq_getElem?_getD]
  by_cases e : i = j
  · subst e
    rw [if_pos rfl]
    split
    · simpa [List.getD_eq_getElem?_getD] using h
    · rw [List.getElem?_eq_none (by omega)]
  · rw [if_neg e]
theorem OwnL.setR {b gi i : Nat} {H H' : GHeap} {e : TypeId} {r : Nat → Option Addr} {xss : List (List Int)} {ys : List Int} (h : OwnL b H e r xss) (s : St [gi] H H') (hi : i < xss.length) (hr : r i = some ⟨gi, 0, none⟩) (hg : H'.get gi = some (.row (ints ys) e true)) : OwnL b H' e r (xss.set i ys) := by
  unfold OwnL
  rw [List.length_set]
  refine ⟨fun j hj => ?_, h.inj⟩
  obtain ⟨x, h1, h2, h3⟩ := h.row j hj
  rw [List.getD_eq_getElem?_getD, List.getElem?_set]
  by_cases ej : i = j
  · subst ej
    rw [hr] at h1; cases h1
    exact ⟨gi, hr, h2, by rw [if_pos rfl, if_pos hi]; exact hg⟩
  · refine ⟨x, h1, h2, ?_⟩
    rw [if_neg ej, ← List.getD_eq_getElem?_getD]
    exact s.same x _ ⟨fun ex => by
      subst ex
      exact ej (h.inj i j hi hj (by rw [hr, h1])), trivial⟩ h3
structure RelSt (TS eI eS : TypeId) (H H' : GHeap) (gS g5 n k : Nat) (rr : Nat → Option Addr) (T : List (List Int)) : Prop where
  st : St [gS] H H'
  a5 : H'.get g5 = some (.row (slsL rr T) eS true)
  b5 : H.next ≤ g5
  own : OwnL H.next H' eI rr T
  len : T.length = k
  row : ∀ i, i < T.length → (T.getD i []).length = n
  hs : DSrc TS H' gS
theorem RelSt.set1 {TS eI eS : TypeId} {H H1 H2 : GHeap} {gS g5 n k gi i : Nat} {rr : Nat → Option Addr} {T : List (List Int)} {ys : List Int} (h : RelSt TS eI eS H H1 gS g5 n k rr T) (hi : i < T.length) (hg : rr i = some ⟨gi, 0, none⟩) (hb : H.next ≤ gi) (s : St [gi] H1 H2) (hat : H2.get gi = some (.row (ints ys) eI true)) (hl : ys.length = n) (h5 : g5 ≠ gi) (hS : gS < H.next) : RelSt TS eI eS H H2 gS g5 n k rr (T.set i ys) := by
  have hl' : ys.length = (T.getD i []).length := by rw [hl, h.row i hi]
  refine ⟨h.st.st s (fun k hk ho => ⟨by omega, trivial⟩), ?_, h.b5, h.own.setR s hi hg hat, by rw [List.length_set]; exact h.len, fun j hj => ?_, h.hs.st s (fun k hk ho => ⟨by omega, trivial⟩)⟩
  · rw [slsL_lens (Y := T) (by simp) (getD_set_len hl')]
    exact s.same _ _ ⟨h5, trivial⟩ h.a5
  · rw [List.length_set] at hj
    rw [getD_set_len hl']
    exact h.row j hj
theorem rows_snoc {n : Nat} {T : List (List Int)} {x : List Int} (h : ∀ i, i < T.length → (T.getD i []).length = n) (hx : x.length = n) : ∀ i, i < (T ++ [x]).length → ((T ++ [x]).getD i []).length = n := fun i hi => by
  rw [List.length_append, List.length_singleton] at hi
  rw [getD_snoc]
  split
  · exact h i (by assumption)
  · rw [if_pos (by omega)]; exact hx
end Go.GL
namespace Go.GL
structure Pth where
  f : Int
  t : Int
  e : List Int
  g : Nat
def Pth.cs (p : Pth) : List Value := [.int .i64 p.f, .int .i64 p.t, .slice (some ⟨p.g, 0, none⟩) p.e.length p.e.length]
def pz : Pth := ⟨0, 0, [], 0⟩
def pcells (ps : List Pth) : List Value := ps.flatMap Pth.cs
theorem pcells_append (l r : List Pth) : pcells (l ++ r) = pcells l ++ pcells r := by simp [pcells]
theorem pcells_snoc (ps : List Pth) (p : Pth) : pcells (ps ++ [p]) = pcells ps ++ p.cs := by simp [pcells]
theorem pcells_len (ps : List Pth) : (pcells ps).length = ps.length * 3 := by
  induction ps with
  | nil => rfl
  | cons x r ih =>
    unfold pcells at ih ⊢
    simp only [List.flatMap_cons, List.length_append, Pth.cs, List.length_cons, List.length_nil] at ih ⊢
    omega
theorem split_at {ps : List Pth} {i : Nat} (hi : i < ps.length) : ∃ l r, ps = l ++ (ps.getD i pz :: r) ∧ l.length = i := by
  refine ⟨ps.take i, ps.drop (i + 1), ?_, by simp; omega⟩
  rw [List.getD_eq_getElem?_getD, List.getElem?_eq_getElem hi, Option.getD_some, ← List.drop_eq_getElem_cons hi, List.take_append_drop]
theorem pcells_get {ps : List Pth} {i j : Nat} (hi : i < ps.length) (hj : j < 3) : (pcells ps)[i * 3 + j]? = (ps.getD i pz).cs[j]? := by
  obtain ⟨l, r, e, hl⟩ := split_at hi
  have h1 := pcells_len l
  have h2 : pcells (ps.getD i pz :: r) = (ps.getD i pz).cs ++ pcells r := by simp [pcells]
  have h3 : (ps.getD i pz).cs.length = 3 := rfl
  conv => lhs; rw [e]
  rw [pcells_append, h2, List.getElem?_append_right (by omega), show i * 3 + j - (pcells l).length = j by omega, List.getElem?_append_left (by omega)]
theorem pcells_slA {H : GHeap} {g : Nat} {e : TypeId} {own : Bool} {ps : List Pth} (hg : H.get g = some (.row (pcells ps) e own)) : SlA H (some ⟨g, 0, none⟩) (ps.length * 3) (fun i => (pcells ps).getD i undef) :=
  .inr ⟨g, 0, rfl, fun i hi => by
    rw [GHeap.cell_of hg, Nat.zero_add]
    show _ = some ((pcells ps).getD i undef)
    rw [List.getD_eq_getElem?_getD, List.getElem?_eq_getElem (by rw [pcells_len]; exact hi)]; rfl⟩
theorem pcells_mem {H : GHeap} {g : Nat} {e : TypeId} {own : Bool} {ps : List Pth} (hg : H.get g = some (.row (pcells ps) e own)) {i : Nat} (hi : i < ps.length) : MemN H g (0 + (i : Int).toNat * 3) 3 (ps.getD i pz).cs := by
  refine ⟨rfl, fun j v hv => ?_⟩
  have hj : j < 3 := by
    have := (List.getElem?_eq_some_iff.1 hv).1
    exact this
  rw [GHeap.cell_of hg, Int.toNat_natCast, Nat.zero_add, pcells_get hi hj]
  exact hv
theorem pcells_set {ps : List Pth} {i : Nat} (q : Pth) (hi : i < ps.length) : setAll (pcells ps) (i * 3) q.cs = pcells (ps.set i q) := by
  obtain ⟨l, r, e, hl⟩ := split_at hi
  have h1 := pcells_len l
  have h2 : pcells ps = pcells l ++ ((ps.getD i pz).cs ++ pcells r) := by
    conv => lhs; rw [e]
    rw [pcells_append]
    simp [pcells]
  have h3 : ps.set i q = l ++ q :: r := by
    conv => lhs; rw [e]
    rw [← hl, List.set_append_right _ _ (Nat.le_refl _)]
    simp
  rw [h2, h3, show i * 3 = (pcells l).length by omega, setAll_gen q.cs (pcells l) (ps.getD i pz).cs (pcells r) rfl, pcells_append]
  simp [pcells]
def PthOk (b : Nat) (eI : TypeId) (N : Int) (H : GHeap) (ps : List Pth) : Prop := ∀ p ∈ ps, (0 ≤ p.f ∧ p.f ≤ N) ∧ (0 ≤ p.t ∧ p.t ≤ N) ∧ p.e.length ≤ ps.length ∧ b ≤ p.g ∧ H.get p.g = some (.row (ints p.e) eI true)
theorem PthOk.nil (b : Nat) (eI : TypeId) (N : Int) (H : GHeap) : PthOk b eI N H [] := fun p hp => by simp at hp
theorem PthOk.keep {b : Nat} {eI : TypeId} {N : Int} {H H' : GHeap} {ps : List Pth} (h : PthOk b eI N H ps) (s : Lasts eI H H') : PthOk b eI N H' ps := fun p hp => by
  obtain ⟨h1, h2, h3, h4, h5⟩ := h p hp
  exact ⟨h1, h2, h3, h4, s _ _ h5⟩
theorem PthOk.at {b : Nat} {eI : TypeId} {N : Int} {H : GHeap} {ps : List Pth} (h : PthOk b eI N H ps) {i : Nat} (hi : i < ps.length) : (0 ≤ (ps.getD i pz).f ∧ (ps.getD i pz).f ≤ N) ∧ (0 ≤ (ps.getD i pz).t ∧ (ps.getD i pz).t ≤ N) ∧ (ps.getD i pz).e.length ≤ ps.length ∧ b ≤ (ps.getD i pz).g ∧ H.get (ps.getD i pz).g = some (.row (ints (ps.getD i pz).e) eI true) :=
  h _ (by rw [List.getD_eq_getElem?_getD, List.getElem?_eq_getElem hi]; exact List.getElem_mem hi)
theorem PthOk.snoc {b : Nat} {eI : TypeId} {N : Int} {H : GHeap} {ps : List Pth} (h : PthOk b eI N H ps) {p : Pth} (h1 : 0 ≤ p.f ∧ p.f ≤ N) (h2 : 0 ≤ p.t ∧ p.t ≤ N) (h3 : p.e.length ≤ ps.length + 1) (h4 : b ≤ p.g) (h5 : H.get p.g = some (.row (ints p.e) eI true)) : PthOk b eI N H (ps ++ [p]) := fun q hq => by
  rw [List.length_append, List.length_singleton]
  rcases List.mem_append.1 hq with hq | hq
  · obtain ⟨a1, a2, a3, a4, a5⟩ := h q hq
    exact ⟨a1, a2, by omega, a4, a5⟩
  · obtain rfl := List.mem_singleton.1 hq
    exact ⟨h1, h2, h3, h4, h5⟩
theorem PthOk.set {b : Nat} {eI : TypeId} {N : Int} {H : GHeap} {ps : List Pth} (h : PthOk b eI N H ps) {i j : Nat} (hj : j < ps.length) : PthOk b eI N H (ps.set i (ps.getD j pz)) := fun q hq => by
  rw [List.length_set]
  rcases List.mem_or_eq_of_mem_set hq with hq | rfl
  · exact h q hq
  · exact h.at hj
def pw (t : Int) : Nat := if t ≤ 0 then 13 else if t ≤ 1 then 4 else 1
def pws (ps : List Pth) : Nat := (ps.map fun p => pw p.t).sum
def pwn (x : Nat) : Nat := if x = 0 then 0 else if x = 1 then 13 else if x = 2 then 17 else 18
theorem pw_pos (t : Int) : 1 ≤ pw t := by
  unfold pw
  repeat' split
  all_goals omega
theorem pw_up {t u : Int} (h0 : 0 ≤ t) (h : t < u) (h2 : u ≤ 2) : 3 * pw u + 1 ≤ pw t := by
  unfold pw
  rw [if_neg (show ¬ u ≤ 0 by omega)]
  by_cases e : t ≤ 0
  · rw [if_pos e]
    split <;> omega
  · rw [if_neg e, if_pos (show t ≤ 1 by omega), if_neg (show ¬ u ≤ 1 by omega)]
    omega
theorem pwn_succ {x : Nat} (h : x ≤ 2) : pwn x + pw (x : Int) = pwn (x + 1) := by
  have : x = 0 ∨ x = 1 ∨ x = 2 := by omega
  rcases this with rfl | rfl | rfl <;> rfl
theorem pwn_le (x : Nat) : pwn x ≤ 18 := by
  unfold pwn
  repeat' split
  all_goals omega
theorem pws_snoc (ps : List Pth) (p : Pth) : pws (ps ++ [p]) = pws ps + pw p.t := by simp [pws]
theorem pws_ge (ps : List Pth) : ps.length ≤ pws ps := by
  induction ps with
  | nil => exact Nat.le_refl _
  | cons p r ih =>
    have := pw_pos p.t
    simp only [pws, List.map_cons, List.sum_cons, List.length_cons] at ih ⊢
    omega
theorem pws_drop {ps : List Pth} {k : Nat} (h : k < ps.length) : pws (ps.drop k) = pw (ps.getD k pz).t + pws (ps.drop (k + 1)) := by
  rw [List.drop_eq_getElem_cons h, List.getD_eq_getElem?_getD, List.getElem?_eq_getElem h]
  rfl
theorem pws_drop_snoc {ps : List Pth} {p : Pth} {k : Nat} (h : k ≤ ps.length) : pws ((ps ++ [p]).drop k) = pws (ps.drop k) + pw p.t := by
  rw [List.drop_append_of_le_length h, pws_snoc]
theorem pws_len {ps : List Pth} {k : Nat} (h : k ≤ ps.length) (h' : k + pws (ps.drop k) ≤ 18) : ps.length ≤ 18 := by
  have := pws_ge (ps.drop k)
  rw [List.length_drop] at this
  omega
end Go.GL
namespace Go.GL
structure PthK (b : Nat) (eI : TypeId) (N : Int) (H : GHeap) (ps : List Pth) : Prop where
  ok : PthOk b eI N H ps
theorem PthK.keep {b b' : Nat} {eI : TypeId} {N : Int} {H H' : GHeap} {ps : List Pth} (h : PthK b eI N H ps) (k : Keep b' H H') (hb : b' ≤ b) : PthK b eI N H' ps := ⟨fun p hp => by
  obtain ⟨h1, h2, h3, h4, h5⟩ := h.ok p hp
  exact ⟨h1, h2, h3, h4, k _ _ (Nat.le_trans hb h4) h5⟩⟩
theorem up_snoc {xs ys : List Int} {x y : Int} (hl : ys.length = xs.length) (h : ∀ e, e < xs.length → xs.getD e 0 < ys.getD e 0) (hxy : x < y) : ∀ e, e < (xs ++ [x]).length → (xs ++ [x]).getD e 0 < (ys ++ [y]).getD e 0 := fun e he => by
  rw [List.length_append, List.length_singleton] at he
  rw [getD_snoc, getD_snoc]
  by_cases e1 : e < xs.length
  · rw [if_pos e1, if_pos (by omega)]; exact h e e1
  · rw [if_neg e1, if_pos (by omega), if_neg (by omega), if_pos (by omega)]; exact hxy
theorem Keep.mono {b b' : Nat} {H H' : GHeap} (k : Keep b' H H') (h : b' ≤ b) : Keep b H H' := fun g o hb hg => k g o (Nat.le_trans h hb) hg
theorem Keep.trans {b : Nat} {A B C : GHeap} (k : Keep b A B) (k' : Keep b B C) : Keep b A C := fun g o hb hg => k' g o hb (k g o hb hg)
structure KIn (b : Nat) (H : GHeap) (c : Cat) (p : CatP) : Prop where
  all : ∀ H', Keep b H H' → c.In H' p
theorem KIn.inn {b : Nat} {H : GHeap} {c : Cat} {p : CatP} (h : KIn b H c p) : c.In H p := h.all _ (fun _ _ _ x => x)
theorem KIn.keep {b b' : Nat} {H H1 : GHeap} {c : Cat} {p : CatP} (h : KIn b H c p) (k : Keep b' H H1) (hb : b' ≤ b) : KIn b' H1 c p := ⟨fun H' k' => h.all H' ((k.trans k').mono hb)⟩
theorem CatR.kin {b : Nat} {H : GHeap} {c : Cat} {p : CatP} (h : CatR b H c p) : KIn b H c p := ⟨fun _ k => (h.keep k (Nat.le_refl _)).inn⟩
theorem KIn.parts {eI eS : TypeId} {b : Nat} {H : GHeap} {c : Cat} {g1 g2 g3 g4 : Nat} {rr : Nat → Option Addr} (a1 : H.get g1 = some (.row (ints c.src) eI true)) (b1 : b ≤ g1) (a2 : H.get g2 = some (.row (ints c.tgt) eI true)) (b2 : b ≤ g2) (a3 : H.get g3 = some (.row (ints c.idn) eI true)) (b3 : b ≤ g3) (a4 : H.get g4 = some (.row (slsL rr c.comp) eS true)) (b4 : b ≤ g4)
    (hr : ∀ i, i < c.comp.length → ∀ H', Keep b H H' → Ints H' (rr i) (c.comp.getD i [])) : KIn b H c (ownP g1 g2 g3 g4 rr) :=
  ⟨fun H' k => ⟨Ints.of_get (k _ _ b1 a1), Ints.of_get (k _ _ b2 a2), Ints.of_get (k _ _ b3 a3), .inr ⟨g4, 0, rfl, fun i hi => slsL_cell (k _ _ b4 a4) hi⟩, fun i hi => hr i hi H' k⟩⟩
theorem KIn.own {eI eS : TypeId} {b : Nat} {H : GHeap} {c : Cat} {g1 g2 g3 g4 : Nat} {rr : Nat → Option Addr} (a1 : H.get g1 = some (.row (ints c.src) eI true)) (b1 : b ≤ g1) (a2 : H.get g2 = some (.row (ints c.tgt) eI true)) (b2 : b ≤ g2) (a3 : H.get g3 = some (.row (ints c.idn) eI true)) (b3 : b ≤ g3) (a4 : H.get g4 = some (.row (slsL rr c.comp) eS true)) (b4 : b ≤ g4) (hR : OwnL b H eI rr c.comp) : KIn b H c (ownP g1 g2 g3 g4 rr) :=
  .parts a1 b1 a2 b2 a3 b3 a4 b4 fun i hi H' k => by
    obtain ⟨x, h1, h2, h3⟩ := hR.row i hi
    rw [h1]
    exact Ints.of_get (k _ _ h2 h3)
def DrawnK (TS : TypeId) (gS : Nat) (H : GHeap) (v : Value) (H' : GHeap) : Prop := ∃ c p, v = .agg (c.cells p).toArray ∧ c.Small ∧ KIn H.next H' c p ∧ St [gS] H H' ∧ DSrc TS H' gS
theorem getD_set_le {T : List (List Int)} {i N : Nat} {ys : List Int} (h : ∀ j, (T.getD j []).length ≤ N) (hy : ys.length ≤ N) (j : Nat) : ((T.set i ys).getD j []).length ≤ N := by
  rw [List.getD_eq_getElem?_getD, List.getElem?_set]
  by_cases e : i = j
  · subst e
    rw [if_pos rfl]
    split
    · exact hy
    · exact Nat.zero_le _
  · rw [if_neg e, ← List.getD_eq_getElem?_getD]
    exact h j
theorem Ints.tail {H : GHeap} {g : Nat} {xs : List Int} {e : TypeId} {own : Bool} (h : H.get g = some (.row (ints xs) e own)) : Ints H (some ⟨g, 1, none⟩) xs.tail := .inr ⟨g, 1, rfl, fun i hi => by
  rw [List.length_tail] at hi
  rw [GHeap.cell_of h, ints_get (by omega)]
  simp only [List.getD_eq_getElem?_getD, List.getElem?_tail, Nat.add_comm]⟩
theorem bend_set {eI : TypeId} {b gi f : Nat} {H H1 : GHeap} {T : List (List Int)} {rr : Nat → Option Addr} {ys : List Int} (hR : OwnL b H eI rr T) (s : St [gi] H H1) (hf : f < T.length) (hg : rr f = some ⟨gi, 0, none⟩) (hat : H1.get gi = some (.row (ints ys) eI true)) (hl : ys.length = (T.getD f []).length) :
    ∃ T', slsL rr T' = slsL rr T ∧ T'.length = T.length ∧ (∀ j, (T'.getD j []).length = (T.getD j []).length) ∧ OwnL b H1 eI rr T' :=
  ⟨T.set f ys, slsL_lens (by simp) (getD_set_len hl), by simp, getD_set_len hl, hR.setR s hf hg hat⟩
theorem bend_cut {eI : TypeId} {b gi f : Nat} {H : GHeap} {T : List (List Int)} {rr : Nat → Option Addr} (hR : OwnL b H eI rr T) (hf : f < T.length) (hg : rr f = some ⟨gi, 0, none⟩) {n : Nat} (hn : n = (T.getD f []).length - 1) :
    ∃ rr' T', (slsL rr T).set f (.slice (some ⟨gi, 1, none⟩) n n) = slsL rr' T' ∧ T'.length = T.length ∧ (∀ N, (∀ j, (T.getD j []).length ≤ N) → ∀ j, (T'.getD j []).length ≤ N) ∧ ∀ i, i < T'.length → ∀ H', Keep b H H' → Ints H' (rr' i) (T'.getD i []) := by
  refine ⟨upd rr f (some ⟨gi, 1, none⟩), T.set f (T.getD f []).tail, slsL_set hf (by rw [hn, List.length_tail]), by simp, fun N h => getD_set_le h (by rw [List.length_tail]; have := h f; omega), fun i hi H' k => ?_⟩
  rw [List.length_set] at hi
  obtain ⟨x, h1, h2, h3⟩ := hR.row i hi
  rw [getD_set2 hf]
  by_cases e : f = i
  · subst e
    rw [hg] at h1
    cases h1
    rw [upd_eq, if_pos rfl]
    exact Ints.tail (k _ _ h2 h3)
  · rw [upd_ne (Ne.symm e), if_neg e, h1]
    exact Ints.of_get (k _ _ h2 h3)
def NewK (H : GHeap) (v : Value) (H' : GHeap) : Prop := H.Le H' ∧ ∃ c p, v = .agg (Cat.cells c p).toArray ∧ c.Small ∧ KIn H.next H' c p
theorem vrel_place {ρ : Place} {a : Addr} {n : Nat} {c : Value} (h : VRel ρ (.slice (some a) n n) c) : ∃ s, ρ a.block = some s := by
  generalize hv : Value.slice (some a) n n = v at h
  cases h with
  | slice h' _ _ _ => cases hv; exact ⟨_, h'⟩
  | empty h' => cases hv; exact ⟨_, h'⟩
  | _ => cases hv
theorem imp1_code {P : Program} {t : TypeId} (ht : bytesDT P t = true) : Imp1 P t (fun H g => ∃ a xs, g = .slice a xs.length xs.length ∧ Bytes H a xs ∧ xs.length ≤ 9223372036854775807 ∧ ∀ b o t, a = some ⟨b, o, t⟩ → b < H.next) where
  mono h := fun ⟨a, xs, h1, h2, h3, h4⟩ => ⟨a, xs, h1, h2.mono h, h3, fun b o t e => Nat.lt_of_lt_of_le (h4 b o t e) h.1⟩
  imp := by
    intro T enc B w0 ρ H w held base fuel v x hs hB h hv
    obtain ⟨ρ', H', g, h1, h2, h3, h4, a, xs, rfl, h5, h6⟩ := (imp1_bytes ht).imp hs hB h hv
    refine ⟨ρ', H', _, h1, h2, h3, h4, a, xs, rfl, h5, h6, fun b o t e => ?_⟩
    subst e
    refine Nat.lt_of_not_le fun hb => ?_
    obtain ⟨s, hs'⟩ := vrel_place h4
    rw [h1.dom b hb] at hs'
    cases hs'
end Go.GL
namespace Go.GL
def CellV (ss ts : List Int) (f g : Nat) (h : Int) : Prop :=
  (ts.getD f 0 = ss.getD g 0 → 0 ≤ h ∧ h < ss.length ∧ ss.getD h.toNat 0 = ss.getD f 0 ∧ ts.getD h.toNat 0 = ts.getD g 0) ∧ (¬ ts.getD f 0 = ss.getD g 0 → h = -1)
theorem CellV.pos {ss ts : List Int} {f g : Nat} {h : Int} (e : ts.getD f 0 = ss.getD g 0) (h1 : 0 ≤ h ∧ h < ss.length) (h2 : ss.getD h.toNat 0 = ss.getD f 0) (h3 : ts.getD h.toNat 0 = ts.getD g 0) : CellV ss ts f g h := ⟨fun _ => ⟨h1.1, h1.2, h2, h3⟩, fun n => absurd e n⟩
theorem CellV.neg {ss ts : List Int} {f g : Nat} {h : Int} (e : ¬ ts.getD f 0 = ss.getD g 0) (h1 : h = -1) : CellV ss ts f g h := ⟨fun n => absurd n e, fun _ => h1⟩
def CellsR (ss ts : List Int) (f : Nat) (row : List Int) : Prop := ∀ g, g < row.length → CellV ss ts f g (row.getD g 0)
theorem CellsR.nil (ss ts : List Int) (f : Nat) : CellsR ss ts f [] := fun g h => by simp at h
theorem CellsR.snoc {ss ts row : List Int} {f : Nat} {x : Int} (h : CellsR ss ts f row) (hx : CellV ss ts f row.length x) : CellsR ss ts f (row ++ [x]) := fun g hg => by
  rw [List.length_append, List.length_singleton] at hg
  rw [getD_snoc]
  by_cases e : g < row.length
  · rw [if_pos e]; exact h g e
  · obtain rfl : g = row.length := by omega
    rw [if_neg e, if_pos rfl]; exact hx
def CellsT (ss ts : List Int) (cs : List (List Int)) : Prop := ∀ f, f < cs.length → CellsR ss ts f (cs.getD f [])
theorem CellsT.nil (ss ts : List Int) : CellsT ss ts [] := fun f h => by simp at h
theorem CellsT.snoc {ss ts row : List Int} {cs : List (List Int)} (h : CellsT ss ts cs) (hx : CellsR ss ts cs.length row) : CellsT ss ts (cs ++ [row]) := fun f hf => by
  rw [List.length_append, List.length_singleton] at hf
  rw [getD_snoc]
  by_cases e : f < cs.length
  · rw [if_pos e]; exact h f e
  · obtain rfl : f = cs.length := by omega
    rw [if_neg e, if_pos rfl]; exact hx
def IdsL (ss ts is : List Int) : Prop := ∀ x, x < is.length → (0 ≤ is.getD x 0 ∧ is.getD x 0 < ss.length) ∧ ss.getD (is.getD x 0).toNat 0 = x ∧ ts.getD (is.getD x 0).toNat 0 = x
theorem IdsL.nil (ss ts : List Int) : IdsL ss ts [] := fun x h => by simp at h
theorem IdsL.snoc {ss ts is : List Int} {k : Int} (h : IdsL ss ts is) (h1 : 0 ≤ k ∧ k < ss.length) (h2 : ss.getD k.toNat 0 = is.length) (h3 : ts.getD k.toNat 0 = is.length) : IdsL ss ts (is ++ [k]) := fun x hx => by
  rw [List.length_append, List.length_singleton] at hx
  rw [getD_snoc]
  by_cases e : x < is.length
  · rw [if_pos e]; exact h x e
  · obtain rfl : x = is.length := by omega
    rw [if_neg e, if_pos rfl]; exact ⟨h1, h2, h3⟩
structure Cat.Shp (c : Cat) : Prop where
  tl : c.tgt.length = c.src.length
  src : Bd 0 (c.obj - 1) c.src
  tgt : Bd 0 (c.obj - 1) c.tgt
  il : (c.idn.length : Int) = c.obj
  ids : IdsL c.src c.tgt c.idn
  cl : c.comp.length = c.src.length
  row : ∀ f, f < c.src.length → (c.comp.getD f []).length = c.src.length
  cell : ∀ f, f < c.src.length → ∀ g, g < c.src.length → CellV c.src c.tgt f g ((c.comp.getD f []).getD g 0)
theorem Cat.Shp.mk' {n : Int} {ss ts is : List Int} {cs : List (List Int)} (h1 : ts.length = ss.length) (h2 : Bd 0 (n - 1) ss) (h3 : Bd 0 (n - 1) ts) (h4 : (is.length : Int) = n) (h5 : IdsL ss ts is) (h6 : cs.length = ss.length) (h7 : ∀ f, f < cs.length → (cs.getD f []).length = ss.length) (h8 : CellsT ss ts cs) : (Cat.mk n ss ts is cs).Shp :=
  ⟨h1, h2, h3, h4, h5, h6, fun f hf => h7 f (by rw [h6]; exact hf), fun f hf g hg => h8 f (by rw [h6]; exact hf) g (by rw [h7 f (by rw [h6]; exact hf)]; exact hg)⟩
structure Cat.Good (c : Cat) (N : Nat) : Prop where
  r : c.Rect N
  s : c.Shp
theorem Cat.Good.mono {c : Cat} {N M : Nat} (h : c.Good N) (hm : N ≤ M) : c.Good M := ⟨h.r.mono hm, h.s⟩
theorem Cat.Shp.op {c : Cat} (h : c.Shp) : c.op.Shp := by
  obtain ⟨h1, h2, h3, h4, h5, h6, h7, h8⟩ := h
  refine ⟨h1.symm, h3, h2, h4, fun x hx => ?_, by simp only [Cat.op, Cat.length_opTab]; omega, fun f hf => ?_, fun f hf g hg => ?_⟩
  · have := h5 x hx
    exact ⟨⟨this.1.1, by show c.idn.getD x 0 < (c.tgt.length : Int); have := this.1.2; omega⟩, this.2.2, this.2.1⟩
  · have hf' : f < c.tgt.length := hf
    simp only [Cat.op]
    rw [Cat.opTab_get (by omega), Cat.length_opRow]
    omega
  · have hf' : f < c.tgt.length := hf
    have hg' : g < c.tgt.length := hg
    simp only [Cat.op]
    rw [Cat.opTab_get (by omega), Cat.opRow_get (by omega)]
    have hc := h8 g (by omega) f (by omega)
    exact ⟨fun e => by have := hc.1 e.symm; exact ⟨this.1, by omega, this.2.2.2, this.2.2.1⟩, fun e => hc.2 fun e' => e e'.symm⟩
theorem Cat.Good.op {c : Cat} {N : Nat} (h : c.Good N) : c.op.Good N := ⟨h.r.op, h.s.op⟩
theorem Cat.Shp.hom_pos {c : Cat} (h : c.Shp) {f g : Nat} (hf : f < c.src.length) (hg : g < c.src.length) (e : c.tgt.getD f 0 = c.src.getD g 0) : 0 < (c.hom (c.src.getD f 0) (c.tgt.getD g 0)).length := by
  obtain ⟨h1, h2, h3, h4⟩ := (h.cell f hf g hg).1 e
  exact List.length_pos_of_mem (Cat.mem_hom.2 ⟨((c.comp.getD f []).getD g 0).toNat, by omega, h3, h4, rfl⟩)
theorem sum_S1 {c d : Cat} {i : Nat} (h : i < c.src.length) : (c.sum d).src.getD i 0 = c.src.getD i 0 := getD_append_l h
theorem sum_S2 {c d : Cat} {i : Nat} (h : i < d.src.length) : (c.sum d).src.getD (c.src.length + i) 0 = d.src.getD i 0 + c.obj := by
  show (c.src ++ d.src.map (· + c.obj)).getD _ 0 = _
  rw [getD_append_r (by omega), Nat.add_sub_cancel_left, getD_map (d := 0) h]
theorem sum_T1 {c d : Cat} {i : Nat} (h : i < c.tgt.length) : (c.sum d).tgt.getD i 0 = c.tgt.getD i 0 := getD_append_l h
theorem sum_T2 {c d : Cat} {i : Nat} (hl : c.tgt.length = c.src.length) (h : i < d.tgt.length) : (c.sum d).tgt.getD (c.src.length + i) 0 = d.tgt.getD i 0 + c.obj := by
  show (c.tgt ++ d.tgt.map (· + c.obj)).getD _ 0 = _
  rw [getD_append_r (by omega), show c.src.length + i - c.tgt.length = i by omega, getD_map (d := 0) h]
theorem sum_len {c d : Cat} : (c.sum d).src.length = c.src.length + d.src.length := by simp [Cat.sum]
theorem sum_lenT {c d : Cat} : (c.sum d).tgt.length = c.tgt.length + d.tgt.length := by simp [Cat.sum]
theorem parts2 {P : Nat → Prop} {m n : Nat} (h1 : ∀ i, i < m → P i) (h2 : ∀ i, i < n → P (m + i)) : ∀ i, i < m + n → P i := fun i hi => by
  by_cases e : i < m
  · exact h1 i e
  · have := h2 (i - m) (by omega)
    rwa [show m + (i - m) = i by omega] at this
theorem Cat.Shp.sum {c d : Cat} (h : c.Shp) (h' : d.Shp) : (c.sum d).Shp := by
  obtain ⟨a1, a2, a3, a4, a5, a6, a7, a8⟩ := h
  obtain ⟨b1, b2, b3, b4, b5, b6, b7, b8⟩ := h'
  have row1 : ∀ f, f < c.src.length → (c.sum d).comp.getD f [] = c.comp.getD f [] ++ List.replicate d.src.length (-1) := fun f hf => by
    show (c.sumL d ++ d.comp.map (sumRow c.src.length)).getD f [] = _
    rw [getD_append_l (by simp [Cat.sumL]; omega)]
    unfold Cat.sumL
    rw [getD_map (d := []) (by omega)]
  have row2 : ∀ f, f < d.src.length → (c.sum d).comp.getD (c.src.length + f) [] = sumRow c.src.length (d.comp.getD f []) := fun f hf => by
    show (c.sumL d ++ d.comp.map (sumRow c.src.length)).getD _ [] = _
    have hl : (c.sumL d).length = c.src.length := by simp [Cat.sumL]; omega
    rw [getD_append_r (by omega), hl, Nat.add_sub_cancel_left, getD_map (d := []) (by omega)]
  refine ⟨by rw [sum_len, sum_lenT]; omega, ?_, ?_, by simp [Cat.sum]; omega, ?_, by simp [Cat.sum, Cat.sumL]; omega, ?_, ?_⟩
  · show ∀ i, _ → _
    rw [sum_len]
    show ∀ i, _ → 0 ≤ _ ∧ _ ≤ c.obj + d.obj - 1
    refine parts2 (fun i hi => ?_) fun i hi => ?_
    · rw [sum_S1 hi]; have := a2 i hi; omega
    · rw [sum_S2 hi]; have := b2 i hi; omega
  · show ∀ i, _ → _
    rw [sum_lenT, a1, b1]
    show ∀ i, _ → 0 ≤ _ ∧ _ ≤ c.obj + d.obj - 1
    refine parts2 (fun i hi => ?_) fun i hi => ?_
    · rw [sum_T1 (by omega)]; have := a3 i (by omega); omega
    · rw [sum_T2 a1 (by omega)]; have := b3 i (by omega); omega
  · show ∀ i, i < (c.idn ++ d.idn.map (· + (c.src.length : Int))).length → _
    rw [List.length_append, List.length_map]
    refine parts2 (fun i hi => ?_) fun i hi => ?_
    · have h0 : (c.sum d).idn.getD i 0 = c.idn.getD i 0 := getD_append_l hi
      have h1 := a5 i hi
      rw [h0, sum_S1 (by omega), sum_T1 (by omega), sum_len]
      exact ⟨by omega, h1.2⟩
    · have h0 : (c.sum d).idn.getD (c.idn.length + i) 0 = d.idn.getD i 0 + c.src.length := by
        show (c.idn ++ d.idn.map (· + (c.src.length : Int))).getD _ 0 = _
        rw [getD_append_r (by omega), Nat.add_sub_cancel_left, getD_map (d := 0) hi]
      have h1 := b5 i hi
      rw [h0, show (d.idn.getD i 0 + (c.src.length : Int)).toNat = c.src.length + (d.idn.getD i 0).toNat by omega, sum_S2 (by omega), sum_T2 a1 (by omega), sum_len, h1.2.1, h1.2.2]
      omega
  · rw [sum_len]
    refine parts2 (fun f hf => ?_) fun f hf => ?_
    · rw [row1 f hf, List.length_append, List.length_replicate, a7 f hf]
    · rw [row2 f hf, length_sumRow, b7 f hf]
  · rw [sum_len]
    have far : ∀ i j : Nat, i < c.src.length → j < d.src.length → (¬ c.tgt.getD i 0 = d.src.getD j 0 + c.obj) ∧ ¬ d.tgt.getD j 0 + c.obj = c.src.getD i 0 := fun i j hi hj => by
      have x1 := a2 i hi
      have x2 := a3 i (by omega)
      have x3 := b2 j hj
      have x4 := b3 j (by omega)
      omega
    refine parts2 (fun f hf => ?_) fun f hf => ?_
    · rw [row1 f hf]
      refine parts2 (fun g hg => ?_) fun g hg => ?_
      · rw [getD_append_l (by rw [a7 f hf]; exact hg)]
        have hc := a8 f hf g hg
        unfold CellV
        rw [sum_T1 (i := f) (by omega), sum_S1 hg, sum_S1 hf, sum_T1 (i := g) (by omega), sum_len]
        refine ⟨fun e => ?_, hc.2⟩
        obtain ⟨w1, w2, w3, w4⟩ := hc.1 e
        rw [sum_S1 (by omega), sum_T1 (by omega)]
        exact ⟨w1, by omega, w3, w4⟩
      · rw [getD_append_r (by rw [a7 f hf]; omega), a7 f hf, Nat.add_sub_cancel_left]
        refine .neg ?_ (by simp [List.getD_eq_getElem?_getD, hg])
        rw [sum_T1 (by omega), sum_S2 hg]
        exact (far f g hf hg).1
    · rw [row2 f hf]
      refine parts2 (fun g hg => ?_) fun g hg => ?_
      · unfold sumRow
        rw [getD_append_l (by simpa using hg)]
        refine .neg ?_ (by simp [List.getD_eq_getElem?_getD, hg])
        rw [sum_T2 a1 (by omega), sum_S1 hg]
        exact (far g f hg hf).2
      · unfold sumRow
        rw [getD_append_r (by simp), List.length_replicate, Nat.add_sub_cancel_left, getD_map (d := 0) (by rw [b7 f hf]; exact hg)]
        have hc := b8 f hf g hg
        unfold CellV
        rw [sum_T2 (i := f) a1 (by omega), sum_S2 hg, sum_S2 hf, sum_T2 (i := g) a1 (by omega), sum_len]
        refine ⟨fun e => ?_, fun e => ?_⟩
        · obtain ⟨w1, w2, w3, w4⟩ := hc.1 (by omega)
          rw [if_pos w1, show ((d.comp.getD f []).getD g 0 + (c.src.length : Int)).toNat = c.src.length + ((d.comp.getD f []).getD g 0).toNat by omega, sum_S2 (by omega), sum_T2 a1 (by omega), w3, w4]
          exact ⟨by omega, by omega, rfl, rfl⟩
        · have h1 := hc.2 (by omega)
          rw [h1, if_neg (by omega)]
theorem Cat.Good.sum {c d : Cat} {N M : Nat} (h : c.Good N) (h' : d.Good M) : (c.sum d).Good (N + M) := ⟨h.r.sum h'.r, h.s.sum h'.s⟩
def NewGd (eI eS : TypeId) (N : Nat) (n : Int) (H : GHeap) (v : Value) (H' : GHeap) : Prop := ∃ c, (c.Good N ∧ c.obj = n) ∧ NewCatO eI eS H c v H'
def DrawnG (TS : TypeId) (N : Nat) (gS : Nat) (H : GHeap) (v : Value) (H' : GHeap) : Prop := ∃ c p, v = .agg (c.cells p).toArray ∧ c.Good N ∧ CatR H.next H' c p ∧ St [gS] H H' ∧ DSrc TS H' gS
end Go.GL
namespace Go.GL
def rl (T : List (List Int)) (a b : Nat) : Prop := (T.getD a []).getD b 0 = 1
structure RelT (n : Nat) (T : List (List Int)) : Prop where
  rf : ∀ a, a < n → rl T a a
  tr : ∀ a b c, a < n → b < n → c < n → rl T a b → rl T b c → rl T a c
def TrU (n x : Nat) (T : List (List Int)) : Prop := ∀ k, k < x → ∀ i j, i < n → j < n → rl T i k → rl T k j → rl T i j
def Rfl (T : List (List Int)) : Prop := ∀ a, a < T.length → rl T a a
theorem Rfl.nil : Rfl [] := fun a h => by simp at h
theorem Rfl.snoc {T : List (List Int)} {row : List Int} (h : Rfl T) (hr : row.getD T.length 0 = 1) : Rfl (T ++ [row]) := fun a ha => by
  rw [List.length_append, List.length_singleton] at ha
  unfold rl
  rw [getD_snoc]
  by_cases e : a < T.length
  · rw [if_pos e]; exact h a e
  · obtain rfl : a = T.length := by omega
    rw [if_neg e, if_pos rfl]; exact hr
theorem getD_set1 {xs : List Int} {i j : Nat} {v : Int} (h : i < xs.length) : (xs.set i v).getD j 0 = if i = j then v else xs.getD j 0 := by
  rw [List.getD_eq_getElem?_getD, List.getElem?_set]
  by_cases e : i = j
  · subst e; rw [if_pos rfl, if_pos rfl, if_pos h]; rfl
  · rw [if_neg e, if_neg e, ← List.getD_eq_getElem?_getD]
theorem rl_set {T : List (List Int)} {y z a b : Nat} (hy : y < T.length) (hz : z < (T.getD y []).length) : rl (T.set y ((T.getD y []).set z 1)) a b ↔ (a = y ∧ b = z) ∨ rl T a b := by
  unfold rl
  rw [getD_set2 hy]
  by_cases e : y = a
  · subst e
    rw [if_pos rfl, getD_set1 hz]
    by_cases e2 : z = b
    · subst e2; simp
    · rw [if_neg e2]
      exact ⟨.inr, fun h => h.elim (fun x => absurd x.2.symm e2) id⟩
  · rw [if_neg e]
    exact ⟨.inr, fun h => h.elim (fun x => absurd x.1.symm e) id⟩
theorem Rfl.set {T : List (List Int)} {y z : Nat} (h : Rfl T) (hy : y < T.length) (hz : z < (T.getD y []).length) : Rfl (T.set y ((T.getD y []).set z 1)) := fun a ha => (rl_set hy hz).2 (.inr (h a (by rwa [List.length_set] at ha)))
structure War (n x y z : Nat) (T0 T : List (List Int)) : Prop where
  iff : ∀ a b, a < n → b < n → (rl T a b ↔ rl T0 a b ∨ ((a < y ∨ (a = y ∧ b < z)) ∧ rl T0 a x ∧ rl T0 x b))
theorem War.start {n x : Nat} {T : List (List Int)} : War n x 0 0 T T := ⟨fun a b _ _ => ⟨.inl, fun h => h.elim id fun h => by omega⟩⟩
theorem War.col {n x y z a : Nat} {T0 T : List (List Int)} (h : War n x y z T0 T) (ha : a < n) (hx : x < n) : rl T a x ↔ rl T0 a x := (h.iff a x ha hx).trans ⟨fun h => h.elim id fun h => h.2.1, .inl⟩
theorem War.row {n x y z b : Nat} {T0 T : List (List Int)} (h : War n x y z T0 T) (hb : b < n) (hx : x < n) : rl T x b ↔ rl T0 x b := (h.iff x b hx hb).trans ⟨fun h => h.elim id fun h => h.2.2, .inl⟩
theorem War.skip {n x y z : Nat} {T0 T : List (List Int)} (h : War n x y z T0 T) (hx : x < n) (hy : y < n) (hz : z < n) (hn : ¬ (rl T y x ∧ rl T x z)) : War n x y (z + 1) T0 T := ⟨fun a b ha hb => by
  rw [h.col hy hx, h.row hz hx] at hn
  refine (h.iff a b ha hb).trans ⟨fun k => k.imp id fun k => ⟨by omega, k.2⟩, fun k => ?_⟩
  rcases k with k | ⟨k1, k2⟩
  · exact .inl k
  · rcases k1 with k1 | ⟨k1, k3⟩
    · exact .inr ⟨.inl k1, k2⟩
    · by_cases e : b = z
      · subst e; subst k1; exact absurd k2 hn
      · exact .inr ⟨.inr ⟨k1, by omega⟩, k2⟩⟩
theorem War.put {n x y z : Nat} {T0 T : List (List Int)} (h : War n x y z T0 T) (hx : x < n) (hy : y < n) (hz : z < n) (hl : T.length = n) (hr : (T.getD y []).length = n) (h1 : rl T y x) (h2 : rl T x z) : War n x y (z + 1) T0 (T.set y ((T.getD y []).set z 1)) := ⟨fun a b ha hb => by
  rw [h.col hy hx] at h1
  rw [h.row hz hx] at h2
  rw [rl_set (by omega) (by omega), h.iff a b ha hb]
  constructor
  · rintro (⟨rfl, rfl⟩ | k | ⟨k1, k2⟩)
    · exact .inr ⟨.inr ⟨rfl, by omega⟩, h1, h2⟩
    · exact .inl k
    · exact .inr ⟨by omega, k2⟩
  · rintro (k | ⟨k1, k2⟩)
    · exact .inr (.inl k)
    · by_cases e : a = y ∧ b = z
      · exact .inl e
      · exact .inr (.inr ⟨by omega, k2⟩)⟩
theorem War.next {n x y : Nat} {T0 T : List (List Int)} (h : War n x y n T0 T) : War n x (y + 1) 0 T0 T := ⟨fun a b ha hb => (h.iff a b ha hb).trans ⟨fun k => k.imp id fun k => ⟨by omega, k.2⟩, fun k => k.imp id fun k => ⟨by omega, k.2⟩⟩⟩
theorem War.done {n x : Nat} {T0 T : List (List Int)} (h : War n x n 0 T0 T) (hx : x < n) (ht : TrU n x T0) : TrU n (x + 1) T := fun k hk i j hi hj h1 h2 => by
  have E : ∀ a b, a < n → b < n → (rl T a b ↔ rl T0 a b ∨ (rl T0 a x ∧ rl T0 x b)) := fun a b ha hb => (h.iff a b ha hb).trans ⟨fun k => k.imp id fun k => k.2, fun k => k.imp id fun k => ⟨.inl ha, k⟩⟩
  by_cases e : k = x
  · subst e
    rw [h.col hi hx] at h1
    rw [h.row hj hx] at h2
    exact (E i j hi hj).2 (.inr ⟨h1, h2⟩)
  · have hk' : k < x := by omega
    rw [E i k hi (by omega)] at h1
    rw [E k j (by omega) hj] at h2
    rw [E i j hi hj]
    rcases h1 with h1 | ⟨h1, h3⟩
    · rcases h2 with h2 | ⟨h2, h4⟩
      · exact .inl (ht k hk' i j hi hj h1 h2)
      · exact .inr ⟨ht k hk' i x hi hx h1 h2, h4⟩
    · rcases h2 with h2 | ⟨h2, h4⟩
      · exact .inr ⟨h1, ht k hk' x j hx hj h3 h2⟩
      · exact .inr ⟨h1, h4⟩
theorem War.rfl' {n x y z : Nat} {T0 T : List (List Int)} (h : War n x y z T0 T) (hr : Rfl T0) (h0 : T0.length = n) (h1 : T.length = n) : Rfl T := fun a ha => (h.iff a a (by omega) (by omega)).2 (.inl (hr a (by omega)))
theorem RelT.of {n : Nat} {T : List (List Int)} (h : TrU n n T) (hr : Rfl T) (hl : T.length = n) : RelT n T := ⟨fun a ha => hr a (by omega), fun a b c ha hb hc h1 h2 => h b hb a c ha hc h1 h2⟩
theorem RelT.dec {n : Nat} {T : List (List Int)} (h1 : ∀ a, a < n → (T.getD a []).getD a 0 = 1) (h2 : ∀ a, a < n → ∀ b, b < n → ∀ c, c < n → (T.getD a []).getD b 0 = 1 → (T.getD b []).getD c 0 = 1 → (T.getD a []).getD c 0 = 1) : RelT n T := ⟨h1, fun a b c ha hb hc => h2 a ha b hb c hc⟩
theorem RelT.ones {n : Nat} {T : List (List Int)} (h : Tb 1 1 n T) (hl : T.length = n) : RelT n T := by
  have o : ∀ a b, a < n → b < n → rl T a b := fun a b ha hb => by
    have := h.at (i := a) (j := b) (by omega) hb
    unfold rl; omega
  exact ⟨fun a ha => o a a ha ha, fun a b c ha _ hc _ _ => o a c ha hc⟩
def NewRelG (TS : TypeId) (gS n : Nat) (H : GHeap) (v : Value) (H' : GHeap) : Prop := ∃ a T r, v = .slice a T.length T.length ∧ IntssR H.next H' a T r ∧ T.length = n ∧ (∀ i, i < T.length → (T.getD i []).length = T.length) ∧ RelT n T ∧ St [gS] H H' ∧ DSrc TS H' gS
def NewTabG (TS : TypeId) (gS : Nat) (H : GHeap) (v : Value) (H' : GHeap) : Prop := ∃ a T r, v = .slice a T.length T.length ∧ IntssR H.next H' a T r ∧ (1 ≤ T.length ∧ T.length ≤ 4) ∧ Tb 0 ((T.length : Int) - 1) T.length T ∧ St [gS] H H' ∧ DSrc TS H' gS
theorem monoid_shp {T : List (List Int)} (hn : 1 ≤ T.length) (ht : Tb 0 ((T.length : Int) - 1) T.length T) : (Cat.mk 1 (List.replicate T.length 0) (List.replicate T.length 0) [0] T).Shp := by
  have z : ∀ i, (List.replicate T.length (0 : Int)).getD i 0 = 0 := fun i => by
    rw [List.getD_eq_getElem?_getD, List.getElem?_replicate]; split <;> rfl
  refine .mk' (by simp) (.rep _ (by omega) (by omega)) (.rep _ (by omega) (by omega)) rfl (fun x hx => ?_) (by simp) (fun f hf => by rw [(ht f hf).1]; simp) fun f hf g hg => ?_
  · have hx' : x < 1 := hx
    obtain rfl : x = 0 := by omega
    rw [List.length_replicate]
    exact ⟨⟨Int.le_refl 0, by show (0 : Int) < _; omega⟩, z _, z _⟩
  · rw [(ht f hf).1] at hg
    have h := ht.at hf hg
    refine .pos (by rw [z, z]) ⟨h.1, by rw [List.length_replicate]; omega⟩ (by rw [z, z]) (by rw [z, z])
instance (ss ts : List Int) (f g : Nat) (h : Int) : Decidable (CellV ss ts f g h) := by unfold CellV; infer_instance
def PoR (rel : List (List Int)) (ss ts : List Int) (a : Nat) (r : List Int) : Prop := ∀ b, b < r.length → rl rel a b → (0 ≤ r.getD b 0 ∧ r.getD b 0 < ss.length) ∧ ss.getD (r.getD b 0).toNat 0 = a ∧ ts.getD (r.getD b 0).toNat 0 = b
def PoM (rel : List (List Int)) (ss ts : List Int) (num : List (List Int)) : Prop := ∀ a, a < num.length → PoR rel ss ts a (num.getD a [])
def PoS (rel : List (List Int)) (ss ts : List Int) : Prop := ∀ f, f < ss.length → rl rel (ss.getD f 0).toNat (ts.getD f 0).toNat
theorem PoR.nil (rel : List (List Int)) (ss ts : List Int) (a : Nat) : PoR rel ss ts a [] := fun b h => by simp at h
theorem PoR.grow {rel : List (List Int)} {ss ts r : List Int} {a : Nat} {x y : Int} (h : PoR rel ss ts a r) (hl : ts.length = ss.length) : PoR rel (ss ++ [x]) (ts ++ [y]) a r := fun b hb hr => by
  have := h b hb hr
  rw [getD_snoc, getD_snoc, if_pos (by omega), if_pos (by omega), List.length_append, List.length_singleton]
  exact ⟨by omega, this.2⟩
theorem PoM.grow {rel num : List (List Int)} {ss ts : List Int} {x y : Int} (h : PoM rel ss ts num) (hl : ts.length = ss.length) : PoM rel (ss ++ [x]) (ts ++ [y]) num := fun a ha => (h a ha).grow hl
theorem PoM.nil (rel : List (List Int)) (ss ts : List Int) : PoM rel ss ts [] := fun a h => by simp at h
theorem PoM.snoc {rel num : List (List Int)} {ss ts r : List Int} (h : PoM rel ss ts num) (hr : PoR rel ss ts num.length r) : PoM rel ss ts (num ++ [r]) := fun a ha => by
  rw [List.length_append, List.length_singleton] at ha
  rw [getD_snoc]
  by_cases e : a < num.length
  · rw [if_pos e]; exact h a e
  · obtain rfl : a = num.length := by omega
    rw [if_neg e, if_pos rfl]; exact hr
theorem PoR.snocF {rel : List (List Int)} {ss ts r : List Int} {a : Nat} {x : Int} (h : PoR rel ss ts a r) (hn : ¬ rl rel a r.length) : PoR rel ss ts a (r ++ [x]) := fun b hb hr => by
  rw [List.length_append, List.length_singleton] at hb
  by_cases e : b < r.length
  · rw [getD_snoc, if_pos e]; exact h b e hr
  · obtain rfl : b = r.length := by omega
    exact absurd hr hn
theorem PoR.snocT {rel : List (List Int)} {ss ts r : List Int} {a j : Nat} (h : PoR rel ss ts a r) (hl : ts.length = ss.length) (hj : r.length = j) : PoR rel (ss ++ [(a : Int)]) (ts ++ [(j : Int)]) a (r ++ [(ss.length : Int)]) := fun b hb hr => by
  rw [List.length_append, List.length_singleton] at hb
  by_cases e : b < r.length
  · have := (h.grow (x := (a : Int)) (y := (j : Int)) hl) b e hr
    rw [getD_snoc, if_pos e]; exact this
  · obtain rfl : b = r.length := by omega
    have e1 : (r ++ [(ss.length : Int)]).getD r.length 0 = ss.length := by rw [getD_snoc, if_neg (by omega), if_pos rfl]
    rw [e1, Int.toNat_natCast, getD_snoc, getD_snoc, if_neg (by omega), if_pos rfl, hl, if_neg (by omega), if_pos rfl, List.length_append, List.length_singleton]
    exact ⟨by omega, rfl, by omega⟩
theorem PoS.nil (rel : List (List Int)) : PoS rel [] [] := fun f h => by simp at h
theorem PoS.snoc {rel : List (List Int)} {ss ts : List Int} {a j : Nat} (h : PoS rel ss ts) (hl : ts.length = ss.length) (hr : rl rel a j) : PoS rel (ss ++ [(a : Int)]) (ts ++ [(j : Int)]) := fun f hf => by
  rw [List.length_append, List.length_singleton] at hf
  rw [getD_snoc, getD_snoc]
  by_cases e : f < ss.length
  · rw [if_pos e, if_pos (by omega)]; exact h f e
  · obtain rfl : f = ss.length := by omega
    rw [if_neg e, if_pos rfl, if_neg (by omega), if_pos (by omega), Int.toNat_natCast, Int.toNat_natCast]; exact hr
theorem po_cell {n : Nat} {rel num : List (List Int)} {ss ts : List Int} {f g : Nat} (hR : RelT n rel) (hM : PoM rel ss ts num) (hS : PoS rel ss ts) (hn : num.length = n) (hr : ∀ i, i < num.length → (num.getD i []).length = n) (bs : Bd 0 ((n : Int) - 1) ss) (bt : Bd 0 ((n : Int) - 1) ts) (hl : ts.length = ss.length) (hf : f < ss.length) (hg : g < ss.length) (e : ts.getD f 0 = ss.getD g 0) :
    CellV ss ts f g ((num.getD (ss.getD f 0).toNat []).getD (ts.getD g 0).toNat 0) := by
  have s1 := bs f hf
  have s2 := bs g hg
  have t1 := bt f (by omega)
  have t2 := bt g (by omega)
  have r1 := hS f hf
  have r2 := hS g hg
  rw [e] at r1
  have r3 := hR.tr _ _ _ (by omega) (by omega) (by omega) r1 r2
  have h1 := hM (ss.getD f 0).toNat (by omega) (ts.getD g 0).toNat (by rw [hr _ (by omega)]; omega) r3
  exact .pos e h1.1 (by rw [h1.2.1]; omega) (by rw [h1.2.2]; omega)
theorem po_id {n x : Nat} {rel num : List (List Int)} {ss ts is : List Int} (hR : RelT n rel) (hM : PoM rel ss ts num) (hn : num.length = n) (hr : ∀ i, i < num.length → (num.getD i []).length = n) (hi : IdsL ss ts is) (hx : is.length = x) (hxn : x < n) : IdsL ss ts (is ++ [(num.getD x []).getD x 0]) := by
  have h1 := hM x (by omega) x (by rw [hr _ (by omega)]; omega) (hR.rf x hxn)
  exact hi.snoc h1.1 (by rw [h1.2.1]; omega) (by rw [h1.2.2]; omega)
def AtP (m : Nat) (v : Nat → Nat → Int) (l : List Int) : Prop := ∀ i j, j < m → i * m + j < l.length → l.getD (i * m + j) 0 = v i j
theorem AtP.nil (m : Nat) (v : Nat → Nat → Int) : AtP m v [] := fun i j _ h => by simp at h
theorem idx_inj {m i j a b : Nat} (hj : j < m) (hb : b < m) (e : i * m + j = a * m + b) : i = a ∧ j = b := by
  have h1 := congrArg (· / m) e
  have h2 := congrArg (· % m) e
  simp only [Nat.mul_add_mod_self_right, Nat.mod_eq_of_lt hj, Nat.mod_eq_of_lt hb] at h2
  have hm : 0 < m := by omega
  rw [Nat.mul_comm i, Nat.mul_comm a] at h1
  simp only [Nat.mul_add_div hm, Nat.div_eq_of_lt hj, Nat.div_eq_of_lt hb] at h1
  exact ⟨by omega, h2⟩
theorem AtP.snoc {m : Nat} {v : Nat → Nat → Int} {l : List Int} {a b : Nat} {x : Int} (h : AtP m v l) (hb : b < m) (hl : l.length = a * m + b) (hx : x = v a b) : AtP m v (l ++ [x]) := fun i j hj hi => by
  rw [List.length_append, List.length_singleton] at hi
  rw [getD_snoc]
  by_cases e : i * m + j < l.length
  · rw [if_pos e]; exact h i j hj e
  · have e2 : i * m + j = a * m + b := by omega
    obtain ⟨rfl, rfl⟩ := idx_inj hj hb e2
    rw [if_neg e, if_pos (by omega)]; exact hx
def AtT (m : Nat) (P : Nat → Nat → List Int → Prop) (l : List (List Int)) : Prop := ∀ i j, j < m → i * m + j < l.length → P i j (l.getD (i * m + j) [])
theorem AtT.nil (m : Nat) (P : Nat → Nat → List Int → Prop) : AtT m P [] := fun i j _ h => by simp at h
theorem AtT.snoc {m : Nat} {P : Nat → Nat → List Int → Prop} {l : List (List Int)} {a b : Nat} {x : List Int} (h : AtT m P l) (hb : b < m) (hl : l.length = a * m + b) (hx : P a b x) : AtT m P (l ++ [x]) := fun i j hj hi => by
  rw [List.length_append, List.length_singleton] at hi
  rw [getD_snoc]
  by_cases e : i * m + j < l.length
  · rw [if_pos e]; exact h i j hj e
  · have e2 : i * m + j = a * m + b := by omega
    obtain ⟨rfl, rfl⟩ := idx_inj hj hb e2
    rw [if_neg e, if_pos (by omega)]; exact hx
theorem idx_of {m k n : Nat} (h : k < n * m) : ∃ i j, i < n ∧ j < m ∧ k = i * m + j := by
  have hm : 0 < m := Nat.pos_of_ne_zero fun e => by subst e; omega
  exact ⟨k / m, k % m, (Nat.div_lt_iff_lt_mul hm).2 h, Nat.mod_lt _ hm, by rw [Nat.mul_comm]; exact (Nat.div_add_mod k m).symm⟩
theorem idx_lt {m i j n : Nat} (hi : i < n) (hj : j < m) : i * m + j < n * m := by
  have : (i + 1) * m ≤ n * m := Nat.mul_le_mul_right m hi
  rw [Nat.succ_mul] at this
  omega
theorem pair_inj {n x y a b : Int} (hy : 0 ≤ y ∧ y < n) (hb : 0 ≤ b ∧ b < n) (e : x * n + y = a * n + b) : x = a ∧ y = b := by
  have h2 := congrArg (· % n) e
  simp only [Int.add_comm (_ * n), Int.add_mul_emod_self_right, Int.emod_eq_of_lt hy.1 hy.2, Int.emod_eq_of_lt hb.1 hb.2] at h2
  refine ⟨?_, h2⟩
  have h3 : (x - a) * n = 0 := by rw [Int.sub_mul]; omega
  rcases Int.mul_eq_zero.1 h3 with h | h <;> omega
theorem lenI {l x : Nat} {o : Int} {y : Nat} (h0 : 0 ≤ o) (h : (l : Int) = (x : Int) * o + y) : l = x * o.toNat + y := by
  have : ((x * o.toNat : Nat) : Int) = x * o := by rw [Int.natCast_mul, Int.toNat_of_nonneg h0]
  omega
def prV (n : Int) (xs ys : List Int) (i j : Nat) : Int := xs.getD i 0 * n + ys.getD j 0
def prC (c d : Cat) (a b f g : Nat) : Int := if 0 ≤ (c.comp.getD a []).getD f 0 ∧ 0 ≤ (d.comp.getD b []).getD g 0 then (c.comp.getD a []).getD f 0 * (d.src.length : Int) + (d.comp.getD b []).getD g 0 else -1
theorem pr_lt {n m x y : Int} (hx : 0 ≤ x ∧ x < m) (hy : 0 ≤ y ∧ y < n) : 0 ≤ x * n + y ∧ x * n + y < m * n := by
  have h1 : 0 ≤ x * n := Int.mul_nonneg hx.1 (by omega)
  have h2 : (x + 1) * n ≤ m * n := Int.mul_le_mul_of_nonneg_right (by omega) (by omega)
  rw [Int.add_mul] at h2
  omega
theorem pr_shp {c d : Cat} (hc : c.Shp) (hd : d.Shp) (ho : 0 ≤ c.obj) (ho' : 0 ≤ d.obj) {ss ts is : List Int} {cs : List (List Int)} (l1 : ss.length = c.src.length * d.src.length) (l2 : ts.length = ss.length) (l3 : (is.length : Int) = c.obj * d.obj) (l4 : cs.length = ss.length) (l5 : ∀ f, f < cs.length → (cs.getD f []).length = ss.length)
    (a1 : AtP d.src.length (prV d.obj c.src d.src) ss) (a2 : AtP d.src.length (prV d.obj c.tgt d.tgt) ts) (a3 : AtP d.obj.toNat (prV d.src.length c.idn d.idn) is) (a4 : AtT d.src.length (fun a b row => AtP d.src.length (prC c d a b) row) cs) : (Cat.mk (c.obj * d.obj) ss ts is cs).Shp := by
  obtain ⟨c1, c2, c3, c4, c5, c6, c7, c8⟩ := hc
  obtain ⟨d1, d2, d3, d4, d5, d6, d7, d8⟩ := hd
  have S : ∀ a b, a < c.src.length → b < d.src.length → ss.getD (a * d.src.length + b) 0 = c.src.getD a 0 * d.obj + d.src.getD b 0 := fun a b ha hb => a1 a b hb (by rw [l1]; exact idx_lt ha hb)
  have T : ∀ a b, a < c.src.length → b < d.src.length → ts.getD (a * d.src.length + b) 0 = c.tgt.getD a 0 * d.obj + d.tgt.getD b 0 := fun a b ha hb => a2 a b hb (by rw [l2, l1]; exact idx_lt ha hb)
  refine .mk' l2 (fun k hk => ?_) (fun k hk => ?_) l3 (fun x hx => ?_) l4 l5 fun k hk => ?_
  · obtain ⟨a, b, ha, hb, rfl⟩ := idx_of (k := k) (n := c.src.length) (m := d.src.length) (by omega)
    have x1 := c2 a ha
    have x2 := d2 b hb
    have := pr_lt (n := d.obj) (m := c.obj) (x := c.src.getD a 0) (y := d.src.getD b 0) (by omega) (by omega)
    rw [S a b ha hb]
    omega
  · obtain ⟨a, b, ha, hb, rfl⟩ := idx_of (k := k) (n := c.src.length) (m := d.src.length) (by omega)
    have x1 := c3 a (by omega)
    have x2 := d3 b (by omega)
    have := pr_lt (n := d.obj) (m := c.obj) (x := c.tgt.getD a 0) (y := d.tgt.getD b 0) (by omega) (by omega)
    rw [T a b ha hb]
    omega
  · have hx' : x < c.obj.toNat * d.obj.toNat := by
      have : ((c.obj.toNat * d.obj.toNat : Nat) : Int) = c.obj * d.obj := by rw [Int.natCast_mul, Int.toNat_of_nonneg ho, Int.toNat_of_nonneg ho']
      omega
    obtain ⟨a, b, ha, hb, rfl⟩ := idx_of hx'
    have h1 := c5 a (by omega)
    have h2 := d5 b (by omega)
    have e := a3 a b hb hx
    unfold prV at e
    have hn : (c.idn.getD a 0 * (d.src.length : Int) + d.idn.getD b 0).toNat = (c.idn.getD a 0).toNat * d.src.length + (d.idn.getD b 0).toNat := by
      have : (((c.idn.getD a 0).toNat * d.src.length + (d.idn.getD b 0).toNat : Nat) : Int) = c.idn.getD a 0 * (d.src.length : Int) + d.idn.getD b 0 := by rw [Int.natCast_add, Int.natCast_mul, Int.toNat_of_nonneg h1.1.1, Int.toNat_of_nonneg h2.1.1]
      omega
    have hlt := pr_lt (n := (d.src.length : Int)) (m := (c.src.length : Int)) h1.1 h2.1
    have hl : (ss.length : Int) = (c.src.length : Int) * (d.src.length : Int) := by rw [l1, Int.natCast_mul]
    rw [e, hn, S _ _ (by omega) (by omega), T _ _ (by omega) (by omega), h1.2.1, h1.2.2, h2.2.1, h2.2.2, Int.natCast_add, Int.natCast_mul, Int.toNat_of_nonneg ho']
    exact ⟨by omega, rfl, rfl⟩
  · obtain ⟨a, b, ha, hb, rfl⟩ := idx_of (k := k) (n := c.src.length) (m := d.src.length) (by omega)
    intro k2 hk2
    rw [l5 _ hk] at hk2
    obtain ⟨f, g, hf, hg, rfl⟩ := idx_of (k := k2) (n := c.src.length) (m := d.src.length) (by omega)
    rw [a4 a b hb hk f g hg (by rw [l5 _ hk]; exact hk2)]
    have v1 := c8 a ha f hf
    have v2 := d8 b hb g hg
    unfold prC
    have x1 := d3 b (by omega)
    have x2 := d2 g hg
    have inj : (ts.getD (a * d.src.length + b) 0 = ss.getD (f * d.src.length + g) 0) ↔ (c.tgt.getD a 0 = c.src.getD f 0 ∧ d.tgt.getD b 0 = d.src.getD g 0) := by
      rw [T a b ha hb, S f g hf hg]
      refine ⟨fun e => pair_inj (by omega) (by omega) e, fun e => by rw [e.1, e.2]⟩
    refine ⟨fun e => ?_, fun e => ?_⟩
    · obtain ⟨e1, e2⟩ := inj.1 e
      have w1 := v1.1 e1
      have w2 := v2.1 e2
      generalize (c.comp.getD a []).getD f 0 = p at *
      generalize (d.comp.getD b []).getD g 0 = q at *
      rw [if_pos ⟨w1.1, w2.1⟩]
      have hn : (p * (d.src.length : Int) + q).toNat = p.toNat * d.src.length + q.toNat := by
        have : ((p.toNat * d.src.length + q.toNat : Nat) : Int) = p * (d.src.length : Int) + q := by rw [Int.natCast_add, Int.natCast_mul, Int.toNat_of_nonneg w1.1, Int.toNat_of_nonneg w2.1]
        omega
      have hlt := pr_lt (n := (d.src.length : Int)) (m := (c.src.length : Int)) ⟨w1.1, w1.2.1⟩ ⟨w2.1, w2.2.1⟩
      have hl : (ss.length : Int) = (c.src.length : Int) * (d.src.length : Int) := by rw [l1, Int.natCast_mul]
      rw [hn, S _ _ (by omega) (by omega), T _ _ (by omega) (by omega), S a b ha hb, T f g hf hg, w1.2.2.1, w1.2.2.2, w2.2.2.1, w2.2.2.2]
      exact ⟨by omega, by omega, rfl, rfl⟩
    · rw [if_neg fun hh => e (inj.2 ⟨Classical.byContradiction fun n => by have := v1.2 n; omega, Classical.byContradiction fun n => by have := v2.2 n; omega⟩)]
def RowP (P : Nat → Int → Prop) (row : List Int) : Prop := ∀ g, g < row.length → P g (row.getD g 0)
theorem RowP.nil (P : Nat → Int → Prop) : RowP P [] := fun g h => by simp at h
theorem RowP.snoc {P : Nat → Int → Prop} {row : List Int} {x : Int} (h : RowP P row) (hx : P row.length x) : RowP P (row ++ [x]) := fun g hg => by
  rw [List.length_append, List.length_singleton] at hg
  rw [getD_snoc]
  by_cases e : g < row.length
  · rw [if_pos e]; exact h g e
  · obtain rfl : g = row.length := by omega
    rw [if_neg e, if_pos rfl]; exact hx
def TabP (P : Nat → Nat → Int → Prop) (cs : List (List Int)) : Prop := ∀ f, f < cs.length → RowP (P f) (cs.getD f [])
theorem TabP.nil (P : Nat → Nat → Int → Prop) : TabP P [] := fun f h => by simp at h
theorem TabP.snoc {P : Nat → Nat → Int → Prop} {row : List Int} {cs : List (List Int)} (h : TabP P cs) (hx : RowP (P cs.length) row) : TabP P (cs ++ [row]) := fun f hf => by
  rw [List.length_append, List.length_singleton] at hf
  rw [getD_snoc]
  by_cases e : f < cs.length
  · rw [if_pos e]; exact h f e
  · obtain rfl : f = cs.length := by omega
    rw [if_neg e, if_pos rfl]; exact hx
def JnV (E : Cat) (ss ts : List Int) (f g : Nat) (h : Int) : Prop := (¬ ts.getD f 0 = ss.getD g 0 → h = -1) ∧ (ts.getD f 0 = ss.getD g 0 → h = if f < E.src.length ∧ g < E.src.length then (E.comp.getD f []).getD g 0 else (E.src.length : Int) + ss.getD f 0 + ts.getD g 0 - 1)
theorem join_shp {c d : Cat} (hc : c.Shp) (hd : d.Shp) (ho : c.obj = 1) (ho' : d.obj = 1) {cs : List (List Int)} (l4 : cs.length = (c.sum d).src.length + 1) (l5 : ∀ f, f < cs.length → (cs.getD f []).length = (c.sum d).src.length + 1)
    (hv : TabP (JnV (c.sum d) ((c.sum d).src ++ [0]) ((c.sum d).tgt ++ [1])) cs) :
    (Cat.mk 2 ((c.sum d).src ++ [0]) ((c.sum d).tgt ++ [1]) (c.sum d).idn cs).Shp := by
  have hE := hc.sum hd
  have hob : (c.sum d).obj = 2 := by show c.obj + d.obj = 2; omega
  have side : ∀ f, f < (c.sum d).src.length → ((c.sum d).src.getD f 0 = (c.sum d).tgt.getD f 0) := by
    rw [sum_len]
    refine parts2 (fun i hi => ?_) fun i hi => ?_
    · rw [sum_S1 hi, sum_T1 (by have := hc.tl; omega)]
      have h1 := hc.src i hi
      have h2 := hc.tgt i (by have := hc.tl; omega)
      omega
    · rw [sum_S2 hi, sum_T2 hc.tl (by have := hd.tl; omega)]
      have h1 := hd.src i hi
      have h2 := hd.tgt i (by have := hd.tl; omega)
      omega
  generalize c.sum d = E at *
  obtain ⟨e1, e2, e3, e4, e5, e6, e7, e8⟩ := hE
  rw [hob] at e2 e3 e4
  have SS : ∀ f, f < E.src.length → (E.src ++ [0]).getD f 0 = E.src.getD f 0 := fun f hf => getD_append_l hf
  have TT : ∀ f, f < E.src.length → (E.tgt ++ [1]).getD f 0 = E.tgt.getD f 0 := fun f hf => getD_append_l (by omega)
  have S1 : (E.src ++ [0]).getD E.src.length 0 = 0 := by rw [getD_snoc, if_neg (by omega), if_pos rfl]
  have T1 : (E.tgt ++ [1]).getD E.src.length 0 = 1 := by rw [getD_snoc, if_neg (by omega), if_pos (by omega)]
  have L : (E.src ++ [0]).length = E.src.length + 1 := by simp
  refine .mk' (by simp; omega) (Bd.snoc e2 (by omega) (by omega)) (Bd.snoc e3 (by omega) (by omega)) e4 (fun x hx => ?_) (by rw [L]; exact l4) (by rw [L]; exact l5) fun f hf g hg => ?_
  · have h := e5 x hx
    rw [SS _ (by omega), TT _ (by omega), L]
    exact ⟨by omega, h.2⟩
  · rw [l5 f hf] at hg
    have h := hv f hf g (by rw [l5 f hf]; exact hg)
    refine ⟨fun e => ?_, h.1⟩
    rw [h.2 e]
    by_cases hi : f < E.src.length ∧ g < E.src.length
    · rw [if_pos hi]
      rw [TT f hi.1, SS g hi.2] at e
      have w := (e8 f hi.1 g hi.2).1 e
      rw [L, SS _ (by omega), TT _ (by omega), SS f hi.1, TT g hi.2]
      exact ⟨w.1, by omega, w.2.2⟩
    · rw [if_neg hi]
      have key : (E.src ++ [0]).getD f 0 = 0 ∧ (E.tgt ++ [1]).getD g 0 = 1 := by
        by_cases hf' : f < E.src.length
        · obtain rfl : g = E.src.length := by omega
          rw [S1, TT f hf'] at e
          have := side f hf'
          rw [SS f hf', T1]
          omega
        · obtain rfl : f = E.src.length := by omega
          by_cases hg' : g < E.src.length
          · rw [T1, SS g hg'] at e
            have := side g hg'
            rw [S1, TT g hg']
            omega
          · obtain rfl : g = E.src.length := by omega
            rw [T1, S1] at e
            omega
      rw [key.1, key.2, show ((E.src.length : Int) + 0 + 1 - 1).toNat = E.src.length by omega, S1, T1, L]
      exact ⟨by omega, by omega, rfl, rfl⟩
end Go.GL
namespace Go.GL
def Chn (xs ys : List Int) : Int → List Int → Int → Prop
  | f, [], t => t = f
  | f, e :: r, t => (0 ≤ e ∧ e < xs.length) ∧ xs.getD e.toNat 0 = f ∧ Chn xs ys (ys.getD e.toNat 0) r t
theorem Chn.uniq {xs ys : List Int} : ∀ {l : List Int} {f t u : Int}, Chn xs ys f l t → Chn xs ys f l u → t = u
  | [], _, _, _, h, k => h.trans k.symm
  | _ :: _, _, _, _, h, k => Chn.uniq h.2.2 k.2.2
theorem Chn.app {xs ys : List Int} : ∀ {l m : List Int} {f t u : Int}, Chn xs ys f l t → Chn xs ys t m u → Chn xs ys f (l ++ m) u
  | [], _, _, _, _, h, k => by cases h; exact k
  | _ :: _, _, _, _, _, h, k => ⟨h.1, h.2.1, Chn.app h.2.2 k⟩
theorem Chn.snoc {xs ys l : List Int} {f t : Int} {e : Nat} (h : Chn xs ys f l t) (he : e < xs.length) (hx : xs.getD e 0 = t) : Chn xs ys f (l ++ [(e : Int)]) (ys.getD e 0) := h.app ⟨⟨by omega, by omega⟩, by rw [Int.toNat_natCast]; exact hx, by rw [Int.toNat_natCast]; rfl⟩
def PHas (ps : List Pth) (f : Int) (e : List Int) : Prop := ∃ q ∈ ps, q.f = f ∧ q.e = e
theorem PHas.app {ps : List Pth} {q : Pth} {f : Int} {e : List Int} (h : PHas ps f e) : PHas (ps ++ [q]) f e := by
  obtain ⟨p, h1, h2⟩ := h
  exact ⟨p, by simp [h1], h2⟩
def PChn (xs ys : List Int) (ps : List Pth) : Prop := ∀ p ∈ ps, Chn xs ys p.f p.e p.t
theorem PChn.nil (xs ys : List Int) : PChn xs ys [] := fun p h => by simp at h
theorem PChn.snoc {xs ys : List Int} {ps : List Pth} {q : Pth} (h : PChn xs ys ps) (hq : Chn xs ys q.f q.e q.t) : PChn xs ys (ps ++ [q]) := fun p hp => by
  rcases List.mem_append.1 hp with hp | hp
  · exact h p hp
  · obtain rfl := List.mem_singleton.1 hp; exact hq
def PIds (n : Nat) (ps : List Pth) : Prop := ∀ x : Nat, x < n → PHas ps x []
theorem PIds.nil : PIds 0 [] := fun x h => by omega
theorem PIds.app {n : Nat} {ps : List Pth} {q : Pth} (h : PIds n ps) : PIds n (ps ++ [q]) := fun x hx => (h x hx).app
theorem PIds.snoc {n g : Nat} {t : Int} {ps : List Pth} (h : PIds n ps) : PIds (n + 1) (ps ++ [⟨(n : Int), t, [], g⟩]) := fun x hx => by
  by_cases e : x < n
  · exact (h x e).app
  · obtain rfl : x = n := by omega
    exact ⟨⟨(x : Int), t, [], g⟩, by simp, rfl, rfl⟩
def PGo (xs : List Int) (p : Pth) (j : Nat) (ps : List Pth) : Prop := ∀ e, e < j → xs.getD e 0 = p.t → PHas ps p.f (p.e ++ [(e : Int)])
theorem PGo.zero (xs : List Int) (p : Pth) (ps : List Pth) : PGo xs p 0 ps := fun e h => by omega
theorem PGo.app {xs : List Int} {p q : Pth} {j : Nat} {ps : List Pth} (h : PGo xs p j ps) : PGo xs p j (ps ++ [q]) := fun e he hx => (h e he hx).app
theorem PGo.skip {xs : List Int} {p : Pth} {j : Nat} {ps : List Pth} (h : PGo xs p j ps) (hn : ¬ xs.getD j 0 = p.t) : PGo xs p (j + 1) ps := fun e he hx => by
  by_cases e' : e < j
  · exact h e e' hx
  · obtain rfl : e = j := by omega
    exact absurd hx hn
theorem PGo.put {xs : List Int} {p q : Pth} {j : Nat} {ps : List Pth} (h : PGo xs p j ps) (h1 : q.f = p.f) (h2 : q.e = p.e ++ [(j : Int)]) : PGo xs p (j + 1) (ps ++ [q]) := fun e he hx => by
  by_cases e' : e < j
  · exact (h e e' hx).app
  · obtain rfl : e = j := by omega
    exact ⟨q, by simp, h1, h2⟩
def PExt (xs : List Int) (k : Nat) (ps : List Pth) : Prop := ∀ i, i < k → PGo xs (ps.getD i pz) xs.length ps
theorem PExt.zero (xs : List Int) (ps : List Pth) : PExt xs 0 ps := fun i h => by omega
theorem PExt.app {xs : List Int} {k : Nat} {ps : List Pth} {q : Pth} (h : PExt xs k ps) (hk : k ≤ ps.length) : PExt xs k (ps ++ [q]) := fun i hi => by
  rw [getD_snoc, if_pos (by omega)]
  exact (h i hi).app
theorem PExt.next {xs : List Int} {k : Nat} {ps : List Pth} {p : Pth} (h : PExt xs k ps) (hp : ps.getD k pz = p) (hg : PGo xs p xs.length ps) : PExt xs (k + 1) ps := fun i hi => by
  by_cases e : i < k
  · exact h i e
  · obtain rfl : i = k := by omega
    rw [hp]; exact hg
structure PathS (xs ys : List Int) (n : Nat) (ps : List Pth) : Prop where
  chn : PChn xs ys ps
  ids : PIds n ps
  cat : ∀ p ∈ ps, ∀ q ∈ ps, p.t = q.f → PHas ps p.f (p.e ++ q.e)
theorem getD_of_mem {α : Type} {xs : List α} {x d : α} (h : x ∈ xs) : ∃ i, i < xs.length ∧ xs.getD i d = x := by
  obtain ⟨i, h1, h2⟩ := List.getElem_of_mem h
  exact ⟨i, h1, by rw [List.getD_eq_getElem?_getD, List.getElem?_eq_getElem h1]; exact h2⟩
theorem PathS.of {xs ys : List Int} {n : Nat} {ps : List Pth} (h1 : PChn xs ys ps) (h2 : PIds n ps) (h3 : PExt xs ps.length ps) : PathS xs ys n ps := by
  refine ⟨h1, h2, fun p hp q hq e => ?_⟩
  have go : ∀ (l : List Int) (p : Pth) (t : Int), p ∈ ps → Chn xs ys p.t l t → PHas ps p.f (p.e ++ l) := by
    intro l
    induction l with
    | nil => exact fun p t hp _ => ⟨p, hp, rfl, by simp⟩
    | cons a r ih =>
      intro p t hp hc
      obtain ⟨⟨a0, a1⟩, a2, a3⟩ := hc
      obtain ⟨k, rfl⟩ : ∃ k : Nat, a = k := ⟨a.toNat, by omega⟩
      rw [Int.toNat_natCast] at a2 a3
      obtain ⟨i, hi, rfl⟩ := getD_of_mem (d := pz) hp
      obtain ⟨q, q1, q2, q3⟩ := h3 i hi k (by omega) a2
      have hq := h1 q q1
      rw [q2, q3] at hq
      have ht : q.t = ys.getD k 0 := hq.uniq ((h1 _ hp).snoc (by omega) a2)
      obtain ⟨z, z1, z2, z3⟩ := ih q t q1 (by rw [ht]; exact a3)
      exact ⟨z, z1, by rw [z2, q2], by rw [z3, q3]; simp⟩
  have hc := h1 q hq
  rw [← e] at hc
  exact go q.e p q.t hp hc
theorem PathS.mem {xs ys : List Int} {n : Nat} {ps qs : List Pth} (h : PathS xs ys n ps) (he : ∀ p, p ∈ qs ↔ p ∈ ps) : PathS xs ys n qs := by
  have up : ∀ {f e}, PHas ps f e → PHas qs f e := fun ⟨q, q1, q2⟩ => ⟨q, (he q).2 q1, q2⟩
  exact ⟨fun p hp => h.chn p ((he p).1 hp), fun x hx => up (h.ids x hx), fun p hp q hq e => up (h.cat p ((he p).1 hp) q ((he q).1 hq) e)⟩
theorem mem_swap {qs : List Pth} {w : Nat} (h : w + 1 < qs.length) (p : Pth) : p ∈ (qs.set (w + 1) (qs.getD w pz)).set w (qs.getD (w + 1) pz) ↔ p ∈ qs := by
  have g : ∀ j, j < qs.length → ((qs.set (w + 1) (qs.getD w pz)).set w (qs.getD (w + 1) pz)).getD j pz = if j = w then qs.getD (w + 1) pz else if j = w + 1 then qs.getD w pz else qs.getD j pz := fun j hj => by
    rw [List.getD_eq_getElem?_getD, List.getElem?_set, List.getElem?_set]
    by_cases e : w = j
    · subst e; rw [if_pos rfl, if_pos rfl, if_pos (by rw [List.length_set]; omega)]; rfl
    · rw [if_neg e, if_neg (Ne.symm e)]
      by_cases e2 : w + 1 = j
      · subst e2; rw [if_pos rfl, if_pos rfl, if_pos h]; rfl
      · rw [if_neg e2, if_neg (Ne.symm e2), ← List.getD_eq_getElem?_getD]
  constructor
  · intro hp
    obtain ⟨j, hj, rfl⟩ := getD_of_mem (d := pz) hp
    simp only [List.length_set] at hj
    rw [g j hj]
    split
    · exact getD_mem_list h
    · split
      · exact getD_mem_list (by omega)
      · exact getD_mem_list hj
  · intro hp
    obtain ⟨j, hj, rfl⟩ := getD_of_mem (d := pz) hp
    have back : ∀ i, i < qs.length → ((qs.set (w + 1) (qs.getD w pz)).set w (qs.getD (w + 1) pz)).getD i pz ∈ (qs.set (w + 1) (qs.getD w pz)).set w (qs.getD (w + 1) pz) := fun i hi => getD_mem_list (by simp only [List.length_set]; exact hi)
    by_cases e : j = w
    · subst e
      have := back (j + 1) h
      rwa [g _ h, if_neg (by omega), if_pos rfl] at this
    · by_cases e2 : j = w + 1
      · subst e2
        have := back w (by omega)
        rwa [g _ (by omega), if_pos rfl] at this
      · have := back j hj
        rwa [g _ hj, if_neg e, if_neg e2] at this
def NewPathsG (eI eP : TypeId) (N : Int) (xs ys : List Int) (n : Nat) (H : GHeap) (v : Value) (H' : GHeap) : Prop := H.Le H' ∧ ∃ g ps, v = .slice (some ⟨g, 0, none⟩) ps.length ps.length ∧ H.next ≤ g ∧ H'.get g = some (.row (pcells ps) eP true) ∧ PthOk H.next eI N H' ps ∧ ps.length ≤ 18 ∧ PathS xs ys n ps
def PIdx (ps : List Pth) (i : Nat) (is : List Int) : Prop := ∀ x j : Nat, x < is.length → j < i → (ps.getD j pz).f = x → (ps.getD j pz).e = [] → (0 ≤ is.getD x 0 ∧ is.getD x 0 < i) ∧ (ps.getD (is.getD x 0).toNat pz).f = x ∧ (ps.getD (is.getD x 0).toNat pz).e = []
theorem PIdx.zero (ps : List Pth) (is : List Int) : PIdx ps 0 is := fun x j _ h => by omega
theorem PIdx.skip {ps : List Pth} {i : Nat} {is : List Int} (h : PIdx ps i is) (hn : ¬ (ps.getD i pz).e = []) : PIdx ps (i + 1) is := fun x j hx hj h1 h2 => by
  by_cases e : j < i
  · have := h x j hx e h1 h2; exact ⟨by omega, this.2⟩
  · obtain rfl : j = i := by omega
    exact absurd h2 hn
theorem PIdx.put {ps : List Pth} {i : Nat} {is : List Int} (h : PIdx ps i is) (he : (ps.getD i pz).e = []) (h0 : 0 ≤ (ps.getD i pz).f) : PIdx ps (i + 1) (is.set (ps.getD i pz).f.toNat (i : Int)) := fun x j hx hj h1 h2 => by
  rw [List.length_set] at hx
  by_cases e : (ps.getD i pz).f.toNat = x
  · have hg : (is.set (ps.getD i pz).f.toNat (i : Int)).getD x 0 = i := by rw [getD_set1 (by omega), if_pos e]
    rw [hg, Int.toNat_natCast]
    exact ⟨by omega, by omega, he⟩
  · have hg : (is.set (ps.getD i pz).f.toNat (i : Int)).getD x 0 = is.getD x 0 := by
      rw [List.getD_eq_getElem?_getD, List.getElem?_set_ne e, ← List.getD_eq_getElem?_getD]
    rw [hg]
    by_cases e' : j < i
    · have := h x j hx e' h1 h2; exact ⟨by omega, this.2⟩
    · obtain rfl : j = i := by omega
      omega
def PEnd (ps : List Pth) (g : Pth → Int) (l : List Int) : Prop := ∀ i, i < l.length → l.getD i 0 = g (ps.getD i pz)
theorem PEnd.nil (ps : List Pth) (g : Pth → Int) : PEnd ps g [] := fun i h => by simp at h
theorem PEnd.snoc {ps : List Pth} {g : Pth → Int} {l : List Int} {i : Nat} (h : PEnd ps g l) (hl : l.length = i) : PEnd ps g (l ++ [g (ps.getD i pz)]) := fun j hj => by
  rw [List.length_append, List.length_singleton] at hj
  rw [getD_snoc]
  by_cases e : j < l.length
  · rw [if_pos e]; exact h j e
  · rw [if_neg e, if_pos (by omega)]; congr 2; omega
theorem path_ids {xs ys ss ts is : List Int} {n : Nat} {ps : List Pth} (h : PathS xs ys n ps) (hs : PEnd ps Pth.f ss) (ht : PEnd ps Pth.t ts) (l1 : ss.length = ps.length) (l2 : ts.length = ps.length) (l3 : is.length = n) (hi : PIdx ps ps.length is) : IdsL ss ts is := fun x hx => by
  obtain ⟨q, q1, q2, q3⟩ := h.ids x (by omega)
  obtain ⟨j, hj, rfl⟩ := getD_of_mem (d := pz) q1
  obtain ⟨h1, h2, h3⟩ := hi x j hx hj q2 q3
  have hc := h.chn _ (getD_mem_list (d := pz) (show (is.getD x 0).toNat < ps.length by omega))
  rw [h3] at hc
  have ht' : (ps.getD (is.getD x 0).toNat pz).t = (ps.getD (is.getD x 0).toNat pz).f := hc
  rw [hs _ (by omega), ht _ (by omega), ht', h2]
  exact ⟨by omega, rfl, rfl⟩
def PLast (ps : List Pth) (f : Int) (e : List Int) (k : Nat) (h : Int) : Prop := (h = -1 ∧ ∀ j, j < k → ¬ ((ps.getD j pz).f = f ∧ (ps.getD j pz).e = e)) ∨ ((0 ≤ h ∧ h < k) ∧ (ps.getD h.toNat pz).f = f ∧ (ps.getD h.toNat pz).e = e)
theorem PLast.zero (ps : List Pth) (f : Int) (e : List Int) : PLast ps f e 0 (-1) := .inl ⟨rfl, fun j h => by omega⟩
theorem PLast.bd {ps : List Pth} {f : Int} {e : List Int} {k : Nat} {h : Int} (p : PLast ps f e k h) : -1 ≤ h ∧ h < k := by
  rcases p with p | p <;> omega
theorem PLast.skip {ps : List Pth} {f : Int} {e : List Int} {k : Nat} {h : Int} (p : PLast ps f e k h) (hn : ¬ ((ps.getD k pz).f = f ∧ (ps.getD k pz).e = e)) : PLast ps f e (k + 1) h := by
  rcases p with ⟨p1, p2⟩ | ⟨p1, p2⟩
  · refine .inl ⟨p1, fun j hj => ?_⟩
    by_cases e' : j < k
    · exact p2 j e'
    · obtain rfl : j = k := by omega
      exact hn
  · exact .inr ⟨by omega, p2⟩
theorem PLast.put {ps : List Pth} {f : Int} {e : List Int} {k : Nat} (h1 : (ps.getD k pz).f = f) (h2 : (ps.getD k pz).e = e) : PLast ps f e (k + 1) (k : Int) := .inr ⟨by omega, by rw [Int.toNat_natCast]; exact ⟨h1, h2⟩⟩
theorem path_cell {xs ys ss ts : List Int} {n i j : Nat} {ps : List Pth} {h3 : Int} (h : PathS xs ys n ps) (hs : PEnd ps Pth.f ss) (ht : PEnd ps Pth.t ts) (l1 : ss.length = ps.length) (l2 : ts.length = ps.length) (hi : i < ps.length) (hj : j < ps.length) (e : (ps.getD i pz).t = (ps.getD j pz).f) (hp : PLast ps (ps.getD i pz).f ((ps.getD i pz).e ++ (ps.getD j pz).e) ps.length h3) : CellV ss ts i j h3 := by
  have mi := getD_mem_list (d := pz) hi
  have mj := getD_mem_list (d := pz) hj
  obtain ⟨q, q1, q2, q3⟩ := h.cat _ mi _ mj e
  obtain ⟨k, hk, rfl⟩ := getD_of_mem (d := pz) q1
  rcases hp with ⟨_, p2⟩ | ⟨p1, p2, p3⟩
  · exact absurd ⟨q2, q3⟩ (p2 k hk)
  · have hc := h.chn _ (getD_mem_list (d := pz) (show h3.toNat < ps.length by omega))
    rw [p2, p3] at hc
    have ci := h.chn _ mi
    have cj := h.chn _ mj
    rw [← e] at cj
    have hu := hc.uniq (ci.app cj)
    refine .pos (by rw [ht _ (by omega), hs _ (by omega)]; exact e) ⟨p1.1, by omega⟩ ?_ ?_
    · rw [hs _ (by omega), hs _ (by omega), p2]
    · rw [ht _ (by omega), ht _ (by omega), hu]
theorem path_neg {ss ts : List Int} {i j : Nat} {ps : List Pth} (hs : PEnd ps Pth.f ss) (ht : PEnd ps Pth.t ts) (l1 : ss.length = ps.length) (l2 : ts.length = ps.length) (hi : i < ps.length) (hj : j < ps.length) (e : ¬ (ps.getD i pz).t = (ps.getD j pz).f) : CellV ss ts i j (-1) := .neg (by rw [ht _ (by omega), hs _ (by omega)]; exact e) rfl
end Go.GL
namespace Go.Proofs.Ytfanjkbaemhbmaa
open Go Go.GL Go.RowKit Go.Proofs
theorem sl_124_Yi : sliceT Try.prog 124 = some (127, 3) := by kernel_rfl
theorem ze_127_Yi : zeroT Try.prog 127 = some ([.int .i64 0, .int .i64 0, .slice none 0 0], 3) := by kernel_rfl
theorem bt_127_Yi : buildT Try.prog 127 = some ([.int .i64 0, .int .i64 0, .slice none 0 0], [(0, 1), (1, 1), (2, 1)]) := by kernel_rfl
theorem by_127_Yi : (Try.prog.info? 127).map (·.bytes) = some 40 := by kernel_rfl
theorem ag_127_Yi : aggT Try.prog 127 = some 3 := by kernel_rfl
set_option maxHeartbeats 8000000 in
theorem l03AllG_c {a b : Option Addr} {xs ys : List Int} {n : Nat} {H : GHeap} (ha : Ints H a xs := by assumption) (hb : Ints H b ys := by assumption) (hl : ys.length = xs.length) (hx : xs.length ≤ 3) (hn : n ≤ 3) (hy : Bd 0 ((n : Int) - 1) ys) (hup : ∀ e, e < xs.length → xs.getD e 0 < ys.getD e 0) :
    GCalls Try.prog 130 [.int .i64 (n : Int), .slice a xs.length xs.length, .slice b ys.length ys.length] H (NewPathsG 2 127 ((n : Int) - 1) xs ys n H) := by
  refine GCalls.body (N := 117) (rs := [.tmp 6]) Try.func130 rfl rfl rfl rfl (fun Qx j1 hend => ?_)
  refine .fg [0, 1, 2] rfl ?_
  have m := GHeap.Le.refl H
  have g := ha
  have d := hb
  refine .seq (fun K1 p0 => .region (.mv rfl (.nil (p0 _ _ (.seq (fun K2 q7 => .region ?_))))))
  refine .R rfl (.litA rfl sl_124_Yi ze_127_Yi rfl rfl rfl rfl) ?_
  rintro _ o7 ⟨o8, rfl, j3, ge14, i7⟩
  have nx_H14 := j3.1
  replace m := m.trans j3
  have lt_at14 := GHeap.ltg i7
  replace ha := g.mono m
  replace hb := d.mono m
  refine .mv rfl (.nil (q7 _ _ (.seq (fun K3 p7 => .seq (fun K4 p9 => .region (.mv rfl (.nil (p9 _ _ ?_))))))))
  refine .block ?_
  refine .loopR (σ := Nat × List Pth × Nat × Nat) [(0, some _), (1, some _), (2, some _)] (fun (x, ps, g2, h4) => [(8, some (.int .i64 (x : Int))), (7, some (.slice (some ⟨g2, 0, none⟩) h4 h4))]) (fun (x, ps, g2, h4) H' => St [o8] o7 H' ∧ H'.get g2 = some (.row (pcells ps) 127 true) ∧ PL g2 o8 o7.next ∧ h4 = ps.length ∧ (x ≤ n ∧ ps.length = x ∧ pws ps ≤ pwn x) ∧ (PChn xs ys ps ∧ PIds x ps) ∧ PthOk H.next 2 ((n : Int) - 1) H' ps) (fun (x, ps, g2, h4) => n - x) ((0, [], _, _)) ⟨rfl, rfl, rfl, trivial⟩ ⟨rfl, rfl, trivial⟩ ?_ ?_
  ·
   refine ⟨.refl _ _, by first | assumption | exact i7 | simpa using i7, ⟨.inl rfl⟩, by first | rfl | assumption | simp | omega, ?_⟩
   exact ⟨⟨by omega, rfl, Nat.le_refl _⟩, ⟨.nil _ _, .nil⟩, .nil _ _ _ _⟩
  rintro ⟨x, ps, g2, h4⟩ HL1 ⟨e4, l, j4, ln_L7, hI⟩ KL1 l6
  refine .forget (fr' := [(8, some (.int .i64 (x : Int))), (7, some (.slice (some ⟨g2, 0, none⟩) h4 h4)), (0, some _), (1, some _), (2, some _)]) ⟨rfl, rfl, rfl, rfl, rfl, trivial⟩ ?_
  have ge_L7 : H.next ≤ g2 := j4.ge (by omega) (by omega)
  have nx_HL1 := e4.nx
  replace m := m.st e4 (fun k hk => ⟨by omega, trivial⟩)
  have c7 := GHeap.ltg l
  replace ha := g.mono m
  replace hb := d.mono m
  have rk := St.refl [g2] HL1
  obtain ⟨⟨hxn, hpl, hw⟩, ⟨hCh, hPi⟩, hP⟩ := hI
  have htl := pcells_len ps
  have d8 := l
  refine .seq (fun K5 q1 => .seq (fun K6 p4 => .region (.mv rfl (.mv rfl (.q rfl (.cmp rfl rfl rfl) (.nil (p4 _ _ ?_)))))))
  refine .cond rfl (fun o4 => ?_) (fun o4 => ?_)
  ·
   simp only [sps] at o4
   refine .skip ?_
   refine q1 _ _ (.seq (fun K7 p6 => ?_))
   refine .block ?_
   refine .region (.mv rfl (.mv rfl (.mv rfl ?_)))
   refine .R rfl (.litA rfl sl_24_A ze_2_N rfl rfl rfl rfl) ?_
   rintro _ p5 ⟨o6, rfl, g5, ge23, f3⟩
   have nx_H23 := g5.1
   replace m := m.trans g5
   replace e4 := e4.le g5
   replace rk := rk.le g5
   replace l := g5.2 _ _ l
   have lt_at23 := GHeap.ltg f3
   replace ha := g.mono m
   replace hb := d.mono m
   replace f3 : GHeap.get p5 o6 = some (.row (ints []) 2 true) := f3
   refine .q rfl (.build bt_127_Yi rfl rfl rfl) ?_
   refine .R rfl (.litA rfl sl_124_Yi ze_127_Yi rfl rfl rfl rfl) ?_
   rintro _ H25 ⟨g25, rfl, g1, ge25, i0⟩
   have nx_H25 := g1.1
   replace m := m.trans g1
   replace e4 := e4.le g1
   replace rk := rk.le g1
   replace l := g1.2 _ _ l
   replace f3 := g1.2 _ _ f3
   have lt_at25 := GHeap.ltg i0
   replace ha := g.mono m
   replace hb := d.mono m
   refine .R rfl (.appendV rfl sl_124_Yi ze_127_Yi rfl by_127_Yi sl_124_Yi rfl rfl (by assumption) (by assumption) (by first | omega | (simp <;> omega)) rfl rfl (by omega) (by omega)) ?_
   rintro _ H26 ⟨g26, rfl, g0, ge26, n9⟩
   have nx_H26 := g0.nx
   replace m := m.st g0 (fun k hk => ⟨by omega, trivial⟩)
   replace e4 := e4.sP g0
   replace rk := rk.sP g0
   replace f3 := g0.s f3
   replace i0 := g0.s i0
   have lt_at26 := GHeap.ltg n9
   replace ha := g.mono m
   replace hb := d.mono m
   refine .mv rfl (.nil (p6 _ _ (.region (.mv rfl ?_))))
   refine .q rfl (.add rfl rfl rfl (by omega) (by omega)) ?_
   refine .mv rfl (.nil ?_)
   refine l6 ((x + 1, ps ++ [⟨(x : Int), (x : Int), [], o6⟩], _, _)) _ _ ?_ ?_ ⟨rfl, rfl, rfl, rfl, rfl, trivial⟩
   ·
    refine ⟨e4, by first | assumption | (rw [pcells_snoc]; assumption), by first | assumption | exact ⟨.inr (by omega)⟩ | exact ⟨.inl rfl⟩, by first | omega | (simp only [List.length_append, List.length_cons, List.length_nil] <;> omega) | (rw [pcells_snoc] <;> (first | omega | (simp only [List.length_append, List.length_cons, List.length_nil] <;> omega))), ?_⟩
    exact ⟨⟨by omega, by simp; omega, by rw [pws_snoc, ← pwn_succ (by omega)]; exact Nat.add_le_add_right hw _⟩, ⟨hCh.snoc rfl, hPi.snoc⟩, (hP.keep (rk.lasts1 d8 rfl)).snoc ⟨by simp, by simp; omega⟩ ⟨by simp, by simp; omega⟩ (by simp) (by simp; omega) (by assumption)⟩
   (dsimp only; omega)
  try simp only [sps] at o4
  refine .exit ?_
  refine p7 _ _ (.seq (fun K8 o9 => .seq (fun K9 q9 => .region (.mv rfl (.nil (q9 _ _ ?_))))))
  refine .block ?_
  refine .loopR (σ := Nat × List Pth × Nat × Nat) [(1, some _), (2, some _)] (fun (k, ps, y, c9) => [(9, some (.int .i64 (k : Int))), (7, some (.slice (some ⟨y, 0, none⟩) c9 c9))]) (fun (k, ps, y, c9) H' => St [g2] HL1 H' ∧ H'.get y = some (.row (pcells ps) 127 true) ∧ PL y g2 HL1.next ∧ c9 = ps.length ∧ (k ≤ ps.length ∧ k + pws (ps.drop k) ≤ 18) ∧ (PChn xs ys ps ∧ PIds n ps ∧ PExt xs k ps) ∧ PthOk H.next 2 ((n : Int) - 1) H' ps) (fun (k, ps, y, c9) => 60 - k) ((0, ps, _, _)) ⟨rfl, rfl, trivial⟩ ⟨rfl, rfl, trivial⟩ ?_ ?_
  ·
   refine ⟨.refl _ _, by first | assumption | exact l | simpa using l, ⟨.inl rfl⟩, by first | rfl | assumption | simp | omega, ?_⟩
   exact ⟨⟨by omega, by have := pwn_le x; rw [List.drop_zero]; omega⟩, ⟨hCh, by rw [show n = x by omega]; exact hPi, .zero _ _⟩, hP⟩
  rintro ⟨k, ps, y, c9⟩ HL2 ⟨o, b5, f9, f7, hI⟩ KL2 n4
  refine .forget (fr' := [(9, some (.int .i64 (k : Int))), (7, some (.slice (some ⟨y, 0, none⟩) c9 c9)), (1, some _), (2, some _)]) ⟨rfl, rfl, rfl, rfl, trivial⟩ ?_
  have ge_L7v2 : H.next ≤ y := f9.ge (by omega) (by omega)
  have nx_HL2 := o.nx
  replace m := m.st o (fun k hk => ⟨by omega, trivial⟩)
  have lt_at_L7v2 := GHeap.ltg b5
  replace ha := g.mono m
  replace hb := d.mono m
  obtain ⟨⟨hk, hwk⟩, ⟨hCh, hPi, hPx⟩, hP⟩ := hI
  have hpl := pws_len hk hwk
  have htl := pcells_len ps
  refine .seq (fun K10 l7 => .seq (fun K11 k1 => .region (.mv rfl (.mv rfl (.q rfl (.len sl_124_Yi rfl) (.q rfl (.cmp rfl rfl rfl) (.mv rfl ?_)))))))
  refine .split (fun m0 => ?_) (fun m0 => ?_)
  ·
   simp only [sps] at m0
   refine .qg rfl (.move rfl) (.qg rfl (.len sl_124_Yi rfl) (.qg rfl (.cmp rfl rfl rfl) (.q rfl (.pickT rfl rfl) (.nil (k1 _ _ ?_)))))
   refine .cond rfl (fun o5 => ?_) (fun o5 => ?_)
   ·
    simp only [sps] at o5
    refine .skip ?_
    refine l7 _ _ (.seq (fun K12 k9 => ?_))
    refine .block ?_
    refine .seq (fun K13 n5 => .region (.mv rfl (.nil (n5 _ _ ?_))))
    refine .block ?_
    refine .loopR (σ := Nat × List Pth × Nat × Nat) [(1, some _), (2, some _), (9, some _), (32, some _), (33, some _), (34, some _)] (fun (e, p2, c2, d1) => [(10, some (.int .i64 (e : Int))), (7, some (.slice (some ⟨c2, 0, none⟩) d1 d1))]) (fun (e, p2, c2, d1) H' => St [y] HL2 H' ∧ H'.get c2 = some (.row (pcells p2) 127 true) ∧ PL c2 y HL2.next ∧ d1 = p2.length ∧ (e ≤ xs.length ∧ ps.length ≤ p2.length ∧ p2.getD k pz = ps.getD k pz ∧ k + 1 + pws (p2.drop (k + 1)) + 3 * ((pw (ps.getD k pz).t - 1) / 3) ≤ 18 + e * ((pw (ps.getD k pz).t - 1) / 3)) ∧ (PChn xs ys p2 ∧ PIds n p2 ∧ PExt xs k p2 ∧ PGo xs (ps.getD k pz) e p2) ∧ PthOk H.next 2 ((n : Int) - 1) H' p2) (fun (e, p2, c2, d1) => xs.length - e) ((0, ps, _, _)) ⟨rfl, rfl, rfl, rfl, rfl, rfl, trivial⟩ ⟨rfl, rfl, trivial⟩ ?_ ?_
    ·
     refine ⟨.refl _ _, by first | assumption | exact b5 | simpa using b5, ⟨.inl rfl⟩, by first | rfl | assumption | simp | omega, ?_⟩
     have hd := pws_drop (ps := ps) (k := k) (by omega)
     have h1 := pw_pos (ps.getD k pz).t
     exact ⟨⟨by omega, by omega, rfl, by omega⟩, ⟨hCh, hPi, hPx, .zero _ _ _⟩, hP⟩
    rintro ⟨e, p2, c2, d1⟩ HL3 ⟨a3, v, f8, g9, hI⟩ KL3 j9
    refine .forget (fr' := [(10, some (.int .i64 (e : Int))), (7, some (.slice (some ⟨c2, 0, none⟩) d1 d1)), (1, some _), (2, some _), (9, some _), (32, some _), (33, some _), (34, some _)]) ⟨rfl, rfl, rfl, rfl, rfl, rfl, rfl, rfl, trivial⟩ ?_
    have ge_L7v3 : H.next ≤ c2 := f8.ge (by omega) (by omega)
    have nx_HL3 := a3.nx
    replace m := m.st a3 (fun k hk => ⟨by omega, trivial⟩)
    replace o := o.sQ a3
    have lt_at_L7v3 := GHeap.ltg v
    replace ha := g.mono m
    replace hb := d.mono m
    have rk := St.refl [c2] HL3
    obtain ⟨⟨he, hp1, h5, hwe⟩, ⟨hCh, hPi, hPx, hGo⟩, hP⟩ := hI
    have hl18 : p2.length ≤ 18 := by
      have hB := Nat.mul_le_mul_right ((pw (ps.getD k pz).t - 1) / 3) (show e ≤ 3 by omega)
      exact pws_len (k := k + 1) (by omega) (by omega)
    have htl := pcells_len p2
    have d8 := l
    refine .seq (fun K14 m9 => .seq (fun K15 l2 => .region (.mv rfl (.mv rfl (.q rfl (.len sl_24_A rfl) (.q rfl (.cmp rfl rfl rfl) (.nil (l2 _ _ ?_))))))))
    refine .cond rfl (fun o0 => ?_) (fun o0 => ?_)
    ·
     simp only [sps] at o0
     refine .skip ?_
     refine m9 _ _ (.seq (fun K16 j6 => ?_))
     refine .block ?_
     refine .seq (fun K17 l0 => ?_)
     refine .regionD mo_B (.q 0 (.q 1 (.q 2 (.q 3 (.q 4 (.q 5 (.q 6 (.q 7 (.q 8 (.q 9 (.done))))))))))) (by kernel_rfl) ?_
     obtain rfl := g9
     have sA := pcells_slA v
     have mk := pcells_mem v (i := k) (by omega)
     refine .mv rfl rfl (.mv rfl rfl ?_)
     refine .q rfl (.idxN sl_24_A (by assumption) rfl rfl (by omega)) ?_
     refine .q rfl (.loadI on_2_A (by assumption) rfl (by omega)) ?_
     refine .mv rfl rfl (.mv rfl rfl ?_)
     refine .q rfl (.idx sl_124_Yi (by assumption) (by omega) rfl rfl (by omega) (by omega) rfl) ?_
     refine .q rfl (.fieldAddr fo_127_1_Dg rfl) (.q rfl (.load on_2_A rfl (mk.2 1 _ rfl)) (.q rfl (.cmp rfl rfl rfl) ?_))
     refine .done ?_
     refine l0 _ _ ?_
     refine .cond rfl (fun j8 => ?_) (fun j8 => ?_)
     ·
      simp only [sps] at j8
      have pk := hP.at (i := k) (by omega)
      have iE := Ints.of_get pk.2.2.2.2
      have yb := hy e (by omega)
      have p8 := pk.1
      have pk3 := pk.2.2.1
      have hh : ((p2.getD k pz).e ++ [(e : Int)]).length = (p2.getD k pz).e.length + 1 := by rw [List.length_append]; rfl
      refine .regionD mo_B (.q 0 (.q 1 (.q 2 (.q 3 (.q 4 (.q 5 (.q 6 (.q 7 (.q 8 (.q 9 (.q 10 (.q 11 (.q 12 (.q 13 (.q 14 (.q 16 (.or (.c 15 1 (.c 17 1 (.c 18 1 (.q 19 (.c 20 1 (.c 21 0 (.c 22 0 (.done)))))))) (.c 17 1 (.c 15 1 (.c 18 1 (.q 19 (.c 20 1 (.c 21 0 (.c 22 0 (.done))))))))))))))))))))))))) (by kernel_rfl) ?_
      refine .cut [(1, some _), (2, some _), (9, some _), (10, some _), (32, some _), (33, some _), (34, some _), (38, some _), (39, some _), (40, some _), (41, some _), (44, some _), (45, some _), (46, some _), (47, some _), (48, some _), (49, some _), (50, some _), (51, some _), (52, some _), (53, some _)] ⟨rfl, rfl, rfl, rfl, rfl, rfl, rfl, rfl, rfl, rfl, rfl, rfl, rfl, rfl, rfl, rfl, rfl, rfl, rfl, rfl, rfl, trivial⟩ (fun rest fr' H' => ∃ (gE : Nat) (gV : Nat), Sub ((7, some (.slice (some ⟨gV, 0, none⟩) (p2.length + 1) (p2.length + 1))) :: rest) fr' ∧ St [c2] HL3 H' ∧ H'.get gE = some (.row (ints ((p2.getD k pz).e ++ [(e : Int)])) 2 true) ∧ HL3.next ≤ gE ∧ H'.get gV = some (.row (pcells (p2 ++ [⟨(p2.getD k pz).f, ys.getD e 0, (p2.getD k pz).e ++ [(e : Int)], gE⟩])) 127 true) ∧ HL3.next ≤ gV) ?_ ?_
      ·
       have d7 := St.refl [c2] HL3
       refine .qB rfl (.refl _) (.move rfl) (.qB rfl (.refl _) (.move rfl) (.qB rfl (.refl _) (.move rfl) ?_))
       refine .q rfl (.idx sl_124_Yi (by assumption) (by omega) rfl rfl (by omega) (by omega) rfl) ?_
       refine .qB rfl (.refl _) (.fieldAddr fo_127_0_Dg rfl) (.q rfl (.load on_2_A rfl (mk.2 0 _ rfl)) (.qB rfl (.refl _) (.move rfl) (.qB rfl (.refl _) (.move rfl) ?_)))
       refine .q rfl (.idxN sl_24_A (by assumption) rfl rfl (by omega)) ?_
       refine .q rfl (.loadI on_2_A (by assumption) rfl (by omega)) ?_
       refine .qB rfl (.refl _) (.move rfl) (.qB rfl (.refl _) (.move rfl) ?_)
       refine .q rfl (.idx sl_124_Yi (by assumption) (by omega) rfl rfl (by omega) (by omega) rfl) ?_
       refine .qB rfl (.refl _) (.fieldAddr fo_127_2_Dg rfl) (.q rfl (.load on_24_B rfl (mk.2 2 _ rfl)) (.qB rfl (.refl _) (.move rfl) ?_))
       refine .orI ?_ ?_
       ·
        refine .call1 rfl rfl rfl rfl rfl @Try.call108 rfl (l01Own_c (by first | exact iE | exact Ints.mono iE (by assumption))) ?_
        rintro _ H69 ⟨e8, g69, rfl, f1, ge69⟩
        have d4 := e8
        refine ⟨d4, ?_⟩
        have nx_H69 := e8.1
        replace m := m.trans e8
        replace o := o.le e8
        replace a3 := a3.le e8
        replace rk := rk.le e8
        replace d7 := d7.le e8
        replace v := e8.2 _ _ v
        have lt_at69 := GHeap.ltg f1
        replace ha := g.mono m
        replace hb := d.mono m
        have h0 := Ints.of_get f1
        refine .c1 rfl rfl rfl rfl (.litA rfl sl_24_A ze_2_N rfl rfl rfl rfl) ?_
        rintro _ H71 ⟨g71, rfl, e6, ge71, f6⟩
        replace d4 := d4.trans e6
        refine ⟨d4, ?_⟩
        have nx_H71 := e6.1
        replace m := m.trans e6
        replace o := o.le e6
        replace a3 := a3.le e6
        replace rk := rk.le e6
        replace d7 := d7.le e6
        replace v := e6.2 _ _ v
        replace f1 := e6.2 _ _ f1
        have lt_at71 := GHeap.ltg f6
        replace ha := g.mono m
        replace hb := d.mono m
        clear h0
        have h0 := Ints.of_get f1
        refine .c1 rfl rfl rfl rfl (.appendI rfl sl_24_A ze_2_N rfl by_2_N sl_24_A rfl rfl (by assumption) (by assumption) (by first | omega | (simp <;> omega)) (by omega) (by omega)) ?_
        rintro _ H72 ⟨g72, rfl, e3, ge72, g3⟩
        replace d4 := d4.st e3 (fun k hk => ⟨by omega, trivial⟩)
        refine ⟨d4, ?_⟩
        have nx_H72 := e3.nx
        replace m := m.st e3 (fun k hk => ⟨by omega, trivial⟩)
        replace o := o.sA e3
        replace a3 := a3.sA e3
        replace rk := rk.sA e3
        replace d7 := d7.sA e3
        replace v := e3.s v
        replace f6 := e3.s f6
        have lt_at72 := GHeap.ltg g3
        replace ha := g.mono m
        replace hb := d.mono m
        clear h0
        have h0 := Ints.of_get f1
        refine .qB rfl d4 (.build bt_127_Yi rfl rfl rfl) ?_
        refine .c1 rfl rfl rfl rfl (.litA rfl sl_124_Yi ze_127_Yi rfl rfl rfl rfl) ?_
        rintro _ H74 ⟨g74, rfl, d9, ge74, h6⟩
        replace d4 := d4.trans d9
        refine ⟨d4, ?_⟩
        have nx_H74 := d9.1
        replace m := m.trans d9
        replace o := o.le d9
        replace a3 := a3.le d9
        replace rk := rk.le d9
        replace d7 := d7.le d9
        replace v := d9.2 _ _ v
        replace f6 := d9.2 _ _ f6
        replace g3 := d9.2 _ _ g3
        have lt_at74 := GHeap.ltg h6
        replace ha := g.mono m
        replace hb := d.mono m
        clear h0
        have h0 := Ints.of_get f1
        refine .c0 rfl rfl rfl rfl (.appendV rfl sl_124_Yi ze_127_Yi rfl by_127_Yi sl_124_Yi rfl rfl (by assumption) (by assumption) (by first | omega | (simp <;> omega)) rfl rfl (by omega) (by omega)) ?_
        rintro _ H75 ⟨g75, rfl, e5, ge75, k4⟩
        have nx_H75 := e5.nx
        replace m := m.st e5 (fun k hk => ⟨by omega, trivial⟩)
        replace o := o.sQ e5
        replace a3 := a3.sQ e5
        replace rk := rk.sQ e5
        replace d7 := d7.sQ e5
        replace f6 := e5.s f6
        replace g3 := e5.s g3
        replace h6 := e5.s h6
        have lt_at75 := GHeap.ltg k4
        replace ha := g.mono m
        replace hb := d.mono m
        clear h0
        have h0 := Ints.of_get f1
        refine .d0 rfl rfl rfl rfl (.quiet (.assign rfl) CIs.mk) ?_
        refine .done ?_
        exact ⟨_, _, ⟨rfl, rfl, rfl, rfl, rfl, rfl, rfl, rfl, rfl, rfl, rfl, rfl, rfl, rfl, rfl, rfl, rfl, rfl, rfl, rfl, rfl, rfl, trivial⟩, d7, by assumption, by omega, by (rw [pcells_snoc]; unfold Pth.cs; dsimp only; rw [hh]; assumption), by omega⟩
       refine .c1 rfl rfl rfl rfl (.litA rfl sl_24_A ze_2_N rfl rfl rfl rfl) ?_
       rintro _ H71x2 ⟨g71x2, rfl, b9, ge71x2, b8⟩
       have d4 := b9
       refine ⟨d4, ?_⟩
       have nx_H71x2 := b9.1
       replace m := m.trans b9
       replace o := o.le b9
       replace a3 := a3.le b9
       replace rk := rk.le b9
       replace d7 := d7.le b9
       replace v := b9.2 _ _ v
       have lt_at71x2 := GHeap.ltg b8
       replace ha := g.mono m
       replace hb := d.mono m
       refine .call1 rfl rfl rfl rfl rfl @Try.call108 rfl (l01Own_c (by first | exact iE | exact Ints.mono iE (by assumption))) ?_
       rintro _ H69x2 ⟨b0, g69x2, rfl, d6, ge69x2⟩
       replace d4 := d4.trans b0
       refine ⟨d4, ?_⟩
       have nx_H69x2 := b0.1
       replace m := m.trans b0
       replace o := o.le b0
       replace a3 := a3.le b0
       replace rk := rk.le b0
       replace d7 := d7.le b0
       replace v := b0.2 _ _ v
       replace b8 := b0.2 _ _ b8
       have lt_at69x2 := GHeap.ltg d6
       replace ha := g.mono m
       replace hb := d.mono m
       have e0 := Ints.of_get d6
       refine .c1 rfl rfl rfl rfl (.appendI rfl sl_24_A ze_2_N rfl by_2_N sl_24_A rfl rfl (by assumption) (by assumption) (by first | omega | (simp <;> omega)) (by omega) (by omega)) ?_
       rintro _ H72x2 ⟨g72x2, rfl, b2, ge72x2, d5⟩
       replace d4 := d4.st b2 (fun k hk => ⟨by omega, trivial⟩)
       refine ⟨d4, ?_⟩
       have nx_H72x2 := b2.nx
       replace m := m.st b2 (fun k hk => ⟨by omega, trivial⟩)
       replace o := o.sA b2
       replace a3 := a3.sA b2
       replace rk := rk.sA b2
       replace d7 := d7.sA b2
       replace v := b2.s v
       replace b8 := b2.s b8
       have lt_at72x2 := GHeap.ltg d5
       replace ha := g.mono m
       replace hb := d.mono m
       clear e0
       have e0 := Ints.of_get d6
       refine .qB rfl d4 (.build bt_127_Yi rfl rfl rfl) ?_
       refine .c1 rfl rfl rfl rfl (.litA rfl sl_124_Yi ze_127_Yi rfl rfl rfl rfl) ?_
       rintro _ H74x2 ⟨g74x2, rfl, a9, ge74x2, f5⟩
       replace d4 := d4.trans a9
       refine ⟨d4, ?_⟩
       have nx_H74x2 := a9.1
       replace m := m.trans a9
       replace o := o.le a9
       replace a3 := a3.le a9
       replace rk := rk.le a9
       replace d7 := d7.le a9
       replace v := a9.2 _ _ v
       replace b8 := a9.2 _ _ b8
       replace d5 := a9.2 _ _ d5
       have lt_at74x2 := GHeap.ltg f5
       replace ha := g.mono m
       replace hb := d.mono m
       clear e0
       have e0 := Ints.of_get d6
       refine .c0 rfl rfl rfl rfl (.appendV rfl sl_124_Yi ze_127_Yi rfl by_127_Yi sl_124_Yi rfl rfl (by assumption) (by assumption) (by first | omega | (simp <;> omega)) rfl rfl (by omega) (by omega)) ?_
       rintro _ H75x2 ⟨g75x2, rfl, b6, ge75x2, h7⟩
       have nx_H75x2 := b6.nx
       replace m := m.st b6 (fun k hk => ⟨by omega, trivial⟩)
       replace o := o.sQ b6
       replace a3 := a3.sQ b6
       replace rk := rk.sQ b6
       replace d7 := d7.sQ b6
       replace b8 := b6.s b8
       replace d5 := b6.s d5
       replace f5 := b6.s f5
       have lt_at75x2 := GHeap.ltg h7
       replace ha := g.mono m
       replace hb := d.mono m
       clear e0
       have e0 := Ints.of_get d6
       refine .d0 rfl rfl rfl rfl (.quiet (.assign rfl) CIs.mk) ?_
       refine .done ?_
       exact ⟨_, _, ⟨rfl, rfl, rfl, rfl, rfl, rfl, rfl, rfl, rfl, rfl, rfl, rfl, rfl, rfl, rfl, rfl, rfl, rfl, rfl, rfl, rfl, rfl, trivial⟩, d7, by assumption, by omega, by (rw [pcells_snoc]; unfold Pth.cs; dsimp only; rw [hh]; assumption), by omega⟩
      rintro fr913 m8 ⟨j5, gV13, g8, e2, aE, ge913, h3, gv913⟩
      have hpu := pw_up (t := (ps.getD k pz).t) (u := ys.getD e 0) (by rw [← h5]; exact pk.2.1.1) (by rw [← h5]; have := hup e (by omega); omega) (by omega)
      obtain ⟨p3, h2, q2, k5, q0, n0⟩ : ∃ p3, p3 = p2 ++ [⟨(p2.getD k pz).f, ys.getD e 0, (p2.getD k pz).e ++ [(e : Int)], j5⟩] ∧ p3.length = p2.length + 1 ∧ p3.getD k pz = p2.getD k pz ∧ pws (p3.drop (k + 1)) ≤ pws (p2.drop (k + 1)) + (pw (ps.getD k pz).t - 1) / 3 ∧ PthOk H.next 2 ((n : Int) - 1) m8 p3 := ⟨_, rfl, by simp, by rw [getD_snoc, if_pos (by omega)], by rw [pws_drop_snoc (by omega)]; dsimp only; omega, PthOk.snoc (p := ⟨(p2.getD k pz).f, ys.getD e 0, (p2.getD k pz).e ++ [(e : Int)], j5⟩) (hP.keep (e2.lasts1 v rfl)) p8 yb (by dsimp only; omega) (by dsimp only; omega) aE⟩
      have n8 : PChn xs ys p3 ∧ PIds n p3 ∧ PExt xs k p3 ∧ PGo xs (ps.getD k pz) (e + 1) p3 := by
        rw [h2]
        exact ⟨hCh.snoc ((hCh _ (getD_mem_list (by omega))).snoc (by omega) j8), hPi.app, hPx.app (by omega), hGo.put (by rw [h5]) (by rw [h5])⟩
      rw [← h2] at h3
      have nx_H913 := e2.nx
      replace m := m.st e2 (fun k hk => ⟨by omega, trivial⟩)
      replace o := o.sQ e2
      replace a3 := a3.sQ e2
      replace rk := rk.sQ e2
      have lt_at913 := GHeap.ltg h3
      replace ha := g.mono m
      replace hb := d.mono m
      refine j6 _ _ ?_
      refine .forget g8 ?_
      refine .region (.mv rfl ?_)
      refine .q rfl (.add rfl rfl rfl (by omega) (by omega)) ?_
      refine .mv rfl (.nil ?_)
      refine j9 ((e + 1, p3, _, _)) _ _ ?_ ?_ ⟨rfl, rfl, rfl, rfl, rfl, rfl, rfl, rfl, trivial⟩
      ·
       refine ⟨a3, by first | assumption | (rw [h2]; assumption), by first | assumption | exact ⟨.inr (by omega)⟩ | exact ⟨.inl rfl⟩, by first | omega | (simp only [List.length_append, List.length_cons, List.length_nil] <;> omega) | (rw [h2] <;> (first | omega | (simp only [List.length_append, List.length_cons, List.length_nil] <;> omega))), ?_⟩
       have e1 := sm e ((pw (ps.getD k pz).t - 1) / 3)
       exact ⟨⟨by omega, by omega, by rw [k5, h5], by omega⟩, n8, n0⟩
      (dsimp only; omega)
     simp only [sps] at j8
     obtain ⟨p3, h2, q2, k5, q0, n0⟩ : ∃ p3, p3 = p2 ∧ p3.length = p2.length ∧ p3.getD k pz = p2.getD k pz ∧ pws (p3.drop (k + 1)) ≤ pws (p2.drop (k + 1)) + (pw (ps.getD k pz).t - 1) / 3 ∧ PthOk H.next 2 ((n : Int) - 1) HL3 p3 := ⟨_, rfl, rfl, rfl, by omega, hP⟩
     have n8 : PChn xs ys p3 ∧ PIds n p3 ∧ PExt xs k p3 ∧ PGo xs (ps.getD k pz) (e + 1) p3 := by
       rw [h2]
       exact ⟨hCh, hPi, hPx, hGo.skip (by rw [← h5]; exact j8)⟩
     refine .skip ?_
     refine j6 _ _ (.region (.mv rfl ?_))
     refine .q rfl (.add rfl rfl rfl (by omega) (by omega)) ?_
     refine .mv rfl (.nil ?_)
     refine j9 ((e + 1, p3, _, _)) _ _ ?_ ?_ ⟨rfl, rfl, rfl, rfl, rfl, rfl, rfl, rfl, trivial⟩
     ·
      refine ⟨a3, by first | assumption | (rw [h2]; assumption), by first | assumption | exact ⟨.inr (by omega)⟩ | exact ⟨.inl rfl⟩, by first | omega | (simp only [List.length_append, List.length_cons, List.length_nil] <;> omega) | (rw [h2] <;> (first | omega | (simp only [List.length_append, List.length_cons, List.length_nil] <;> omega))), ?_⟩
      have e1 := sm e ((pw (ps.getD k pz).t - 1) / 3)
      exact ⟨⟨by omega, by omega, by rw [k5, h5], by omega⟩, n8, n0⟩
     (dsimp only; omega)
    try simp only [sps] at o0
    refine .exit ?_
    refine k9 _ _ (.region (.mv rfl ?_))
    refine .q rfl (.add rfl rfl rfl (by omega) (by omega)) ?_
    refine .mv rfl (.nil ?_)
    refine n4 ((k + 1, p2, _, _)) _ _ ?_ ?_ ⟨rfl, rfl, rfl, rfl, trivial⟩
    ·
     refine ⟨o, by assumption, by first | assumption | exact f8.trans f9 (by omega) | exact ⟨.inr (by omega)⟩ | exact ⟨.inl rfl⟩, by first | omega | (simp only [List.length_append, List.length_cons, List.length_nil] <;> omega), ?_⟩
     have hB := Nat.mul_le_mul_right ((pw (ps.getD k pz).t - 1) / 3) (show e ≤ 3 by omega)
     have hee : e = xs.length := by omega
     exact ⟨⟨by omega, by omega⟩, ⟨hCh, hPi, hPx.next h5 (by rw [hee] at hGo; exact hGo)⟩, hP⟩
    (dsimp only; omega)
   try simp only [sps] at o5
   refine .exit ?_
   refine o9 _ _ (.seq (fun K18 n2 => .seq (fun K19 k8 => .region ?_)))
   obtain rfl := f7
   have hPS : PathS xs ys n ps := .of hCh hPi (by rw [show ps.length = k by omega]; exact hPx)
   refine .mv rfl (.nil (k8 _ _ ?_))
   refine .block ?_
   refine .loopR (σ := Nat × List Pth) [(7, some _)] (fun (i, q4) => [(11, some (.int .i64 (i : Int)))]) (fun (i, q4) H' => St [y] HL2 H' ∧ H'.get y = some (.row (pcells q4) 127 true) ∧ (i ≤ 44 ∧ q4.length = ps.length) ∧ PathS xs ys n q4 ∧ PthOk H.next 2 ((n : Int) - 1) H' q4) (fun (i, q4) => 60 - i) ((1, ps)) ⟨rfl, trivial⟩ ⟨rfl, trivial⟩ ?_ ?_
   ·
    refine ⟨.refl _ _, by first | assumption | exact b5 | simpa using b5, ?_⟩
    exact ⟨⟨by omega, by omega⟩, hPS, hP⟩
   rintro ⟨i, q4⟩ HL4 ⟨a0, l, hI⟩ KL4 g4
   refine .forget (fr' := [(11, some (.int .i64 (i : Int))), (7, some _)]) ⟨rfl, rfl, trivial⟩ ?_
   have i4 := a0.nx
   replace m := m.st a0 (fun k hk => ⟨by omega, trivial⟩)
   replace o := o.sQ a0
   have c7 := GHeap.ltg l
   replace ha := g.mono m
   replace hb := d.mono m
   obtain ⟨⟨q3, hpl⟩, hPS, hP⟩ := hI
   have htl := pcells_len q4
   refine .seq (fun K20 m1 => .seq (fun K21 l9 => .region (.mv rfl (.mv rfl (.q rfl (.len sl_124_Yi rfl) (.q rfl (.cmp rfl rfl rfl) (.nil (l9 _ _ ?_))))))))
   refine .cond rfl (fun i8 => ?_) (fun i8 => ?_)
   ·
    simp only [sps] at i8
    refine .skip ?_
    refine m1 _ _ (.seq (fun K22 j2 => ?_))
    refine .block ?_
    refine .seq (fun K23 m2 => .region (.mv rfl (.mv rfl (.nil (m2 _ _ ?_)))))
    refine .block ?_
    refine .loopR (σ := Nat × List Pth) [(7, some _), (11, some _)] (fun (z, qs) => [(12, some (.int .i64 (z : Int)))]) (fun (z, qs) H' => St [y] HL4 H' ∧ H'.get y = some (.row (pcells qs) 127 true) ∧ (z < qs.length ∧ qs.length = ps.length) ∧ PathS xs ys n qs ∧ PthOk H.next 2 ((n : Int) - 1) H' qs) (fun (z, qs) => z) ((i, q4)) ⟨rfl, rfl, trivial⟩ ⟨rfl, trivial⟩ ?_ ?_
    ·
     refine ⟨.refl _ _, by first | assumption | exact l | simpa using l, ?_⟩
     exact ⟨⟨by omega, by omega⟩, hPS, hP⟩
    rintro ⟨z, qs⟩ HL5 ⟨a2, l, hI⟩ KL5 i2
    refine .forget (fr' := [(12, some (.int .i64 (z : Int))), (7, some _), (11, some _)]) ⟨rfl, rfl, rfl, trivial⟩ ?_
    have i5 := a2.nx
    replace m := m.st a2 (fun k hk => ⟨by omega, trivial⟩)
    replace o := o.sQ a2
    replace a0 := a0.sQ a2
    have c7 := GHeap.ltg l
    replace ha := g.mono m
    replace hb := d.mono m
    have rk := St.refl [y] HL5
    obtain ⟨⟨hz, hql⟩, hPS, hP⟩ := hI
    have htl := pcells_len qs
    have d8 := l
    refine .seq (fun K24 k6 => .seq (fun K25 k0 => ?_))
    refine .regionD mo_B (.q 0 (.q 1 (.q 2 (.q 3 (.q 4 (.q 5 (.q 6 (.q 7 (.q 8 (.q 9 (.q 10 (.q 11 (.c 12 0 (.q 13 (.done))))))))))))))) (by kernel_rfl) ?_
    refine .mv rfl rfl (.q rfl (.cmp rfl rfl rfl) (.mv rfl rfl ?_))
    refine .split (fun i3 => ?_) (fun i3 => ?_)
    ·
     simp only [sps] at i3
     obtain ⟨w, rfl⟩ : ∃ w, z = w + 1 := ⟨z - 1, by omega⟩
     have sA := pcells_slA l
     rw [hql] at sA
     have mz := pcells_mem l (i := w + 1) (by omega)
     have mw := pcells_mem l (i := w) (by omega)
     have l3 := hP.at (i := w + 1) (by omega)
     have m3 := hP.at (i := w) (by omega)
     refine .qg rfl (.move rfl) (.qg rfl (.move rfl) ?_)
     refine .qg rfl (.idx sl_124_Yi (by assumption) (by omega) rfl rfl (by omega) (by omega) rfl) ?_
     refine .qg rfl (.loadM ag_127_Yi rfl (by assumption)) ?_
     refine .qg rfl (.move rfl) (.qg rfl (.move rfl) ?_)
     refine .qg rfl (.sub (r := (w : Int)) rfl rfl (by omega) (by omega) (by omega)) ?_
     refine .qg rfl (.idx sl_124_Yi (by assumption) (by omega) rfl rfl (by omega) (by omega) rfl) ?_
     refine .qg rfl (.loadM ag_127_Yi rfl (by assumption)) ?_
     refine .call0g rfl rfl rfl rfl rfl rfl rfl @Try.call134 rfl (l03Before_c (Ints.of_get l3.2.2.2.2) (Ints.of_get m3.2.2.2.2) (by omega)) ?_
     rintro _ H95 ⟨f4, q95, rfl⟩
     have nx_H95 := f4.1
     replace m := m.trans f4
     replace o := o.le f4
     replace a0 := a0.le f4
     replace a2 := a2.le f4
     replace rk := rk.le f4
     replace l := f4.2 _ _ l
     replace ha := g.mono m
     replace hb := d.mono m
     refine .q rfl (.pickT rfl rfl) ?_
     refine .done ?_
     refine k0 _ _ ?_
     refine .cond rfl (fun h8 => ?_) (fun h8 => ?_)
     ·
      try simp only [sps] at h8
      refine .skip ?_
      refine k6 _ _ (.seq (fun K26 n6 => ?_))
      refine .block ?_
      refine .seq (fun K27 n3 => .region ?_)
      have mz := pcells_mem l (i := w + 1) (by omega)
      have sA := pcells_slA l
      rw [hql] at sA
      refine .mv rfl (.mv rfl ?_)
      refine .q rfl (.idx sl_124_Yi (by assumption) (by omega) rfl rfl (by omega) (by omega) rfl) ?_
      refine .q rfl (.loadM ag_127_Yi rfl (by assumption)) ?_
      refine .R rfl (.allocR rfl ze_127_Yi rfl) ?_
      rintro _ H13 ⟨p1, rfl, f2, ge13, l8⟩
      have nx_H13 := f2.1
      replace m := m.trans f2
      replace o := o.le f2
      replace a0 := a0.le f2
      replace a2 := a2.le f2
      replace rk := rk.le f2
      replace l := f2.2 _ _ l
      have lt_at13 := GHeap.ltg l8
      replace ha := g.mono m
      replace hb := d.mono m
      refine .r0 rfl rfl (.fillA rfl sz_127_Dg rfl rfl rfl rfl) ?_
      rintro _ H20005 ⟨rfl, b4, a7⟩
      have nx_H20005 := b4.nx
      replace m := m.st b4 (fun k hk => ⟨by omega, trivial⟩)
      replace o := o.sA b4
      replace a0 := a0.sA b4
      replace a2 := a2.sA b4
      replace rk := rk.sA b4
      have b7 : NE y p1 := .a
      replace l := b4.s l b7.ne
      have lt_at20005 := GHeap.ltg a7
      replace ha := g.mono m
      replace hb := d.mono m
      have d2 : MemN _ _ _ _ _ := ⟨rfl, Mem.of_get a7⟩
      refine .nil (n3 _ _ (.seq (fun K28 o1 => .region ?_)))
      have mw := pcells_mem l (i := w) (by omega)
      have sA := pcells_slA l
      rw [hql] at sA
      refine .mv rfl (.mv rfl (.mv rfl (.mv rfl ?_)))
      refine .q rfl (.sub (r := (w : Int)) rfl rfl (by omega) (by omega) (by omega)) ?_
      refine .q rfl (.idx sl_124_Yi (by assumption) (by omega) rfl rfl (by omega) (by omega) rfl) ?_
      refine .q rfl (.loadM ag_127_Yi rfl (by assumption)) ?_
      refine .q rfl (.idx sl_124_Yi (by assumption) (by omega) rfl rfl (by omega) (by omega) rfl) ?_
      refine .r0 rfl rfl (.storeNR rfl sz_127_Dg rfl rfl rfl rfl (by assumption) (by rw [pcells_len]; simp; omega)) ?_
      rintro _ g7 ⟨rfl, b1, d3⟩
      have nx_H21008 := b1.nx
      replace m := m.st b1 (fun k hk => ⟨by omega, trivial⟩)
      replace o := o.sQ b1
      replace a0 := a0.sQ b1
      replace a2 := a2.sQ b1
      replace rk := rk.sQ b1
      replace a7 := b1.s a7 (Ne.symm b7.ne)
      have lt_at21008 := GHeap.ltg d3
      replace ha := g.mono m
      replace hb := d.mono m
      clear d2
      have d2 : MemN _ _ _ _ _ := ⟨rfl, Mem.of_get a7⟩
      obtain ⟨q5, i1, i6, q8⟩ : ∃ q5, q5 = qs.set (w + 1) (qs.getD w pz) ∧ q5.length = qs.length ∧ PthOk H.next 2 ((n : Int) - 1) g7 q5 := ⟨_, rfl, by simp, (hP.keep (rk.lasts1 d8 rfl)).set (by omega)⟩
      replace d3 : GHeap.get g7 y = some (.row (pcells q5) 127 true) := by
        have hx := d3
        simp only [Int.toNat_natCast, Nat.zero_add] at hx
        rw [i1, ← pcells_set _ (by omega)]
        exact hx
      have sA := pcells_slA d3
      rw [i6, hql] at sA
      refine .nil (o1 _ _ (.region (.mv rfl (.mv rfl ?_))))
      refine .q rfl (.sub (r := (w : Int)) rfl rfl (by omega) (by omega) (by omega)) ?_
      refine .q rfl (.loadM ag_127_Yi rfl ⟨rfl, Mem.of_get a7⟩) ?_
      refine .q rfl (.idx sl_124_Yi (by assumption) (by omega) rfl rfl (by omega) (by omega) rfl) ?_
      refine .r0 rfl rfl (.storeNR rfl sz_127_Dg rfl rfl rfl rfl (by assumption) (by rw [pcells_len]; simp; omega)) ?_
      rintro _ g6 ⟨rfl, b3, e7⟩
      have nx_H22005 := b3.nx
      replace m := m.st b3 (fun k hk => ⟨by omega, trivial⟩)
      replace o := o.sQ b3
      replace a0 := a0.sQ b3
      replace a2 := a2.sQ b3
      replace rk := rk.sQ b3
      replace a7 := b3.s a7 (Ne.symm b7.ne)
      have lt_at22005 := GHeap.ltg e7
      replace ha := g.mono m
      replace hb := d.mono m
      clear d2
      have d2 : MemN _ _ _ _ _ := ⟨rfl, Mem.of_get a7⟩
      obtain ⟨q6, j7, r1, o3⟩ : ∃ q6, q6 = q5.set w (qs.getD (w + 1) pz) ∧ q6.length = qs.length ∧ PthOk H.next 2 ((n : Int) - 1) g6 q6 := ⟨_, rfl, by simp; omega, fun p hp => by
        rcases List.mem_or_eq_of_mem_set hp with h | rfl
        · have h9 := (hP.keep (rk.lasts1 d8 rfl)).set (i := w + 1) (j := w) (by omega) p (by rw [← i1]; exact h)
          rw [List.length_set] at h9 ⊢
          rw [i6]
          exact h9
        · have h9 := (hP.keep (rk.lasts1 d8 rfl)).at (i := w + 1) (by omega)
          rw [List.length_set, i6]
          exact h9⟩
      replace e7 : GHeap.get g6 y = some (.row (pcells q6) 127 true) := by
        have hx := e7
        simp only [Int.toNat_natCast, Nat.zero_add] at hx
        rw [j7, ← pcells_set _ (by omega)]
        exact hx
      refine .nil (n6 _ _ (.region (.mv rfl ?_)))
      refine .q rfl (.sub (r := (w : Int)) rfl rfl (by omega) (by omega) (by omega)) ?_
      refine .mv rfl (.nil ?_)
      refine i2 ((w, q6)) _ _ ?_ ?_ ⟨rfl, rfl, rfl, trivial⟩
      ·
       refine ⟨a2, by assumption, ?_⟩
       exact ⟨⟨by omega, by omega⟩, hPS.mem (by rw [j7, i1]; exact mem_swap (by omega)), o3⟩
      (dsimp only; omega)
     try simp only [sps] at h8
     refine .exit ?_
     refine j2 _ _ (.region (.mv rfl ?_))
     refine .q rfl (.add rfl rfl rfl (by omega) (by omega)) ?_
     refine .mv rfl (.nil ?_)
     refine g4 ((i + 1, qs)) _ _ ?_ ?_ ⟨rfl, rfl, trivial⟩
     ·
      refine ⟨a0, by assumption, ?_⟩
      exact ⟨⟨by omega, by omega⟩, hPS, by first | exact hP | exact hP.keep (.of_le (by assumption))⟩
     (dsimp only; omega)
    try simp only [sps] at i3
    refine .z rfl (.z rfl (.z rfl (.z rfl (.z rfl (.z rfl (.z rfl (.z rfl (.z rfl (.sgc rfl rfl rfl rfl rfl rfl (.q rfl (.pickF rfl rfl) ?_))))))))))
    refine .done ?_
    refine k0 _ _ ?_
    refine .condF rfl ?_
    refine .exit ?_
    refine j2 _ _ (.region (.mv rfl ?_))
    refine .q rfl (.add rfl rfl rfl (by omega) (by omega)) ?_
    refine .mv rfl (.nil ?_)
    refine g4 ((i + 1, qs)) _ _ ?_ ?_ ⟨rfl, rfl, trivial⟩
    ·
     refine ⟨a0, by assumption, ?_⟩
     exact ⟨⟨by omega, by omega⟩, hPS, by first | exact hP | exact hP.keep (.of_le (by assumption))⟩
    (dsimp only; omega)
   try simp only [sps] at i8
   refine .exit ?_
   refine n2 _ _ (.seq (fun K29 m5 => .region (.mv rfl (.mv rfl (.nil (m5 _ _ ?_))))))
   refine .ret ?_
   refine j1 _ _ ?_
   refine ⟨_, rfl, ?_⟩
   exact ⟨m, y, q4, by rw [‹q4.length = _›], by omega, by assumption, hP, by omega, hPS⟩
  try simp only [sps] at m0
  refine .z rfl (.z rfl (.z rfl (.q rfl (.pickF rfl rfl) (.nil (k1 _ _ ?_)))))
  refine .condF rfl ?_
  refine .exit ?_
  refine o9 _ _ (.seq (fun K30 n1 => .seq (fun K31 n7 => .region ?_)))
  obtain rfl := f7
  have hPS : PathS xs ys n ps := .of hCh hPi (by rw [show ps.length = k by omega]; exact hPx)
  refine .mv rfl (.nil (n7 _ _ ?_))
  refine .block ?_
  refine .loopR (σ := Nat × List Pth) [(7, some _)] (fun (i, q4) => [(11, some (.int .i64 (i : Int)))]) (fun (i, q4) H' => St [y] HL2 H' ∧ H'.get y = some (.row (pcells q4) 127 true) ∧ (i ≤ 44 ∧ q4.length = ps.length) ∧ PathS xs ys n q4 ∧ PthOk H.next 2 ((n : Int) - 1) H' q4) (fun (i, q4) => 60 - i) ((1, ps)) ⟨rfl, trivial⟩ ⟨rfl, trivial⟩ ?_ ?_
  ·
   refine ⟨.refl _ _, by first | assumption | exact b5 | simpa using b5, ?_⟩
   exact ⟨⟨by omega, by omega⟩, hPS, hP⟩
  rintro ⟨i, q4⟩ HL4 ⟨a0, l, hI⟩ KL4 g4
  refine .forget (fr' := [(11, some (.int .i64 (i : Int))), (7, some _)]) ⟨rfl, rfl, trivial⟩ ?_
  have i4 := a0.nx
  replace m := m.st a0 (fun k hk => ⟨by omega, trivial⟩)
  replace o := o.sQ a0
  have c7 := GHeap.ltg l
  replace ha := g.mono m
  replace hb := d.mono m
  obtain ⟨⟨q3, hpl⟩, hPS, hP⟩ := hI
  have htl := pcells_len q4
  refine .seq (fun K32 k7 => .seq (fun K33 m6 => .region (.mv rfl (.mv rfl (.q rfl (.len sl_124_Yi rfl) (.q rfl (.cmp rfl rfl rfl) (.nil (m6 _ _ ?_))))))))
  refine .cond rfl (fun i8 => ?_) (fun i8 => ?_)
  ·
   simp only [sps] at i8
   refine .skip ?_
   refine k7 _ _ (.seq (fun K34 j0 => ?_))
   refine .block ?_
   refine .seq (fun K35 l5 => .region (.mv rfl (.mv rfl (.nil (l5 _ _ ?_)))))
   refine .block ?_
   refine .loopR (σ := Nat × List Pth) [(7, some _), (11, some _)] (fun (z, qs) => [(12, some (.int .i64 (z : Int)))]) (fun (z, qs) H' => St [y] HL4 H' ∧ H'.get y = some (.row (pcells qs) 127 true) ∧ (z < qs.length ∧ qs.length = ps.length) ∧ PathS xs ys n qs ∧ PthOk H.next 2 ((n : Int) - 1) H' qs) (fun (z, qs) => z) ((i, q4)) ⟨rfl, rfl, trivial⟩ ⟨rfl, trivial⟩ ?_ ?_
   ·
    refine ⟨.refl _ _, by first | assumption | exact l | simpa using l, ?_⟩
    exact ⟨⟨by omega, by omega⟩, hPS, hP⟩
   rintro ⟨z, qs⟩ HL5 ⟨a2, l, hI⟩ KL5 i2
   refine .forget (fr' := [(12, some (.int .i64 (z : Int))), (7, some _), (11, some _)]) ⟨rfl, rfl, rfl, trivial⟩ ?_
   have i5 := a2.nx
   replace m := m.st a2 (fun k hk => ⟨by omega, trivial⟩)
   replace o := o.sQ a2
   replace a0 := a0.sQ a2
   have c7 := GHeap.ltg l
   replace ha := g.mono m
   replace hb := d.mono m
   have rk := St.refl [y] HL5
   obtain ⟨⟨hz, hql⟩, hPS, hP⟩ := hI
   have htl := pcells_len qs
   have d8 := l
   refine .seq (fun K36 m7 => .seq (fun K37 k3 => ?_))
   refine .regionD mo_B (.q 0 (.q 1 (.q 2 (.q 3 (.q 4 (.q 5 (.q 6 (.q 7 (.q 8 (.q 9 (.q 10 (.q 11 (.c 12 0 (.q 13 (.done))))))))))))))) (by kernel_rfl) ?_
   refine .mv rfl rfl (.q rfl (.cmp rfl rfl rfl) (.mv rfl rfl ?_))
   refine .split (fun i3 => ?_) (fun i3 => ?_)
   ·
    simp only [sps] at i3
    obtain ⟨w, rfl⟩ : ∃ w, z = w + 1 := ⟨z - 1, by omega⟩
    have sA := pcells_slA l
    rw [hql] at sA
    have mz := pcells_mem l (i := w + 1) (by omega)
    have mw := pcells_mem l (i := w) (by omega)
    have l3 := hP.at (i := w + 1) (by omega)
    have m3 := hP.at (i := w) (by omega)
    refine .qg rfl (.move rfl) (.qg rfl (.move rfl) ?_)
    refine .qg rfl (.idx sl_124_Yi (by assumption) (by omega) rfl rfl (by omega) (by omega) rfl) ?_
    refine .qg rfl (.loadM ag_127_Yi rfl (by assumption)) ?_
    refine .qg rfl (.move rfl) (.qg rfl (.move rfl) ?_)
    refine .qg rfl (.sub (r := (w : Int)) rfl rfl (by omega) (by omega) (by omega)) ?_
    refine .qg rfl (.idx sl_124_Yi (by assumption) (by omega) rfl rfl (by omega) (by omega) rfl) ?_
    refine .qg rfl (.loadM ag_127_Yi rfl (by assumption)) ?_
    refine .call0g rfl rfl rfl rfl rfl rfl rfl @Try.call134 rfl (l03Before_c (Ints.of_get l3.2.2.2.2) (Ints.of_get m3.2.2.2.2) (by omega)) ?_
    rintro _ H95x2 ⟨c5, q95x2, rfl⟩
    have nx_H95x2 := c5.1
    replace m := m.trans c5
    replace o := o.le c5
    replace a0 := a0.le c5
    replace a2 := a2.le c5
    replace rk := rk.le c5
    replace l := c5.2 _ _ l
    replace ha := g.mono m
    replace hb := d.mono m
    refine .q rfl (.pickT rfl rfl) ?_
    refine .done ?_
    refine k3 _ _ ?_
    refine .cond rfl (fun h8 => ?_) (fun h8 => ?_)
    ·
     try simp only [sps] at h8
     refine .skip ?_
     refine m7 _ _ (.seq (fun K38 m4 => ?_))
     refine .block ?_
     refine .seq (fun K39 o2 => .region ?_)
     have mz := pcells_mem l (i := w + 1) (by omega)
     have sA := pcells_slA l
     rw [hql] at sA
     refine .mv rfl (.mv rfl ?_)
     refine .q rfl (.idx sl_124_Yi (by assumption) (by omega) rfl rfl (by omega) (by omega) rfl) ?_
     refine .q rfl (.loadM ag_127_Yi rfl (by assumption)) ?_
     refine .R rfl (.allocR rfl ze_127_Yi rfl) ?_
     rintro _ H13x2 ⟨k2, rfl, c6, ge13x2, i9⟩
     have nx_H13x2 := c6.1
     replace m := m.trans c6
     replace o := o.le c6
     replace a0 := a0.le c6
     replace a2 := a2.le c6
     replace rk := rk.le c6
     replace l := c6.2 _ _ l
     have lt_at13x2 := GHeap.ltg i9
     replace ha := g.mono m
     replace hb := d.mono m
     refine .r0 rfl rfl (.fillA rfl sz_127_Dg rfl rfl rfl rfl) ?_
     rintro _ H20005x2 ⟨rfl, a5, a1⟩
     have nx_H20005x2 := a5.nx
     replace m := m.st a5 (fun k hk => ⟨by omega, trivial⟩)
     replace o := o.sA a5
     replace a0 := a0.sA a5
     replace a2 := a2.sA a5
     replace rk := rk.sA a5
     have a8 : NE y k2 := .a
     replace l := a5.s l a8.ne
     have lt_at20005x2 := GHeap.ltg a1
     replace ha := g.mono m
     replace hb := d.mono m
     have c4 : MemN _ _ _ _ _ := ⟨rfl, Mem.of_get a1⟩
     refine .nil (o2 _ _ (.seq (fun K40 l1 => .region ?_)))
     have mw := pcells_mem l (i := w) (by omega)
     have sA := pcells_slA l
     rw [hql] at sA
     refine .mv rfl (.mv rfl (.mv rfl (.mv rfl ?_)))
     refine .q rfl (.sub (r := (w : Int)) rfl rfl (by omega) (by omega) (by omega)) ?_
     refine .q rfl (.idx sl_124_Yi (by assumption) (by omega) rfl rfl (by omega) (by omega) rfl) ?_
     refine .q rfl (.loadM ag_127_Yi rfl (by assumption)) ?_
     refine .q rfl (.idx sl_124_Yi (by assumption) (by omega) rfl rfl (by omega) (by omega) rfl) ?_
     refine .r0 rfl rfl (.storeNR rfl sz_127_Dg rfl rfl rfl rfl (by assumption) (by rw [pcells_len]; simp; omega)) ?_
     rintro _ e9 ⟨rfl, a6, c3⟩
     have nx_H21008x2 := a6.nx
     replace m := m.st a6 (fun k hk => ⟨by omega, trivial⟩)
     replace o := o.sQ a6
     replace a0 := a0.sQ a6
     replace a2 := a2.sQ a6
     replace rk := rk.sQ a6
     replace a1 := a6.s a1 (Ne.symm a8.ne)
     have lt_at21008x2 := GHeap.ltg c3
     replace ha := g.mono m
     replace hb := d.mono m
     clear c4
     have c4 : MemN _ _ _ _ _ := ⟨rfl, Mem.of_get a1⟩
     obtain ⟨q5, i1, i6, q8⟩ : ∃ q5, q5 = qs.set (w + 1) (qs.getD w pz) ∧ q5.length = qs.length ∧ PthOk H.next 2 ((n : Int) - 1) e9 q5 := ⟨_, rfl, by simp, (hP.keep (rk.lasts1 d8 rfl)).set (by omega)⟩
     replace c3 : GHeap.get e9 y = some (.row (pcells q5) 127 true) := by
       have hx := c3
       simp only [Int.toNat_natCast, Nat.zero_add] at hx
       rw [i1, ← pcells_set _ (by omega)]
       exact hx
     have sA := pcells_slA c3
     rw [i6, hql] at sA
     refine .nil (l1 _ _ (.region (.mv rfl (.mv rfl ?_))))
     refine .q rfl (.sub (r := (w : Int)) rfl rfl (by omega) (by omega) (by omega)) ?_
     refine .q rfl (.loadM ag_127_Yi rfl ⟨rfl, Mem.of_get a1⟩) ?_
     refine .q rfl (.idx sl_124_Yi (by assumption) (by omega) rfl rfl (by omega) (by omega) rfl) ?_
     refine .r0 rfl rfl (.storeNR rfl sz_127_Dg rfl rfl rfl rfl (by assumption) (by rw [pcells_len]; simp; omega)) ?_
     rintro _ f0 ⟨rfl, a4, c8⟩
     have nx_H22005x2 := a4.nx
     replace m := m.st a4 (fun k hk => ⟨by omega, trivial⟩)
     replace o := o.sQ a4
     replace a0 := a0.sQ a4
     replace a2 := a2.sQ a4
     replace rk := rk.sQ a4
     replace a1 := a4.s a1 (Ne.symm a8.ne)
     have lt_at22005x2 := GHeap.ltg c8
     replace ha := g.mono m
     replace hb := d.mono m
     clear c4
     have c4 : MemN _ _ _ _ _ := ⟨rfl, Mem.of_get a1⟩
     obtain ⟨q6, j7, r1, o3⟩ : ∃ q6, q6 = q5.set w (qs.getD (w + 1) pz) ∧ q6.length = qs.length ∧ PthOk H.next 2 ((n : Int) - 1) f0 q6 := ⟨_, rfl, by simp; omega, fun p hp => by
       rcases List.mem_or_eq_of_mem_set hp with h | rfl
       · have h9 := (hP.keep (rk.lasts1 d8 rfl)).set (i := w + 1) (j := w) (by omega) p (by rw [← i1]; exact h)
         rw [List.length_set] at h9 ⊢
         rw [i6]
         exact h9
       · have h9 := (hP.keep (rk.lasts1 d8 rfl)).at (i := w + 1) (by omega)
         rw [List.length_set, i6]
         exact h9⟩
     replace c8 : GHeap.get f0 y = some (.row (pcells q6) 127 true) := by
       have hx := c8
       simp only [Int.toNat_natCast, Nat.zero_add] at hx
       rw [j7, ← pcells_set _ (by omega)]
       exact hx
     refine .nil (m4 _ _ (.region (.mv rfl ?_)))
     refine .q rfl (.sub (r := (w : Int)) rfl rfl (by omega) (by omega) (by omega)) ?_
     refine .mv rfl (.nil ?_)
     refine i2 ((w, q6)) _ _ ?_ ?_ ⟨rfl, rfl, rfl, trivial⟩
     ·
      refine ⟨a2, by assumption, ?_⟩
      exact ⟨⟨by omega, by omega⟩, hPS.mem (by rw [j7, i1]; exact mem_swap (by omega)), o3⟩
     (dsimp only; omega)
    try simp only [sps] at h8
    refine .exit ?_
    refine j0 _ _ (.region (.mv rfl ?_))
    refine .q rfl (.add rfl rfl rfl (by omega) (by omega)) ?_
    refine .mv rfl (.nil ?_)
    refine g4 ((i + 1, qs)) _ _ ?_ ?_ ⟨rfl, rfl, trivial⟩
    ·
     refine ⟨a0, by assumption, ?_⟩
     exact ⟨⟨by omega, by omega⟩, hPS, by first | exact hP | exact hP.keep (.of_le (by assumption))⟩
    (dsimp only; omega)
   try simp only [sps] at i3
   refine .z rfl (.z rfl (.z rfl (.z rfl (.z rfl (.z rfl (.z rfl (.z rfl (.z rfl (.sgc rfl rfl rfl rfl rfl rfl (.q rfl (.pickF rfl rfl) ?_))))))))))
   refine .done ?_
   refine k3 _ _ ?_
   refine .condF rfl ?_
   refine .exit ?_
   refine j0 _ _ (.region (.mv rfl ?_))
   refine .q rfl (.add rfl rfl rfl (by omega) (by omega)) ?_
   refine .mv rfl (.nil ?_)
   refine g4 ((i + 1, qs)) _ _ ?_ ?_ ⟨rfl, rfl, trivial⟩
   ·
    refine ⟨a0, by assumption, ?_⟩
    exact ⟨⟨by omega, by omega⟩, hPS, by first | exact hP | exact hP.keep (.of_le (by assumption))⟩
   (dsimp only; omega)
  try simp only [sps] at i8
  refine .exit ?_
  refine n1 _ _ (.seq (fun K41 l4 => .region (.mv rfl (.mv rfl (.nil (l4 _ _ ?_))))))
  refine .ret ?_
  refine j1 _ _ ?_
  refine ⟨_, rfl, ?_⟩
  exact ⟨m, y, q4, by rw [‹q4.length = _›], by omega, by assumption, hP, by omega, hPS⟩
end Go.Proofs.Ytfanjkbaemhbmaa
namespace Go.Proofs.Ytfanjkbaemhbmaa
open Go Go.GL Go.RowKit Go.Proofs
set_option maxHeartbeats 8000000 in
theorem l03PathsG_c {a b : Option Addr} {xs ys : List Int} {n : Nat} {H : GHeap} (ha : Ints H a xs := by assumption) (hb : Ints H b ys := by assumption) (hl : ys.length = xs.length) (hx : xs.length ≤ 3) (hn : n ≤ 3) (hy : Bd 0 ((n : Int) - 1) ys) (hup : ∀ e, e < xs.length → xs.getD e 0 < ys.getD e 0) :
    GCalls Try.prog 121 [.int .i64 (n : Int), .slice a xs.length xs.length, .slice b ys.length ys.length] H (NewGd 2 24 18 n H) := by
  refine GCalls.body (N := 147) (rs := [.cell 6 27]) Try.func121 rfl rfl rfl rfl (fun Qx o0 hend => ?_)
  refine .fg [0, 1, 2] rfl ?_
  have v := GHeap.Le.refl H
  have r := ha
  have o := hb
  refine .seq (fun K1 s4 => .region ?_)
  refine .R rfl (.allocR rfl ze_27_Hj rfl) ?_
  rintro _ H6 ⟨g6, rfl, r7, ge6, b0⟩
  have nx_H6 := r7.1
  replace v := v.trans r7
  have lt_at6 := GHeap.ltg b0
  replace ha := r.mono v
  replace hb := o.mono v
  refine .nil (s4 _ _ (.seq (fun K2 t7 => .region (.mv rfl (.mv rfl (.mv rfl ?_))))))
  refine .call rfl rfl rfl rfl @Try.call130 rfl (l03AllG_c ha hb hl hx hn hy hup) ?_
  rintro _ p5 ⟨l5, gP, ps, rfl, bP, aP, s6, hp18, hPS⟩
  have hK : PthK _ _ _ p5 ps := ⟨s6⟩
  have nx_H19 := l5.1
  replace v := v.trans l5
  replace b0 := l5.2 _ _ b0
  have lt_aP := GHeap.ltg aP
  have a2 := hK
  have d : Keep H6.next p5 p5 := fun _ _ _ h => h
  replace ha := r.mono v
  replace hb := o.mono v
  have hP := hK.ok
  refine .mv rfl (.nil (t7 _ _ (.seq (fun K3 s8 => .region (.mv rfl ?_)))))
  refine .R rfl (.litA rfl sl_24_A ze_2_N rfl rfl rfl rfl) ?_
  rintro _ t4 ⟨l8, rfl, k7, ge21, e6⟩
  have nx_H21 := k7.1
  replace v := v.trans k7
  replace b0 := k7.2 _ _ b0
  replace aP := k7.2 _ _ aP
  replace d := Keep.le d k7
  replace hK := a2.keep d (Nat.le_refl _)
  have lt_at21 := GHeap.ltg e6
  replace ha := r.mono v
  replace hb := o.mono v
  clear hP
  have hP := hK.ok
  replace e6 : GHeap.get t4 l8 = some (.row (ints []) 2 true) := e6
  refine .R rfl (.litA rfl sl_24_A ze_2_N rfl rfl rfl rfl) ?_
  rintro _ t6 ⟨l7, rfl, j8, ge22, f4⟩
  have nx_H22 := j8.1
  replace v := v.trans j8
  replace b0 := j8.2 _ _ b0
  replace aP := j8.2 _ _ aP
  replace e6 := j8.2 _ _ e6
  replace d := Keep.le d j8
  replace hK := a2.keep d (Nat.le_refl _)
  have lt_at22 := GHeap.ltg f4
  replace ha := r.mono v
  replace hb := o.mono v
  clear hP
  have hP := hK.ok
  replace f4 : GHeap.get t6 l7 = some (.row (ints []) 2 true) := f4
  refine .mv rfl ?_
  refine .R rfl (.makeI rfl sl_24_A ze_2_N by_2_N rfl rfl (by omega) (by omega) (by omega) (by omega)) ?_
  rintro _ H24 ⟨h2, rfl, j4, ge24, h4⟩
  have nx_H24 := j4.1
  replace v := v.trans j4
  replace b0 := j4.2 _ _ b0
  replace aP := j4.2 _ _ aP
  replace e6 := j4.2 _ _ e6
  replace f4 := j4.2 _ _ f4
  replace d := Keep.le d j4
  replace hK := a2.keep d (Nat.le_refl _)
  have lt_at24 := GHeap.ltg h4
  replace ha := r.mono v
  replace hb := o.mono v
  clear hP
  have hP := hK.ok
  simp only [Int.toNat_natCast] at h4
  refine .R rfl (.litA rfl sl_25_B ze_24_Hj rfl rfl rfl rfl) ?_
  rintro _ H25 ⟨j2, rfl, j0, ge25, b6⟩
  have nx_H25 := j0.1
  replace v := v.trans j0
  replace b0 := j0.2 _ _ b0
  replace aP := j0.2 _ _ aP
  replace e6 := j0.2 _ _ e6
  replace f4 := j0.2 _ _ f4
  replace h4 := j0.2 _ _ h4
  replace d := Keep.le d j0
  replace hK := a2.keep d (Nat.le_refl _)
  have lt_at25 := GHeap.ltg b6
  replace ha := r.mono v
  replace hb := o.mono v
  clear hP
  have hP := hK.ok
  refine .q rfl (.build bt_27_Hj rfl rfl rfl) ?_
  refine .R rfl (.allocR rfl ze_27_Hj rfl) ?_
  rintro _ H8 ⟨g8, rfl, l0, ge8, t3⟩
  have nx_H8 := l0.1
  replace v := v.trans l0
  replace b0 := l0.2 _ _ b0
  replace aP := l0.2 _ _ aP
  replace e6 := l0.2 _ _ e6
  replace f4 := l0.2 _ _ f4
  replace h4 := l0.2 _ _ h4
  replace b6 := l0.2 _ _ b6
  replace d := Keep.le d l0
  replace hK := a2.keep d (Nat.le_refl _)
  have lt_at8 := GHeap.ltg t3
  replace ha := r.mono v
  replace hb := o.mono v
  clear hP
  have hP := hK.ok
  refine .r0 rfl rfl (.fillA rfl sz_27_D rfl rfl rfl rfl) ?_
  rintro _ k5 ⟨rfl, d3, y⟩
  have nx_H2008 := d3.nx
  replace v := v.st d3 (fun k hk => ⟨by omega, trivial⟩)
  have c4 : NE g6 g8 := .a
  replace b0 := d3.s b0 c4.ne
  have c7 : NE gP g8 := .a
  replace aP := d3.s aP c7.ne
  replace e6 := d3.s e6
  replace f4 := d3.s f4
  replace h4 := d3.s h4
  have d9 : NE j2 g8 := .a
  replace b6 := d3.s b6 d9.ne
  replace d := Keep.st d d3 (fun k hb hk => ⟨(by omega), trivial⟩)
  replace hK := a2.keep d (Nat.le_refl _)
  have lt_at2008 := GHeap.ltg y
  replace ha := r.mono v
  replace hb := o.mono v
  clear hP
  have hP := hK.ok
  have m : MemN _ _ _ _ _ := ⟨rfl, Mem.of_get y⟩
  refine .nil (s8 _ _ (.seq (fun K4 s9 => .seq (fun K5 t5 => .region (.mv rfl (.nil (t5 _ _ ?_)))))))
  refine .block ?_
  refine .loopR (σ := Nat × List Int × List Int × List Int × Nat × Nat) [(6, some _), (7, some _), (8, some _)] (fun (i, ss, ts, is, gLF, gLT) => [(9, some (.int .i64 (i : Int)))]) (fun (i, ss, ts, is, gLF, gLT) H' => St [l8, l7, h2, g8] k5 H' ∧ H'.get gLF = some (.row (ints ss) 2 true) ∧ PL gLF l8 k5.next ∧ H'.get gLT = some (.row (ints ts) 2 true) ∧ PL gLT l7 k5.next ∧ H'.get h2 = some (.row (ints is) 2 true) ∧ H'.get g8 = some (.row ([.int .i64 (n : Int), .slice (some ⟨gLF, 0, none⟩) i i, .slice (some ⟨gLT, 0, none⟩) i i, .slice (some ⟨h2, 0, none⟩) n n, .slice (some ⟨j2, 0, none⟩) 0 0]) 27 true) ∧ gLF ≠ gLT ∧ gLF ≠ h2 ∧ gLF ≠ g8 ∧ gLT ≠ h2 ∧ gLT ≠ g8 ∧ h2 ≠ g8 ∧ (i ≤ ps.length ∧ ss.length = i ∧ ts.length = i ∧ is.length = n) ∧ (PEnd ps Pth.f ss ∧ PEnd ps Pth.t ts ∧ PIdx ps i is) ∧ Bd 0 ((n : Int) - 1) ss ∧ Bd 0 ((n : Int) - 1) ts ∧ Bd 0 18 is) (fun (i, ss, ts, is, gLF, gLT) => ps.length - i) ((0, [], [], List.replicate n 0, l8, l7)) ⟨rfl, rfl, rfl, trivial⟩ ⟨rfl, trivial⟩ ?_ ?_
  ·
   refine ⟨.refl _ _, by first | assumption | exact e6 | simpa using e6, ⟨.inl rfl⟩, by first | assumption | exact f4 | simpa using f4, ⟨.inl rfl⟩, by first | assumption | exact h4 | simpa using h4, by first | assumption | exact y | simpa using y, by omega, by omega, by omega, by omega, by omega, by omega, ?_⟩
   exact ⟨⟨by omega, rfl, rfl, by simp⟩, ⟨.nil _ _, .nil _ _, .zero _ _⟩, .nil _ _, .nil _ _, .rep _ (by omega) (by omega)⟩
  rintro ⟨i, ss, ts, is, gLF, gLT⟩ HL1 ⟨c5, a1, e9, w, f0, l, u, m9, m3, k3, m2, j5, i6, hI⟩ KL1 m5
  refine .forget (fr' := [(9, some (.int .i64 (i : Int))), (6, some _), (7, some _), (8, some _)]) ⟨rfl, rfl, rfl, rfl, trivial⟩ ?_
  have ge_LF : H.next ≤ gLF := e9.ge (by omega) (by omega)
  have ge_LT : H.next ≤ gLT := f0.ge (by omega) (by omega)
  have nx_HL1 := c5.nx
  replace v := v.st c5 (fun k hk => ⟨by omega, by omega, by omega, by omega, trivial⟩)
  have f3 : NE g6 l8 := .a
  have f9 : NE g6 l7 := .a
  have g0 : NE g6 h2 := .a
  replace b0 := c5.same _ _ ⟨f3.ne, f9.ne, g0.ne, c4.ne, trivial⟩ b0
  have h8 : NE gP l8 := .a
  have i1 : NE gP l7 := .a
  have h6 : NE gP h2 := .a
  replace aP := c5.same _ _ ⟨h8.ne, i1.ne, h6.ne, c7.ne, trivial⟩ aP
  have e2 : NE j2 l8 := .a
  have e7 : NE j2 l7 := .a
  have d1 : NE j2 h2 := .a
  replace b6 := c5.same _ _ ⟨e2.ne, e7.ne, d1.ne, d9.ne, trivial⟩ b6
  replace d := Keep.st d c5 (fun k hb hk => ⟨(by omega), (by omega), (by omega), (by omega), trivial⟩)
  replace hK := a2.keep d (Nat.le_refl _)
  have lt_at_LF := GHeap.ltg a1
  have lt_at_LT := GHeap.ltg w
  have lt_at_Lg24 := GHeap.ltg l
  have j7 := GHeap.ltg u
  replace ha := r.mono v
  replace hb := o.mono v
  clear hP
  have hP := hK.ok
  clear m
  have m : MemN _ _ _ _ _ := ⟨rfl, Mem.of_get y⟩
  obtain ⟨⟨hi, hsl, htl, hil⟩, ⟨hSE, hTE, hIx⟩, hS, hT, hI⟩ := hI
  refine .seq (fun K6 s5 => .seq (fun K7 s7 => .region (.mv rfl (.mv rfl (.q rfl (.len sl_124_Yi rfl) (.q rfl (.cmp rfl rfl rfl) (.nil (s7 _ _ ?_))))))))
  refine .cond rfl (fun p9 => ?_) (fun p9 => ?_)
  ·
   simp only [sps] at p9
   have o9 := (hP.at (i := i) (by omega)).1
   have r5 := (hP.at (i := i) (by omega)).2.1
   refine .skip ?_
   refine s5 _ _ (.seq (fun K8 r8 => ?_))
   refine .block ?_
   refine .seq (fun K9 t9 => ?_)
   refine .regionD mo_B (.q 0 (.q 1 (.q 2 (.q 3 (.q 4 (.q 5 (.q 6 (.c 7 1 (.c 8 0 (.q 9 (.c 10 0 (.done)))))))))))) (by kernel_rfl) ?_
   have sA := pcells_slA aP
   have mk := pcells_mem aP (i := i) (by omega)
   refine .q rfl (.fieldAddr fo_27_1_B rfl) ?_
   refine .q rfl (.load on_24_B rfl (by first | assumption | exact Mem.of_get u 1 _ rfl)) ?_
   refine .mv rfl rfl (.mv rfl rfl ?_)
   refine .q rfl (.idx sl_124_Yi (by assumption) (by omega) rfl rfl (by omega) (by omega) rfl) ?_
   refine .q rfl (.fieldAddr fo_127_0_Dg rfl) (.q rfl (.load on_2_A rfl (mk.2 0 _ rfl)) ?_)
   refine .c1 rfl rfl rfl rfl (.litA rfl sl_24_A ze_2_N rfl rfl rfl rfl) ?_
   rintro _ H40 ⟨t8, rfl, g7, ge40, f5⟩
   have m7 := g7
   refine ⟨m7, ?_⟩
   have nx_H40 := g7.1
   replace v := v.trans g7
   replace c5 := c5.le g7
   replace b0 := g7.2 _ _ b0
   replace aP := g7.2 _ _ aP
   replace b6 := g7.2 _ _ b6
   replace a1 := g7.2 _ _ a1
   replace w := g7.2 _ _ w
   replace l := g7.2 _ _ l
   replace u := g7.2 _ _ u
   replace d := Keep.le d g7
   replace hK := a2.keep d (Nat.le_refl _)
   have lt_at40 := GHeap.ltg f5
   replace ha := r.mono v
   replace hb := o.mono v
   clear hP
   have hP := hK.ok
   clear m
   have m : MemN _ _ _ _ _ := ⟨rfl, Mem.of_get y⟩
   refine .c0 rfl rfl rfl rfl (.appendI rfl sl_24_A ze_2_N rfl by_2_N sl_24_A rfl rfl (by assumption) (by assumption) (by first | omega | (simp <;> omega)) (by omega) (by omega)) ?_
   rintro _ H41 ⟨q7, rfl, h0, ge41, h1⟩
   have nx_H41 := h0.nx
   replace v := v.st h0 (fun k hk => ⟨by omega, trivial⟩)
   replace c5 := c5.sP h0
   have f2 : NE g6 gLF := ⟨e9.ne f3.ne (by omega)⟩
   replace b0 := h0.s b0 f2.ne
   replace aP := h0.same _ _ ⟨(e9.ne h8.ne (by omega)), trivial⟩ aP
   have d0 : NE j2 gLF := ⟨e9.ne e2.ne (by omega)⟩
   replace b6 := h0.s b6 d0.ne
   replace w := h0.same _ _ ⟨(Ne.symm m9), trivial⟩ w
   replace l := h0.same _ _ ⟨(Ne.symm m3), trivial⟩ l
   replace u := h0.same _ _ ⟨(Ne.symm k3), trivial⟩ u
   replace f5 := h0.s f5
   replace d := Keep.st d h0 (fun k hb hk => ⟨(by first | exact e9.ne (by omega) (by omega) | omega), trivial⟩)
   replace hK := a2.keep d (Nat.le_refl _)
   have lt_at41 := GHeap.ltg h1
   replace ha := r.mono v
   replace hb := o.mono v
   clear hP
   have hP := hK.ok
   clear m
   have m : MemN _ _ _ _ _ := ⟨rfl, Mem.of_get y⟩
   refine .q rfl (.fieldAddr fo_27_1_B rfl) ?_
   refine .r0 rfl rfl rfl (.storeR rfl sz_24_Ch rfl rfl rfl (by assumption) (by first | exact Nat.le_of_ble_eq_true rfl | (simp; done) | (simp <;> omega))) ?_
   rintro _ H6010 ⟨rfl, c3, e5⟩
   have nx_H6010 := c3.nx
   replace v := v.st c3 (fun k hk => ⟨by omega, trivial⟩)
   replace c5 := c5.sA c3
   replace b0 := c3.s b0 c4.ne
   replace aP := c3.s aP c7.ne
   replace b6 := c3.s b6 d9.ne
   replace w := c3.same _ _ ⟨j5, trivial⟩ w
   replace l := c3.same _ _ ⟨i6, trivial⟩ l
   have i0 : NE t8 g8 := .a
   replace f5 := c3.s f5 i0.ne
   have h7 : NE q7 g8 := .a
   replace h1 := c3.s h1 h7.ne
   replace d := Keep.st d c3 (fun k hb hk => ⟨(by omega), trivial⟩)
   replace hK := a2.keep d (Nat.le_refl _)
   have lt_at6010 := GHeap.ltg e5
   replace ha := r.mono v
   replace hb := o.mono v
   clear hP
   have hP := hK.ok
   clear m
   have m : MemN _ _ _ _ _ := ⟨rfl, Mem.of_get y⟩
   try simp only [Nat.zero_add, List.set_cons_succ, List.set_cons_zero] at e5
   refine .done ?_
   refine t9 _ _ (.seq (fun K10 o8 => ?_))
   refine .regionD mo_B (.q 0 (.q 1 (.q 2 (.q 3 (.q 4 (.q 5 (.q 6 (.c 7 1 (.c 8 0 (.q 9 (.c 10 0 (.done)))))))))))) (by kernel_rfl) ?_
   have sA := pcells_slA aP
   have mk := pcells_mem aP (i := i) (by omega)
   refine .q rfl (.fieldAddr fo_27_2_B rfl) ?_
   refine .q rfl (.load on_24_B rfl (by first | assumption | exact Mem.of_get e5 2 _ rfl)) ?_
   refine .mv rfl rfl (.mv rfl rfl ?_)
   refine .q rfl (.idx sl_124_Yi (by assumption) (by omega) rfl rfl (by omega) (by omega) rfl) ?_
   refine .q rfl (.fieldAddr fo_127_1_Dg rfl) (.q rfl (.load on_2_A rfl (mk.2 1 _ rfl)) ?_)
   refine .c1 rfl rfl rfl rfl (.litA rfl sl_24_A ze_2_N rfl rfl rfl rfl) ?_
   rintro _ H50 ⟨g50, rfl, g1, ge50, j3⟩
   have m7 := g1
   refine ⟨m7, ?_⟩
   have nx_H50 := g1.1
   replace v := v.trans g1
   replace c5 := c5.le g1
   replace b0 := g1.2 _ _ b0
   replace aP := g1.2 _ _ aP
   replace b6 := g1.2 _ _ b6
   replace w := g1.2 _ _ w
   replace l := g1.2 _ _ l
   replace f5 := g1.2 _ _ f5
   replace h1 := g1.2 _ _ h1
   replace e5 := g1.2 _ _ e5
   replace d := Keep.le d g1
   replace hK := a2.keep d (Nat.le_refl _)
   have lt_at50 := GHeap.ltg j3
   replace ha := r.mono v
   replace hb := o.mono v
   clear hP
   have hP := hK.ok
   clear m
   have m : MemN _ _ _ _ _ := ⟨rfl, Mem.of_get y⟩
   refine .c0 rfl rfl rfl rfl (.appendI rfl sl_24_A ze_2_N rfl by_2_N sl_24_A rfl rfl (by assumption) (by assumption) (by first | omega | (simp <;> omega)) (by omega) (by omega)) ?_
   rintro _ H51 ⟨r6, rfl, g5, ge51, k8⟩
   have nx_H51 := g5.nx
   replace v := v.st g5 (fun k hk => ⟨by omega, trivial⟩)
   replace c5 := c5.sP g5
   have f8 : NE g6 gLT := ⟨f0.ne f9.ne (by omega)⟩
   replace b0 := g5.s b0 f8.ne
   replace aP := g5.same _ _ ⟨(f0.ne i1.ne (by omega)), trivial⟩ aP
   have d2 : NE j2 gLT := ⟨f0.ne e7.ne (by omega)⟩
   replace b6 := g5.s b6 d2.ne
   replace l := g5.same _ _ ⟨(Ne.symm m2), trivial⟩ l
   replace f5 := g5.s f5
   replace h1 := g5.s h1
   replace e5 := g5.same _ _ ⟨(Ne.symm j5), trivial⟩ e5
   replace j3 := g5.s j3
   replace d := Keep.st d g5 (fun k hb hk => ⟨(by first | exact f0.ne (by omega) (by omega) | omega), trivial⟩)
   replace hK := a2.keep d (Nat.le_refl _)
   have lt_at51 := GHeap.ltg k8
   replace ha := r.mono v
   replace hb := o.mono v
   clear hP
   have hP := hK.ok
   clear m
   have m : MemN _ _ _ _ _ := ⟨rfl, Mem.of_get y⟩
   refine .q rfl (.fieldAddr fo_27_2_B rfl) ?_
   refine .r0 rfl rfl rfl (.storeR rfl sz_24_Ch rfl rfl rfl (by assumption) (by first | exact Nat.le_of_ble_eq_true rfl | (simp; done) | (simp <;> omega))) ?_
   rintro _ H7010 ⟨rfl, b4, g9⟩
   have nx_H7010 := b4.nx
   replace v := v.st b4 (fun k hk => ⟨by omega, trivial⟩)
   replace c5 := c5.sA b4
   replace b0 := b4.s b0 c4.ne
   replace aP := b4.s aP c7.ne
   replace b6 := b4.s b6 d9.ne
   replace l := b4.same _ _ ⟨i6, trivial⟩ l
   replace f5 := b4.s f5 i0.ne
   replace h1 := b4.s h1 h7.ne
   replace j3 := b4.s j3
   replace k8 := b4.s k8
   replace d := Keep.st d b4 (fun k hb hk => ⟨(by omega), trivial⟩)
   replace hK := a2.keep d (Nat.le_refl _)
   have lt_at7010 := GHeap.ltg g9
   replace ha := r.mono v
   replace hb := o.mono v
   clear hP
   have hP := hK.ok
   clear m
   have m : MemN _ _ _ _ _ := ⟨rfl, Mem.of_get y⟩
   try simp only [Nat.zero_add, List.set_cons_succ, List.set_cons_zero] at g9
   refine .done ?_
   refine o8 _ _ (.seq (fun K11 q5 => .region ?_))
   have sA := pcells_slA aP
   have mk := pcells_mem aP (i := i) (by omega)
   refine .mv rfl (.mv rfl ?_)
   refine .q rfl (.idx sl_124_Yi (by assumption) (by omega) rfl rfl (by omega) (by omega) rfl) ?_
   refine .q rfl (.fieldAddr fo_127_2_Dg rfl) (.q rfl (.load on_24_B rfl (mk.2 2 _ rfl)) (.q rfl (.len sl_24_A rfl) (.q rfl (.cmp rfl rfl rfl) (.nil (q5 _ _ ?_)))))
   refine .cond rfl (fun n4 => ?_) (fun n4 => ?_)
   ·
    simp only [sps] at n4
    obtain ⟨i9, k6, t2, q6⟩ : ∃ i9, i9 = is.set (ps.getD i pz).f.toNat (i : Int) ∧ i9.length = is.length ∧ Bd 0 18 i9 := ⟨_, rfl, by simp, bd_iff.2 fun x hx => by
      rcases List.mem_or_eq_of_mem_set hx with h | rfl
      · exact bd_iff.1 hI x h
      · omega⟩
    have o3 : PIdx ps (i + 1) i9 := by rw [k6]; exact hIx.put (List.eq_nil_of_length_eq_zero (by omega)) o9.1
    refine .regionD mo_B (.q 0 (.q 1 (.q 2 (.q 3 (.q 4 (.q 5 (.q 6 (.q 7 (.q 8 (.c 9 0 (.done))))))))))) (by kernel_rfl) ?_
    refine .q rfl (.fieldAddr fo_27_3_B rfl) ?_
    refine .q rfl (.load on_24_B rfl (by first | assumption | exact Mem.of_get g9 3 _ rfl)) ?_
    refine .mv rfl rfl (.mv rfl rfl ?_)
    refine .q rfl (.idx sl_124_Yi (by assumption) (by omega) rfl rfl (by omega) (by omega) rfl) ?_
    refine .q rfl (.fieldAddr fo_127_0_Dg rfl) (.q rfl (.load on_2_A rfl (mk.2 0 _ rfl)) (.mv rfl rfl ?_))
    refine .q rfl (.idx1 sl_24_A (by first | assumption | exact SlA.of_row l (by first | rfl | (simp; done) | (simp <;> omega))) rfl rfl (by omega) (by omega)) ?_
    refine .r0 rfl rfl rfl (.storeI rfl sz_2_Ch rfl rfl (by assumption) (by first | omega | (simp <;> omega))) ?_
    rintro _ H9009 ⟨rfl, b5, k2⟩
    have nx_H9009 := b5.nx
    replace v := v.st b5 (fun k hk => ⟨by omega, trivial⟩)
    replace c5 := c5.sA b5
    replace b0 := b5.s b0 g0.ne
    replace aP := b5.s aP h6.ne
    replace b6 := b5.s b6 d1.ne
    replace f5 := b5.s f5
    replace h1 := b5.s h1
    replace j3 := b5.s j3
    replace k8 := b5.s k8
    replace g9 := b5.same _ _ ⟨(Ne.symm i6), trivial⟩ g9
    replace d := Keep.st d b5 (fun k hb hk => ⟨(by omega), trivial⟩)
    replace hK := a2.keep d (Nat.le_refl _)
    have lt_at9009 := GHeap.ltg k2
    replace ha := r.mono v
    replace hb := o.mono v
    clear hP
    have hP := hK.ok
    clear m
    have m : MemN _ _ _ _ _ := ⟨rfl, Mem.of_get y⟩
    rw [Nat.zero_add] at k2
    refine .done ?_
    refine r8 _ _ (.region (.mv rfl ?_))
    refine .q rfl (.add rfl rfl rfl (by omega) (by omega)) ?_
    refine .mv rfl (.nil ?_)
    refine m5 ((i + 1, ss ++ [(ps.getD i pz).f], ts ++ [(ps.getD i pz).t], i9, q7, r6)) _ _ ?_ ?_ ⟨rfl, rfl, rfl, rfl, trivial⟩
    ·
     refine ⟨c5, by first | assumption | (rw [k6]; assumption), by first | assumption | exact ⟨.inr (by omega)⟩ | exact ⟨.inl rfl⟩, by first | assumption | (rw [k6]; assumption), by first | assumption | exact ⟨.inr (by omega)⟩ | exact ⟨.inl rfl⟩, by first | assumption | (rw [k6]; assumption), by first | assumption | (rw [k6]; assumption), by first | assumption | omega, by first | assumption | omega, by first | assumption | omega, by first | assumption | omega, by first | assumption | omega, by first | assumption | omega, ?_⟩
     exact ⟨⟨by omega, by simp; omega, by simp; omega, by omega⟩, ⟨hSE.snoc hsl, hTE.snoc htl, o3⟩, hS.snoc o9.1 (by omega), hT.snoc r5.1 (by omega), q6⟩
    (dsimp only; omega)
   simp only [sps] at n4
   obtain ⟨i9, k6, t2, q6⟩ : ∃ i9, i9 = is ∧ i9.length = is.length ∧ Bd 0 18 i9 := ⟨_, rfl, rfl, hI⟩
   have o3 : PIdx ps (i + 1) i9 := by rw [k6]; exact hIx.skip fun e => n4 (by rw [e]; rfl)
   refine .skip ?_
   refine r8 _ _ (.region (.mv rfl ?_))
   refine .q rfl (.add rfl rfl rfl (by omega) (by omega)) ?_
   refine .mv rfl (.nil ?_)
   refine m5 ((i + 1, ss ++ [(ps.getD i pz).f], ts ++ [(ps.getD i pz).t], i9, q7, r6)) _ _ ?_ ?_ ⟨rfl, rfl, rfl, rfl, trivial⟩
   ·
    refine ⟨c5, by first | assumption | (rw [k6]; assumption), by first | assumption | exact ⟨.inr (by omega)⟩ | exact ⟨.inl rfl⟩, by first | assumption | (rw [k6]; assumption), by first | assumption | exact ⟨.inr (by omega)⟩ | exact ⟨.inl rfl⟩, by first | assumption | (rw [k6]; assumption), by first | assumption | (rw [k6]; assumption), by first | assumption | omega, by first | assumption | omega, by first | assumption | omega, by first | assumption | omega, by first | assumption | omega, by first | assumption | omega, ?_⟩
    exact ⟨⟨by omega, by simp; omega, by simp; omega, by omega⟩, ⟨hSE.snoc hsl, hTE.snoc htl, o3⟩, hS.snoc o9.1 (by omega), hT.snoc r5.1 (by omega), q6⟩
   (dsimp only; omega)
  try simp only [sps] at p9
  refine .exit ?_
  refine s9 _ _ (.seq (fun K12 o2 => .seq (fun K13 q4 => .region ?_)))
  have s3 : gLF ≠ h2 := e9.ne' (by omega) (by omega)
  have t0 : gLT ≠ h2 := f0.ne' (by omega) (by omega)
  have r1 : (Cat.mk (n : Int) ss ts is []).In HL1 (ownP gLF gLT h2 j2 fun _ => none) := (OwnCat.catR (b := H.next) ⟨a1, w, l, b6, by omega, by omega, by omega, by omega, by omega, by omega, by omega, .nil _ _ _ _, fun _ h => by simp at h, fun _ h => by simp at h, fun _ h => by simp at h⟩).inn
  refine .q rfl (.loadM ag_27_Hj rfl ⟨rfl, Mem.of_get u⟩) ?_
  refine .callQ rfl rfl rfl rfl @Try.call105 rfl ((by have hh := l02Fits_c (c := Cat.mk (n : Int) ss ts is []) (p := ownP gLF gLT h2 j2 fun _ => none) r1; simp only [Cat.cells, ownP, hsl, htl, hil, List.length_nil] at hh; exact hh)) ?_
  refine .q rfl (.not rfl) (.nil (q4 _ _ ?_))
  refine .cond rfl (fun q8 => ?_) (fun q8 => ?_)
  ·
   exact absurd q8 (by simp [B]; omega)
  try simp only [sps] at q8
  refine .skip ?_
  refine o2 _ _ (.seq (fun K14 p7 => .seq (fun K15 o6 => .region ?_)))
  obtain rfl : i = ps.length := by omega
  refine .mv rfl (.nil (o6 _ _ ?_))
  refine .block ?_
  refine .loopR (σ := Nat × (Nat → Option Addr) × List (List Int) × Nat) [(6, some _), (7, some _), (8, some _)] (fun (f, rr, cs, gLC) => [(10, some (.int .i64 (f : Int)))]) (fun (f, rr, cs, gLC) H' => St [j2, g8] HL1 H' ∧ H'.get gLC = some (.row ((slsL rr cs)) 24 true) ∧ PL gLC j2 HL1.next ∧ H'.get g8 = some (.row ([.int .i64 (n : Int), .slice (some ⟨gLF, 0, none⟩) ps.length ps.length, .slice (some ⟨gLT, 0, none⟩) ps.length ps.length, .slice (some ⟨h2, 0, none⟩) n n, .slice (some ⟨gLC, 0, none⟩) f f]) 27 true) ∧ gLC ≠ g8 ∧ (f ≤ ps.length ∧ cs.length = f) ∧ Tb (-1) 18 ps.length cs ∧ CellsT ss ts cs ∧ OwnL H.next H' 2 rr cs ∧ (∀ j, j < cs.length → rr j ≠ some ⟨gLF, 0, none⟩) ∧ (∀ j, j < cs.length → rr j ≠ some ⟨gLT, 0, none⟩) ∧ ∀ j, j < cs.length → rr j ≠ some ⟨h2, 0, none⟩) (fun (f, rr, cs, gLC) => ps.length - f) ((0, fun _ => none, [], j2)) ⟨rfl, rfl, rfl, trivial⟩ ⟨rfl, trivial⟩ ?_ ?_
  ·
   refine ⟨.refl _ _, by first | assumption | exact b6 | simpa using b6, ⟨.inl rfl⟩, by first | assumption | exact u | simpa using u, by omega, ?_⟩
   exact ⟨⟨by omega, rfl⟩, .nil _ _ _, .nil _ _, .nil _ _ _ _, fun _ h => by simp at h, fun _ h => by simp at h, fun _ h => by simp at h⟩
  rintro ⟨f, rr, cs, gLC⟩ HL2 ⟨a8, a6, g3, u, m4, hI⟩ KL2 q3
  refine .forget (fr' := [(10, some (.int .i64 (f : Int))), (6, some _), (7, some _), (8, some _)]) ⟨rfl, rfl, rfl, rfl, trivial⟩ ?_
  have ge_LC : H.next ≤ gLC := g3.ge (by omega) (by omega)
  have nx_HL2 := a8.nx
  replace v := v.st a8 (fun k hk => ⟨by omega, by omega, trivial⟩)
  have g2 : NE g6 j2 := .a
  replace b0 := a8.same _ _ ⟨g2.ne, c4.ne, trivial⟩ b0
  have h9 : NE gP j2 := .a
  replace aP := a8.same _ _ ⟨h9.ne, c7.ne, trivial⟩ aP
  have d0 : NE j2 gLF := ⟨e9.ne e2.ne (by omega)⟩
  replace a1 := a8.same _ _ ⟨(Ne.symm d0.ne), k3, trivial⟩ a1
  have d2 : NE j2 gLT := ⟨f0.ne e7.ne (by omega)⟩
  replace w := a8.same _ _ ⟨(Ne.symm d2.ne), j5, trivial⟩ w
  replace l := a8.same _ _ ⟨(Ne.symm d1.ne), i6, trivial⟩ l
  replace d := Keep.st d a8 (fun k hb hk => ⟨(by omega), (by omega), trivial⟩)
  replace hK := a2.keep d (Nat.le_refl _)
  have lt_at_LC := GHeap.ltg a6
  have j7 := GHeap.ltg u
  replace ha := r.mono v
  replace hb := o.mono v
  clear hP
  have hP := hK.ok
  clear m
  have m : MemN _ _ _ _ _ := ⟨rfl, Mem.of_get y⟩
  have rk := St.refl [gLC, g8] HL2
  obtain ⟨⟨hf, hcl⟩, hC, hCT, hR, s1, s2, s0⟩ := hI
  have hatC := a6
  have n5 := u
  have hfl : (slsL rr cs).length = cs.length := length_slsL _ _
  refine .seq (fun K16 p6 => .seq (fun K17 o5 => .region (.mv rfl (.mv rfl (.q rfl (.len sl_124_Yi rfl) (.q rfl (.cmp rfl rfl rfl) (.nil (o5 _ _ ?_))))))))
  refine .cond rfl (fun o7 => ?_) (fun o7 => ?_)
  ·
   simp only [sps] at o7
   refine .skip ?_
   refine p6 _ _ (.seq (fun K18 q1 => ?_))
   refine .block ?_
   refine .seq (fun K19 n8 => .region ?_)
   refine .R rfl (.litA rfl sl_24_A ze_2_N rfl rfl rfl rfl) ?_
   rintro _ r3 ⟨k9, rfl, g4, ge79, k1⟩
   have nx_H79 := g4.1
   replace v := v.trans g4
   replace a8 := a8.le g4
   replace rk := rk.le g4
   replace b0 := g4.2 _ _ b0
   replace aP := g4.2 _ _ aP
   replace a1 := g4.2 _ _ a1
   replace w := g4.2 _ _ w
   replace l := g4.2 _ _ l
   replace a6 := g4.2 _ _ a6
   replace u := g4.2 _ _ u
   replace d := Keep.le d g4
   replace hK := a2.keep d (Nat.le_refl _)
   have lt_at79 := GHeap.ltg k1
   replace ha := r.mono v
   replace hb := o.mono v
   clear hP
   have hP := hK.ok
   clear m
   have m : MemN _ _ _ _ _ := ⟨rfl, Mem.of_get y⟩
   replace k1 : GHeap.get r3 k9 = some (.row (ints []) 2 true) := k1
   refine .mv rfl (.nil (n8 _ _ (.seq (fun K20 p2 => .seq (fun K21 p0 => .region (.mv rfl (.nil (p0 _ _ ?_))))))))
   refine .block ?_
   refine .loopR (σ := Nat × List Int × Nat × Nat) [(6, some _), (7, some _), (8, some _), (10, some _)] (fun (g, row, a9, i7) => [(12, some (.int .i64 (g : Int))), (11, some (.slice (some ⟨a9, 0, none⟩) i7 i7))]) (fun (g, row, a9, i7) H' => St [k9] r3 H' ∧ H'.get a9 = some (.row (ints row) 2 true) ∧ PL a9 k9 r3.next ∧ i7 = row.length ∧ (g ≤ ps.length ∧ row.length = g) ∧ CellsR ss ts f row ∧ Bd (-1) 18 row) (fun (g, row, a9, i7) => ps.length - g) ((0, [], _, _)) ⟨rfl, rfl, rfl, rfl, trivial⟩ ⟨rfl, rfl, trivial⟩ ?_ ?_
   ·
    refine ⟨.refl _ _, by first | assumption | exact k1 | simpa using k1, ⟨.inl rfl⟩, by first | rfl | assumption | simp | omega, ?_⟩
    exact ⟨⟨by omega, rfl⟩, .nil _ _ _, .nil _ _⟩
   rintro ⟨g, row, a9, i7⟩ HL3 ⟨b3, a5, a0, l4, hI⟩ KL3 n1
   refine .forget (fr' := [(12, some (.int .i64 (g : Int))), (11, some (.slice (some ⟨a9, 0, none⟩) i7 i7)), (6, some _), (7, some _), (8, some _), (10, some _)]) ⟨rfl, rfl, rfl, rfl, rfl, rfl, trivial⟩ ?_
   have ge_L11 : H.next ≤ a9 := a0.ge (by omega) (by omega)
   have nx_HL3 := b3.nx
   replace v := v.st b3 (fun k hk => ⟨by omega, trivial⟩)
   replace a8 := a8.sA b3
   replace rk := rk.sA b3
   have f7 : NE g6 k9 := .a
   replace b0 := b3.s b0 f7.ne
   have f6 : NE gP k9 := .a
   replace aP := b3.s aP f6.ne
   have e4 : NE gLF k9 := .a
   replace a1 := b3.s a1 e4.ne
   have e1 : NE gLT k9 := .a
   replace w := b3.s w e1.ne
   have e3 : NE h2 k9 := .a
   replace l := b3.s l e3.ne
   have d4 : NE gLC k9 := .a
   replace a6 := b3.s a6 d4.ne
   have d8 : NE g8 k9 := .a
   replace u := b3.s u d8.ne
   replace d := Keep.st d b3 (fun k hb hk => ⟨(by omega), trivial⟩)
   replace hK := a2.keep d (Nat.le_refl _)
   have lt_at_L11 := GHeap.ltg a5
   replace ha := r.mono v
   replace hb := o.mono v
   clear hP
   have hP := hK.ok
   clear m
   have m : MemN _ _ _ _ _ := ⟨rfl, Mem.of_get y⟩
   obtain ⟨⟨hg, hrl⟩, hCR, hW⟩ := hI
   refine .seq (fun K22 o1 => .seq (fun K23 p3 => .region (.mv rfl (.mv rfl (.q rfl (.len sl_124_Yi rfl) (.q rfl (.cmp rfl rfl rfl) (.nil (p3 _ _ ?_))))))))
   refine .cond rfl (fun n6 => ?_) (fun n6 => ?_)
   ·
    simp only [sps] at n6
    refine .skip ?_
    refine o1 _ _ (.seq (fun K24 m1 => ?_))
    refine .block ?_
    refine .seq (fun K25 q0 => .region (.mv rfl (.nil (q0 _ _ (.seq (fun K26 n2 => .seq (fun K27 q2 => ?_)))))))
    refine .regionD mo_B (.q 0 (.q 1 (.q 2 (.q 3 (.q 4 (.q 5 (.q 6 (.q 7 (.q 8 (.q 9 (.q 10 (.done)))))))))))) (by kernel_rfl) ?_
    have sA := pcells_slA aP
    have mf := pcells_mem aP (i := f) (by omega)
    have mg := pcells_mem aP (i := g) (by omega)
    refine .mv rfl rfl (.mv rfl rfl ?_)
    refine .q rfl (.idx sl_124_Yi (by assumption) (by omega) rfl rfl (by omega) (by omega) rfl) ?_
    refine .q rfl (.fieldAddr fo_127_1_Dg rfl) (.q rfl (.load on_2_A rfl (mf.2 1 _ rfl)) (.mv rfl rfl (.mv rfl rfl ?_)))
    refine .q rfl (.idx sl_124_Yi (by assumption) (by omega) rfl rfl (by omega) (by omega) rfl) ?_
    refine .q rfl (.fieldAddr fo_127_0_Dg rfl) (.q rfl (.load on_2_A rfl (mg.2 0 _ rfl)) (.q rfl (.cmp rfl rfl rfl) ?_))
    refine .done ?_
    refine q2 _ _ ?_
    refine .cond rfl (fun l9 => ?_) (fun l9 => ?_)
    ·
     simp only [sps] at l9
     refine .seq (fun K28 r4 => ?_)
     refine .regionD mo_B (.q 0 (.q 1 (.q 2 (.q 3 (.q 4 (.q 6 (.q 7 (.q 8 (.q 9 (.q 10 (.c 5 1 (.c 11 0 (.q 12 (.done)))))))))))))) (by kernel_rfl) ?_
     have pf := hP.at (i := f) (by omega)
     have pg := hP.at (i := g) (by omega)
     have pf3 := pf.2.2.1
     have pg3 := pg.2.2.1
     refine .mv rfl rfl (.mv rfl rfl ?_)
     refine .q rfl (.idx sl_124_Yi (by assumption) (by omega) rfl rfl (by omega) (by omega) rfl) ?_
     refine .q rfl (.fieldAddr fo_127_2_Dg rfl) (.q rfl (.load on_24_B rfl (mf.2 2 _ rfl)) (.mv rfl rfl (.mv rfl rfl ?_)))
     refine .q rfl (.idx sl_124_Yi (by assumption) (by omega) rfl rfl (by omega) (by omega) rfl) ?_
     refine .q rfl (.fieldAddr fo_127_2_Dg rfl) (.q rfl (.load on_24_B rfl (mg.2 2 _ rfl)) ?_)
     refine .call1 rfl rfl rfl rfl rfl @Try.call108 rfl (l01Own_c (Ints.of_get pf.2.2.2.2)) ?_
     rintro _ H102 ⟨b7, g102, rfl, j1, ge102⟩
     have m7 := b7
     refine ⟨m7, ?_⟩
     have nx_H102 := b7.1
     replace v := v.trans b7
     replace a8 := a8.le b7
     replace rk := rk.le b7
     replace b3 := b3.le b7
     replace b0 := b7.2 _ _ b0
     replace aP := b7.2 _ _ aP
     replace a1 := b7.2 _ _ a1
     replace w := b7.2 _ _ w
     replace l := b7.2 _ _ l
     replace a6 := b7.2 _ _ a6
     replace u := b7.2 _ _ u
     replace a5 := b7.2 _ _ a5
     replace d := Keep.le d b7
     replace hK := a2.keep d (Nat.le_refl _)
     have lt_at102 := GHeap.ltg j1
     replace ha := r.mono v
     replace hb := o.mono v
     clear hP
     have hP := hK.ok
     clear m
     have m : MemN _ _ _ _ _ := ⟨rfl, Mem.of_get y⟩
     have j9 := Ints.of_get j1
     have iG := Ints.of_get (hP.at (i := g) (by omega)).2.2.2.2
     refine .c0 rfl rfl rfl rfl (.appendL rfl sl_24_A ze_2_N rfl by_2_N sl_24_A rfl rfl (by assumption) (by first | assumption | exact Ints.of_get (by assumption)) (by first | omega | (simp <;> omega)) (by omega) (by omega)) ?_
     rintro _ o4 ⟨g108, rfl, c6, ge108, h5⟩
     have nx_H108 := c6.nx
     replace v := v.st c6 (fun k hk => ⟨by omega, trivial⟩)
     replace a8 := a8.sA c6
     replace rk := rk.sA c6
     replace b3 := b3.sA c6
     replace b0 := c6.s b0
     replace aP := c6.s aP
     replace a1 := c6.s a1
     replace w := c6.s w
     replace l := c6.s l
     replace a6 := c6.s a6
     replace u := c6.s u
     replace a5 := c6.s a5
     replace d := Keep.st d c6 (fun k hb hk => ⟨(by omega), trivial⟩)
     replace hK := a2.keep d (Nat.le_refl _)
     have lt_at108 := GHeap.ltg h5
     replace ha := r.mono v
     replace hb := o.mono v
     clear hP
     have hP := hK.ok
     clear m
     have m : MemN _ _ _ _ _ := ⟨rfl, Mem.of_get y⟩
     clear j9
     have j9 := Ints.of_get j1
     refine .mv rfl rfl ?_
     refine .done ?_
     refine r4 _ _ (.seq (fun K29 p4 => .region (.mv rfl (.nil (p4 _ _ ?_)))))
     refine .block ?_
     refine .loopR (σ := Nat × Int) [(6, some _), (7, some _), (8, some _), (10, some _), (11, some _), (12, some _), (14, some _)] (fun (k, h3) => [(15, some (.int .i64 (k : Int))), (13, some (.int .i64 h3))]) (fun (k, h3) H' => o4 = H' ∧ k ≤ ps.length ∧ PLast ps (ps.getD f pz).f ((ps.getD f pz).e ++ (ps.getD g pz).e) k h3) (fun (k, h3) => ps.length - k) ((0, -1)) ⟨rfl, rfl, rfl, rfl, rfl, rfl, rfl, trivial⟩ ⟨rfl, rfl, trivial⟩ ?_ ?_
     ·
      refine ⟨rfl, ?_⟩
      exact ⟨by omega, .zero _ _ _⟩
     rintro ⟨k, h3⟩ _ ⟨rfl, hI⟩ KL4 l6
     refine .forget (fr' := [(15, some (.int .i64 (k : Int))), (13, some (.int .i64 h3)), (6, some _), (7, some _), (8, some _), (10, some _), (11, some _), (12, some _), (14, some _)]) ⟨rfl, rfl, rfl, rfl, rfl, rfl, rfl, rfl, rfl, trivial⟩ ?_
     obtain ⟨hk, hPL⟩ := hI
     have n3 : -1 ≤ h3 ∧ h3 ≤ 18 := by have := hPL.bd; omega
     have m0 : h3 = h3 := rfl
     refine .seq (fun K30 p8 => .seq (fun K31 r2 => .region (.mv rfl (.mv rfl (.q rfl (.len sl_124_Yi rfl) (.q rfl (.cmp rfl rfl rfl) (.nil (r2 _ _ ?_))))))))
     refine .cond rfl (fun l2 => ?_) (fun l2 => ?_)
     ·
      simp only [sps] at l2
      refine .skip ?_
      refine p8 _ _ (.seq (fun K32 l3 => ?_))
      refine .block ?_
      refine .seq (fun K33 m8 => ?_)
      refine .regionD mo_B (.q 0 (.q 1 (.q 2 (.q 3 (.q 4 (.q 5 (.q 6 (.q 7 (.q 8 (.q 9 (.q 10 (.q 11 (.q 12 (.q 13 (.q 14 (.q 15 (.q 16 (.q 17 (.c 18 0 (.q 19 (.done))))))))))))))))))))) (by kernel_rfl) ?_
      have sA := pcells_slA aP
      have mk := pcells_mem aP (i := k) (by omega)
      have mf := pcells_mem aP (i := f) (by omega)
      have pk := hP.at (i := k) (by omega)
      have pk3 := pk.2.2.1
      refine .mv rfl rfl (.mv rfl rfl ?_)
      refine .q rfl (.idx sl_124_Yi (by assumption) (by omega) rfl rfl (by omega) (by omega) rfl) ?_
      refine .q rfl (.fieldAddr fo_127_0_Dg rfl) (.q rfl (.load on_2_A rfl (mk.2 0 _ rfl)) (.mv rfl rfl (.mv rfl rfl ?_)))
      refine .q rfl (.idx sl_124_Yi (by assumption) (by omega) rfl rfl (by omega) (by omega) rfl) ?_
      refine .q rfl (.fieldAddr fo_127_0_Dg rfl) (.q rfl (.load on_2_A rfl (mf.2 0 _ rfl)) (.q rfl (.cmp rfl rfl rfl) (.mv rfl rfl ?_)))
      refine .split (fun i4 => ?_) (fun i4 => ?_)
      ·
       simp only [sps] at i4
       refine .qg rfl (.move rfl) (.qg rfl (.move rfl) ?_)
       refine .qg rfl (.idx sl_124_Yi (by assumption) (by omega) rfl rfl (by omega) (by omega) rfl) ?_
       refine .qg rfl (.fieldAddr fo_127_2_Dg rfl) (.qg rfl (.load on_24_B rfl (mk.2 2 _ rfl)) (.qg rfl (.move rfl) ?_))
       refine .callQ0g rfl rfl rfl rfl rfl rfl rfl @Try.call131 rfl ((by have hh := l01Same_c (h := Ints.of_get pk.2.2.2.2) (h' := Ints.of_get h5) (hy := by rw [List.length_append]; omega); rw [List.length_append] at hh; exact hh)) ?_
       refine .q rfl (.pickT rfl rfl) ?_
       refine .done ?_
       refine m8 _ _ ?_
       refine .cond rfl (fun i2 => ?_) (fun i2 => ?_)
       ·
        simp only [sps] at i2
        refine .region (.mv rfl (.mv rfl (.nil (l3 _ _ (.region (.mv rfl ?_))))))
        refine .q rfl (.add rfl rfl rfl (by omega) (by omega)) ?_
        refine .mv rfl (.nil ?_)
        refine l6 ((k + 1, _)) _ _ ?_ ?_ ⟨rfl, rfl, rfl, rfl, rfl, rfl, rfl, rfl, rfl, trivial⟩
        ·
         refine ⟨rfl, ?_⟩
         first
         | exact ⟨by omega, .put i4 i2⟩
         | exact ⟨by omega, hPL.skip fun hh => i2 hh.2⟩
         | exact ⟨by omega, hPL.skip fun hh => i4 hh.1⟩
        (dsimp only; omega)
       simp only [sps] at i2
       refine .skip ?_
       refine l3 _ _ (.region (.mv rfl ?_))
       refine .q rfl (.add rfl rfl rfl (by omega) (by omega)) ?_
       refine .mv rfl (.nil ?_)
       refine l6 ((k + 1, _)) _ _ ?_ ?_ ⟨rfl, rfl, rfl, rfl, rfl, rfl, rfl, rfl, rfl, trivial⟩
       ·
        refine ⟨rfl, ?_⟩
        first
        | exact ⟨by omega, .put i4 i2⟩
        | exact ⟨by omega, hPL.skip fun hh => i2 hh.2⟩
        | exact ⟨by omega, hPL.skip fun hh => i4 hh.1⟩
       (dsimp only; omega)
      simp only [sps] at i4
      refine .z rfl (.z rfl (.z rfl (.z rfl (.z rfl (.z rfl (.sgc rfl rfl rfl rfl rfl rfl (.q rfl (.pickF rfl rfl) ?_)))))))
      refine .done ?_
      refine m8 _ _ ?_
      refine .condF rfl ?_
      refine .skip ?_
      refine l3 _ _ (.region (.mv rfl ?_))
      refine .q rfl (.add rfl rfl rfl (by omega) (by omega)) ?_
      refine .mv rfl (.nil ?_)
      refine l6 ((k + 1, _)) _ _ ?_ ?_ ⟨rfl, rfl, rfl, rfl, rfl, rfl, rfl, rfl, rfl, trivial⟩
      ·
       refine ⟨rfl, ?_⟩
       first
       | exact ⟨by omega, .put i4 i2⟩
       | exact ⟨by omega, hPL.skip fun hh => i2 hh.2⟩
       | exact ⟨by omega, hPL.skip fun hh => i4 hh.1⟩
      (dsimp only; omega)
     try simp only [sps] at l2
     refine .exit ?_
     refine n2 _ _ (.region ?_)
     have m6 := a5
     refine .mv rfl (.mv rfl ?_)
     refine .R rfl (.litA rfl sl_24_A ze_2_N rfl rfl rfl rfl) ?_
     rintro _ H138 ⟨g138, rfl, c2, ge138, k4⟩
     have nx_H138 := c2.1
     replace v := v.trans c2
     replace a8 := a8.le c2
     replace rk := rk.le c2
     replace b3 := b3.le c2
     replace b0 := c2.2 _ _ b0
     replace aP := c2.2 _ _ aP
     replace a1 := c2.2 _ _ a1
     replace w := c2.2 _ _ w
     replace l := c2.2 _ _ l
     replace a6 := c2.2 _ _ a6
     replace u := c2.2 _ _ u
     replace a5 := c2.2 _ _ a5
     replace h5 := c2.2 _ _ h5
     replace d := Keep.le d c2
     replace hK := a2.keep d (Nat.le_refl _)
     have lt_at138 := GHeap.ltg k4
     replace ha := r.mono v
     replace hb := o.mono v
     clear hP
     have hP := hK.ok
     clear m
     have m : MemN _ _ _ _ _ := ⟨rfl, Mem.of_get y⟩
     clear j9
     have j9 := Ints.of_get j1
     refine .R rfl (.appendI rfl sl_24_A ze_2_N rfl by_2_N sl_24_A rfl rfl (by assumption) (by assumption) (by first | omega | (simp <;> omega)) (by omega) (by omega)) ?_
     rintro _ H139 ⟨g139, rfl, b9, ge139, n0⟩
     have nx_H139 := b9.nx
     replace v := v.st b9 (fun k hk => ⟨by omega, trivial⟩)
     replace a8 := a8.sP b9
     replace rk := rk.sP b9
     replace b3 := b3.sP b9
     have e0 : NE g6 a9 := ⟨a0.ne f7.ne (by omega)⟩
     replace b0 := b9.s b0 e0.ne
     have e8 : NE gP a9 := ⟨a0.ne f6.ne (by omega)⟩
     replace aP := b9.s aP e8.ne
     have d7 : NE gLF a9 := ⟨a0.ne e4.ne (by omega)⟩
     replace a1 := b9.s a1 d7.ne
     have d5 : NE gLT a9 := ⟨a0.ne e1.ne (by omega)⟩
     replace w := b9.s w d5.ne
     have d6 : NE h2 a9 := ⟨a0.ne e3.ne (by omega)⟩
     replace l := b9.s l d6.ne
     have b2 : NE gLC a9 := ⟨a0.ne d4.ne (by omega)⟩
     replace a6 := b9.s a6 b2.ne
     have b8 : NE g8 a9 := ⟨a0.ne d8.ne (by omega)⟩
     replace u := b9.s u b8.ne
     replace h5 := b9.s h5
     replace k4 := b9.s k4
     replace d := Keep.st d b9 (fun k hb hk => ⟨(by first | exact a0.ne (by omega) (by omega) | omega), trivial⟩)
     replace hK := a2.keep d (Nat.le_refl _)
     have lt_at139 := GHeap.ltg n0
     replace ha := r.mono v
     replace hb := o.mono v
     clear hP
     have hP := hK.ok
     clear m
     have m : MemN _ _ _ _ _ := ⟨rfl, Mem.of_get y⟩
     clear j9
     have j9 := Ints.of_get j1
     refine .mv rfl (.nil (m1 _ _ (.region (.mv rfl ?_))))
     refine .q rfl (.add rfl rfl rfl (by omega) (by omega)) ?_
     refine .mv rfl (.nil ?_)
     refine n1 ((g + 1, row ++ [h3], _, _)) _ _ ?_ ?_ ⟨rfl, rfl, rfl, rfl, rfl, rfl, trivial⟩
     ·
      refine ⟨b3, by first | assumption | (rw [m0]; assumption), by first | assumption | exact ⟨.inr (by omega)⟩ | exact ⟨.inl rfl⟩, by first | omega | (simp only [List.length_append, List.length_cons, List.length_nil] <;> omega) | (rw [m0] <;> (first | omega | (simp only [List.length_append, List.length_cons, List.length_nil] <;> omega))), ?_⟩
      have p1 : CellV ss ts f g h3 := by
        first
          | exact r9
          | exact path_cell hPS hSE hTE hsl htl (by omega) (by omega) l9 ((show k = ps.length by omega) ▸ hPL)
      exact ⟨⟨by omega, by simp; omega⟩, hCR.snoc (by rw [hrl]; exact p1), hW.snoc (by omega) (by omega)⟩
     (dsimp only; omega)
    simp only [sps] at l9
    obtain ⟨h3, m0, n3⟩ : ∃ h3 : Int, h3 = -1 ∧ -1 ≤ h3 ∧ h3 ≤ 18 := ⟨_, rfl, by omega, by omega⟩
    have r9 : CellV ss ts f g h3 := by rw [m0]; exact path_neg hSE hTE hsl htl (by omega) (by omega) l9
    refine .skip ?_
    refine n2 _ _ (.region ?_)
    have m6 := a5
    refine .mv rfl (.mv rfl ?_)
    refine .R rfl (.litA rfl sl_24_A ze_2_N rfl rfl rfl rfl) ?_
    rintro _ H138x2 ⟨g138x2, rfl, a3, ge138x2, i3⟩
    have nx_H138x2 := a3.1
    replace v := v.trans a3
    replace a8 := a8.le a3
    replace rk := rk.le a3
    replace b3 := b3.le a3
    replace b0 := a3.2 _ _ b0
    replace aP := a3.2 _ _ aP
    replace a1 := a3.2 _ _ a1
    replace w := a3.2 _ _ w
    replace l := a3.2 _ _ l
    replace a6 := a3.2 _ _ a6
    replace u := a3.2 _ _ u
    replace a5 := a3.2 _ _ a5
    replace d := Keep.le d a3
    replace hK := a2.keep d (Nat.le_refl _)
    have lt_at138x2 := GHeap.ltg i3
    replace ha := r.mono v
    replace hb := o.mono v
    clear hP
    have hP := hK.ok
    clear m
    have m : MemN _ _ _ _ _ := ⟨rfl, Mem.of_get y⟩
    refine .R rfl (.appendI rfl sl_24_A ze_2_N rfl by_2_N sl_24_A rfl rfl (by assumption) (by assumption) (by first | omega | (simp <;> omega)) (by omega) (by omega)) ?_
    rintro _ H139x2 ⟨g139x2, rfl, a4, ge139x2, l1⟩
    have nx_H139x2 := a4.nx
    replace v := v.st a4 (fun k hk => ⟨by omega, trivial⟩)
    replace a8 := a8.sP a4
    replace rk := rk.sP a4
    replace b3 := b3.sP a4
    have e0 : NE g6 a9 := ⟨a0.ne f7.ne (by omega)⟩
    replace b0 := a4.s b0 e0.ne
    have e8 : NE gP a9 := ⟨a0.ne f6.ne (by omega)⟩
    replace aP := a4.s aP e8.ne
    have d7 : NE gLF a9 := ⟨a0.ne e4.ne (by omega)⟩
    replace a1 := a4.s a1 d7.ne
    have d5 : NE gLT a9 := ⟨a0.ne e1.ne (by omega)⟩
    replace w := a4.s w d5.ne
    have d6 : NE h2 a9 := ⟨a0.ne e3.ne (by omega)⟩
    replace l := a4.s l d6.ne
    have b2 : NE gLC a9 := ⟨a0.ne d4.ne (by omega)⟩
    replace a6 := a4.s a6 b2.ne
    have b8 : NE g8 a9 := ⟨a0.ne d8.ne (by omega)⟩
    replace u := a4.s u b8.ne
    replace i3 := a4.s i3
    replace d := Keep.st d a4 (fun k hb hk => ⟨(by first | exact a0.ne (by omega) (by omega) | omega), trivial⟩)
    replace hK := a2.keep d (Nat.le_refl _)
    have lt_at139x2 := GHeap.ltg l1
    replace ha := r.mono v
    replace hb := o.mono v
    clear hP
    have hP := hK.ok
    clear m
    have m : MemN _ _ _ _ _ := ⟨rfl, Mem.of_get y⟩
    refine .mv rfl (.nil (m1 _ _ (.region (.mv rfl ?_))))
    refine .q rfl (.add rfl rfl rfl (by omega) (by omega)) ?_
    refine .mv rfl (.nil ?_)
    refine n1 ((g + 1, row ++ [h3], _, _)) _ _ ?_ ?_ ⟨rfl, rfl, rfl, rfl, rfl, rfl, trivial⟩
    ·
     refine ⟨b3, by first | assumption | (rw [m0]; assumption), by first | assumption | exact ⟨.inr (by omega)⟩ | exact ⟨.inl rfl⟩, by first | omega | (simp only [List.length_append, List.length_cons, List.length_nil] <;> omega) | (rw [m0] <;> (first | omega | (simp only [List.length_append, List.length_cons, List.length_nil] <;> omega))), ?_⟩
     have p1 : CellV ss ts f g h3 := by
       first
         | exact r9
         | exact path_cell hPS hSE hTE hsl htl (by omega) (by omega) l9 ((show k = ps.length by omega) ▸ hPL)
     exact ⟨⟨by omega, by simp; omega⟩, hCR.snoc (by rw [hrl]; exact p1), hW.snoc (by omega) (by omega)⟩
    (dsimp only; omega)
   try simp only [sps] at n6
   refine .exit ?_
   refine p2 _ _ (.region ?_)
   obtain rfl : g = ps.length := by omega
   obtain rfl := l4
   refine .q rfl (.fieldAddr fo_27_4_B rfl) ?_
   refine .q rfl (.load on_25_B rfl (by first | assumption | exact Mem.of_get u 4 _ rfl)) ?_
   refine .mv rfl ?_
   refine .R rfl (.litA rfl sl_25_B ze_24_Hj rfl rfl rfl rfl) ?_
   rintro _ H143 ⟨g143, rfl, c8, ge143, i8⟩
   have nx_H143 := c8.1
   replace v := v.trans c8
   replace a8 := a8.le c8
   replace rk := rk.le c8
   replace b0 := c8.2 _ _ b0
   replace aP := c8.2 _ _ aP
   replace a1 := c8.2 _ _ a1
   replace w := c8.2 _ _ w
   replace l := c8.2 _ _ l
   replace a6 := c8.2 _ _ a6
   replace u := c8.2 _ _ u
   replace a5 := c8.2 _ _ a5
   replace d := Keep.le d c8
   replace hK := a2.keep d (Nat.le_refl _)
   have lt_at143 := GHeap.ltg i8
   replace ha := r.mono v
   replace hb := o.mono v
   clear hP
   have hP := hK.ok
   clear m
   have m : MemN _ _ _ _ _ := ⟨rfl, Mem.of_get y⟩
   refine .R rfl (.appendV rfl sl_25_B ze_24_Hj rfl by_24_Hj sl_25_B rfl rfl (by assumption) (by assumption) (by first | omega | (simp <;> omega)) rfl rfl (by omega) (by omega)) ?_
   rintro _ H144 ⟨q9, rfl, c9, ge144, k0⟩
   have nx_H144 := c9.nx
   replace v := v.st c9 (fun k hk => ⟨by omega, trivial⟩)
   replace a8 := a8.sP c9
   replace rk := rk.sP c9
   have f1 : NE g6 gLC := ⟨g3.ne g2.ne (by omega)⟩
   replace b0 := c9.s b0 f1.ne
   replace aP := c9.same _ _ ⟨(g3.ne h9.ne (by omega)), trivial⟩ aP
   replace a1 := c9.same _ _ ⟨(g3.ne (Ne.symm d0.ne) (by omega)), trivial⟩ a1
   replace w := c9.same _ _ ⟨(g3.ne (Ne.symm d2.ne) (by omega)), trivial⟩ w
   replace l := c9.same _ _ ⟨(g3.ne (Ne.symm d1.ne) (by omega)), trivial⟩ l
   replace u := c9.same _ _ ⟨(Ne.symm m4), trivial⟩ u
   have b2 : NE gLC a9 := ⟨a0.ne d4.ne (by omega)⟩
   replace a5 := c9.s a5 (Ne.symm b2.ne)
   replace i8 := c9.s i8
   replace d := Keep.st d c9 (fun k hb hk => ⟨(by first | exact g3.ne (by omega) (by omega) | omega), trivial⟩)
   replace hK := a2.keep d (Nat.le_refl _)
   have lt_at144 := GHeap.ltg k0
   replace ha := r.mono v
   replace hb := o.mono v
   clear hP
   have hP := hK.ok
   clear m
   have m : MemN _ _ _ _ _ := ⟨rfl, Mem.of_get y⟩
   refine .q rfl (.fieldAddr fo_27_4_B rfl) ?_
   refine .r0 rfl rfl (.storeR rfl sz_25_Ch rfl rfl rfl (by assumption) (by first | exact Nat.le_of_ble_eq_true rfl | (simp; done) | (simp <;> omega))) ?_
   rintro _ H28006 ⟨rfl, a7, j6⟩
   have nx_H28006 := a7.nx
   replace v := v.st a7 (fun k hk => ⟨by omega, trivial⟩)
   replace a8 := a8.sA a7
   replace rk := rk.sA a7
   replace b0 := a7.s b0 c4.ne
   replace aP := a7.s aP c7.ne
   replace a1 := a7.same _ _ ⟨k3, trivial⟩ a1
   replace w := a7.same _ _ ⟨j5, trivial⟩ w
   replace l := a7.same _ _ ⟨i6, trivial⟩ l
   have b8 : NE g8 a9 := ⟨a0.ne d8.ne (by omega)⟩
   replace a5 := a7.s a5 (Ne.symm b8.ne)
   replace i8 := a7.s i8
   replace k0 := a7.s k0
   replace d := Keep.st d a7 (fun k hb hk => ⟨(by omega), trivial⟩)
   replace hK := a2.keep d (Nat.le_refl _)
   have lt_at28006 := GHeap.ltg j6
   replace ha := r.mono v
   replace hb := o.mono v
   clear hP
   have hP := hK.ok
   clear m
   have m : MemN _ _ _ _ _ := ⟨rfl, Mem.of_get y⟩
   try simp only [Nat.zero_add, List.set_cons_succ, List.set_cons_zero] at j6
   refine .nil (q1 _ _ (.region (.mv rfl ?_)))
   refine .q rfl (.add rfl rfl rfl (by omega) (by omega)) ?_
   refine .mv rfl (.nil ?_)
   refine q3 ((f + 1, upd rr cs.length (some ⟨a9, 0, none⟩), cs ++ [row], q9)) _ _ ?_ ?_ ⟨rfl, rfl, rfl, rfl, trivial⟩
   ·
    refine ⟨a8, by first | assumption | (rw [slsL_snoc]; assumption), by first | assumption | exact ⟨.inr (by omega)⟩ | exact ⟨.inl rfl⟩, by first | assumption | (rw [slsL_snoc]; assumption), by first | assumption | omega, ?_⟩
    have hR' := hR.st rk (.cons (hR.neT hatC rfl) (.cons (hR.neT n5 rfl) (.nil _ _)))
    have t1 := hR.ne (g := a9) (a0.ge (by omega) (by omega))
    have hx1 : a9 ≠ gLF := a0.ne' (by omega) (by omega)
    have hx2 : a9 ≠ gLT := a0.ne' (by omega) (by omega)
    have hx3 : a9 ≠ h2 := a0.ne' (by omega) (by omega)
    exact ⟨⟨by omega, by simp; omega⟩, hC.snoc (by omega) hW, hCT.snoc (by rw [hcl]; exact hCR), hR'.snoc2 (by assumption) t1 (by omega), ne_snoc s1 (by omega), ne_snoc s2 (by omega), ne_snoc s0 (by omega)⟩
   (dsimp only; omega)
  try simp only [sps] at o7
  refine .exit ?_
  refine p7 _ _ (.seq (fun K34 n9 => .region ?_))
  refine .q rfl (.loadM ag_27_Hj rfl ⟨rfl, Mem.of_get u⟩) ?_
  refine .r0 rfl rfl (.fillA rfl sz_27_D rfl rfl rfl rfl) ?_
  rintro _ H29001 ⟨rfl, b1, i5⟩
  have nx_H29001 := b1.nx
  replace v := v.st b1 (fun k hk => ⟨by omega, trivial⟩)
  replace aP := b1.s aP
  have f2 : NE g6 gLF := ⟨e9.ne f3.ne (by omega)⟩
  replace a1 := b1.s a1 (Ne.symm f2.ne)
  have f8 : NE g6 gLT := ⟨f0.ne f9.ne (by omega)⟩
  replace w := b1.s w (Ne.symm f8.ne)
  replace l := b1.s l (Ne.symm g0.ne)
  have f1 : NE g6 gLC := ⟨g3.ne g2.ne (by omega)⟩
  replace a6 := b1.s a6 (Ne.symm f1.ne)
  replace u := b1.s u (Ne.symm c4.ne)
  replace d := Keep.st d b1 (fun k hb hk => ⟨(by omega), trivial⟩)
  replace hK := a2.keep d (Nat.le_refl _)
  have lt_at29001 := GHeap.ltg i5
  replace ha := r.mono v
  replace hb := o.mono v
  clear hP
  have hP := hK.ok
  clear m
  have m : MemN _ _ _ _ _ := ⟨rfl, Mem.of_get y⟩
  have mm29001 : MemN _ _ _ _ _ := ⟨rfl, Mem.of_get i5⟩
  refine .nil (n9 _ _ ?_)
  refine .ret ?_
  refine o0 _ _ ?_
  refine ⟨_, _, _, _, rfl, ag_27_Hj, (by rfl), (Mem.of_get i5), ?_⟩
  obtain rfl : f = ps.length := by omega
  have s3 : gLF ≠ h2 := e9.ne' (by omega) (by omega)
  have t0 : gLT ≠ h2 := f0.ne' (by omega) (by omega)
  have n7 := b0
  have hR' := hR.st b1 (.cons (hR.neT n7 rfl) (.nil _ _))
  exact ⟨⟨n, ss, ts, is, cs⟩, ⟨⟨rect_mk (by omega) (by omega) (by omega) (hS.mono (by omega) (by omega)) (hT.mono (by omega) (by omega)) (by omega) (hI.mono (by omega) (by omega)) (by omega) (by rw [hsl]; exact hC.mono (by omega) (by omega)), .mk' (by omega) hS hT (by omega) (path_ids hPS hSE hTE hsl htl hil hIx) (by omega) (fun f hf => by rw [(hC f hf).1, hsl]) hCT⟩, rfl⟩, v, gLF, gLT, h2, gLC, rr, by simp [Cat.cells, ownP, hsl, htl, hil, hcl], ⟨a1, w, l, a6, by omega, by omega, by omega, by omega, by omega, by omega, by omega, hR', s1, s2, s0⟩⟩
end Go.Proofs.Ytfanjkbaemhbmaa
