/- Parts of set functors. No condition but those of each statement. -/
import Derived.Test.YtiooclghkafokaaZ8
namespace Go.Proofs.Ytiooclghkafokaa
open Go Go.GL Go.RowKit Go.Proofs
theorem rising_c {a : Option Addr} {xs : List Int} {H : GHeap} (h : Ints H a xs := by assumption) (hl : xs.length ≤ 1048576 := by omega) :
    GCalls Try.prog 195 [.slice a xs.length xs.length] H (Ret (.bool (B (Rising xs))) H) := by
  refine GCalls.body (N := 20) (rs := [.tmp 2]) Try.func195 rfl rfl rfl rfl (fun Qx c hend => ?_)
  refine .fg [0] rfl ?_
  refine .seq (fun K1 p => .region (.mv rfl (.nil (p _ _ (.seq (fun K2 r => .seq (fun K3 f => .region (.mv rfl (.nil (f _ _ ?_))))))))))
  refine .block ?_
  refine .loopR (σ := Nat) [(0, some _)] (fun k => [(3, some (.int .i64 (k : Int)))]) (fun k H' => H = H' ∧ 1 ≤ k ∧ k ≤ xs.length + 1 ∧ ∀ i, 1 ≤ i → i < k → i < xs.length → xs.getD (i - 1) 0 < xs.getD i 0) (fun k => xs.length + 1 - k) (1) ⟨rfl, trivial⟩ ⟨rfl, trivial⟩ ?_ ?_
  ·
   refine ⟨rfl, ?_⟩
   exact ⟨by omega, by omega, fun _ _ _ => by omega⟩
  rintro k _ ⟨rfl, hI⟩ KL1 d
  refine .forget (fr' := [(3, some (.int .i64 (k : Int))), (0, some _)]) ⟨rfl, rfl, trivial⟩ ?_
  obtain ⟨hk0, hk, ha⟩ := hI
  have ek : ((k : Int) - 1).toNat = k - 1 := by omega
  refine .seq (fun K4 m => .seq (fun K5 n => .region (.mv rfl (.mv rfl (.q rfl (.len sl_24_A rfl) (.q rfl (.cmp rfl rfl rfl) (.nil (n _ _ ?_))))))))
  refine .cond rfl (fun h7 => ?_) (fun h7 => ?_)
  ·
   try simp only [sps] at h7
   refine .skip ?_
   refine m _ _ (.seq (fun K6 j => ?_))
   refine .block ?_
   refine .seq (fun K7 l => ?_)
   refine .regionD mo_B (.q 0 (.q 1 (.q 2 (.q 3 (.q 4 (.q 5 (.q 6 (.q 7 (.q 8 (.q 9 (.done))))))))))) (by kernel_rfl) ?_
   refine .mv rfl rfl (.mv rfl rfl ?_)
   refine .q rfl (.sub rfl rfl rfl (by omega) (by omega)) ?_
   refine .q rfl (.idx1 sl_24_A (by assumption) rfl rfl (by omega) (by omega)) ?_
   refine .q rfl (.loadI on_2_A (by assumption) rfl (by omega)) ?_
   refine .mv rfl rfl (.mv rfl rfl ?_)
   refine .q rfl (.idxN sl_24_A (by assumption) rfl rfl (by omega)) ?_
   refine .q rfl (.loadI on_2_A (by assumption) rfl (by omega)) ?_
   refine .q rfl (.cmp rfl rfl rfl) ?_
   refine .done ?_
   refine l _ _ ?_
   refine .cond rfl (fun b => ?_) (fun b => ?_)
   ·
    try simp only [sps] at b
    refine .seq (fun K8 o => .region (.mv rfl (.nil (o _ _ ?_))))
    refine .ret ?_
    refine c _ _ ?_
    refine ⟨_, rfl, ?_⟩
    exact .of (congrArg _ (B_false fun hh => by have := hh k (by omega) (by omega); rw [ek] at b; omega))
   try simp only [sps] at b
   refine .skip ?_
   refine j _ _ (.region (.mv rfl ?_))
   refine .q rfl (.add rfl rfl rfl (by omega) (by omega)) ?_
   refine .mv rfl (.nil ?_)
   refine d (k + 1) _ _ ?_ ?_ ⟨rfl, rfl, trivial⟩
   ·
    refine ⟨rfl, ?_⟩
    refine ⟨by omega, by omega, fun i h1 hi h2 => ?_⟩
    by_cases e : i < k
    · exact ha i h1 e h2
    · obtain rfl : i = k := by omega
      rw [ek] at b
      exact b
   omega
  try simp only [sps] at h7
  refine .exit ?_
  refine r _ _ (.seq (fun K9 g => .region (.mv rfl (.nil (g _ _ ?_)))))
  refine .ret ?_
  refine c _ _ ?_
  refine ⟨_, rfl, ?_⟩
  exact .of (congrArg _ (B_true fun i h1 h2 => ha i h1 (by omega) h2))
theorem l02Rises_c {a : Option Addr} {xs : List Int} {H : GHeap} (h : Ints H a xs := by assumption) (hl : xs.length ≤ 1048576 := by omega) :
    GCalls Try.prog 148 [.slice a xs.length xs.length] H (Ret (.bool (B (Rising xs))) H) := by
  refine GCalls.body (N := 20) (rs := [.tmp 2]) Try.func148 rfl rfl rfl rfl (fun Qx c hend => ?_)
  refine .fg [0] rfl ?_
  refine .seq (fun K1 p => .region (.mv rfl (.nil (p _ _ (.seq (fun K2 r => .seq (fun K3 f => .region (.mv rfl (.nil (f _ _ ?_))))))))))
  refine .block ?_
  refine .loopR (σ := Nat) [(0, some _)] (fun k => [(3, some (.int .i64 (k : Int)))]) (fun k H' => H = H' ∧ 1 ≤ k ∧ k ≤ xs.length + 1 ∧ ∀ i, 1 ≤ i → i < k → i < xs.length → xs.getD (i - 1) 0 < xs.getD i 0) (fun k => xs.length + 1 - k) (1) ⟨rfl, trivial⟩ ⟨rfl, trivial⟩ ?_ ?_
  ·
   refine ⟨rfl, ?_⟩
   exact ⟨by omega, by omega, fun _ _ _ => by omega⟩
  rintro k _ ⟨rfl, hI⟩ KL1 d
  refine .forget (fr' := [(3, some (.int .i64 (k : Int))), (0, some _)]) ⟨rfl, rfl, trivial⟩ ?_
  obtain ⟨hk0, hk, ha⟩ := hI
  have ek : ((k : Int) - 1).toNat = k - 1 := by omega
  refine .seq (fun K4 m => .seq (fun K5 n => .region (.mv rfl (.mv rfl (.q rfl (.len sl_24_A rfl) (.q rfl (.cmp rfl rfl rfl) (.nil (n _ _ ?_))))))))
  refine .cond rfl (fun h7 => ?_) (fun h7 => ?_)
  ·
   try simp only [sps] at h7
   refine .skip ?_
   refine m _ _ (.seq (fun K6 j => ?_))
   refine .block ?_
   refine .seq (fun K7 l => ?_)
   refine .regionD mo_B (.q 0 (.q 1 (.q 2 (.q 3 (.q 4 (.q 5 (.q 6 (.q 7 (.q 8 (.q 9 (.done))))))))))) (by kernel_rfl) ?_
   refine .mv rfl rfl (.mv rfl rfl ?_)
   refine .q rfl (.idxN sl_24_A (by assumption) rfl rfl (by omega)) ?_
   refine .q rfl (.loadI on_2_A (by assumption) rfl (by omega)) ?_
   refine .mv rfl rfl (.mv rfl rfl ?_)
   refine .q rfl (.sub rfl rfl rfl (by omega) (by omega)) ?_
   refine .q rfl (.idx1 sl_24_A (by assumption) rfl rfl (by omega) (by omega)) ?_
   refine .q rfl (.loadI on_2_A (by assumption) rfl (by omega)) ?_
   refine .q rfl (.cmp rfl rfl rfl) ?_
   refine .done ?_
   refine l _ _ ?_
   refine .cond rfl (fun b => ?_) (fun b => ?_)
   ·
    try simp only [sps] at b
    refine .seq (fun K8 o => .region (.mv rfl (.nil (o _ _ ?_))))
    refine .ret ?_
    refine c _ _ ?_
    refine ⟨_, rfl, ?_⟩
    exact .of (congrArg _ (B_false fun hh => by have := hh k (by omega) (by omega); rw [ek] at b; omega))
   try simp only [sps] at b
   refine .skip ?_
   refine j _ _ (.region (.mv rfl ?_))
   refine .q rfl (.add rfl rfl rfl (by omega) (by omega)) ?_
   refine .mv rfl (.nil ?_)
   refine d (k + 1) _ _ ?_ ?_ ⟨rfl, rfl, trivial⟩
   ·
    refine ⟨rfl, ?_⟩
    refine ⟨by omega, by omega, fun i h1 hi h2 => ?_⟩
    by_cases e : i < k
    · exact ha i h1 e h2
    · obtain rfl : i = k := by omega
      rw [ek] at b
      exact b
   omega
  try simp only [sps] at h7
  refine .exit ?_
  refine r _ _ (.seq (fun K9 g => .region (.mv rfl (.nil (g _ _ ?_)))))
  refine .ret ?_
  refine c _ _ ?_
  refine ⟨_, rfl, ?_⟩
  exact .of (congrArg _ (B_true fun i h1 h2 => ha i h1 (by omega) h2))
end Go.Proofs.Ytiooclghkafokaa
namespace Go.GL
structure RelOk (fs : List SFun) (r : Rel) : Prop where
  n2 : r.so.length ≤ 2
  so : allIn r.so fs.length = true
  ml : (r.me.length : Int) = (fs.getD 0 SFun.z).sh.obj
  row : ∀ x, x < r.me.length → Rising (r.me.getD x []) ∧ allIn (r.me.getD x []) (tupN fs r.so x) = true
  mv : ∀ a, a < (fs.getD 0 SFun.z).sh.src.length → ∀ i, i < (r.me.getD ((fs.getD 0 SFun.z).sh.src.getD a 0).toNat []).length →
    (r.me.getD ((fs.getD 0 SFun.z).sh.tgt.getD a 0).toNat []).contains (movN fs r.so ((fs.getD 0 SFun.z).sh.src.getD a 0).toNat ((fs.getD 0 SFun.z).sh.tgt.getD a 0).toNat a ((r.me.getD ((fs.getD 0 SFun.z).sh.src.getD a 0).toNat []).getD i 0)) = true
structure StrOk (c : Str) : Prop where
  n : 1 ≤ c.sf.length ∧ c.sf.length ≤ 3
  m : c.rl.length ≤ 4
  is : ∀ s, s < c.sf.length → (c.sf.getD s SFun.z).Is
  sh : ∀ s, s < c.sf.length → (c.sf.getD s SFun.z).sh = (c.sf.getD 0 SFun.z).sh
  rl : ∀ i, i < c.rl.length → RelOk c.sf (c.rl.getD i Rel.z)
end Go.GL
namespace Go.Proofs.Ytiooclghkafokaa
open Go Go.GL Go.RowKit Go.Proofs
theorem OneSh.ob {fs : List SFun} (h : OneSh fs) {x : Nat} (hx : (x : Int) < (fs.getD 0 SFun.z).sh.obj) : ∀ s, s < fs.length → (x : Int) < (fs.getD s SFun.z).sz.length := fun s hs => by
  have := (h.is s hs).1.zl
  have e := h.sh s hs
  rw [e] at this
  omega
set_option maxHeartbeats 4000000 in
theorem l29Relation_c {a : Option Addr} {fs : List SFun} {pp : Nat → SFunP} {r : Rel} {q : RelP} {H : GHeap} (h : SFunsIn H a fs pp := by assumption) (h' : r.In H q := by assumption) (hf : OneSh fs := by assumption) (hn3 : fs.length ≤ 3 := by omega) (hs : r.Small := by assumption) :
    GCalls Try.prog 86 [.slice a fs.length fs.length, .agg (r.cells q).toArray] H (Ret (.bool (B (RelOk fs r))) H) := by
  refine GCalls.ret rfl ?_
  obtain ⟨g, o, rfl, _⟩ := h.1.resolve_left (by have := hf.pos; omega)
  have hpos := hf.pos
  obtain ⟨w1, w2, w3⟩ := hs
  have hC := (hf.is 0 hpos).1.c.1
  have q1 := hC.tl
  have q2 := hC.obj
  have q3 := hC.n40
  refine GCalls.body (N := 112) (rs := [.tmp 4]) Try.func86 rfl rfl rfl rfl (fun Qx v hend => ?_)
  refine .fg [0, 1] rfl ?_
  have e := GHeap.Le.refl H
  have m := h
  have d := h'
  have hsl := h.sl
  have hmc : MemN _ g (o + (0 : Int).toNat * 7 + 0) 5 ((fs.getD 0 SFun.z).sh.cells (pp 0).sh) := ⟨rfl, (h.1.at' (i := 0) hpos).left⟩
  have hcin := (h.2 0 hpos).1
  refine .seq (fun K1 f6 => .region ?_)
  refine .R rfl (.boxR rfl sz_110_VRel rfl) ?_
  rintro _ H3 ⟨g3, rfl, f4, ge3, n⟩
  have nx_H3 := f4.1
  replace e := e.trans f4
  have lt_at3 := GHeap.ltg n
  replace h := m.mono e
  replace h' := d.mono e
  clear hsl hmc hcin
  have hsl := h.sl
  have hmc : MemN _ g (o + (0 : Int).toNat * 7 + 0) 5 ((fs.getD 0 SFun.z).sh.cells (pp 0).sh) := ⟨rfl, (h.1.at' (i := 0) hpos).left⟩
  have hcin := (h.2 0 hpos).1
  have f : Rel.At _ g3 0 r q := ⟨Mem.of_get n, h'⟩
  obtain ⟨a4, a5, a3, y⟩ := f.get
  have a6 : MemN _ _ _ _ _ := ⟨rfl, f.1⟩
  have a2 := f.2
  refine .mv rfl (.nil (f6 _ _ (.seq (fun K2 f9 => .seq (fun K3 d9 => ?_)))))
  refine .regionD mo_B (.q 0 (.q 1 (.q 2 (.q 3 (.q 4 (.q 5 (.q 6 (.q 7 (.q 8 (.c 9 0 (.q 10 (.q 11 (.q 12 (.q 13 (.q 14 (.q 15 (.q 16 (.q 17 (.q 18 (.q 19 (.q 20 (.q 21 (.q 22 (.done)))))))))))))))))))))))) (by kernel_rfl) ?_
  refine .q rfl (.fieldAddr fo_110_0_VRel rfl) ?_
  refine .q rfl (.load on_24_B rfl (by first | assumption | exact Mem.of_get n 0 _ rfl)) ?_
  refine .q rfl (.len sl_24_A rfl) (.q rfl (.cmp rfl rfl rfl) (.mv rfl rfl ?_))
  refine .split (fun d7 => ?_) (fun d7 => ?_)
  ·
   try simp only [sps] at d7
   refine .z rfl (.z rfl (.z rfl (.z rfl (.sgc rfl rfl rfl rfl rfl rfl (.z rfl (.q rfl (.pickT rfl rfl) (.mv rfl rfl (.z rfl (.z rfl (.z rfl (.z rfl (.z rfl (.z rfl (.z rfl (.z rfl ?_)))))))))))))))
   refine .z rfl (.q rfl (.pickT rfl rfl) ?_)
   refine .done ?_
   refine d9 _ _ ?_
   refine .condT rfl ?_
   refine .seq (fun K4 g2 => .region (.mv rfl (.nil (g2 _ _ ?_))))
   refine .ret ?_
   refine v _ _ ?_
   refine ⟨_, rfl, ?_⟩
   exact ⟨congrArg _ (B_false fun hh => by have := hh.n2; omega), e⟩
  try simp only [sps] at d7
  refine .qg rfl (.move rfl) (.qg rfl (.len sl_57_VSs rfl) (.qg rfl (.fieldAddr fo_110_0_VRel rfl) ?_))
  refine .qg rfl (.load on_24_B rfl (by first | assumption | exact Mem.of_get n 0 _ rfl)) ?_
  refine .callQ0g rfl rfl rfl rfl rfl rfl rfl @Try.call120 rfl (l01Map_c) ?_
  refine .qg rfl (.not rfl) (.q rfl (.pickF rfl rfl) (.mv rfl rfl ?_))
  refine .split (fun b2 => ?_) (fun b2 => ?_)
  ·
   try simp only [sps] at b2
   refine .z rfl (.z rfl (.z rfl (.z rfl (.z rfl (.z rfl (.z rfl (.z rfl (.z rfl (.q rfl (.pickT rfl rfl) ?_)))))))))
   refine .done ?_
   refine d9 _ _ ?_
   refine .condT rfl ?_
   refine .seq (fun K5 g0 => .region (.mv rfl (.nil (g0 _ _ ?_))))
   refine .ret ?_
   refine v _ _ ?_
   refine ⟨_, rfl, ?_⟩
   exact ⟨congrArg _ (B_false fun hh => absurd (hh.so.symm.trans b2) (by simp)), e⟩
  try simp only [sps] at b2
  refine .qg rfl (.fieldAddr fo_110_1_VRel rfl) ?_
  refine .qg rfl (.load on_25_B rfl (by first | assumption | exact Mem.of_get n 1 _ rfl)) ?_
  refine .qg rfl (.len sl_25_B rfl) (.qg rfl (.move rfl) ?_)
  refine .qg rfl (.idx sl_57_VSs hsl (by omega) rfl rfl (by omega) (by omega) rfl) ?_
  refine .qg rfl (.fieldAddr fo_107_0_VSFun rfl) (.qg rfl (.fieldAddr fo_27_0_B rfl) (.qg rfl (.load on_2_A rfl (hmc.2 0 _ rfl)) (.qg rfl (.cmp rfl rfl rfl) (.q rfl (.pickF rfl rfl) ?_))))
  refine .done ?_
  refine d9 _ _ ?_
  refine .cond rfl (fun c1 => ?_) (fun c1 => ?_)
  ·
   try simp only [sps] at c1
   refine .seq (fun K6 f8 => .region (.mv rfl (.nil (f8 _ _ ?_))))
   refine .ret ?_
   refine v _ _ ?_
   refine ⟨_, rfl, ?_⟩
   exact ⟨congrArg _ (B_false fun hh => c1 hh.ml), e⟩
  simp only [sps] at c1
  have hso := b2
  have c4 := fun x => hf.le (x := x)
  refine .skip ?_
  refine f9 _ _ (.seq (fun K7 g1 => .region (.mv rfl ?_)))
  refine .q rfl (.idx sl_57_VSs hsl (by omega) rfl rfl (by omega) (by omega) rfl) ?_
  refine .q rfl (.fieldAddr fo_107_0_VSFun rfl) (.q rfl (.loadM ag_27_D rfl hmc) ?_)
  refine .R rfl (.allocR rfl ze_27_E rfl) ?_
  rintro _ H5 ⟨g5, rfl, c7, ge5, g4⟩
  have nx_H5 := c7.1
  replace e := e.trans c7
  replace n := c7.2 _ _ n
  have lt_at5 := GHeap.ltg g4
  replace h := m.mono e
  replace h' := d.mono e
  clear hsl hmc hcin
  have hsl := h.sl
  have hmc : MemN _ g (o + (0 : Int).toNat * 7 + 0) 5 ((fs.getD 0 SFun.z).sh.cells (pp 0).sh) := ⟨rfl, (h.1.at' (i := 0) hpos).left⟩
  have hcin := (h.2 0 hpos).1
  clear f a4 a5 a3 y a6 a2
  have f : Rel.At _ g3 0 r q := ⟨Mem.of_get n, h'⟩
  obtain ⟨a4, a5, a3, y⟩ := f.get
  have a6 : MemN _ _ _ _ _ := ⟨rfl, f.1⟩
  have a2 := f.2
  refine .r0 rfl rfl (.fillA rfl sz_27_D rfl rfl rfl rfl) ?_
  rintro _ b9 ⟨rfl, w, b⟩
  have nx_H3005 := w.nx
  replace e := e.st w (fun k hk => ⟨by omega, trivial⟩)
  replace n := w.s n
  have lt_at3005 := GHeap.ltg b
  replace h := m.mono e
  replace h' := d.mono e
  clear hsl hmc hcin
  have hsl := h.sl
  have hmc : MemN _ g (o + (0 : Int).toNat * 7 + 0) 5 ((fs.getD 0 SFun.z).sh.cells (pp 0).sh) := ⟨rfl, (h.1.at' (i := 0) hpos).left⟩
  have hcin := (h.2 0 hpos).1
  clear f a4 a5 a3 y a6 a2
  have f : Rel.At _ g3 0 r q := ⟨Mem.of_get n, h'⟩
  obtain ⟨a4, a5, a3, y⟩ := f.get
  have a6 : MemN _ _ _ _ _ := ⟨rfl, f.1⟩
  have a2 := f.2
  have j : MemN _ _ _ _ _ := ⟨rfl, Mem.of_get b⟩
  have t : Cat.At _ g5 0 (fs.getD 0 SFun.z).sh (pp 0).sh := ⟨Mem.of_get b, hcin⟩
  obtain ⟨b6, b0, a7, b3, b5, a9, b7, b1, a8⟩ := t.get
  have b8 : MemN _ _ _ _ _ := ⟨rfl, t.1⟩
  have b4 := t.2
  refine .nil (g1 _ _ (.seq (fun K8 f7 => .seq (fun K9 f5 => .region (.mv rfl (.nil (f5 _ _ ?_)))))))
  refine .block ?_
  refine .loopR (σ := Nat) [(0, some _), (3, some _), (5, some _)] (fun k => [(6, some (.int .i64 (k : Int)))]) (fun k H' => St [] b9 H' ∧ (k : Int) ≤ (fs.getD 0 SFun.z).sh.obj ∧ ∀ x, x < k → Rising (r.me.getD x []) ∧ allIn (r.me.getD x []) (tupN fs r.so x) = true) (fun k => ((fs.getD 0 SFun.z).sh.obj - k : Int).toNat) (0) ⟨rfl, rfl, rfl, trivial⟩ ⟨rfl, trivial⟩ ?_ ?_
  ·
   refine ⟨.refl _ _, ?_⟩
   exact ⟨by omega, fun _ _ => by omega⟩
  rintro k HL1 ⟨p, hI⟩ KL1 c8
  refine .forget (fr' := [(6, some (.int .i64 (k : Int))), (0, some _), (3, some _), (5, some _)]) ⟨rfl, rfl, rfl, rfl, trivial⟩ ?_
  have nx_HL1 := p.nx
  replace e := e.st p (fun k hk => trivial)
  replace n := p.same _ _ trivial n
  replace b := p.same _ _ trivial b
  replace h := m.mono e
  replace h' := d.mono e
  clear hsl hmc hcin
  have hsl := h.sl
  have hmc : MemN _ g (o + (0 : Int).toNat * 7 + 0) 5 ((fs.getD 0 SFun.z).sh.cells (pp 0).sh) := ⟨rfl, (h.1.at' (i := 0) hpos).left⟩
  have hcin := (h.2 0 hpos).1
  clear f a4 a5 a3 y a6 a2
  have f : Rel.At _ g3 0 r q := ⟨Mem.of_get n, h'⟩
  obtain ⟨a4, a5, a3, y⟩ := f.get
  have a6 : MemN _ _ _ _ _ := ⟨rfl, f.1⟩
  have a2 := f.2
  clear j
  have j : MemN _ _ _ _ _ := ⟨rfl, Mem.of_get b⟩
  clear t b6 b0 a7 b3 b5 a9 b7 b1 a8 b8 b4
  have t : Cat.At _ g5 0 (fs.getD 0 SFun.z).sh (pp 0).sh := ⟨Mem.of_get b, hcin⟩
  obtain ⟨b6, b0, a7, b3, b5, a9, b7, b1, a8⟩ := t.get
  have b8 : MemN _ _ _ _ _ := ⟨rfl, t.1⟩
  have b4 := t.2
  obtain ⟨hk1, e3⟩ := hI
  refine .seq (fun K10 d3 => .seq (fun K11 e6 => .region (.mv rfl (.q rfl (.fieldAddr fo_27_0_B rfl) ?_))))
  refine .q rfl (.load on_2_A rfl (by first | assumption | exact Mem.of_get b 0 _ rfl)) ?_
  refine .q rfl (.cmp rfl rfl rfl) (.nil (e6 _ _ ?_))
  refine .cond rfl (fun f0 => ?_) (fun f0 => ?_)
  ·
   simp only [sps] at f0
   have hxs := hf.ob (x := k) (by omega)
   have w4 := w3 k
   have u1 := y.2 k (by omega)
   refine .skip ?_
   refine d3 _ _ (.seq (fun K12 e1 => ?_))
   refine .block ?_
   refine .seq (fun K13 c0 => ?_)
   refine .regionD mo_B (.q 0 (.q 1 (.q 2 (.q 3 (.q 4 (.c 5 0 (.q 6 (.q 7 (.q 8 (.q 9 (.q 10 (.q 11 (.q 13 (.q 14 (.q 15 (.q 16 (.q 17 (.c 12 1 (.c 18 0 (.q 19 (.q 20 (.done)))))))))))))))))))))) (by kernel_rfl) ?_
   refine .q rfl (.fieldAddr fo_110_1_VRel rfl) ?_
   refine .q rfl (.load on_25_B rfl (by first | assumption | exact Mem.of_get n 1 _ rfl)) ?_
   refine .mv rfl rfl ?_
   refine .q rfl (.idxN sl_25_B (Intss.sl (by assumption)) rfl rfl (by omega)) ?_
   refine .q rfl (.loadR on_24_B (by assumption) rfl (by omega)) ?_
   refine .callQ0 rfl rfl rfl rfl rfl @Try.call148 rfl (l02Rises_c) ?_
   refine .q rfl (.not rfl) (.mv rfl rfl ?_)
   refine .split (fun c2 => ?_) (fun c2 => ?_)
   ·
    simp only [sps] at c2
    refine .z rfl (.z rfl (.z rfl (.z rfl (.z rfl (.z rfl (.z rfl (.z rfl (.z rfl (.sgc rfl rfl rfl rfl rfl rfl (.sgc rfl rfl rfl rfl rfl rfl (.z rfl (.q rfl (.pickT rfl rfl) ?_))))))))))))
    refine .done ?_
    refine c0 _ _ ?_
    refine .condT rfl ?_
    refine .seq (fun K14 d6 => .region (.mv rfl (.nil (d6 _ _ ?_))))
    refine .ret ?_
    refine v _ _ ?_
    refine ⟨_, rfl, ?_⟩
    exact ⟨congrArg _ (B_false fun hh => c2 (hh.row k (by omega)).1), e⟩
   simp only [sps] at c2
   refine .qg rfl (.move rfl) (.qg rfl (.fieldAddr fo_110_0_VRel rfl) ?_)
   refine .qg rfl (.load on_24_B rfl (by first | assumption | exact Mem.of_get n 0 _ rfl)) ?_
   refine .qg rfl (.move rfl) (.qg rfl (.fieldAddr fo_110_1_VRel rfl) ?_)
   refine .qg rfl (.load on_25_B rfl (by first | assumption | exact Mem.of_get n 1 _ rfl)) ?_
   refine .qg rfl (.move rfl) ?_
   refine .qg rfl (.idxN sl_25_B (Intss.sl (by assumption)) rfl rfl (by omega)) ?_
   refine .qg rfl (.loadR on_24_B (by assumption) rfl (by omega)) ?_
   refine .callQ1g rfl rfl rfl rfl rfl rfl rfl @Try.call149 rfl (l29Count_c (x := (k : Int)) (hso := hso) (hx0 := by omega) (hx := hxs) (hs := c4 _) (hn := by omega)) (.refl _) ?_
   refine .callQ0g rfl rfl rfl rfl rfl rfl rfl @Try.call120 rfl (l01Map_c) ?_
   refine .qg rfl (.not rfl) (.q rfl (.pickF rfl rfl) ?_)
   refine .done ?_
   refine c0 _ _ ?_
   refine .cond rfl (fun c3 => ?_) (fun c3 => ?_)
   ·
    simp only [sps] at c3
    refine .seq (fun K15 e2 => .region (.mv rfl (.nil (e2 _ _ ?_))))
    refine .ret ?_
    refine v _ _ ?_
    refine ⟨_, rfl, ?_⟩
    exact ⟨congrArg _ (B_false fun hh => absurd ((hh.row k (by omega)).2.symm.trans c3) (by simp)), e⟩
   simp only [sps] at c3
   refine .skip ?_
   refine e1 _ _ (.region (.mv rfl ?_))
   refine .q rfl (.add rfl rfl rfl (by omega) (by omega)) ?_
   refine .mv rfl (.nil ?_)
   refine c8 (k + 1) _ _ ?_ ?_ ⟨rfl, rfl, rfl, rfl, trivial⟩
   ·
    refine ⟨p, ?_⟩
    refine ⟨by omega, fun x hx => ?_⟩
    by_cases hltq : x < k
    · exact e3 x hltq
    · obtain rfl : x = k := by omega
      exact ⟨c2, allIn_iff.2 c3⟩
   omega
  try simp only [sps] at f0
  refine .exit ?_
  refine f7 _ _ (.seq (fun K16 c9 => .seq (fun K17 c6 => .region (.mv rfl (.nil (c6 _ _ ?_))))))
  refine .block ?_
  refine .loopR (σ := Nat) [(0, some _), (3, some _), (5, some _)] (fun ar => [(7, some (.int .i64 (ar : Int)))]) (fun ar H' => St [] HL1 H' ∧ (ar : Int) ≤ (fs.getD 0 SFun.z).sh.src.length ∧ ∀ c, c < ar → ∀ i, i < (r.me.getD ((fs.getD 0 SFun.z).sh.src.getD c 0).toNat []).length → (r.me.getD ((fs.getD 0 SFun.z).sh.tgt.getD c 0).toNat []).contains (movN fs r.so ((fs.getD 0 SFun.z).sh.src.getD c 0).toNat ((fs.getD 0 SFun.z).sh.tgt.getD c 0).toNat c ((r.me.getD ((fs.getD 0 SFun.z).sh.src.getD c 0).toNat []).getD i 0)) = true) (fun ar => ((fs.getD 0 SFun.z).sh.src.length - ar : Int).toNat) (0) ⟨rfl, rfl, rfl, trivial⟩ ⟨rfl, trivial⟩ ?_ ?_
  ·
   refine ⟨.refl _ _, ?_⟩
   exact ⟨by omega, fun _ _ => by omega⟩
  rintro ar HL2 ⟨u, hI⟩ KL2 e7
  refine .forget (fr' := [(7, some (.int .i64 (ar : Int))), (0, some _), (3, some _), (5, some _)]) ⟨rfl, rfl, rfl, rfl, trivial⟩ ?_
  have nx_HL2 := u.nx
  replace e := e.st u (fun k hk => trivial)
  replace p := p.sA u
  replace n := u.same _ _ trivial n
  replace b := u.same _ _ trivial b
  replace h := m.mono e
  replace h' := d.mono e
  clear hsl hmc hcin
  have hsl := h.sl
  have hmc : MemN _ g (o + (0 : Int).toNat * 7 + 0) 5 ((fs.getD 0 SFun.z).sh.cells (pp 0).sh) := ⟨rfl, (h.1.at' (i := 0) hpos).left⟩
  have hcin := (h.2 0 hpos).1
  clear f a4 a5 a3 y a6 a2
  have f : Rel.At _ g3 0 r q := ⟨Mem.of_get n, h'⟩
  obtain ⟨a4, a5, a3, y⟩ := f.get
  have a6 : MemN _ _ _ _ _ := ⟨rfl, f.1⟩
  have a2 := f.2
  clear j
  have j : MemN _ _ _ _ _ := ⟨rfl, Mem.of_get b⟩
  clear t b6 b0 a7 b3 b5 a9 b7 b1 a8 b8 b4
  have t : Cat.At _ g5 0 (fs.getD 0 SFun.z).sh (pp 0).sh := ⟨Mem.of_get b, hcin⟩
  obtain ⟨b6, b0, a7, b3, b5, a9, b7, b1, a8⟩ := t.get
  have b8 : MemN _ _ _ _ _ := ⟨rfl, t.1⟩
  have b4 := t.2
  obtain ⟨hk2, f3⟩ := hI
  refine .seq (fun K18 d8 => .seq (fun K19 e8 => .region (.mv rfl (.q rfl (.fieldAddr fo_27_1_B rfl) ?_))))
  refine .q rfl (.load on_24_B rfl (by first | assumption | exact Mem.of_get b 1 _ rfl)) ?_
  refine .q rfl (.len sl_24_A rfl) (.q rfl (.cmp rfl rfl rfl) (.nil (e8 _ _ ?_)))
  refine .cond rfl (fun c5 => ?_) (fun c5 => ?_)
  ·
   simp only [sps] at c5
   have z0 := hf.sz (a := ar) (by omega) hpos
   have z1 := (hf.is 0 hpos).1.zl
   have w5 := w3 ((fs.getD 0 SFun.z).sh.src.getD ar 0).toNat
   have w6 := w3 ((fs.getD 0 SFun.z).sh.tgt.getD ar 0).toNat
   have u2 := y.2 ((fs.getD 0 SFun.z).sh.src.getD ar 0).toNat (by omega)
   have u3 := y.2 ((fs.getD 0 SFun.z).sh.tgt.getD ar 0).toNat (by omega)
   refine .skip ?_
   refine d8 _ _ (.seq (fun K20 d1 => ?_))
   refine .block ?_
   refine .seq (fun K21 e5 => .region (.mv rfl (.nil (e5 _ _ ?_))))
   refine .block ?_
   refine .loopR (σ := Nat) [(0, some _), (3, some _), (5, some _), (7, some _)] (fun l => [(8, some (.int .i64 (l : Int)))]) (fun l H' => St [] HL2 H' ∧ (l : Int) ≤ (r.me.getD ((fs.getD 0 SFun.z).sh.src.getD ar 0).toNat []).length ∧ ∀ i, i < l → (r.me.getD ((fs.getD 0 SFun.z).sh.tgt.getD ar 0).toNat []).contains (movN fs r.so ((fs.getD 0 SFun.z).sh.src.getD ar 0).toNat ((fs.getD 0 SFun.z).sh.tgt.getD ar 0).toNat ar ((r.me.getD ((fs.getD 0 SFun.z).sh.src.getD ar 0).toNat []).getD i 0)) = true) (fun l => ((r.me.getD ((fs.getD 0 SFun.z).sh.src.getD ar 0).toNat []).length - l : Int).toNat) (0) ⟨rfl, rfl, rfl, rfl, trivial⟩ ⟨rfl, trivial⟩ ?_ ?_
   ·
    refine ⟨.refl _ _, ?_⟩
    exact ⟨by omega, fun _ _ => by omega⟩
   rintro l HL3 ⟨a0, hI⟩ KL3 d0
   refine .forget (fr' := [(8, some (.int .i64 (l : Int))), (0, some _), (3, some _), (5, some _), (7, some _)]) ⟨rfl, rfl, rfl, rfl, rfl, trivial⟩ ?_
   have nx_HL3 := a0.nx
   replace e := e.st a0 (fun k hk => trivial)
   replace p := p.sA a0
   replace u := u.sA a0
   replace n := a0.same _ _ trivial n
   replace b := a0.same _ _ trivial b
   replace h := m.mono e
   replace h' := d.mono e
   clear hsl hmc hcin
   have hsl := h.sl
   have hmc : MemN _ g (o + (0 : Int).toNat * 7 + 0) 5 ((fs.getD 0 SFun.z).sh.cells (pp 0).sh) := ⟨rfl, (h.1.at' (i := 0) hpos).left⟩
   have hcin := (h.2 0 hpos).1
   clear f a4 a5 a3 y a6 a2
   have f : Rel.At _ g3 0 r q := ⟨Mem.of_get n, h'⟩
   obtain ⟨a4, a5, a3, y⟩ := f.get
   have a6 : MemN _ _ _ _ _ := ⟨rfl, f.1⟩
   have a2 := f.2
   clear j
   have j : MemN _ _ _ _ _ := ⟨rfl, Mem.of_get b⟩
   clear t b6 b0 a7 b3 b5 a9 b7 b1 a8 b8 b4
   have t : Cat.At _ g5 0 (fs.getD 0 SFun.z).sh (pp 0).sh := ⟨Mem.of_get b, hcin⟩
   obtain ⟨b6, b0, a7, b3, b5, a9, b7, b1, a8⟩ := t.get
   have b8 : MemN _ _ _ _ _ := ⟨rfl, t.1⟩
   have b4 := t.2
   clear u2 u3
   have u2 := y.2 ((fs.getD 0 SFun.z).sh.src.getD ar 0).toNat (by omega)
   have u3 := y.2 ((fs.getD 0 SFun.z).sh.tgt.getD ar 0).toNat (by omega)
   obtain ⟨hk3, f2⟩ := hI
   refine .seq (fun K22 d5 => .seq (fun K23 e9 => ?_))
   refine .regionD mo_B (.q 0 (.q 1 (.q 2 (.q 3 (.q 4 (.q 5 (.q 6 (.q 7 (.q 8 (.q 9 (.q 10 (.q 11 (.done))))))))))))) (by kernel_rfl) ?_
   refine .mv rfl rfl (.q rfl (.fieldAddr fo_110_1_VRel rfl) ?_)
   refine .q rfl (.load on_25_B rfl (by first | assumption | exact Mem.of_get n 1 _ rfl)) ?_
   refine .q rfl (.fieldAddr fo_27_1_B rfl) ?_
   refine .q rfl (.load on_24_B rfl (by first | assumption | exact Mem.of_get b 1 _ rfl)) ?_
   refine .mv rfl rfl ?_
   refine .q rfl (.idxN sl_24_A (by assumption) rfl rfl (by omega)) ?_
   refine .q rfl (.loadI on_2_A (by assumption) rfl (by omega)) ?_
   refine .q rfl (.idx1 sl_25_B (Intss.sl (by assumption)) rfl rfl (by omega) (by omega)) ?_
   refine .q rfl (.loadR on_24_B (by assumption) rfl (by omega)) ?_
   refine .q rfl (.len sl_24_A rfl) (.q rfl (.cmp rfl rfl rfl) ?_)
   refine .done ?_
   refine e9 _ _ ?_
   refine .cond rfl (fun d2 => ?_) (fun d2 => ?_)
   ·
    simp only [sps] at d2
    have v1 := allIn_iff.1 (e3 ((fs.getD 0 SFun.z).sh.src.getD ar 0).toNat (by omega)).2 l (by omega)
    refine .skip ?_
    refine d5 _ _ (.seq (fun K24 f1 => ?_))
    refine .block ?_
    refine .seq (fun K25 e0 => ?_)
    refine .regionD mo_B (.q 0 (.q 1 (.q 2 (.q 3 (.q 4 (.q 5 (.q 6 (.q 7 (.q 8 (.q 9 (.q 10 (.q 11 (.q 12 (.q 13 (.q 14 (.q 15 (.q 16 (.q 17 (.q 18 (.q 19 (.q 20 (.q 21 (.q 22 (.q 23 (.q 24 (.c 25 1 (.c 26 0 (.q 27 (.done))))))))))))))))))))))))))))) (by kernel_rfl) ?_
    refine .q rfl (.fieldAddr fo_110_1_VRel rfl) ?_
    refine .q rfl (.load on_25_B rfl (by first | assumption | exact Mem.of_get n 1 _ rfl)) ?_
    refine .q rfl (.fieldAddr fo_27_2_B rfl) ?_
    refine .q rfl (.load on_24_B rfl (by first | assumption | exact Mem.of_get b 2 _ rfl)) ?_
    refine .mv rfl rfl ?_
    refine .q rfl (.idxN sl_24_A (by assumption) rfl rfl (by omega)) ?_
    refine .q rfl (.loadI on_2_A (by assumption) rfl (by omega)) ?_
    refine .q rfl (.idx1 sl_25_B (Intss.sl (by assumption)) rfl rfl (by omega) (by omega)) ?_
    refine .q rfl (.loadR on_24_B (by assumption) rfl (by omega)) ?_
    refine .mv rfl rfl (.q rfl (.fieldAddr fo_110_0_VRel rfl) ?_)
    refine .q rfl (.load on_24_B rfl (by first | assumption | exact Mem.of_get n 0 _ rfl)) ?_
    refine .mv rfl rfl (.q rfl (.fieldAddr fo_110_1_VRel rfl) ?_)
    refine .q rfl (.load on_25_B rfl (by first | assumption | exact Mem.of_get n 1 _ rfl)) ?_
    refine .q rfl (.fieldAddr fo_27_1_B rfl) ?_
    refine .q rfl (.load on_24_B rfl (by first | assumption | exact Mem.of_get b 1 _ rfl)) ?_
    refine .mv rfl rfl ?_
    refine .q rfl (.idxN sl_24_A (by assumption) rfl rfl (by omega)) ?_
    refine .q rfl (.loadI on_2_A (by assumption) rfl (by omega)) ?_
    refine .q rfl (.idx1 sl_25_B (Intss.sl (by assumption)) rfl rfl (by omega) (by omega)) ?_
    refine .q rfl (.loadR on_24_B (by assumption) rfl (by omega)) ?_
    refine .mv rfl rfl ?_
    refine .q rfl (.idxN sl_24_A (by assumption) rfl rfl (by omega)) ?_
    refine .q rfl (.loadI on_2_A (by assumption) rfl (by omega)) ?_
    refine .callQ1 rfl rfl rfl rfl rfl @Try.call150 rfl (l29Move_c (ar := ar) (hf := hf) (hso := hso) (hn := by omega) (ha := by omega) (h0 := by omega) (h1 := by omega)) (.refl _) ?_
    refine .callQ0 rfl rfl rfl rfl rfl @Try.call126 rfl (l01Has_c) ?_
    refine .q rfl (.not rfl) ?_
    refine .done ?_
    refine e0 _ _ ?_
    refine .cond rfl (fun a1 => ?_) (fun a1 => ?_)
    ·
     simp only [sps] at a1
     refine .seq (fun K26 e4 => .region (.mv rfl (.nil (e4 _ _ ?_))))
     refine .ret ?_
     refine v _ _ ?_
     refine ⟨_, rfl, ?_⟩
     exact ⟨congrArg _ (B_false fun hh => absurd ((hh.mv ar (by omega) l (by omega)).symm.trans a1) (by simp)), e⟩
    simp only [sps] at a1
    refine .skip ?_
    refine f1 _ _ (.region (.mv rfl ?_))
    refine .q rfl (.add rfl rfl rfl (by omega) (by omega)) ?_
    refine .mv rfl (.nil ?_)
    refine d0 (l + 1) _ _ ?_ ?_ ⟨rfl, rfl, rfl, rfl, rfl, trivial⟩
    ·
     refine ⟨a0, ?_⟩
     refine ⟨by omega, fun i hx => ?_⟩
     by_cases hltq : i < l
     · exact f2 i hltq
     · obtain rfl : i = l := by omega
       exact a1
    omega
   try simp only [sps] at d2
   refine .exit ?_
   refine d1 _ _ (.region (.mv rfl ?_))
   refine .q rfl (.add rfl rfl rfl (by omega) (by omega)) ?_
   refine .mv rfl (.nil ?_)
   refine e7 (ar + 1) _ _ ?_ ?_ ⟨rfl, rfl, rfl, rfl, trivial⟩
   ·
    refine ⟨u, ?_⟩
    refine ⟨by omega, fun c hx => ?_⟩
    by_cases hltq : c < ar
    · exact f3 c hltq
    · obtain rfl : c = ar := by omega
      exact fun i hi => f2 i (by omega)
   omega
  try simp only [sps] at c5
  refine .exit ?_
  refine c9 _ _ (.seq (fun K27 d4 => .region (.mv rfl (.nil (d4 _ _ ?_)))))
  refine .ret ?_
  refine v _ _ ?_
  refine ⟨_, rfl, ?_⟩
  exact ⟨congrArg _ (B_true ⟨by omega, allIn_iff.2 b2, c1, fun x hx => e3 x (by omega), fun a ha => f3 a (by omega)⟩), e⟩
set_option maxHeartbeats 4000000 in
theorem isRelation_c {g0 o0 g1 o1 : Nat} {c : Str} {p : StrP} {r : Rel} {q : RelP} {H : GHeap} (h : Str.At H g0 o0 c p := by assumption) (h' : Rel.At H g1 o1 r q := by assumption) (hf : OneSh c.sf := by assumption) (hn3 : c.sf.length ≤ 3 := by omega) (hs : r.Small := by assumption) :
    GCalls Try.prog 154 [.pointer (some ⟨g0, o0, none⟩), .pointer (some ⟨g1, o1, none⟩)] H (Ret (.bool (B (RelOk c.sf r))) H) := by
  refine GCalls.ret rfl ?_
  obtain ⟨g, o, hga, _⟩ := h.2.1.1.resolve_left (by have := hf.pos; omega)
  have hpos := hf.pos
  obtain ⟨w1, w2, w3⟩ := hs
  have hC := (hf.is 0 hpos).1.c.1
  have q1 := hC.tl
  have q2 := hC.obj
  have q3 := hC.n40
  refine GCalls.body (N := 126) (rs := [.tmp 4]) Try.func154 rfl rfl rfl rfl (fun Qx s hend => ?_)
  refine .fg [0, 1] rfl ?_
  have d := GHeap.Le.refl H
  have f := h
  have b := h'
  obtain ⟨w, a3, e, a1⟩ := h.get
  have hms : MemN _ _ _ _ _ := ⟨rfl, h.1⟩
  have his := h.2
  obtain ⟨a6, a5, a4, u⟩ := h'.get
  have hmr : MemN _ _ _ _ _ := ⟨rfl, h'.1⟩
  have hir := h'.2
  have m := e.1
  rw [hga] at m
  have t := w
  rw [hga] at t
  have hsl := e.sl
  rw [hga] at hsl
  have hca : Cat.At _ g (o + (0 : Int).toNat * 7 + 0) (c.sf.getD 0 SFun.z).sh (p.p0 0).sh := ⟨(m.at' (i := 0) hpos).left, (e.2 0 hpos).1⟩
  obtain ⟨d0, d1, d2, d3, d4, e1, e2, e3, e4⟩ := hca.get
  refine .seq (fun K1 g3 => .region (.mv rfl (.nil (g3 _ _ (.seq (fun K2 f9 => .region (.mv rfl (.q rfl (.nilCheck rfl) (.q rfl (.fieldAddr fo_60_0_VStr rfl) (.q rfl (.load on_57_VStr rfl t) ?_))))))))))
  refine .q rfl (.idx sl_57_VSs hsl (by omega) rfl rfl (by omega) (by omega) rfl) ?_
  refine .q rfl (.fieldAddr fo_107_0_VSFun rfl) (.mv rfl (.nil (f9 _ _ (.seq (fun K3 g5 => .seq (fun K4 d7 => ?_))))))
  refine .regionD mo_B (.q 0 (.q 1 (.q 2 (.q 3 (.q 4 (.q 5 (.q 6 (.q 7 (.q 8 (.q 9 (.q 10 (.q 11 (.q 12 (.q 13 (.q 14 (.q 15 (.c 16 0 (.q 17 (.q 18 (.q 19 (.q 20 (.q 21 (.q 22 (.q 23 (.q 24 (.q 25 (.q 26 (.q 27 (.q 28 (.q 29 (.q 30 (.done)))))))))))))))))))))))))))))))) (by kernel_rfl) ?_
  refine .mv rfl rfl (.q rfl (.nilCheck rfl) (.q rfl (.fieldAddr fo_110_0_VRel rfl) ?_))
  refine .q rfl (.load on_24_B rfl (by assumption)) ?_
  refine .q rfl (.len sl_24_A rfl) (.q rfl (.cmp rfl rfl rfl) (.mv rfl rfl ?_))
  refine .split (fun e0 => ?_) (fun e0 => ?_)
  ·
   try simp only [sps] at e0
   refine .z rfl (.z rfl (.z rfl (.z rfl (.z rfl (.z rfl (.z rfl (.z rfl (.z rfl (.sgc rfl rfl rfl rfl rfl rfl (.z rfl (.q rfl (.pickT rfl rfl) (.mv rfl rfl (.z rfl (.z rfl (.z rfl ?_)))))))))))))))
   refine .z rfl (.z rfl (.z rfl (.z rfl (.z rfl (.z rfl (.z rfl (.q rfl (.pickT rfl rfl) ?_)))))))
   refine .done ?_
   refine d7 _ _ ?_
   refine .condT rfl ?_
   refine .seq (fun K5 g2 => .region (.mv rfl (.nil (g2 _ _ ?_))))
   refine .ret ?_
   refine s _ _ ?_
   refine ⟨_, rfl, ?_⟩
   exact ⟨congrArg _ (B_false fun hh => by have := hh.n2; omega), d⟩
  try simp only [sps] at e0
  refine .qg rfl (.move rfl) (.qg rfl (.nilCheck rfl) (.qg rfl (.fieldAddr fo_110_0_VRel rfl) ?_))
  refine .qg rfl (.load on_24_B rfl (by assumption)) ?_
  refine .qg rfl (.move rfl) (.qg rfl (.nilCheck rfl) (.qg rfl (.fieldAddr fo_60_0_VStr rfl) ?_))
  refine .qg rfl (.load on_57_VStr rfl (by assumption)) ?_
  refine .qg rfl (.len sl_57_VSs rfl) ?_
  refine .callQ0g rfl rfl rfl rfl rfl rfl rfl @Try.call116 rfl (within_c) ?_
  refine .qg rfl (.not rfl) (.q rfl (.pickF rfl rfl) (.mv rfl rfl ?_))
  refine .split (fun a8 => ?_) (fun a8 => ?_)
  ·
   try simp only [sps] at a8
   refine .z rfl (.z rfl (.z rfl (.z rfl (.z rfl (.z rfl (.z rfl (.z rfl (.z rfl (.z rfl (.q rfl (.pickT rfl rfl) ?_))))))))))
   refine .done ?_
   refine d7 _ _ ?_
   refine .condT rfl ?_
   refine .seq (fun K6 f7 => .region (.mv rfl (.nil (f7 _ _ ?_))))
   refine .ret ?_
   refine s _ _ ?_
   refine ⟨_, rfl, ?_⟩
   exact ⟨congrArg _ (B_false fun hh => absurd (hh.so.symm.trans a8) (by simp)), d⟩
  try simp only [sps] at a8
  refine .qg rfl (.move rfl) (.qg rfl (.nilCheck rfl) (.qg rfl (.fieldAddr fo_110_1_VRel rfl) ?_))
  refine .qg rfl (.load on_25_B rfl (by assumption)) ?_
  refine .qg rfl (.len sl_25_B rfl) (.qg rfl (.move rfl) (.qg rfl (.nilCheck rfl) (.qg rfl (.fieldAddr fo_27_0_B rfl) ?_)))
  refine .qg rfl (.load on_2_A rfl (by assumption)) ?_
  refine .qg rfl (.cmp rfl rfl rfl) (.q rfl (.pickF rfl rfl) ?_)
  refine .done ?_
  refine d7 _ _ ?_
  refine .cond rfl (fun b0 => ?_) (fun b0 => ?_)
  ·
   try simp only [sps] at b0
   refine .seq (fun K7 f8 => .region (.mv rfl (.nil (f8 _ _ ?_))))
   refine .ret ?_
   refine s _ _ ?_
   refine ⟨_, rfl, ?_⟩
   exact ⟨congrArg _ (B_false fun hh => b0 hh.ml), d⟩
  simp only [sps] at b0
  have hso := a8
  have a2 := fun x => hf.le (x := x)
  refine .skip ?_
  refine g5 _ _ (.seq (fun K8 g4 => .seq (fun K9 f6 => .region (.mv rfl (.q rfl (.nilCheck rfl) (.q rfl (.fieldAddr fo_110_1_VRel rfl) ?_))))))
  refine .q rfl (.load on_25_B rfl (by assumption)) ?_
  refine .q rfl (.len sl_25_B rfl) (.mv rfl (.nil (f6 _ _ ?_)))
  refine .block ?_
  refine .loopR (σ := Nat) [(0, some _), (1, some _), (5, some _), (51, some _), (52, some _)] (fun k => [(53, some (.int .i64 (k : Int)))]) (fun k H' => St [] H H' ∧ (k : Int) ≤ r.me.length ∧ ∀ x, x < k → Rising (r.me.getD x []) ∧ allIn (r.me.getD x []) (tupN c.sf r.so x) = true) (fun k => (r.me.length - k : Int).toNat) (0) ⟨rfl, rfl, rfl, rfl, rfl, trivial⟩ ⟨rfl, trivial⟩ ?_ ?_
  ·
   refine ⟨.refl _ _, ?_⟩
   exact ⟨by omega, fun _ _ => by omega⟩
  rintro k HL1 ⟨j, hI⟩ KL1 c1
  refine .forget (fr' := [(53, some (.int .i64 (k : Int))), (0, some _), (1, some _), (5, some _), (51, some _), (52, some _)]) ⟨rfl, rfl, rfl, rfl, rfl, rfl, trivial⟩ ?_
  have nx_HL1 := j.nx
  replace d := d.st j (fun k hk => trivial)
  replace h := f.mono d
  replace h' := b.mono d
  clear w a3 e a1 hms his a6 a5 a4 u hmr hir m t hsl hca d0 d1 d2 d3 d4 e1 e2 e3 e4
  obtain ⟨w, a3, e, a1⟩ := h.get
  have hms : MemN _ _ _ _ _ := ⟨rfl, h.1⟩
  have his := h.2
  obtain ⟨a6, a5, a4, u⟩ := h'.get
  have hmr : MemN _ _ _ _ _ := ⟨rfl, h'.1⟩
  have hir := h'.2
  have m := e.1
  rw [hga] at m
  have t := w
  rw [hga] at t
  have hsl := e.sl
  rw [hga] at hsl
  have hca : Cat.At _ g (o + (0 : Int).toNat * 7 + 0) (c.sf.getD 0 SFun.z).sh (p.p0 0).sh := ⟨(m.at' (i := 0) hpos).left, (e.2 0 hpos).1⟩
  obtain ⟨d0, d1, d2, d3, d4, e1, e2, e3, e4⟩ := hca.get
  obtain ⟨hk1, b4⟩ := hI
  refine .seq (fun K10 e5 => .region (.q rfl (.cmp rfl rfl rfl) (.nil (e5 _ _ (.seq (fun K11 c2 => ?_))))))
  refine .cond rfl (fun b6 => ?_) (fun b6 => ?_)
  ·
   simp only [sps] at b6
   have hxs := hf.ob (x := k) (by omega)
   have w4 := w3 k
   have hpl := prodN_le (sizes_in hso (a2 k)) (by rw [length_szsL]; omega) (n := (szsL c.sf r.so k).length) (Nat.le_refl _)
   have d9 := length_szsL c.sf r.so k
   have htn : tupN c.sf r.so k = prodN (szsL c.sf r.so k) (szsL c.sf r.so k).length := by unfold tupN; rw [d9]
   have u1 := u.2 k (by omega)
   refine .skip ?_
   refine c2 _ _ (.seq (fun K12 e7 => ?_))
   refine .block ?_
   refine .seq (fun K13 c6 => .region (.mv rfl ?_))
   refine .q rfl (.idxN sl_25_B (Intss.sl (by assumption)) rfl rfl (by omega)) ?_
   refine .q rfl (.loadR on_24_B (by assumption) rfl (by omega)) ?_
   refine .mv rfl (.mv rfl (.nil (c6 _ _ (.seq (fun K14 a9 => .region (.mv rfl ?_))))))
   refine .callQ rfl rfl rfl rfl @Try.call195 rfl (rising_c) ?_
   refine .q rfl (.not rfl) (.mv rfl ?_)
   refine .split (fun b1 => ?_) (fun b1 => ?_)
   ·
    simp only [sps] at b1
    refine .z rfl (.z rfl (.z rfl (.z rfl (.z rfl (.z rfl (.z rfl (.z rfl (.z rfl (.z rfl (.z rfl (.q rfl (.pickT rfl rfl) (.nil (a9 _ _ ?_)))))))))))))
    refine .condT rfl ?_
    refine .seq (fun K15 f1 => .region (.mv rfl (.nil (f1 _ _ ?_))))
    refine .ret ?_
    refine s _ _ ?_
    refine ⟨_, rfl, ?_⟩
    exact ⟨congrArg _ (B_false fun hh => b1 (hh.row k (by omega)).1), d⟩
   simp only [sps] at b1
   refine .qg rfl (.move rfl) (.qg rfl (.move rfl) (.qg rfl (.move rfl) (.qg rfl (.nilCheck rfl) (.qg rfl (.fieldAddr fo_110_0_VRel rfl) ?_))))
   refine .qg rfl (.load on_24_B rfl (by assumption)) ?_
   refine .qg rfl (.move rfl) ?_
   refine .callg rfl rfl rfl rfl rfl rfl @Try.call197 rfl (sizesAt_c (x := (k : Int)) (hso := hso) (hx0 := by omega) (hx := hxs) (hn := by omega)) ?_
   rintro _ H69 ⟨a7, g69, rfl, b2, ge69⟩
   have nx_H69 := a7.1
   replace d := d.trans a7
   replace j := j.le a7
   have lt_at69 := GHeap.ltg b2
   replace h := f.mono d
   replace h' := b.mono d
   clear w a3 e a1 hms his a6 a5 a4 u hmr hir m t hsl hca d0 d1 d2 d3 d4 e1 e2 e3 e4
   obtain ⟨w, a3, e, a1⟩ := h.get
   have hms : MemN _ _ _ _ _ := ⟨rfl, h.1⟩
   have his := h.2
   obtain ⟨a6, a5, a4, u⟩ := h'.get
   have hmr : MemN _ _ _ _ _ := ⟨rfl, h'.1⟩
   have hir := h'.2
   have m := e.1
   rw [hga] at m
   have t := w
   rw [hga] at t
   have hsl := e.sl
   rw [hga] at hsl
   have hca : Cat.At _ g (o + (0 : Int).toNat * 7 + 0) (c.sf.getD 0 SFun.z).sh (p.p0 0).sh := ⟨(m.at' (i := 0) hpos).left, (e.2 0 hpos).1⟩
   obtain ⟨d0, d1, d2, d3, d4, e1, e2, e3, e4⟩ := hca.get
   clear u1
   have u1 := u.2 k (by omega)
   have i69 := Ints.of_get b2
   refine .callQg rfl rfl rfl rfl rfl rfl @Try.call196 rfl (tupleCount_c (l := szsL c.sf r.so k) (hl := sizes_in hso (a2 k)) (hn := by omega)) ?_
   refine .callQg rfl rfl rfl rfl rfl rfl @Try.call116 rfl (within_c) ?_
   refine .qg rfl (.not rfl) (.q rfl (.pickF rfl rfl) (.nil (a9 _ _ ?_)))
   refine .cond rfl (fun b3 => ?_) (fun b3 => ?_)
   ·
    simp only [sps] at b3
    refine .seq (fun K16 c4 => .region (.mv rfl (.nil (c4 _ _ ?_))))
    refine .ret ?_
    refine s _ _ ?_
    refine ⟨_, rfl, ?_⟩
    exact ⟨congrArg _ (B_false fun hh => by
      have f4 := (hh.row k (by omega)).2
      rw [htn] at f4
      exact absurd (f4.symm.trans b3) (by simp)), d⟩
   simp only [sps] at b3
   refine .skip ?_
   refine e7 _ _ (.region ?_)
   refine .q rfl (.add rfl rfl rfl (by omega) (by omega)) ?_
   refine .mv rfl (.nil ?_)
   refine c1 (k + 1) _ _ ?_ ?_ ⟨rfl, rfl, rfl, rfl, rfl, rfl, trivial⟩
   ·
    refine ⟨j, ?_⟩
    refine ⟨by omega, fun x hx => ?_⟩
    by_cases hltq : x < k
    · exact b4 x hltq
    · obtain rfl : x = k := by omega
      exact ⟨b1, allIn_iff.2 (by rw [htn]; exact b3)⟩
   omega
  try simp only [sps] at b6
  refine .exit ?_
  refine g4 _ _ (.seq (fun K17 b7 => .seq (fun K18 c3 => .region (.mv rfl (.q rfl (.nilCheck rfl) (.q rfl (.fieldAddr fo_27_1_B rfl) ?_))))))
  refine .q rfl (.load on_24_B rfl (by assumption)) ?_
  refine .q rfl (.len sl_24_A rfl) (.mv rfl (.nil (c3 _ _ ?_)))
  refine .block ?_
  refine .loopR (σ := Nat) [(0, some _), (1, some _), (5, some _), (79, some _)] (fun ar => [(80, some (.int .i64 (ar : Int)))]) (fun ar H' => St [] HL1 H' ∧ (ar : Int) ≤ (c.sf.getD 0 SFun.z).sh.src.length ∧ ∀ z, z < ar → ∀ i, i < (r.me.getD ((c.sf.getD 0 SFun.z).sh.src.getD z 0).toNat []).length → (r.me.getD ((c.sf.getD 0 SFun.z).sh.tgt.getD z 0).toNat []).contains (movN c.sf r.so ((c.sf.getD 0 SFun.z).sh.src.getD z 0).toNat ((c.sf.getD 0 SFun.z).sh.tgt.getD z 0).toNat z ((r.me.getD ((c.sf.getD 0 SFun.z).sh.src.getD z 0).toNat []).getD i 0)) = true) (fun ar => ((c.sf.getD 0 SFun.z).sh.src.length - ar : Int).toNat) (0) ⟨rfl, rfl, rfl, rfl, trivial⟩ ⟨rfl, trivial⟩ ?_ ?_
  ·
   refine ⟨.refl _ _, ?_⟩
   exact ⟨by omega, fun _ _ => by omega⟩
  rintro ar HL2 ⟨v, hI⟩ KL2 c7
  refine .forget (fr' := [(80, some (.int .i64 (ar : Int))), (0, some _), (1, some _), (5, some _), (79, some _)]) ⟨rfl, rfl, rfl, rfl, rfl, trivial⟩ ?_
  have nx_HL2 := v.nx
  replace d := d.st v (fun k hk => trivial)
  replace j := j.sA v
  replace h := f.mono d
  replace h' := b.mono d
  clear w a3 e a1 hms his a6 a5 a4 u hmr hir m t hsl hca d0 d1 d2 d3 d4 e1 e2 e3 e4
  obtain ⟨w, a3, e, a1⟩ := h.get
  have hms : MemN _ _ _ _ _ := ⟨rfl, h.1⟩
  have his := h.2
  obtain ⟨a6, a5, a4, u⟩ := h'.get
  have hmr : MemN _ _ _ _ _ := ⟨rfl, h'.1⟩
  have hir := h'.2
  have m := e.1
  rw [hga] at m
  have t := w
  rw [hga] at t
  have hsl := e.sl
  rw [hga] at hsl
  have hca : Cat.At _ g (o + (0 : Int).toNat * 7 + 0) (c.sf.getD 0 SFun.z).sh (p.p0 0).sh := ⟨(m.at' (i := 0) hpos).left, (e.2 0 hpos).1⟩
  obtain ⟨d0, d1, d2, d3, d4, e1, e2, e3, e4⟩ := hca.get
  obtain ⟨hk2, f3⟩ := hI
  refine .seq (fun K19 c8 => .region (.q rfl (.cmp rfl rfl rfl) (.nil (c8 _ _ (.seq (fun K20 c9 => ?_))))))
  refine .cond rfl (fun d5 => ?_) (fun d5 => ?_)
  ·
   simp only [sps] at d5
   have z0 := hf.sz (a := ar) (by omega) hpos
   have z1 := (hf.is 0 hpos).1.zl
   have w5 := w3 ((c.sf.getD 0 SFun.z).sh.src.getD ar 0).toNat
   have w6 := w3 ((c.sf.getD 0 SFun.z).sh.tgt.getD ar 0).toNat
   have u2 := u.2 ((c.sf.getD 0 SFun.z).sh.src.getD ar 0).toNat (by omega)
   have u3 := u.2 ((c.sf.getD 0 SFun.z).sh.tgt.getD ar 0).toNat (by omega)
   refine .skip ?_
   refine c9 _ _ (.seq (fun K21 c0 => ?_))
   refine .block ?_
   refine .seq (fun K22 f2 => .region (.mv rfl (.mv rfl (.nil (f2 _ _ (.seq (fun K23 d8 => ?_)))))))
   refine .regionD mo_B (.q 0 (.q 1 (.q 2 (.q 3 (.q 4 (.q 5 (.q 6 (.q 7 (.q 8 (.q 9 (.q 10 (.q 11 (.q 12 (.q 13 (.q 14 (.done)))))))))))))))) (by kernel_rfl) ?_
   refine .mv rfl rfl (.q rfl (.nilCheck rfl) (.q rfl (.fieldAddr fo_110_1_VRel rfl) ?_))
   refine .q rfl (.load on_25_B rfl (by assumption)) ?_
   refine .mv rfl rfl (.q rfl (.nilCheck rfl) (.q rfl (.fieldAddr fo_27_1_B rfl) ?_))
   refine .q rfl (.load on_24_B rfl (by assumption)) ?_
   refine .mv rfl rfl ?_
   refine .q rfl (.idxN sl_24_A (by assumption) rfl rfl (by omega)) ?_
   refine .q rfl (.loadI on_2_A (by assumption) rfl (by omega)) ?_
   refine .q rfl (.idx1 sl_25_B (Intss.sl (by assumption)) rfl rfl (by omega) (by omega)) ?_
   refine .q rfl (.loadR on_24_B (by assumption) rfl (by omega)) ?_
   refine .q rfl (.len sl_24_A rfl) (.mv rfl rfl ?_)
   refine .done ?_
   refine d8 _ _ ?_
   refine .block ?_
   refine .loopR (σ := Nat) [(0, some _), (1, some _), (5, some _), (8, some _), (79, some _), (80, some _), (95, some _), (96, some _)] (fun l => [(97, some (.int .i64 (l : Int)))]) (fun l H' => St [] HL2 H' ∧ (l : Int) ≤ (r.me.getD ((c.sf.getD 0 SFun.z).sh.src.getD ar 0).toNat []).length ∧ ∀ i, i < l → (r.me.getD ((c.sf.getD 0 SFun.z).sh.tgt.getD ar 0).toNat []).contains (movN c.sf r.so ((c.sf.getD 0 SFun.z).sh.src.getD ar 0).toNat ((c.sf.getD 0 SFun.z).sh.tgt.getD ar 0).toNat ar ((r.me.getD ((c.sf.getD 0 SFun.z).sh.src.getD ar 0).toNat []).getD i 0)) = true) (fun l => ((r.me.getD ((c.sf.getD 0 SFun.z).sh.src.getD ar 0).toNat []).length - l : Int).toNat) (0) ⟨rfl, rfl, rfl, rfl, rfl, rfl, rfl, rfl, trivial⟩ ⟨rfl, trivial⟩ ?_ ?_
   ·
    refine ⟨.refl _ _, ?_⟩
    exact ⟨by omega, fun _ _ => by omega⟩
   rintro l HL3 ⟨y, hI⟩ KL3 c5
   refine .forget (fr' := [(97, some (.int .i64 (l : Int))), (0, some _), (1, some _), (5, some _), (8, some _), (79, some _), (80, some _), (95, some _), (96, some _)]) ⟨rfl, rfl, rfl, rfl, rfl, rfl, rfl, rfl, rfl, trivial⟩ ?_
   have nx_HL3 := y.nx
   replace d := d.st y (fun k hk => trivial)
   replace j := j.sA y
   replace v := v.sA y
   replace h := f.mono d
   replace h' := b.mono d
   clear w a3 e a1 hms his a6 a5 a4 u hmr hir m t hsl hca d0 d1 d2 d3 d4 e1 e2 e3 e4
   obtain ⟨w, a3, e, a1⟩ := h.get
   have hms : MemN _ _ _ _ _ := ⟨rfl, h.1⟩
   have his := h.2
   obtain ⟨a6, a5, a4, u⟩ := h'.get
   have hmr : MemN _ _ _ _ _ := ⟨rfl, h'.1⟩
   have hir := h'.2
   have m := e.1
   rw [hga] at m
   have t := w
   rw [hga] at t
   have hsl := e.sl
   rw [hga] at hsl
   have hca : Cat.At _ g (o + (0 : Int).toNat * 7 + 0) (c.sf.getD 0 SFun.z).sh (p.p0 0).sh := ⟨(m.at' (i := 0) hpos).left, (e.2 0 hpos).1⟩
   obtain ⟨d0, d1, d2, d3, d4, e1, e2, e3, e4⟩ := hca.get
   clear u2 u3
   have u2 := u.2 ((c.sf.getD 0 SFun.z).sh.src.getD ar 0).toNat (by omega)
   have u3 := u.2 ((c.sf.getD 0 SFun.z).sh.tgt.getD ar 0).toNat (by omega)
   obtain ⟨hk3, f5⟩ := hI
   refine .seq (fun K24 e8 => .region (.q rfl (.cmp rfl rfl rfl) (.nil (e8 _ _ (.seq (fun K25 e6 => ?_))))))
   refine .cond rfl (fun d6 => ?_) (fun d6 => ?_)
   ·
    simp only [sps] at d6
    have v1 := allIn_iff.1 (b4 ((c.sf.getD 0 SFun.z).sh.src.getD ar 0).toNat (by omega)).2 l (by omega)
    refine .skip ?_
    refine e6 _ _ (.seq (fun K26 b5 => ?_))
    refine .block ?_
    refine .seq (fun K27 f0 => .region ?_)
    refine .q rfl (.idxN sl_24_A (by assumption) rfl rfl (by omega)) ?_
    refine .q rfl (.loadI on_2_A (by assumption) rfl (by omega)) ?_
    refine .mv rfl (.nil (f0 _ _ (.seq (fun K28 e9 => ?_))))
    refine .regionD mo_B (.q 0 (.q 1 (.q 2 (.q 3 (.q 4 (.q 5 (.q 6 (.q 7 (.q 8 (.q 9 (.q 10 (.q 11 (.q 12 (.q 13 (.q 14 (.q 15 (.q 16 (.q 17 (.q 18 (.q 19 (.c 20 1 (.c 21 0 (.q 22 (.done)))))))))))))))))))))))) (by kernel_rfl) ?_
    refine .mv rfl rfl (.q rfl (.nilCheck rfl) (.q rfl (.fieldAddr fo_110_1_VRel rfl) ?_))
    refine .q rfl (.load on_25_B rfl (by assumption)) ?_
    refine .mv rfl rfl (.q rfl (.nilCheck rfl) (.q rfl (.fieldAddr fo_27_2_B rfl) ?_))
    refine .q rfl (.load on_24_B rfl (by assumption)) ?_
    refine .mv rfl rfl ?_
    refine .q rfl (.idxN sl_24_A (by assumption) rfl rfl (by omega)) ?_
    refine .q rfl (.loadI on_2_A (by assumption) rfl (by omega)) ?_
    refine .q rfl (.idx1 sl_25_B (Intss.sl (by assumption)) rfl rfl (by omega) (by omega)) ?_
    refine .q rfl (.loadR on_24_B (by assumption) rfl (by omega)) ?_
    refine .mv rfl rfl (.mv rfl rfl (.q rfl (.nilCheck rfl) (.q rfl (.fieldAddr fo_110_0_VRel rfl) ?_)))
    refine .q rfl (.load on_24_B rfl (by assumption)) ?_
    refine .mv rfl rfl (.mv rfl rfl ?_)
    refine .callQ1 rfl rfl rfl rfl rfl @Try.call198 rfl (moveTuple_c (ar := ar) (hf := hf) (hso := hso) (hn := by omega) (ha := by omega) (h0 := by omega) (h1 := by omega)) (.refl _) ?_
    refine .callQ0 rfl rfl rfl rfl rfl @Try.call178 rfl (has_c) ?_
    refine .q rfl (.not rfl) ?_
    refine .done ?_
    refine e9 _ _ ?_
    refine .cond rfl (fun a0 => ?_) (fun a0 => ?_)
    ·
     try simp only [sps] at a0
     refine .seq (fun K29 b9 => .region (.mv rfl (.nil (b9 _ _ ?_))))
     refine .ret ?_
     refine s _ _ ?_
     refine ⟨_, rfl, ?_⟩
     exact ⟨congrArg _ (B_false fun hh => absurd ((hh.mv ar (by omega) l (by omega)).symm.trans a0) (by simp)), d⟩
    try simp only [sps] at a0
    refine .skip ?_
    refine b5 _ _ (.region ?_)
    refine .q rfl (.add rfl rfl rfl (by omega) (by omega)) ?_
    refine .mv rfl (.nil ?_)
    refine c5 (l + 1) _ _ ?_ ?_ ⟨rfl, rfl, rfl, rfl, rfl, rfl, rfl, rfl, rfl, trivial⟩
    ·
     refine ⟨y, ?_⟩
     refine ⟨by omega, fun i hx => ?_⟩
     by_cases hltq : i < l
     · exact f5 i hltq
     · obtain rfl : i = l := by omega
       exact a0
    omega
   try simp only [sps] at d6
   refine .exit ?_
   refine c0 _ _ (.region ?_)
   refine .q rfl (.add rfl rfl rfl (by omega) (by omega)) ?_
   refine .mv rfl (.nil ?_)
   refine c7 (ar + 1) _ _ ?_ ?_ ⟨rfl, rfl, rfl, rfl, rfl, trivial⟩
   ·
    refine ⟨v, ?_⟩
    refine ⟨by omega, fun z hx => ?_⟩
    by_cases hltq : z < ar
    · exact f3 z hltq
    · obtain rfl : z = ar := by omega
      exact fun i hi => f5 i (by omega)
   omega
  try simp only [sps] at d5
  refine .exit ?_
  refine b7 _ _ (.seq (fun K30 b8 => .region (.mv rfl (.nil (b8 _ _ ?_)))))
  refine .ret ?_
  refine s _ _ ?_
  refine ⟨_, rfl, ?_⟩
  exact ⟨congrArg _ (B_true ⟨by omega, allIn_iff.2 a8, b0, fun x hx => b4 x (by omega), fun a ha => f3 a (by omega)⟩), d⟩
end Go.Proofs.Ytiooclghkafokaa
namespace Go.Proofs.Ytiooclghkafokaa
open Go Go.GL Go.RowKit Go.Proofs
theorem StrOk.one {c : Str} (h : ∀ s, s < c.sf.length → (c.sf.getD s SFun.z).Is ∧ (c.sf.getD s SFun.z).sh = (c.sf.getD 0 SFun.z).sh) (hn : 1 ≤ c.sf.length) : OneSh c.sf := ⟨hn, fun s hs => (h s hs).1, fun s hs => (h s hs).2⟩
set_option maxHeartbeats 4000000 in
theorem specIsStructure_c {c : Str} {p : StrP} {H : GHeap} (hin : c.In H p := by assumption) (hs : c.Small := by assumption) :
    GCalls Try.prog 35 [.agg (c.cells p).toArray] H (Ret (.bool (B (StrOk c))) H) := by
  refine GCalls.ret rfl ?_
  obtain ⟨⟨w1, w2⟩, w3, w4⟩ := hs
  refine GCalls.body (N := 61) (rs := [.tmp 2]) Try.func35 rfl rfl rfl rfl (fun Qx d hend => ?_)
  refine .fg [0] rfl ?_
  have b := GHeap.Le.refl H
  have a := hin
  refine .seq (fun K1 e2 => .region ?_)
  refine .R rfl (.boxR rfl sz_60_VStr rfl) ?_
  rintro _ H1 ⟨g1, rfl, c5, ge1, e⟩
  have nx_H1 := c5.1
  replace b := b.trans c5
  have lt_at1 := GHeap.ltg e
  replace hin := a.mono b
  have f : Str.At _ g1 0 c p := ⟨Mem.of_get e, hin⟩
  obtain ⟨y, a2, r, t⟩ := f.get
  have u : MemN _ _ _ _ _ := ⟨rfl, f.1⟩
  have a3 := f.2
  refine .mv rfl (.nil (e2 _ _ (.seq (fun K2 d9 => .seq (fun K3 c8 => .region (.q rfl (.fieldAddr fo_60_0_VStr rfl) ?_))))))
  refine .q rfl (.load on_57_VStr rfl (by first | assumption | exact Mem.of_get e 0 _ rfl)) ?_
  refine .q rfl (.len sl_57_VSs rfl) ?_
  refine .callQ rfl rfl rfl rfl @Try.call83 rfl (l01In_c) ?_
  refine .q rfl (.not rfl) (.mv rfl ?_)
  refine .split (fun b2 => ?_) (fun b2 => ?_)
  ·
   simp only [sps] at b2
   refine .z rfl (.z rfl (.z rfl (.z rfl (.q rfl (.pickT rfl rfl) (.nil (c8 _ _ ?_))))))
   refine .condT rfl ?_
   refine .seq (fun K4 e0 => .region (.mv rfl (.nil (e0 _ _ ?_))))
   refine .ret ?_
   refine d _ _ ?_
   refine ⟨_, rfl, ?_⟩
   exact ⟨congrArg _ (B_false fun hh => by have := hh.n; omega), b⟩
  simp only [sps] at b2
  refine .qg rfl (.fieldAddr fo_60_1_VStr rfl) ?_
  refine .qg rfl (.load on_58_VStr rfl (by first | assumption | exact Mem.of_get e 1 _ rfl)) ?_
  refine .qg rfl (.len sl_58_VSr rfl) (.qg rfl (.cmp rfl rfl rfl) (.q rfl (.pickF rfl rfl) (.nil (c8 _ _ ?_))))
  refine .cond rfl (fun a9 => ?_) (fun a9 => ?_)
  ·
   simp only [sps] at a9
   refine .seq (fun K5 e1 => .region (.mv rfl (.nil (e1 _ _ ?_))))
   refine .ret ?_
   refine d _ _ ?_
   refine ⟨_, rfl, ?_⟩
   exact ⟨congrArg _ (B_false fun hh => by have := hh.m; omega), b⟩
  simp only [sps] at a9
  refine .skip ?_
  refine d9 _ _ (.seq (fun K6 d4 => .seq (fun K7 d6 => .region (.mv rfl (.nil (d6 _ _ ?_))))))
  refine .block ?_
  refine .loopR (σ := Nat) [(1, some _)] (fun k => [(3, some (.int .i64 (k : Int)))]) (fun k H' => St [] H1 H' ∧ (k : Int) ≤ c.sf.length ∧ ∀ s, s < k → (c.sf.getD s SFun.z).Is ∧ (c.sf.getD s SFun.z).sh = (c.sf.getD 0 SFun.z).sh) (fun k => (c.sf.length - k : Int).toNat) (0) ⟨rfl, trivial⟩ ⟨rfl, trivial⟩ ?_ ?_
  ·
   refine ⟨.refl _ _, ?_⟩
   exact ⟨by omega, fun _ _ => by omega⟩
  rintro k HL1 ⟨j, hI⟩ KL1 b1
  refine .forget (fr' := [(3, some (.int .i64 (k : Int))), (1, some _)]) ⟨rfl, rfl, trivial⟩ ?_
  have nx_HL1 := j.nx
  replace b := b.st j (fun k hk => trivial)
  replace e := j.same _ _ trivial e
  replace hin := a.mono b
  clear f y a2 r t u a3
  have f : Str.At _ g1 0 c p := ⟨Mem.of_get e, hin⟩
  obtain ⟨y, a2, r, t⟩ := f.get
  have u : MemN _ _ _ _ _ := ⟨rfl, f.1⟩
  have a3 := f.2
  obtain ⟨hk1, c3⟩ := hI
  refine .seq (fun K8 e3 => .seq (fun K9 c9 => .region (.mv rfl (.q rfl (.fieldAddr fo_60_0_VStr rfl) ?_))))
  refine .q rfl (.load on_57_VStr rfl (by first | assumption | exact Mem.of_get e 0 _ rfl)) ?_
  refine .q rfl (.len sl_57_VSs rfl) (.q rfl (.cmp rfl rfl rfl) (.nil (c9 _ _ ?_)))
  refine .cond rfl (fun b7 => ?_) (fun b7 => ?_)
  ·
   simp only [sps] at b7
   obtain ⟨g, o, hga, _⟩ := r.1.resolve_left (by omega)
   have w5 := w2 k (by omega)
   have w6 := w2 0 (by omega)
   have a5 := r.1
   rw [hga] at a5
   have a4 := y
   rw [hga] at a4
   have hsl := r.sl
   rw [hga] at hsl
   have u : MemN _ g (o + (k : Int).toNat * 7) 7 ((c.sf.getD k SFun.z).cells (p.p0 k)) := ⟨rfl, a5.at' (i := k) (by omega)⟩
   have d7 : MemN _ g (o + (k : Int).toNat * 7 + 0) 5 ((c.sf.getD k SFun.z).sh.cells (p.p0 k).sh) := ⟨rfl, (a5.at' (i := k) (by omega)).left⟩
   have d1 : MemN _ g (o + (0 : Int).toNat * 7 + 0) 5 ((c.sf.getD 0 SFun.z).sh.cells (p.p0 0).sh) := ⟨rfl, (a5.at' (i := 0) (by omega)).left⟩
   have d5 := r.2 k (by omega)
   have d0 := (r.2 k (by omega)).1
   have d2 := (r.2 0 (by omega)).1
   refine .skip ?_
   refine e3 _ _ (.seq (fun K10 c0 => ?_))
   refine .block ?_
   refine .seq (fun K11 w => ?_)
   refine .regionD mo_B (.q 0 (.q 1 (.q 2 (.q 3 (.q 4 (.c 5 0 (.q 6 (.q 7 (.q 8 (.q 9 (.q 10 (.q 11 (.q 12 (.q 13 (.q 14 (.q 15 (.q 16 (.q 17 (.q 18 (.c 19 0 (.q 20 (.q 21 (.done))))))))))))))))))))))) (by kernel_rfl) ?_
   refine .q rfl (.fieldAddr fo_60_0_VStr rfl) (.q rfl (.load on_57_VStr rfl a4) (.mv rfl rfl ?_))
   refine .q rfl (.idx sl_57_VSs hsl (by omega) rfl rfl (by omega) (by omega) rfl) ?_
   refine .q rfl (.loadM ag_107_VSFun rfl u) ?_
   refine .callQ0 rfl rfl rfl rfl rfl @Try.call84 rfl (l19Is_c (hin := d5) (hs := w5)) ?_
   refine .q rfl (.not rfl) (.mv rfl rfl ?_)
   refine .split (fun x => ?_) (fun x => ?_)
   ·
    try simp only [sps] at x
    refine .z rfl (.z rfl (.z rfl (.z rfl (.z rfl (.z rfl (.z rfl (.z rfl (.z rfl (.z rfl (.z rfl (.sgc rfl rfl rfl rfl rfl rfl (.z rfl (.q rfl (.pickT rfl rfl) ?_)))))))))))))
    refine .done ?_
    refine w _ _ ?_
    refine .condT rfl ?_
    refine .seq (fun K12 c1 => .region (.mv rfl (.nil (c1 _ _ ?_))))
    refine .ret ?_
    refine d _ _ ?_
    refine ⟨_, rfl, ?_⟩
    exact ⟨congrArg _ (B_false fun hh => x (hh.is k (by omega))), b⟩
   try simp only [sps] at x
   refine .qg rfl (.fieldAddr fo_60_0_VStr rfl) (.qg rfl (.load on_57_VStr rfl a4) (.qg rfl (.move rfl) ?_))
   refine .qg rfl (.idx sl_57_VSs hsl (by omega) rfl rfl (by omega) (by omega) rfl) ?_
   refine .qg rfl (.fieldAddr fo_107_0_VSFun rfl) (.qg rfl (.loadM ag_27_D rfl d7) (.qg rfl (.fieldAddr fo_60_0_VStr rfl) (.qg rfl (.load on_57_VStr rfl a4) ?_)))
   refine .qg rfl (.idx sl_57_VSs hsl (by omega) rfl rfl (by omega) (by omega) rfl) ?_
   refine .qg rfl (.fieldAddr fo_107_0_VSFun rfl) (.qg rfl (.loadM ag_27_D rfl d1) ?_)
   refine .callQ0g rfl rfl rfl rfl rfl rfl rfl @Try.call85 rfl (l02Same_c (hin := d0) (hin' := d2) (hs := w5.1) (hs' := w6.1)) ?_
   refine .qg rfl (.not rfl) (.q rfl (.pickF rfl rfl) ?_)
   refine .done ?_
   refine w _ _ ?_
   refine .cond rfl (fun v => ?_) (fun v => ?_)
   ·
    try simp only [sps] at v
    refine .seq (fun K13 b5 => .region (.mv rfl (.nil (b5 _ _ ?_))))
    refine .ret ?_
    refine d _ _ ?_
    refine ⟨_, rfl, ?_⟩
    exact ⟨congrArg _ (B_false fun hh => v (hh.sh k (by omega))), b⟩
   try simp only [sps] at v
   refine .skip ?_
   refine c0 _ _ (.region (.mv rfl ?_))
   refine .q rfl (.add rfl rfl rfl (by omega) (by omega)) ?_
   refine .mv rfl (.nil ?_)
   refine b1 (k + 1) _ _ ?_ ?_ ⟨rfl, rfl, trivial⟩
   ·
    refine ⟨j, ?_⟩
    refine ⟨by omega, fun s hx => ?_⟩
    by_cases hltq : s < k
    · exact c3 s hltq
    · obtain rfl : s = k := by omega
      exact ⟨x, v⟩
   omega
  simp only [sps] at b7
  have hone := StrOk.one (c := c) (fun s hs => c3 s (by omega)) (by omega)
  refine .exit ?_
  refine d4 _ _ (.seq (fun K14 a7 => .seq (fun K15 c2 => .region (.mv rfl (.nil (c2 _ _ ?_))))))
  refine .block ?_
  refine .loopR (σ := Nat) [(1, some _)] (fun m => [(4, some (.int .i64 (m : Int)))]) (fun m H' => St [] HL1 H' ∧ (m : Int) ≤ c.rl.length ∧ ∀ i, i < m → RelOk c.sf (c.rl.getD i Rel.z)) (fun m => (c.rl.length - m : Int).toNat) (0) ⟨rfl, trivial⟩ ⟨rfl, trivial⟩ ?_ ?_
  ·
   refine ⟨.refl _ _, ?_⟩
   exact ⟨by omega, fun _ _ => by omega⟩
  rintro m HL2 ⟨l, hI⟩ KL2 b6
  refine .forget (fr' := [(4, some (.int .i64 (m : Int))), (1, some _)]) ⟨rfl, rfl, trivial⟩ ?_
  have nx_HL2 := l.nx
  replace b := b.st l (fun k hk => trivial)
  replace j := j.sA l
  replace e := l.same _ _ trivial e
  replace hin := a.mono b
  clear f y a2 r t u a3
  have f : Str.At _ g1 0 c p := ⟨Mem.of_get e, hin⟩
  obtain ⟨y, a2, r, t⟩ := f.get
  have u : MemN _ _ _ _ _ := ⟨rfl, f.1⟩
  have a3 := f.2
  obtain ⟨hk2, c4⟩ := hI
  refine .seq (fun K16 b4 => .seq (fun K17 a8 => .region (.mv rfl (.q rfl (.fieldAddr fo_60_1_VStr rfl) ?_))))
  refine .q rfl (.load on_58_VStr rfl (by first | assumption | exact Mem.of_get e 1 _ rfl)) ?_
  refine .q rfl (.len sl_58_VSr rfl) (.q rfl (.cmp rfl rfl rfl) (.nil (a8 _ _ ?_)))
  refine .cond rfl (fun a6 => ?_) (fun a6 => ?_)
  ·
   simp only [sps] at a6
   obtain ⟨g2, o2, hgb, _⟩ := t.1.resolve_left (by omega)
   have w7 := w4 m (by omega)
   have c6 := t.1
   rw [hgb] at c6
   have c7 := a2
   rw [hgb] at c7
   have a0 := t.sl
   rw [hgb] at a0
   have d3 : MemN _ g2 (o2 + (m : Int).toNat * 2) 2 ((c.rl.getD m Rel.z).cells (p.p1 m)) := ⟨rfl, c6.at' (i := m) (by omega)⟩
   have d8 := t.2 m (by omega)
   refine .skip ?_
   refine b4 _ _ (.seq (fun K18 b3 => ?_))
   refine .block ?_
   refine .seq (fun K19 b8 => ?_)
   refine .regionD mo_B (.q 0 (.q 1 (.q 2 (.q 3 (.q 4 (.q 5 (.q 6 (.c 7 0 (.q 8 (.done)))))))))) (by kernel_rfl) ?_
   refine .q rfl (.fieldAddr fo_60_0_VStr rfl) ?_
   refine .q rfl (.load on_57_VStr rfl (by first | assumption | exact Mem.of_get e 0 _ rfl)) ?_
   refine .q rfl (.fieldAddr fo_60_1_VStr rfl) (.q rfl (.load on_58_VStr rfl c7) (.mv rfl rfl ?_))
   refine .q rfl (.idx sl_58_VSr a0 (by omega) rfl rfl (by omega) (by omega) rfl) ?_
   refine .q rfl (.loadM ag_110_VRel rfl d3) ?_
   refine .callQ0 rfl rfl rfl rfl rfl @Try.call86 rfl (l29Relation_c (h := r) (h' := d8) (hf := hone) (hn3 := by omega) (hs := w7)) ?_
   refine .q rfl (.not rfl) ?_
   refine .done ?_
   refine b8 _ _ ?_
   refine .cond rfl (fun a1 => ?_) (fun a1 => ?_)
   ·
    try simp only [sps] at a1
    refine .seq (fun K20 b9 => .region (.mv rfl (.nil (b9 _ _ ?_))))
    refine .ret ?_
    refine d _ _ ?_
    refine ⟨_, rfl, ?_⟩
    exact ⟨congrArg _ (B_false fun hh => a1 (hh.rl m (by omega))), b⟩
   try simp only [sps] at a1
   refine .skip ?_
   refine b3 _ _ (.region (.mv rfl ?_))
   refine .q rfl (.add rfl rfl rfl (by omega) (by omega)) ?_
   refine .mv rfl (.nil ?_)
   refine b6 (m + 1) _ _ ?_ ?_ ⟨rfl, rfl, trivial⟩
   ·
    refine ⟨l, ?_⟩
    refine ⟨by omega, fun i hx => ?_⟩
    by_cases hltq : i < m
    · exact c4 i hltq
    · obtain rfl : i = m := by omega
      exact a1
   omega
  try simp only [sps] at a6
  refine .exit ?_
  refine a7 _ _ (.seq (fun K21 b0 => .region (.mv rfl (.nil (b0 _ _ ?_)))))
  refine .ret ?_
  refine d _ _ ?_
  refine ⟨_, rfl, ?_⟩
  exact ⟨congrArg _ (B_true ⟨by omega, by omega, hone.is, hone.sh, fun i hi => c4 i (by omega)⟩), b⟩
set_option maxHeartbeats 4000000 in
theorem isStructure_c {g0 o0 : Nat} {c : Str} {p : StrP} {H : GHeap} (h : Str.At H g0 o0 c p := by assumption) (hs : c.Small := by assumption) :
    GCalls Try.prog 89 [.pointer (some ⟨g0, o0, none⟩)] H (Ret (.bool (B (StrOk c))) H) := by
  refine GCalls.ret rfl ?_
  obtain ⟨⟨w1, w2⟩, w3, w4⟩ := hs
  refine GCalls.body (N := 72) (rs := [.tmp 2]) Try.func89 rfl rfl rfl rfl (fun Qx a hend => ?_)
  refine .fg [0] rfl ?_
  have b := GHeap.Le.refl H
  have d := h
  obtain ⟨w, u, f, l⟩ := h.get
  have hms : MemN _ _ _ _ _ := ⟨rfl, h.1⟩
  have his := h.2
  refine .seq (fun K1 d6 => .region (.mv rfl (.nil (d6 _ _ (.seq (fun K2 d3 => .seq (fun K3 c5 => .region (.mv rfl (.q rfl (.nilCheck rfl) (.q rfl (.fieldAddr fo_60_0_VStr rfl) ?_))))))))))
  refine .q rfl (.load on_57_VStr rfl (by assumption)) ?_
  refine .q rfl (.len sl_57_VSs rfl) ?_
  refine .callQ rfl rfl rfl rfl @Try.call115 rfl (inRange_c) ?_
  refine .q rfl (.not rfl) (.mv rfl ?_)
  refine .split (fun b5 => ?_) (fun b5 => ?_)
  ·
   simp only [sps] at b5
   refine .z rfl (.z rfl (.z rfl (.z rfl (.z rfl (.z rfl (.q rfl (.pickT rfl rfl) (.nil (c5 _ _ ?_))))))))
   refine .condT rfl ?_
   refine .seq (fun K4 d4 => .region (.mv rfl (.nil (d4 _ _ ?_))))
   refine .ret ?_
   refine a _ _ ?_
   refine ⟨_, rfl, ?_⟩
   exact ⟨congrArg _ (B_false fun hh => by have := hh.n; omega), b⟩
  simp only [sps] at b5
  refine .qg rfl (.move rfl) (.qg rfl (.nilCheck rfl) (.qg rfl (.fieldAddr fo_60_1_VStr rfl) ?_))
  refine .qg rfl (.load on_58_VStr rfl (by assumption)) ?_
  refine .qg rfl (.len sl_58_VSr rfl) (.qg rfl (.cmp rfl rfl rfl) (.q rfl (.pickF rfl rfl) (.nil (c5 _ _ ?_))))
  refine .cond rfl (fun b3 => ?_) (fun b3 => ?_)
  ·
   simp only [sps] at b3
   refine .seq (fun K5 d5 => .region (.mv rfl (.nil (d5 _ _ ?_))))
   refine .ret ?_
   refine a _ _ ?_
   refine ⟨_, rfl, ?_⟩
   exact ⟨congrArg _ (B_false fun hh => by have := hh.m; omega), b⟩
  simp only [sps] at b3
  refine .skip ?_
  refine d3 _ _ (.seq (fun K6 c9 => .seq (fun K7 d1 => .region (.mv rfl (.q rfl (.nilCheck rfl) (.q rfl (.fieldAddr fo_60_0_VStr rfl) ?_))))))
  refine .q rfl (.load on_57_VStr rfl (by assumption)) ?_
  refine .q rfl (.len sl_57_VSs rfl) (.mv rfl (.nil (d1 _ _ ?_)))
  refine .block ?_
  refine .loopR (σ := Nat) [(0, some _), (24, some _)] (fun k => [(25, some (.int .i64 (k : Int)))]) (fun k H' => St [] H H' ∧ (k : Int) ≤ c.sf.length ∧ ∀ s, s < k → (c.sf.getD s SFun.z).Is ∧ (c.sf.getD s SFun.z).sh = (c.sf.getD 0 SFun.z).sh) (fun k => (c.sf.length - k : Int).toNat) (0) ⟨rfl, rfl, trivial⟩ ⟨rfl, trivial⟩ ?_ ?_
  ·
   refine ⟨.refl _ _, ?_⟩
   exact ⟨by omega, fun _ _ => by omega⟩
  rintro k HL1 ⟨e, hI⟩ KL1 a5
  refine .forget (fr' := [(25, some (.int .i64 (k : Int))), (0, some _), (24, some _)]) ⟨rfl, rfl, rfl, trivial⟩ ?_
  have nx_HL1 := e.nx
  replace b := b.st e (fun k hk => trivial)
  replace h := d.mono b
  clear w u f l hms his
  obtain ⟨w, u, f, l⟩ := h.get
  have hms : MemN _ _ _ _ _ := ⟨rfl, h.1⟩
  have his := h.2
  obtain ⟨hk1, c1⟩ := hI
  refine .seq (fun K8 d7 => .region (.q rfl (.cmp rfl rfl rfl) (.nil (d7 _ _ (.seq (fun K9 c6 => ?_))))))
  refine .cond rfl (fun b4 => ?_) (fun b4 => ?_)
  ·
   simp only [sps] at b4
   obtain ⟨g, o, hga, _⟩ := f.1.resolve_left (by omega)
   have w5 := w2 k (by omega)
   have w6 := w2 0 (by omega)
   have a1 := f.1
   rw [hga] at a1
   have a0 := w
   rw [hga] at a0
   have hsl := f.sl
   rw [hga] at hsl
   have d0 : SFun.At _ g (o + (k : Int).toNat * 7) (c.sf.getD k SFun.z) (p.p0 k) := ⟨a1.at' (i := k) (by omega), f.2 k (by omega)⟩
   have c7 : Cat.At _ g (o + (k : Int).toNat * 7 + 0) (c.sf.getD k SFun.z).sh (p.p0 k).sh := ⟨(a1.at' (i := k) (by omega)).left, (f.2 k (by omega)).1⟩
   have c8 : Cat.At _ g (o + (0 : Int).toNat * 7 + 0) (c.sf.getD 0 SFun.z).sh (p.p0 0).sh := ⟨(a1.at' (i := 0) (by omega)).left, (f.2 0 (by omega)).1⟩
   refine .skip ?_
   refine c6 _ _ (.seq (fun K10 b7 => ?_))
   refine .block ?_
   refine .seq (fun K11 a6 => .region (.mv rfl (.mv rfl (.nil (a6 _ _ (.seq (fun K12 y => ?_)))))))
   refine .regionD mo_B (.q 0 (.q 1 (.q 2 (.q 3 (.q 4 (.q 5 (.c 6 0 (.q 7 (.q 8 (.q 9 (.q 10 (.q 11 (.q 12 (.q 13 (.q 14 (.q 15 (.q 16 (.q 17 (.q 18 (.q 19 (.q 20 (.q 21 (.c 22 0 (.q 23 (.q 24 (.done)))))))))))))))))))))))))) (by kernel_rfl) ?_
   refine .mv rfl rfl (.q rfl (.nilCheck rfl) (.q rfl (.fieldAddr fo_60_0_VStr rfl) (.q rfl (.load on_57_VStr rfl a0) (.mv rfl rfl ?_))))
   refine .q rfl (.idx sl_57_VSs hsl (by omega) rfl rfl (by omega) (by omega) rfl) ?_
   refine .callQ0 rfl rfl rfl rfl rfl @Try.call153 rfl (isSetFunctor_c (h := d0) (hs := w5)) ?_
   refine .q rfl (.not rfl) (.mv rfl rfl ?_)
   refine .split (fun r => ?_) (fun r => ?_)
   ·
    try simp only [sps] at r
    refine .z rfl (.z rfl (.z rfl (.z rfl (.z rfl (.z rfl (.z rfl (.z rfl (.z rfl (.z rfl (.z rfl (.z rfl (.z rfl (.sgc rfl rfl rfl rfl rfl rfl (.z rfl (.q rfl (.pickT rfl rfl) ?_)))))))))))))))
    refine .done ?_
    refine y _ _ ?_
    refine .condT rfl ?_
    refine .seq (fun K13 a9 => .region (.mv rfl (.nil (a9 _ _ ?_))))
    refine .ret ?_
    refine a _ _ ?_
    refine ⟨_, rfl, ?_⟩
    exact ⟨congrArg _ (B_false fun hh => r (hh.is k (by omega))), b⟩
   try simp only [sps] at r
   refine .qg rfl (.move rfl) (.qg rfl (.nilCheck rfl) (.qg rfl (.fieldAddr fo_60_0_VStr rfl) (.qg rfl (.load on_57_VStr rfl a0) (.qg rfl (.move rfl) ?_))))
   refine .qg rfl (.idx sl_57_VSs hsl (by omega) rfl rfl (by omega) (by omega) rfl) ?_
   refine .qg rfl (.fieldAddr fo_107_0_VSFun rfl) (.qg rfl (.move rfl) (.qg rfl (.nilCheck rfl) (.qg rfl (.fieldAddr fo_60_0_VStr rfl) (.qg rfl (.load on_57_VStr rfl a0) ?_))))
   refine .qg rfl (.idx sl_57_VSs hsl (by omega) rfl rfl (by omega) (by omega) rfl) ?_
   refine .qg rfl (.fieldAddr fo_107_0_VSFun rfl) ?_
   refine .callQ0g rfl rfl rfl rfl rfl rfl rfl @Try.call140 rfl (sameCategory_c (h := c7) (h' := c8) (hs := w5.1) (hs' := w6.1)) ?_
   refine .qg rfl (.not rfl) (.q rfl (.pickF rfl rfl) ?_)
   refine .done ?_
   refine y _ _ ?_
   refine .cond rfl (fun t => ?_) (fun t => ?_)
   ·
    try simp only [sps] at t
    refine .seq (fun K14 a2 => .region (.mv rfl (.nil (a2 _ _ ?_))))
    refine .ret ?_
    refine a _ _ ?_
    refine ⟨_, rfl, ?_⟩
    exact ⟨congrArg _ (B_false fun hh => t (hh.sh k (by omega))), b⟩
   try simp only [sps] at t
   refine .skip ?_
   refine b7 _ _ (.region ?_)
   refine .q rfl (.add rfl rfl rfl (by omega) (by omega)) ?_
   refine .mv rfl (.nil ?_)
   refine a5 (k + 1) _ _ ?_ ?_ ⟨rfl, rfl, rfl, trivial⟩
   ·
    refine ⟨e, ?_⟩
    refine ⟨by omega, fun s hx => ?_⟩
    by_cases hltq : s < k
    · exact c1 s hltq
    · obtain rfl : s = k := by omega
      exact ⟨r, t⟩
   omega
  simp only [sps] at b4
  have hone := StrOk.one (c := c) (fun s hs => c1 s (by omega)) (by omega)
  refine .exit ?_
  refine c9 _ _ (.seq (fun K15 b9 => .seq (fun K16 a8 => .region (.mv rfl (.q rfl (.nilCheck rfl) (.q rfl (.fieldAddr fo_60_1_VStr rfl) ?_))))))
  refine .q rfl (.load on_58_VStr rfl (by assumption)) ?_
  refine .q rfl (.len sl_58_VSr rfl) (.mv rfl (.nil (a8 _ _ ?_)))
  refine .block ?_
  refine .loopR (σ := Nat) [(0, some _), (58, some _)] (fun m => [(59, some (.int .i64 (m : Int)))]) (fun m H' => St [] HL1 H' ∧ (m : Int) ≤ c.rl.length ∧ ∀ i, i < m → RelOk c.sf (c.rl.getD i Rel.z)) (fun m => (c.rl.length - m : Int).toNat) (0) ⟨rfl, rfl, trivial⟩ ⟨rfl, trivial⟩ ?_ ?_
  ·
   refine ⟨.refl _ _, ?_⟩
   exact ⟨by omega, fun _ _ => by omega⟩
  rintro m HL2 ⟨j, hI⟩ KL2 b0
  refine .forget (fr' := [(59, some (.int .i64 (m : Int))), (0, some _), (58, some _)]) ⟨rfl, rfl, rfl, trivial⟩ ?_
  have nx_HL2 := j.nx
  replace b := b.st j (fun k hk => trivial)
  replace e := e.sA j
  replace h := d.mono b
  clear w u f l hms his
  obtain ⟨w, u, f, l⟩ := h.get
  have hms : MemN _ _ _ _ _ := ⟨rfl, h.1⟩
  have his := h.2
  obtain ⟨hk2, c2⟩ := hI
  refine .seq (fun K17 a3 => .region (.q rfl (.cmp rfl rfl rfl) (.nil (a3 _ _ (.seq (fun K18 a7 => ?_))))))
  refine .cond rfl (fun b8 => ?_) (fun b8 => ?_)
  ·
   simp only [sps] at b8
   obtain ⟨g2, o2, hgb, _⟩ := l.1.resolve_left (by omega)
   have w7 := w4 m (by omega)
   have c3 := l.1
   rw [hgb] at c3
   have c4 := u
   rw [hgb] at c4
   have v := l.sl
   rw [hgb] at v
   have d2 : Rel.At _ g2 (o2 + (m : Int).toNat * 2) (c.rl.getD m Rel.z) (p.p1 m) := ⟨c3.at' (i := m) (by omega), l.2 m (by omega)⟩
   refine .skip ?_
   refine a7 _ _ (.seq (fun K19 b1 => ?_))
   refine .block ?_
   refine .seq (fun K20 b2 => .region (.mv rfl (.mv rfl (.nil (b2 _ _ (.seq (fun K21 a4 => .region (.mv rfl (.mv rfl (.q rfl (.nilCheck rfl) (.q rfl (.fieldAddr fo_60_1_VStr rfl) (.q rfl (.load on_58_VStr rfl c4) (.mv rfl ?_)))))))))))))
   refine .q rfl (.idx sl_58_VSr v (by omega) rfl rfl (by omega) (by omega) rfl) ?_
   refine .callQ rfl rfl rfl rfl @Try.call154 rfl (isRelation_c (h := h) (h' := d2) (hf := hone) (hn3 := by omega) (hs := w7)) ?_
   refine .q rfl (.not rfl) (.nil (a4 _ _ ?_))
   refine .cond rfl (fun x => ?_) (fun x => ?_)
   ·
    try simp only [sps] at x
    refine .seq (fun K22 c0 => .region (.mv rfl (.nil (c0 _ _ ?_))))
    refine .ret ?_
    refine a _ _ ?_
    refine ⟨_, rfl, ?_⟩
    exact ⟨congrArg _ (B_false fun hh => x (hh.rl m (by omega))), b⟩
   try simp only [sps] at x
   refine .skip ?_
   refine b1 _ _ (.region ?_)
   refine .q rfl (.add rfl rfl rfl (by omega) (by omega)) ?_
   refine .mv rfl (.nil ?_)
   refine b0 (m + 1) _ _ ?_ ?_ ⟨rfl, rfl, rfl, trivial⟩
   ·
    refine ⟨j, ?_⟩
    refine ⟨by omega, fun i hx => ?_⟩
    by_cases hltq : i < m
    · exact c2 i hltq
    · obtain rfl : i = m := by omega
      exact x
   omega
  try simp only [sps] at b8
  refine .exit ?_
  refine b9 _ _ (.seq (fun K23 b6 => .region (.mv rfl (.nil (b6 _ _ ?_)))))
  refine .ret ?_
  refine a _ _ ?_
  refine ⟨_, rfl, ?_⟩
  exact ⟨congrArg _ (B_true ⟨by omega, by omega, hone.is, hone.sh, fun i hi => c2 i (by omega)⟩), b⟩
theorem implIsStructure_c {c : Str} {p : StrP} {H : GHeap} (hin : c.In H p := by assumption) (hs : c.Small := by assumption) :
    GCalls Try.prog 37 [.agg (c.cells p).toArray] H (Ret (.bool (B (StrOk c))) H) := by
  refine GCalls.ret rfl ?_
  refine GCalls.body (N := 4) (rs := [.tmp 2]) Try.func37 rfl rfl rfl rfl (fun Qx e hend => ?_)
  refine .fg [0] rfl ?_
  have b := GHeap.Le.refl H
  have a := hin
  refine .seq (fun K1 h => .region ?_)
  refine .R rfl (.boxR rfl sz_60_VStr rfl) ?_
  rintro _ H1 ⟨g1, rfl, g, ge1, f⟩
  have nx_H1 := g.1
  replace b := b.trans g
  have lt_at1 := GHeap.ltg f
  replace hin := a.mono b
  have d : Str.At _ g1 0 c p := ⟨Mem.of_get f, hin⟩
  obtain ⟨c01, c11, i01, i11⟩ := d.get
  have hm1 : MemN _ _ _ _ _ := ⟨rfl, d.1⟩
  have hi1 := d.2
  refine .mv rfl (.nil (h _ _ (.seq (fun K2 i => .region ?_))))
  refine .callQ rfl rfl rfl rfl @Try.call89 rfl (isStructure_c) ?_
  refine .mv rfl (.nil (i _ _ ?_))
  refine .ret ?_
  refine e _ _ ?_
  refine ⟨_, rfl, ?_⟩
  exact ⟨rfl, b⟩
end Go.Proofs.Ytiooclghkafokaa
namespace Go.Proofs.Ytiooclghkafokaa
open Go Go.GL Go.RowKit Go.Proofs
theorem ag_54_LIsStructure : aggT Try.prog 54 = some 2 := by kernel_rfl
theorem bo_4_LIsStructure : isBoolT Try.prog 4 = true := by kernel_rfl
set_option maxHeartbeats 40000000 in
theorem lawIsStructure_c {c : Str} {p : StrP} {H : GHeap} (h0 : c.In H p) (w0 : c.Wide) :
    GCalls Try.prog 7 [.agg (c.cells p).toArray] H (fun v _ => v = .bool true) := by
  refine GCalls.body (N := 27) (rs := [.tmp 2]) Try.func7 rfl rfl rfl rfl (fun Qx a0 hend => ?_)
  refine .fg [0] rfl ?_
  have l := GHeap.Le.refl H
  have d := h0
  refine .seq (fun K1 d2 => .region ?_)
  refine .R rfl (.boxR rfl sz_54_VStr rfl) ?_
  rintro _ H1 ⟨g1, rfl, b9, ge1, i⟩
  have nx_H1 := b9.1
  replace l := l.trans b9
  have lt_at1 := GHeap.ltg i
  replace h0 := d.mono l
  have f : Str.At _ g1 0 c p := ⟨Mem.of_get i, h0⟩
  obtain ⟨w, z, t, u⟩ := f.get
  have r : MemN _ _ _ _ _ := ⟨rfl, f.1⟩
  have x := f.2
  refine .mv rfl (.nil (d2 _ _ (.seq (fun K2 c8 => .region (.mv rfl (.nil (c8 _ _ (.seq (fun K3 d3 => .region ?_)))))))))
  refine .q rfl (.loadM ag_54_LIsStructure rfl ⟨rfl, Mem.of_get i⟩) ?_
  refine .mv rfl ?_
  refine .call rfl rfl rfl rfl @Try.call34 rfl (szStructure_c) ?_
  rintro _ _ ⟨heq, lf9, rfl, z19, z29, c5⟩
  obtain rfl := heq.symm
  refine .mv rfl (.nil (d3 _ _ (.seq (fun K4 c9 => .seq (fun K5 d0 => .region (.mv rfl (.q rfl (.cmp rfl rfl rfl) (.nil (d0 _ _ ?_)))))))))
  refine .cond rfl (fun b0 => ?_) (fun b0 => ?_)
  ·
   try simp only [sps] at b0
   refine .seq (fun K6 c6 => .region (.mv rfl (.nil (c6 _ _ ?_))))
   refine .ret ?_
   refine a0 _ _ ?_
   refine ⟨_, rfl, ?_⟩
   first
   | exact rfl
   | exact absurd trivial (by assumption)
   | contradiction
   | (exfalso; omega)
  try simp only [sps] at b0
  have hsm9 := c5 (by omega)
  refine .skip ?_
  refine c9 _ _ (.seq (fun K7 c7 => .region ?_))
  refine .q rfl (.loadM ag_54_LIsStructure rfl ⟨rfl, Mem.of_get i⟩) ?_
  refine .call rfl rfl rfl rfl @Try.call36 rfl (toStructure_c) ?_
  rintro _ b4 ⟨a4, p13, rfl, y⟩
  have nx_H13 := a4.1
  replace l := l.trans a4
  replace i := a4.2 _ _ i
  have j := y
  have a : Keep H1.next b4 b4 := fun _ _ _ h => h
  replace h0 := d.mono l
  clear f w z t u r x
  have f : Str.At _ g1 0 c p := ⟨Mem.of_get i, h0⟩
  obtain ⟨w, z, t, u⟩ := f.get
  have r : MemN _ _ _ _ _ := ⟨rfl, f.1⟩
  have x := f.2
  have a3 := y.inn
  refine .callQ rfl rfl rfl rfl @Try.call35 rfl (specIsStructure_c) ?_
  refine .mv rfl (.nil (c7 _ _ (.seq (fun K8 d4 => .region ?_))))
  refine .q rfl (.loadM ag_54_LIsStructure rfl ⟨rfl, Mem.of_get i⟩) ?_
  refine .call rfl rfl rfl rfl @Try.call36 rfl (toStructure_c) ?_
  rintro _ c2 ⟨a1, p16, rfl, a2⟩
  have nx_H16 := a1.1
  replace l := l.trans a1
  replace i := a1.2 _ _ i
  replace a := Keep.le a a1
  replace y := j.keep a (Nat.le_refl _)
  have n := a2
  have b : Keep b4.next c2 c2 := fun _ _ _ h => h
  replace h0 := d.mono l
  clear f w z t u r x
  have f : Str.At _ g1 0 c p := ⟨Mem.of_get i, h0⟩
  obtain ⟨w, z, t, u⟩ := f.get
  have r : MemN _ _ _ _ _ := ⟨rfl, f.1⟩
  have x := f.2
  clear a3
  have a3 := y.inn
  have a5 := a2.inn
  refine .R rfl (.allocR rfl ze_60_VStr rfl) ?_
  rintro _ H5 ⟨g5, rfl, a6, ge5, d1⟩
  have nx_H5 := a6.1
  replace l := l.trans a6
  replace i := a6.2 _ _ i
  replace a := Keep.le a a6
  replace y := j.keep a (Nat.le_refl _)
  replace b := Keep.le b a6
  replace a2 := n.keep b (Nat.le_refl _)
  have lt_at5 := GHeap.ltg d1
  replace h0 := d.mono l
  clear f w z t u r x
  have f : Str.At _ g1 0 c p := ⟨Mem.of_get i, h0⟩
  obtain ⟨w, z, t, u⟩ := f.get
  have r : MemN _ _ _ _ _ := ⟨rfl, f.1⟩
  have x := f.2
  clear a3
  have a3 := y.inn
  clear a5
  have a5 := a2.inn
  refine .r0 rfl rfl (.fillA rfl sz_60_VStr rfl rfl rfl rfl) ?_
  rintro _ a7 ⟨rfl, g, e⟩
  have nx_H6003 := g.nx
  replace l := l.st g (fun k hk => ⟨by omega, trivial⟩)
  replace i := g.s i
  replace a := Keep.st a g (fun k hb hk => ⟨by omega, trivial⟩)
  replace y := j.keep a (Nat.le_refl _)
  replace b := Keep.st b g (fun k hb hk => ⟨by omega, trivial⟩)
  replace a2 := n.keep b (Nat.le_refl _)
  have lt_at6003 := GHeap.ltg e
  replace h0 := d.mono l
  clear f w z t u r x
  have f : Str.At _ g1 0 c p := ⟨Mem.of_get i, h0⟩
  obtain ⟨w, z, t, u⟩ := f.get
  have r : MemN _ _ _ _ _ := ⟨rfl, f.1⟩
  have x := f.2
  clear a3
  have a3 := y.inn
  clear a5
  have a5 := a2.inn
  have o : MemN _ _ _ _ _ := ⟨rfl, Mem.of_get e⟩
  refine .nil (d4 _ _ (.seq (fun K9 c4 => .region ?_)))
  refine .q rfl (.loadM ag_60_VStr rfl ⟨rfl, Mem.of_get e⟩) ?_
  refine .callQ rfl rfl rfl rfl @Try.call37 rfl (implIsStructure_c) ?_
  refine .mv rfl (.nil (c4 _ _ (.seq (fun K10 b6 => .seq (fun K11 b1 => .region (.mv rfl (.mv rfl (.q rfl (.boolNe bo_4_LIsStructure rfl rfl) (.nil (b1 _ _ ?_))))))))))
  refine .cond rfl (fun a8 => ?_) (fun a8 => ?_)
  ·
   try simp only [sps] at a8
   refine .seq (fun K12 b7 => .region (.mv rfl (.nil (b7 _ _ ?_))))
   refine .ret ?_
   refine a0 _ _ ?_
   refine ⟨_, rfl, ?_⟩
   first
   | exact rfl
   | exact absurd trivial (by assumption)
   | contradiction
   | (exfalso; omega)
  try simp only [sps] at a8
  refine .skip ?_
  refine b6 _ _ (.seq (fun K13 b3 => .seq (fun K14 a9 => ?_)))
  refine .regionD mo_B (.q 0 (.q 1 (.c 2 1 (.c 3 0 (.q 4 (.done)))))) (by kernel_rfl) ?_
  refine .q rfl (.loadM ag_60_VStr rfl ⟨rfl, Mem.of_get e⟩) ?_
  refine .q rfl (.loadM ag_54_LIsStructure rfl ⟨rfl, Mem.of_get i⟩) ?_
  refine .call1 rfl rfl rfl rfl rfl @Try.call36 rfl (toStructure_c) ?_
  rintro _ c1 ⟨m, p24, rfl, c0⟩
  have c3 := m
  refine ⟨c3, ?_⟩
  have nx_H24 := m.1
  replace l := l.trans m
  replace i := m.2 _ _ i
  replace e := m.2 _ _ e
  replace a := Keep.le a m
  replace y := j.keep a (Nat.le_refl _)
  replace b := Keep.le b m
  replace a2 := n.keep b (Nat.le_refl _)
  have bs_v24 := c0
  have lv_v24 : Keep a7.next c1 c1 := fun _ _ _ h => h
  replace h0 := d.mono l
  clear f w z t u r x
  have f : Str.At _ g1 0 c p := ⟨Mem.of_get i, h0⟩
  obtain ⟨w, z, t, u⟩ := f.get
  have r : MemN _ _ _ _ _ := ⟨rfl, f.1⟩
  have x := f.2
  clear a3
  have a3 := y.inn
  clear a5
  have a5 := a2.inn
  clear o
  have o : MemN _ _ _ _ _ := ⟨rfl, Mem.of_get e⟩
  have i24 := c0.inn
  refine .callQ0 rfl rfl rfl rfl rfl @Try.call38 rfl (eqStructure_c) ?_
  refine .q rfl (.not rfl) ?_
  refine .done ?_
  refine a9 _ _ ?_
  refine .cond rfl (fun b5 => ?_) (fun b5 => ?_)
  ·
   try simp only [sps] at b5
   refine .seq (fun K15 b8 => .region (.mv rfl (.nil (b8 _ _ ?_))))
   refine .ret ?_
   refine a0 _ _ ?_
   refine ⟨_, rfl, ?_⟩
   first
   | exact rfl
   | exact absurd trivial (by assumption)
   | contradiction
   | (exfalso; omega)
  try simp only [sps] at b5
  refine .skip ?_
  refine b3 _ _ (.seq (fun K16 b2 => .region (.mv rfl (.nil (b2 _ _ ?_)))))
  refine .ret ?_
  refine a0 _ _ ?_
  refine ⟨_, rfl, ?_⟩
  first
  | exact rfl
  | exact absurd trivial (by assumption)
  | contradiction
  | (exfalso; omega)
end Go.Proofs.Ytiooclghkafokaa
namespace Go.GL
open Go.RowKit Go.WideShapes Go.ChangeShapes Go.Deep

structure Imp1 (P : Program) (t : TypeId) (R : GHeap → Value → Prop) : Prop where
  mono : ∀ {H H' : GHeap} {g : Value}, H.Le H' → R H g → R H' g
  imp : ∀ {T : Type} {enc : TypeId × Value → T} {B : Nat} {w0 : World} {ρ : Place} {H : GHeap} {w : World} {held : Bool} {base fuel : Nat} {v : Value} {x : DataW T × List MemPlace}, Sim P B w0 ρ H w → w.heap.size ≤ B →
    DataW.trod enc P w 0 (fun _ => true) held fuel t v.cells.toList = some x → Value.okWide P w .any base t v → ∃ ρ' H' g, Sim P B w0 ρ' H' w ∧ Ext ρ ρ' ∧ H.Le H' ∧ VRel ρ' g v ∧ R H' g

def structT (P : Program) (t : TypeId) : Bool := match P.underlying t with | some (.struct _) => true | _ => false
theorem imp1_struct {P : Program} {t : TypeId} {α β : Type} {cells : α → β → List Value} {I : GHeap → α → β → Prop} {W : α → Prop} (hm : ∀ {H H' : GHeap} {c : α} {p : β}, I H c p → H.Le H' → I H' c p)
    (hI : Imports P t (fun ρ H cs => ∃ (c : α) (p : β), LRel ρ (cells c p) cs ∧ I H c p ∧ W c)) (hst : structT P t = true) : Imp1 P t (fun H g => ∃ (c : α) (p : β), g = .agg (cells c p).toArray ∧ I H c p ∧ W c) where
  mono h := fun ⟨c, p, h1, h2, h3⟩ => ⟨c, p, h1, hm h2 h, h3⟩
  imp := by
    intro T enc B w0 ρ H w held base fuel v x hs hB h hv
    have hagg : ∃ cs, v = .agg cs := by
      unfold Value.okWide at hv
      unfold structT at hst
      split at hst
      · rename_i fs hu
        rw [hu] at hv
        obtain ⟨cs, h, _⟩ := hv
        exact ⟨cs, h⟩
      · cases hst
    obtain ⟨cs, rfl⟩ := hagg
    obtain ⟨ρ', H', h1, h2, h3, c, p, h4, h5, h6⟩ := hI hs hB h
    exact ⟨ρ', H', _, h1, h2, h3, by have := VRel.agg_of h4; simpa [Value.cells] using this, c, p, rfl, h5, h6⟩
structure ImpAll (P : Program) (ts : List TypeId) (R : GHeap → List Value → Prop) : Prop where
  imp : ∀ {T : Type} {enc : TypeId × Value → T} {B : Nat} {w0 : World} {ρ : Place} {H : GHeap} {w : World} {base : Nat} {vs : List Value} {ds : List (DataW T)} {ps : List MemPlace}, Sim P B w0 ρ H w → w.heap.size ≤ B →
    DataW.TrodAll enc P w 0 (fun _ => true) true ts vs ds ps → (∀ (j : Nat) t v, ts[j]? = some t → vs[j]? = some v → Value.okWide P w .any base t v) → ds.length = ts.length ∧ ∃ ρ' H' gs, Sim P B w0 ρ' H' w ∧ Ext ρ ρ' ∧ H.Le H' ∧ LRel ρ' gs vs ∧ R H' gs
theorem ImpAll.nil {P : Program} : ImpAll P [] (fun _ gs => gs = []) where
  imp := by
    intro T enc B w0 ρ H w base vs ds ps hs hB h hv
    obtain ⟨rfl, rfl, rfl⟩ := trodAll_nil h
    exact ⟨rfl, ρ, H, [], hs, .refl ρ, .refl H, .nil ρ, rfl⟩
theorem ImpAll.cons {P : Program} {t : TypeId} {ts : List TypeId} {R1 : GHeap → Value → Prop} {R : GHeap → List Value → Prop} (h1 : Imp1 P t R1) (h2 : ImpAll P ts R) : ImpAll P (t :: ts) (fun H gs => ∃ g r, gs = g :: r ∧ R1 H g ∧ R H r) where
  imp := by
    intro T enc B w0 ρ H w base vs ds ps hs hB h hv
    obtain ⟨v, vs, d, ds, p, q, rfl, rfl, rfl, ⟨fuel, k1⟩, k2⟩ := trodAll_cons h
    obtain ⟨ρ1, H1, g, s1, e1, l1, v1, r1⟩ := h1.imp hs hB k1 (hv 0 t v rfl rfl)
    obtain ⟨hl, ρ2, H2, gs, s2, e2, l2, v2, r2⟩ := h2.imp s1 hB k2 (fun j t v ht hj => hv (j + 1) t v (by simpa using ht) (by simpa using hj))
    exact ⟨by simp [hl], ρ2, H2, g :: gs, s2, e1.trans e2, l1.trans l2, .cons (v1.mono e2) v2, g, gs, rfl, h1.mono l2 r1, r2⟩

theorem law_calls {P : Program} {f : FuncId} {fn : Func} {ts : List TypeId} {tb : TypeId} {R : GHeap → List Value → Prop} (hI : ImpAll P ts R) (hp : fn.params = ts.toArray)
    (hc : ∀ H gs, R H gs → GCalls P f gs H fun v _ => v = .bool true)
    {T : Type} {enc : TypeId × Value → T} {W : World} {base : Nat} {args : Array Value} {s : ChangeSpec} {apart fresh handsOn again : Bool} {ds gs : List (DataW T)} {before : List MemPlace}
    (hval : ∀ (j : Nat) t v, fn.params[j]? = some t → args[j]? = some v → Value.okWide P W .any base t v)
    (hW : DataW.Whole enc P fn.params.toList s.vars apart W args.toList ds gs before)
    (hl : laidOutB P = true) (hr : readB P fn.params.toList = true) (hv : s.vars = []) (hrt : fn.resultTypes = #[tb]) (htb : P.underlying tb = some .bool)
    (hs : ∀ ds : List (DataW T), ds.length = ts.length → (s.fn T ds).results = [.lit (.bool true)] ∧ (s.fn T ds).args = ds ∧ (s.fn T ds).vars = []) :
    Calls P f args W fun e W' => ∃ v, e = .returned v ∧ s.post enc P fn apart fresh handsOn again W args v W' := by
  have hWW := hW
  obtain ⟨p, q, hA, _⟩ := hW
  rw [hp] at hA
  obtain ⟨hlen, ρ, H, gs', hs', _, _, hrel, hR⟩ := hI.imp (base := base) (Sim.start P W) (Nat.le_refl _) (by simpa using hA) (fun j t v ht hj => hval j t v (by rw [hp]; simpa using ht) (by simpa using hj))
  have := (hc H gs' hR) _ _ ρ args.toList W hs' hrel
  rw [Array.toArray_toList] at this
  refine this.mono fun e W' ⟨v, c, ρ', H', he, hv', _, hsim, hrv⟩ => ?_
  subst hv'
  cases hrv
  exact ⟨_, he, law_post hl hr hv hrt htb hWW (hs ds hlen).1 (hs ds hlen).2.1 (hs ds hlen).2.2 hsim.below⟩
end Go.GL
