/- The laws' own helpers: how much is handed in, copies, comparisons. No condition but those of each statement. -/
import Derived.Test.YtbpehbbdodahaaaD
import Derived.Test.YtbpehbbdodahaaaGlO
namespace Go.Proofs.Ytbpehbbdodahaaa
open Go Go.GL Go.RowKit Go.Proofs
theorem sz_25_E : (Try.prog.info? 25).map (·.size) = some 5 := by kernel_rfl
theorem fo_25_1_E : fieldOff Try.prog 25 1 = some 1 := by kernel_rfl
theorem fo_25_2_E : fieldOff Try.prog 25 2 = some 2 := by kernel_rfl
theorem fo_25_3_E : fieldOff Try.prog 25 3 = some 3 := by kernel_rfl
theorem fo_25_4_E : fieldOff Try.prog 25 4 = some 4 := by kernel_rfl
theorem sz_2_E : (Try.prog.info? 2).map (·.size) = some 1 := by kernel_rfl
theorem ze_2_E : zeroT Try.prog 2 = some ([.int .i64 0], 1) := by kernel_rfl
theorem by_2_E : (Try.prog.info? 2).map (·.bytes) = some 8 := by kernel_rfl
theorem sz_22_E : (Try.prog.info? 22).map (·.size) = some 1 := by kernel_rfl
theorem ze_22_E : zeroT Try.prog 22 = some ([.slice none 0 0], 1) := by kernel_rfl
theorem by_22_E : (Try.prog.info? 22).map (·.bytes) = some 24 := by kernel_rfl
theorem sz_23_E : (Try.prog.info? 23).map (·.size) = some 1 := by kernel_rfl
theorem ze_37_E : zeroT Try.prog 37 = some ([.int .i64 0, .slice none 0 0, .slice none 0 0, .slice none 0 0, .slice none 0 0], 5) := by kernel_rfl
theorem fo_25_0_E : fieldOff Try.prog 25 0 = some 0 := by kernel_rfl
theorem szInt64S_c {a : Option Addr} {xs : List Int} {left : Int} {H : GHeap} (hx : xs.length ≤ 9223372036854775807 := by omega) (h0 : 0 ≤ left := by omega) (h1 : left ≤ 1048576 := by omega) :
    GCalls Try.prog 40 [.slice a xs.length xs.length, .int .i64 left] H (SzR left (xs.length ≤ left) H) := by
  refine GCalls.body (N := 12) (rs := [.tmp 4]) Try.func40 rfl rfl rfl rfl (fun Qx hret hend => ?_)
  refine .forget (fr' := [(0, some _), (1, some _)]) ⟨rfl, rfl, trivial⟩ ?_
  refine .seq (fun K1 hK1 => ?_)
  refine .region ?_
  refine .m rfl rfl rfl (.assign rfl) ?_
  refine .nil ?_
  refine hK1 _ _ ?_
  refine .seq (fun K2 hK2 => ?_)
  refine .region ?_
  refine .m rfl rfl rfl (.move rfl) ?_
  refine .m rfl rfl rfl (.move rfl) ?_
  refine .m rfl rfl rfl (.len sl_22_A rfl) ?_
  refine .m rfl rfl rfl (.sub rfl rfl rfl (by omega) (by omega)) ?_
  refine .m rfl rfl rfl (.assign rfl) ?_
  refine .nil ?_
  refine hK2 _ _ ?_
  refine .seq (fun K3 hK3 => ?_)
  refine .seq (fun K4 hK4 => ?_)
  refine .region ?_
  refine .m rfl rfl rfl (.move rfl) ?_
  refine .m rfl rfl rfl (.cmp rfl rfl rfl) ?_
  refine .nil ?_
  refine hK4 _ _ ?_
  refine .cond rfl (fun h10 => ?_) (fun h10 => ?_)
  ·
   try simp only [sps] at h10
   refine .seq (fun K5 hK5 => ?_)
   refine .region ?_
   refine .m rfl rfl rfl (.assign rfl) ?_
   refine .nil ?_
   refine hK5 _ _ ?_
   refine .ret ?_
   -- leaf e1
   refine hret _ _ ?_
   refine ⟨_, rfl, ?_⟩
   exact ⟨rfl, _, rfl, by omega, by omega, fun h => by omega⟩
  ·
   try simp only [sps] at h10
   refine .skip ?_
   refine hK3 _ _ ?_
   refine .seq (fun K6 hK6 => ?_)
   refine .region ?_
   refine .m rfl rfl rfl (.move rfl) ?_
   refine .m rfl rfl rfl (.assign rfl) ?_
   refine .nil ?_
   refine hK6 _ _ ?_
   refine .ret ?_
   -- leaf e2
   refine hret _ _ ?_
   refine ⟨_, rfl, ?_⟩
   exact ⟨rfl, _, rfl, by omega, by omega, fun h => by omega⟩
theorem szInt64SS_c {a : Option Addr} {xss : List (List Int)} {r : Nat → Option Addr} {left : Int} {H : GHeap} (h : Intss H a xss r := by assumption) (hx : xss.length ≤ 9223372036854775807 := by omega) (hy : ∀ i, I64s (xss.getD i []) := by assumption) (h0 : 0 ≤ left := by omega) (h1 : left ≤ 1048576 := by omega) :
    GCalls Try.prog 28 [.slice a xss.length xss.length, .int .i64 left] H (SzR left (xss.length ≤ left ∧ ∀ i, ((xss.getD i []).length : Int) ≤ left) H) := by
  refine GCalls.body (N := 27) (rs := [.tmp 4]) Try.func28 rfl rfl rfl rfl (fun Qx hret hend => ?_)
  refine .forget (fr' := [(0, some _), (1, some _)]) ⟨rfl, rfl, trivial⟩ ?_
  have hh := h
  obtain ⟨i1, i2⟩ := hh
  refine .seq (fun K1 hK1 => ?_)
  refine .region ?_
  refine .m rfl rfl rfl (.assign rfl) ?_
  refine .nil ?_
  refine hK1 _ _ ?_
  refine .seq (fun K2 hK2 => ?_)
  refine .region ?_
  refine .m rfl rfl rfl (.move rfl) ?_
  refine .m rfl rfl rfl (.move rfl) ?_
  refine .m rfl rfl rfl (.len sl_23_B rfl) ?_
  refine .m rfl rfl rfl (.sub rfl rfl rfl (by omega) (by omega)) ?_
  refine .m rfl rfl rfl (.assign rfl) ?_
  refine .nil ?_
  refine hK2 _ _ ?_
  refine .seq (fun K3 hK3 => ?_)
  refine .seq (fun K4 hK4 => ?_)
  refine .region ?_
  refine .m rfl rfl rfl (.move rfl) ?_
  refine .m rfl rfl rfl (.cmp rfl rfl rfl) ?_
  refine .nil ?_
  refine hK4 _ _ ?_
  refine .cond rfl (fun h11 => ?_) (fun h11 => ?_)
  ·
   try simp only [sps] at h11
   refine .seq (fun K5 hK5 => ?_)
   refine .region ?_
   refine .m rfl rfl rfl (.assign rfl) ?_
   refine .nil ?_
   refine hK5 _ _ ?_
   refine .ret ?_
   -- leaf e1
   refine hret _ _ ?_
   refine ⟨_, rfl, ?_⟩
   exact ⟨rfl, _, rfl, by omega, by omega, fun h => by omega⟩
  ·
   try simp only [sps] at h11
   refine .skip ?_
   refine hK3 _ _ ?_
   refine .seq (fun K6 hK6 => ?_)
   refine .seq (fun K7 hK7 => ?_)
   refine .region ?_
   refine .m rfl rfl rfl (.assign rfl) ?_
   refine .nil ?_
   refine hK7 _ _ ?_
   refine .block ?_
   refine .loopR (σ := Nat × Int) [(0, some _)] (fun (k, lf) => [(5, some (.int .i64 (k : Int))), (1, some (.int .i64 lf))]) (fun (k, lf) H' => H = H' ∧ k ≤ xss.length ∧ 0 ≤ lf ∧ lf ≤ left - xss.length ∧ ∀ i, i < k → ((xss.getD i []).length : Int) ≤ left) (fun (k, lf) => xss.length - k) ((0, left - xss.length)) ⟨rfl, trivial⟩ ⟨rfl, rfl, trivial⟩ ?_ ?_
   ·
    refine ⟨rfl, ?_⟩
    exact ⟨by omega, by omega, by omega, fun i hi => by omega⟩
   ·
    rintro ⟨k, lf⟩ _ ⟨rfl, hI⟩ KL1 hKL1
    refine .forget (fr' := [(5, some (.int .i64 (k : Int))), (1, some (.int .i64 lf)), (0, some _)]) ⟨rfl, rfl, rfl, trivial⟩ ?_
    obtain ⟨hk, hl0, hl1, hall⟩ := hI
    refine .seq (fun K8 hK8 => ?_)
    refine .seq (fun K9 hK9 => ?_)
    refine .region ?_
    refine .m rfl rfl rfl (.move rfl) ?_
    refine .m rfl rfl rfl (.move rfl) ?_
    refine .m rfl rfl rfl (.len sl_23_B rfl) ?_
    refine .m rfl rfl rfl (.cmp rfl rfl rfl) ?_
    refine .nil ?_
    refine hK9 _ _ ?_
    refine .cond rfl (fun h15 => ?_) (fun h15 => ?_)
    ·
     try simp only [sps] at h15
     refine .skip ?_
     refine hK8 _ _ ?_
     refine .seq (fun K10 hK10 => ?_)
     refine .block ?_
     refine .seq (fun K11 hK11 => ?_)
     refine .region ?_
     refine .m rfl rfl rfl (.move rfl) ?_
     refine .m rfl rfl rfl (.move rfl) ?_
     refine .m rfl rfl rfl (.idxN sl_23_B (Intss.sl (by assumption)) rfl rfl (by omega)) ?_
     refine .m rfl rfl rfl (.loadR on_22_B (by assumption) rfl (by omega)) ?_
     refine .m rfl rfl rfl (.move rfl) ?_
     have hyk := (hy k).1
     refine .call rfl rfl rfl rfl @Try.call40 rfl (szInt64S_c) ?_
     rintro _ _ ⟨rfl, lf, rfl, z1, z2, z3⟩
     refine .m rfl rfl rfl (.assign rfl) ?_
     refine .nil ?_
     refine hK11 _ _ ?_
     refine .seq (fun K12 hK12 => ?_)
     refine .region ?_
     refine .m rfl rfl rfl (.move rfl) ?_
     refine .m rfl rfl rfl (.cmp rfl rfl rfl) ?_
     refine .nil ?_
     refine hK12 _ _ ?_
     refine .cond rfl (fun h25 => ?_) (fun h25 => ?_)
     ·
      try simp only [sps] at h25
      refine .seq (fun K13 hK13 => ?_)
      refine .region ?_
      refine .m rfl rfl rfl (.assign rfl) ?_
      refine .nil ?_
      refine hK13 _ _ ?_
      refine .ret ?_
      -- leaf e2
      refine hret _ _ ?_
      refine ⟨_, rfl, ?_⟩
      exact ⟨rfl, _, rfl, by omega, by omega, fun h => by omega⟩
     ·
      try simp only [sps] at h25
      refine .skip ?_
      refine hK10 _ _ ?_
      refine .region ?_
      refine .m rfl rfl rfl (.move rfl) ?_
      refine .m rfl rfl rfl (.add rfl rfl rfl (by omega) (by omega)) ?_
      refine .m rfl rfl rfl (.assign rfl) ?_
      refine .nil ?_
      refine hKL1 ((k + 1, _)) _ _ ?_ ?_ ⟨rfl, rfl, rfl, trivial⟩
      ·
       refine ⟨rfl, ?_⟩
       refine ⟨by omega, by omega, by omega, fun i hi => ?_⟩
       by_cases e : i < k
       · exact hall i e
       · obtain rfl : i = k := by omega
         omega
      ·
       show xss.length - (k + 1) < xss.length - k; omega
    ·
     try simp only [sps] at h15
     refine .exit ?_
     refine hK6 _ _ ?_
     refine .seq (fun K14 hK14 => ?_)
     refine .region ?_
     refine .m rfl rfl rfl (.move rfl) ?_
     refine .m rfl rfl rfl (.assign rfl) ?_
     refine .nil ?_
     refine hK14 _ _ ?_
     refine .ret ?_
     -- leaf e3
     refine hret _ _ ?_
     refine ⟨_, rfl, ?_⟩
     exact ⟨rfl, _, rfl, by omega, by omega, fun _ => ⟨by omega, fun i => by
       by_cases e : i < xss.length
       · exact hall i (by omega)
       · rw [List.getD_eq_getElem?_getD, List.getElem?_eq_none (by omega)]; simp; omega⟩⟩
theorem szCategory_c {c : Cat} {p : CatP} {left : Int} {H : GHeap} (hin : c.In H p := by assumption) (hw : c.Wide := by assumption) (h0 : 0 ≤ left := by omega) (h1 : left ≤ 1048576 := by omega) :
    GCalls Try.prog 39 [.agg (c.cells p).toArray, .int .i64 left] H (SzR left c.Small H) := by
  refine SzR.of ?_
  obtain ⟨⟨w1a, w1b⟩, ⟨w2, _⟩, ⟨w3, _⟩, ⟨w4, _⟩, w5, w6⟩ := hw
  refine GCalls.body (N := 30) (rs := [.tmp 4]) Try.func39 rfl rfl rfl rfl (fun Qx hret hend => ?_)
  refine .forget (fr' := [(0, some _), (1, some _)]) ⟨rfl, rfl, trivial⟩ ?_
  refine .seq (fun K1 hK1 => ?_)
  refine .region ?_
  refine .d rfl rfl rfl (.box rfl sz_25_E rfl CIs.mk) ?_
  show GRun _ _ _ _ _ _ (H.push (.row (c.cells p) 25 true))
  have hle := GHeap.le_push H (.row (c.cells p) 25 true)
  have hb : Cat.At (H.push (.row (c.cells p) 25 true)) H.next 0 c p := ⟨Mem.new _ _ _ _, hin.mono hle⟩
  generalize H.push (.row (c.cells p) 25 true) = H1 at *
  generalize H.next = g at *
  obtain ⟨c0, c1, c2, c3, c4, i1, i2, i3, i4⟩ := hb.get
  have hm : MemN _ _ _ _ _ := ⟨rfl, hb.1⟩
  have hin1 := hb.2
  refine .m rfl rfl rfl (.assign rfl) ?_
  refine .nil ?_
  refine hK1 _ _ ?_
  refine .seq (fun K2 hK2 => ?_)
  refine .region ?_
  refine .m rfl rfl rfl (.fieldAddr fo_25_1_E rfl) ?_
  refine .m rfl rfl rfl (.load on_22_B rfl (by assumption)) ?_
  refine .m rfl rfl rfl (.move rfl) ?_
  refine .call rfl rfl rfl rfl @Try.call40 rfl (szInt64S_c) ?_
  rintro _ _ ⟨rfl, lf, rfl, z1, z2, z3⟩
  refine .m rfl rfl rfl (.assign rfl) ?_
  refine .nil ?_
  refine hK2 _ _ ?_
  refine .seq (fun K3 hK3 => ?_)
  refine .seq (fun K4 hK4 => ?_)
  refine .region ?_
  refine .m rfl rfl rfl (.move rfl) ?_
  refine .m rfl rfl rfl (.cmp rfl rfl rfl) ?_
  refine .nil ?_
  refine hK4 _ _ ?_
  refine .cond rfl (fun h10 => ?_) (fun h10 => ?_)
  ·
   try simp only [sps] at h10
   refine .seq (fun K5 hK5 => ?_)
   refine .region ?_
   refine .m rfl rfl rfl (.assign rfl) ?_
   refine .nil ?_
   refine hK5 _ _ ?_
   refine .ret ?_
   -- leaf e1
   refine hret _ _ ?_
   refine ⟨_, rfl, ?_⟩
   exact ⟨hle, _, rfl, by omega, by omega, fun h => by omega⟩
  ·
   try simp only [sps] at h10
   refine .skip ?_
   refine hK3 _ _ ?_
   refine .seq (fun K6 hK6 => ?_)
   refine .region ?_
   refine .m rfl rfl rfl (.fieldAddr fo_25_2_E rfl) ?_
   refine .m rfl rfl rfl (.load on_22_B rfl (by assumption)) ?_
   refine .m rfl rfl rfl (.move rfl) ?_
   refine .call rfl rfl rfl rfl @Try.call40 rfl (szInt64S_c) ?_
   rintro _ _ ⟨rfl, lf, rfl, z1, z2, z3⟩
   refine .m rfl rfl rfl (.assign rfl) ?_
   refine .nil ?_
   refine hK6 _ _ ?_
   refine .seq (fun K7 hK7 => ?_)
   refine .seq (fun K8 hK8 => ?_)
   refine .region ?_
   refine .m rfl rfl rfl (.move rfl) ?_
   refine .m rfl rfl rfl (.cmp rfl rfl rfl) ?_
   refine .nil ?_
   refine hK8 _ _ ?_
   refine .cond rfl (fun h16 => ?_) (fun h16 => ?_)
   ·
    try simp only [sps] at h16
    refine .seq (fun K9 hK9 => ?_)
    refine .region ?_
    refine .m rfl rfl rfl (.assign rfl) ?_
    refine .nil ?_
    refine hK9 _ _ ?_
    refine .ret ?_
    -- leaf e2
    refine hret _ _ ?_
    refine ⟨_, rfl, ?_⟩
    exact ⟨hle, _, rfl, by omega, by omega, fun h => by omega⟩
   ·
    try simp only [sps] at h16
    refine .skip ?_
    refine hK7 _ _ ?_
    refine .seq (fun K10 hK10 => ?_)
    refine .region ?_
    refine .m rfl rfl rfl (.fieldAddr fo_25_3_E rfl) ?_
    refine .m rfl rfl rfl (.load on_22_B rfl (by assumption)) ?_
    refine .m rfl rfl rfl (.move rfl) ?_
    refine .call rfl rfl rfl rfl @Try.call40 rfl (szInt64S_c) ?_
    rintro _ _ ⟨rfl, lf, rfl, z1, z2, z3⟩
    refine .m rfl rfl rfl (.assign rfl) ?_
    refine .nil ?_
    refine hK10 _ _ ?_
    refine .seq (fun K11 hK11 => ?_)
    refine .seq (fun K12 hK12 => ?_)
    refine .region ?_
    refine .m rfl rfl rfl (.move rfl) ?_
    refine .m rfl rfl rfl (.cmp rfl rfl rfl) ?_
    refine .nil ?_
    refine hK12 _ _ ?_
    refine .cond rfl (fun h22 => ?_) (fun h22 => ?_)
    ·
     try simp only [sps] at h22
     refine .seq (fun K13 hK13 => ?_)
     refine .region ?_
     refine .m rfl rfl rfl (.assign rfl) ?_
     refine .nil ?_
     refine hK13 _ _ ?_
     refine .ret ?_
     -- leaf e3
     refine hret _ _ ?_
     refine ⟨_, rfl, ?_⟩
     exact ⟨hle, _, rfl, by omega, by omega, fun h => by omega⟩
    ·
     try simp only [sps] at h22
     refine .skip ?_
     refine hK11 _ _ ?_
     refine .seq (fun K14 hK14 => ?_)
     refine .region ?_
     refine .m rfl rfl rfl (.fieldAddr fo_25_4_E rfl) ?_
     refine .m rfl rfl rfl (.load on_23_B rfl (by assumption)) ?_
     refine .m rfl rfl rfl (.move rfl) ?_
     refine .call rfl rfl rfl rfl @Try.call28 rfl (szInt64SS_c) ?_
     rintro _ _ ⟨rfl, lf, rfl, z1, z2, z3⟩
     refine .m rfl rfl rfl (.assign rfl) ?_
     refine .nil ?_
     refine hK14 _ _ ?_
     refine .seq (fun K15 hK15 => ?_)
     refine .seq (fun K16 hK16 => ?_)
     refine .region ?_
     refine .m rfl rfl rfl (.move rfl) ?_
     refine .m rfl rfl rfl (.cmp rfl rfl rfl) ?_
     refine .nil ?_
     refine hK16 _ _ ?_
     refine .cond rfl (fun h28 => ?_) (fun h28 => ?_)
     ·
      try simp only [sps] at h28
      refine .seq (fun K17 hK17 => ?_)
      refine .region ?_
      refine .m rfl rfl rfl (.assign rfl) ?_
      refine .nil ?_
      refine hK17 _ _ ?_
      refine .ret ?_
      -- leaf e4
      refine hret _ _ ?_
      refine ⟨_, rfl, ?_⟩
      exact ⟨hle, _, rfl, by omega, by omega, fun h => by omega⟩
     ·
      try simp only [sps] at h28
      refine .skip ?_
      refine hK15 _ _ ?_
      refine .seq (fun K18 hK18 => ?_)
      refine .region ?_
      refine .m rfl rfl rfl (.move rfl) ?_
      refine .m rfl rfl rfl (.assign rfl) ?_
      refine .nil ?_
      refine hK18 _ _ ?_
      refine .ret ?_
      -- leaf e5
      refine hret _ _ ?_
      refine ⟨_, rfl, ?_⟩
      exact ⟨hle, _, rfl, by omega, by omega, fun h => ⟨by omega, by omega, by omega, by omega, fun i => by have := (z3 (by omega)).2 i; omega, ⟨w1a, w1b⟩⟩⟩
theorem toInt64S_c {a : Option Addr} {xs : List Int} {H : GHeap} (h : Ints H a xs := by assumption) (hx : xs.length ≤ 1048576 := by omega) :
    GCalls Try.prog 44 [.slice a xs.length xs.length] H (NewInts 2 H xs) := by
  refine GCalls.body (N := 22) (rs := [.tmp 2]) Try.func44 rfl rfl rfl rfl (fun Qx hret hend => ?_)
  refine .forget (fr' := [(0, some _)]) ⟨rfl, trivial⟩ ?_
  refine .seq (fun K1 hK1 => ?_)
  refine .region ?_
  refine .m rfl rfl rfl (.assign rfl) ?_
  refine .nil ?_
  refine hK1 _ _ ?_
  refine .seq (fun K2 hK2 => ?_)
  refine .region ?_
  refine .m rfl rfl rfl (.move rfl) ?_
  refine .m rfl rfl rfl (.len sl_22_A rfl) ?_
  refine .d rfl rfl rfl (.makeSlice rfl sl_22_A ze_2_E by_2_E rfl rfl (by omega) rfl rfl (by omega) (by omega) (by omega) CIs.mk) ?_
  show GRun _ _ _ _ _ _ (H.push (.row (madeL [.int .i64 0] (xs.length * 1)) 2 true))
  rw [madeL_one, Nat.mul_one]
  have hrep : List.replicate xs.length (Value.int .i64 0) = ints (List.replicate xs.length 0) := by simp [ints]
  rw [hrep]
  have hle := GHeap.le_push H (.row (ints (List.replicate xs.length 0)) 2 true)
  have hn := GHeap.get_push_new H (.row (ints (List.replicate xs.length 0)) 2 true)
  generalize H.push (.row (ints (List.replicate xs.length 0)) 2 true) = H1 at *
  obtain ⟨g0, hg0⟩ : ∃ g0, g0 = H.next := ⟨_, rfl⟩
  rw [← hg0] at hn ⊢
  have hnx : H.next ≤ g0 := by omega
  clear hg0
  refine .m rfl rfl rfl (.assign rfl) ?_
  refine .nil ?_
  refine hK2 _ _ ?_
  refine .seq (fun K3 hK3 => ?_)
  refine .seq (fun K4 hK4 => ?_)
  refine .region ?_
  refine .m rfl rfl rfl (.assign rfl) ?_
  refine .nil ?_
  refine hK4 _ _ ?_
  refine .block ?_
  refine .loopR (σ := Nat) [(0, some _), (3, some _)] (fun k => [(4, some (.int .i64 (k : Int)))]) (fun k H' => k ≤ xs.length ∧ H.Le H' ∧ H.next ≤ g0 ∧ ∃ ys : List Int, ys.length = xs.length ∧ (∀ i, i < k → ys.getD i 0 = xs.getD i 0) ∧ H'.get g0 = some (.row (ints ys) 2 true)) (fun k => xs.length - k) (0) ⟨rfl, rfl, trivial⟩ ⟨rfl, trivial⟩ ?_ ?_
  ·
   exact ⟨by omega, hle, hnx, _, by simp, fun i hi => by omega, hn⟩
  ·
   rintro k H' hI KL1 hKL1
   refine .forget (fr' := [(4, some (.int .i64 (k : Int))), (0, some _), (3, some _)]) ⟨rfl, rfl, rfl, trivial⟩ ?_
   obtain ⟨hk, hle', hg0, ys, hys, hall, hget⟩ := hI
   have hsl := SlA.of_ints hget hys
   have hxs := h.mono hle'
   refine .seq (fun K5 hK5 => ?_)
   refine .seq (fun K6 hK6 => ?_)
   refine .region ?_
   refine .m rfl rfl rfl (.move rfl) ?_
   refine .m rfl rfl rfl (.move rfl) ?_
   refine .m rfl rfl rfl (.len sl_22_A rfl) ?_
   refine .m rfl rfl rfl (.cmp rfl rfl rfl) ?_
   refine .nil ?_
   refine hK6 _ _ ?_
   refine .cond rfl (fun h11 => ?_) (fun h11 => ?_)
   ·
    try simp only [sps] at h11
    refine .skip ?_
    refine hK5 _ _ ?_
    refine .seq (fun K7 hK7 => ?_)
    refine .block ?_
    refine .region ?_
    refine .m rfl rfl rfl (.move rfl) ?_
    refine .m rfl rfl rfl (.move rfl) ?_
    refine .m rfl rfl rfl (.move rfl) ?_
    refine .m rfl rfl rfl (.move rfl) ?_
    refine .m rfl rfl rfl (.idxN sl_22_A (by assumption) rfl rfl (by omega)) ?_
    refine .m rfl rfl rfl (.loadI on_2_A (by assumption) rfl (by omega)) ?_
    refine .m rfl rfl rfl (.idxN sl_22_A (by assumption) rfl rfl (by omega)) ?_
    refine .d0 rfl rfl (.store rfl sz_2_E rfl rfl rfl hget (by simp; omega) CIs.mk) ?_
    refine .nil ?_
    refine hK7 _ _ ?_
    refine .region ?_
    refine .m rfl rfl rfl (.move rfl) ?_
    refine .m rfl rfl rfl (.add rfl rfl rfl (by omega) (by omega)) ?_
    refine .m rfl rfl rfl (.assign rfl) ?_
    refine .nil ?_
    refine hKL1 (k + 1) _ _ ?_ ?_ ⟨rfl, rfl, rfl, trivial⟩
    ·
     rw [Nat.zero_add, ints_set]
     refine ⟨by omega, hle'.set_new hg0, hg0, _, by simpa using hys, fun i hi => ?_, GHeap.get_set_eq (GHeap.lt_of_get hget)⟩
     rw [getD_set (by omega)]
     split
     · rename_i e; rw [e]
     · exact hall i (by omega)
    ·
     omega
   ·
    try simp only [sps] at h11
    refine .exit ?_
    refine hK3 _ _ ?_
    refine .seq (fun K8 hK8 => ?_)
    refine .region ?_
    refine .m rfl rfl rfl (.move rfl) ?_
    refine .m rfl rfl rfl (.assign rfl) ?_
    refine .nil ?_
    refine hK8 _ _ ?_
    refine .ret ?_
    -- leaf e1
    refine hret _ _ ?_
    refine ⟨_, rfl, ?_⟩
    obtain rfl : ys = xs := eq_of_getD hys fun i hi => hall i (by omega)
    exact ⟨hle', _, rfl, hget, hg0⟩
theorem toInt64SS_c {a : Option Addr} {xss : List (List Int)} {r : Nat → Option Addr} {H : GHeap} (h : Intss H a xss r := by assumption) (hx : xss.length ≤ 1048576 := by omega) (hy : ∀ i, (xss.getD i []).length ≤ 1048576 := by assumption) :
    GCalls Try.prog 32 [.slice a xss.length xss.length] H (NewIntss H xss) := by
  refine GCalls.body (N := 23) (rs := [.tmp 2]) Try.func32 rfl rfl rfl rfl (fun Qx hret hend => ?_)
  refine .forget (fr' := [(0, some _)]) ⟨rfl, trivial⟩ ?_
  refine .seq (fun K1 hK1 => ?_)
  refine .region ?_
  refine .m rfl rfl rfl (.assign rfl) ?_
  refine .nil ?_
  refine hK1 _ _ ?_
  refine .seq (fun K2 hK2 => ?_)
  refine .region ?_
  refine .m rfl rfl rfl (.move rfl) ?_
  refine .m rfl rfl rfl (.len sl_23_B rfl) ?_
  refine .d rfl rfl rfl (.makeSlice rfl sl_23_B ze_22_E by_22_E rfl rfl (by omega) rfl rfl (by omega) (by omega) (by omega) CIs.mk) ?_
  show GRun _ _ _ _ _ _ (H.push (.row (madeL [.slice none 0 0] (xss.length * 1)) 22 true))
  have hlen := length_madeL [Value.slice none 0 0] (xss.length * 1)
  rw [Nat.mul_one] at hlen ⊢
  have hle := GHeap.le_push H (.row (madeL [.slice none 0 0] xss.length) 22 true)
  have hn := GHeap.get_push_new H (.row (madeL [.slice none 0 0] xss.length) 22 true)
  generalize H.push (.row (madeL [.slice none 0 0] xss.length) 22 true) = H1 at *
  obtain ⟨g0, hg0⟩ : ∃ g0, g0 = H.next := ⟨_, rfl⟩
  rw [← hg0] at hn ⊢
  have hnx : H.next ≤ g0 := by omega
  clear hg0
  refine .m rfl rfl rfl (.assign rfl) ?_
  refine .nil ?_
  refine hK2 _ _ ?_
  refine .seq (fun K3 hK3 => ?_)
  refine .seq (fun K4 hK4 => ?_)
  refine .region ?_
  refine .m rfl rfl rfl (.assign rfl) ?_
  refine .nil ?_
  refine hK4 _ _ ?_
  refine .block ?_
  refine .loopR (σ := Nat) [(0, some _), (3, some _)] (fun k => [(4, some (.int .i64 (k : Int)))]) (fun k H' => k ≤ xss.length ∧ H.Le H' ∧ H.next ≤ g0 ∧ ∃ (cs : List Value) (q : Nat → Option Addr), H'.get g0 = some (.row cs 22 true) ∧ cs.length = xss.length ∧ (∀ i, i < k → cs[i]? = some (.slice (q i) (xss.getD i []).length (xss.getD i []).length)) ∧ ∀ i, i < k → IntsAt (g0 + 1) H' (q i) (xss.getD i [])) (fun k => xss.length - k) (0) ⟨rfl, rfl, trivial⟩ ⟨rfl, trivial⟩ ?_ ?_
  ·
   exact ⟨by omega, hle, hnx, _, fun _ => none, hn, hlen, fun i hi => by omega, fun i hi => by omega⟩
  ·
   rintro k H' hI KL1 hKL1
   refine .forget (fr' := [(4, some (.int .i64 (k : Int))), (0, some _), (3, some _)]) ⟨rfl, rfl, rfl, trivial⟩ ?_
   obtain ⟨hk, hle', hg0, cs, q, hget, hcs, hall, hats⟩ := hI
   have hlt := GHeap.lt_of_get hget
   have hss := h.mono hle'
   have i2 := hss.2
   refine .seq (fun K5 hK5 => ?_)
   refine .seq (fun K6 hK6 => ?_)
   refine .region ?_
   refine .m rfl rfl rfl (.move rfl) ?_
   refine .m rfl rfl rfl (.move rfl) ?_
   refine .m rfl rfl rfl (.len sl_23_B rfl) ?_
   refine .m rfl rfl rfl (.cmp rfl rfl rfl) ?_
   refine .nil ?_
   refine hK6 _ _ ?_
   refine .cond rfl (fun h11 => ?_) (fun h11 => ?_)
   ·
    try simp only [sps] at h11
    refine .skip ?_
    refine hK5 _ _ ?_
    refine .seq (fun K7 hK7 => ?_)
    refine .block ?_
    refine .region ?_
    refine .m rfl rfl rfl (.move rfl) ?_
    refine .m rfl rfl rfl (.move rfl) ?_
    refine .m rfl rfl rfl (.move rfl) ?_
    refine .m rfl rfl rfl (.move rfl) ?_
    refine .m rfl rfl rfl (.idxN sl_23_B (Intss.sl (by assumption)) rfl rfl (by omega)) ?_
    refine .m rfl rfl rfl (.loadR on_22_B (by assumption) rfl (by omega)) ?_
    have i2k := i2 k (by omega)
    have hyk := hy k
    refine .call rfl rfl rfl rfl @Try.call44 rfl (toInt64S_c) ?_
    rintro _ H2 ⟨hl2, g2, rfl, hget2, hg2⟩
    have hget' := hl2.2 _ _ hget
    have hsl := SlA.of_row hget' hcs
    refine .m rfl rfl rfl (.idxN sl_23_B hsl rfl rfl (by omega)) ?_
    refine .d0 rfl rfl (.store rfl sz_22_E rfl rfl rfl hget' (by simp; omega) CIs.mk) ?_
    refine .nil ?_
    refine hK7 _ _ ?_
    refine .region ?_
    refine .m rfl rfl rfl (.move rfl) ?_
    refine .m rfl rfl rfl (.add rfl rfl rfl (by omega) (by omega)) ?_
    refine .m rfl rfl rfl (.assign rfl) ?_
    refine .nil ?_
    refine hKL1 (k + 1) _ _ ?_ ?_ ⟨rfl, rfl, rfl, trivial⟩
    ·
     rw [Nat.zero_add]
     refine ⟨by omega, (hle'.trans hl2).set_new hg0, hg0, _, fun i => if i = k then some ⟨g2, 0, none⟩ else q i, GHeap.get_set_eq (GHeap.lt_of_get hget'), by simpa using hcs, fun i hi => ?_, fun i hi => ?_⟩
     · by_cases e : i = k
       · subst e; simp [List.getElem?_set, hcs]; omega
       · simp only [e, if_false]
         rw [List.getElem?_set_ne (Ne.symm e)]
         exact hall i (by omega)
     · by_cases e : i = k
       · subst e
         simp only [if_true]
         exact ⟨g2, _, rfl, by omega, by rw [GHeap.get_set_ne (by omega)]; exact hget2⟩
       · simp only [e, if_false]
         exact (hats i (by omega)).keep (fun g o hg ho => by rw [GHeap.get_set_ne (by omega)]; exact hl2.2 _ _ ho) (Nat.le_refl _)
    ·
     omega
   ·
    try simp only [sps] at h11
    refine .exit ?_
    refine hK3 _ _ ?_
    refine .seq (fun K8 hK8 => ?_)
    refine .region ?_
    refine .m rfl rfl rfl (.move rfl) ?_
    refine .m rfl rfl rfl (.assign rfl) ?_
    refine .nil ?_
    refine hK8 _ _ ?_
    refine .ret ?_
    -- leaf e1
    refine hret _ _ ?_
    refine ⟨_, rfl, ?_⟩
    exact ⟨hle', _, q, rfl, g0, _, cs, rfl, hg0, hget, hcs, fun i hi => hall i (by omega), fun i hi => (hats i (by omega)).keep (.of_le (.refl _)) (by omega)⟩
theorem toCategory_c {c : Cat} {p : CatP} {H : GHeap} (hin : c.In H p := by assumption) (hs : c.Small := by assumption) : GCalls Try.prog 43 [.agg (c.cells p).toArray] H (NewCat H c) := by
  obtain ⟨w1, w2, w3, w4, w5, w6⟩ := hs
  refine GCalls.body (N := 24) (rs := [.cell 2 37]) Try.func43 rfl rfl rfl rfl (fun Qx hret hend => ?_)
  refine .forget (fr' := [(0, some _)]) ⟨rfl, trivial⟩ ?_
  refine .seq (fun K1 hK1 => ?_)
  refine .region ?_
  refine .d rfl rfl rfl (.box rfl sz_25_E rfl CIs.mk) ?_
  show GRun _ _ _ _ _ _ (H.push (.row (c.cells p) 25 true))
  have hle := GHeap.le_push H (.row (c.cells p) 25 true)
  have hb : Cat.At (H.push (.row (c.cells p) 25 true)) H.next 0 c p := ⟨Mem.new _ _ _ _, hin.mono hle⟩
  generalize H.push (.row (c.cells p) 25 true) = H1 at *
  refine .d rfl rfl rfl (.alloc rfl ze_37_E rfl CIs.mk) ?_
  refine .nil ?_
  refine hK1 _ _ ?_
  refine .seq (fun K2 hK2 => ?_)
  refine .region ?_
  refine .d rfl rfl rfl (.alloc rfl ze_37_E rfl CIs.mk) ?_
  show GRun _ _ _ _ _ _ ((H1.push (.row [(.int .i64 0 : Value), (.slice none 0 0 : Value), (.slice none 0 0 : Value), (.slice none 0 0 : Value), (.slice none 0 0 : Value)] 37 true)).push (.row [(.int .i64 0 : Value), (.slice none 0 0 : Value), (.slice none 0 0 : Value), (.slice none 0 0 : Value), (.slice none 0 0 : Value)] 37 true))
  have B := Bld.start H1 37 [(.int .i64 0 : Value), (.slice none 0 0 : Value), (.slice none 0 0 : Value), (.slice none 0 0 : Value), (.slice none 0 0 : Value)]
  generalize (H1.push (.row [(.int .i64 0 : Value), (.slice none 0 0 : Value), (.slice none 0 0 : Value), (.slice none 0 0 : Value), (.slice none 0 0 : Value)] 37 true)).next = g3 at *
  generalize (H1.push (.row [(.int .i64 0 : Value), (.slice none 0 0 : Value), (.slice none 0 0 : Value), (.slice none 0 0 : Value), (.slice none 0 0 : Value)] 37 true)).push (.row [(.int .i64 0 : Value), (.slice none 0 0 : Value), (.slice none 0 0 : Value), (.slice none 0 0 : Value), (.slice none 0 0 : Value)] 37 true) = H3 at *
  generalize g3 + 1 = b at *
  obtain ⟨c0, c1, c2, c3, c4, i1, i2, i3, i4⟩ := (hb.mono B.le).get
  refine .nil ?_
  refine hK2 _ _ ?_
  refine .seq (fun K3 hK3 => ?_)
  refine .region ?_
  refine .m rfl rfl rfl (.fieldAddr fo_25_0_E rfl) ?_
  refine .m rfl rfl rfl (.load on_2_A rfl (by assumption)) ?_
  refine .m rfl rfl rfl (.fieldAddr fo_37_0_B rfl) ?_
  refine .d0 rfl rfl (.store rfl sz_2_E rfl rfl rfl B.own (Nat.le_of_ble_eq_true rfl) CIs.mk) ?_
  show GRun _ _ _ _ _ _ (H3.set g3 (some (.row ([.int .i64 c.obj] ++ ([(.slice none 0 0 : Value)] ++ ([(.slice none 0 0 : Value)] ++ ([(.slice none 0 0 : Value)] ++ ([(.slice none 0 0 : Value)]))))) 37 true)))
  have ⟨B, hk⟩ := B.store ([.int .i64 c.obj] ++ ([(.slice none 0 0 : Value)] ++ ([(.slice none 0 0 : Value)] ++ ([(.slice none 0 0 : Value)] ++ ([(.slice none 0 0 : Value)])))))
  generalize H3.set g3 (some (.row ([.int .i64 c.obj] ++ ([(.slice none 0 0 : Value)] ++ ([(.slice none 0 0 : Value)] ++ ([(.slice none 0 0 : Value)] ++ ([(.slice none 0 0 : Value)]))))) 37 true)) = H10 at *
  obtain ⟨c0, c1, c2, c3, c4, i1, i2, i3, i4⟩ := (hb.mono B.le).get
  refine .nil ?_
  refine hK3 _ _ ?_
  refine .seq (fun K4 hK4 => ?_)
  refine .region ?_
  refine .m rfl rfl rfl (.fieldAddr fo_25_1_E rfl) ?_
  refine .m rfl rfl rfl (.load on_22_B rfl (by assumption)) ?_
  have hB0 := B.bn
  refine .call rfl rfl rfl rfl @Try.call44 rfl (toInt64S_c) ?_
  rintro _ H2 ⟨hl2, g2, rfl, hget2, hg2⟩
  have B := B.call hl2
  obtain ⟨pq1, hga⟩ : ∃ x, x = g2 := ⟨_, rfl⟩
  rw [← hga] at hget2 hg2 ⊢
  clear hga
  have v1 : IntsAt b H2 (some ⟨pq1, 0, none⟩) c.src := ⟨_, _, rfl, by have := hB0; omega, hget2⟩
  refine .m rfl rfl rfl (.fieldAddr fo_37_1_B rfl) ?_
  refine .d0 rfl rfl (.store rfl sz_22_E rfl rfl rfl B.own (Nat.le_of_ble_eq_true rfl) CIs.mk) ?_
  show GRun _ _ _ _ _ _ (H2.set g3 (some (.row ([.int .i64 c.obj] ++ ([.slice (some ⟨pq1, 0, none⟩) c.src.length c.src.length] ++ ([(.slice none 0 0 : Value)] ++ ([(.slice none 0 0 : Value)] ++ ([(.slice none 0 0 : Value)]))))) 37 true)))
  have ⟨B, hk⟩ := B.store ([.int .i64 c.obj] ++ ([.slice (some ⟨pq1, 0, none⟩) c.src.length c.src.length] ++ ([(.slice none 0 0 : Value)] ++ ([(.slice none 0 0 : Value)] ++ ([(.slice none 0 0 : Value)])))))
  replace v1 := v1.keep hk (Nat.le_refl _)
  generalize H2.set g3 (some (.row ([.int .i64 c.obj] ++ ([.slice (some ⟨pq1, 0, none⟩) c.src.length c.src.length] ++ ([(.slice none 0 0 : Value)] ++ ([(.slice none 0 0 : Value)] ++ ([(.slice none 0 0 : Value)]))))) 37 true)) = H11 at *
  obtain ⟨c0, c1, c2, c3, c4, i1, i2, i3, i4⟩ := (hb.mono B.le).get
  refine .nil ?_
  refine hK4 _ _ ?_
  refine .seq (fun K5 hK5 => ?_)
  refine .region ?_
  refine .m rfl rfl rfl (.fieldAddr fo_25_2_E rfl) ?_
  refine .m rfl rfl rfl (.load on_22_B rfl (by assumption)) ?_
  have hB0 := B.bn
  refine .call rfl rfl rfl rfl @Try.call44 rfl (toInt64S_c) ?_
  rintro _ H2 ⟨hl2, g2, rfl, hget2, hg2⟩
  have B := B.call hl2
  obtain ⟨pq2, hga⟩ : ∃ x, x = g2 := ⟨_, rfl⟩
  rw [← hga] at hget2 hg2 ⊢
  clear hga
  have v2 : IntsAt b H2 (some ⟨pq2, 0, none⟩) c.tgt := ⟨_, _, rfl, by have := hB0; omega, hget2⟩
  replace v1 := v1.keep (.of_le hl2) (Nat.le_refl _)
  refine .m rfl rfl rfl (.fieldAddr fo_37_2_B rfl) ?_
  refine .d0 rfl rfl (.store rfl sz_22_E rfl rfl rfl B.own (Nat.le_of_ble_eq_true rfl) CIs.mk) ?_
  show GRun _ _ _ _ _ _ (H2.set g3 (some (.row ([.int .i64 c.obj] ++ ([.slice (some ⟨pq1, 0, none⟩) c.src.length c.src.length] ++ ([.slice (some ⟨pq2, 0, none⟩) c.tgt.length c.tgt.length] ++ ([(.slice none 0 0 : Value)] ++ ([(.slice none 0 0 : Value)]))))) 37 true)))
  have ⟨B, hk⟩ := B.store ([.int .i64 c.obj] ++ ([.slice (some ⟨pq1, 0, none⟩) c.src.length c.src.length] ++ ([.slice (some ⟨pq2, 0, none⟩) c.tgt.length c.tgt.length] ++ ([(.slice none 0 0 : Value)] ++ ([(.slice none 0 0 : Value)])))))
  replace v1 := v1.keep hk (Nat.le_refl _)
  replace v2 := v2.keep hk (Nat.le_refl _)
  generalize H2.set g3 (some (.row ([.int .i64 c.obj] ++ ([.slice (some ⟨pq1, 0, none⟩) c.src.length c.src.length] ++ ([.slice (some ⟨pq2, 0, none⟩) c.tgt.length c.tgt.length] ++ ([(.slice none 0 0 : Value)] ++ ([(.slice none 0 0 : Value)]))))) 37 true)) = H12 at *
  obtain ⟨c0, c1, c2, c3, c4, i1, i2, i3, i4⟩ := (hb.mono B.le).get
  refine .nil ?_
  refine hK5 _ _ ?_
  refine .seq (fun K6 hK6 => ?_)
  refine .region ?_
  refine .m rfl rfl rfl (.fieldAddr fo_25_3_E rfl) ?_
  refine .m rfl rfl rfl (.load on_22_B rfl (by assumption)) ?_
  have hB0 := B.bn
  refine .call rfl rfl rfl rfl @Try.call44 rfl (toInt64S_c) ?_
  rintro _ H2 ⟨hl2, g2, rfl, hget2, hg2⟩
  have B := B.call hl2
  obtain ⟨pq3, hga⟩ : ∃ x, x = g2 := ⟨_, rfl⟩
  rw [← hga] at hget2 hg2 ⊢
  clear hga
  have v3 : IntsAt b H2 (some ⟨pq3, 0, none⟩) c.idn := ⟨_, _, rfl, by have := hB0; omega, hget2⟩
  replace v1 := v1.keep (.of_le hl2) (Nat.le_refl _)
  replace v2 := v2.keep (.of_le hl2) (Nat.le_refl _)
  refine .m rfl rfl rfl (.fieldAddr fo_37_3_B rfl) ?_
  refine .d0 rfl rfl (.store rfl sz_22_E rfl rfl rfl B.own (Nat.le_of_ble_eq_true rfl) CIs.mk) ?_
  show GRun _ _ _ _ _ _ (H2.set g3 (some (.row ([.int .i64 c.obj] ++ ([.slice (some ⟨pq1, 0, none⟩) c.src.length c.src.length] ++ ([.slice (some ⟨pq2, 0, none⟩) c.tgt.length c.tgt.length] ++ ([.slice (some ⟨pq3, 0, none⟩) c.idn.length c.idn.length] ++ ([(.slice none 0 0 : Value)]))))) 37 true)))
  have ⟨B, hk⟩ := B.store ([.int .i64 c.obj] ++ ([.slice (some ⟨pq1, 0, none⟩) c.src.length c.src.length] ++ ([.slice (some ⟨pq2, 0, none⟩) c.tgt.length c.tgt.length] ++ ([.slice (some ⟨pq3, 0, none⟩) c.idn.length c.idn.length] ++ ([(.slice none 0 0 : Value)])))))
  replace v1 := v1.keep hk (Nat.le_refl _)
  replace v2 := v2.keep hk (Nat.le_refl _)
  replace v3 := v3.keep hk (Nat.le_refl _)
  generalize H2.set g3 (some (.row ([.int .i64 c.obj] ++ ([.slice (some ⟨pq1, 0, none⟩) c.src.length c.src.length] ++ ([.slice (some ⟨pq2, 0, none⟩) c.tgt.length c.tgt.length] ++ ([.slice (some ⟨pq3, 0, none⟩) c.idn.length c.idn.length] ++ ([(.slice none 0 0 : Value)]))))) 37 true)) = H13 at *
  obtain ⟨c0, c1, c2, c3, c4, i1, i2, i3, i4⟩ := (hb.mono B.le).get
  refine .nil ?_
  refine hK6 _ _ ?_
  refine .seq (fun K7 hK7 => ?_)
  refine .region ?_
  refine .m rfl rfl rfl (.fieldAddr fo_25_4_E rfl) ?_
  refine .m rfl rfl rfl (.load on_23_B rfl (by assumption)) ?_
  have hB0 := B.bn
  refine .call rfl rfl rfl rfl @Try.call32 rfl (toInt64SS_c) ?_
  rintro _ H2 ⟨hl2, a2, r2, rfl, hat2⟩
  have B := B.call hl2
  obtain ⟨pq4, hga⟩ : ∃ x, x = a2 := ⟨_, rfl⟩
  rw [← hga] at hat2 ⊢
  clear hga
  obtain ⟨rq4, hga⟩ : ∃ x, x = r2 := ⟨_, rfl⟩
  rw [← hga] at hat2
  clear hga
  have v4 := hat2.keep (.of_le (.refl _)) hB0
  replace v1 := v1.keep (.of_le hl2) (Nat.le_refl _)
  replace v2 := v2.keep (.of_le hl2) (Nat.le_refl _)
  replace v3 := v3.keep (.of_le hl2) (Nat.le_refl _)
  refine .m rfl rfl rfl (.fieldAddr fo_37_4_B rfl) ?_
  refine .d0 rfl rfl (.store rfl sz_23_E rfl rfl rfl B.own (Nat.le_of_ble_eq_true rfl) CIs.mk) ?_
  show GRun _ _ _ _ _ _ (H2.set g3 (some (.row ([.int .i64 c.obj] ++ ([.slice (some ⟨pq1, 0, none⟩) c.src.length c.src.length] ++ ([.slice (some ⟨pq2, 0, none⟩) c.tgt.length c.tgt.length] ++ ([.slice (some ⟨pq3, 0, none⟩) c.idn.length c.idn.length] ++ ([.slice pq4 c.comp.length c.comp.length]))))) 37 true)))
  have ⟨B, hk⟩ := B.store ([.int .i64 c.obj] ++ ([.slice (some ⟨pq1, 0, none⟩) c.src.length c.src.length] ++ ([.slice (some ⟨pq2, 0, none⟩) c.tgt.length c.tgt.length] ++ ([.slice (some ⟨pq3, 0, none⟩) c.idn.length c.idn.length] ++ ([.slice pq4 c.comp.length c.comp.length])))))
  replace v1 := v1.keep hk (Nat.le_refl _)
  replace v2 := v2.keep hk (Nat.le_refl _)
  replace v3 := v3.keep hk (Nat.le_refl _)
  replace v4 := v4.keep hk (Nat.le_refl _)
  generalize H2.set g3 (some (.row ([.int .i64 c.obj] ++ ([.slice (some ⟨pq1, 0, none⟩) c.src.length c.src.length] ++ ([.slice (some ⟨pq2, 0, none⟩) c.tgt.length c.tgt.length] ++ ([.slice (some ⟨pq3, 0, none⟩) c.idn.length c.idn.length] ++ ([.slice pq4 c.comp.length c.comp.length]))))) 37 true)) = H14 at *
  refine .nil ?_
  refine hK7 _ _ ?_
  refine .seq (fun K8 hK8 => ?_)
  refine .region ?_
  refine .m rfl rfl rfl (.loadM ag_37_D rfl ⟨rfl, Mem.of_get B.own⟩) ?_
  refine .d0 rfl rfl (.storeN rfl sz_37_D rfl rfl rfl rfl B.res (Nat.le_of_ble_eq_true rfl) CIs.mk) ?_
  rw [setAll_all _ _ (by rfl)]
  refine .nil ?_
  refine hK8 _ _ ?_
  refine .ret ?_
  -- leaf e1
  refine hret _ _ ?_
  refine ⟨_, _, _, _, rfl, ag_37_D, (by rfl), (Mem.of_get (GHeap.get_set_eq (GHeap.lt_of_get B.res))), ?_⟩
  exact ⟨hle.trans (B.done _).1, ⟨some ⟨pq1, 0, none⟩, some ⟨pq2, 0, none⟩, some ⟨pq3, 0, none⟩, pq4, rq4⟩, rfl, (CatAt.keep (b := b) (b' := b) ⟨v1, v2, v3, v4⟩ (B.done _).2 (Nat.le_refl _)).keep (.of_le (.refl _)) (by have := B.l2; have := hle.1; omega)⟩
theorem eqInt64S_c {a b : Option Addr} {xs : List Int} {H : GHeap} (h : Ints H a xs := by assumption) (h' : Ints H b xs := by assumption) (hx : xs.length ≤ 1048576 := by omega) :
    GCalls Try.prog 48 [.slice a xs.length xs.length, .slice b xs.length xs.length] H (Ret (.bool true) H) := by
  refine GCalls.body (N := 26) (rs := [.tmp 4]) Try.func48 rfl rfl rfl rfl (fun Qx hret hend => ?_)
  refine .forget (fr' := [(0, some _), (1, some _)]) ⟨rfl, rfl, trivial⟩ ?_
  refine .seq (fun K1 hK1 => ?_)
  refine .region ?_
  refine .m rfl rfl rfl (.assign rfl) ?_
  refine .nil ?_
  refine hK1 _ _ ?_
  refine .seq (fun K2 hK2 => ?_)
  refine .seq (fun K3 hK3 => ?_)
  refine .region ?_
  refine .m rfl rfl rfl (.move rfl) ?_
  refine .m rfl rfl rfl (.len sl_22_A rfl) ?_
  refine .m rfl rfl rfl (.move rfl) ?_
  refine .m rfl rfl rfl (.len sl_22_A rfl) ?_
  refine .m rfl rfl rfl (.cmp rfl rfl rfl) ?_
  refine .nil ?_
  refine hK3 _ _ ?_
  refine .cond rfl (fun h10 => ?_) (fun h10 => ?_)
  ·
   try simp only [sps] at h10
   refine .seq (fun K4 hK4 => ?_)
   refine .region ?_
   refine .m rfl rfl rfl (.assign rfl) ?_
   refine .nil ?_
   refine hK4 _ _ ?_
   refine .ret ?_
   -- leaf e1
   refine hret _ _ ?_
   refine ⟨_, rfl, ?_⟩
   first
   | (exfalso; omega)
   | (exfalso; simp_all)
  ·
   try simp only [sps] at h10
   refine .skip ?_
   refine hK2 _ _ ?_
   refine .seq (fun K5 hK5 => ?_)
   refine .seq (fun K6 hK6 => ?_)
   refine .region ?_
   refine .m rfl rfl rfl (.assign rfl) ?_
   refine .nil ?_
   refine hK6 _ _ ?_
   refine .block ?_
   refine .loopR (σ := Nat) [(0, some _), (1, some _)] (fun k => [(5, some (.int .i64 (k : Int)))]) (fun k H' => H = H' ∧ k ≤ xs.length) (fun k => xs.length - k) (0) ⟨rfl, rfl, trivial⟩ ⟨rfl, trivial⟩ ?_ ?_
   ·
    refine ⟨rfl, ?_⟩
    omega
   ·
    rintro k _ ⟨rfl, hI⟩ KL1 hKL1
    refine .forget (fr' := [(5, some (.int .i64 (k : Int))), (0, some _), (1, some _)]) ⟨rfl, rfl, rfl, trivial⟩ ?_
    refine .seq (fun K7 hK7 => ?_)
    refine .seq (fun K8 hK8 => ?_)
    refine .region ?_
    refine .m rfl rfl rfl (.move rfl) ?_
    refine .m rfl rfl rfl (.move rfl) ?_
    refine .m rfl rfl rfl (.len sl_22_A rfl) ?_
    refine .m rfl rfl rfl (.cmp rfl rfl rfl) ?_
    refine .nil ?_
    refine hK8 _ _ ?_
    refine .cond rfl (fun h14 => ?_) (fun h14 => ?_)
    ·
     try simp only [sps] at h14
     refine .skip ?_
     refine hK7 _ _ ?_
     refine .seq (fun K9 hK9 => ?_)
     refine .block ?_
     refine .seq (fun K10 hK10 => ?_)
     refine .regionD mixed_orders_B (.q 0 (.q 1 (.q 2 (.q 3 (.q 4 (.q 5 (.q 6 (.q 7 (.q 8 (.done)))))))))) (by kernel_rfl) ?_
     refine .m rfl rfl rfl rfl (.refl _) (.move rfl) ?_
     refine .m rfl rfl rfl rfl (.refl _) (.move rfl) ?_
     refine .m rfl rfl rfl rfl (.refl _) (.idxN sl_22_A (by assumption) rfl rfl (by omega)) ?_
     refine .m rfl rfl rfl rfl (.refl _) (.loadI on_2_A (by assumption) rfl (by omega)) ?_
     refine .m rfl rfl rfl rfl (.refl _) (.move rfl) ?_
     refine .m rfl rfl rfl rfl (.refl _) (.move rfl) ?_
     refine .m rfl rfl rfl rfl (.refl _) (.idxN sl_22_A (by assumption) rfl rfl (by omega)) ?_
     refine .m rfl rfl rfl rfl (.refl _) (.loadI on_2_A (by assumption) rfl (by omega)) ?_
     refine .m rfl rfl rfl rfl (.refl _) (.cmp rfl rfl rfl) ?_
     refine .done ?_
     refine hK10 _ _ ?_
     refine .cond rfl (fun h25 => ?_) (fun h25 => ?_)
     ·
      try simp only [sps] at h25
      refine .seq (fun K11 hK11 => ?_)
      refine .region ?_
      refine .m rfl rfl rfl (.assign rfl) ?_
      refine .nil ?_
      refine hK11 _ _ ?_
      refine .ret ?_
      -- leaf e2
      refine hret _ _ ?_
      refine ⟨_, rfl, ?_⟩
      first
      | (exfalso; omega)
      | (exfalso; simp_all)
     ·
      try simp only [sps] at h25
      refine .skip ?_
      refine hK9 _ _ ?_
      refine .region ?_
      refine .m rfl rfl rfl (.move rfl) ?_
      refine .m rfl rfl rfl (.add rfl rfl rfl (by omega) (by omega)) ?_
      refine .m rfl rfl rfl (.assign rfl) ?_
      refine .nil ?_
      refine hKL1 (k + 1) _ _ ?_ ?_ ⟨rfl, rfl, rfl, trivial⟩
      ·
       refine ⟨rfl, ?_⟩
       omega
      ·
       omega
    ·
     try simp only [sps] at h14
     refine .exit ?_
     refine hK5 _ _ ?_
     refine .seq (fun K12 hK12 => ?_)
     refine .region ?_
     refine .m rfl rfl rfl (.assign rfl) ?_
     refine .nil ?_
     refine hK12 _ _ ?_
     refine .ret ?_
     -- leaf e3
     refine hret _ _ ?_
     refine ⟨_, rfl, ?_⟩
     exact .of rfl
theorem eqInt64SS_c {a b : Option Addr} {xss : List (List Int)} {r r' : Nat → Option Addr} {H : GHeap} (h : Intss H a xss r := by assumption) (h' : Intss H b xss r' := by assumption) (hx : xss.length ≤ 1048576 := by omega) (hy : ∀ i, (xss.getD i []).length ≤ 1048576 := by assumption) :
    GCalls Try.prog 36 [.slice a xss.length xss.length, .slice b xss.length xss.length] H (Ret (.bool true) H) := by
  refine GCalls.body (N := 27) (rs := [.tmp 4]) Try.func36 rfl rfl rfl rfl (fun Qx hret hend => ?_)
  refine .forget (fr' := [(0, some _), (1, some _)]) ⟨rfl, rfl, trivial⟩ ?_
  refine .seq (fun K1 hK1 => ?_)
  refine .region ?_
  refine .m rfl rfl rfl (.assign rfl) ?_
  refine .nil ?_
  refine hK1 _ _ ?_
  refine .seq (fun K2 hK2 => ?_)
  refine .seq (fun K3 hK3 => ?_)
  refine .region ?_
  refine .m rfl rfl rfl (.move rfl) ?_
  refine .m rfl rfl rfl (.len sl_23_B rfl) ?_
  refine .m rfl rfl rfl (.move rfl) ?_
  refine .m rfl rfl rfl (.len sl_23_B rfl) ?_
  refine .m rfl rfl rfl (.cmp rfl rfl rfl) ?_
  refine .nil ?_
  refine hK3 _ _ ?_
  refine .cond rfl (fun h10 => ?_) (fun h10 => ?_)
  ·
   try simp only [sps] at h10
   refine .seq (fun K4 hK4 => ?_)
   refine .region ?_
   refine .m rfl rfl rfl (.assign rfl) ?_
   refine .nil ?_
   refine hK4 _ _ ?_
   refine .ret ?_
   -- leaf e1
   refine hret _ _ ?_
   refine ⟨_, rfl, ?_⟩
   first
   | (exfalso; omega)
   | (exfalso; simp_all)
  ·
   try simp only [sps] at h10
   refine .skip ?_
   refine hK2 _ _ ?_
   refine .seq (fun K5 hK5 => ?_)
   refine .seq (fun K6 hK6 => ?_)
   refine .region ?_
   refine .m rfl rfl rfl (.assign rfl) ?_
   refine .nil ?_
   refine hK6 _ _ ?_
   refine .block ?_
   refine .loopR (σ := Nat) [(0, some _), (1, some _)] (fun k => [(5, some (.int .i64 (k : Int)))]) (fun k H' => H = H' ∧ k ≤ xss.length) (fun k => xss.length - k) (0) ⟨rfl, rfl, trivial⟩ ⟨rfl, trivial⟩ ?_ ?_
   ·
    refine ⟨rfl, ?_⟩
    omega
   ·
    rintro k _ ⟨rfl, hI⟩ KL1 hKL1
    refine .forget (fr' := [(5, some (.int .i64 (k : Int))), (0, some _), (1, some _)]) ⟨rfl, rfl, rfl, trivial⟩ ?_
    have hk := hI
    refine .seq (fun K7 hK7 => ?_)
    refine .seq (fun K8 hK8 => ?_)
    refine .region ?_
    refine .m rfl rfl rfl (.move rfl) ?_
    refine .m rfl rfl rfl (.move rfl) ?_
    refine .m rfl rfl rfl (.len sl_23_B rfl) ?_
    refine .m rfl rfl rfl (.cmp rfl rfl rfl) ?_
    refine .nil ?_
    refine hK8 _ _ ?_
    refine .cond rfl (fun h14 => ?_) (fun h14 => ?_)
    ·
     try simp only [sps] at h14
     refine .skip ?_
     refine hK7 _ _ ?_
     refine .seq (fun K9 hK9 => ?_)
     refine .block ?_
     refine .seq (fun K10 hK10 => ?_)
     refine .regionD mixed_orders_B (.q 0 (.q 1 (.q 2 (.q 3 (.q 4 (.q 5 (.q 6 (.q 7 (.c 8 0 (.q 9 (.done))))))))))) (by kernel_rfl) ?_
     have hyk := hy k
     have ir := h.2 k (by omega)
     have ir' := h'.2 k (by omega)
     refine .m rfl rfl rfl rfl (.refl _) (.move rfl) ?_
     refine .m rfl rfl rfl rfl (.refl _) (.move rfl) ?_
     refine .m rfl rfl rfl rfl (.refl _) (.idxN sl_23_B (Intss.sl (by assumption)) rfl rfl (by omega)) ?_
     refine .m rfl rfl rfl rfl (.refl _) (.loadR on_22_B (by assumption) rfl (by omega)) ?_
     refine .m rfl rfl rfl rfl (.refl _) (.move rfl) ?_
     refine .m rfl rfl rfl rfl (.refl _) (.move rfl) ?_
     refine .m rfl rfl rfl rfl (.refl _) (.idxN sl_23_B (Intss.sl (by assumption)) rfl rfl (by omega)) ?_
     refine .m rfl rfl rfl rfl (.refl _) (.loadR on_22_B (by assumption) rfl (by omega)) ?_
     refine .callQ0 rfl rfl rfl rfl rfl @Try.call48 rfl (eqInt64S_c) ?_
     refine .m rfl rfl rfl rfl (.refl _) (.not rfl) ?_
     refine .done ?_
     refine hK10 _ _ ?_
     refine .cond rfl (fun h26 => ?_) (fun h26 => ?_)
     ·
      try simp only [sps] at h26
      refine .seq (fun K11 hK11 => ?_)
      refine .region ?_
      refine .m rfl rfl rfl (.assign rfl) ?_
      refine .nil ?_
      refine hK11 _ _ ?_
      refine .ret ?_
      -- leaf e2
      refine hret _ _ ?_
      refine ⟨_, rfl, ?_⟩
      first
      | (exfalso; omega)
      | (exfalso; simp_all)
     ·
      try simp only [sps] at h26
      refine .skip ?_
      refine hK9 _ _ ?_
      refine .region ?_
      refine .m rfl rfl rfl (.move rfl) ?_
      refine .m rfl rfl rfl (.add rfl rfl rfl (by omega) (by omega)) ?_
      refine .m rfl rfl rfl (.assign rfl) ?_
      refine .nil ?_
      refine hKL1 (k + 1) _ _ ?_ ?_ ⟨rfl, rfl, rfl, trivial⟩
      ·
       refine ⟨rfl, ?_⟩
       omega
      ·
       omega
    ·
     try simp only [sps] at h14
     refine .exit ?_
     refine hK5 _ _ ?_
     refine .seq (fun K12 hK12 => ?_)
     refine .region ?_
     refine .m rfl rfl rfl (.assign rfl) ?_
     refine .nil ?_
     refine hK12 _ _ ?_
     refine .ret ?_
     -- leaf e3
     refine hret _ _ ?_
     refine ⟨_, rfl, ?_⟩
     exact .of rfl
theorem eqCategory_c {c : Cat} {p p' : CatP} {H : GHeap} (hin : c.In H p := by assumption) (hin' : c.In H p' := by assumption) (hs : c.Small := by assumption) : GCalls Try.prog 47 [.agg (c.cells p).toArray, .agg (c.cells p').toArray] H (Ret (.bool true) H) := by
  refine GCalls.ret rfl ?_
  obtain ⟨w1, w2, w3, w4, w5, w6⟩ := hs
  refine GCalls.body (N := 34) (rs := [.tmp 4]) Try.func47 rfl rfl rfl rfl (fun Qx hret hend => ?_)
  refine .forget (fr' := [(0, some _), (1, some _)]) ⟨rfl, rfl, trivial⟩ ?_
  refine .seq (fun K1 hK1 => ?_)
  refine .region ?_
  refine .d rfl rfl rfl (.box rfl sz_37_D rfl CIs.mk) ?_
  show GRun _ _ _ _ _ _ (H.push (.row (c.cells p) 37 true))
  have hle := GHeap.le_push H (.row (c.cells p) 37 true)
  have hb : Cat.At (H.push (.row (c.cells p) 37 true)) H.next 0 c p := ⟨Mem.new _ _ _ _, hin.mono hle⟩
  generalize H.push (.row (c.cells p) 37 true) = H1 at *
  refine .d rfl rfl rfl (.box rfl sz_37_D rfl CIs.mk) ?_
  show GRun _ _ _ _ _ _ (H1.push (.row (c.cells p') 37 true))
  have hle1 := GHeap.le_push H1 (.row (c.cells p') 37 true)
  have hb' : Cat.At (H1.push (.row (c.cells p') 37 true)) H1.next 0 c p' := ⟨Mem.new _ _ _ _, (hin'.mono hle).mono hle1⟩
  replace hb := hb.mono hle1
  replace hle := hle.trans hle1
  generalize H1.push (.row (c.cells p') 37 true) = H2 at *
  obtain ⟨c0, c1, c2, c3, c4, i1, i2, i3, i4⟩ := hb.get
  obtain ⟨c0y, c1y, c2y, c3y, c4y, i1y, i2y, i3y, i4y⟩ := hb'.get
  refine .m rfl rfl rfl (.assign rfl) ?_
  refine .nil ?_
  refine hK1 _ _ ?_
  refine .seq (fun K2 hK2 => ?_)
  refine .seq (fun K3 hK3 => ?_)
  refine .region ?_
  refine .m rfl rfl rfl (.fieldAddr fo_37_0_B rfl) ?_
  refine .m rfl rfl rfl (.load on_2_A rfl (by assumption)) ?_
  refine .m rfl rfl rfl (.fieldAddr fo_37_0_B rfl) ?_
  refine .m rfl rfl rfl (.load on_2_A rfl (by assumption)) ?_
  refine .m rfl rfl rfl (.cmp rfl rfl rfl) ?_
  refine .nil ?_
  refine hK3 _ _ ?_
  refine .cond rfl (fun h9 => ?_) (fun h9 => ?_)
  ·
   try simp only [sps] at h9
   refine .seq (fun K4 hK4 => ?_)
   refine .region ?_
   refine .m rfl rfl rfl (.assign rfl) ?_
   refine .nil ?_
   refine hK4 _ _ ?_
   refine .ret ?_
   -- leaf e1
   refine hret _ _ ?_
   refine ⟨_, rfl, ?_⟩
   first
   | exact ⟨rfl, hle⟩
   | (exfalso; omega)
   | (exfalso; simp_all)
  ·
   try simp only [sps] at h9
   refine .skip ?_
   refine hK2 _ _ ?_
   refine .seq (fun K5 hK5 => ?_)
   refine .seq (fun K6 hK6 => ?_)
   refine .region ?_
   refine .m rfl rfl rfl (.fieldAddr fo_37_1_B rfl) ?_
   refine .m rfl rfl rfl (.load on_22_B rfl (by assumption)) ?_
   refine .m rfl rfl rfl (.fieldAddr fo_37_1_B rfl) ?_
   refine .m rfl rfl rfl (.load on_22_B rfl (by assumption)) ?_
   refine .callQ rfl rfl rfl rfl @Try.call48 rfl (eqInt64S_c) ?_
   refine .m rfl rfl rfl (.not rfl) ?_
   refine .nil ?_
   refine hK6 _ _ ?_
   refine .cond rfl (fun h15 => ?_) (fun h15 => ?_)
   ·
    try simp only [sps] at h15
    refine .seq (fun K7 hK7 => ?_)
    refine .region ?_
    refine .m rfl rfl rfl (.assign rfl) ?_
    refine .nil ?_
    refine hK7 _ _ ?_
    refine .ret ?_
    -- leaf e2
    refine hret _ _ ?_
    refine ⟨_, rfl, ?_⟩
    first
    | exact ⟨rfl, hle⟩
    | (exfalso; omega)
    | (exfalso; simp_all)
   ·
    try simp only [sps] at h15
    refine .skip ?_
    refine hK5 _ _ ?_
    refine .seq (fun K8 hK8 => ?_)
    refine .seq (fun K9 hK9 => ?_)
    refine .region ?_
    refine .m rfl rfl rfl (.fieldAddr fo_37_2_B rfl) ?_
    refine .m rfl rfl rfl (.load on_22_B rfl (by assumption)) ?_
    refine .m rfl rfl rfl (.fieldAddr fo_37_2_B rfl) ?_
    refine .m rfl rfl rfl (.load on_22_B rfl (by assumption)) ?_
    refine .callQ rfl rfl rfl rfl @Try.call48 rfl (eqInt64S_c) ?_
    refine .m rfl rfl rfl (.not rfl) ?_
    refine .nil ?_
    refine hK9 _ _ ?_
    refine .cond rfl (fun h21 => ?_) (fun h21 => ?_)
    ·
     try simp only [sps] at h21
     refine .seq (fun K10 hK10 => ?_)
     refine .region ?_
     refine .m rfl rfl rfl (.assign rfl) ?_
     refine .nil ?_
     refine hK10 _ _ ?_
     refine .ret ?_
     -- leaf e3
     refine hret _ _ ?_
     refine ⟨_, rfl, ?_⟩
     first
     | exact ⟨rfl, hle⟩
     | (exfalso; omega)
     | (exfalso; simp_all)
    ·
     try simp only [sps] at h21
     refine .skip ?_
     refine hK8 _ _ ?_
     refine .seq (fun K11 hK11 => ?_)
     refine .seq (fun K12 hK12 => ?_)
     refine .region ?_
     refine .m rfl rfl rfl (.fieldAddr fo_37_3_B rfl) ?_
     refine .m rfl rfl rfl (.load on_22_B rfl (by assumption)) ?_
     refine .m rfl rfl rfl (.fieldAddr fo_37_3_B rfl) ?_
     refine .m rfl rfl rfl (.load on_22_B rfl (by assumption)) ?_
     refine .callQ rfl rfl rfl rfl @Try.call48 rfl (eqInt64S_c) ?_
     refine .m rfl rfl rfl (.not rfl) ?_
     refine .nil ?_
     refine hK12 _ _ ?_
     refine .cond rfl (fun h27 => ?_) (fun h27 => ?_)
     ·
      try simp only [sps] at h27
      refine .seq (fun K13 hK13 => ?_)
      refine .region ?_
      refine .m rfl rfl rfl (.assign rfl) ?_
      refine .nil ?_
      refine hK13 _ _ ?_
      refine .ret ?_
      -- leaf e4
      refine hret _ _ ?_
      refine ⟨_, rfl, ?_⟩
      first
      | exact ⟨rfl, hle⟩
      | (exfalso; omega)
      | (exfalso; simp_all)
     ·
      try simp only [sps] at h27
      refine .skip ?_
      refine hK11 _ _ ?_
      refine .seq (fun K14 hK14 => ?_)
      refine .seq (fun K15 hK15 => ?_)
      refine .region ?_
      refine .m rfl rfl rfl (.fieldAddr fo_37_4_B rfl) ?_
      refine .m rfl rfl rfl (.load on_23_B rfl (by assumption)) ?_
      refine .m rfl rfl rfl (.fieldAddr fo_37_4_B rfl) ?_
      refine .m rfl rfl rfl (.load on_23_B rfl (by assumption)) ?_
      refine .callQ rfl rfl rfl rfl @Try.call36 rfl (eqInt64SS_c) ?_
      refine .m rfl rfl rfl (.not rfl) ?_
      refine .nil ?_
      refine hK15 _ _ ?_
      refine .cond rfl (fun h33 => ?_) (fun h33 => ?_)
      ·
       try simp only [sps] at h33
       refine .seq (fun K16 hK16 => ?_)
       refine .region ?_
       refine .m rfl rfl rfl (.assign rfl) ?_
       refine .nil ?_
       refine hK16 _ _ ?_
       refine .ret ?_
       -- leaf e5
       refine hret _ _ ?_
       refine ⟨_, rfl, ?_⟩
       first
       | exact ⟨rfl, hle⟩
       | (exfalso; omega)
       | (exfalso; simp_all)
      ·
       try simp only [sps] at h33
       refine .skip ?_
       refine hK14 _ _ ?_
       refine .seq (fun K17 hK17 => ?_)
       refine .region ?_
       refine .m rfl rfl rfl (.assign rfl) ?_
       refine .nil ?_
       refine hK17 _ _ ?_
       refine .ret ?_
       -- leaf e6
       refine hret _ _ ?_
       refine ⟨_, rfl, ?_⟩
       first
       | exact ⟨rfl, hle⟩
       | (exfalso; omega)
       | (exfalso; simp_all)
end Go.Proofs.Ytbpehbbdodahaaa
