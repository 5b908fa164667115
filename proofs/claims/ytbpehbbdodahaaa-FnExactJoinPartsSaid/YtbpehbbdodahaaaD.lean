/- Categories: their shape and their faults in the reference. No condition but those of each statement. -/
import Derived.Test.YtbpehbbdodahaaaC
namespace Go.Proofs.Ytbpehbbdodahaaa
open Go Go.GL Go.RowKit Go.Proofs
theorem sz_37_D : (Try.prog.info? 37).map (·.size) = some 5 := by kernel_rfl
theorem ag_37_D : aggT Try.prog 37 = some 5 := by kernel_rfl
theorem l02Ends_c {a : Option Addr} {xs : List Int} {n : Nat} {m : Int} {H : GHeap} (h : Ints H a xs := by assumption) (hl : xs.length ≤ 1048576 := by omega) :
    GCalls Try.prog 102 [.slice a xs.length xs.length, .int .i64 (n : Int), .int .i64 m] H (Ret (.bool (decide (xs.length = n) && allIn xs m)) H) := by
  refine GCalls.body (N := 16) (rs := [.tmp 6]) Try.func102 rfl rfl rfl rfl (fun Qx hret hend => ?_)
  refine .forget (fr' := [(0, some _), (1, some _), (2, some _)]) ⟨rfl, rfl, rfl, trivial⟩ ?_
  refine .seq (fun K1 hK1 => ?_)
  refine .region ?_
  refine .m rfl rfl rfl (.assign rfl) ?_
  refine .nil ?_
  refine hK1 _ _ ?_
  refine .seq (fun K2 hK2 => ?_)
  refine .region ?_
  refine .m rfl rfl rfl (.move rfl) ?_
  refine .m rfl rfl rfl (.len sl_22_A rfl) ?_
  refine .m rfl rfl rfl (.move rfl) ?_
  refine .m rfl rfl rfl (.cmp rfl rfl rfl) ?_
  refine .m rfl rfl rfl (.move rfl) ?_
  refine .split (fun h11 => ?_) (fun h11 => ?_)
  ·
   simp only [beq_iff_eq, beq_eq_false_iff_ne, ne_eq] at h11
   refine .mg rfl rfl rfl rfl rfl (.move rfl) ?_
   refine .mg rfl rfl rfl rfl rfl (.move rfl) ?_
   refine .callQg rfl rfl rfl rfl rfl rfl @Try.call59 rfl (l01Map_c) ?_
   refine .m rfl rfl rfl (.pickT rfl rfl) ?_
   refine .m rfl rfl rfl (.assign rfl) ?_
   refine .nil ?_
   refine hK2 _ _ ?_
   refine .ret ?_
   -- leaf e1
   refine hret _ _ ?_
   refine ⟨_, rfl, ?_⟩
   exact .of (congrArg _ (by rw [decide_eq_true (by omega : xs.length = n), Bool.true_and]))
  ·
   simp only [beq_iff_eq, beq_eq_false_iff_ne, ne_eq] at h11
   refine .sg rfl rfl rfl rfl rfl ?_
   refine .sg rfl rfl rfl rfl rfl ?_
   refine .sg rfl rfl rfl rfl rfl ?_
   refine .m rfl rfl rfl (.pickF rfl rfl) ?_
   refine .m rfl rfl rfl (.assign rfl) ?_
   refine .nil ?_
   refine hK2 _ _ ?_
   refine .ret ?_
   -- leaf e2
   refine hret _ _ ?_
   refine ⟨_, rfl, ?_⟩
   exact .of (congrArg _ (by rw [decide_eq_false (by omega : ¬ xs.length = n), Bool.false_and]))
theorem specShape_c {c : Cat} {p : CatP} {H : GHeap} (hin : c.In H p := by assumption) (hs : c.Small := by assumption) : GCalls Try.prog 98 [.agg (c.cells p).toArray] H (Ret (.bool (B c.Shape)) H) := by
  refine GCalls.ret rfl ?_
  refine GCalls.body (N := 159) (rs := [.tmp 2]) Try.func98 rfl rfl rfl rfl (fun Qx hret hend => ?_)
  refine .forget (fr' := [(0, some _)]) ⟨rfl, trivial⟩ ?_
  refine .seq (fun K1 hK1 => ?_)
  refine .region ?_
  refine .d rfl rfl rfl (.box rfl sz_37_D rfl CIs.mk) ?_
  show GRun _ _ _ _ _ _ (H.push (.row (c.cells p) 37 true))
  have hle := GHeap.le_push H (.row (c.cells p) 37 true)
  have hb : Cat.At (H.push (.row (c.cells p) 37 true)) H.next 0 c p := ⟨Mem.new _ _ _ _, hin.mono hle⟩
  generalize H.push (.row (c.cells p) 37 true) = H1 at *
  generalize H.next = g at *
  obtain ⟨c0, c1, c2, c3, c4, i1, i2, i3, i4⟩ := hb.get
  have hm : MemN _ _ _ _ _ := ⟨rfl, hb.1⟩
  have hin1 := hb.2
  obtain ⟨s1, s2, s3, s4, s5, s6⟩ := hs
  refine .m rfl rfl rfl (.assign rfl) ?_
  refine .nil ?_
  refine hK1 _ _ ?_
  refine .seq (fun K2 hK2 => ?_)
  refine .region ?_
  refine .m rfl rfl rfl (.fieldAddr fo_37_1_B rfl) ?_
  refine .m rfl rfl rfl (.load on_22_B rfl (by assumption)) ?_
  refine .m rfl rfl rfl (.len sl_22_A rfl) ?_
  refine .m rfl rfl rfl (.assign rfl) ?_
  refine .nil ?_
  refine hK2 _ _ ?_
  refine .seq (fun K3 hK3 => ?_)
  refine .seq (fun K4 hK4 => ?_)
  refine .region ?_
  refine .m rfl rfl rfl (.fieldAddr fo_37_0_B rfl) ?_
  refine .m rfl rfl rfl (.load on_2_A rfl (by assumption)) ?_
  refine .callQ rfl rfl rfl rfl @Try.call94 rfl (l01In_c) ?_
  refine .m rfl rfl rfl (.not rfl) ?_
  refine .m rfl rfl rfl (.move rfl) ?_
  refine .split (fun h15 => ?_) (fun h15 => ?_)
  ·
   try simp only [sps] at h15
   refine .sg rfl rfl rfl rfl rfl ?_
   refine .sg rfl rfl rfl rfl rfl ?_
   refine .m rfl rfl rfl (.pickT rfl rfl) ?_
   refine .m rfl rfl rfl (.move rfl) ?_
   refine .sg rfl rfl rfl rfl rfl ?_
   refine .sg rfl rfl rfl rfl rfl ?_
   refine .sg rfl rfl rfl rfl rfl ?_
   refine .sg rfl rfl rfl rfl rfl ?_
   refine .sg rfl rfl rfl rfl rfl ?_
   refine .sg rfl rfl rfl rfl rfl ?_
   refine .sg rfl rfl rfl rfl rfl ?_
   refine .m rfl rfl rfl (.pickT rfl rfl) ?_
   refine .m rfl rfl rfl (.move rfl) ?_
   refine .sg rfl rfl rfl rfl rfl ?_
   refine .sg rfl rfl rfl rfl rfl ?_
   refine .sg rfl rfl rfl rfl rfl ?_
   refine .sg rfl rfl rfl rfl rfl ?_
   refine .sg rfl rfl rfl rfl rfl ?_
   refine .sg rfl rfl rfl rfl rfl ?_
   refine .sg rfl rfl rfl rfl rfl ?_
   refine .m rfl rfl rfl (.pickT rfl rfl) ?_
   refine .m rfl rfl rfl (.move rfl) ?_
   refine .sg rfl rfl rfl rfl rfl ?_
   refine .sg rfl rfl rfl rfl rfl ?_
   refine .sg rfl rfl rfl rfl rfl ?_
   refine .sg rfl rfl rfl rfl rfl ?_
   refine .sg rfl rfl rfl rfl rfl ?_
   refine .m rfl rfl rfl (.pickT rfl rfl) ?_
   refine .nil ?_
   refine hK4 _ _ ?_
   refine .condT rfl ?_
   refine .seq (fun K5 hK5 => ?_)
   refine .region ?_
   refine .m rfl rfl rfl (.assign rfl) ?_
   refine .nil ?_
   refine hK5 _ _ ?_
   refine .ret ?_
   -- leaf e1
   refine hret _ _ ?_
   refine ⟨_, rfl, ?_⟩
   exact ⟨congrArg _ (B_false fun hS => by have q1 := hS.obj; have q2 := hS.n40; have q3 := hS.tl; have q4 := hS.il; have q5 := hS.cl; omega), hle⟩
  ·
   try simp only [sps] at h15
   refine .mg rfl rfl rfl rfl rfl (.move rfl) ?_
   refine .mg rfl rfl rfl rfl rfl (.cmp rfl rfl rfl) ?_
   refine .m rfl rfl rfl (.pickF rfl rfl) ?_
   refine .m rfl rfl rfl (.move rfl) ?_
   refine .split (fun h19 => ?_) (fun h19 => ?_)
   ·
    try simp only [sps] at h19
    refine .sg rfl rfl rfl rfl rfl ?_
    refine .sg rfl rfl rfl rfl rfl ?_
    refine .sg rfl rfl rfl rfl rfl ?_
    refine .sg rfl rfl rfl rfl rfl ?_
    refine .sg rfl rfl rfl rfl rfl ?_
    refine .sg rfl rfl rfl rfl rfl ?_
    refine .sg rfl rfl rfl rfl rfl ?_
    refine .m rfl rfl rfl (.pickT rfl rfl) ?_
    refine .m rfl rfl rfl (.move rfl) ?_
    refine .sg rfl rfl rfl rfl rfl ?_
    refine .sg rfl rfl rfl rfl rfl ?_
    refine .sg rfl rfl rfl rfl rfl ?_
    refine .sg rfl rfl rfl rfl rfl ?_
    refine .sg rfl rfl rfl rfl rfl ?_
    refine .sg rfl rfl rfl rfl rfl ?_
    refine .sg rfl rfl rfl rfl rfl ?_
    refine .m rfl rfl rfl (.pickT rfl rfl) ?_
    refine .m rfl rfl rfl (.move rfl) ?_
    refine .sg rfl rfl rfl rfl rfl ?_
    refine .sg rfl rfl rfl rfl rfl ?_
    refine .sg rfl rfl rfl rfl rfl ?_
    refine .sg rfl rfl rfl rfl rfl ?_
    refine .sg rfl rfl rfl rfl rfl ?_
    refine .m rfl rfl rfl (.pickT rfl rfl) ?_
    refine .nil ?_
    refine hK4 _ _ ?_
    refine .condT rfl ?_
    refine .seq (fun K6 hK6 => ?_)
    refine .region ?_
    refine .m rfl rfl rfl (.assign rfl) ?_
    refine .nil ?_
    refine hK6 _ _ ?_
    refine .ret ?_
    -- leaf e2
    refine hret _ _ ?_
    refine ⟨_, rfl, ?_⟩
    exact ⟨congrArg _ (B_false fun hS => by have q1 := hS.obj; have q2 := hS.n40; have q3 := hS.tl; have q4 := hS.il; have q5 := hS.cl; omega), hle⟩
   ·
    try simp only [sps] at h19
    refine .mg rfl rfl rfl rfl rfl (.fieldAddr fo_37_1_B rfl) ?_
    refine .mg rfl rfl rfl rfl rfl (.load on_22_B rfl (by assumption)) ?_
    refine .mg rfl rfl rfl rfl rfl (.move rfl) ?_
    refine .mg rfl rfl rfl rfl rfl (.fieldAddr fo_37_0_B rfl) ?_
    refine .mg rfl rfl rfl rfl rfl (.load on_2_A rfl (by assumption)) ?_
    refine .callQg rfl rfl rfl rfl rfl rfl @Try.call102 rfl (l02Ends_c) ?_
    refine .mg rfl rfl rfl rfl rfl (.not rfl) ?_
    refine .m rfl rfl rfl (.pickF rfl rfl) ?_
    refine .m rfl rfl rfl (.move rfl) ?_
    refine .split (fun h28 => ?_) (fun h28 => ?_)
    ·
     try simp only [sps] at h28
     refine .sg rfl rfl rfl rfl rfl ?_
     refine .sg rfl rfl rfl rfl rfl ?_
     refine .sg rfl rfl rfl rfl rfl ?_
     refine .sg rfl rfl rfl rfl rfl ?_
     refine .sg rfl rfl rfl rfl rfl ?_
     refine .sg rfl rfl rfl rfl rfl ?_
     refine .sg rfl rfl rfl rfl rfl ?_
     refine .m rfl rfl rfl (.pickT rfl rfl) ?_
     refine .m rfl rfl rfl (.move rfl) ?_
     refine .sg rfl rfl rfl rfl rfl ?_
     refine .sg rfl rfl rfl rfl rfl ?_
     refine .sg rfl rfl rfl rfl rfl ?_
     refine .sg rfl rfl rfl rfl rfl ?_
     refine .sg rfl rfl rfl rfl rfl ?_
     refine .m rfl rfl rfl (.pickT rfl rfl) ?_
     refine .nil ?_
     refine hK4 _ _ ?_
     refine .condT rfl ?_
     refine .seq (fun K7 hK7 => ?_)
     refine .region ?_
     refine .m rfl rfl rfl (.assign rfl) ?_
     refine .nil ?_
     refine hK7 _ _ ?_
     refine .ret ?_
     -- leaf e3
     refine hret _ _ ?_
     refine ⟨_, rfl, ?_⟩
     exact ⟨congrArg _ (B_false fun hS => h28.elim (fun h => h trivial) (fun h => by rw [allIn_iff.2 hS.src] at h; cases h)), hle⟩
    ·
     try simp only [sps] at h28
     refine .mg rfl rfl rfl rfl rfl (.fieldAddr fo_37_2_B rfl) ?_
     refine .mg rfl rfl rfl rfl rfl (.load on_22_B rfl (by assumption)) ?_
     refine .mg rfl rfl rfl rfl rfl (.move rfl) ?_
     refine .mg rfl rfl rfl rfl rfl (.fieldAddr fo_37_0_B rfl) ?_
     refine .mg rfl rfl rfl rfl rfl (.load on_2_A rfl (by assumption)) ?_
     refine .callQg rfl rfl rfl rfl rfl rfl @Try.call102 rfl (l02Ends_c) ?_
     refine .mg rfl rfl rfl rfl rfl (.not rfl) ?_
     refine .m rfl rfl rfl (.pickF rfl rfl) ?_
     refine .m rfl rfl rfl (.move rfl) ?_
     refine .split (fun h37 => ?_) (fun h37 => ?_)
     ·
      try simp only [sps] at h37
      refine .sg rfl rfl rfl rfl rfl ?_
      refine .sg rfl rfl rfl rfl rfl ?_
      refine .sg rfl rfl rfl rfl rfl ?_
      refine .sg rfl rfl rfl rfl rfl ?_
      refine .sg rfl rfl rfl rfl rfl ?_
      refine .m rfl rfl rfl (.pickT rfl rfl) ?_
      refine .nil ?_
      refine hK4 _ _ ?_
      refine .condT rfl ?_
      refine .seq (fun K8 hK8 => ?_)
      refine .region ?_
      refine .m rfl rfl rfl (.assign rfl) ?_
      refine .nil ?_
      refine hK8 _ _ ?_
      refine .ret ?_
      -- leaf e4
      refine hret _ _ ?_
      refine ⟨_, rfl, ?_⟩
      exact ⟨congrArg _ (B_false fun hS => h37.elim (fun h => h hS.tl) (fun h => by rw [allIn_iff.2 hS.tgt] at h; cases h)), hle⟩
     ·
      try simp only [sps] at h37
      refine .mg rfl rfl rfl rfl rfl (.fieldAddr fo_37_4_B rfl) ?_
      refine .mg rfl rfl rfl rfl rfl (.load on_23_B rfl (by assumption)) ?_
      refine .mg rfl rfl rfl rfl rfl (.len sl_23_B rfl) ?_
      refine .mg rfl rfl rfl rfl rfl (.move rfl) ?_
      refine .mg rfl rfl rfl rfl rfl (.cmp rfl rfl rfl) ?_
      refine .m rfl rfl rfl (.pickF rfl rfl) ?_
      refine .nil ?_
      refine hK4 _ _ ?_
      refine .cond rfl (fun h43 => ?_) (fun h43 => ?_)
      ·
       try simp only [sps] at h43
       refine .seq (fun K9 hK9 => ?_)
       refine .region ?_
       refine .m rfl rfl rfl (.assign rfl) ?_
       refine .nil ?_
       refine hK9 _ _ ?_
       refine .ret ?_
       -- leaf e5
       refine hret _ _ ?_
       refine ⟨_, rfl, ?_⟩
       exact ⟨congrArg _ (B_false fun hS => by have q1 := hS.obj; have q2 := hS.n40; have q3 := hS.tl; have q4 := hS.il; have q5 := hS.cl; omega), hle⟩
      ·
       try simp only [sps] at h43
       refine .skip ?_
       refine hK3 _ _ ?_
       refine .seq (fun K10 hK10 => ?_)
       refine .seq (fun K11 hK11 => ?_)
       refine .region ?_
       refine .m rfl rfl rfl (.fieldAddr fo_37_3_B rfl) ?_
       refine .m rfl rfl rfl (.load on_22_B rfl (by assumption)) ?_
       refine .m rfl rfl rfl (.len sl_22_A rfl) ?_
       refine .m rfl rfl rfl (.fieldAddr fo_37_0_B rfl) ?_
       refine .m rfl rfl rfl (.load on_2_A rfl (by assumption)) ?_
       refine .m rfl rfl rfl (.cmp rfl rfl rfl) ?_
       refine .m rfl rfl rfl (.move rfl) ?_
       refine .split (fun h50 => ?_) (fun h50 => ?_)
       ·
        try simp only [sps] at h50
        refine .sg rfl rfl rfl rfl rfl ?_
        refine .sg rfl rfl rfl rfl rfl ?_
        refine .sg rfl rfl rfl rfl rfl ?_
        refine .sg rfl rfl rfl rfl rfl ?_
        refine .sg rfl rfl rfl rfl rfl ?_
        refine .m rfl rfl rfl (.pickT rfl rfl) ?_
        refine .nil ?_
        refine hK11 _ _ ?_
        refine .condT rfl ?_
        refine .seq (fun K12 hK12 => ?_)
        refine .region ?_
        refine .m rfl rfl rfl (.assign rfl) ?_
        refine .nil ?_
        refine hK12 _ _ ?_
        refine .ret ?_
        -- leaf e6
        refine hret _ _ ?_
        refine ⟨_, rfl, ?_⟩
        exact ⟨congrArg _ (B_false fun hS => by have q1 := hS.obj; have q2 := hS.n40; have q3 := hS.tl; have q4 := hS.il; have q5 := hS.cl; omega), hle⟩
       ·
        try simp only [sps] at h50
        refine .mg rfl rfl rfl rfl rfl (.move rfl) ?_
        refine .mg rfl rfl rfl rfl rfl (.fieldAddr fo_37_3_B rfl) ?_
        refine .mg rfl rfl rfl rfl rfl (.load on_22_B rfl (by assumption)) ?_
        refine .callQg rfl rfl rfl rfl rfl rfl @Try.call59 rfl (l01Map_c) ?_
        refine .mg rfl rfl rfl rfl rfl (.not rfl) ?_
        refine .m rfl rfl rfl (.pickF rfl rfl) ?_
        refine .nil ?_
        refine hK11 _ _ ?_
        refine .cond rfl (fun h56 => ?_) (fun h56 => ?_)
        ·
         try simp only [sps] at h56
         refine .seq (fun K13 hK13 => ?_)
         refine .region ?_
         refine .m rfl rfl rfl (.assign rfl) ?_
         refine .nil ?_
         refine hK13 _ _ ?_
         refine .ret ?_
         -- leaf e7
         refine hret _ _ ?_
         refine ⟨_, rfl, ?_⟩
         exact ⟨congrArg _ (B_false fun hS => by rw [allIn_iff.2 hS.idn] at h56; cases h56), hle⟩
        ·
         try simp only [sps] at h56
         refine .skip ?_
         refine hK10 _ _ ?_
         refine .seq (fun K14 hK14 => ?_)
         refine .seq (fun K15 hK15 => ?_)
         refine .region ?_
         refine .m rfl rfl rfl (.assign rfl) ?_
         refine .nil ?_
         refine hK15 _ _ ?_
         refine .block ?_
         refine .loopR (σ := Nat) [(1, some _), (3, some _)] (fun k => [(4, some (.int .i64 (k : Int)))]) (fun k H' => H1 = H' ∧ (k : Int) ≤ c.obj ∧ ∀ x, x < k → c.src.getD (c.idn.getD x 0).toNat 0 = x ∧ c.tgt.getD (c.idn.getD x 0).toNat 0 = x) (fun k => c.idn.length - k) (0) ⟨rfl, rfl, trivial⟩ ⟨rfl, trivial⟩ ?_ ?_
         ·
          refine ⟨rfl, ?_⟩
          exact ⟨by omega, fun x hx => by omega⟩
         ·
          rintro k _ ⟨rfl, hI⟩ KL1 hKL1
          refine .forget (fr' := [(4, some (.int .i64 (k : Int))), (1, some _), (3, some _)]) ⟨rfl, rfl, rfl, trivial⟩ ?_
          obtain ⟨hk1, ha1⟩ := hI
          refine .seq (fun K16 hK16 => ?_)
          refine .seq (fun K17 hK17 => ?_)
          refine .region ?_
          refine .m rfl rfl rfl (.move rfl) ?_
          refine .m rfl rfl rfl (.fieldAddr fo_37_0_B rfl) ?_
          refine .m rfl rfl rfl (.load on_2_A rfl (by assumption)) ?_
          refine .m rfl rfl rfl (.cmp rfl rfl rfl) ?_
          refine .nil ?_
          refine hK17 _ _ ?_
          refine .cond rfl (fun h60 => ?_) (fun h60 => ?_)
          ·
           simp only [decide_eq_true_eq] at h60
           have q1 := h56 k (by omega)
           refine .skip ?_
           refine hK16 _ _ ?_
           refine .seq (fun K18 hK18 => ?_)
           refine .block ?_
           refine .seq (fun K19 hK19 => ?_)
           refine .regionD mixed_orders_B (.q 0 (.q 1 (.q 2 (.q 3 (.q 4 (.q 5 (.q 6 (.q 7 (.q 8 (.q 9 (.q 10 (.q 11 (.q 12 (.q 13 (.q 14 (.q 15 (.q 16 (.q 17 (.q 18 (.q 19 (.q 20 (.q 21 (.q 22 (.q 23 (.done))))))))))))))))))))))))) (by kernel_rfl) ?_
           refine .m rfl rfl rfl rfl (.refl _) (.fieldAddr fo_37_1_B rfl) ?_
           refine .m rfl rfl rfl rfl (.refl _) (.load on_22_B rfl (by assumption)) ?_
           refine .m rfl rfl rfl rfl (.refl _) (.fieldAddr fo_37_3_B rfl) ?_
           refine .m rfl rfl rfl rfl (.refl _) (.load on_22_B rfl (by assumption)) ?_
           refine .m rfl rfl rfl rfl (.refl _) (.move rfl) ?_
           refine .m rfl rfl rfl rfl (.refl _) (.idxN sl_22_A (by assumption) rfl rfl (by omega)) ?_
           refine .m rfl rfl rfl rfl (.refl _) (.loadI on_2_A (by assumption) rfl (by omega)) ?_
           refine .m rfl rfl rfl rfl (.refl _) (.idx1 sl_22_A (by assumption) rfl rfl (by omega) (by omega)) ?_
           refine .m rfl rfl rfl rfl (.refl _) (.loadI on_2_A (by assumption) rfl (by omega)) ?_
           refine .m rfl rfl rfl rfl (.refl _) (.move rfl) ?_
           refine .m rfl rfl rfl rfl (.refl _) (.cmp rfl rfl rfl) ?_
           refine .m rfl rfl rfl rfl (.refl _) (.move rfl) ?_
           refine .split (fun h74 => ?_) (fun h74 => ?_)
           ·
            try simp only [sps] at h74
            refine .sg rfl rfl rfl rfl rfl rfl ?_
            refine .sg rfl rfl rfl rfl rfl rfl ?_
            refine .sg rfl rfl rfl rfl rfl rfl ?_
            refine .sg rfl rfl rfl rfl rfl rfl ?_
            refine .sg rfl rfl rfl rfl rfl rfl ?_
            refine .sg rfl rfl rfl rfl rfl rfl ?_
            refine .sg rfl rfl rfl rfl rfl rfl ?_
            refine .sg rfl rfl rfl rfl rfl rfl ?_
            refine .sg rfl rfl rfl rfl rfl rfl ?_
            refine .sg rfl rfl rfl rfl rfl rfl ?_
            refine .sg rfl rfl rfl rfl rfl rfl ?_
            refine .m rfl rfl rfl rfl (.refl _) (.pickT rfl rfl) ?_
            refine .done ?_
            refine hK19 _ _ ?_
            refine .condT rfl ?_
            refine .seq (fun K20 hK20 => ?_)
            refine .region ?_
            refine .m rfl rfl rfl (.assign rfl) ?_
            refine .nil ?_
            refine hK20 _ _ ?_
            refine .ret ?_
            -- leaf e8
            refine hret _ _ ?_
            refine ⟨_, rfl, ?_⟩
            exact ⟨congrArg _ (B_false fun hS => h74 (hS.ids k (by omega)).1), hle⟩
           ·
            try simp only [sps] at h74
            refine .mg rfl rfl rfl rfl rfl rfl (.refl _) (.fieldAddr fo_37_2_B rfl) ?_
            refine .mg rfl rfl rfl rfl rfl rfl (.refl _) (.load on_22_B rfl (by assumption)) ?_
            refine .mg rfl rfl rfl rfl rfl rfl (.refl _) (.fieldAddr fo_37_3_B rfl) ?_
            refine .mg rfl rfl rfl rfl rfl rfl (.refl _) (.load on_22_B rfl (by assumption)) ?_
            refine .mg rfl rfl rfl rfl rfl rfl (.refl _) (.move rfl) ?_
            refine .mg rfl rfl rfl rfl rfl rfl (.refl _) (.idxN sl_22_A (by assumption) rfl rfl (by omega)) ?_
            refine .mg rfl rfl rfl rfl rfl rfl (.refl _) (.loadI on_2_A (by assumption) rfl (by omega)) ?_
            refine .mg rfl rfl rfl rfl rfl rfl (.refl _) (.idx1 sl_22_A (by assumption) rfl rfl (by omega) (by omega)) ?_
            refine .mg rfl rfl rfl rfl rfl rfl (.refl _) (.loadI on_2_A (by assumption) rfl (by omega)) ?_
            refine .mg rfl rfl rfl rfl rfl rfl (.refl _) (.move rfl) ?_
            refine .mg rfl rfl rfl rfl rfl rfl (.refl _) (.cmp rfl rfl rfl) ?_
            refine .m rfl rfl rfl rfl (.refl _) (.pickF rfl rfl) ?_
            refine .done ?_
            refine hK19 _ _ ?_
            refine .cond rfl (fun h86 => ?_) (fun h86 => ?_)
            ·
             try simp only [sps] at h86
             refine .seq (fun K21 hK21 => ?_)
             refine .region ?_
             refine .m rfl rfl rfl (.assign rfl) ?_
             refine .nil ?_
             refine hK21 _ _ ?_
             refine .ret ?_
             -- leaf e9
             refine hret _ _ ?_
             refine ⟨_, rfl, ?_⟩
             exact ⟨congrArg _ (B_false fun hS => h86 (hS.ids k (by omega)).2), hle⟩
            ·
             try simp only [sps] at h86
             refine .skip ?_
             refine hK18 _ _ ?_
             refine .region ?_
             refine .m rfl rfl rfl (.move rfl) ?_
             refine .m rfl rfl rfl (.add rfl rfl rfl (by omega) (by omega)) ?_
             refine .m rfl rfl rfl (.assign rfl) ?_
             refine .nil ?_
             refine hKL1 (k + 1) _ _ ?_ ?_ ⟨rfl, rfl, rfl, trivial⟩
             ·
              refine ⟨rfl, ?_⟩
              refine ⟨by omega, fun x hx => ?_⟩
              by_cases e : x < k
              · exact ha1 x e
              · obtain rfl : x = k := by omega
                exact ⟨h74, h86⟩
             ·
              omega
          ·
           try simp only [sps] at h60
           refine .exit ?_
           refine hK14 _ _ ?_
           refine .seq (fun K22 hK22 => ?_)
           refine .seq (fun K23 hK23 => ?_)
           refine .region ?_
           refine .m rfl rfl rfl (.assign rfl) ?_
           refine .nil ?_
           refine hK23 _ _ ?_
           refine .block ?_
           refine .loopR (σ := Nat) [(1, some _), (3, some _)] (fun k => [(5, some (.int .i64 (k : Int)))]) (fun k H' => H1 = H' ∧ k ≤ c.comp.length ∧ ∀ f, f < k → (c.comp.getD f []).length = c.src.length ∧ ∀ g, g < c.src.length → c.Cell f g) (fun k => c.comp.length - k) (0) ⟨rfl, rfl, trivial⟩ ⟨rfl, trivial⟩ ?_ ?_
           ·
            refine ⟨rfl, ?_⟩
            exact ⟨by omega, fun x hx => by omega⟩
           ·
            rintro k _ ⟨rfl, hI⟩ KL2 hKL2
            refine .forget (fr' := [(5, some (.int .i64 (k : Int))), (1, some _), (3, some _)]) ⟨rfl, rfl, rfl, trivial⟩ ?_
            obtain ⟨hk2, ha2⟩ := hI
            refine .seq (fun K24 hK24 => ?_)
            refine .seq (fun K25 hK25 => ?_)
            refine .region ?_
            refine .m rfl rfl rfl (.move rfl) ?_
            refine .m rfl rfl rfl (.move rfl) ?_
            refine .m rfl rfl rfl (.cmp rfl rfl rfl) ?_
            refine .nil ?_
            refine hK25 _ _ ?_
            refine .cond rfl (fun h89 => ?_) (fun h89 => ?_)
            ·
             simp only [decide_eq_true_eq] at h89
             have i5 := i4.2 k (by omega)
             refine .skip ?_
             refine hK24 _ _ ?_
             refine .seq (fun K26 hK26 => ?_)
             refine .block ?_
             refine .seq (fun K27 hK27 => ?_)
             refine .seq (fun K28 hK28 => ?_)
             refine .region ?_
             refine .m rfl rfl rfl (.fieldAddr fo_37_4_B rfl) ?_
             refine .m rfl rfl rfl (.load on_23_B rfl (by assumption)) ?_
             refine .m rfl rfl rfl (.move rfl) ?_
             refine .m rfl rfl rfl (.idxN sl_23_B (Intss.sl (by assumption)) rfl rfl (by omega)) ?_
             refine .m rfl rfl rfl (.loadR on_22_B (by assumption) rfl (by omega)) ?_
             refine .m rfl rfl rfl (.len sl_22_A rfl) ?_
             refine .m rfl rfl rfl (.move rfl) ?_
             refine .m rfl rfl rfl (.cmp rfl rfl rfl) ?_
             refine .nil ?_
             refine hK28 _ _ ?_
             refine .cond rfl (fun h99 => ?_) (fun h99 => ?_)
             ·
              try simp only [sps] at h99
              refine .seq (fun K29 hK29 => ?_)
              refine .region ?_
              refine .m rfl rfl rfl (.assign rfl) ?_
              refine .nil ?_
              refine hK29 _ _ ?_
              refine .ret ?_
              -- leaf e10
              refine hret _ _ ?_
              refine ⟨_, rfl, ?_⟩
              exact ⟨congrArg _ (B_false fun hS => by have := hS.row k (by omega); omega), hle⟩
             ·
              try simp only [sps] at h99
              refine .skip ?_
              refine hK27 _ _ ?_
              refine .seq (fun K30 hK30 => ?_)
              refine .region ?_
              refine .m rfl rfl rfl (.assign rfl) ?_
              refine .nil ?_
              refine hK30 _ _ ?_
              refine .block ?_
              refine .loopR (σ := Nat) [(1, some _), (3, some _), (5, some _)] (fun j => [(6, some (.int .i64 (j : Int)))]) (fun j H' => H1 = H' ∧ j ≤ c.src.length ∧ ∀ g, g < j → c.Cell k g) (fun j => c.src.length - j) (0) ⟨rfl, rfl, rfl, trivial⟩ ⟨rfl, trivial⟩ ?_ ?_
              ·
               refine ⟨rfl, ?_⟩
               exact ⟨by omega, fun x hx => by omega⟩
              ·
               rintro j _ ⟨rfl, hI⟩ KL3 hKL3
               refine .forget (fr' := [(6, some (.int .i64 (j : Int))), (1, some _), (3, some _), (5, some _)]) ⟨rfl, rfl, rfl, rfl, trivial⟩ ?_
               obtain ⟨hk3, ha3⟩ := hI
               refine .seq (fun K31 hK31 => ?_)
               refine .seq (fun K32 hK32 => ?_)
               refine .region ?_
               refine .m rfl rfl rfl (.move rfl) ?_
               refine .m rfl rfl rfl (.move rfl) ?_
               refine .m rfl rfl rfl (.cmp rfl rfl rfl) ?_
               refine .nil ?_
               refine hK32 _ _ ?_
               refine .cond rfl (fun h102 => ?_) (fun h102 => ?_)
               ·
                try simp only [sps] at h102
                refine .skip ?_
                refine hK31 _ _ ?_
                refine .seq (fun K33 hK33 => ?_)
                refine .block ?_
                refine .seq (fun K34 hK34 => ?_)
                refine .region ?_
                refine .m rfl rfl rfl (.fieldAddr fo_37_4_B rfl) ?_
                refine .m rfl rfl rfl (.load on_23_B rfl (by assumption)) ?_
                refine .m rfl rfl rfl (.move rfl) ?_
                refine .m rfl rfl rfl (.idxN sl_23_B (Intss.sl (by assumption)) rfl rfl (by omega)) ?_
                refine .m rfl rfl rfl (.loadR on_22_B (by assumption) rfl (by omega)) ?_
                refine .m rfl rfl rfl (.move rfl) ?_
                refine .m rfl rfl rfl (.idxN sl_22_A (by assumption) rfl rfl (by omega)) ?_
                refine .m rfl rfl rfl (.loadI on_2_A (by assumption) rfl (by omega)) ?_
                refine .m rfl rfl rfl (.assign rfl) ?_
                refine .nil ?_
                refine hK34 _ _ ?_
                refine .seq (fun K35 hK35 => ?_)
                refine .seq (fun K36 hK36 => ?_)
                refine .regionD mixed_orders_B (.q 0 (.q 1 (.q 2 (.q 3 (.q 4 (.q 5 (.q 6 (.q 7 (.q 8 (.q 9 (.q 10 (.done)))))))))))) (by kernel_rfl) ?_
                refine .m rfl rfl rfl rfl (.refl _) (.fieldAddr fo_37_2_B rfl) ?_
                refine .m rfl rfl rfl rfl (.refl _) (.load on_22_B rfl (by assumption)) ?_
                refine .m rfl rfl rfl rfl (.refl _) (.move rfl) ?_
                refine .m rfl rfl rfl rfl (.refl _) (.idxN sl_22_A (by assumption) rfl rfl (by omega)) ?_
                refine .m rfl rfl rfl rfl (.refl _) (.loadI on_2_A (by assumption) rfl (by omega)) ?_
                refine .m rfl rfl rfl rfl (.refl _) (.fieldAddr fo_37_1_B rfl) ?_
                refine .m rfl rfl rfl rfl (.refl _) (.load on_22_B rfl (by assumption)) ?_
                refine .m rfl rfl rfl rfl (.refl _) (.move rfl) ?_
                refine .m rfl rfl rfl rfl (.refl _) (.idxN sl_22_A (by assumption) rfl rfl (by omega)) ?_
                refine .m rfl rfl rfl rfl (.refl _) (.loadI on_2_A (by assumption) rfl (by omega)) ?_
                refine .m rfl rfl rfl rfl (.refl _) (.cmp rfl rfl rfl) ?_
                refine .done ?_
                refine hK36 _ _ ?_
                refine .cond rfl (fun h123 => ?_) (fun h123 => ?_)
                ·
                 try simp only [sps] at h123
                 refine .seq (fun K37 hK37 => ?_)
                 refine .seq (fun K38 hK38 => ?_)
                 refine .region ?_
                 refine .m rfl rfl rfl (.move rfl) ?_
                 refine .m rfl rfl rfl (.cmp rfl rfl rfl) ?_
                 refine .nil ?_
                 refine hK38 _ _ ?_
                 refine .cond rfl (fun h125 => ?_) (fun h125 => ?_)
                 ·
                  try simp only [sps] at h125
                  refine .seq (fun K39 hK39 => ?_)
                  refine .region ?_
                  refine .m rfl rfl rfl (.assign rfl) ?_
                  refine .nil ?_
                  refine hK39 _ _ ?_
                  refine .ret ?_
                  -- leaf e11
                  refine hret _ _ ?_
                  refine ⟨_, rfl, ?_⟩
                  exact ⟨congrArg _ (B_false fun hS => h125 ((Cat.Cell.neg h123).1 (hS.cell k (by omega) j (by omega)))), hle⟩
                 ·
                  try simp only [sps] at h125
                  refine .skip ?_
                  refine hK37 _ _ ?_
                  refine .exit ?_
                  refine hK33 _ _ ?_
                  refine .region ?_
                  refine .m rfl rfl rfl (.move rfl) ?_
                  refine .m rfl rfl rfl (.add rfl rfl rfl (by omega) (by omega)) ?_
                  refine .m rfl rfl rfl (.assign rfl) ?_
                  refine .nil ?_
                  refine hKL3 (j + 1) _ _ ?_ ?_ ⟨rfl, rfl, rfl, rfl, trivial⟩
                  ·
                   refine ⟨rfl, ?_⟩
                   refine ⟨by omega, fun x hx => ?_⟩
                   by_cases e : x < j
                   · exact ha3 x e
                   · obtain rfl : x = j := by omega
                     first
                       | exact (Cat.Cell.neg h123).2 h125
                       | exact (Cat.Cell.pos h123).2 ⟨by omega, by omega, by assumption, by assumption⟩
                  ·
                   omega
                ·
                 try simp only [sps] at h123
                 refine .skip ?_
                 refine hK35 _ _ ?_
                 refine .seq (fun K40 hK40 => ?_)
                 refine .regionD mixed_orders_B (.q 0 (.q 1 (.q 2 (.q 3 (.q 4 (.q 5 (.q 6 (.q 7 (.q 8 (.q 9 (.q 10 (.q 11 (.q 12 (.q 13 (.q 14 (.q 15 (.q 16 (.q 17 (.q 18 (.q 19 (.q 20 (.q 21 (.q 22 (.q 23 (.q 24 (.q 25 (.q 26 (.q 27 (.q 28 (.q 29 (.q 30 (.q 31 (.q 32 (.done)))))))))))))))))))))))))))))))))) (by kernel_rfl) ?_
                 refine .m rfl rfl rfl rfl (.refl _) (.move rfl) ?_
                 refine .m rfl rfl rfl rfl (.refl _) (.cmp rfl rfl rfl) ?_
                 refine .m rfl rfl rfl rfl (.refl _) (.move rfl) ?_
                 refine .split (fun h128 => ?_) (fun h128 => ?_)
                 ·
                  try simp only [sps] at h128
                  refine .sg rfl rfl rfl rfl rfl rfl ?_
                  refine .sg rfl rfl rfl rfl rfl rfl ?_
                  refine .sg rfl rfl rfl rfl rfl rfl ?_
                  refine .m rfl rfl rfl rfl (.refl _) (.pickT rfl rfl) ?_
                  refine .m rfl rfl rfl rfl (.refl _) (.move rfl) ?_
                  refine .sg rfl rfl rfl rfl rfl rfl ?_
                  refine .sg rfl rfl rfl rfl rfl rfl ?_
                  refine .sg rfl rfl rfl rfl rfl rfl ?_
                  refine .sg rfl rfl rfl rfl rfl rfl ?_
                  refine .sg rfl rfl rfl rfl rfl rfl ?_
                  refine .sg rfl rfl rfl rfl rfl rfl ?_
                  refine .sg rfl rfl rfl rfl rfl rfl ?_
                  refine .sg rfl rfl rfl rfl rfl rfl ?_
                  refine .sg rfl rfl rfl rfl rfl rfl ?_
                  refine .sg rfl rfl rfl rfl rfl rfl ?_
                  refine .sg rfl rfl rfl rfl rfl rfl ?_
                  refine .m rfl rfl rfl rfl (.refl _) (.pickT rfl rfl) ?_
                  refine .m rfl rfl rfl rfl (.refl _) (.move rfl) ?_
                  refine .sg rfl rfl rfl rfl rfl rfl ?_
                  refine .sg rfl rfl rfl rfl rfl rfl ?_
                  refine .sg rfl rfl rfl rfl rfl rfl ?_
                  refine .sg rfl rfl rfl rfl rfl rfl ?_
                  refine .sg rfl rfl rfl rfl rfl rfl ?_
                  refine .sg rfl rfl rfl rfl rfl rfl ?_
                  refine .sg rfl rfl rfl rfl rfl rfl ?_
                  refine .sg rfl rfl rfl rfl rfl rfl ?_
                  refine .sg rfl rfl rfl rfl rfl rfl ?_
                  refine .sg rfl rfl rfl rfl rfl rfl ?_
                  refine .sg rfl rfl rfl rfl rfl rfl ?_
                  refine .m rfl rfl rfl rfl (.refl _) (.pickT rfl rfl) ?_
                  refine .done ?_
                  refine hK40 _ _ ?_
                  refine .condT rfl ?_
                  refine .seq (fun K41 hK41 => ?_)
                  refine .region ?_
                  refine .m rfl rfl rfl (.assign rfl) ?_
                  refine .nil ?_
                  refine hK41 _ _ ?_
                  refine .ret ?_
                  -- leaf e12
                  refine hret _ _ ?_
                  refine ⟨_, rfl, ?_⟩
                  exact ⟨congrArg _ (B_false fun hS => by have := (Cat.Cell.pos h123).1 (hS.cell k (by omega) j (by omega)); omega), hle⟩
                 ·
                  try simp only [sps] at h128
                  refine .mg rfl rfl rfl rfl rfl rfl (.refl _) (.move rfl) ?_
                  refine .mg rfl rfl rfl rfl rfl rfl (.refl _) (.move rfl) ?_
                  refine .mg rfl rfl rfl rfl rfl rfl (.refl _) (.cmp rfl rfl rfl) ?_
                  refine .m rfl rfl rfl rfl (.refl _) (.pickF rfl rfl) ?_
                  refine .m rfl rfl rfl rfl (.refl _) (.move rfl) ?_
                  refine .split (fun h133 => ?_) (fun h133 => ?_)
                  ·
                   try simp only [sps] at h133
                   refine .sg rfl rfl rfl rfl rfl rfl ?_
                   refine .sg rfl rfl rfl rfl rfl rfl ?_
                   refine .sg rfl rfl rfl rfl rfl rfl ?_
                   refine .sg rfl rfl rfl rfl rfl rfl ?_
                   refine .sg rfl rfl rfl rfl rfl rfl ?_
                   refine .sg rfl rfl rfl rfl rfl rfl ?_
                   refine .sg rfl rfl rfl rfl rfl rfl ?_
                   refine .sg rfl rfl rfl rfl rfl rfl ?_
                   refine .sg rfl rfl rfl rfl rfl rfl ?_
                   refine .sg rfl rfl rfl rfl rfl rfl ?_
                   refine .sg rfl rfl rfl rfl rfl rfl ?_
                   refine .m rfl rfl rfl rfl (.refl _) (.pickT rfl rfl) ?_
                   refine .m rfl rfl rfl rfl (.refl _) (.move rfl) ?_
                   refine .sg rfl rfl rfl rfl rfl rfl ?_
                   refine .sg rfl rfl rfl rfl rfl rfl ?_
                   refine .sg rfl rfl rfl rfl rfl rfl ?_
                   refine .sg rfl rfl rfl rfl rfl rfl ?_
                   refine .sg rfl rfl rfl rfl rfl rfl ?_
                   refine .sg rfl rfl rfl rfl rfl rfl ?_
                   refine .sg rfl rfl rfl rfl rfl rfl ?_
                   refine .sg rfl rfl rfl rfl rfl rfl ?_
                   refine .sg rfl rfl rfl rfl rfl rfl ?_
                   refine .sg rfl rfl rfl rfl rfl rfl ?_
                   refine .sg rfl rfl rfl rfl rfl rfl ?_
                   refine .m rfl rfl rfl rfl (.refl _) (.pickT rfl rfl) ?_
                   refine .done ?_
                   refine hK40 _ _ ?_
                   refine .condT rfl ?_
                   refine .seq (fun K42 hK42 => ?_)
                   refine .region ?_
                   refine .m rfl rfl rfl (.assign rfl) ?_
                   refine .nil ?_
                   refine hK42 _ _ ?_
                   refine .ret ?_
                   -- leaf e13
                   refine hret _ _ ?_
                   refine ⟨_, rfl, ?_⟩
                   exact ⟨congrArg _ (B_false fun hS => by have := (Cat.Cell.pos h123).1 (hS.cell k (by omega) j (by omega)); omega), hle⟩
                  ·
                   try simp only [sps] at h133
                   refine .mg rfl rfl rfl rfl rfl rfl (.refl _) (.fieldAddr fo_37_1_B rfl) ?_
                   refine .mg rfl rfl rfl rfl rfl rfl (.refl _) (.load on_22_B rfl (by assumption)) ?_
                   refine .mg rfl rfl rfl rfl rfl rfl (.refl _) (.move rfl) ?_
                   refine .mg rfl rfl rfl rfl rfl rfl (.refl _) (.idx1 sl_22_A (by assumption) rfl rfl (by omega) (by omega)) ?_
                   refine .mg rfl rfl rfl rfl rfl rfl (.refl _) (.loadI on_2_A (by assumption) rfl (by omega)) ?_
                   refine .mg rfl rfl rfl rfl rfl rfl (.refl _) (.fieldAddr fo_37_1_B rfl) ?_
                   refine .mg rfl rfl rfl rfl rfl rfl (.refl _) (.load on_22_B rfl (by assumption)) ?_
                   refine .mg rfl rfl rfl rfl rfl rfl (.refl _) (.move rfl) ?_
                   refine .mg rfl rfl rfl rfl rfl rfl (.refl _) (.idxN sl_22_A (by assumption) rfl rfl (by omega)) ?_
                   refine .mg rfl rfl rfl rfl rfl rfl (.refl _) (.loadI on_2_A (by assumption) rfl (by omega)) ?_
                   refine .mg rfl rfl rfl rfl rfl rfl (.refl _) (.cmp rfl rfl rfl) ?_
                   refine .m rfl rfl rfl rfl (.refl _) (.pickF rfl rfl) ?_
                   refine .m rfl rfl rfl rfl (.refl _) (.move rfl) ?_
                   refine .split (fun h146 => ?_) (fun h146 => ?_)
                   ·
                    try simp only [sps] at h146
                    refine .sg rfl rfl rfl rfl rfl rfl ?_
                    refine .sg rfl rfl rfl rfl rfl rfl ?_
                    refine .sg rfl rfl rfl rfl rfl rfl ?_
                    refine .sg rfl rfl rfl rfl rfl rfl ?_
                    refine .sg rfl rfl rfl rfl rfl rfl ?_
                    refine .sg rfl rfl rfl rfl rfl rfl ?_
                    refine .sg rfl rfl rfl rfl rfl rfl ?_
                    refine .sg rfl rfl rfl rfl rfl rfl ?_
                    refine .sg rfl rfl rfl rfl rfl rfl ?_
                    refine .sg rfl rfl rfl rfl rfl rfl ?_
                    refine .sg rfl rfl rfl rfl rfl rfl ?_
                    refine .m rfl rfl rfl rfl (.refl _) (.pickT rfl rfl) ?_
                    refine .done ?_
                    refine hK40 _ _ ?_
                    refine .condT rfl ?_
                    refine .seq (fun K43 hK43 => ?_)
                    refine .region ?_
                    refine .m rfl rfl rfl (.assign rfl) ?_
                    refine .nil ?_
                    refine hK43 _ _ ?_
                    refine .ret ?_
                    -- leaf e14
                    refine hret _ _ ?_
                    refine ⟨_, rfl, ?_⟩
                    exact ⟨congrArg _ (B_false fun hS => h146 ((Cat.Cell.pos h123).1 (hS.cell k (by omega) j (by omega))).2.2.1), hle⟩
                   ·
                    try simp only [sps] at h146
                    refine .mg rfl rfl rfl rfl rfl rfl (.refl _) (.fieldAddr fo_37_2_B rfl) ?_
                    refine .mg rfl rfl rfl rfl rfl rfl (.refl _) (.load on_22_B rfl (by assumption)) ?_
                    refine .mg rfl rfl rfl rfl rfl rfl (.refl _) (.move rfl) ?_
                    refine .mg rfl rfl rfl rfl rfl rfl (.refl _) (.idx1 sl_22_A (by assumption) rfl rfl (by omega) (by omega)) ?_
                    refine .mg rfl rfl rfl rfl rfl rfl (.refl _) (.loadI on_2_A (by assumption) rfl (by omega)) ?_
                    refine .mg rfl rfl rfl rfl rfl rfl (.refl _) (.fieldAddr fo_37_2_B rfl) ?_
                    refine .mg rfl rfl rfl rfl rfl rfl (.refl _) (.load on_22_B rfl (by assumption)) ?_
                    refine .mg rfl rfl rfl rfl rfl rfl (.refl _) (.move rfl) ?_
                    refine .mg rfl rfl rfl rfl rfl rfl (.refl _) (.idxN sl_22_A (by assumption) rfl rfl (by omega)) ?_
                    refine .mg rfl rfl rfl rfl rfl rfl (.refl _) (.loadI on_2_A (by assumption) rfl (by omega)) ?_
                    refine .mg rfl rfl rfl rfl rfl rfl (.refl _) (.cmp rfl rfl rfl) ?_
                    refine .m rfl rfl rfl rfl (.refl _) (.pickF rfl rfl) ?_
                    refine .done ?_
                    refine hK40 _ _ ?_
                    refine .cond rfl (fun h158 => ?_) (fun h158 => ?_)
                    ·
                     try simp only [sps] at h158
                     refine .seq (fun K44 hK44 => ?_)
                     refine .region ?_
                     refine .m rfl rfl rfl (.assign rfl) ?_
                     refine .nil ?_
                     refine hK44 _ _ ?_
                     refine .ret ?_
                     -- leaf e15
                     refine hret _ _ ?_
                     refine ⟨_, rfl, ?_⟩
                     exact ⟨congrArg _ (B_false fun hS => h158 ((Cat.Cell.pos h123).1 (hS.cell k (by omega) j (by omega))).2.2.2), hle⟩
                    ·
                     try simp only [sps] at h158
                     refine .skip ?_
                     refine hK33 _ _ ?_
                     refine .region ?_
                     refine .m rfl rfl rfl (.move rfl) ?_
                     refine .m rfl rfl rfl (.add rfl rfl rfl (by omega) (by omega)) ?_
                     refine .m rfl rfl rfl (.assign rfl) ?_
                     refine .nil ?_
                     refine hKL3 (j + 1) _ _ ?_ ?_ ⟨rfl, rfl, rfl, rfl, trivial⟩
                     ·
                      refine ⟨rfl, ?_⟩
                      refine ⟨by omega, fun x hx => ?_⟩
                      by_cases e : x < j
                      · exact ha3 x e
                      · obtain rfl : x = j := by omega
                        first
                          | exact (Cat.Cell.neg h123).2 h125
                          | exact (Cat.Cell.pos h123).2 ⟨by omega, by omega, by assumption, by assumption⟩
                     ·
                      omega
               ·
                try simp only [sps] at h102
                refine .exit ?_
                refine hK26 _ _ ?_
                refine .region ?_
                refine .m rfl rfl rfl (.move rfl) ?_
                refine .m rfl rfl rfl (.add rfl rfl rfl (by omega) (by omega)) ?_
                refine .m rfl rfl rfl (.assign rfl) ?_
                refine .nil ?_
                refine hKL2 (k + 1) _ _ ?_ ?_ ⟨rfl, rfl, rfl, trivial⟩
                ·
                 refine ⟨rfl, ?_⟩
                 refine ⟨by omega, fun x hx => ?_⟩
                 by_cases e : x < k
                 · exact ha2 x e
                 · obtain rfl : x = k := by omega
                   exact ⟨by omega, fun g hg => ha3 g (by omega)⟩
                ·
                 omega
            ·
             try simp only [sps] at h89
             refine .exit ?_
             refine hK22 _ _ ?_
             refine .seq (fun K45 hK45 => ?_)
             refine .region ?_
             refine .m rfl rfl rfl (.assign rfl) ?_
             refine .nil ?_
             refine hK45 _ _ ?_
             refine .ret ?_
             -- leaf e16
             refine hret _ _ ?_
             refine ⟨_, rfl, ?_⟩
             exact ⟨congrArg _ (B_true ⟨h15, by omega, h37.1, h28.2, h37.2, by omega, h56, by omega, fun x hx => ha1 x (by omega), fun f hf => (ha2 f (by omega)).1, fun f hf => (ha2 f (by omega)).2⟩), hle⟩
def FaultN (c : Cat) (H : GHeap) : Value → GHeap → Prop := fun v H' => H.Le H' ∧ ∃ kd b1 b2 b3 : Int, v = .tuple #[.int .i64 kd, .int .i64 b1, .int .i64 b2, .int .i64 b3] ∧ (kd = 0 ↔ c.Laws)
theorem l02Fault_c {c : Cat} {p : CatP} {H : GHeap} (hin : c.In H p := by assumption) (hS : c.Shape := by assumption) : GCalls Try.prog 99 [.agg (c.cells p).toArray] H (FaultR c H) := by
  refine (GCalls.quiet (φ := fun v => ∃ kd b1 b2 b3 : Int, v = .tuple #[.int .i64 kd, .int .i64 b1, .int .i64 b2, .int .i64 b3] ∧ (kd = 0 ↔ c.Laws)) (GCalls.mono (Q := FaultN c H) ?_ fun v H' ⟨h1, kd, b1, b2, b3, h2, h3⟩ => ⟨⟨kd, b1, b2, b3, h2, h3⟩, by rw [h2]; rfl, h1⟩)).mono fun v H' ⟨h1, h2⟩ => ⟨h2.symm, h1⟩
  refine GCalls.body (N := 131) (rs := [.tmp 2, .tmp 3, .tmp 4, .tmp 5]) Try.func99 rfl rfl rfl rfl (fun Qx hret hend => ?_)
  refine .forget (fr' := [(0, some _)]) ⟨rfl, trivial⟩ ?_
  refine .seq (fun K1 hK1 => ?_)
  refine .region ?_
  refine .d rfl rfl rfl (.box rfl sz_37_D rfl CIs.mk) ?_
  show GRun _ _ _ _ _ _ (H.push (.row (c.cells p) 37 true))
  have hle := GHeap.le_push H (.row (c.cells p) 37 true)
  have hb : Cat.At (H.push (.row (c.cells p) 37 true)) H.next 0 c p := ⟨Mem.new _ _ _ _, hin.mono hle⟩
  generalize H.push (.row (c.cells p) 37 true) = H1 at *
  generalize H.next = g at *
  obtain ⟨c0, c1, c2, c3, c4, i1, i2, i3, i4⟩ := hb.get
  have hm : MemN _ _ _ _ _ := ⟨rfl, hb.1⟩
  have hin1 := hb.2
  have e1 := hS.tl
  have e2 := hS.n40
  have e3 := hS.il
  have e4 := hS.obj
  have e5 := hS.cl
  refine .m rfl rfl rfl (.assign rfl) ?_
  refine .m rfl rfl rfl (.assign rfl) ?_
  refine .m rfl rfl rfl (.assign rfl) ?_
  refine .m rfl rfl rfl (.assign rfl) ?_
  refine .nil ?_
  refine hK1 _ _ ?_
  refine .seq (fun K2 hK2 => ?_)
  refine .region ?_
  refine .m rfl rfl rfl (.fieldAddr fo_37_1_B rfl) ?_
  refine .m rfl rfl rfl (.load on_22_B rfl (by assumption)) ?_
  refine .m rfl rfl rfl (.len sl_22_A rfl) ?_
  refine .m rfl rfl rfl (.assign rfl) ?_
  refine .nil ?_
  refine hK2 _ _ ?_
  refine .seq (fun K3 hK3 => ?_)
  refine .seq (fun K4 hK4 => ?_)
  refine .region ?_
  refine .m rfl rfl rfl (.assign rfl) ?_
  refine .nil ?_
  refine hK4 _ _ ?_
  refine .block ?_
  refine .loopR (σ := Nat) [(1, some _), (6, some _)] (fun k => [(7, some (.int .i64 (k : Int)))]) (fun k H' => H1 = H' ∧ k ≤ c.src.length ∧ ∀ x, x < k → c.IdOk x) (fun k => c.src.length - k) (0) ⟨rfl, rfl, trivial⟩ ⟨rfl, trivial⟩ ?_ ?_
  ·
   refine ⟨rfl, ?_⟩
   exact ⟨by omega, fun x hx => by omega⟩
  ·
   rintro k _ ⟨rfl, hI⟩ KL1 hKL1
   refine .forget (fr' := [(7, some (.int .i64 (k : Int))), (1, some _), (6, some _)]) ⟨rfl, rfl, rfl, trivial⟩ ?_
   obtain ⟨hk1, ha1⟩ := hI
   refine .seq (fun K5 hK5 => ?_)
   refine .seq (fun K6 hK6 => ?_)
   refine .region ?_
   refine .m rfl rfl rfl (.move rfl) ?_
   refine .m rfl rfl rfl (.move rfl) ?_
   refine .m rfl rfl rfl (.cmp rfl rfl rfl) ?_
   refine .nil ?_
   refine hK6 _ _ ?_
   refine .cond rfl (fun h16 => ?_) (fun h16 => ?_)
   ·
    simp only [decide_eq_true_eq] at h16
    have q1 := hS.src k (by omega)
    have q2 := hS.tgt k (by omega)
    have q3 := hS.idn_lt q1.1 q1.2
    have q4 := hS.idn_lt q2.1 q2.2
    have r1 := i4.2 (c.idn.getD (c.src.getD k 0).toNat 0).toNat (by omega)
    have r1l := hS.row (c.idn.getD (c.src.getD k 0).toNat 0).toNat (by omega)
    have r2 := i4.2 k (by omega)
    have r2l := hS.row k (by omega)
    refine .skip ?_
    refine hK5 _ _ ?_
    refine .seq (fun K7 hK7 => ?_)
    refine .block ?_
    refine .seq (fun K8 hK8 => ?_)
    refine .regionD mixed_orders_B (.q 0 (.q 1 (.q 2 (.q 3 (.q 4 (.q 5 (.q 6 (.q 7 (.q 8 (.q 9 (.q 10 (.q 11 (.q 12 (.q 13 (.q 14 (.q 15 (.q 16 (.q 17 (.q 18 (.q 19 (.q 20 (.q 21 (.q 22 (.q 23 (.q 24 (.q 25 (.q 26 (.q 27 (.q 28 (.q 29 (.q 30 (.q 31 (.q 32 (.q 33 (.q 34 (.q 35 (.q 36 (.q 37 (.done))))))))))))))))))))))))))))))))))))))) (by kernel_rfl) ?_
    refine .m rfl rfl rfl rfl (.refl _) (.fieldAddr fo_37_4_B rfl) ?_
    refine .m rfl rfl rfl rfl (.refl _) (.load on_23_B rfl (by assumption)) ?_
    refine .m rfl rfl rfl rfl (.refl _) (.fieldAddr fo_37_3_B rfl) ?_
    refine .m rfl rfl rfl rfl (.refl _) (.load on_22_B rfl (by assumption)) ?_
    refine .m rfl rfl rfl rfl (.refl _) (.fieldAddr fo_37_1_B rfl) ?_
    refine .m rfl rfl rfl rfl (.refl _) (.load on_22_B rfl (by assumption)) ?_
    refine .m rfl rfl rfl rfl (.refl _) (.move rfl) ?_
    refine .m rfl rfl rfl rfl (.refl _) (.idxN sl_22_A (by assumption) rfl rfl (by omega)) ?_
    refine .m rfl rfl rfl rfl (.refl _) (.loadI on_2_A (by assumption) rfl (by omega)) ?_
    refine .m rfl rfl rfl rfl (.refl _) (.idx1 sl_22_A (by assumption) rfl rfl (by omega) (by omega)) ?_
    refine .m rfl rfl rfl rfl (.refl _) (.loadI on_2_A (by assumption) rfl (by omega)) ?_
    refine .m rfl rfl rfl rfl (.refl _) (.idx1 sl_23_B (Intss.sl (by assumption)) rfl rfl (by omega) (by omega)) ?_
    refine .m rfl rfl rfl rfl (.refl _) (.loadR on_22_B (by assumption) rfl (by omega)) ?_
    refine .m rfl rfl rfl rfl (.refl _) (.move rfl) ?_
    refine .m rfl rfl rfl rfl (.refl _) (.idxN sl_22_A (by assumption) rfl rfl (by omega)) ?_
    refine .m rfl rfl rfl rfl (.refl _) (.loadI on_2_A (by assumption) rfl (by omega)) ?_
    refine .m rfl rfl rfl rfl (.refl _) (.move rfl) ?_
    refine .m rfl rfl rfl rfl (.refl _) (.cmp rfl rfl rfl) ?_
    refine .m rfl rfl rfl rfl (.refl _) (.move rfl) ?_
    refine .split (fun h37 => ?_) (fun h37 => ?_)
    ·
     try simp only [sps] at h37
     refine .sg rfl rfl rfl rfl rfl rfl ?_
     refine .sg rfl rfl rfl rfl rfl rfl ?_
     refine .sg rfl rfl rfl rfl rfl rfl ?_
     refine .sg rfl rfl rfl rfl rfl rfl ?_
     refine .sg rfl rfl rfl rfl rfl rfl ?_
     refine .sg rfl rfl rfl rfl rfl rfl ?_
     refine .sg rfl rfl rfl rfl rfl rfl ?_
     refine .sg rfl rfl rfl rfl rfl rfl ?_
     refine .sg rfl rfl rfl rfl rfl rfl ?_
     refine .sg rfl rfl rfl rfl rfl rfl ?_
     refine .sg rfl rfl rfl rfl rfl rfl ?_
     refine .sg rfl rfl rfl rfl rfl rfl ?_
     refine .sg rfl rfl rfl rfl rfl rfl ?_
     refine .sg rfl rfl rfl rfl rfl rfl ?_
     refine .sg rfl rfl rfl rfl rfl rfl ?_
     refine .sg rfl rfl rfl rfl rfl rfl ?_
     refine .sg rfl rfl rfl rfl rfl rfl ?_
     refine .sg rfl rfl rfl rfl rfl rfl ?_
     refine .m rfl rfl rfl rfl (.refl _) (.pickT rfl rfl) ?_
     refine .done ?_
     refine hK8 _ _ ?_
     refine .condT rfl ?_
     refine .seq (fun K9 hK9 => ?_)
     refine .region ?_
     refine .m rfl rfl rfl (.move rfl) ?_
     refine .m rfl rfl rfl (.assign rfl) ?_
     refine .m rfl rfl rfl (.assign rfl) ?_
     refine .m rfl rfl rfl (.assign rfl) ?_
     refine .m rfl rfl rfl (.assign rfl) ?_
     refine .nil ?_
     refine hK9 _ _ ?_
     refine .ret ?_
     -- leaf e1
     refine hret _ _ ?_
     refine ⟨_, _, _, _, rfl, rfl, rfl, rfl, ?_⟩
     exact ⟨hle, _, _, _, _, rfl, fun e => by omega, fun hL => absurd (hL.ids k (by omega)).1 h37⟩
    ·
     try simp only [sps] at h37
     refine .mg rfl rfl rfl rfl rfl rfl (.refl _) (.fieldAddr fo_37_4_B rfl) ?_
     refine .mg rfl rfl rfl rfl rfl rfl (.refl _) (.load on_23_B rfl (by assumption)) ?_
     refine .mg rfl rfl rfl rfl rfl rfl (.refl _) (.move rfl) ?_
     refine .mg rfl rfl rfl rfl rfl rfl (.refl _) (.idxN sl_23_B (Intss.sl (by assumption)) rfl rfl (by omega)) ?_
     refine .mg rfl rfl rfl rfl rfl rfl (.refl _) (.loadR on_22_B (by assumption) rfl (by omega)) ?_
     refine .mg rfl rfl rfl rfl rfl rfl (.refl _) (.fieldAddr fo_37_3_B rfl) ?_
     refine .mg rfl rfl rfl rfl rfl rfl (.refl _) (.load on_22_B rfl (by assumption)) ?_
     refine .mg rfl rfl rfl rfl rfl rfl (.refl _) (.fieldAddr fo_37_2_B rfl) ?_
     refine .mg rfl rfl rfl rfl rfl rfl (.refl _) (.load on_22_B rfl (by assumption)) ?_
     refine .mg rfl rfl rfl rfl rfl rfl (.refl _) (.move rfl) ?_
     refine .mg rfl rfl rfl rfl rfl rfl (.refl _) (.idxN sl_22_A (by assumption) rfl rfl (by omega)) ?_
     refine .mg rfl rfl rfl rfl rfl rfl (.refl _) (.loadI on_2_A (by assumption) rfl (by omega)) ?_
     refine .mg rfl rfl rfl rfl rfl rfl (.refl _) (.idx1 sl_22_A (by assumption) rfl rfl (by omega) (by omega)) ?_
     refine .mg rfl rfl rfl rfl rfl rfl (.refl _) (.loadI on_2_A (by assumption) rfl (by omega)) ?_
     refine .mg rfl rfl rfl rfl rfl rfl (.refl _) (.idx1 sl_22_A (by assumption) rfl rfl (by omega) (by omega)) ?_
     refine .mg rfl rfl rfl rfl rfl rfl (.refl _) (.loadI on_2_A (by assumption) rfl (by omega)) ?_
     refine .mg rfl rfl rfl rfl rfl rfl (.refl _) (.move rfl) ?_
     refine .mg rfl rfl rfl rfl rfl rfl (.refl _) (.cmp rfl rfl rfl) ?_
     refine .m rfl rfl rfl rfl (.refl _) (.pickF rfl rfl) ?_
     refine .done ?_
     refine hK8 _ _ ?_
     refine .cond rfl (fun h56 => ?_) (fun h56 => ?_)
     ·
      try simp only [sps] at h56
      refine .seq (fun K10 hK10 => ?_)
      refine .region ?_
      refine .m rfl rfl rfl (.move rfl) ?_
      refine .m rfl rfl rfl (.assign rfl) ?_
      refine .m rfl rfl rfl (.assign rfl) ?_
      refine .m rfl rfl rfl (.assign rfl) ?_
      refine .m rfl rfl rfl (.assign rfl) ?_
      refine .nil ?_
      refine hK10 _ _ ?_
      refine .ret ?_
      -- leaf e2
      refine hret _ _ ?_
      refine ⟨_, _, _, _, rfl, rfl, rfl, rfl, ?_⟩
      exact ⟨hle, _, _, _, _, rfl, fun e => by omega, fun hL => absurd (hL.ids k (by omega)).2 h56⟩
     ·
      try simp only [sps] at h56
      refine .skip ?_
      refine hK7 _ _ ?_
      refine .region ?_
      refine .m rfl rfl rfl (.move rfl) ?_
      refine .m rfl rfl rfl (.add rfl rfl rfl (by omega) (by omega)) ?_
      refine .m rfl rfl rfl (.assign rfl) ?_
      refine .nil ?_
      refine hKL1 (k + 1) _ _ ?_ ?_ ⟨rfl, rfl, rfl, trivial⟩
      ·
       refine ⟨rfl, ?_⟩
       refine ⟨by omega, fun x hx => ?_⟩
       by_cases e : x < k
       · exact ha1 x e
       · obtain rfl : x = k := by omega
         exact ⟨h37, h56⟩
      ·
       omega
   ·
    try simp only [sps] at h16
    refine .exit ?_
    refine hK3 _ _ ?_
    refine .seq (fun K11 hK11 => ?_)
    refine .seq (fun K12 hK12 => ?_)
    refine .region ?_
    refine .m rfl rfl rfl (.assign rfl) ?_
    refine .nil ?_
    refine hK12 _ _ ?_
    refine .block ?_
    refine .loopR (σ := Nat) [(1, some _), (6, some _)] (fun k => [(8, some (.int .i64 (k : Int)))]) (fun k H' => H1 = H' ∧ k ≤ c.src.length ∧ ∀ f, f < k → ∀ g, g < c.src.length → c.tgt.getD f 0 = c.src.getD g 0 → ∀ h, h < c.src.length → c.tgt.getD g 0 = c.src.getD h 0 → c.th (c.th f g) h = c.th f (c.th g h)) (fun k => c.src.length - k) (0) ⟨rfl, rfl, trivial⟩ ⟨rfl, trivial⟩ ?_ ?_
    ·
     refine ⟨rfl, ?_⟩
     exact ⟨by omega, fun x hx => by omega⟩
    ·
     rintro k _ ⟨rfl, hI⟩ KL2 hKL2
     refine .forget (fr' := [(8, some (.int .i64 (k : Int))), (1, some _), (6, some _)]) ⟨rfl, rfl, rfl, trivial⟩ ?_
     obtain ⟨hk2, ha2⟩ := hI
     refine .seq (fun K13 hK13 => ?_)
     refine .seq (fun K14 hK14 => ?_)
     refine .region ?_
     refine .m rfl rfl rfl (.move rfl) ?_
     refine .m rfl rfl rfl (.move rfl) ?_
     refine .m rfl rfl rfl (.cmp rfl rfl rfl) ?_
     refine .nil ?_
     refine hK14 _ _ ?_
     refine .cond rfl (fun h60 => ?_) (fun h60 => ?_)
     ·
      try simp only [sps] at h60
      refine .skip ?_
      refine hK13 _ _ ?_
      refine .seq (fun K15 hK15 => ?_)
      refine .block ?_
      refine .seq (fun K16 hK16 => ?_)
      refine .region ?_
      refine .m rfl rfl rfl (.assign rfl) ?_
      refine .nil ?_
      refine hK16 _ _ ?_
      refine .block ?_
      refine .loopR (σ := Nat) [(1, some _), (6, some _), (8, some _)] (fun j => [(9, some (.int .i64 (j : Int)))]) (fun j H' => H1 = H' ∧ j ≤ c.src.length ∧ ∀ g, g < j → c.tgt.getD k 0 = c.src.getD g 0 → ∀ h, h < c.src.length → c.tgt.getD g 0 = c.src.getD h 0 → c.th (c.th k g) h = c.th k (c.th g h)) (fun j => c.src.length - j) (0) ⟨rfl, rfl, rfl, trivial⟩ ⟨rfl, trivial⟩ ?_ ?_
      ·
       refine ⟨rfl, ?_⟩
       exact ⟨by omega, fun x hx => by omega⟩
      ·
       rintro j _ ⟨rfl, hI⟩ KL3 hKL3
       refine .forget (fr' := [(9, some (.int .i64 (j : Int))), (1, some _), (6, some _), (8, some _)]) ⟨rfl, rfl, rfl, rfl, trivial⟩ ?_
       obtain ⟨hk3, ha3⟩ := hI
       refine .seq (fun K17 hK17 => ?_)
       refine .seq (fun K18 hK18 => ?_)
       refine .region ?_
       refine .m rfl rfl rfl (.move rfl) ?_
       refine .m rfl rfl rfl (.move rfl) ?_
       refine .m rfl rfl rfl (.cmp rfl rfl rfl) ?_
       refine .nil ?_
       refine hK18 _ _ ?_
       refine .cond rfl (fun h65 => ?_) (fun h65 => ?_)
       ·
        try simp only [sps] at h65
        refine .skip ?_
        refine hK17 _ _ ?_
        refine .seq (fun K19 hK19 => ?_)
        refine .block ?_
        refine .seq (fun K20 hK20 => ?_)
        refine .seq (fun K21 hK21 => ?_)
        refine .regionD mixed_orders_B (.q 0 (.q 1 (.q 2 (.q 3 (.q 4 (.q 5 (.q 6 (.q 7 (.q 8 (.q 9 (.q 10 (.done)))))))))))) (by kernel_rfl) ?_
        refine .m rfl rfl rfl rfl (.refl _) (.fieldAddr fo_37_2_B rfl) ?_
        refine .m rfl rfl rfl rfl (.refl _) (.load on_22_B rfl (by assumption)) ?_
        refine .m rfl rfl rfl rfl (.refl _) (.move rfl) ?_
        refine .m rfl rfl rfl rfl (.refl _) (.idxN sl_22_A (by assumption) rfl rfl (by omega)) ?_
        refine .m rfl rfl rfl rfl (.refl _) (.loadI on_2_A (by assumption) rfl (by omega)) ?_
        refine .m rfl rfl rfl rfl (.refl _) (.fieldAddr fo_37_1_B rfl) ?_
        refine .m rfl rfl rfl rfl (.refl _) (.load on_22_B rfl (by assumption)) ?_
        refine .m rfl rfl rfl rfl (.refl _) (.move rfl) ?_
        refine .m rfl rfl rfl rfl (.refl _) (.idxN sl_22_A (by assumption) rfl rfl (by omega)) ?_
        refine .m rfl rfl rfl rfl (.refl _) (.loadI on_2_A (by assumption) rfl (by omega)) ?_
        refine .m rfl rfl rfl rfl (.refl _) (.cmp rfl rfl rfl) ?_
        refine .done ?_
        refine hK21 _ _ ?_
        refine .cond rfl (fun h78 => ?_) (fun h78 => ?_)
        ·
         try simp only [sps] at h78
         refine .exit ?_
         refine hK19 _ _ ?_
         refine .region ?_
         refine .m rfl rfl rfl (.move rfl) ?_
         refine .m rfl rfl rfl (.add rfl rfl rfl (by omega) (by omega)) ?_
         refine .m rfl rfl rfl (.assign rfl) ?_
         refine .nil ?_
         refine hKL3 (j + 1) _ _ ?_ ?_ ⟨rfl, rfl, rfl, rfl, trivial⟩
         ·
          refine ⟨rfl, ?_⟩
          refine ⟨by omega, fun x hx => ?_⟩
          by_cases e : x < j
          · exact ha3 x e
          · obtain rfl : x = j := by omega
            first
              | exact fun e => absurd e h78
              | exact fun _ h hh => ha4 h (by omega)
         ·
          omega
        ·
         simp only [bne_eq_false_iff_eq] at h78
         have q5 := (Cat.Cell.pos h78).1 (hS.cell k (by omega) j (by omega))
         have r3 := i4.2 k (by omega)
         have r3l := hS.row k (by omega)
         have r4 := i4.2 j (by omega)
         have r4l := hS.row j (by omega)
         have r5 := i4.2 ((c.comp.getD k []).getD j 0).toNat (by omega)
         have r5l := hS.row ((c.comp.getD k []).getD j 0).toNat (by omega)
         refine .skip ?_
         refine hK20 _ _ ?_
         refine .seq (fun K22 hK22 => ?_)
         refine .region ?_
         refine .m rfl rfl rfl (.assign rfl) ?_
         refine .nil ?_
         refine hK22 _ _ ?_
         refine .block ?_
         refine .loopR (σ := Nat) [(1, some _), (6, some _), (8, some _), (9, some _)] (fun i => [(10, some (.int .i64 (i : Int)))]) (fun i H' => H1 = H' ∧ i ≤ c.src.length ∧ ∀ h, h < i → c.tgt.getD j 0 = c.src.getD h 0 → c.th (c.th k j) h = c.th k (c.th j h)) (fun i => c.src.length - i) (0) ⟨rfl, rfl, rfl, rfl, trivial⟩ ⟨rfl, trivial⟩ ?_ ?_
         ·
          refine ⟨rfl, ?_⟩
          exact ⟨by omega, fun x hx => by omega⟩
         ·
          rintro i _ ⟨rfl, hI⟩ KL4 hKL4
          refine .forget (fr' := [(10, some (.int .i64 (i : Int))), (1, some _), (6, some _), (8, some _), (9, some _)]) ⟨rfl, rfl, rfl, rfl, rfl, trivial⟩ ?_
          obtain ⟨hk4, ha4⟩ := hI
          refine .seq (fun K23 hK23 => ?_)
          refine .seq (fun K24 hK24 => ?_)
          refine .region ?_
          refine .m rfl rfl rfl (.move rfl) ?_
          refine .m rfl rfl rfl (.move rfl) ?_
          refine .m rfl rfl rfl (.cmp rfl rfl rfl) ?_
          refine .nil ?_
          refine hK24 _ _ ?_
          refine .cond rfl (fun h81 => ?_) (fun h81 => ?_)
          ·
           try simp only [sps] at h81
           refine .skip ?_
           refine hK23 _ _ ?_
           refine .seq (fun K25 hK25 => ?_)
           refine .block ?_
           refine .seq (fun K26 hK26 => ?_)
           refine .regionD mixed_orders_B (.q 0 (.q 1 (.q 2 (.q 3 (.q 4 (.q 5 (.q 6 (.q 7 (.q 8 (.q 9 (.q 10 (.q 11 (.q 12 (.q 13 (.q 14 (.q 15 (.q 16 (.q 17 (.q 18 (.q 19 (.q 20 (.q 21 (.q 22 (.q 23 (.q 24 (.q 25 (.q 26 (.q 27 (.q 28 (.q 29 (.q 30 (.q 31 (.q 32 (.q 33 (.q 34 (.q 35 (.q 36 (.q 37 (.q 38 (.q 39 (.q 40 (.q 41 (.q 42 (.q 43 (.done))))))))))))))))))))))))))))))))))))))))))))) (by kernel_rfl) ?_
           refine .m rfl rfl rfl rfl (.refl _) (.fieldAddr fo_37_2_B rfl) ?_
           refine .m rfl rfl rfl rfl (.refl _) (.load on_22_B rfl (by assumption)) ?_
           refine .m rfl rfl rfl rfl (.refl _) (.move rfl) ?_
           refine .m rfl rfl rfl rfl (.refl _) (.idxN sl_22_A (by assumption) rfl rfl (by omega)) ?_
           refine .m rfl rfl rfl rfl (.refl _) (.loadI on_2_A (by assumption) rfl (by omega)) ?_
           refine .m rfl rfl rfl rfl (.refl _) (.fieldAddr fo_37_1_B rfl) ?_
           refine .m rfl rfl rfl rfl (.refl _) (.load on_22_B rfl (by assumption)) ?_
           refine .m rfl rfl rfl rfl (.refl _) (.move rfl) ?_
           refine .m rfl rfl rfl rfl (.refl _) (.idxN sl_22_A (by assumption) rfl rfl (by omega)) ?_
           refine .m rfl rfl rfl rfl (.refl _) (.loadI on_2_A (by assumption) rfl (by omega)) ?_
           refine .m rfl rfl rfl rfl (.refl _) (.cmp rfl rfl rfl) ?_
           refine .m rfl rfl rfl rfl (.refl _) (.move rfl) ?_
           refine .split (fun h95 => ?_) (fun h95 => ?_)
           ·
            simp only [beq_iff_eq] at h95
            have q6 := (Cat.Cell.pos h95).1 (hS.cell j (by omega) i (by omega))
            refine .mg rfl rfl rfl rfl rfl rfl (.refl _) (.fieldAddr fo_37_4_B rfl) ?_
            refine .mg rfl rfl rfl rfl rfl rfl (.refl _) (.load on_23_B rfl (by assumption)) ?_
            refine .mg rfl rfl rfl rfl rfl rfl (.refl _) (.fieldAddr fo_37_4_B rfl) ?_
            refine .mg rfl rfl rfl rfl rfl rfl (.refl _) (.load on_23_B rfl (by assumption)) ?_
            refine .mg rfl rfl rfl rfl rfl rfl (.refl _) (.move rfl) ?_
            refine .mg rfl rfl rfl rfl rfl rfl (.refl _) (.idxN sl_23_B (Intss.sl (by assumption)) rfl rfl (by omega)) ?_
            refine .mg rfl rfl rfl rfl rfl rfl (.refl _) (.loadR on_22_B (by assumption) rfl (by omega)) ?_
            refine .mg rfl rfl rfl rfl rfl rfl (.refl _) (.move rfl) ?_
            refine .mg rfl rfl rfl rfl rfl rfl (.refl _) (.idxN sl_22_A (by assumption) rfl rfl (by omega)) ?_
            refine .mg rfl rfl rfl rfl rfl rfl (.refl _) (.loadI on_2_A (by assumption) rfl (by omega)) ?_
            refine .mg rfl rfl rfl rfl rfl rfl (.refl _) (.idx1 sl_23_B (Intss.sl (by assumption)) rfl rfl (by omega) (by omega)) ?_
            refine .mg rfl rfl rfl rfl rfl rfl (.refl _) (.loadR on_22_B (by assumption) rfl (by omega)) ?_
            refine .mg rfl rfl rfl rfl rfl rfl (.refl _) (.move rfl) ?_
            refine .mg rfl rfl rfl rfl rfl rfl (.refl _) (.idxN sl_22_A (by assumption) rfl rfl (by omega)) ?_
            refine .mg rfl rfl rfl rfl rfl rfl (.refl _) (.loadI on_2_A (by assumption) rfl (by omega)) ?_
            refine .mg rfl rfl rfl rfl rfl rfl (.refl _) (.fieldAddr fo_37_4_B rfl) ?_
            refine .mg rfl rfl rfl rfl rfl rfl (.refl _) (.load on_23_B rfl (by assumption)) ?_
            refine .mg rfl rfl rfl rfl rfl rfl (.refl _) (.move rfl) ?_
            refine .mg rfl rfl rfl rfl rfl rfl (.refl _) (.idxN sl_23_B (Intss.sl (by assumption)) rfl rfl (by omega)) ?_
            refine .mg rfl rfl rfl rfl rfl rfl (.refl _) (.loadR on_22_B (by assumption) rfl (by omega)) ?_
            refine .mg rfl rfl rfl rfl rfl rfl (.refl _) (.fieldAddr fo_37_4_B rfl) ?_
            refine .mg rfl rfl rfl rfl rfl rfl (.refl _) (.load on_23_B rfl (by assumption)) ?_
            refine .mg rfl rfl rfl rfl rfl rfl (.refl _) (.move rfl) ?_
            refine .mg rfl rfl rfl rfl rfl rfl (.refl _) (.idxN sl_23_B (Intss.sl (by assumption)) rfl rfl (by omega)) ?_
            refine .mg rfl rfl rfl rfl rfl rfl (.refl _) (.loadR on_22_B (by assumption) rfl (by omega)) ?_
            refine .mg rfl rfl rfl rfl rfl rfl (.refl _) (.move rfl) ?_
            refine .mg rfl rfl rfl rfl rfl rfl (.refl _) (.idxN sl_22_A (by assumption) rfl rfl (by omega)) ?_
            refine .mg rfl rfl rfl rfl rfl rfl (.refl _) (.loadI on_2_A (by assumption) rfl (by omega)) ?_
            refine .mg rfl rfl rfl rfl rfl rfl (.refl _) (.idx1 sl_22_A (by assumption) rfl rfl (by omega) (by omega)) ?_
            refine .mg rfl rfl rfl rfl rfl rfl (.refl _) (.loadI on_2_A (by assumption) rfl (by omega)) ?_
            refine .mg rfl rfl rfl rfl rfl rfl (.refl _) (.cmp rfl rfl rfl) ?_
            refine .m rfl rfl rfl rfl (.refl _) (.pickT rfl rfl) ?_
            refine .done ?_
            refine hK26 _ _ ?_
            refine .cond rfl (fun h127 => ?_) (fun h127 => ?_)
            ·
             try simp only [sps] at h127
             refine .seq (fun K27 hK27 => ?_)
             refine .region ?_
             refine .m rfl rfl rfl (.move rfl) ?_
             refine .m rfl rfl rfl (.move rfl) ?_
             refine .m rfl rfl rfl (.move rfl) ?_
             refine .m rfl rfl rfl (.assign rfl) ?_
             refine .m rfl rfl rfl (.assign rfl) ?_
             refine .m rfl rfl rfl (.assign rfl) ?_
             refine .m rfl rfl rfl (.assign rfl) ?_
             refine .nil ?_
             refine hK27 _ _ ?_
             refine .ret ?_
             -- leaf e3
             refine hret _ _ ?_
             refine ⟨_, _, _, _, rfl, rfl, rfl, rfl, ?_⟩
             exact ⟨hle, _, _, _, _, rfl, fun e => by omega, fun hL => absurd (hL.as k (by omega) j (by omega) h78 i (by omega) h95) h127⟩
            ·
             try simp only [sps] at h127
             refine .skip ?_
             refine hK25 _ _ ?_
             refine .region ?_
             refine .m rfl rfl rfl (.move rfl) ?_
             refine .m rfl rfl rfl (.add rfl rfl rfl (by omega) (by omega)) ?_
             refine .m rfl rfl rfl (.assign rfl) ?_
             refine .nil ?_
             refine hKL4 (i + 1) _ _ ?_ ?_ ⟨rfl, rfl, rfl, rfl, rfl, trivial⟩
             ·
              refine ⟨rfl, ?_⟩
              refine ⟨by omega, fun x hx => ?_⟩
              by_cases e : x < i
              · exact ha4 x e
              · obtain rfl : x = i := by omega
                first
                  | exact fun e => absurd e h95
                  | exact fun _ => h127
             ·
              omega
           ·
            try simp only [sps] at h95
            refine .sg rfl rfl rfl rfl rfl rfl ?_
            refine .sg rfl rfl rfl rfl rfl rfl ?_
            refine .sg rfl rfl rfl rfl rfl rfl ?_
            refine .sg rfl rfl rfl rfl rfl rfl ?_
            refine .sg rfl rfl rfl rfl rfl rfl ?_
            refine .sg rfl rfl rfl rfl rfl rfl ?_
            refine .sg rfl rfl rfl rfl rfl rfl ?_
            refine .sg rfl rfl rfl rfl rfl rfl ?_
            refine .sg rfl rfl rfl rfl rfl rfl ?_
            refine .sg rfl rfl rfl rfl rfl rfl ?_
            refine .sg rfl rfl rfl rfl rfl rfl ?_
            refine .sg rfl rfl rfl rfl rfl rfl ?_
            refine .sg rfl rfl rfl rfl rfl rfl ?_
            refine .sg rfl rfl rfl rfl rfl rfl ?_
            refine .sg rfl rfl rfl rfl rfl rfl ?_
            refine .sg rfl rfl rfl rfl rfl rfl ?_
            refine .sg rfl rfl rfl rfl rfl rfl ?_
            refine .sg rfl rfl rfl rfl rfl rfl ?_
            refine .sg rfl rfl rfl rfl rfl rfl ?_
            refine .sg rfl rfl rfl rfl rfl rfl ?_
            refine .sg rfl rfl rfl rfl rfl rfl ?_
            refine .sg rfl rfl rfl rfl rfl rfl ?_
            refine .sg rfl rfl rfl rfl rfl rfl ?_
            refine .sg rfl rfl rfl rfl rfl rfl ?_
            refine .sg rfl rfl rfl rfl rfl rfl ?_
            refine .sg rfl rfl rfl rfl rfl rfl ?_
            refine .sg rfl rfl rfl rfl rfl rfl ?_
            refine .sg rfl rfl rfl rfl rfl rfl ?_
            refine .sg rfl rfl rfl rfl rfl rfl ?_
            refine .sg rfl rfl rfl rfl rfl rfl ?_
            refine .sg rfl rfl rfl rfl rfl rfl ?_
            refine .m rfl rfl rfl rfl (.refl _) (.pickF rfl rfl) ?_
            refine .done ?_
            refine hK26 _ _ ?_
            refine .condF rfl ?_
            refine .skip ?_
            refine hK25 _ _ ?_
            refine .region ?_
            refine .m rfl rfl rfl (.move rfl) ?_
            refine .m rfl rfl rfl (.add rfl rfl rfl (by omega) (by omega)) ?_
            refine .m rfl rfl rfl (.assign rfl) ?_
            refine .nil ?_
            refine hKL4 (i + 1) _ _ ?_ ?_ ⟨rfl, rfl, rfl, rfl, rfl, trivial⟩
            ·
             refine ⟨rfl, ?_⟩
             refine ⟨by omega, fun x hx => ?_⟩
             by_cases e : x < i
             · exact ha4 x e
             · obtain rfl : x = i := by omega
               first
                 | exact fun e => absurd e h95
                 | exact fun _ => h127
            ·
             omega
          ·
           try simp only [sps] at h81
           refine .exit ?_
           refine hK19 _ _ ?_
           refine .region ?_
           refine .m rfl rfl rfl (.move rfl) ?_
           refine .m rfl rfl rfl (.add rfl rfl rfl (by omega) (by omega)) ?_
           refine .m rfl rfl rfl (.assign rfl) ?_
           refine .nil ?_
           refine hKL3 (j + 1) _ _ ?_ ?_ ⟨rfl, rfl, rfl, rfl, trivial⟩
           ·
            refine ⟨rfl, ?_⟩
            refine ⟨by omega, fun x hx => ?_⟩
            by_cases e : x < j
            · exact ha3 x e
            · obtain rfl : x = j := by omega
              first
                | exact fun e => absurd e h78
                | exact fun _ h hh => ha4 h (by omega)
           ·
            omega
       ·
        try simp only [sps] at h65
        refine .exit ?_
        refine hK15 _ _ ?_
        refine .region ?_
        refine .m rfl rfl rfl (.move rfl) ?_
        refine .m rfl rfl rfl (.add rfl rfl rfl (by omega) (by omega)) ?_
        refine .m rfl rfl rfl (.assign rfl) ?_
        refine .nil ?_
        refine hKL2 (k + 1) _ _ ?_ ?_ ⟨rfl, rfl, rfl, trivial⟩
        ·
         refine ⟨rfl, ?_⟩
         refine ⟨by omega, fun x hx => ?_⟩
         by_cases e : x < k
         · exact ha2 x e
         · obtain rfl : x = k := by omega
           exact fun g hg => ha3 g (by omega)
        ·
         omega
     ·
      try simp only [sps] at h60
      refine .exit ?_
      refine hK11 _ _ ?_
      refine .seq (fun K28 hK28 => ?_)
      refine .region ?_
      refine .m rfl rfl rfl (.assign rfl) ?_
      refine .m rfl rfl rfl (.assign rfl) ?_
      refine .m rfl rfl rfl (.assign rfl) ?_
      refine .m rfl rfl rfl (.assign rfl) ?_
      refine .nil ?_
      refine hK28 _ _ ?_
      refine .ret ?_
      -- leaf e4
      refine hret _ _ ?_
      refine ⟨_, _, _, _, rfl, rfl, rfl, rfl, ?_⟩
      exact ⟨hle, _, _, _, _, rfl, fun _ => ⟨fun f hf => ha1 f (by omega), fun f hf => ha2 f (by omega)⟩, fun _ => rfl⟩
theorem l02Is_c {c : Cat} {p : CatP} {H : GHeap} (hin : c.In H p := by assumption) (hs : c.Small := by assumption) : GCalls Try.prog 93 [.agg (c.cells p).toArray] H (Ret (.bool (B c.Is)) H) := by
  refine GCalls.ret rfl ?_
  refine GCalls.body (N := 19) (rs := [.tmp 2]) Try.func93 rfl rfl rfl rfl (fun Qx hret hend => ?_)
  refine .forget (fr' := [(0, some _)]) ⟨rfl, trivial⟩ ?_
  refine .seq (fun K1 hK1 => ?_)
  refine .region ?_
  refine .d rfl rfl rfl (.box rfl sz_37_D rfl CIs.mk) ?_
  show GRun _ _ _ _ _ _ (H.push (.row (c.cells p) 37 true))
  have hle := GHeap.le_push H (.row (c.cells p) 37 true)
  have hb : Cat.At (H.push (.row (c.cells p) 37 true)) H.next 0 c p := ⟨Mem.new _ _ _ _, hin.mono hle⟩
  generalize H.push (.row (c.cells p) 37 true) = H1 at *
  generalize H.next = g at *
  obtain ⟨c0, c1, c2, c3, c4, i1, i2, i3, i4⟩ := hb.get
  have hm : MemN _ _ _ _ _ := ⟨rfl, hb.1⟩
  have hin1 := hb.2
  refine .m rfl rfl rfl (.assign rfl) ?_
  refine .nil ?_
  refine hK1 _ _ ?_
  refine .seq (fun K2 hK2 => ?_)
  refine .seq (fun K3 hK3 => ?_)
  refine .region ?_
  refine .m rfl rfl rfl (.loadM ag_37_D rfl (by assumption)) ?_
  refine .callQ rfl rfl rfl rfl @Try.call98 rfl (specShape_c) ?_
  refine .m rfl rfl rfl (.not rfl) ?_
  refine .nil ?_
  refine hK3 _ _ ?_
  refine .cond rfl (fun h9 => ?_) (fun h9 => ?_)
  ·
   try simp only [sps] at h9
   refine .seq (fun K4 hK4 => ?_)
   refine .region ?_
   refine .m rfl rfl rfl (.assign rfl) ?_
   refine .nil ?_
   refine hK4 _ _ ?_
   refine .ret ?_
   -- leaf e1
   refine hret _ _ ?_
   refine ⟨_, rfl, ?_⟩
   exact ⟨congrArg _ (B_false fun hI => h9 hI.1), hle⟩
  ·
   try simp only [sps] at h9
   refine .skip ?_
   refine hK2 _ _ ?_
   refine .seq (fun K5 hK5 => ?_)
   refine .region ?_
   refine .m rfl rfl rfl (.loadM ag_37_D rfl (by assumption)) ?_
   refine .call rfl rfl rfl rfl @Try.call99 rfl (l02Fault_c) ?_
   rintro _ _ ⟨rfl, kd, b1, b2, b3, rfl, hkd⟩
   refine .m rfl rfl rfl (.move rfl) ?_
   refine .m rfl rfl rfl (.extract rfl rfl) ?_
   refine .m rfl rfl rfl (.extract rfl rfl) ?_
   refine .m rfl rfl rfl (.extract rfl rfl) ?_
   refine .m rfl rfl rfl (.extract rfl rfl) ?_
   refine .m rfl rfl rfl (.assign rfl) ?_
   refine .m rfl rfl rfl (.assign rfl) ?_
   refine .m rfl rfl rfl (.assign rfl) ?_
   refine .m rfl rfl rfl (.assign rfl) ?_
   refine .nil ?_
   refine hK5 _ _ ?_
   refine .seq (fun K6 hK6 => ?_)
   refine .region ?_
   refine .m rfl rfl rfl (.move rfl) ?_
   refine .m rfl rfl rfl (.cmp rfl rfl rfl) ?_
   refine .m rfl rfl rfl (.assign rfl) ?_
   refine .nil ?_
   refine hK6 _ _ ?_
   refine .ret ?_
   -- leaf e2
   refine hret _ _ ?_
   refine ⟨_, rfl, ?_⟩
   exact ⟨congrArg _ (by rw [Bool.eq_iff_iff, B_iff, beq_iff_eq, hkd]; exact ⟨fun h => h.2, fun h => ⟨h9, h⟩⟩), hle⟩
end Go.Proofs.Ytbpehbbdodahaaa
