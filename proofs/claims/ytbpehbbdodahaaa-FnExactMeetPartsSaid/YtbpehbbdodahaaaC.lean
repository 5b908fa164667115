/- Categories: their faults, and whether they are categories, in the program. No condition but those of each statement. -/
import Derived.Test.YtbpehbbdodahaaaB
namespace Go.Proofs.Ytbpehbbdodahaaa
open Go Go.GL Go.RowKit Go.Proofs
theorem then_s {g o : Nat} {c : Cat} {p : CatP} {f k : Int} {H : GHeap} (h : Cat.At H g o c p := by assumption) (hS : c.Shape := by assumption) (h0 : 0 ≤ f := by omega) (h1 : f < c.src.length := by omega) (h2 : 0 ≤ k := by omega) (h3 : k < c.src.length := by omega) :
    GCalls Try.prog 104 [.pointer (some ⟨g, o, none⟩), .int .i64 f, .int .i64 k] H (Ret (.int .i64 (c.th f k)) H) := by
  have e1 := hS.cl
  have e2 := hS.row f.toNat (by omega)
  exact then_c
def FaultR (c : Cat) (H : GHeap) : Value → GHeap → Prop := fun v H' => H = H' ∧ ∃ kd b1 b2 b3 : Int, v = .tuple #[.int .i64 kd, .int .i64 b1, .int .i64 b2, .int .i64 b3] ∧ (kd = 0 ↔ c.Laws)
theorem fault_c {g o : Nat} {c : Cat} {p : CatP} {H : GHeap} (h : Cat.At H g o c p := by assumption) (hS : c.Shape := by assumption) : GCalls Try.prog 101 [.pointer (some ⟨g, o, none⟩)] H (FaultR c H) := by
  refine GCalls.body (N := 102) (rs := [.tmp 2, .tmp 3, .tmp 4, .tmp 5]) Try.func101 rfl rfl rfl rfl (fun Qx hret hend => ?_)
  refine .forget (fr' := [(0, some _)]) ⟨rfl, trivial⟩ ?_
  obtain ⟨c0, c1, c2, c3, c4, i1, i2, i3, i4⟩ := h.get
  have e1 := hS.tl
  have e2 := hS.n40
  have e3 := hS.il
  have e4 := hS.obj
  refine .seq (fun K1 hK1 => ?_)
  refine .region ?_
  refine .m rfl rfl rfl (.assign rfl) ?_
  refine .m rfl rfl rfl (.assign rfl) ?_
  refine .m rfl rfl rfl (.assign rfl) ?_
  refine .m rfl rfl rfl (.assign rfl) ?_
  refine .nil ?_
  refine hK1 _ _ ?_
  refine .seq (fun K2 hK2 => ?_)
  refine .region ?_
  refine .m rfl rfl rfl (.move rfl) ?_
  refine .callQ rfl rfl rfl rfl @Try.call97 rfl (arrows_c) ?_
  refine .m rfl rfl rfl (.assign rfl) ?_
  refine .nil ?_
  refine hK2 _ _ ?_
  refine .seq (fun K3 hK3 => ?_)
  refine .seq (fun K4 hK4 => ?_)
  refine .region ?_
  refine .m rfl rfl rfl (.assign rfl) ?_
  refine .nil ?_
  refine hK4 _ _ ?_
  refine .block ?_
  refine .loopR (σ := Nat) [(0, some _), (6, some _)] (fun k => [(7, some (.int .i64 (k : Int)))]) (fun k H' => H = H' ∧ k ≤ c.src.length ∧ ∀ x, x < k → c.IdOk x) (fun k => c.src.length - k) (0) ⟨rfl, rfl, trivial⟩ ⟨rfl, trivial⟩ ?_ ?_
  ·
   refine ⟨rfl, ?_⟩
   exact ⟨by omega, fun x hx => by omega⟩
  ·
   rintro k _ ⟨rfl, hI⟩ KL1 hKL1
   refine .forget (fr' := [(7, some (.int .i64 (k : Int))), (0, some _), (6, some _)]) ⟨rfl, rfl, rfl, trivial⟩ ?_
   obtain ⟨hk1, ha1⟩ := hI
   refine .seq (fun K5 hK5 => ?_)
   refine .seq (fun K6 hK6 => ?_)
   refine .region ?_
   refine .m rfl rfl rfl (.move rfl) ?_
   refine .m rfl rfl rfl (.move rfl) ?_
   refine .m rfl rfl rfl (.cmp rfl rfl rfl) ?_
   refine .nil ?_
   refine hK6 _ _ ?_
   refine .cond rfl (fun h15 => ?_) (fun h15 => ?_)
   ·
    simp only [decide_eq_true_eq] at h15
    have q1 := hS.src k (by omega)
    have q2 := hS.tgt k (by omega)
    have q3 := hS.idn_lt q1.1 q1.2
    have q4 := hS.idn_lt q2.1 q2.2
    refine .skip ?_
    refine hK5 _ _ ?_
    refine .seq (fun K7 hK7 => ?_)
    refine .block ?_
    refine .seq (fun K8 hK8 => ?_)
    refine .regionD mixed_orders_B (.q 0 (.q 1 (.q 2 (.q 3 (.q 4 (.q 5 (.q 6 (.q 7 (.q 8 (.q 9 (.q 10 (.q 11 (.q 12 (.q 13 (.q 14 (.q 16 (.c 15 1 (.q 17 (.q 18 (.q 19 (.q 20 (.q 21 (.q 22 (.q 23 (.q 24 (.q 25 (.q 26 (.q 27 (.q 28 (.q 29 (.q 30 (.q 31 (.q 32 (.q 33 (.q 35 (.c 34 1 (.q 36 (.q 37 (.done))))))))))))))))))))))))))))))))))))))) (by kernel_rfl) ?_
    refine .m rfl rfl rfl rfl (.refl _) (.move rfl) ?_
    refine .m rfl rfl rfl rfl (.refl _) (.move rfl) ?_
    refine .m rfl rfl rfl rfl (.refl _) (.nilCheck rfl) ?_
    refine .m rfl rfl rfl rfl (.refl _) (.fieldAddr fo_37_3_B rfl) ?_
    refine .m rfl rfl rfl rfl (.refl _) (.load on_22_B rfl (by assumption)) ?_
    refine .m rfl rfl rfl rfl (.refl _) (.move rfl) ?_
    refine .m rfl rfl rfl rfl (.refl _) (.nilCheck rfl) ?_
    refine .m rfl rfl rfl rfl (.refl _) (.fieldAddr fo_37_1_B rfl) ?_
    refine .m rfl rfl rfl rfl (.refl _) (.load on_22_B rfl (by assumption)) ?_
    refine .m rfl rfl rfl rfl (.refl _) (.move rfl) ?_
    refine .m rfl rfl rfl rfl (.refl _) (.idxN sl_22_A (by assumption) rfl rfl (by omega)) ?_
    refine .m rfl rfl rfl rfl (.refl _) (.loadI on_2_A (by assumption) rfl (by omega)) ?_
    refine .m rfl rfl rfl rfl (.refl _) (.idx1 sl_22_A (by assumption) rfl rfl (by omega) (by omega)) ?_
    refine .m rfl rfl rfl rfl (.refl _) (.loadI on_2_A (by assumption) rfl (by omega)) ?_
    refine .m rfl rfl rfl rfl (.refl _) (.move rfl) ?_
    refine .m rfl rfl rfl rfl (.refl _) (.move rfl) ?_
    refine .callQ1 rfl rfl rfl rfl rfl @Try.call104 rfl (then_s) (.refl _) ?_
    refine .m rfl rfl rfl rfl (.refl _) (.cmp rfl rfl rfl) ?_
    refine .m rfl rfl rfl rfl (.refl _) (.move rfl) ?_
    refine .split (fun h36 => ?_) (fun h36 => ?_)
    ·
     try simp only [sps] at h36
     refine .sg rfl rfl rfl rfl rfl rfl ?_
     refine .sg rfl rfl rfl rfl rfl rfl ?_
     refine .sg rfl rfl rfl rfl rfl rfl ?_
     refine .sg rfl rfl rfl rfl rfl rfl ?_
     refine .sg rfl rfl rfl rfl rfl rfl ?_
     refine .sg rfl rfl rfl rfl rfl rfl ?_
     refine .sg rfl rfl rfl rfl rfl rfl ?_
     refine .sg rfl rfl rfl rfl rfl rfl ?_
     refine .sg rfl rfl rfl rfl rfl rfl ?_
     refine .sg rfl rfl rfl rfl rfl rfl ?_
     refine .sg rfl rfl rfl rfl rfl rfl ?_
     refine .sg rfl rfl rfl rfl rfl rfl ?_
     refine .sg rfl rfl rfl rfl rfl rfl ?_
     refine .sg rfl rfl rfl rfl rfl rfl ?_
     refine .sg rfl rfl rfl rfl rfl rfl ?_
     refine .sg rfl rfl rfl rfl rfl rfl ?_
     refine .sgc rfl rfl rfl rfl rfl rfl ?_
     refine .sg rfl rfl rfl rfl rfl rfl ?_
     refine .m rfl rfl rfl rfl (.refl _) (.pickT rfl rfl) ?_
     refine .done ?_
     refine hK8 _ _ ?_
     refine .condT rfl ?_
     refine .seq (fun K9 hK9 => ?_)
     refine .region ?_
     refine .m rfl rfl rfl (.move rfl) ?_
     refine .m rfl rfl rfl (.assign rfl) ?_
     refine .m rfl rfl rfl (.assign rfl) ?_
     refine .m rfl rfl rfl (.assign rfl) ?_
     refine .m rfl rfl rfl (.assign rfl) ?_
     refine .nil ?_
     refine hK9 _ _ ?_
     refine .ret ?_
     -- leaf e1
     refine hret _ _ ?_
     refine ⟨_, _, _, _, rfl, rfl, rfl, rfl, ?_⟩
     exact ⟨rfl, _, _, _, _, rfl, fun e => by omega, fun hL => absurd (hL.ids k (by omega)).1 h36⟩
    ·
     try simp only [sps] at h36
     refine .mg rfl rfl rfl rfl rfl rfl (.refl _) (.move rfl) ?_
     refine .mg rfl rfl rfl rfl rfl rfl (.refl _) (.move rfl) ?_
     refine .mg rfl rfl rfl rfl rfl rfl (.refl _) (.move rfl) ?_
     refine .mg rfl rfl rfl rfl rfl rfl (.refl _) (.nilCheck rfl) ?_
     refine .mg rfl rfl rfl rfl rfl rfl (.refl _) (.fieldAddr fo_37_3_B rfl) ?_
     refine .mg rfl rfl rfl rfl rfl rfl (.refl _) (.load on_22_B rfl (by assumption)) ?_
     refine .mg rfl rfl rfl rfl rfl rfl (.refl _) (.move rfl) ?_
     refine .mg rfl rfl rfl rfl rfl rfl (.refl _) (.nilCheck rfl) ?_
     refine .mg rfl rfl rfl rfl rfl rfl (.refl _) (.fieldAddr fo_37_2_B rfl) ?_
     refine .mg rfl rfl rfl rfl rfl rfl (.refl _) (.load on_22_B rfl (by assumption)) ?_
     refine .mg rfl rfl rfl rfl rfl rfl (.refl _) (.move rfl) ?_
     refine .mg rfl rfl rfl rfl rfl rfl (.refl _) (.idxN sl_22_A (by assumption) rfl rfl (by omega)) ?_
     refine .mg rfl rfl rfl rfl rfl rfl (.refl _) (.loadI on_2_A (by assumption) rfl (by omega)) ?_
     refine .mg rfl rfl rfl rfl rfl rfl (.refl _) (.idx1 sl_22_A (by assumption) rfl rfl (by omega) (by omega)) ?_
     refine .mg rfl rfl rfl rfl rfl rfl (.refl _) (.loadI on_2_A (by assumption) rfl (by omega)) ?_
     refine .mg rfl rfl rfl rfl rfl rfl (.refl _) (.move rfl) ?_
     refine .callQ1g rfl rfl rfl rfl rfl rfl rfl @Try.call104 rfl (then_s) (.refl _) ?_
     refine .mg rfl rfl rfl rfl rfl rfl (.refl _) (.cmp rfl rfl rfl) ?_
     refine .m rfl rfl rfl rfl (.refl _) (.pickF rfl rfl) ?_
     refine .done ?_
     refine hK8 _ _ ?_
     refine .cond rfl (fun h55 => ?_) (fun h55 => ?_)
     ·
      try simp only [sps] at h55
      refine .seq (fun K10 hK10 => ?_)
      refine .region ?_
      refine .m rfl rfl rfl (.move rfl) ?_
      refine .m rfl rfl rfl (.assign rfl) ?_
      refine .m rfl rfl rfl (.assign rfl) ?_
      refine .m rfl rfl rfl (.assign rfl) ?_
      refine .m rfl rfl rfl (.assign rfl) ?_
      refine .nil ?_
      refine hK10 _ _ ?_
      refine .ret ?_
      -- leaf e2
      refine hret _ _ ?_
      refine ⟨_, _, _, _, rfl, rfl, rfl, rfl, ?_⟩
      exact ⟨rfl, _, _, _, _, rfl, fun e => by omega, fun hL => absurd (hL.ids k (by omega)).2 h55⟩
     ·
      try simp only [sps] at h55
      refine .skip ?_
      refine hK7 _ _ ?_
      refine .region ?_
      refine .m rfl rfl rfl (.move rfl) ?_
      refine .m rfl rfl rfl (.add rfl rfl rfl (by omega) (by omega)) ?_
      refine .m rfl rfl rfl (.assign rfl) ?_
      refine .nil ?_
      refine hKL1 (k + 1) _ _ ?_ ?_ ⟨rfl, rfl, rfl, trivial⟩
      ·
       refine ⟨rfl, ?_⟩
       refine ⟨by omega, fun x hx => ?_⟩
       by_cases e : x < k
       · exact ha1 x e
       · obtain rfl : x = k := by omega
         exact ⟨h36, h55⟩
      ·
       omega
   ·
    try simp only [sps] at h15
    refine .exit ?_
    refine hK3 _ _ ?_
    refine .seq (fun K11 hK11 => ?_)
    refine .seq (fun K12 hK12 => ?_)
    refine .region ?_
    refine .m rfl rfl rfl (.assign rfl) ?_
    refine .nil ?_
    refine hK12 _ _ ?_
    refine .block ?_
    refine .loopR (σ := Nat) [(0, some _), (6, some _)] (fun k => [(8, some (.int .i64 (k : Int)))]) (fun k H' => H = H' ∧ k ≤ c.src.length ∧ ∀ f, f < k → ∀ g, g < c.src.length → c.tgt.getD f 0 = c.src.getD g 0 → ∀ h, h < c.src.length → c.tgt.getD g 0 = c.src.getD h 0 → c.th (c.th f g) h = c.th f (c.th g h)) (fun k => c.src.length - k) (0) ⟨rfl, rfl, trivial⟩ ⟨rfl, trivial⟩ ?_ ?_
    ·
     refine ⟨rfl, ?_⟩
     exact ⟨by omega, fun x hx => by omega⟩
    ·
     rintro k _ ⟨rfl, hI⟩ KL2 hKL2
     refine .forget (fr' := [(8, some (.int .i64 (k : Int))), (0, some _), (6, some _)]) ⟨rfl, rfl, rfl, trivial⟩ ?_
     obtain ⟨hk2, ha2⟩ := hI
     refine .seq (fun K13 hK13 => ?_)
     refine .seq (fun K14 hK14 => ?_)
     refine .region ?_
     refine .m rfl rfl rfl (.move rfl) ?_
     refine .m rfl rfl rfl (.move rfl) ?_
     refine .m rfl rfl rfl (.cmp rfl rfl rfl) ?_
     refine .nil ?_
     refine hK14 _ _ ?_
     refine .cond rfl (fun h59 => ?_) (fun h59 => ?_)
     ·
      try simp only [sps] at h59
      refine .skip ?_
      refine hK13 _ _ ?_
      refine .seq (fun K15 hK15 => ?_)
      refine .block ?_
      refine .seq (fun K16 hK16 => ?_)
      refine .region ?_
      refine .m rfl rfl rfl (.assign rfl) ?_
      refine .nil ?_
      refine hK16 _ _ ?_
      refine .block ?_
      refine .loopR (σ := Nat) [(0, some _), (6, some _), (8, some _)] (fun j => [(9, some (.int .i64 (j : Int)))]) (fun j H' => H = H' ∧ j ≤ c.src.length ∧ ∀ g, g < j → c.tgt.getD k 0 = c.src.getD g 0 → ∀ h, h < c.src.length → c.tgt.getD g 0 = c.src.getD h 0 → c.th (c.th k g) h = c.th k (c.th g h)) (fun j => c.src.length - j) (0) ⟨rfl, rfl, rfl, trivial⟩ ⟨rfl, trivial⟩ ?_ ?_
      ·
       refine ⟨rfl, ?_⟩
       exact ⟨by omega, fun x hx => by omega⟩
      ·
       rintro j _ ⟨rfl, hI⟩ KL3 hKL3
       refine .forget (fr' := [(9, some (.int .i64 (j : Int))), (0, some _), (6, some _), (8, some _)]) ⟨rfl, rfl, rfl, rfl, trivial⟩ ?_
       obtain ⟨hk3, ha3⟩ := hI
       refine .seq (fun K17 hK17 => ?_)
       refine .seq (fun K18 hK18 => ?_)
       refine .region ?_
       refine .m rfl rfl rfl (.move rfl) ?_
       refine .m rfl rfl rfl (.move rfl) ?_
       refine .m rfl rfl rfl (.cmp rfl rfl rfl) ?_
       refine .nil ?_
       refine hK18 _ _ ?_
       refine .cond rfl (fun h64 => ?_) (fun h64 => ?_)
       ·
        try simp only [sps] at h64
        refine .skip ?_
        refine hK17 _ _ ?_
        refine .seq (fun K19 hK19 => ?_)
        refine .block ?_
        refine .seq (fun K20 hK20 => ?_)
        refine .seq (fun K21 hK21 => ?_)
        refine .region ?_
        refine .m rfl rfl rfl (.move rfl) ?_
        refine .m rfl rfl rfl (.move rfl) ?_
        refine .m rfl rfl rfl (.move rfl) ?_
        refine .callQ rfl rfl rfl rfl @Try.call104 rfl (then_s) ?_
        refine .m rfl rfl rfl (.cmp rfl rfl rfl) ?_
        refine .nil ?_
        refine hK21 _ _ ?_
        refine .cond rfl (fun h71 => ?_) (fun h71 => ?_)
        ·
         try simp only [sps] at h71
         refine .exit ?_
         refine hK19 _ _ ?_
         refine .region ?_
         refine .m rfl rfl rfl (.move rfl) ?_
         refine .m rfl rfl rfl (.add rfl rfl rfl (by omega) (by omega)) ?_
         refine .m rfl rfl rfl (.assign rfl) ?_
         refine .nil ?_
         refine hKL3 (j + 1) _ _ ?_ ?_ ⟨rfl, rfl, rfl, rfl, trivial⟩
         ·
          refine ⟨rfl, ?_⟩
          refine ⟨by omega, fun x hx => ?_⟩
          by_cases e : x < j
          · exact ha3 x e
          · obtain rfl : x = j := by omega
            first
              | exact fun e => absurd ((hS.th_ge (by omega) (by omega)).2 e) (by omega)
              | exact fun _ h hh => ha4 h (by omega)
         ·
          omega
        ·
         simp only [decide_eq_false_iff_not] at h71
         have q5 := hS.th_lt (f := k) (g := j) (by omega) (by omega)
         have q6 := (hS.th_ge (f := k) (g := j) (by omega) (by omega)).1 (by omega)
         refine .skip ?_
         refine hK20 _ _ ?_
         refine .seq (fun K22 hK22 => ?_)
         refine .region ?_
         refine .m rfl rfl rfl (.assign rfl) ?_
         refine .nil ?_
         refine hK22 _ _ ?_
         refine .block ?_
         refine .loopR (σ := Nat) [(0, some _), (6, some _), (8, some _), (9, some _)] (fun i => [(10, some (.int .i64 (i : Int)))]) (fun i H' => H = H' ∧ i ≤ c.src.length ∧ ∀ h, h < i → c.tgt.getD j 0 = c.src.getD h 0 → c.th (c.th k j) h = c.th k (c.th j h)) (fun i => c.src.length - i) (0) ⟨rfl, rfl, rfl, rfl, trivial⟩ ⟨rfl, trivial⟩ ?_ ?_
         ·
          refine ⟨rfl, ?_⟩
          exact ⟨by omega, fun x hx => by omega⟩
         ·
          rintro i _ ⟨rfl, hI⟩ KL4 hKL4
          refine .forget (fr' := [(10, some (.int .i64 (i : Int))), (0, some _), (6, some _), (8, some _), (9, some _)]) ⟨rfl, rfl, rfl, rfl, rfl, trivial⟩ ?_
          obtain ⟨hk4, ha4⟩ := hI
          refine .seq (fun K23 hK23 => ?_)
          refine .seq (fun K24 hK24 => ?_)
          refine .region ?_
          refine .m rfl rfl rfl (.move rfl) ?_
          refine .m rfl rfl rfl (.move rfl) ?_
          refine .m rfl rfl rfl (.cmp rfl rfl rfl) ?_
          refine .nil ?_
          refine hK24 _ _ ?_
          refine .cond rfl (fun h74 => ?_) (fun h74 => ?_)
          ·
           try simp only [sps] at h74
           refine .skip ?_
           refine hK23 _ _ ?_
           refine .seq (fun K25 hK25 => ?_)
           refine .block ?_
           refine .seq (fun K26 hK26 => ?_)
           refine .region ?_
           refine .m rfl rfl rfl (.move rfl) ?_
           refine .m rfl rfl rfl (.move rfl) ?_
           refine .m rfl rfl rfl (.move rfl) ?_
           refine .callQ rfl rfl rfl rfl @Try.call104 rfl (then_s) ?_
           refine .m rfl rfl rfl (.cmp rfl rfl rfl) ?_
           refine .m rfl rfl rfl (.move rfl) ?_
           refine .split (fun h82 => ?_) (fun h82 => ?_)
           ·
            simp only [decide_eq_true_eq, ge_iff_le] at h82
            have q7 := hS.th_lt (f := j) (g := i) (by omega) (by omega)
            have q8 := (hS.th_ge (f := j) (g := i) (by omega) (by omega)).1 (by omega)
            refine .mg rfl rfl rfl rfl rfl (.move rfl) ?_
            refine .mg rfl rfl rfl rfl rfl (.move rfl) ?_
            refine .mg rfl rfl rfl rfl rfl (.move rfl) ?_
            refine .mg rfl rfl rfl rfl rfl (.move rfl) ?_
            refine .callQg rfl rfl rfl rfl rfl rfl @Try.call104 rfl (then_s) ?_
            refine .mg rfl rfl rfl rfl rfl (.move rfl) ?_
            refine .callQg rfl rfl rfl rfl rfl rfl @Try.call104 rfl (then_s) ?_
            refine .mg rfl rfl rfl rfl rfl (.move rfl) ?_
            refine .mg rfl rfl rfl rfl rfl (.move rfl) ?_
            refine .mg rfl rfl rfl rfl rfl (.move rfl) ?_
            refine .mg rfl rfl rfl rfl rfl (.move rfl) ?_
            refine .mg rfl rfl rfl rfl rfl (.move rfl) ?_
            refine .callQg rfl rfl rfl rfl rfl rfl @Try.call104 rfl (then_s) ?_
            refine .callQg rfl rfl rfl rfl rfl rfl @Try.call104 rfl (then_s) ?_
            refine .mg rfl rfl rfl rfl rfl (.cmp rfl rfl rfl) ?_
            refine .m rfl rfl rfl (.pickT rfl rfl) ?_
            refine .nil ?_
            refine hK26 _ _ ?_
            refine .cond rfl (fun h98 => ?_) (fun h98 => ?_)
            ·
             try simp only [sps] at h98
             refine .seq (fun K27 hK27 => ?_)
             refine .region ?_
             refine .m rfl rfl rfl (.move rfl) ?_
             refine .m rfl rfl rfl (.move rfl) ?_
             refine .m rfl rfl rfl (.move rfl) ?_
             refine .m rfl rfl rfl (.assign rfl) ?_
             refine .m rfl rfl rfl (.assign rfl) ?_
             refine .m rfl rfl rfl (.assign rfl) ?_
             refine .m rfl rfl rfl (.assign rfl) ?_
             refine .nil ?_
             refine hK27 _ _ ?_
             refine .ret ?_
             -- leaf e3
             refine hret _ _ ?_
             refine ⟨_, _, _, _, rfl, rfl, rfl, rfl, ?_⟩
             exact ⟨rfl, _, _, _, _, rfl, fun e => by omega, fun hL => absurd (hL.as k (by omega) j (by omega) q6 i (by omega) q8) h98⟩
            ·
             try simp only [sps] at h98
             refine .skip ?_
             refine hK25 _ _ ?_
             refine .region ?_
             refine .m rfl rfl rfl (.move rfl) ?_
             refine .m rfl rfl rfl (.add rfl rfl rfl (by omega) (by omega)) ?_
             refine .m rfl rfl rfl (.assign rfl) ?_
             refine .nil ?_
             refine hKL4 (i + 1) _ _ ?_ ?_ ⟨rfl, rfl, rfl, rfl, rfl, trivial⟩
             ·
              refine ⟨rfl, ?_⟩
              refine ⟨by omega, fun x hx => ?_⟩
              by_cases e : x < i
              · exact ha4 x e
              · obtain rfl : x = i := by omega
                first
                  | exact fun e => absurd ((hS.th_ge (by omega) (by omega)).2 e) (by omega)
                  | exact fun _ => h98
             ·
              omega
           ·
            try simp only [sps] at h82
            refine .sg rfl rfl rfl rfl rfl ?_
            refine .sg rfl rfl rfl rfl rfl ?_
            refine .sg rfl rfl rfl rfl rfl ?_
            refine .sg rfl rfl rfl rfl rfl ?_
            refine .sg rfl rfl rfl rfl rfl ?_
            refine .sg rfl rfl rfl rfl rfl ?_
            refine .sg rfl rfl rfl rfl rfl ?_
            refine .sg rfl rfl rfl rfl rfl ?_
            refine .sg rfl rfl rfl rfl rfl ?_
            refine .sg rfl rfl rfl rfl rfl ?_
            refine .sg rfl rfl rfl rfl rfl ?_
            refine .sg rfl rfl rfl rfl rfl ?_
            refine .sg rfl rfl rfl rfl rfl ?_
            refine .sg rfl rfl rfl rfl rfl ?_
            refine .sg rfl rfl rfl rfl rfl ?_
            refine .m rfl rfl rfl (.pickF rfl rfl) ?_
            refine .nil ?_
            refine hK26 _ _ ?_
            refine .condF rfl ?_
            refine .skip ?_
            refine hK25 _ _ ?_
            refine .region ?_
            refine .m rfl rfl rfl (.move rfl) ?_
            refine .m rfl rfl rfl (.add rfl rfl rfl (by omega) (by omega)) ?_
            refine .m rfl rfl rfl (.assign rfl) ?_
            refine .nil ?_
            refine hKL4 (i + 1) _ _ ?_ ?_ ⟨rfl, rfl, rfl, rfl, rfl, trivial⟩
            ·
             refine ⟨rfl, ?_⟩
             refine ⟨by omega, fun x hx => ?_⟩
             by_cases e : x < i
             · exact ha4 x e
             · obtain rfl : x = i := by omega
               first
                 | exact fun e => absurd ((hS.th_ge (by omega) (by omega)).2 e) (by omega)
                 | exact fun _ => h98
            ·
             omega
          ·
           try simp only [sps] at h74
           refine .exit ?_
           refine hK19 _ _ ?_
           refine .region ?_
           refine .m rfl rfl rfl (.move rfl) ?_
           refine .m rfl rfl rfl (.add rfl rfl rfl (by omega) (by omega)) ?_
           refine .m rfl rfl rfl (.assign rfl) ?_
           refine .nil ?_
           refine hKL3 (j + 1) _ _ ?_ ?_ ⟨rfl, rfl, rfl, rfl, trivial⟩
           ·
            refine ⟨rfl, ?_⟩
            refine ⟨by omega, fun x hx => ?_⟩
            by_cases e : x < j
            · exact ha3 x e
            · obtain rfl : x = j := by omega
              first
                | exact fun e => absurd ((hS.th_ge (by omega) (by omega)).2 e) (by omega)
                | exact fun _ h hh => ha4 h (by omega)
           ·
            omega
       ·
        try simp only [sps] at h64
        refine .exit ?_
        refine hK15 _ _ ?_
        refine .region ?_
        refine .m rfl rfl rfl (.move rfl) ?_
        refine .m rfl rfl rfl (.add rfl rfl rfl (by omega) (by omega)) ?_
        refine .m rfl rfl rfl (.assign rfl) ?_
        refine .nil ?_
        refine hKL2 (k + 1) _ _ ?_ ?_ ⟨rfl, rfl, rfl, trivial⟩
        ·
         refine ⟨rfl, ?_⟩
         refine ⟨by omega, fun x hx => ?_⟩
         by_cases e : x < k
         · exact ha2 x e
         · obtain rfl : x = k := by omega
           exact fun g hg => ha3 g (by omega)
        ·
         omega
     ·
      try simp only [sps] at h59
      refine .exit ?_
      refine hK11 _ _ ?_
      refine .seq (fun K28 hK28 => ?_)
      refine .region ?_
      refine .m rfl rfl rfl (.assign rfl) ?_
      refine .m rfl rfl rfl (.assign rfl) ?_
      refine .m rfl rfl rfl (.assign rfl) ?_
      refine .m rfl rfl rfl (.assign rfl) ?_
      refine .nil ?_
      refine hK28 _ _ ?_
      refine .ret ?_
      -- leaf e4
      refine hret _ _ ?_
      refine ⟨_, _, _, _, rfl, rfl, rfl, rfl, ?_⟩
      exact ⟨rfl, _, _, _, _, rfl, fun _ => ⟨fun f hf => ha1 f (by omega), fun f hf => ha2 f (by omega)⟩, fun _ => rfl⟩
theorem isCategory_c {g o : Nat} {c : Cat} {p : CatP} {H : GHeap} (h : Cat.At H g o c p := by assumption) (hs : c.Small := by assumption) : GCalls Try.prog 96 [.pointer (some ⟨g, o, none⟩)] H (Ret (.bool (B c.Is)) H) := by
  refine GCalls.body (N := 19) (rs := [.tmp 2]) Try.func96 rfl rfl rfl rfl (fun Qx hret hend => ?_)
  refine .forget (fr' := [(0, some _)]) ⟨rfl, trivial⟩ ?_
  refine .seq (fun K1 hK1 => ?_)
  refine .region ?_
  refine .m rfl rfl rfl (.assign rfl) ?_
  refine .nil ?_
  refine hK1 _ _ ?_
  refine .seq (fun K2 hK2 => ?_)
  refine .seq (fun K3 hK3 => ?_)
  refine .region ?_
  refine .m rfl rfl rfl (.move rfl) ?_
  refine .callQ rfl rfl rfl rfl @Try.call100 rfl (isShape_c) ?_
  refine .m rfl rfl rfl (.not rfl) ?_
  refine .nil ?_
  refine hK3 _ _ ?_
  refine .cond rfl (fun h9 => ?_) (fun h9 => ?_)
  ·
   try simp only [sps] at h9
   refine .seq (fun K4 hK4 => ?_)
   refine .region ?_
   refine .m rfl rfl rfl (.assign rfl) ?_
   refine .nil ?_
   refine hK4 _ _ ?_
   refine .ret ?_
   -- leaf e1
   refine hret _ _ ?_
   refine ⟨_, rfl, ?_⟩
   exact .of (congrArg _ (B_false fun hI => h9 hI.1))
  ·
   try simp only [sps] at h9
   refine .skip ?_
   refine hK2 _ _ ?_
   refine .seq (fun K5 hK5 => ?_)
   refine .region ?_
   refine .m rfl rfl rfl (.move rfl) ?_
   refine .call rfl rfl rfl rfl @Try.call101 rfl (fault_c) ?_
   rintro _ _ ⟨rfl, kd, b1, b2, b3, rfl, hkd⟩
   refine .m rfl rfl rfl (.move rfl) ?_
   refine .m rfl rfl rfl (.extract rfl rfl) ?_
   refine .m rfl rfl rfl (.extract rfl rfl) ?_
   refine .m rfl rfl rfl (.extract rfl rfl) ?_
   refine .m rfl rfl rfl (.extract rfl rfl) ?_
   refine .m rfl rfl rfl (.assign rfl) ?_
   refine .m rfl rfl rfl (.assign rfl) ?_
   refine .m rfl rfl rfl (.assign rfl) ?_
   refine .m rfl rfl rfl (.assign rfl) ?_
   refine .nil ?_
   refine hK5 _ _ ?_
   refine .seq (fun K6 hK6 => ?_)
   refine .region ?_
   refine .m rfl rfl rfl (.move rfl) ?_
   refine .m rfl rfl rfl (.cmp rfl rfl rfl) ?_
   refine .m rfl rfl rfl (.assign rfl) ?_
   refine .nil ?_
   refine hK6 _ _ ?_
   refine .ret ?_
   -- leaf e2
   refine hret _ _ ?_
   refine ⟨_, rfl, ?_⟩
   exact .of (congrArg _ (by rw [Bool.eq_iff_iff, B_iff, beq_iff_eq, hkd]; exact ⟨fun h => h.2, fun h => ⟨h9, h⟩⟩))
end Go.Proofs.Ytbpehbbdodahaaa
