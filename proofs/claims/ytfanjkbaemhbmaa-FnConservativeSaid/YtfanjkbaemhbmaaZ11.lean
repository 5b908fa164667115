/- Opposites. No condition but those of each statement. -/
import Derived.Test.YtfanjkbaemhbmaaZ10
namespace Go.Proofs.Ytfanjkbaemhbmaa
open Go Go.GL Go.RowKit Go.Proofs
set_option maxHeartbeats 8000000 in
theorem l03Op_c {c : Cat} {p : CatP} {N : Nat} {H : GHeap} (hin : c.In H p := by assumption) (hr : c.Rect N) (hN : N ≤ 100000) :
    GCalls Try.prog 125 [.agg (c.cells p).toArray] H (NewCatO 2 24 H c.op) := by
  obtain ⟨_, _, b3, -, -, _, -, _, b9, -⟩ := id hr
  refine GCalls.body (N := 53) (rs := [.cell 2 27]) Try.func125 rfl rfl rfl rfl (fun Qx aJ hend => ?_)
  refine .fg [0] rfl ?_
  have l := GHeap.Le.refl H
  have d := hin
  refine .seq (fun K1 bE => .region ?_)
  refine .R rfl (.boxR rfl sz_27_D rfl) ?_
  rintro _ _ ⟨g1, rfl, bR, _, m⟩
  replace l := l.trans bR
  have _ := GHeap.ltg m
  replace hin := d.mono l
  have u : Cat.At _ g1 0 c p := ⟨Mem.of_get m, hin⟩
  refine .R rfl (.allocR rfl ze_27_I rfl) ?_
  rintro _ H2 ⟨_, rfl, aY, _, w9⟩
  replace l := l.trans aY
  replace m := aY.2 _ _ m
  have _ := GHeap.ltg w9
  replace hin := d.mono l
  clear u
  have u : Cat.At _ g1 0 c p := ⟨Mem.of_get m, hin⟩
  obtain ⟨bF, x6, bC, bL, -, -, u3, -, -⟩ := u.get
  refine .nil (bE _ _ (.seq (fun K2 bK => ?_)))
  refine .regionD mo_B (.qs [0, 1, 2, 3, 5, 6, 8, 9] (.or (.c 4 1 (.or (.c 7 1 (.or (.c 10 1 (.or (.c 11 1 (.q 12 (.c 13 1 (.c 14 1 (.done))))) (.c 13 1 (.c 11 1 (.q 12 (.c 14 1 (.done))))))) (.or (.c 11 1 (.or (.c 10 1 (.q 12 (.c 13 1 (.c 14 1 (.done))))) (.c 13 1 (.c 10 1 (.q 12 (.c 14 1 (.done))))))) (.c 13 1 (.or (.c 10 1 (.c 11 1 (.q 12 (.c 14 1 (.done))))) (.c 11 1 (.c 10 1 (.q 12 (.c 14 1 (.done)))))))))) (.or (.c 11 1 (.or (.c 7 1 (.or (.c 10 1 (.q 12 (.c 13 1 (.c 14 1 (.done))))) (.c 13 1 (.c 10 1 (.q 12 (.c 14 1 (.done))))))) (.c 13 1 (.c 7 1 (.c 10 1 (.q 12 (.c 14 1 (.done)))))))) (.c 13 1 (.or (.c 7 1 (.or (.c 10 1 (.c 11 1 (.q 12 (.c 14 1 (.done))))) (.c 11 1 (.c 10 1 (.q 12 (.c 14 1 (.done))))))) (.c 11 1 (.c 7 1 (.c 10 1 (.q 12 (.c 14 1 (.done))))))))))) (.or (.c 11 1 (.or (.c 4 1 (.or (.c 7 1 (.or (.c 10 1 (.q 12 (.c 13 1 (.c 14 1 (.done))))) (.c 13 1 (.c 10 1 (.q 12 (.c 14 1 (.done))))))) (.c 13 1 (.c 7 1 (.c 10 1 (.q 12 (.c 14 1 (.done)))))))) (.c 13 1 (.c 4 1 (.c 7 1 (.c 10 1 (.q 12 (.c 14 1 (.done))))))))) (.c 13 1 (.or (.c 4 1 (.or (.c 7 1 (.or (.c 10 1 (.c 11 1 (.q 12 (.c 14 1 (.done))))) (.c 11 1 (.c 10 1 (.q 12 (.c 14 1 (.done))))))) (.c 11 1 (.c 7 1 (.c 10 1 (.q 12 (.c 14 1 (.done)))))))) (.c 11 1 (.c 4 1 (.c 7 1 (.c 10 1 (.q 12 (.c 14 1 (.done)))))))))))) (by kernel_rfl) ?_
  refine .cut [(0, some _), (1, some _), (2, some _)] (.p rfl) (fun rest fr' H' => ∃ t6 t2 s2 s1 g3, Sub ((11, some (.slice (some ⟨t6, 0, none⟩) c.tgt.length c.tgt.length)) :: (14, some (.slice (some ⟨t2, 0, none⟩) c.src.length c.src.length)) :: (17, some (.slice (some ⟨s2, 0, none⟩) c.idn.length c.idn.length)) :: (18, some (.slice (some ⟨s1, 0, none⟩) 0 0)) :: (3, some (.pointer (some ⟨g3, 0, none⟩))) :: rest) fr' ∧ H2.Le H' ∧ H2.next ≤ t6 ∧ H2.next ≤ t2 ∧ H2.next ≤ s2 ∧ H2.next ≤ s1 ∧ H2.next ≤ g3 ∧ H'.get t6 = some (.row (ints c.tgt) 2 true) ∧ H'.get t2 = some (.row (ints c.src) 2 true) ∧ H'.get s2 = some (.row (ints c.idn) 2 true) ∧ H'.get s1 = some (.row ([]) 24 true) ∧ H'.get g3 = some (.row ([.int .i64 c.obj, .slice (some ⟨t6, 0, none⟩) c.tgt.length c.tgt.length, .slice (some ⟨t2, 0, none⟩) c.src.length c.src.length, .slice (some ⟨s2, 0, none⟩) c.idn.length c.idn.length, .slice (some ⟨s1, 0, none⟩) 0 0]) 27 true) ∧ t6 ≠ t2 ∧ t6 ≠ s2 ∧ t6 ≠ s1 ∧ t6 ≠ g3 ∧ t2 ≠ s2 ∧ t2 ≠ s1 ∧ t2 ≠ g3 ∧ s2 ≠ s1 ∧ s2 ≠ g3 ∧ s1 ≠ g3) ?_ ?_
  ·
   have j := GHeap.Le.refl H2
   refine .qB rfl (.refl _) (.fieldAddr fo_27_0_B rfl) (.q rfl (.lA on_2_A rfl) (.qB rfl (.refl _) (.fieldAddr fo_27_2_B rfl) (.q rfl (.lA on_24_B rfl) (.qB rfl (.refl _) (.fieldAddr fo_27_1_B rfl) (.q rfl (.lA on_24_B rfl) (.qB rfl (.refl _) (.fieldAddr fo_27_3_B rfl) (.q rfl (.lA on_24_B rfl) ?_)))))))
   refine .orI ?_ ?_
   ·
    refine .call1 rfl rfl rfl rfl rfl @Try.call108 rfl (l01Own_c) ?_
    rintro _ _ ⟨o2, a5, rfl, b, _⟩
    have e := o2
    refine ⟨e, ?_⟩
    replace l := l.trans o2
    replace m := o2.2 _ _ m
    have _ := GHeap.ltg b
    replace j := j.trans o2
    refine .orI ?_ ?_
    ·
     replace hin := d.mono l
     clear u bF x6 bC bL u3
     have u : Cat.At _ g1 0 c p := ⟨Mem.of_get m, hin⟩
     obtain ⟨-, -, -, -, -, m7, -, -, -⟩ := u.get
     refine .call1 rfl rfl rfl rfl rfl @Try.call108 rfl (l01Own_c) ?_
     rintro _ _ ⟨l8, l0, rfl, i, _⟩
     replace e := e.trans l8
     refine ⟨e, ?_⟩
     replace l := l.trans l8
     replace m := l8.2 _ _ m
     replace b := l8.2 _ _ b
     have _ := GHeap.ltg i
     replace j := j.trans l8
     refine .orI ?_ ?_
     ·
      replace hin := d.mono l
      clear u m7
      have u : Cat.At _ g1 0 c p := ⟨Mem.of_get m, hin⟩
      obtain ⟨-, -, -, -, -, -, -, o8, -⟩ := u.get
      refine .call1 rfl rfl rfl rfl rfl @Try.call108 rfl (l01Own_c) ?_
      rintro _ _ ⟨n9, u6, rfl, z, _⟩
      replace e := e.trans n9
      refine ⟨e, ?_⟩
      replace b := n9.2 _ _ b
      replace i := n9.2 _ _ i
      have _ := GHeap.ltg z
      replace j := j.trans n9
      refine .orI ?_ ?_
      ·
       refine .c1 rfl rfl rfl rfl (.litA rfl sl_25_B ze_24_Hj rfl rfl rfl rfl) ?_
       rintro _ _ ⟨x8, rfl, l6, _, j8⟩
       replace e := e.trans l6
       refine ⟨e, ?_⟩
       replace b := l6.2 _ _ b
       replace i := l6.2 _ _ i
       replace z := l6.2 _ _ z
       have _ := GHeap.ltg j8
       replace j := j.trans l6
       refine .qB rfl e (.build bt_27_Hj rfl rfl rfl) ?_
       refine .c1 rfl rfl rfl rfl (.allocR rfl ze_27_I rfl) ?_
       rintro _ _ ⟨aA, rfl, n3, _, _⟩
       replace e := e.trans n3
       refine ⟨e, ?_⟩
       replace b := n3.2 _ _ b
       replace i := n3.2 _ _ i
       replace z := n3.2 _ _ z
       replace j8 := n3.2 _ _ j8
       replace j := j.trans n3
       refine .r1 rfl rfl rfl (.fillA rfl sz_27_D rfl rfl rfl rfl) ?_
       rintro _ _ ⟨rfl, k1, w7⟩
       replace e := e.st k1 (fun k hk => ⟨by omega, trivial⟩)
       refine ⟨e, ?_⟩
       replace b := k1.s b
       replace i := k1.s i
       replace z := k1.s z
       replace j8 := k1.s j8
       replace j := j.st k1 (fun k hk => ⟨by omega, trivial⟩)
       refine .done ?_
       exact ⟨a5, l0, u6, x8, aA, ⟨rfl, rfl, rfl, rfl, rfl, rfl, rfl, rfl, trivial⟩, j, by omega, by omega, by omega, by omega, by omega, by first | assumption | simpa using b, by first | assumption | simpa using i, by first | assumption | simpa using z, by first | assumption | simpa using j8, by first | assumption | simpa using w7, by omega, by omega, by omega, by omega, by omega, by omega, by omega, by omega, by omega, by omega⟩
      refine .c1 rfl rfl rfl rfl (.allocR rfl ze_27_I rfl) ?_
      rintro _ _ ⟨aK, rfl, p1, _, t1⟩
      replace e := e.trans p1
      refine ⟨e, ?_⟩
      replace b := p1.2 _ _ b
      replace i := p1.2 _ _ i
      replace z := p1.2 _ _ z
      have _ := GHeap.ltg t1
      replace j := j.trans p1
      refine .c1 rfl rfl rfl rfl (.litA rfl sl_25_B ze_24_Hj rfl rfl rfl rfl) ?_
      rintro _ _ ⟨y2, rfl, i8, _, p5⟩
      replace e := e.trans i8
      refine ⟨e, ?_⟩
      replace b := i8.2 _ _ b
      replace i := i8.2 _ _ i
      replace z := i8.2 _ _ z
      replace t1 := i8.2 _ _ t1
      replace j := j.trans i8
      refine .qB rfl e (.build bt_27_Hj rfl rfl rfl) ?_
      refine .r1 rfl rfl rfl (.fillA rfl sz_27_D rfl rfl rfl rfl) ?_
      rintro _ _ ⟨rfl, d2, t5⟩
      replace e := e.st d2 (fun k hk => ⟨by omega, trivial⟩)
      refine ⟨e, ?_⟩
      replace b := d2.s b
      replace i := d2.s i
      replace z := d2.s z
      replace p5 := d2.s p5
      replace j := j.st d2 (fun k hk => ⟨by omega, trivial⟩)
      refine .done ?_
      exact ⟨a5, l0, u6, y2, aK, ⟨rfl, rfl, rfl, rfl, rfl, rfl, rfl, rfl, trivial⟩, j, by omega, by omega, by omega, by omega, by omega, by first | assumption | simpa using b, by first | assumption | simpa using i, by first | assumption | simpa using z, by first | assumption | simpa using p5, by first | assumption | simpa using t5, by omega, by omega, by omega, by omega, by omega, by omega, by omega, by omega, by omega, by omega⟩
     refine .orI ?_ ?_
     ·
      refine .c1 rfl rfl rfl rfl (.litA rfl sl_25_B ze_24_Hj rfl rfl rfl rfl) ?_
      rintro _ _ ⟨u7, rfl, k7, _, a1⟩
      replace e := e.trans k7
      refine ⟨e, ?_⟩
      replace l := l.trans k7
      replace m := k7.2 _ _ m
      replace b := k7.2 _ _ b
      replace i := k7.2 _ _ i
      have _ := GHeap.ltg a1
      replace j := j.trans k7
      refine .orI ?_ ?_
      ·
       replace hin := d.mono l
       have u : Cat.At _ g1 0 c p := ⟨Mem.of_get m, hin⟩
       obtain ⟨-, -, -, -, -, -, -, o8, -⟩ := u.get
       refine .call1 rfl rfl rfl rfl rfl @Try.call108 rfl (l01Own_c) ?_
       rintro _ _ ⟨m1, x4, rfl, k9, _⟩
       replace e := e.trans m1
       refine ⟨e, ?_⟩
       replace b := m1.2 _ _ b
       replace i := m1.2 _ _ i
       replace a1 := m1.2 _ _ a1
       have _ := GHeap.ltg k9
       replace j := j.trans m1
       refine .qB rfl e (.build bt_27_Hj rfl rfl rfl) ?_
       refine .c1 rfl rfl rfl rfl (.allocR rfl ze_27_I rfl) ?_
       rintro _ _ ⟨aE, rfl, m8, _, _⟩
       replace e := e.trans m8
       refine ⟨e, ?_⟩
       replace b := m8.2 _ _ b
       replace i := m8.2 _ _ i
       replace a1 := m8.2 _ _ a1
       replace k9 := m8.2 _ _ k9
       replace j := j.trans m8
       refine .r1 rfl rfl rfl (.fillA rfl sz_27_D rfl rfl rfl rfl) ?_
       rintro _ _ ⟨rfl, d7, s6⟩
       replace e := e.st d7 (fun k hk => ⟨by omega, trivial⟩)
       refine ⟨e, ?_⟩
       replace b := d7.s b
       replace i := d7.s i
       replace a1 := d7.s a1
       replace k9 := d7.s k9
       replace j := j.st d7 (fun k hk => ⟨by omega, trivial⟩)
       refine .done ?_
       exact ⟨a5, l0, x4, u7, aE, ⟨rfl, rfl, rfl, rfl, rfl, rfl, rfl, rfl, trivial⟩, j, by omega, by omega, by omega, by omega, by omega, by first | assumption | simpa using b, by first | assumption | simpa using i, by first | assumption | simpa using k9, by first | assumption | simpa using a1, by first | assumption | simpa using s6, by omega, by omega, by omega, by omega, by omega, by omega, by omega, by omega, by omega, by omega⟩
      refine .c1 rfl rfl rfl rfl (.allocR rfl ze_27_I rfl) ?_
      rintro _ _ ⟨aL, rfl, m5, _, t4⟩
      replace e := e.trans m5
      refine ⟨e, ?_⟩
      replace l := l.trans m5
      replace m := m5.2 _ _ m
      replace b := m5.2 _ _ b
      replace i := m5.2 _ _ i
      replace a1 := m5.2 _ _ a1
      have _ := GHeap.ltg t4
      replace j := j.trans m5
      replace hin := d.mono l
      have u : Cat.At _ g1 0 c p := ⟨Mem.of_get m, hin⟩
      obtain ⟨-, -, -, -, -, -, -, o8, -⟩ := u.get
      refine .call1 rfl rfl rfl rfl rfl @Try.call108 rfl (l01Own_c) ?_
      rintro _ _ ⟨j9, z0, rfl, p3, _⟩
      replace e := e.trans j9
      refine ⟨e, ?_⟩
      replace b := j9.2 _ _ b
      replace i := j9.2 _ _ i
      replace a1 := j9.2 _ _ a1
      replace t4 := j9.2 _ _ t4
      replace j := j.trans j9
      refine .qB rfl e (.build bt_27_Hj rfl rfl rfl) ?_
      refine .r1 rfl rfl rfl (.fillA rfl sz_27_D rfl rfl rfl rfl) ?_
      rintro _ _ ⟨rfl, d5, t3⟩
      replace e := e.st d5 (fun k hk => ⟨by omega, trivial⟩)
      refine ⟨e, ?_⟩
      replace b := d5.s b
      replace i := d5.s i
      replace a1 := d5.s a1
      replace p3 := d5.s p3
      replace j := j.st d5 (fun k hk => ⟨by omega, trivial⟩)
      refine .done ?_
      exact ⟨a5, l0, z0, u7, aL, ⟨rfl, rfl, rfl, rfl, rfl, rfl, rfl, rfl, trivial⟩, j, by omega, by omega, by omega, by omega, by omega, by first | assumption | simpa using b, by first | assumption | simpa using i, by first | assumption | simpa using p3, by first | assumption | simpa using a1, by first | assumption | simpa using t3, by omega, by omega, by omega, by omega, by omega, by omega, by omega, by omega, by omega, by omega⟩
     refine .c1 rfl rfl rfl rfl (.allocR rfl ze_27_I rfl) ?_
     rintro _ _ ⟨q2, rfl, n2, _, i1⟩
     replace e := e.trans n2
     refine ⟨e, ?_⟩
     replace l := l.trans n2
     replace m := n2.2 _ _ m
     replace b := n2.2 _ _ b
     replace i := n2.2 _ _ i
     have _ := GHeap.ltg i1
     replace j := j.trans n2
     refine .orI ?_ ?_
     ·
      replace hin := d.mono l
      have u : Cat.At _ g1 0 c p := ⟨Mem.of_get m, hin⟩
      obtain ⟨-, -, -, -, -, -, -, o8, -⟩ := u.get
      refine .call1 rfl rfl rfl rfl rfl @Try.call108 rfl (l01Own_c) ?_
      rintro _ _ ⟨l9, y9, rfl, j5, _⟩
      replace e := e.trans l9
      refine ⟨e, ?_⟩
      replace b := l9.2 _ _ b
      replace i := l9.2 _ _ i
      replace i1 := l9.2 _ _ i1
      have _ := GHeap.ltg j5
      replace j := j.trans l9
      refine .c1 rfl rfl rfl rfl (.litA rfl sl_25_B ze_24_Hj rfl rfl rfl rfl) ?_
      rintro _ _ ⟨y4, rfl, k2, _, p4⟩
      replace e := e.trans k2
      refine ⟨e, ?_⟩
      replace b := k2.2 _ _ b
      replace i := k2.2 _ _ i
      replace i1 := k2.2 _ _ i1
      replace j5 := k2.2 _ _ j5
      replace j := j.trans k2
      refine .qB rfl e (.build bt_27_Hj rfl rfl rfl) ?_
      refine .r1 rfl rfl rfl (.fillA rfl sz_27_D rfl rfl rfl rfl) ?_
      rintro _ _ ⟨rfl, d1, s4⟩
      replace e := e.st d1 (fun k hk => ⟨by omega, trivial⟩)
      refine ⟨e, ?_⟩
      have c9 : NE a5 q2 := .a
      replace b := d1.s b c9.ne
      have d0 : NE l0 q2 := .a
      replace i := d1.s i d0.ne
      replace j5 := d1.s j5
      replace p4 := d1.s p4
      replace j := j.st d1 (fun k hk => ⟨by omega, trivial⟩)
      refine .done ?_
      exact ⟨a5, l0, y9, y4, q2, ⟨rfl, rfl, rfl, rfl, rfl, rfl, rfl, rfl, trivial⟩, j, by omega, by omega, by omega, by omega, by omega, by first | assumption | simpa using b, by first | assumption | simpa using i, by first | assumption | simpa using j5, by first | assumption | simpa using p4, by first | assumption | simpa using s4, by omega, by omega, by omega, by omega, by omega, by omega, by omega, by omega, by omega, by omega⟩
     refine .c1 rfl rfl rfl rfl (.litA rfl sl_25_B ze_24_Hj rfl rfl rfl rfl) ?_
     rintro _ _ ⟨y8, rfl, h0, _, k8⟩
     replace e := e.trans h0
     refine ⟨e, ?_⟩
     replace l := l.trans h0
     replace m := h0.2 _ _ m
     replace b := h0.2 _ _ b
     replace i := h0.2 _ _ i
     replace i1 := h0.2 _ _ i1
     have _ := GHeap.ltg k8
     replace j := j.trans h0
     replace hin := d.mono l
     have u : Cat.At _ g1 0 c p := ⟨Mem.of_get m, hin⟩
     obtain ⟨-, -, -, -, -, -, -, o8, -⟩ := u.get
     refine .call1 rfl rfl rfl rfl rfl @Try.call108 rfl (l01Own_c) ?_
     rintro _ _ ⟨i9, z7, rfl, p9, _⟩
     replace e := e.trans i9
     refine ⟨e, ?_⟩
     replace b := i9.2 _ _ b
     replace i := i9.2 _ _ i
     replace i1 := i9.2 _ _ i1
     replace k8 := i9.2 _ _ k8
     replace j := j.trans i9
     refine .qB rfl e (.build bt_27_Hj rfl rfl rfl) ?_
     refine .r1 rfl rfl rfl (.fillA rfl sz_27_D rfl rfl rfl rfl) ?_
     rintro _ _ ⟨rfl, d4, s5⟩
     replace e := e.st d4 (fun k hk => ⟨by omega, trivial⟩)
     refine ⟨e, ?_⟩
     have c9 : NE a5 q2 := .a
     replace b := d4.s b c9.ne
     have d0 : NE l0 q2 := .a
     replace i := d4.s i d0.ne
     replace k8 := d4.s k8
     replace p9 := d4.s p9
     replace j := j.st d4 (fun k hk => ⟨by omega, trivial⟩)
     refine .done ?_
     exact ⟨a5, l0, z7, y8, q2, ⟨rfl, rfl, rfl, rfl, rfl, rfl, rfl, rfl, trivial⟩, j, by omega, by omega, by omega, by omega, by omega, by first | assumption | simpa using b, by first | assumption | simpa using i, by first | assumption | simpa using p9, by first | assumption | simpa using k8, by first | assumption | simpa using s5, by omega, by omega, by omega, by omega, by omega, by omega, by omega, by omega, by omega, by omega⟩
    refine .orI ?_ ?_
    ·
     refine .c1 rfl rfl rfl rfl (.litA rfl sl_25_B ze_24_Hj rfl rfl rfl rfl) ?_
     rintro _ _ ⟨t8, rfl, l4, _, o⟩
     replace e := e.trans l4
     refine ⟨e, ?_⟩
     replace l := l.trans l4
     replace m := l4.2 _ _ m
     replace b := l4.2 _ _ b
     have _ := GHeap.ltg o
     replace j := j.trans l4
     refine .orI ?_ ?_
     ·
      replace hin := d.mono l
      have u : Cat.At _ g1 0 c p := ⟨Mem.of_get m, hin⟩
      obtain ⟨-, -, -, -, -, m7, -, -, -⟩ := u.get
      refine .call1 rfl rfl rfl rfl rfl @Try.call108 rfl (l01Own_c) ?_
      rintro _ _ ⟨k0, u5, rfl, a0, _⟩
      replace e := e.trans k0
      refine ⟨e, ?_⟩
      replace l := l.trans k0
      replace m := k0.2 _ _ m
      replace b := k0.2 _ _ b
      replace o := k0.2 _ _ o
      have _ := GHeap.ltg a0
      replace j := j.trans k0
      refine .orI ?_ ?_
      ·
       replace hin := d.mono l
       clear u m7
       have u : Cat.At _ g1 0 c p := ⟨Mem.of_get m, hin⟩
       obtain ⟨-, -, -, -, -, -, -, o8, -⟩ := u.get
       refine .call1 rfl rfl rfl rfl rfl @Try.call108 rfl (l01Own_c) ?_
       rintro _ _ ⟨m2, x2, rfl, i6, _⟩
       replace e := e.trans m2
       refine ⟨e, ?_⟩
       replace b := m2.2 _ _ b
       replace o := m2.2 _ _ o
       replace a0 := m2.2 _ _ a0
       have _ := GHeap.ltg i6
       replace j := j.trans m2
       refine .qB rfl e (.build bt_27_Hj rfl rfl rfl) ?_
       refine .c1 rfl rfl rfl rfl (.allocR rfl ze_27_I rfl) ?_
       rintro _ _ ⟨aM, rfl, n0, _, _⟩
       replace e := e.trans n0
       refine ⟨e, ?_⟩
       replace b := n0.2 _ _ b
       replace o := n0.2 _ _ o
       replace a0 := n0.2 _ _ a0
       replace i6 := n0.2 _ _ i6
       replace j := j.trans n0
       refine .r1 rfl rfl rfl (.fillA rfl sz_27_D rfl rfl rfl rfl) ?_
       rintro _ _ ⟨rfl, d3, t7⟩
       replace e := e.st d3 (fun k hk => ⟨by omega, trivial⟩)
       refine ⟨e, ?_⟩
       replace b := d3.s b
       replace o := d3.s o
       replace a0 := d3.s a0
       replace i6 := d3.s i6
       replace j := j.st d3 (fun k hk => ⟨by omega, trivial⟩)
       refine .done ?_
       exact ⟨a5, u5, x2, t8, aM, ⟨rfl, rfl, rfl, rfl, rfl, rfl, rfl, rfl, trivial⟩, j, by omega, by omega, by omega, by omega, by omega, by first | assumption | simpa using b, by first | assumption | simpa using a0, by first | assumption | simpa using i6, by first | assumption | simpa using o, by first | assumption | simpa using t7, by omega, by omega, by omega, by omega, by omega, by omega, by omega, by omega, by omega, by omega⟩
      refine .c1 rfl rfl rfl rfl (.allocR rfl ze_27_I rfl) ?_
      rintro _ _ ⟨aC, rfl, m4, _, s8⟩
      replace e := e.trans m4
      refine ⟨e, ?_⟩
      replace l := l.trans m4
      replace m := m4.2 _ _ m
      replace b := m4.2 _ _ b
      replace o := m4.2 _ _ o
      replace a0 := m4.2 _ _ a0
      have _ := GHeap.ltg s8
      replace j := j.trans m4
      replace hin := d.mono l
      have u : Cat.At _ g1 0 c p := ⟨Mem.of_get m, hin⟩
      obtain ⟨-, -, -, -, -, -, -, o8, -⟩ := u.get
      refine .call1 rfl rfl rfl rfl rfl @Try.call108 rfl (l01Own_c) ?_
      rintro _ _ ⟨j0, y5, rfl, p6, _⟩
      replace e := e.trans j0
      refine ⟨e, ?_⟩
      replace b := j0.2 _ _ b
      replace o := j0.2 _ _ o
      replace a0 := j0.2 _ _ a0
      replace s8 := j0.2 _ _ s8
      replace j := j.trans j0
      refine .qB rfl e (.build bt_27_Hj rfl rfl rfl) ?_
      refine .r1 rfl rfl rfl (.fillA rfl sz_27_D rfl rfl rfl rfl) ?_
      rintro _ _ ⟨rfl, d6, s7⟩
      replace e := e.st d6 (fun k hk => ⟨by omega, trivial⟩)
      refine ⟨e, ?_⟩
      replace b := d6.s b
      replace o := d6.s o
      replace a0 := d6.s a0
      replace p6 := d6.s p6
      replace j := j.st d6 (fun k hk => ⟨by omega, trivial⟩)
      refine .done ?_
      exact ⟨a5, u5, y5, t8, aC, ⟨rfl, rfl, rfl, rfl, rfl, rfl, rfl, rfl, trivial⟩, j, by omega, by omega, by omega, by omega, by omega, by first | assumption | simpa using b, by first | assumption | simpa using a0, by first | assumption | simpa using p6, by first | assumption | simpa using o, by first | assumption | simpa using s7, by omega, by omega, by omega, by omega, by omega, by omega, by omega, by omega, by omega, by omega⟩
     refine .c1 rfl rfl rfl rfl (.allocR rfl ze_27_I rfl) ?_
     rintro _ _ ⟨aN, rfl, m9, _, o9⟩
     replace e := e.trans m9
     refine ⟨e, ?_⟩
     replace l := l.trans m9
     replace m := m9.2 _ _ m
     replace b := m9.2 _ _ b
     replace o := m9.2 _ _ o
     have _ := GHeap.ltg o9
     replace j := j.trans m9
     replace hin := d.mono l
     have u : Cat.At _ g1 0 c p := ⟨Mem.of_get m, hin⟩
     obtain ⟨-, -, -, -, -, m7, -, -, -⟩ := u.get
     refine .call1 rfl rfl rfl rfl rfl @Try.call108 rfl (l01Own_c) ?_
     rintro _ _ ⟨h1, x5, rfl, k5, _⟩
     replace e := e.trans h1
     refine ⟨e, ?_⟩
     replace l := l.trans h1
     replace m := h1.2 _ _ m
     replace b := h1.2 _ _ b
     replace o := h1.2 _ _ o
     replace o9 := h1.2 _ _ o9
     have _ := GHeap.ltg k5
     replace j := j.trans h1
     replace hin := d.mono l
     clear u m7
     have u : Cat.At _ g1 0 c p := ⟨Mem.of_get m, hin⟩
     obtain ⟨-, -, -, -, -, -, -, o8, -⟩ := u.get
     refine .call1 rfl rfl rfl rfl rfl @Try.call108 rfl (l01Own_c) ?_
     rintro _ _ ⟨i4, z2, rfl, q0, _⟩
     replace e := e.trans i4
     refine ⟨e, ?_⟩
     replace b := i4.2 _ _ b
     replace o := i4.2 _ _ o
     replace o9 := i4.2 _ _ o9
     replace k5 := i4.2 _ _ k5
     replace j := j.trans i4
     refine .qB rfl e (.build bt_27_Hj rfl rfl rfl) ?_
     refine .r1 rfl rfl rfl (.fillA rfl sz_27_D rfl rfl rfl rfl) ?_
     rintro _ _ ⟨rfl, d8, s9⟩
     replace e := e.st d8 (fun k hk => ⟨by omega, trivial⟩)
     refine ⟨e, ?_⟩
     replace b := d8.s b
     replace o := d8.s o
     replace k5 := d8.s k5
     replace q0 := d8.s q0
     replace j := j.st d8 (fun k hk => ⟨by omega, trivial⟩)
     refine .done ?_
     exact ⟨a5, x5, z2, t8, aN, ⟨rfl, rfl, rfl, rfl, rfl, rfl, rfl, rfl, trivial⟩, j, by omega, by omega, by omega, by omega, by omega, by first | assumption | simpa using b, by first | assumption | simpa using k5, by first | assumption | simpa using q0, by first | assumption | simpa using o, by first | assumption | simpa using s9, by omega, by omega, by omega, by omega, by omega, by omega, by omega, by omega, by omega, by omega⟩
    refine .c1 rfl rfl rfl rfl (.allocR rfl ze_27_I rfl) ?_
    rintro _ _ ⟨l1, rfl, l5, _, w⟩
    replace e := e.trans l5
    refine ⟨e, ?_⟩
    replace l := l.trans l5
    replace m := l5.2 _ _ m
    replace b := l5.2 _ _ b
    have _ := GHeap.ltg w
    replace j := j.trans l5
    refine .orI ?_ ?_
    ·
     replace hin := d.mono l
     have u : Cat.At _ g1 0 c p := ⟨Mem.of_get m, hin⟩
     obtain ⟨-, -, -, -, -, m7, -, -, -⟩ := u.get
     refine .call1 rfl rfl rfl rfl rfl @Try.call108 rfl (l01Own_c) ?_
     rintro _ _ ⟨j1, q1, rfl, a2, _⟩
     replace e := e.trans j1
     refine ⟨e, ?_⟩
     replace l := l.trans j1
     replace m := j1.2 _ _ m
     replace b := j1.2 _ _ b
     replace w := j1.2 _ _ w
     have _ := GHeap.ltg a2
     replace j := j.trans j1
     refine .orI ?_ ?_
     ·
      replace hin := d.mono l
      clear u m7
      have u : Cat.At _ g1 0 c p := ⟨Mem.of_get m, hin⟩
      obtain ⟨-, -, -, -, -, -, -, o8, -⟩ := u.get
      refine .call1 rfl rfl rfl rfl rfl @Try.call108 rfl (l01Own_c) ?_
      rintro _ _ ⟨h9, w3, rfl, g8, _⟩
      replace e := e.trans h9
      refine ⟨e, ?_⟩
      replace b := h9.2 _ _ b
      replace w := h9.2 _ _ w
      replace a2 := h9.2 _ _ a2
      have _ := GHeap.ltg g8
      replace j := j.trans h9
      refine .c1 rfl rfl rfl rfl (.litA rfl sl_25_B ze_24_Hj rfl rfl rfl rfl) ?_
      rintro _ _ ⟨z3, rfl, j6, _, p8⟩
      replace e := e.trans j6
      refine ⟨e, ?_⟩
      replace b := j6.2 _ _ b
      replace w := j6.2 _ _ w
      replace a2 := j6.2 _ _ a2
      replace g8 := j6.2 _ _ g8
      replace j := j.trans j6
      refine .qB rfl e (.build bt_27_Hj rfl rfl rfl) ?_
      refine .r1 rfl rfl rfl (.fillA rfl sz_27_D rfl rfl rfl rfl) ?_
      rintro _ _ ⟨rfl, b5, r6⟩
      replace e := e.st b5 (fun k hk => ⟨by omega, trivial⟩)
      refine ⟨e, ?_⟩
      have x : NE a5 l1 := .a
      replace b := b5.s b x.ne
      have c6 : NE q1 l1 := .a
      replace a2 := b5.s a2 c6.ne
      replace g8 := b5.s g8
      replace p8 := b5.s p8
      replace j := j.st b5 (fun k hk => ⟨by omega, trivial⟩)
      refine .done ?_
      exact ⟨a5, q1, w3, z3, l1, ⟨rfl, rfl, rfl, rfl, rfl, rfl, rfl, rfl, trivial⟩, j, by omega, by omega, by omega, by omega, by omega, by first | assumption | simpa using b, by first | assumption | simpa using a2, by first | assumption | simpa using g8, by first | assumption | simpa using p8, by first | assumption | simpa using r6, by omega, by omega, by omega, by omega, by omega, by omega, by omega, by omega, by omega, by omega⟩
     refine .c1 rfl rfl rfl rfl (.litA rfl sl_25_B ze_24_Hj rfl rfl rfl rfl) ?_
     rintro _ _ ⟨z4, rfl, h4, _, k3⟩
     replace e := e.trans h4
     refine ⟨e, ?_⟩
     replace l := l.trans h4
     replace m := h4.2 _ _ m
     replace b := h4.2 _ _ b
     replace w := h4.2 _ _ w
     replace a2 := h4.2 _ _ a2
     have _ := GHeap.ltg k3
     replace j := j.trans h4
     replace hin := d.mono l
     have u : Cat.At _ g1 0 c p := ⟨Mem.of_get m, hin⟩
     obtain ⟨-, -, -, -, -, -, -, o8, -⟩ := u.get
     refine .call1 rfl rfl rfl rfl rfl @Try.call108 rfl (l01Own_c) ?_
     rintro _ _ ⟨f1, u9, rfl, o4, _⟩
     replace e := e.trans f1
     refine ⟨e, ?_⟩
     replace b := f1.2 _ _ b
     replace w := f1.2 _ _ w
     replace a2 := f1.2 _ _ a2
     replace k3 := f1.2 _ _ k3
     replace j := j.trans f1
     refine .qB rfl e (.build bt_27_Hj rfl rfl rfl) ?_
     refine .r1 rfl rfl rfl (.fillA rfl sz_27_D rfl rfl rfl rfl) ?_
     rintro _ _ ⟨rfl, c5, s0⟩
     replace e := e.st c5 (fun k hk => ⟨by omega, trivial⟩)
     refine ⟨e, ?_⟩
     have x : NE a5 l1 := .a
     replace b := c5.s b x.ne
     have c6 : NE q1 l1 := .a
     replace a2 := c5.s a2 c6.ne
     replace k3 := c5.s k3
     replace o4 := c5.s o4
     replace j := j.st c5 (fun k hk => ⟨by omega, trivial⟩)
     refine .done ?_
     exact ⟨a5, q1, u9, z4, l1, ⟨rfl, rfl, rfl, rfl, rfl, rfl, rfl, rfl, trivial⟩, j, by omega, by omega, by omega, by omega, by omega, by first | assumption | simpa using b, by first | assumption | simpa using a2, by first | assumption | simpa using o4, by first | assumption | simpa using k3, by first | assumption | simpa using s0, by omega, by omega, by omega, by omega, by omega, by omega, by omega, by omega, by omega, by omega⟩
    refine .c1 rfl rfl rfl rfl (.litA rfl sl_25_B ze_24_Hj rfl rfl rfl rfl) ?_
    rintro _ _ ⟨w0, rfl, e8, _, c7⟩
    replace e := e.trans e8
    refine ⟨e, ?_⟩
    replace l := l.trans e8
    replace m := e8.2 _ _ m
    replace b := e8.2 _ _ b
    replace w := e8.2 _ _ w
    have _ := GHeap.ltg c7
    replace j := j.trans e8
    replace hin := d.mono l
    have u : Cat.At _ g1 0 c p := ⟨Mem.of_get m, hin⟩
    obtain ⟨-, -, -, -, -, m7, -, -, -⟩ := u.get
    refine .call1 rfl rfl rfl rfl rfl @Try.call108 rfl (l01Own_c) ?_
    rintro _ _ ⟨h5, y1, rfl, j4, _⟩
    replace e := e.trans h5
    refine ⟨e, ?_⟩
    replace l := l.trans h5
    replace m := h5.2 _ _ m
    replace b := h5.2 _ _ b
    replace w := h5.2 _ _ w
    replace c7 := h5.2 _ _ c7
    have _ := GHeap.ltg j4
    replace j := j.trans h5
    replace hin := d.mono l
    clear u m7
    have u : Cat.At _ g1 0 c p := ⟨Mem.of_get m, hin⟩
    obtain ⟨-, -, -, -, -, -, -, o8, -⟩ := u.get
    refine .call1 rfl rfl rfl rfl rfl @Try.call108 rfl (l01Own_c) ?_
    rintro _ _ ⟨e7, v9, rfl, n6, _⟩
    replace e := e.trans e7
    refine ⟨e, ?_⟩
    replace b := e7.2 _ _ b
    replace w := e7.2 _ _ w
    replace c7 := e7.2 _ _ c7
    replace j4 := e7.2 _ _ j4
    replace j := j.trans e7
    refine .qB rfl e (.build bt_27_Hj rfl rfl rfl) ?_
    refine .r1 rfl rfl rfl (.fillA rfl sz_27_D rfl rfl rfl rfl) ?_
    rintro _ _ ⟨rfl, a8, q6⟩
    replace e := e.st a8 (fun k hk => ⟨by omega, trivial⟩)
    refine ⟨e, ?_⟩
    have x : NE a5 l1 := .a
    replace b := a8.s b x.ne
    replace c7 := a8.s c7
    replace j4 := a8.s j4
    replace n6 := a8.s n6
    replace j := j.st a8 (fun k hk => ⟨by omega, trivial⟩)
    refine .done ?_
    exact ⟨a5, y1, v9, w0, l1, ⟨rfl, rfl, rfl, rfl, rfl, rfl, rfl, rfl, trivial⟩, j, by omega, by omega, by omega, by omega, by omega, by first | assumption | simpa using b, by first | assumption | simpa using j4, by first | assumption | simpa using n6, by first | assumption | simpa using c7, by first | assumption | simpa using q6, by omega, by omega, by omega, by omega, by omega, by omega, by omega, by omega, by omega, by omega⟩
   refine .orI ?_ ?_
   ·
    refine .c1 rfl rfl rfl rfl (.litA rfl sl_25_B ze_24_Hj rfl rfl rfl rfl) ?_
    rintro _ _ ⟨o6, rfl, l3, _, h⟩
    have e := l3
    refine ⟨e, ?_⟩
    replace l := l.trans l3
    replace m := l3.2 _ _ m
    have _ := GHeap.ltg h
    replace j := j.trans l3
    refine .orI ?_ ?_
    ·
     replace hin := d.mono l
     have u : Cat.At _ g1 0 c p := ⟨Mem.of_get m, hin⟩
     obtain ⟨-, -, -, -, -, -, u3, -, -⟩ := u.get
     refine .call1 rfl rfl rfl rfl rfl @Try.call108 rfl (l01Own_c) ?_
     rintro _ _ ⟨m6, s3, rfl, t, _⟩
     replace e := e.trans m6
     refine ⟨e, ?_⟩
     replace l := l.trans m6
     replace m := m6.2 _ _ m
     replace h := m6.2 _ _ h
     have _ := GHeap.ltg t
     replace j := j.trans m6
     refine .orI ?_ ?_
     ·
      replace hin := d.mono l
      clear u u3
      have u : Cat.At _ g1 0 c p := ⟨Mem.of_get m, hin⟩
      obtain ⟨-, -, -, -, -, m7, -, -, -⟩ := u.get
      refine .call1 rfl rfl rfl rfl rfl @Try.call108 rfl (l01Own_c) ?_
      rintro _ _ ⟨k4, u4, rfl, a3, _⟩
      replace e := e.trans k4
      refine ⟨e, ?_⟩
      replace l := l.trans k4
      replace m := k4.2 _ _ m
      replace h := k4.2 _ _ h
      replace t := k4.2 _ _ t
      have _ := GHeap.ltg a3
      replace j := j.trans k4
      refine .orI ?_ ?_
      ·
       replace hin := d.mono l
       clear u m7
       have u : Cat.At _ g1 0 c p := ⟨Mem.of_get m, hin⟩
       obtain ⟨-, -, -, -, -, -, -, o8, -⟩ := u.get
       refine .call1 rfl rfl rfl rfl rfl @Try.call108 rfl (l01Own_c) ?_
       rintro _ _ ⟨i2, w6, rfl, g7, _⟩
       replace e := e.trans i2
       refine ⟨e, ?_⟩
       replace h := i2.2 _ _ h
       replace t := i2.2 _ _ t
       replace a3 := i2.2 _ _ a3
       have _ := GHeap.ltg g7
       replace j := j.trans i2
       refine .qB rfl e (.build bt_27_Hj rfl rfl rfl) ?_
       refine .c1 rfl rfl rfl rfl (.allocR rfl ze_27_I rfl) ?_
       rintro _ _ ⟨x9, rfl, i5, _, _⟩
       replace e := e.trans i5
       refine ⟨e, ?_⟩
       replace h := i5.2 _ _ h
       replace t := i5.2 _ _ t
       replace a3 := i5.2 _ _ a3
       replace g7 := i5.2 _ _ g7
       replace j := j.trans i5
       refine .r1 rfl rfl rfl (.fillA rfl sz_27_D rfl rfl rfl rfl) ?_
       rintro _ _ ⟨rfl, c2, q9⟩
       replace e := e.st c2 (fun k hk => ⟨by omega, trivial⟩)
       refine ⟨e, ?_⟩
       replace h := c2.s h
       replace t := c2.s t
       replace a3 := c2.s a3
       replace g7 := c2.s g7
       replace j := j.st c2 (fun k hk => ⟨by omega, trivial⟩)
       refine .done ?_
       exact ⟨s3, u4, w6, o6, x9, ⟨rfl, rfl, rfl, rfl, rfl, rfl, rfl, rfl, trivial⟩, j, by omega, by omega, by omega, by omega, by omega, by first | assumption | simpa using t, by first | assumption | simpa using a3, by first | assumption | simpa using g7, by first | assumption | simpa using h, by first | assumption | simpa using q9, by omega, by omega, by omega, by omega, by omega, by omega, by omega, by omega, by omega, by omega⟩
      refine .c1 rfl rfl rfl rfl (.allocR rfl ze_27_I rfl) ?_
      rintro _ _ ⟨z6, rfl, g9, _, p2⟩
      replace e := e.trans g9
      refine ⟨e, ?_⟩
      replace l := l.trans g9
      replace m := g9.2 _ _ m
      replace h := g9.2 _ _ h
      replace t := g9.2 _ _ t
      replace a3 := g9.2 _ _ a3
      have _ := GHeap.ltg p2
      replace j := j.trans g9
      replace hin := d.mono l
      have u : Cat.At _ g1 0 c p := ⟨Mem.of_get m, hin⟩
      obtain ⟨-, -, -, -, -, -, -, o8, -⟩ := u.get
      refine .call1 rfl rfl rfl rfl rfl @Try.call108 rfl (l01Own_c) ?_
      rintro _ _ ⟨g4, v2, rfl, o1, _⟩
      replace e := e.trans g4
      refine ⟨e, ?_⟩
      replace h := g4.2 _ _ h
      replace t := g4.2 _ _ t
      replace a3 := g4.2 _ _ a3
      replace p2 := g4.2 _ _ p2
      replace j := j.trans g4
      refine .qB rfl e (.build bt_27_Hj rfl rfl rfl) ?_
      refine .r1 rfl rfl rfl (.fillA rfl sz_27_D rfl rfl rfl rfl) ?_
      rintro _ _ ⟨rfl, c0, r9⟩
      replace e := e.st c0 (fun k hk => ⟨by omega, trivial⟩)
      refine ⟨e, ?_⟩
      replace h := c0.s h
      replace t := c0.s t
      replace a3 := c0.s a3
      replace o1 := c0.s o1
      replace j := j.st c0 (fun k hk => ⟨by omega, trivial⟩)
      refine .done ?_
      exact ⟨s3, u4, v2, o6, z6, ⟨rfl, rfl, rfl, rfl, rfl, rfl, rfl, rfl, trivial⟩, j, by omega, by omega, by omega, by omega, by omega, by first | assumption | simpa using t, by first | assumption | simpa using a3, by first | assumption | simpa using o1, by first | assumption | simpa using h, by first | assumption | simpa using r9, by omega, by omega, by omega, by omega, by omega, by omega, by omega, by omega, by omega, by omega⟩
     refine .c1 rfl rfl rfl rfl (.allocR rfl ze_27_I rfl) ?_
     rintro _ _ ⟨z5, rfl, j7, _, l7⟩
     replace e := e.trans j7
     refine ⟨e, ?_⟩
     replace l := l.trans j7
     replace m := j7.2 _ _ m
     replace h := j7.2 _ _ h
     replace t := j7.2 _ _ t
     have _ := GHeap.ltg l7
     replace j := j.trans j7
     replace hin := d.mono l
     have u : Cat.At _ g1 0 c p := ⟨Mem.of_get m, hin⟩
     obtain ⟨-, -, -, -, -, m7, -, -, -⟩ := u.get
     refine .call1 rfl rfl rfl rfl rfl @Try.call108 rfl (l01Own_c) ?_
     rintro _ _ ⟨h2, y6, rfl, j2, _⟩
     replace e := e.trans h2
     refine ⟨e, ?_⟩
     replace l := l.trans h2
     replace m := h2.2 _ _ m
     replace h := h2.2 _ _ h
     replace t := h2.2 _ _ t
     replace l7 := h2.2 _ _ l7
     have _ := GHeap.ltg j2
     replace j := j.trans h2
     replace hin := d.mono l
     clear u m7
     have u : Cat.At _ g1 0 c p := ⟨Mem.of_get m, hin⟩
     obtain ⟨-, -, -, -, -, -, -, o8, -⟩ := u.get
     refine .call1 rfl rfl rfl rfl rfl @Try.call108 rfl (l01Own_c) ?_
     rintro _ _ ⟨g5, v4, rfl, n5, _⟩
     replace e := e.trans g5
     refine ⟨e, ?_⟩
     replace h := g5.2 _ _ h
     replace t := g5.2 _ _ t
     replace l7 := g5.2 _ _ l7
     replace j2 := g5.2 _ _ j2
     replace j := j.trans g5
     refine .qB rfl e (.build bt_27_Hj rfl rfl rfl) ?_
     refine .r1 rfl rfl rfl (.fillA rfl sz_27_D rfl rfl rfl rfl) ?_
     rintro _ _ ⟨rfl, b7, r2⟩
     replace e := e.st b7 (fun k hk => ⟨by omega, trivial⟩)
     refine ⟨e, ?_⟩
     replace h := b7.s h
     replace t := b7.s t
     replace j2 := b7.s j2
     replace n5 := b7.s n5
     replace j := j.st b7 (fun k hk => ⟨by omega, trivial⟩)
     refine .done ?_
     exact ⟨s3, y6, v4, o6, z5, ⟨rfl, rfl, rfl, rfl, rfl, rfl, rfl, rfl, trivial⟩, j, by omega, by omega, by omega, by omega, by omega, by first | assumption | simpa using t, by first | assumption | simpa using j2, by first | assumption | simpa using n5, by first | assumption | simpa using h, by first | assumption | simpa using r2, by omega, by omega, by omega, by omega, by omega, by omega, by omega, by omega, by omega, by omega⟩
    refine .c1 rfl rfl rfl rfl (.allocR rfl ze_27_I rfl) ?_
    rintro _ _ ⟨x3, rfl, m0, _, h3⟩
    replace e := e.trans m0
    refine ⟨e, ?_⟩
    replace l := l.trans m0
    replace m := m0.2 _ _ m
    replace h := m0.2 _ _ h
    have _ := GHeap.ltg h3
    replace j := j.trans m0
    replace hin := d.mono l
    have u : Cat.At _ g1 0 c p := ⟨Mem.of_get m, hin⟩
    obtain ⟨-, -, -, -, -, -, u3, -, -⟩ := u.get
    refine .call1 rfl rfl rfl rfl rfl @Try.call108 rfl (l01Own_c) ?_
    rintro _ _ ⟨j3, x7, rfl, e4, _⟩
    replace e := e.trans j3
    refine ⟨e, ?_⟩
    replace l := l.trans j3
    replace m := j3.2 _ _ m
    replace h := j3.2 _ _ h
    replace h3 := j3.2 _ _ h3
    have _ := GHeap.ltg e4
    replace j := j.trans j3
    replace hin := d.mono l
    clear u u3
    have u : Cat.At _ g1 0 c p := ⟨Mem.of_get m, hin⟩
    obtain ⟨-, -, -, -, -, m7, -, -, -⟩ := u.get
    refine .call1 rfl rfl rfl rfl rfl @Try.call108 rfl (l01Own_c) ?_
    rintro _ _ ⟨h6, z8, rfl, i7, _⟩
    replace e := e.trans h6
    refine ⟨e, ?_⟩
    replace l := l.trans h6
    replace m := h6.2 _ _ m
    replace h := h6.2 _ _ h
    replace h3 := h6.2 _ _ h3
    replace e4 := h6.2 _ _ e4
    have _ := GHeap.ltg i7
    replace j := j.trans h6
    replace hin := d.mono l
    clear u m7
    have u : Cat.At _ g1 0 c p := ⟨Mem.of_get m, hin⟩
    obtain ⟨-, -, -, -, -, -, -, o8, -⟩ := u.get
    refine .call1 rfl rfl rfl rfl rfl @Try.call108 rfl (l01Own_c) ?_
    rintro _ _ ⟨f6, v1, rfl, o3, _⟩
    replace e := e.trans f6
    refine ⟨e, ?_⟩
    replace h := f6.2 _ _ h
    replace h3 := f6.2 _ _ h3
    replace e4 := f6.2 _ _ e4
    replace i7 := f6.2 _ _ i7
    replace j := j.trans f6
    refine .qB rfl e (.build bt_27_Hj rfl rfl rfl) ?_
    refine .r1 rfl rfl rfl (.fillA rfl sz_27_D rfl rfl rfl rfl) ?_
    rintro _ _ ⟨rfl, c3, r3⟩
    replace e := e.st c3 (fun k hk => ⟨by omega, trivial⟩)
    refine ⟨e, ?_⟩
    replace h := c3.s h
    replace e4 := c3.s e4
    replace i7 := c3.s i7
    replace o3 := c3.s o3
    replace j := j.st c3 (fun k hk => ⟨by omega, trivial⟩)
    refine .done ?_
    exact ⟨x7, z8, v1, o6, x3, ⟨rfl, rfl, rfl, rfl, rfl, rfl, rfl, rfl, trivial⟩, j, by omega, by omega, by omega, by omega, by omega, by first | assumption | simpa using e4, by first | assumption | simpa using i7, by first | assumption | simpa using o3, by first | assumption | simpa using h, by first | assumption | simpa using r3, by omega, by omega, by omega, by omega, by omega, by omega, by omega, by omega, by omega, by omega⟩
   refine .c1 rfl rfl rfl rfl (.allocR rfl ze_27_I rfl) ?_
   rintro _ _ ⟨h8, rfl, n4, _, n⟩
   have e := n4
   refine ⟨e, ?_⟩
   replace l := l.trans n4
   replace m := n4.2 _ _ m
   have _ := GHeap.ltg n
   replace j := j.trans n4
   refine .orI ?_ ?_
   ·
    replace hin := d.mono l
    have u : Cat.At _ g1 0 c p := ⟨Mem.of_get m, hin⟩
    obtain ⟨-, -, -, -, -, -, u3, -, -⟩ := u.get
    refine .call1 rfl rfl rfl rfl rfl @Try.call108 rfl (l01Own_c) ?_
    rintro _ _ ⟨m3, n1, rfl, r, _⟩
    replace e := e.trans m3
    refine ⟨e, ?_⟩
    replace l := l.trans m3
    replace m := m3.2 _ _ m
    replace n := m3.2 _ _ n
    have _ := GHeap.ltg r
    replace j := j.trans m3
    refine .orI ?_ ?_
    ·
     replace hin := d.mono l
     clear u u3
     have u : Cat.At _ g1 0 c p := ⟨Mem.of_get m, hin⟩
     obtain ⟨-, -, -, -, -, m7, -, -, -⟩ := u.get
     refine .call1 rfl rfl rfl rfl rfl @Try.call108 rfl (l01Own_c) ?_
     rintro _ _ ⟨f3, o5, rfl, v, _⟩
     replace e := e.trans f3
     refine ⟨e, ?_⟩
     replace l := l.trans f3
     replace m := f3.2 _ _ m
     replace n := f3.2 _ _ n
     replace r := f3.2 _ _ r
     have _ := GHeap.ltg v
     replace j := j.trans f3
     refine .orI ?_ ?_
     ·
      replace hin := d.mono l
      clear u m7
      have u : Cat.At _ g1 0 c p := ⟨Mem.of_get m, hin⟩
      obtain ⟨-, -, -, -, -, -, -, o8, -⟩ := u.get
      refine .call1 rfl rfl rfl rfl rfl @Try.call108 rfl (l01Own_c) ?_
      rintro _ _ ⟨i3, v5, rfl, e9, _⟩
      replace e := e.trans i3
      refine ⟨e, ?_⟩
      replace n := i3.2 _ _ n
      replace r := i3.2 _ _ r
      replace v := i3.2 _ _ v
      have _ := GHeap.ltg e9
      replace j := j.trans i3
      refine .c1 rfl rfl rfl rfl (.litA rfl sl_25_B ze_24_Hj rfl rfl rfl rfl) ?_
      rintro _ _ ⟨w5, rfl, f4, _, n8⟩
      replace e := e.trans f4
      refine ⟨e, ?_⟩
      replace n := f4.2 _ _ n
      replace r := f4.2 _ _ r
      replace v := f4.2 _ _ v
      replace e9 := f4.2 _ _ e9
      replace j := j.trans f4
      refine .qB rfl e (.build bt_27_Hj rfl rfl rfl) ?_
      refine .r1 rfl rfl rfl (.fillA rfl sz_27_D rfl rfl rfl rfl) ?_
      rintro _ _ ⟨rfl, b0, q7⟩
      replace e := e.st b0 (fun k hk => ⟨by omega, trivial⟩)
      refine ⟨e, ?_⟩
      have y : NE n1 h8 := .a
      replace r := b0.s r y.ne
      have a6 : NE o5 h8 := .a
      replace v := b0.s v a6.ne
      replace e9 := b0.s e9
      replace n8 := b0.s n8
      replace j := j.st b0 (fun k hk => ⟨by omega, trivial⟩)
      refine .done ?_
      exact ⟨n1, o5, v5, w5, h8, ⟨rfl, rfl, rfl, rfl, rfl, rfl, rfl, rfl, trivial⟩, j, by omega, by omega, by omega, by omega, by omega, by first | assumption | simpa using r, by first | assumption | simpa using v, by first | assumption | simpa using e9, by first | assumption | simpa using n8, by first | assumption | simpa using q7, by omega, by omega, by omega, by omega, by omega, by omega, by omega, by omega, by omega, by omega⟩
     refine .c1 rfl rfl rfl rfl (.litA rfl sl_25_B ze_24_Hj rfl rfl rfl rfl) ?_
     rintro _ _ ⟨w2, rfl, e2, _, f7⟩
     replace e := e.trans e2
     refine ⟨e, ?_⟩
     replace l := l.trans e2
     replace m := e2.2 _ _ m
     replace n := e2.2 _ _ n
     replace r := e2.2 _ _ r
     replace v := e2.2 _ _ v
     have _ := GHeap.ltg f7
     replace j := j.trans e2
     replace hin := d.mono l
     have u : Cat.At _ g1 0 c p := ⟨Mem.of_get m, hin⟩
     obtain ⟨-, -, -, -, -, -, -, o8, -⟩ := u.get
     refine .call1 rfl rfl rfl rfl rfl @Try.call108 rfl (l01Own_c) ?_
     rintro _ _ ⟨g0, v7, rfl, o0, _⟩
     replace e := e.trans g0
     refine ⟨e, ?_⟩
     replace n := g0.2 _ _ n
     replace r := g0.2 _ _ r
     replace v := g0.2 _ _ v
     replace f7 := g0.2 _ _ f7
     replace j := j.trans g0
     refine .qB rfl e (.build bt_27_Hj rfl rfl rfl) ?_
     refine .r1 rfl rfl rfl (.fillA rfl sz_27_D rfl rfl rfl rfl) ?_
     rintro _ _ ⟨rfl, c4, q3⟩
     replace e := e.st c4 (fun k hk => ⟨by omega, trivial⟩)
     refine ⟨e, ?_⟩
     have y : NE n1 h8 := .a
     replace r := c4.s r y.ne
     have a6 : NE o5 h8 := .a
     replace v := c4.s v a6.ne
     replace f7 := c4.s f7
     replace o0 := c4.s o0
     replace j := j.st c4 (fun k hk => ⟨by omega, trivial⟩)
     refine .done ?_
     exact ⟨n1, o5, v7, w2, h8, ⟨rfl, rfl, rfl, rfl, rfl, rfl, rfl, rfl, trivial⟩, j, by omega, by omega, by omega, by omega, by omega, by first | assumption | simpa using r, by first | assumption | simpa using v, by first | assumption | simpa using o0, by first | assumption | simpa using f7, by first | assumption | simpa using q3, by omega, by omega, by omega, by omega, by omega, by omega, by omega, by omega, by omega, by omega⟩
    refine .c1 rfl rfl rfl rfl (.litA rfl sl_25_B ze_24_Hj rfl rfl rfl rfl) ?_
    rintro _ _ ⟨v0, rfl, f0, _, c8⟩
    replace e := e.trans f0
    refine ⟨e, ?_⟩
    replace l := l.trans f0
    replace m := f0.2 _ _ m
    replace n := f0.2 _ _ n
    replace r := f0.2 _ _ r
    have _ := GHeap.ltg c8
    replace j := j.trans f0
    replace hin := d.mono l
    have u : Cat.At _ g1 0 c p := ⟨Mem.of_get m, hin⟩
    obtain ⟨-, -, -, -, -, m7, -, -, -⟩ := u.get
    refine .call1 rfl rfl rfl rfl rfl @Try.call108 rfl (l01Own_c) ?_
    rintro _ _ ⟨d9, v3, rfl, g6, _⟩
    replace e := e.trans d9
    refine ⟨e, ?_⟩
    replace l := l.trans d9
    replace m := d9.2 _ _ m
    replace n := d9.2 _ _ n
    replace r := d9.2 _ _ r
    replace c8 := d9.2 _ _ c8
    have _ := GHeap.ltg g6
    replace j := j.trans d9
    replace hin := d.mono l
    clear u m7
    have u : Cat.At _ g1 0 c p := ⟨Mem.of_get m, hin⟩
    obtain ⟨-, -, -, -, -, -, -, o8, -⟩ := u.get
    refine .call1 rfl rfl rfl rfl rfl @Try.call108 rfl (l01Own_c) ?_
    rintro _ _ ⟨f8, v6, rfl, o7, _⟩
    replace e := e.trans f8
    refine ⟨e, ?_⟩
    replace n := f8.2 _ _ n
    replace r := f8.2 _ _ r
    replace c8 := f8.2 _ _ c8
    replace g6 := f8.2 _ _ g6
    replace j := j.trans f8
    refine .qB rfl e (.build bt_27_Hj rfl rfl rfl) ?_
    refine .r1 rfl rfl rfl (.fillA rfl sz_27_D rfl rfl rfl rfl) ?_
    rintro _ _ ⟨rfl, b4, r7⟩
    replace e := e.st b4 (fun k hk => ⟨by omega, trivial⟩)
    refine ⟨e, ?_⟩
    have y : NE n1 h8 := .a
    replace r := b4.s r y.ne
    replace c8 := b4.s c8
    replace g6 := b4.s g6
    replace o7 := b4.s o7
    replace j := j.st b4 (fun k hk => ⟨by omega, trivial⟩)
    refine .done ?_
    exact ⟨n1, v3, v6, v0, h8, ⟨rfl, rfl, rfl, rfl, rfl, rfl, rfl, rfl, trivial⟩, j, by omega, by omega, by omega, by omega, by omega, by first | assumption | simpa using r, by first | assumption | simpa using g6, by first | assumption | simpa using o7, by first | assumption | simpa using c8, by first | assumption | simpa using r7, by omega, by omega, by omega, by omega, by omega, by omega, by omega, by omega, by omega, by omega⟩
   refine .c1 rfl rfl rfl rfl (.litA rfl sl_25_B ze_24_Hj rfl rfl rfl rfl) ?_
   rintro _ _ ⟨w4, rfl, i0, _, a4⟩
   replace e := e.trans i0
   refine ⟨e, ?_⟩
   replace l := l.trans i0
   replace m := i0.2 _ _ m
   replace n := i0.2 _ _ n
   have _ := GHeap.ltg a4
   replace j := j.trans i0
   replace hin := d.mono l
   have u : Cat.At _ g1 0 c p := ⟨Mem.of_get m, hin⟩
   obtain ⟨-, -, -, -, -, -, u3, -, -⟩ := u.get
   refine .call1 rfl rfl rfl rfl rfl @Try.call108 rfl (l01Own_c) ?_
   rintro _ _ ⟨k6, y3, rfl, e6, _⟩
   replace e := e.trans k6
   refine ⟨e, ?_⟩
   replace l := l.trans k6
   replace m := k6.2 _ _ m
   replace n := k6.2 _ _ n
   replace a4 := k6.2 _ _ a4
   have _ := GHeap.ltg e6
   replace j := j.trans k6
   replace hin := d.mono l
   clear u u3
   have u : Cat.At _ g1 0 c p := ⟨Mem.of_get m, hin⟩
   obtain ⟨-, -, -, -, -, m7, -, -, -⟩ := u.get
   refine .call1 rfl rfl rfl rfl rfl @Try.call108 rfl (l01Own_c) ?_
   rintro _ _ ⟨e0, w8, rfl, f5, _⟩
   replace e := e.trans e0
   refine ⟨e, ?_⟩
   replace l := l.trans e0
   replace m := e0.2 _ _ m
   replace n := e0.2 _ _ n
   replace a4 := e0.2 _ _ a4
   replace e6 := e0.2 _ _ e6
   have _ := GHeap.ltg f5
   replace j := j.trans e0
   replace hin := d.mono l
   clear u m7
   have u : Cat.At _ g1 0 c p := ⟨Mem.of_get m, hin⟩
   obtain ⟨-, -, -, -, -, -, -, o8, -⟩ := u.get
   refine .call1 rfl rfl rfl rfl rfl @Try.call108 rfl (l01Own_c) ?_
   rintro _ _ ⟨f2, u8, rfl, n7, _⟩
   replace e := e.trans f2
   refine ⟨e, ?_⟩
   replace n := f2.2 _ _ n
   replace a4 := f2.2 _ _ a4
   replace e6 := f2.2 _ _ e6
   replace f5 := f2.2 _ _ f5
   replace j := j.trans f2
   refine .qB rfl e (.build bt_27_Hj rfl rfl rfl) ?_
   refine .r1 rfl rfl rfl (.fillA rfl sz_27_D rfl rfl rfl rfl) ?_
   rintro _ _ ⟨rfl, a9, r4⟩
   replace e := e.st a9 (fun k hk => ⟨by omega, trivial⟩)
   refine ⟨e, ?_⟩
   replace a4 := a9.s a4
   replace e6 := a9.s e6
   replace f5 := a9.s f5
   replace n7 := a9.s n7
   replace j := j.st a9 (fun k hk => ⟨by omega, trivial⟩)
   refine .done ?_
   exact ⟨y3, w8, u8, w4, h8, ⟨rfl, rfl, rfl, rfl, rfl, rfl, rfl, rfl, trivial⟩, j, by omega, by omega, by omega, by omega, by omega, by first | assumption | simpa using e6, by first | assumption | simpa using f5, by first | assumption | simpa using n7, by first | assumption | simpa using a4, by first | assumption | simpa using r4, by omega, by omega, by omega, by omega, by omega, by omega, by omega, by omega, by omega, by omega⟩
  rintro _ H3 ⟨t6, t2, s2, s1, g3, z1, z9, _, _, _, _, _, q4, r5, q8, _, bM, _, _, _, _, _, _, _, _, _, _⟩
  have _ := z9.1
  replace l := l.trans z9
  replace m := z9.2 _ _ m
  replace w9 := z9.2 _ _ w9
  have _ := GHeap.ltg q4
  have _ := GHeap.ltg r5
  have _ := GHeap.ltg q8
  have _ := GHeap.ltg bM
  replace hin := d.mono l
  have u : Cat.At _ g1 0 c p := ⟨Mem.of_get m, hin⟩
  refine bK _ _ ?_
  refine .forget z1 ?_
  refine .seq (fun K3 bH => .seq (fun K4 bO => .region (.mv rfl (.nil (bO _ _ (.block ?_))))))
  refine .loopF (σ := Nat × (Nat → Option Addr) × Nat) [1, 2, 3] (fun (f, rc, gLC) => [(4, some (.int .i64 (f : Int)))]) (fun (f, rc, gLC) H' => St [s1, g3] H3 H' ∧ H'.get gLC = some (.row ((slsL rc (c.opTab f))) 24 true) ∧ (gLC = s1 ∨ H3.next ≤ gLC) ∧ H'.get g3 = some (.row ([.int .i64 c.obj, .slice (some ⟨t6, 0, none⟩) c.tgt.length c.tgt.length, .slice (some ⟨t2, 0, none⟩) c.src.length c.src.length, .slice (some ⟨s2, 0, none⟩) c.idn.length c.idn.length, .slice (some ⟨gLC, 0, none⟩) f f]) 27 true) ∧ gLC ≠ g3 ∧ f ≤ c.src.length ∧ OwnL H3.next H' 2 rc (c.opTab f)) (fun (f, rc, gLC) => c.src.length - f) ((0, fun _ => none, s1)) rfl (.p rfl) ?_ ?_
  ·
   refine ⟨.refl _ _, by assumption, .inl rfl, by assumption, by omega, ?_⟩
   exact ⟨by omega, .nil _ _ _ _⟩
  rintro ⟨f, rc, gLC⟩ HL1 ⟨e3, e5, _, a7, y0, hI⟩ _ aO
  dsimp only [cA, nA]
  have _ : H.next ≤ gLC := by omega
  have _ := e3.nx
  replace l := l.st e3 (fun k hk => ⟨by omega, by omega, trivial⟩)
  have p0 : NE g1 g3 := .a
  replace m := e3.same _ _ ⟨(by first | assumption | omega), p0.ne, trivial⟩ m
  replace w9 := e3.same _ _ ⟨(by first | assumption | omega), (by first | assumption | omega), trivial⟩ w9
  replace q4 := e3.same _ _ ⟨(by first | assumption | omega), (by first | assumption | omega), trivial⟩ q4
  replace r5 := e3.same _ _ ⟨(by first | assumption | omega), (by first | assumption | omega), trivial⟩ r5
  replace q8 := e3.same _ _ ⟨(by first | assumption | omega), (by first | assumption | omega), trivial⟩ q8
  have _ := GHeap.ltg e5
  have _ := GHeap.ltg a7
  replace hin := d.mono l
  clear u
  have u : Cat.At _ g1 0 c p := ⟨Mem.of_get m, hin⟩
  obtain ⟨-, x6, -, -, -, -, -, -, -⟩ := u.get
  have rk := St.refl [gLC, g3] HL1
  obtain ⟨_, hR⟩ := hI
  have hatC := e5
  have aQ := a7
  have _ := c.length_opTab f
  have _ : (slsL rc (c.opTab f)).length = (c.opTab f).length := length_slsL _ _
  refine .seq (fun K5 bS => .seq (fun K6 bG => .region (.mv rfl (.q rfl (.fieldAddr fo_27_1_B rfl) (.q rfl (.lA on_24_B rfl) (.q rfl (.len sl_24_A rfl) (.q rfl (.cmp rfl rfl rfl) (.nil (bG _ _ ?_)))))))))
  refine .cond rfl ?_ ?_ <;> intro aX
  ·
   simp only [sps] at aX
   refine .skip (bS _ _ (.seq (fun K7 bP => .block (.seq (fun K8 bI => .region ?_)))))
   refine .R rfl (.litA rfl sl_24_A ze_2_L rfl rfl rfl rfl) ?_
   rintro _ aR ⟨aS, rfl, r8, _, w1⟩
   replace l := l.trans r8
   replace e3 := e3.le r8
   replace rk := rk.le r8
   replace m := r8.2 _ _ m
   replace e5 := r8.2 _ _ e5
   replace a7 := r8.2 _ _ a7
   have _ := GHeap.ltg w1
   replace hin := d.mono l
   clear u x6
   have u : Cat.At _ g1 0 c p := ⟨Mem.of_get m, hin⟩
   replace w1 : GHeap.get aR aS = some (.row (ints []) 2 true) := w1
   refine .mv rfl (.nil (bI _ _ (.seq (fun K9 bD => .seq (fun K10 aB => .region (.mv rfl (.nil (aB _ _ (.block ?_)))))))))
   refine .loopF (σ := Nat × Nat × Nat) [1, 2, 3, 4] (fun (g, t0, x0) => [(6, some (.int .i64 (g : Int))), (5, some (.slice (some ⟨t0, 0, none⟩) x0 x0))]) (fun (g, t0, x0) H' => St [aS] aR H' ∧ H'.get t0 = some (.row (ints (c.opRow f g)) 2 true) ∧ (t0 = aS ∨ aR.next ≤ t0) ∧ x0 = (c.opRow f g).length ∧ g ≤ c.src.length) (fun (g, t0, x0) => c.src.length - g) ((0, _, _)) rfl (.p rfl) ?_ ?_
   ·
    refine ⟨.refl _ _, by assumption, .inl rfl, by rfl, ?_⟩
    omega
   rintro ⟨g, t0, x0⟩ _ ⟨l2, h7, _, x1, hI⟩ _ aG
   dsimp only [cA, nA]
   have _ : H.next ≤ t0 := by omega
   have _ := l2.nx
   replace l := l.st l2 (fun k hk => ⟨by omega, trivial⟩)
   replace e3 := e3.sA l2
   replace rk := rk.sA l2
   replace m := l2.s m
   replace e5 := l2.s e5
   replace a7 := l2.s a7
   replace hin := d.mono l
   clear u
   have u : Cat.At _ g1 0 c p := ⟨Mem.of_get m, hin⟩
   obtain ⟨-, x6, -, -, bB, -, -, -, bA⟩ := u.get
   have _ := c.length_opRow f g
   refine .seq (fun K11 aT => .seq (fun K12 aU => .region (.mv rfl (.q rfl (.fieldAddr fo_27_1_B rfl) (.q rfl (.lA on_24_B rfl) (.q rfl (.len sl_24_A rfl) (.q rfl (.cmp rfl rfl rfl) (.nil (aU _ _ ?_)))))))))
   refine .cond rfl ?_ ?_ <;> intro aZ
   ·
    simp only [sps] at aZ
    have _ := b9 g (by omega)
    have u1 := bA.2 g (by omega)
    refine .skip (aT _ _ (.seq (fun K13 aH => .block (.region (.mv rfl (.q rfl (.fieldAddr fo_27_4_B rfl) (.q rfl (.lA on_25_B rfl) (.mv rfl ?_))))))))
    refine .q rfl (.idxN sl_25_B (Intss.sl (by assumption)) rfl rfl (by omega)) ?_
    refine .q rfl (.loadR on_24_B (by assumption) rfl (by omega)) ?_
    refine .mv rfl (.q rfl (.iN sl_24_A rfl rfl) (.q rfl (.lI on_2_A rfl) ?_))
    refine .R rfl (.litA rfl sl_24_A ze_2_L rfl rfl rfl rfl) ?_
    rintro _ _ ⟨_, rfl, u0, _, aI⟩
    replace l := l.trans u0
    replace l2 := l2.le u0
    replace m := u0.2 _ _ m
    replace h7 := u0.2 _ _ h7
    have _ := GHeap.ltg aI
    replace hin := d.mono l
    clear u x6 bB bA
    have u : Cat.At _ g1 0 c p := ⟨Mem.of_get m, hin⟩
    clear u1
    refine .R rfl (.apI rfl sl_24_A ze_2_L rfl by_2_L sl_24_A rfl rfl) ?_
    rintro _ _ ⟨_, rfl, v8, _, _⟩
    replace l := l.st v8 (fun k hk => ⟨by omega, trivial⟩)
    replace l2 := l2.sA v8
    replace m := v8.s m
    replace hin := d.mono l
    clear u
    have u : Cat.At _ g1 0 c p := ⟨Mem.of_get m, hin⟩
    refine .mv rfl (.nil (aH _ _ (.region (.mv rfl (.q rfl (.aD rfl rfl rfl) (.mv rfl (.nil ?_)))))))
    refine aG ((g + 1, _, _)) _ _ ?_ ?_ (.p rfl)
    ·
     refine ⟨l2, by (rw [Cat.opRow_snoc]; assumption), by omega, by (rw [Cat.opRow_snoc] <;> (first | omega | (simp only [List.length_append, List.length_cons, List.length_nil] <;> omega))), ?_⟩
     omega
    (dsimp only; omega)
   try simp only [sps] at aZ
   refine .exit (bD _ _ (.region ?_))
   obtain rfl : g = c.src.length := by omega
   have aV := x1.symm
   refine .q rfl (.fieldAddr fo_27_4_B rfl) (.q rfl (.load on_25_B rfl (Mem.of_get a7 4 _ rfl)) (.mv rfl ?_))
   refine .R rfl (.litA rfl sl_25_B ze_24_Hj rfl rfl rfl rfl) ?_
   rintro _ _ ⟨_, rfl, p7, _, aF⟩
   replace l := l.trans p7
   replace e3 := e3.le p7
   replace rk := rk.le p7
   replace m := p7.2 _ _ m
   replace e5 := p7.2 _ _ e5
   replace a7 := p7.2 _ _ a7
   replace h7 := p7.2 _ _ h7
   have _ := GHeap.ltg aF
   replace hin := d.mono l
   have u : Cat.At _ g1 0 c p := ⟨Mem.of_get m, hin⟩
   refine .R rfl (.appendV rfl sl_25_B ze_24_Hj rfl by_24_Hj sl_25_B rfl rfl (by assumption) (by assumption) (by first | omega | (simp <;> omega)) rfl rfl (by omega) (by omega)) ?_
   rintro _ _ ⟨bQ, rfl, q5, _, y7⟩
   replace l := l.st q5 (fun k hk => ⟨by omega, trivial⟩)
   replace e3 := e3.sA q5
   replace rk := rk.sA q5
   replace m := q5.s m
   replace a7 := q5.same _ _ ⟨(Ne.symm y0), trivial⟩ a7
   replace h7 := q5.s h7
   replace hin := d.mono l
   clear u
   have u : Cat.At _ g1 0 c p := ⟨Mem.of_get m, hin⟩
   refine .q rfl (.fieldAddr fo_27_4_B rfl) ?_
   refine .r0 rfl rfl (.storeR rfl sz_25_Ch rfl rfl rfl (by assumption) (by first | exact Nat.le_of_ble_eq_true rfl | (simp; done) | (simp <;> omega))) ?_
   rintro _ _ ⟨rfl, f9, u2⟩
   replace l := l.st f9 (fun k hk => ⟨by omega, trivial⟩)
   replace e3 := e3.sA f9
   replace rk := rk.sA f9
   replace m := f9.s m p0.ne
   replace h7 := f9.s h7
   replace y7 := f9.s y7
   replace hin := d.mono l
   clear u
   have u : Cat.At _ g1 0 c p := ⟨Mem.of_get m, hin⟩
   try simp only [Nat.zero_add, List.set_cons_succ, List.set_cons_zero] at u2
   refine .nil (bP _ _ (.region (.mv rfl (.q rfl (.aD rfl rfl rfl) (.mv rfl (.nil ?_))))))
   refine aO ((f + 1, upd rc (c.opTab f).length (some ⟨t0, 0, none⟩), bQ)) _ _ ?_ ?_ (.p rfl)
   ·
    refine ⟨e3, by (rw [Cat.opTab_snoc, slsL_snoc, aV]; assumption), by omega, by assumption, by omega, ?_⟩
    have hR' := hR.st rk (.cons (hR.neT hatC rfl) (.cons (hR.neT aQ rfl) (.nil _ _)))
    have bN : HL1.next ≤ t0 := by omega
    have bJ := hR.ne (g := t0) bN
    have hrow := h7
    rw [Cat.opTab_snoc]
    exact ⟨by omega, hR'.snoc2 hrow bJ (by omega)⟩
   (dsimp only; omega)
  try simp only [sps] at aX
  refine .exit (bH _ _ (.seq (fun K14 aP => .region ?_)))
  refine .q rfl (.loadM ag_27_D rfl ⟨rfl, Mem.of_get a7⟩) ?_
  obtain rfl : f = c.src.length := by omega
  have aW := w9
  refine .r0 rfl rfl (.fillA rfl sz_27_D rfl rfl rfl rfl) ?_
  rintro _ _ ⟨rfl, e1, t9⟩
  replace l := l.st e1 (fun k hk => ⟨by omega, trivial⟩)
  replace m := e1.s m
  replace q4 := e1.s q4
  replace r5 := e1.s r5
  replace q8 := e1.s q8
  replace e5 := e1.s e5
  replace hin := d.mono l
  have u : Cat.At _ g1 0 c p := ⟨Mem.of_get m, hin⟩
  refine .nil (aP _ _ (.ret (aJ _ _ (⟨_, _, _, _, rfl, ag_27_D, (by rfl), (Mem.of_get t9), ?_⟩))))
  have hrc := (hR.st e1 (.cons (hR.neT aW rfl) (.nil _ _)))
  exact ⟨l, t6, t2, s2, gLC, rc, by simp [Cat.cells, Cat.op, ownP, b3], ⟨q4, r5, q8, e5, by omega, by omega, by omega, by omega, by omega, by omega, by omega, hrc.low (by omega), hR.lowNe (by omega), hR.lowNe (by omega), hR.lowNe (by omega)⟩⟩
end Go.Proofs.Ytfanjkbaemhbmaa
namespace Go.Proofs.Ytfanjkbaemhbmaa
open Go Go.GL Go.RowKit Go.Proofs
set_option maxHeartbeats 8000000 in
theorem l03PosetG_c {a : Option Addr} {r : Nat → Option Addr} {rel : List (List Int)} {H : GHeap} (hin : Intss H a rel r := by assumption) (hn : rel.length ≤ 8) (hr : ∀ i, i < rel.length → (rel.getD i []).length = rel.length) (hRT : RelT rel.length rel) :
    GCalls Try.prog 31 [.slice a rel.length rel.length] H (NewGd 2 24 (8 * rel.length) rel.length H) := by
  refine GCalls.body (N := 133) (rs := [.cell 2 27]) Try.func31 rfl rfl rfl rfl (fun Qx r4 hend => ?_)
  refine .fg [0] rfl ?_
  have a3 := GHeap.Le.refl H
  have h5 := hin
  refine .seq (fun K1 u0 => .region ?_)
  refine .R rfl (.allocR rfl ze_27_I rfl) ?_
  rintro _ _ ⟨g2, rfl, u4, _, d4⟩
  replace a3 := a3.trans u4
  have _ := GHeap.ltg d4
  refine .nil (u0 _ _ (.seq (fun K2 v0 => .region (.mv rfl (.q rfl (.len sl_25_B rfl) (.mv rfl (.nil (v0 _ _ (.seq (fun K3 v1 => .region ?_))))))))))
  refine .R rfl (.litA rfl sl_25_B ze_24_Hj rfl rfl rfl rfl) ?_
  rintro _ _ ⟨n8, rfl, l5, _, b1⟩
  replace a3 := a3.trans l5
  replace d4 := l5.2 _ _ d4
  have _ := GHeap.ltg b1
  refine .mv rfl (.nil (v1 _ _ (.seq (fun K4 u8 => .region (.mv rfl ?_)))))
  refine .R rfl (.litA rfl sl_24_A ze_2_L rfl rfl rfl rfl) ?_
  rintro _ t9 ⟨k2, rfl, k5, _, b4⟩
  replace a3 := a3.trans k5
  replace d4 := k5.2 _ _ d4
  replace b1 := k5.2 _ _ b1
  have _ := GHeap.ltg b4
  replace b4 : GHeap.get t9 k2 = some (.row (ints []) 2 true) := b4
  refine .R rfl (.litA rfl sl_24_A ze_2_L rfl rfl rfl rfl) ?_
  rintro _ v7 ⟨k3, rfl, i7, _, b9⟩
  replace a3 := a3.trans i7
  replace d4 := i7.2 _ _ d4
  replace b1 := i7.2 _ _ b1
  replace b4 := i7.2 _ _ b4
  have _ := GHeap.ltg b9
  replace b9 : GHeap.get v7 k3 = some (.row (ints []) 2 true) := b9
  refine .R rfl (.litA rfl sl_24_A ze_2_L rfl rfl rfl rfl) ?_
  rintro _ v2 ⟨g7, rfl, h9, _, c9⟩
  replace a3 := a3.trans h9
  replace d4 := h9.2 _ _ d4
  replace b1 := h9.2 _ _ b1
  replace b4 := h9.2 _ _ b4
  replace b9 := h9.2 _ _ b9
  have _ := GHeap.ltg c9
  replace c9 : GHeap.get v2 g7 = some (.row (ints []) 2 true) := c9
  refine .R rfl (.litA rfl sl_25_B ze_24_Hj rfl rfl rfl rfl) ?_
  rintro _ _ ⟨g6, rfl, g1, _, e5⟩
  replace a3 := a3.trans g1
  replace d4 := g1.2 _ _ d4
  replace b1 := g1.2 _ _ b1
  replace b4 := g1.2 _ _ b4
  replace b9 := g1.2 _ _ b9
  replace c9 := g1.2 _ _ c9
  have _ := GHeap.ltg e5
  refine .q rfl (.build bt_27_Hj rfl rfl rfl) ?_
  refine .R rfl (.allocR rfl ze_27_I rfl) ?_
  rintro _ _ ⟨g5, rfl, j7, _, _⟩
  have _ := j7.1
  replace a3 := a3.trans j7
  replace d4 := j7.2 _ _ d4
  replace b1 := j7.2 _ _ b1
  replace b4 := j7.2 _ _ b4
  replace b9 := j7.2 _ _ b9
  replace c9 := j7.2 _ _ c9
  replace e5 := j7.2 _ _ e5
  refine .r0 rfl rfl (.fillA rfl sz_27_D rfl rfl rfl rfl) ?_
  rintro _ a4 ⟨rfl, a1, k0⟩
  have _ := a1.nx
  replace a3 := a3.st a1 (fun k hk => ⟨by omega, trivial⟩)
  have a0 : NE g2 g5 := .a
  replace d4 := a1.s d4 a0.ne
  replace b1 := a1.s b1
  replace b4 := a1.s b4
  replace b9 := a1.s b9
  have d7 : NE g7 g5 := .a
  replace c9 := a1.s c9 d7.ne
  have a9 : NE g6 g5 := .a
  replace e5 := a1.s e5 a9.ne
  have _ := GHeap.ltg k0
  refine .nil (u8 _ _ (.seq (fun K5 u9 => .seq (fun K6 u7 => .region (.mv rfl (.nil (u7 _ _ (.block ?_))))))))
  refine .loopF (σ := Nat × List Int × List Int × List (List Int) × (Nat → Option Addr) × Nat × Nat × Nat × Nat) [0, 2, 3, 5] (fun (i, ss, ts, num, rn, g9, k8, gLF, gLT) => [(6, some (.int .i64 (i : Int))), (4, some (.slice (some ⟨g9, 0, none⟩) k8 k8))]) (fun (i, ss, ts, num, rn, g9, k8, gLF, gLT) H' => St [n8, k2, k3, g5] a4 H' ∧ H'.get g9 = some (.row ((slsL rn num)) 24 true) ∧ PL g9 n8 a4.next ∧ k8 = (slsL rn num).length ∧ H'.get gLF = some (.row (ints ss) 2 true) ∧ PL gLF k2 a4.next ∧ H'.get gLT = some (.row (ints ts) 2 true) ∧ PL gLT k3 a4.next ∧ H'.get g5 = some (.row ([.int .i64 (rel.length : Int), .slice (some ⟨gLF, 0, none⟩) ss.length ss.length, .slice (some ⟨gLT, 0, none⟩) ss.length ss.length, .slice (some ⟨g7, 0, none⟩) 0 0, .slice (some ⟨g6, 0, none⟩) 0 0]) 27 true) ∧ g9 ≠ gLF ∧ g9 ≠ gLT ∧ g9 ≠ g5 ∧ gLF ≠ gLT ∧ gLF ≠ g5 ∧ gLT ≠ g5 ∧ (i ≤ rel.length ∧ ss.length ≤ 8 * i ∧ ts.length = ss.length ∧ num.length = i) ∧ Bd 0 (rel.length - 1) ss ∧ Bd 0 (rel.length - 1) ts ∧ Tb 0 (8 * rel.length) rel.length num ∧ (PoM rel ss ts num ∧ PoS rel ss ts) ∧ OwnL a4.next H' 2 rn num ∧ (∀ j, j < num.length → rn j ≠ some ⟨gLF, 0, none⟩) ∧ ∀ j, j < num.length → rn j ≠ some ⟨gLT, 0, none⟩) (fun (i, ss, ts, num, rn, g9, k8, gLF, gLT) => rel.length - i) ((0, [], [], [], fun _ => none, _, _, k2, k3)) rfl (.p rfl) ?_ ?_
  ·
   refine ⟨.refl _ _, by assumption, ⟨.inl rfl⟩, by rfl, by assumption, ⟨.inl rfl⟩, by assumption, ⟨.inl rfl⟩, by assumption, by omega, by omega, by omega, by omega, by omega, by omega, ?_⟩
   exact ⟨⟨by omega, by simp, rfl, rfl⟩, .nil _ _, .nil _ _, .nil _ _ _, ⟨.nil _ _ _, .nil _⟩, .nil _ _ _ _, fun _ h => by simp at h, fun _ h => by simp at h⟩
  rintro ⟨i, ss, ts, num, rn, g9, k8, gLF, gLT⟩ HL1 ⟨a6, e, h2, _, l, d0, m, c6, b, j2, j3, f5, _, j6, j0, hI⟩ _ r1
  dsimp only [cA, nA]
  have _ : H.next ≤ g9 := h2.ge (by omega) (by omega)
  have _ : H.next ≤ gLF := d0.ge (by omega) (by omega)
  have _ : H.next ≤ gLT := c6.ge (by omega) (by omega)
  have _ := a6.nx
  replace a3 := a3.st a6 (fun k hk => ⟨by omega, by omega, by omega, by omega, trivial⟩)
  have d5 : NE g2 k2 := .a
  have e3 : NE g2 k3 := .a
  replace d4 := a6.same _ _ ⟨(by first | assumption | omega), d5.ne, e3.ne, a0.ne, trivial⟩ d4
  have d1 : NE g7 n8 := .a
  have c7 : NE g7 k2 := .a
  have d2 : NE g7 k3 := .a
  replace c9 := a6.same _ _ ⟨d1.ne, c7.ne, d2.ne, d7.ne, trivial⟩ c9
  have c5 : NE g6 n8 := .a
  have d3 : NE g6 k2 := .a
  have c3 : NE g6 k3 := .a
  replace e5 := a6.same _ _ ⟨c5.ne, d3.ne, c3.ne, a9.ne, trivial⟩ e5
  have _ := GHeap.ltg e
  have _ := GHeap.ltg l
  have _ := GHeap.ltg m
  have b0 := GHeap.ltg b
  obtain ⟨⟨hi, _, hts, hnl⟩, hS, hT, hN, ⟨hPM, hPS⟩, hR, k7, k6⟩ := hI
  have hfl : (slsL rn num).length = num.length := length_slsL _ _
  refine .seq (fun K7 v3 => .seq (fun K8 u3 => .region (.mv rfl (.mv rfl (.q rfl (.cmp rfl rfl rfl) (.nil (u3 _ _ ?_)))))))
  refine .cond rfl ?_ ?_ <;> intro t4
  ·
   simp only [sps] at t4
   have _ := hr i (by omega)
   refine .skip (v3 _ _ (.seq (fun K9 v5 => .block (.seq (fun K10 o2 => .region ?_)))))
   refine .R rfl (.litA rfl sl_24_A ze_2_L rfl rfl rfl rfl) ?_
   rintro _ m1 ⟨n6, rfl, f0, _, j9⟩
   have _ := f0.1
   replace a3 := a3.trans f0
   replace a6 := a6.le f0
   replace e := f0.2 _ _ e
   replace l := f0.2 _ _ l
   replace m := f0.2 _ _ m
   replace b := f0.2 _ _ b
   have _ := GHeap.ltg j9
   replace j9 : GHeap.get m1 n6 = some (.row (ints []) 2 true) := j9
   refine .mv rfl (.nil (o2 _ _ (.seq (fun K11 p3 => .seq (fun K12 q3 => .region (.mv rfl (.nil (q3 _ _ (.block ?_)))))))))
   refine .loopF (σ := Nat × List Int × List Int × List Int × Nat × Nat × Nat × Nat) [0, 2, 3, 4, 5, 6] (fun (j, s2, t2, row, g4, l0, b5, b2) => [(8, some (.int .i64 (j : Int))), (7, some (.slice (some ⟨g4, 0, none⟩) l0 l0))]) (fun (j, s2, t2, row, g4, l0, b5, b2) H' => St [n6, gLF, gLT, g5] m1 H' ∧ H'.get g4 = some (.row (ints row) 2 true) ∧ PL g4 n6 m1.next ∧ l0 = row.length ∧ H'.get b5 = some (.row (ints s2) 2 true) ∧ PL b5 gLF m1.next ∧ H'.get b2 = some (.row (ints t2) 2 true) ∧ PL b2 gLT m1.next ∧ H'.get g5 = some (.row ([.int .i64 (rel.length : Int), .slice (some ⟨b5, 0, none⟩) s2.length s2.length, .slice (some ⟨b2, 0, none⟩) s2.length s2.length, .slice (some ⟨g7, 0, none⟩) 0 0, .slice (some ⟨g6, 0, none⟩) 0 0]) 27 true) ∧ g4 ≠ b5 ∧ g4 ≠ b2 ∧ g4 ≠ g5 ∧ b5 ≠ b2 ∧ b5 ≠ g5 ∧ b2 ≠ g5 ∧ (j ≤ rel.length ∧ s2.length ≤ 8 * i + j ∧ t2.length = s2.length ∧ row.length = j) ∧ Bd 0 (rel.length - 1) s2 ∧ Bd 0 (rel.length - 1) t2 ∧ Bd 0 (8 * rel.length) row ∧ (PoM rel s2 t2 num ∧ PoS rel s2 t2 ∧ PoR rel s2 t2 i row) ∧ OwnL a4.next H' 2 rn num ∧ (∀ j, j < num.length → rn j ≠ some ⟨g4, 0, none⟩) ∧ (∀ j, j < num.length → rn j ≠ some ⟨b5, 0, none⟩) ∧ ∀ j, j < num.length → rn j ≠ some ⟨b2, 0, none⟩) (fun (j, s2, t2, row, g4, l0, b5, b2) => rel.length - j) ((0, ss, ts, [], _, _, gLF, gLT)) rfl (.p rfl) ?_ ?_
   ·
    refine ⟨.refl _ _, by assumption, ⟨.inl rfl⟩, by rfl, by assumption, ⟨.inl rfl⟩, by assumption, ⟨.inl rfl⟩, by assumption, by omega, by omega, by omega, by omega, by omega, by omega, ?_⟩
    exact ⟨⟨by omega, by omega, by omega, rfl⟩, hS, hT, .nil _ _, ⟨hPM, hPS, .nil _ _ _ _⟩, hR.keep (.of_le (by assumption)), hR.ne (by omega), k7, k6⟩
   rintro ⟨j, s2, t2, row, g4, l0, b5, b2⟩ HL2 ⟨o, e2, h4, l3, n, h1, d, h6, b, n4, l8, n5, l7, m0, j1, hI⟩ _ n0
   dsimp only [cA, nA]
   have _ : H.next ≤ g4 := h4.ge (by omega) (by omega)
   have _ := o.nx
   replace a3 := a3.st o (fun k hk => ⟨by omega, by omega, by omega, by omega, trivial⟩)
   replace a6 := a6.st o (fun k hk ho => by simp only [out, and_true] at ho ⊢ <;> exact ⟨by first | exact ho | exact ho.1 | exact ho.2 | exact ho.2.1 | exact ho.2.2 | exact ho.2.2.1 | exact ho.2.2.2 | omega, by first | exact ho | exact ho.1 | exact ho.2 | exact ho.2.1 | exact ho.2.2 | exact ho.2.2.1 | exact ho.2.2.2 | exact d0.ne (by first | exact ho | exact ho.1 | exact ho.2 | exact ho.2.1 | exact ho.2.2 | exact ho.2.2.1 | exact ho.2.2.2 | omega) (by omega) | omega, by first | exact ho | exact ho.1 | exact ho.2 | exact ho.2.1 | exact ho.2.2 | exact ho.2.2.1 | exact ho.2.2.2 | exact c6.ne (by first | exact ho | exact ho.1 | exact ho.2 | exact ho.2.1 | exact ho.2.2 | exact ho.2.2.1 | exact ho.2.2.2 | omega) (by omega) | omega, by first | exact ho | exact ho.1 | exact ho.2 | exact ho.2.1 | exact ho.2.2 | exact ho.2.2.1 | exact ho.2.2.2 | omega⟩)
   have c4 : NE g9 n6 := .a
   replace e := o.same _ _ ⟨c4.ne, j2, j3, f5, trivial⟩ e
   have _ := GHeap.ltg n
   have _ := GHeap.ltg d
   have b0 := GHeap.ltg b
   have rk := St.refl [g4, b5, b2, g5] HL2
   obtain ⟨⟨_, _, hts, hrl⟩, hS, hT, hB, ⟨hPM, hPS, hPR⟩, hR, h7, k7, k6⟩ := hI
   refine .seq (fun K13 s6 => .seq (fun K14 r5 => .region (.mv rfl (.mv rfl (.q rfl (.cmp rfl rfl rfl) (.nil (r5 _ _ ?_)))))))
   refine .cond rfl ?_ ?_ <;> intro s9
   ·
    try simp only [sps] at s9
    refine .skip (s6 _ _ (.seq (fun K15 m9 => .block (.seq (fun K16 o6 => .region (.mv rfl (.q rfl (.fieldAddr fo_27_1_B rfl) ?_)))))))
    refine .q rfl (.load on_24_B rfl (by first | assumption | exact Mem.of_get b 1 _ rfl)) ?_
    refine .q rfl (.len sl_24_A rfl) ?_
    refine .R rfl (.litA rfl sl_24_A ze_2_L rfl rfl rfl rfl) ?_
    rintro _ _ ⟨_, rfl, f1, _, p8⟩
    replace a3 := a3.trans f1
    replace o := o.le f1
    replace rk := rk.le f1
    replace e2 := f1.2 _ _ e2
    replace n := f1.2 _ _ n
    replace d := f1.2 _ _ d
    replace b := f1.2 _ _ b
    have _ := GHeap.ltg p8
    refine .R rfl (.apI rfl sl_24_A ze_2_L rfl by_2_L sl_24_A rfl rfl) ?_
    rintro _ _ ⟨u5, rfl, g0, _, b3⟩
    replace a3 := a3.st g0 (fun k hk => ⟨by omega, trivial⟩)
    replace o := o.sP g0
    replace rk := rk.sP g0
    replace n := g0.same _ _ ⟨(Ne.symm n4), trivial⟩ n
    replace d := g0.same _ _ ⟨(Ne.symm l8), trivial⟩ d
    replace b := g0.same _ _ ⟨(Ne.symm n5), trivial⟩ b
    have _ := GHeap.ltg b3
    replace hin := h5.mono a3
    refine .mv rfl (.nil (o6 _ _ (.seq (fun K17 p2 => .region ?_))))
    have u1 := hin.2 i (by omega)
    refine .mv rfl (.mv rfl ?_)
    refine .q rfl (.idxN sl_25_B (Intss.sl (by assumption)) rfl rfl (by omega)) ?_
    refine .q rfl (.loadR on_24_B (by assumption) rfl (by omega)) ?_
    refine .mv rfl (.q rfl (.iN sl_24_A rfl rfl) (.q rfl (.lI on_2_A rfl) (.q rfl (.cmp rfl rfl rfl) (.nil (p2 _ _ ?_)))))
    refine .cond rfl ?_ ?_ <;> intro n7
    ·
     simp only [sps] at n7
     obtain ⟨s3, k9, t7, o3⟩ : ∃ s3, s3 = s2 ++ [(i : Int)] ∧ s3.length = s2.length + 1 ∧ Bd 0 (rel.length - 1) s3 := ⟨_, rfl, by simp, hS.snoc (by omega) (by omega)⟩
     obtain ⟨t3, m7, u2, r3⟩ : ∃ t3, t3 = t2 ++ [(j : Int)] ∧ t3.length = t2.length + 1 ∧ Bd 0 (rel.length - 1) t3 := ⟨_, rfl, by simp, hT.snoc (by omega) (by omega)⟩
     have p1 : PoM rel s3 t3 num ∧ PoS rel s3 t3 ∧ PoR rel s3 t3 i (row ++ [(s2.length : Int)]) := by
       rw [k9, m7]
       exact ⟨hPM.grow hts, hPS.snoc hts n7, hPR.snocT hts hrl⟩
     refine .seq (fun K18 p9 => .region (.q rfl (.fieldAddr fo_27_1_B rfl) ?_))
     refine .q rfl (.load on_24_B rfl (by first | assumption | exact Mem.of_get b 1 _ rfl)) ?_
     refine .mv rfl ?_
     refine .R rfl (.litA rfl sl_24_A ze_2_L rfl rfl rfl rfl) ?_
     rintro _ _ ⟨_, rfl, f9, _, s0⟩
     replace o := o.le f9
     replace rk := rk.le f9
     replace n := f9.2 _ _ n
     replace d := f9.2 _ _ d
     replace b := f9.2 _ _ b
     replace b3 := f9.2 _ _ b3
     have _ := GHeap.ltg s0
     refine .R rfl (.apI rfl sl_24_A ze_2_L rfl by_2_L sl_24_A rfl rfl) ?_
     rintro _ _ ⟨t5, rfl, g8, _, e6⟩
     replace o := o.sQ g8
     replace rk := rk.sQ g8
     replace d := g8.same _ _ ⟨(Ne.symm l7), trivial⟩ d
     replace b := g8.same _ _ ⟨(Ne.symm m0), trivial⟩ b
     replace b3 := g8.s b3
     have _ := GHeap.ltg e6
     refine .q rfl (.fieldAddr fo_27_1_B rfl) ?_
     refine .r0 rfl rfl (.storeR rfl sz_24_Ch rfl rfl rfl (by assumption) (by first | exact Nat.le_of_ble_eq_true rfl | (simp; done) | (simp <;> omega))) ?_
     rintro _ _ ⟨rfl, a2, u⟩
     have _ := a2.nx
     replace o := o.sA a2
     replace rk := rk.sA a2
     replace d := a2.same _ _ ⟨j1, trivial⟩ d
     have e1 : NE u5 g5 := .a
     replace b3 := a2.s b3 e1.ne
     have d8 : NE t5 g5 := .a
     replace e6 := a2.s e6 d8.ne
     have _ := GHeap.ltg u
     try simp only [Nat.zero_add, List.set_cons_succ, List.set_cons_zero] at u
     refine .nil (p9 _ _ (.region (.q rfl (.fieldAddr fo_27_2_B rfl) ?_)))
     refine .q rfl (.load on_24_B rfl (by first | assumption | exact Mem.of_get u 2 _ rfl)) ?_
     refine .mv rfl ?_
     refine .R rfl (.litA rfl sl_24_A ze_2_L rfl rfl rfl rfl) ?_
     rintro _ _ ⟨_, rfl, f8, _, p5⟩
     replace o := o.le f8
     replace rk := rk.le f8
     replace d := f8.2 _ _ d
     replace b3 := f8.2 _ _ b3
     replace e6 := f8.2 _ _ e6
     replace u := f8.2 _ _ u
     have _ := GHeap.ltg p5
     refine .R rfl (.apI rfl sl_24_A ze_2_L rfl by_2_L sl_24_A rfl rfl) ?_
     rintro _ _ ⟨v6, rfl, h0, _, m4⟩
     replace o := o.sQ h0
     replace rk := rk.sQ h0
     replace b3 := h0.s b3
     replace e6 := h0.s e6
     replace u := h0.same _ _ ⟨(Ne.symm j1), trivial⟩ u
     refine .q rfl (.fieldAddr fo_27_2_B rfl) ?_
     refine .r0 rfl rfl (.storeR rfl sz_24_Ch rfl rfl rfl (by assumption) (by first | exact Nat.le_of_ble_eq_true rfl | (simp; done) | (simp <;> omega))) ?_
     rintro _ _ ⟨rfl, a7, i6⟩
     replace o := o.sA a7
     replace rk := rk.sA a7
     replace b3 := a7.s b3 e1.ne
     replace e6 := a7.s e6 d8.ne
     replace m4 := a7.s m4
     try simp only [Nat.zero_add, List.set_cons_succ, List.set_cons_zero] at i6
     refine .nil (m9 _ _ (.region (.mv rfl (.q rfl (.aD rfl rfl rfl) (.mv rfl (.nil ?_))))))
     refine n0 ((j + 1, s3, t3, row ++ [(s2.length : Int)], _, _, t5, v6)) _ _ ?_ ?_ (.p rfl)
     ·
      refine ⟨o, by assumption, by exact ⟨.inr (by omega)⟩, by (simp only [List.length_append, List.length_cons, List.length_nil] <;> omega), by (rw [k9]; assumption), by exact ⟨.inr (by omega)⟩, by (rw [m7]; assumption), by exact ⟨.inr (by omega)⟩, by (rw [t7]; assumption), by omega, by omega, by omega, by omega, by omega, by omega, ?_⟩
      have hR' := hR.st rk (.cons h7 (.cons k7 (.cons k6 (.cons (hR.lowNe (by omega)) (.nil _ _)))))
      exact ⟨⟨by omega, by omega, by omega, by simp; omega⟩, o3, r3, hB.snoc (by omega) (by omega), p1, hR', hR.ne (by omega), by first | exact k7 | exact hR.ne (by omega), by first | exact k6 | exact hR.ne (by omega)⟩
     (dsimp only; omega)
    simp only [sps] at n7
    obtain ⟨s3, k9, t7, o3⟩ : ∃ s3, s3 = s2 ∧ s3.length = s2.length ∧ Bd 0 (rel.length - 1) s3 := ⟨_, rfl, by simp, hS⟩
    obtain ⟨t3, m7, u2, r3⟩ : ∃ t3, t3 = t2 ∧ t3.length = t2.length ∧ Bd 0 (rel.length - 1) t3 := ⟨_, rfl, by simp, hT⟩
    have p1 : PoM rel s3 t3 num ∧ PoS rel s3 t3 ∧ PoR rel s3 t3 i (row ++ [(s2.length : Int)]) := by
      rw [k9, m7]
      exact ⟨hPM, hPS, hPR.snocF (by rw [hrl]; exact n7)⟩
    refine .skip (m9 _ _ (.region (.mv rfl (.q rfl (.aD rfl rfl rfl) (.mv rfl (.nil ?_))))))
    refine n0 ((j + 1, s3, t3, row ++ [(s2.length : Int)], _, _, b5, b2)) _ _ ?_ ?_ (.p rfl)
    ·
     refine ⟨o, by assumption, by exact ⟨.inr (by omega)⟩, by (simp only [List.length_append, List.length_cons, List.length_nil] <;> omega), by (rw [k9]; assumption), by assumption, by (rw [m7]; assumption), by assumption, by (rw [k9]; assumption), by omega, by omega, by omega, by assumption, by assumption, by assumption, ?_⟩
     have hR' := hR.st rk (.cons h7 (.cons k7 (.cons k6 (.cons (hR.lowNe (by omega)) (.nil _ _)))))
     exact ⟨⟨by omega, by omega, by omega, by simp; omega⟩, o3, r3, hB.snoc (by omega) (by omega), p1, hR', hR.ne (by omega), by first | exact k7 | exact hR.ne (by omega), by first | exact k6 | exact hR.ne (by omega)⟩
    (dsimp only; omega)
   try simp only [sps] at s9
   refine .exit (p3 _ _ (.region ?_))
   obtain rfl : j = rel.length := by omega
   obtain rfl := l3
   have o0 := e
   refine .mv rfl (.mv rfl ?_)
   refine .R rfl (.litA rfl sl_25_B ze_24_Hj rfl rfl rfl rfl) ?_
   rintro _ _ ⟨_, rfl, f2, _, q5⟩
   replace a6 := a6.le f2
   replace e := f2.2 _ _ e
   replace e2 := f2.2 _ _ e2
   replace n := f2.2 _ _ n
   replace d := f2.2 _ _ d
   replace b := f2.2 _ _ b
   have _ := GHeap.ltg q5
   refine .R rfl (.appendV rfl sl_25_B ze_24_Hj rfl by_24_Hj sl_25_B rfl rfl (by assumption) (by assumption) (by first | omega | (simp <;> omega)) rfl rfl (by omega) (by omega)) ?_
   rintro _ _ ⟨_, rfl, g3, _, _⟩
   replace a6 := a6.sP g3
   replace e2 := g3.same _ _ ⟨(Ne.symm (h4.ne c4.ne (by omega))), trivial⟩ e2
   replace n := g3.same _ _ ⟨(Ne.symm (h1.ne j2 (by omega))), trivial⟩ n
   replace d := g3.same _ _ ⟨(Ne.symm (h6.ne j3 (by omega))), trivial⟩ d
   replace b := g3.same _ _ ⟨(Ne.symm f5), trivial⟩ b
   refine .mv rfl (.nil (v5 _ _ (.region (.mv rfl (.q rfl (.aD rfl rfl rfl) (.mv rfl (.nil ?_)))))))
   refine r1 ((i + 1, s2, t2, num ++ [row], upd rn num.length (some ⟨g4, 0, none⟩), _, _, b5, b2)) _ _ ?_ ?_ (.p rfl)
   ·
    refine ⟨a6, by (rw [slsL_snoc]; assumption), by exact ⟨.inr (by omega)⟩, by (rw [slsL_snoc] <;> (first | omega | (simp only [List.length_append, List.length_cons, List.length_nil] <;> omega))), by assumption, by exact h1.trans d0 (by omega), by assumption, by exact h6.trans c6 (by omega), by assumption, by omega, by omega, by omega, by assumption, by assumption, by assumption, ?_⟩
    have hR' := (hR.keep (.of_le f2)).st g3 (.cons (hR.neT o0 rfl) (.nil _ _))
    exact ⟨⟨by omega, by omega, by omega, by simp; omega⟩, hS, hT, hN.snoc (by omega) hB, ⟨hPM.snoc (by rw [hnl]; exact hPR), hPS⟩, hR'.snoc2 (by assumption) h7 (h4.ge (by omega) (by omega)), ne_snoc k7 (by omega), ne_snoc k6 (by omega)⟩
   (dsimp only; omega)
  try simp only [sps] at t4
  refine .exit (u9 _ _ (.seq (fun K19 s1 => .seq (fun K20 q9 => .region ?_))))
  obtain rfl : i = rel.length := by omega
  refine .mv rfl (.nil (q9 _ _ (.block ?_)))
  refine .loopF (σ := Nat × List Int × Nat) [2, 3, 4, 5] (fun (x, is, gLI) => [(9, some (.int .i64 (x : Int)))]) (fun (x, is, gLI) H' => St [g7, g5] HL1 H' ∧ H'.get gLI = some (.row (ints is) 2 true) ∧ PL gLI g7 HL1.next ∧ H'.get g5 = some (.row ([.int .i64 (rel.length : Int), .slice (some ⟨gLF, 0, none⟩) ss.length ss.length, .slice (some ⟨gLT, 0, none⟩) ss.length ss.length, .slice (some ⟨gLI, 0, none⟩) x x, .slice (some ⟨g6, 0, none⟩) 0 0]) 27 true) ∧ gLI ≠ g5 ∧ (x ≤ rel.length ∧ is.length = x) ∧ Bd 0 (8 * rel.length) is ∧ IdsL ss ts is ∧ OwnL a4.next H' 2 rn num ∧ ∀ j, j < num.length → rn j ≠ some ⟨gLI, 0, none⟩) (fun (x, is, gLI) => rel.length - x) ((0, [], g7)) rfl (.p rfl) ?_ ?_
  ·
   refine ⟨.refl _ _, by assumption, ⟨.inl rfl⟩, by assumption, by omega, ?_⟩
   exact ⟨⟨by omega, rfl⟩, .nil _ _, .nil _ _, hR, hR.lowNe (by omega)⟩
  rintro ⟨x, is, gLI⟩ HL3 ⟨a8, b6, e9, b, j5, hI⟩ _ r7
  dsimp only [cA, nA]
  have _ : H.next ≤ gLI := e9.ge (by omega) (by omega)
  have _ := a8.nx
  replace a3 := a3.st a8 (fun k hk => ⟨by omega, by omega, trivial⟩)
  have d9 : NE g2 g7 := .a
  replace d4 := a8.same _ _ ⟨d9.ne, a0.ne, trivial⟩ d4
  have c2 : NE g6 g7 := .a
  replace e5 := a8.same _ _ ⟨c2.ne, a9.ne, trivial⟩ e5
  replace e := a8.same _ _ ⟨(Ne.symm (h2.ne d1.ne (by omega))), f5, trivial⟩ e
  replace l := a8.same _ _ ⟨(Ne.symm (d0.ne c7.ne (by omega))), j6, trivial⟩ l
  replace m := a8.same _ _ ⟨(Ne.symm (c6.ne d2.ne (by omega))), j0, trivial⟩ m
  have _ := GHeap.ltg b6
  have b0 := GHeap.ltg b
  have rk := St.refl [gLI, g5] HL3
  obtain ⟨⟨_, hxl⟩, t6, hId, hR, n9⟩ := hI
  refine .seq (fun K21 s5 => .seq (fun K22 r8 => .region (.mv rfl (.mv rfl (.q rfl (.cmp rfl rfl rfl) (.nil (r8 _ _ ?_)))))))
  refine .cond rfl ?_ ?_ <;> intro s8
  ·
   simp only [sps] at s8
   have n1 := hN.at (i := x) (j := x) (by omega) (by omega)
   have n2 := (hN x (by omega)).1
   refine .skip (s5 _ _ (.seq (fun K23 r2 => .block ?_)))
   refine .regionD mo_B (.qs [0, 1, 2, 3, 4, 5, 6, 7, 8] (.c 9 1 (.c 10 0 (.q 11 (.c 12 0 (.done)))))) (by kernel_rfl) ?_
   have iN := (hR.low (b' := H.next) (by omega)).intss e (by omega)
   have u1 := iN.2 x (by omega)
   refine .q rfl (.fieldAddr fo_27_3_B rfl) ?_
   refine .q rfl (.load on_24_B rfl (by first | assumption | exact Mem.of_get b 3 _ rfl)) ?_
   refine .mv rfl rfl (.mv rfl rfl ?_)
   refine .q rfl (.idxN sl_25_B (by first | exact (Intss.sl (by assumption)) | exact SlA.of_row e (by first | rfl | (simp; done) | (simp <;> omega))) rfl rfl (by omega)) ?_
   refine .q rfl (.loadR on_24_B (by assumption) rfl (by omega)) ?_
   refine .mv rfl rfl (.q rfl (.iN sl_24_A rfl rfl) (.q rfl (.lI on_2_A rfl) ?_))
   refine .c1 rfl rfl rfl rfl (.litA rfl sl_24_A ze_2_L rfl rfl rfl rfl) ?_
   rintro _ _ ⟨_, rfl, h8, _, q7⟩
   have v4 := h8
   refine ⟨v4, ?_⟩
   replace a8 := a8.le h8
   replace rk := rk.le h8
   replace b6 := h8.2 _ _ b6
   replace b := h8.2 _ _ b
   have _ := GHeap.ltg q7
   refine .c0 rfl rfl rfl rfl (.apI rfl sl_24_A ze_2_L rfl by_2_L sl_24_A rfl rfl) ?_
   rintro _ _ ⟨v8, rfl, j8, _, m8⟩
   replace a8 := a8.sP j8
   replace rk := rk.sP j8
   replace b := j8.same _ _ ⟨(Ne.symm j5), trivial⟩ b
   refine .q rfl (.fieldAddr fo_27_3_B rfl) ?_
   refine .r0 rfl rfl rfl (.storeR rfl sz_24_Ch rfl rfl rfl (by assumption) (by first | exact Nat.le_of_ble_eq_true rfl | (simp; done) | (simp <;> omega))) ?_
   rintro _ _ ⟨rfl, e4, i5⟩
   replace a8 := a8.sA e4
   replace rk := rk.sA e4
   replace m8 := e4.s m8
   try simp only [Nat.zero_add, List.set_cons_succ, List.set_cons_zero] at i5
   refine .done (r2 _ _ (.region (.mv rfl (.q rfl (.aD rfl rfl rfl) (.mv rfl (.nil ?_))))))
   refine r7 ((x + 1, is ++ [(num.getD x []).getD x 0], v8)) _ _ ?_ ?_ (.p rfl)
   ·
    refine ⟨a8, by assumption, by exact ⟨.inr (by omega)⟩, by assumption, by omega, ?_⟩
    exact ⟨⟨by omega, by simp; omega⟩, t6.snoc n1.1 n1.2, po_id hRT hPM hnl (fun i hi => (hN i hi).1) hId hxl (by omega), hR.st rk (.cons n9 (.cons (hR.lowNe (by omega)) (.nil _ _))), hR.ne (by omega)⟩
   (dsimp only; omega)
  try simp only [sps] at s8
  refine .exit (s1 _ _ (.seq (fun K24 q0 => .seq (fun K25 p7 => .region ?_))))
  obtain rfl : x = rel.length := by omega
  refine .mv rfl (.nil (p7 _ _ (.block ?_)))
  refine .loopF (σ := Nat × (Nat → Option Addr) × List (List Int) × Nat) [2, 4, 5] (fun (f, rr, cs, gLC) => [(10, some (.int .i64 (f : Int)))]) (fun (f, rr, cs, gLC) H' => St [g6, g5] HL3 H' ∧ H'.get gLC = some (.row ((slsL rr cs)) 24 true) ∧ PL gLC g6 HL3.next ∧ H'.get g5 = some (.row ([.int .i64 (rel.length : Int), .slice (some ⟨gLF, 0, none⟩) ss.length ss.length, .slice (some ⟨gLT, 0, none⟩) ss.length ss.length, .slice (some ⟨gLI, 0, none⟩) rel.length rel.length, .slice (some ⟨gLC, 0, none⟩) f f]) 27 true) ∧ gLC ≠ g5 ∧ (f ≤ ss.length ∧ cs.length = f) ∧ Tb (-1) (8 * rel.length) ss.length cs ∧ CellsT ss ts cs ∧ OwnL a4.next H' 2 rn num ∧ OwnL a4.next H' 2 rr cs ∧ (∀ j, j < cs.length → rr j ≠ some ⟨gLF, 0, none⟩) ∧ (∀ j, j < cs.length → rr j ≠ some ⟨gLT, 0, none⟩) ∧ ∀ j, j < cs.length → rr j ≠ some ⟨gLI, 0, none⟩) (fun (f, rr, cs, gLC) => ss.length - f) ((0, fun _ => none, [], g6)) rfl (.p rfl) ?_ ?_
  ·
   refine ⟨.refl _ _, by assumption, ⟨.inl rfl⟩, by assumption, by omega, ?_⟩
   exact ⟨⟨by omega, rfl⟩, .nil _ _ _, .nil _ _, hR, .nil _ _ _ _, fun _ h => by simp at h, fun _ h => by simp at h, fun _ h => by simp at h⟩
  rintro ⟨f, rr, cs, gLC⟩ HL4 ⟨w, z, j4, b, m3, hI⟩ _ q6
  dsimp only [cA, nA]
  have _ : H.next ≤ gLC := j4.ge (by omega) (by omega)
  have _ := w.nx
  replace a3 := a3.st w (fun k hk => ⟨by omega, by omega, trivial⟩)
  have e0 : NE g2 g6 := .a
  replace d4 := w.same _ _ ⟨e0.ne, a0.ne, trivial⟩ d4
  replace e := w.same _ _ ⟨(Ne.symm (h2.ne c5.ne (by omega))), f5, trivial⟩ e
  replace l := w.same _ _ ⟨(Ne.symm (d0.ne d3.ne (by omega))), j6, trivial⟩ l
  replace m := w.same _ _ ⟨(Ne.symm (c6.ne c3.ne (by omega))), j0, trivial⟩ m
  replace b6 := w.same _ _ ⟨(Ne.symm (e9.ne c2.ne (by omega))), j5, trivial⟩ b6
  have _ := GHeap.ltg z
  have b0 := GHeap.ltg b
  have rk := St.refl [gLC, g5] HL4
  obtain ⟨⟨hf, hcl⟩, hC, hCT, hR, hQ, t8, s7, n9⟩ := hI
  have hatC := z
  have hfl : (slsL rr cs).length = cs.length := length_slsL _ _
  refine .seq (fun K26 q8 => .seq (fun K27 o8 => .region (.mv rfl (.q rfl (.fieldAddr fo_27_1_B rfl) ?_))))
  refine .q rfl (.load on_24_B rfl (by first | assumption | exact Mem.of_get b 1 _ rfl)) ?_
  refine .q rfl (.len sl_24_A rfl) (.q rfl (.cmp rfl rfl rfl) (.nil (o8 _ _ ?_)))
  refine .cond rfl ?_ ?_ <;> intro t1
  ·
   simp only [sps] at t1
   have _ := hS f (by omega)
   refine .skip (q8 _ _ (.seq (fun K28 p0 => .block (.seq (fun K29 p6 => .region ?_)))))
   refine .R rfl (.litA rfl sl_24_A ze_2_L rfl rfl rfl rfl) ?_
   rintro _ q2 ⟨l4, rfl, e8, _, k4⟩
   have _ := e8.1
   replace w := w.le e8
   replace rk := rk.le e8
   replace e := e8.2 _ _ e
   replace l := e8.2 _ _ l
   replace m := e8.2 _ _ m
   replace z := e8.2 _ _ z
   replace b := e8.2 _ _ b
   have _ := GHeap.ltg k4
   replace k4 : GHeap.get q2 l4 = some (.row (ints []) 2 true) := k4
   refine .mv rfl (.nil (p6 _ _ (.seq (fun K30 o5 => .seq (fun K31 r9 => .region (.mv rfl (.nil (r9 _ _ (.block ?_)))))))))
   refine .loopF (σ := Nat × List Int × Nat × Nat) [2, 4, 5, 10] (fun (g, row, b7, f7) => [(12, some (.int .i64 (g : Int))), (11, some (.slice (some ⟨b7, 0, none⟩) f7 f7))]) (fun (g, row, b7, f7) H' => St [l4] q2 H' ∧ H'.get b7 = some (.row (ints row) 2 true) ∧ PL b7 l4 q2.next ∧ f7 = row.length ∧ (g ≤ ss.length ∧ row.length = g) ∧ Bd (-1) (8 * rel.length) row ∧ CellsR ss ts f row) (fun (g, row, b7, f7) => ss.length - g) ((0, [], _, _)) rfl (.p rfl) ?_ ?_
   ·
    refine ⟨.refl _ _, by assumption, ⟨.inl rfl⟩, by rfl, ?_⟩
    exact ⟨⟨by omega, rfl⟩, .nil _ _, .nil _ _ _⟩
   rintro ⟨g, row, b7, f7⟩ _ ⟨y, t, a5, k1, hI⟩ _ m2
   dsimp only [cA, nA]
   have _ := y.nx
   replace w := w.sA y
   replace rk := rk.sA y
   replace e := y.s e
   replace l := y.s l
   replace m := y.s m
   have c8 : NE gLC l4 := .a
   replace z := y.s z c8.ne
   have d6 : NE g5 l4 := .a
   replace b := y.s b d6.ne
   obtain ⟨⟨_, hrl⟩, hB, hCR⟩ := hI
   refine .seq (fun K32 o9 => .seq (fun K33 o7 => .region (.mv rfl (.q rfl (.fieldAddr fo_27_1_B rfl) ?_))))
   refine .q rfl (.load on_24_B rfl (by first | assumption | exact Mem.of_get b 1 _ rfl)) ?_
   refine .q rfl (.len sl_24_A rfl) (.q rfl (.cmp rfl rfl rfl) (.nil (o7 _ _ ?_)))
   refine .cond rfl ?_ ?_ <;> intro t0
   ·
    simp only [sps] at t0
    have _ := hT g (by omega)
    refine .skip (o9 _ _ (.seq (fun K34 m5 => .block (.seq (fun K35 o4 => .region (.mv rfl (.nil (o4 _ _ (.seq (fun K36 m6 => .seq (fun K37 s4 => ?_)))))))))))
    refine .regionD mo_B (.qs [0, 1, 2, 3, 4, 5, 6, 7, 8, 9, 10] (.done)) (by kernel_rfl) ?_
    refine .q rfl (.fieldAddr fo_27_2_B rfl) ?_
    refine .q rfl (.load on_24_B rfl (by first | assumption | exact Mem.of_get b 2 _ rfl)) ?_
    refine .mv rfl rfl ?_
    refine .q rfl (.idxN sl_24_A (by first | assumption | exact SlA.of_row m (by first | rfl | (simp; done) | (simp <;> omega))) rfl rfl (by omega)) ?_
    refine .q rfl (.loadI on_2_A (by first | assumption | exact Ints.of_get m) rfl (by omega)) ?_
    refine .q rfl (.fieldAddr fo_27_1_B rfl) ?_
    refine .q rfl (.load on_24_B rfl (by first | assumption | exact Mem.of_get b 1 _ rfl)) ?_
    refine .mv rfl rfl ?_
    refine .q rfl (.idxN sl_24_A (by first | assumption | exact SlA.of_row l (by first | rfl | (simp; done) | (simp <;> omega))) rfl rfl (by omega)) ?_
    refine .q rfl (.loadI on_2_A (by first | assumption | exact Ints.of_get l) rfl (by omega)) ?_
    refine .q rfl (.cmp rfl rfl rfl) (.done (s4 _ _ ?_))
    refine .cond rfl ?_ ?_ <;> intro i3
    ·
     simp only [sps] at i3
     have n1 := hN.at (i := (ss.getD f 0).toNat) (j := (ts.getD g 0).toNat) (by omega) (by omega)
     obtain ⟨h3, l6, n3⟩ : ∃ h3, h3 = (num.getD (ss.getD f 0).toNat []).getD (ts.getD g 0).toNat 0 ∧ -1 ≤ h3 ∧ h3 ≤ 8 * rel.length := ⟨_, rfl, by omega, by omega⟩
     have r6 : CellV ss ts f g h3 := by rw [l6]; exact po_cell hRT hPM hPS hnl (fun i hi => (hN i hi).1) hS hT hts (by omega) (by omega) i3
     refine .regionD mo_B (.qs [0, 1, 2, 3, 4, 5, 6, 7, 8, 9, 10, 11, 12, 13, 14, 15] (.done)) (by kernel_rfl) ?_
     have hRn := hR.st rk (.cons (hR.neT hatC rfl) (.cons (hR.lowNe (by omega)) (.nil _ _)))
     have iN := (hRn.low (b' := H.next) (by omega)).intss e (by omega)
     have u1 := iN.2 (ss.getD f 0).toNat (by omega)
     have n2 := (hN (ss.getD f 0).toNat (by omega)).1
     refine .mv rfl rfl (.q rfl (.fieldAddr fo_27_1_B rfl) ?_)
     refine .q rfl (.load on_24_B rfl (by first | assumption | exact Mem.of_get b 1 _ rfl)) ?_
     refine .mv rfl rfl ?_
     refine .q rfl (.idxN sl_24_A (by first | assumption | exact SlA.of_row l (by first | rfl | (simp; done) | (simp <;> omega))) rfl rfl (by omega)) ?_
     refine .q rfl (.loadI on_2_A (by first | assumption | exact Ints.of_get l) rfl (by omega)) ?_
     refine .q rfl (.idx1 sl_25_B (by first | exact (Intss.sl (by assumption)) | exact SlA.of_row e (by first | rfl | (simp; done) | (simp <;> omega))) rfl rfl (by omega) (by omega)) ?_
     refine .q rfl (.loadR on_24_B (by assumption) rfl (by omega)) ?_
     refine .q rfl (.fieldAddr fo_27_2_B rfl) ?_
     refine .q rfl (.load on_24_B rfl (by first | assumption | exact Mem.of_get b 2 _ rfl)) ?_
     refine .mv rfl rfl ?_
     refine .q rfl (.idxN sl_24_A (by first | assumption | exact SlA.of_row m (by first | rfl | (simp; done) | (simp <;> omega))) rfl rfl (by omega)) ?_
     refine .q rfl (.loadI on_2_A (by first | assumption | exact Ints.of_get m) rfl (by omega)) ?_
     refine .q rfl (.i1 sl_24_A rfl rfl) (.q rfl (.lI on_2_A rfl) (.mv rfl rfl (.done (m6 _ _ (.region (.mv rfl (.mv rfl ?_)))))))
     refine .R rfl (.litA rfl sl_24_A ze_2_L rfl rfl rfl rfl) ?_
     rintro _ _ ⟨_, rfl, i9, _, l2⟩
     replace y := y.le i9
     replace t := i9.2 _ _ t
     have _ := GHeap.ltg l2
     refine .R rfl (.apI rfl sl_24_A ze_2_L rfl by_2_L sl_24_A rfl rfl) ?_
     rintro _ _ ⟨_, rfl, l9, _, _⟩
     replace y := y.sP l9
     refine .mv rfl (.nil (m5 _ _ (.region (.mv rfl (.q rfl (.aD rfl rfl rfl) (.mv rfl (.nil ?_)))))))
     refine m2 ((g + 1, row ++ [h3], _, _)) _ _ ?_ ?_ (.p rfl)
     ·
      refine ⟨y, by (rw [l6]; assumption), by exact ⟨.inr (by omega)⟩, by (simp only [List.length_append, List.length_cons, List.length_nil] <;> omega), ?_⟩
      exact ⟨⟨by omega, by simp; omega⟩, hB.snoc (by omega) (by omega), hCR.snoc (by rw [hrl]; exact r6)⟩
     (dsimp only; omega)
    simp only [sps] at i3
    obtain ⟨h3, l6, n3⟩ : ∃ h3 : Int, h3 = -1 ∧ -1 ≤ h3 ∧ h3 ≤ 8 * rel.length := ⟨_, rfl, by omega, by omega⟩
    have r6 : CellV ss ts f g h3 := .neg i3 l6
    refine .skip (m6 _ _ (.region (.mv rfl (.mv rfl ?_))))
    refine .R rfl (.litA rfl sl_24_A ze_2_L rfl rfl rfl rfl) ?_
    rintro _ _ ⟨_, rfl, f6, _, i4⟩
    replace y := y.le f6
    replace t := f6.2 _ _ t
    have _ := GHeap.ltg i4
    refine .R rfl (.apI rfl sl_24_A ze_2_L rfl by_2_L sl_24_A rfl rfl) ?_
    rintro _ _ ⟨_, rfl, i0, _, _⟩
    replace y := y.sP i0
    refine .mv rfl (.nil (m5 _ _ (.region (.mv rfl (.q rfl (.aD rfl rfl rfl) (.mv rfl (.nil ?_)))))))
    refine m2 ((g + 1, row ++ [h3], _, _)) _ _ ?_ ?_ (.p rfl)
    ·
     refine ⟨y, by (rw [l6]; assumption), by exact ⟨.inr (by omega)⟩, by (simp only [List.length_append, List.length_cons, List.length_nil] <;> omega), ?_⟩
     exact ⟨⟨by omega, by simp; omega⟩, hB.snoc (by omega) (by omega), hCR.snoc (by rw [hrl]; exact r6)⟩
    (dsimp only; omega)
   try simp only [sps] at t0
   refine .exit (o5 _ _ (.region ?_))
   obtain rfl : g = ss.length := by omega
   obtain rfl := k1
   refine .q rfl (.fieldAddr fo_27_4_B rfl) ?_
   refine .q rfl (.load on_25_B rfl (by first | assumption | exact Mem.of_get b 4 _ rfl)) ?_
   refine .mv rfl ?_
   refine .R rfl (.litA rfl sl_25_B ze_24_Hj rfl rfl rfl rfl) ?_
   rintro _ _ ⟨_, rfl, e7, _, l1⟩
   replace w := w.le e7
   replace rk := rk.le e7
   replace z := e7.2 _ _ z
   replace b := e7.2 _ _ b
   replace t := e7.2 _ _ t
   have _ := GHeap.ltg l1
   refine .R rfl (.appendV rfl sl_25_B ze_24_Hj rfl by_24_Hj sl_25_B rfl rfl (by assumption) (by assumption) (by first | omega | (simp <;> omega)) rfl rfl (by omega) (by omega)) ?_
   rintro _ _ ⟨p4, rfl, f4, _, i8⟩
   replace w := w.sP f4
   replace rk := rk.sP f4
   replace b := f4.same _ _ ⟨(Ne.symm m3), trivial⟩ b
   replace t := f4.same _ _ ⟨(Ne.symm (a5.ne c8.ne (by omega))), trivial⟩ t
   refine .q rfl (.fieldAddr fo_27_4_B rfl) ?_
   refine .r0 rfl rfl (.storeR rfl sz_25_Ch rfl rfl rfl (by assumption) (by first | exact Nat.le_of_ble_eq_true rfl | (simp; done) | (simp <;> omega))) ?_
   rintro _ _ ⟨rfl, b8, i2⟩
   replace w := w.sA b8
   replace rk := rk.sA b8
   replace t := b8.same _ _ ⟨(Ne.symm (a5.ne d6.ne (by omega))), trivial⟩ t
   replace i8 := b8.s i8
   try simp only [Nat.zero_add, List.set_cons_succ, List.set_cons_zero] at i2
   refine .nil (p0 _ _ (.region (.mv rfl (.q rfl (.aD rfl rfl rfl) (.mv rfl (.nil ?_))))))
   refine q6 ((f + 1, upd rr cs.length (some ⟨b7, 0, none⟩), cs ++ [row], p4)) _ _ ?_ ?_ (.p rfl)
   ·
    refine ⟨w, by (rw [slsL_snoc]; assumption), by exact ⟨.inr (by omega)⟩, by assumption, by omega, ?_⟩
    have hR' := hR.st rk (.cons (hR.neT hatC rfl) (.cons (hR.lowNe (by omega)) (.nil _ _)))
    have hQ' := hQ.st rk (.cons (hQ.neT hatC rfl) (.cons (hQ.lowNe (by omega)) (.nil _ _)))
    have u6 := hQ.ne (g := b7) (a5.ge (by omega) (by omega))
    have _ : a4.next ≤ b7 := a5.ge (by omega) (by omega)
    have _ : b7 ≠ gLF := a5.ne' (by omega) (by omega)
    have _ : b7 ≠ gLT := a5.ne' (by omega) (by omega)
    have _ : b7 ≠ gLI := a5.ne' (by omega) (by omega)
    exact ⟨⟨by omega, by simp; omega⟩, hC.snoc (by omega) hB, hCT.snoc (by rw [hcl]; exact hCR), hR', hQ'.snoc2 (by assumption) u6 (by omega), ne_snoc t8 (by omega), ne_snoc s7 (by omega), ne_snoc n9 (by omega)⟩
   (dsimp only; omega)
  simp only [sps] at t1
  refine .exit (q0 _ _ (.seq (fun K38 o1 => .region ?_)))
  refine .q rfl (.loadM ag_27_D rfl ⟨rfl, Mem.of_get b⟩) ?_
  refine .r0 rfl rfl (.fillA rfl sz_27_D rfl rfl rfl rfl) ?_
  rintro _ _ ⟨rfl, v, f3⟩
  replace a3 := a3.st v (fun k hk => ⟨by omega, trivial⟩)
  replace l := v.same _ _ ⟨(Ne.symm (d0.ne d5.ne (by omega))), trivial⟩ l
  replace m := v.same _ _ ⟨(Ne.symm (c6.ne e3.ne (by omega))), trivial⟩ m
  replace b6 := v.same _ _ ⟨(Ne.symm (e9.ne d9.ne (by omega))), trivial⟩ b6
  replace z := v.same _ _ ⟨(Ne.symm (j4.ne e0.ne (by omega))), trivial⟩ z
  replace b := v.s b (Ne.symm a0.ne)
  have _ : MemN _ _ _ _ _ := ⟨rfl, Mem.of_get f3⟩
  refine .nil (o1 _ _ (.ret (r4 _ _ (⟨_, _, _, _, rfl, ag_27_D, (by rfl), (Mem.of_get f3), ?_⟩))))
  obtain rfl : f = ss.length := by omega
  have _ : gLF ≠ gLI := e9.ne (d0.ne' (by omega) (by omega)) (by omega)
  have _ : gLT ≠ gLI := e9.ne (c6.ne' (by omega) (by omega)) (by omega)
  exact ⟨⟨rel.length, ss, ts, is, cs⟩, ⟨⟨rect_mk (by omega) (by omega) hts (hS.mono (by omega) (by omega)) (hT.mono (by omega) (by omega)) (by omega) t6 (by omega) (hC.mono (by omega) (by omega)), .mk' hts hS hT (by omega) hId (by omega) (fun f hf => (hC f hf).1) hCT⟩, rfl⟩, a3, gLF, gLT, gLI, gLC, rr, by simp [Cat.cells, ownP, hts, hxl, hcl], ⟨l, m, b6, z, by omega, by omega, by omega, by omega, by omega, by omega, by omega, (hQ.st v (.cons (hQ.lowNe (by omega)) (.nil _ _))).low (by omega), t8, s7, n9⟩⟩
end Go.Proofs.Ytfanjkbaemhbmaa
namespace Go.Proofs.Ytfanjkbaemhbmaa
open Go Go.GL Go.RowKit Go.Proofs
set_option maxHeartbeats 8000000 in
theorem l02FamilyG_c {gS : Nat} {H : GHeap} (hs : DSrc 86 H gS := by assumption) :
    GCalls Try.prog 102 [.pointer (some ⟨gS, 0, none⟩)] H (DrawnG 86 128 gS H) := by
  have _ := hs.lt
  refine GCalls.body (N := 141) (rs := [.cell 2 27]) Try.func102 rfl rfl rfl rfl (fun Qx v hend => ?_)
  refine .fg [0] rfl ?_
  have b := St.refl [gS] H
  refine .seq (fun K1 bO => .region ?_)
  refine .R rfl (.allocR rfl ze_27_I rfl) ?_
  rintro _ _ ⟨g2, rfl, aP, _, c⟩
  replace b := b.le aP
  have _ := GHeap.ltg c
  refine .nil (bO _ _ (.seq (fun K2 cI => .seq (fun K3 bX => .region (.mv rfl ?_)))))
  refine .call rfl rfl rfl rfl @Try.call30 rfl (l01Next_c (hs.le aP)) ?_
  rintro _ cP ⟨_, rfl, _, _, _, i5, hs⟩
  have _ := i5.nx
  replace b := b.sA i5
  have d : NE g2 gS := .a
  replace c := i5.s c d.ne
  refine .nil (bX _ _ (.block (.seq (fun K4 dA => .region (.q rfl (.cmp rfl rfl rfl) (.mv rfl (.nil (dA _ _ ?_))))))))
  refine .cond rfl ?_ ?_ <;> intro h15
  ·
   refine .seq (fun K5 dK => .region (.mv rfl (.mv rfl ?_)))
   refine .call rfl rfl rfl rfl @Try.call30 rfl (l01Next_c) ?_
   rintro _ _ ⟨aN, rfl, _, _, _, k7, hs⟩
   have _ := k7.nx
   replace b := b.sA k7
   replace c := k7.s c d.ne
   obtain ⟨n, rfl⟩ : ∃ n : Nat, aN = (n : Int) := ⟨aN.toNat, by omega⟩
   have _ : n < 5 := by omega
   refine .call rfl rfl rfl rfl @Try.call32 rfl (l02RelationG_c (n := n) (hn := by omega)) ?_
   rintro _ cJ ⟨_, _, _, rfl, cS, s2, v6, t8, m1, hs⟩
   have _ := m1.nx
   replace b := b.sA m1
   replace c := m1.s c d.ne
   refine .call rfl rfl rfl rfl @Try.call31 rfl (l03PosetG_c (hin := cS.intss) (hn := by omega) (hr := v6) (hRT := by rw [s2]; exact t8)) ?_
   rintro _ aK ⟨bI, ⟨t9, _⟩, k4, _, _, _, _, _, rfl, bB⟩
   have r7 := bB.catR
   replace b := b.le k4
   replace hs := hs.le k4
   replace c := k4.2 _ _ c
   have i7 := r7
   have b9 : Keep cJ.next aK aK := fun _ _ _ h => h
   refine .r0 rfl rfl (.fillA rfl sz_27_D rfl rfl rfl rfl) ?_
   rintro _ _ ⟨rfl, c4, m7⟩
   replace b := b.sA c4
   replace hs := hs.sA c4
   replace b9 := Keep.st b9 c4 (fun k hb hk => ⟨(by omega), trivial⟩)
   replace r7 := i7.keep b9 (Nat.le_refl _)
   refine .nil (dK _ _ (.ret (v _ _ (⟨_, _, _, _, rfl, ag_27_D, (by rfl), (Mem.of_get m7), ?_⟩))))
   exact ⟨bI, _, rfl, t9.mono (by omega), r7.keep (.of_le (.refl _)) (by omega), b, hs⟩
  refine .seq (fun K6 bW => .region (.q rfl (.cmp rfl rfl rfl) (.mv rfl (.nil (bW _ _ ?_)))))
  refine .cond rfl ?_ ?_ <;> intro h22
  ·
   refine .seq (fun K7 dC => .region ?_)
   refine .R rfl (.litA rfl sl_24_A ze_2_L rfl rfl rfl rfl) ?_
   rintro _ _ ⟨cV, rfl, k8, _, d9⟩
   replace b := b.le k8
   replace hs := hs.le k8
   replace c := k8.2 _ _ c
   have _ := GHeap.ltg d9
   refine .R rfl (.litA rfl sl_24_A ze_2_L rfl rfl rfl rfl) ?_
   rintro _ _ ⟨cD, rfl, h4, _, h8⟩
   replace b := b.le h4
   replace hs := hs.le h4
   replace c := h4.2 _ _ c
   replace d9 := h4.2 _ _ d9
   have _ := GHeap.ltg h8
   refine .R rfl (.litA rfl sl_25_B ze_24_Hj rfl rfl rfl rfl) ?_
   rintro _ bP ⟨_, rfl, f0, _, o0⟩
   replace b := b.le f0
   replace hs := hs.le f0
   replace c := f0.2 _ _ c
   replace d9 := f0.2 _ _ d9
   replace h8 := f0.2 _ _ h8
   have _ := GHeap.ltg o0
   refine .call rfl rfl rfl rfl @Try.call31 rfl ((by have hh := l03PosetG_c (rel := [[1, 1], [0, 1]]) (hin := ((lit_own (gs := [cV, cD]) (by simp only [LitAt]; exact ⟨⟨Nat.zero_le _, d9⟩, ⟨Nat.zero_le _, h8⟩, trivial⟩) (by simp <;> omega)).done (by exact o0) (Nat.zero_le _)).intss) (hn := by decide) (hr := by decide) (hRT := .dec (by decide) (by decide)); exact hh)) ?_
   rintro _ aR ⟨cN, ⟨y4, _⟩, n2, _, _, _, _, _, rfl, dE⟩
   have v0 := dE.catR
   replace b := b.le n2
   replace hs := hs.le n2
   replace c := n2.2 _ _ c
   have m9 := v0
   have c9 : Keep bP.next aR aR := fun _ _ _ h => h
   refine .r0 rfl rfl (.fillA rfl sz_27_D rfl rfl rfl rfl) ?_
   rintro _ _ ⟨rfl, c8, i9⟩
   replace b := b.sA c8
   replace hs := hs.sA c8
   replace c9 := Keep.st c9 c8 (fun k hb hk => ⟨(by omega), trivial⟩)
   replace v0 := m9.keep c9 (Nat.le_refl _)
   refine .nil (dC _ _ (.ret (v _ _ (⟨_, _, _, _, rfl, ag_27_D, (by rfl), (Mem.of_get i9), ?_⟩))))
   exact ⟨cN, _, rfl, y4.mono (by decide), v0.keep (.of_le (.refl _)) (by omega), b, hs⟩
  refine .seq (fun K8 cE => .region (.q rfl (.cmp rfl rfl rfl) (.mv rfl (.nil (cE _ _ ?_)))))
  refine .cond rfl ?_ ?_ <;> intro h28
  ·
   refine .seq (fun K9 bL => .region ?_)
   refine .R rfl (.litA rfl sl_24_A ze_2_L rfl rfl rfl rfl) ?_
   rintro _ _ ⟨bR, rfl, i8, _, b5⟩
   replace b := b.le i8
   replace hs := hs.le i8
   replace c := i8.2 _ _ c
   have _ := GHeap.ltg b5
   refine .R rfl (.litA rfl sl_24_A ze_2_L rfl rfl rfl rfl) ?_
   rintro _ _ ⟨cQ, rfl, i1, _, d7⟩
   replace b := b.le i1
   replace hs := hs.le i1
   replace c := i1.2 _ _ c
   replace b5 := i1.2 _ _ b5
   have _ := GHeap.ltg d7
   refine .R rfl (.litA rfl sl_24_A ze_2_L rfl rfl rfl rfl) ?_
   rintro _ _ ⟨cM, rfl, e5, _, g3⟩
   replace b := b.le e5
   replace hs := hs.le e5
   replace c := e5.2 _ _ c
   replace b5 := e5.2 _ _ b5
   replace d7 := e5.2 _ _ d7
   have _ := GHeap.ltg g3
   refine .R rfl (.litA rfl sl_25_B ze_24_Hj rfl rfl rfl rfl) ?_
   rintro _ bH ⟨_, rfl, d8, _, p3⟩
   replace b := b.le d8
   replace hs := hs.le d8
   replace c := d8.2 _ _ c
   replace b5 := d8.2 _ _ b5
   replace d7 := d8.2 _ _ d7
   replace g3 := d8.2 _ _ g3
   have _ := GHeap.ltg p3
   refine .call rfl rfl rfl rfl @Try.call31 rfl ((by have hh := l03PosetG_c (rel := [[1, 1, 1], [0, 1, 0], [0, 0, 1]]) (hin := ((lit_own (gs := [bR, cQ, cM]) (by simp only [LitAt]; exact ⟨⟨Nat.zero_le _, b5⟩, ⟨Nat.zero_le _, d7⟩, ⟨Nat.zero_le _, g3⟩, trivial⟩) (by simp <;> omega)).done (by exact p3) (Nat.zero_le _)).intss) (hn := by decide) (hr := by decide) (hRT := .dec (by decide) (by decide)); exact hh)) ?_
   rintro _ aU ⟨dI, ⟨w8, _⟩, m2, _, _, _, _, _, rfl, bE⟩
   have w4 := bE.catR
   replace b := b.le m2
   replace hs := hs.le m2
   replace c := m2.2 _ _ c
   have k3 := w4
   have c5 : Keep bH.next aU aU := fun _ _ _ h => h
   refine .r0 rfl rfl (.fillA rfl sz_27_D rfl rfl rfl rfl) ?_
   rintro _ _ ⟨rfl, d0, m6⟩
   replace b := b.sA d0
   replace hs := hs.sA d0
   replace c5 := Keep.st c5 d0 (fun k hb hk => ⟨(by omega), trivial⟩)
   replace w4 := k3.keep c5 (Nat.le_refl _)
   refine .nil (bL _ _ (.ret (v _ _ (⟨_, _, _, _, rfl, ag_27_D, (by rfl), (Mem.of_get m6), ?_⟩))))
   exact ⟨dI, _, rfl, w8.mono (by decide), w4.keep (.of_le (.refl _)) (by omega), b, hs⟩
  refine .seq (fun K10 q4 => .region (.q rfl (.cmp rfl rfl rfl) (.mv rfl (.nil (q4 _ _ ?_)))))
  refine .cond rfl ?_ ?_ <;> intro bQ
  ·
   refine .seq (fun K11 y3 => .region ?_)
   refine .R rfl (.litA rfl sl_24_A ze_2_L rfl rfl rfl rfl) ?_
   rintro _ _ ⟨_, rfl, m0, _, h1⟩
   replace b := b.le m0
   replace hs := hs.le m0
   replace c := m0.2 _ _ c
   have _ := GHeap.ltg h1
   refine .R rfl (.litA rfl sl_24_A ze_2_L rfl rfl rfl rfl) ?_
   rintro _ bY ⟨_, rfl, g4, _, p4⟩
   replace b := b.le g4
   replace hs := hs.le g4
   replace c := g4.2 _ _ c
   replace h1 := g4.2 _ _ h1
   have _ := GHeap.ltg p4
   refine .call rfl rfl rfl rfl @Try.call121 rfl ((by have hh := l03PathsG_c (n := 2) (xs := [0, 0]) (ys := [1, 1]) (ha := Ints.of_get h1) (hb := Ints.of_get p4) (hl := rfl) (hx := by decide) (hn := by decide) (hy := by unfold Bd; decide) (hup := by decide); exact hh)) ?_
   rintro _ aJ ⟨bZ, ⟨w1, _⟩, m4, _, _, _, _, _, rfl, cL⟩
   have v3 := cL.catR
   replace b := b.le m4
   replace hs := hs.le m4
   replace c := m4.2 _ _ c
   have l3 := v3
   have c0 : Keep bY.next aJ aJ := fun _ _ _ h => h
   refine .r0 rfl rfl (.fillA rfl sz_27_D rfl rfl rfl rfl) ?_
   rintro _ _ ⟨rfl, d1, j9⟩
   replace b := b.sA d1
   replace hs := hs.sA d1
   replace c0 := Keep.st c0 d1 (fun k hb hk => ⟨(by omega), trivial⟩)
   replace v3 := l3.keep c0 (Nat.le_refl _)
   refine .nil (y3 _ _ (.ret (v _ _ (⟨_, _, _, _, rfl, ag_27_D, (by rfl), (Mem.of_get j9), ?_⟩))))
   exact ⟨bZ, _, rfl, w1.mono (by omega), v3.keep (.of_le (.refl _)) (by omega), b, hs⟩
  try simp only [sps] at bQ
  refine .seq (fun K12 y9 => .region (.q rfl (.cmp rfl rfl rfl) (.mv rfl (.nil (y9 _ _ ?_)))))
  refine .cond rfl ?_ ?_ <;> intro aB
  ·
   try simp only [sps] at aB
   refine .seq (fun K13 t5 => .region (.mv rfl ?_))
   refine .call rfl rfl rfl rfl @Try.call123 rfl (l02MonoidG_c) ?_
   rintro _ cT ⟨_, _, _, rfl, bF, s0, u1, k2, hs⟩
   have _ := k2.nx
   replace b := b.sA k2
   replace c := k2.s c d.ne
   refine .call rfl rfl rfl rfl @Try.call122 rfl (l03MonoidG_c (hin := bF.intss) (hn := s0) (ht := u1)) ?_
   rintro _ aH ⟨bG, ⟨y0, _⟩, j8, _, _, _, _, _, rfl, cH⟩
   have z9 := cH.catR
   replace b := b.le j8
   replace hs := hs.le j8
   replace c := j8.2 _ _ c
   have j4 := z9
   have c7 : Keep cT.next aH aH := fun _ _ _ h => h
   refine .r0 rfl rfl (.fillA rfl sz_27_D rfl rfl rfl rfl) ?_
   rintro _ _ ⟨rfl, a1, g8⟩
   replace b := b.sA a1
   replace hs := hs.sA a1
   replace c7 := Keep.st c7 a1 (fun k hb hk => ⟨(by omega), trivial⟩)
   replace z9 := j4.keep c7 (Nat.le_refl _)
   refine .nil (t5 _ _ (.ret (v _ _ (⟨_, _, _, _, rfl, ag_27_D, (by rfl), (Mem.of_get g8), ?_⟩))))
   exact ⟨bG, _, rfl, y0.mono (by omega), z9.keep (.of_le (.refl _)) (by omega), b, hs⟩
  try simp only [sps] at aB
  refine .seq (fun K14 x0 => .region (.q rfl (.cmp rfl rfl rfl) (.mv rfl (.nil (x0 _ _ ?_)))))
  refine .cond rfl ?_ ?_ <;> intro bM
  ·
   try simp only [sps] at bM
   refine .seq (fun K15 t3 => .region (.mv rfl ?_))
   refine .call rfl rfl rfl rfl @Try.call30 rfl (l01Next_c) ?_
   rintro _ _ ⟨aM, rfl, _, _, _, m5, hs⟩
   have _ := m5.nx
   replace b := b.sA m5
   replace c := m5.s c d.ne
   obtain ⟨n, hn⟩ : ∃ n : Nat, (n : Int) = 1 + aM := ⟨(1 + aM).toNat, by omega⟩
   refine .q rfl (.add (r := (n : Int)) rfl rfl (by omega) (by omega) (by omega)) ?_
   refine .mv rfl (.nil (t3 _ _ (.seq (fun K16 q8 => .region ?_))))
   refine .R rfl (.litA rfl sl_25_B ze_24_Hj rfl rfl rfl rfl) ?_
   rintro _ aI ⟨aW, rfl, j7, _, v5⟩
   replace b := b.le j7
   replace hs := hs.le j7
   replace c := j7.2 _ _ c
   have _ := GHeap.ltg v5
   refine .mv rfl (.nil (q8 _ _ (.seq (fun K17 y1 => .seq (fun K18 r9 => .region (.mv rfl (.nil (r9 _ _ (.block ?_)))))))))
   refine .loopF (σ := Nat × (Nat → Option Addr) × List (List Int) × Nat × Nat) [2, 3] (fun (i, rr, T, i3, j6) => [(5, some (.int .i64 (i : Int))), (4, some (.slice (some ⟨i3, 0, none⟩) j6 j6))]) (fun (i, rr, T, i3, j6) H' => St [aW] aI H' ∧ H'.get i3 = some (.row ((slsL rr T)) 24 true) ∧ PL i3 aW aI.next ∧ j6 = (slsL rr T).length ∧ (i ≤ n ∧ T.length = i) ∧ Tb 1 1 n T ∧ OwnL H.next H' 2 rr T) (fun (i, rr, T, i3, j6) => n - i) ((0, fun _ => none, [], _, _)) rfl (.p rfl) ?_ ?_
   ·
    refine ⟨.refl _ _, by assumption, ⟨.inl rfl⟩, by rfl, ?_⟩
    exact ⟨⟨by omega, rfl⟩, .nil _ _ _, .nil _ _ _ _⟩
   rintro ⟨i, rr, T, i3, j6⟩ HL1 ⟨u, t, q0, _, hI⟩ _ w7
   dsimp only [cA, nA]
   have _ := u.nx
   replace b := b.sA u
   replace hs := hs.sA u
   replace c := u.s c
   have _ := GHeap.ltg t
   have rk := St.refl [i3] HL1
   obtain ⟨⟨hi, _⟩, hT, hR⟩ := hI
   have q3 := t
   have _ : (slsL rr T).length = T.length := length_slsL _ _
   refine .seq (fun K19 t1 => .seq (fun K20 s4 => .region (.mv rfl (.mv rfl (.q rfl (.cmp rfl rfl rfl) (.nil (s4 _ _ ?_)))))))
   refine .cond rfl ?_ ?_ <;> intro aZ
   ·
    simp only [sps] at aZ
    refine .skip (t1 _ _ (.seq (fun K21 z8 => .block (.seq (fun K22 s9 => .region ?_)))))
    refine .R rfl (.litA rfl sl_24_A ze_2_L rfl rfl rfl rfl) ?_
    rintro _ y2 ⟨q2, rfl, h5, _, k9⟩
    have _ := h5.1
    replace u := u.le h5
    replace rk := rk.le h5
    replace t := h5.2 _ _ t
    have _ := GHeap.ltg k9
    replace k9 : GHeap.get y2 q2 = some (.row (ints []) 2 true) := k9
    refine .mv rfl (.nil (s9 _ _ (.seq (fun K23 w9 => .seq (fun K24 y7 => .region (.mv rfl (.nil (y7 _ _ (.block ?_)))))))))
    refine .loopF (σ := Nat × List Int × Nat × Nat) [2, 3, 4, 5] (fun (j, row, n1, n4) => [(7, some (.int .i64 (j : Int))), (6, some (.slice (some ⟨n1, 0, none⟩) n4 n4))]) (fun (j, row, n1, n4) H' => St [q2] y2 H' ∧ H'.get n1 = some (.row (ints row) 2 true) ∧ PL n1 q2 y2.next ∧ n4 = row.length ∧ (j ≤ n ∧ row.length = j) ∧ Bd 1 1 row) (fun (j, row, n1, n4) => n - j) ((0, [], _, _)) rfl (.p rfl) ?_ ?_
    ·
     refine ⟨.refl _ _, by assumption, ⟨.inl rfl⟩, by rfl, ?_⟩
     exact ⟨⟨by omega, rfl⟩, .nil _ _⟩
    rintro ⟨j, row, n1, n4⟩ _ ⟨b2, a0, e4, o1, hI⟩ _ t4
    dsimp only [cA, nA]
    have _ := b2.nx
    replace u := u.sA b2
    replace rk := rk.sA b2
    have z : NE i3 q2 := .a
    replace t := b2.s t z.ne
    obtain ⟨⟨_, _⟩, hW⟩ := hI
    refine .seq (fun K25 u0 => .seq (fun K26 s3 => .region (.mv rfl (.mv rfl (.q rfl (.cmp rfl rfl rfl) (.nil (s3 _ _ ?_)))))))
    refine .cond rfl ?_ ?_ <;> intro aO
    ·
     simp only [sps] at aO
     refine .skip (u0 _ _ (.seq (fun K27 r2 => .block (.region (.mv rfl ?_)))))
     refine .R rfl (.litA rfl sl_24_A ze_2_L rfl rfl rfl rfl) ?_
     rintro _ _ ⟨_, rfl, q1, _, y8⟩
     replace b2 := b2.le q1
     replace a0 := q1.2 _ _ a0
     have _ := GHeap.ltg y8
     refine .R rfl (.apI rfl sl_24_A ze_2_L rfl by_2_L sl_24_A rfl rfl) ?_
     rintro _ _ ⟨_, rfl, q5, _, _⟩
     replace b2 := b2.sP q5
     refine .mv rfl (.nil (r2 _ _ (.region (.mv rfl (.q rfl (.aD rfl rfl rfl) (.mv rfl (.nil ?_)))))))
     refine t4 ((j + 1, row ++ [1], _, _)) _ _ ?_ ?_ (.p rfl)
     ·
      refine ⟨b2, by assumption, by exact ⟨.inr (by omega)⟩, by (simp only [List.length_append, List.length_cons, List.length_nil] <;> omega), ?_⟩
      exact ⟨⟨by omega, by simp; omega⟩, hW.snoc (by omega) (by omega)⟩
     (dsimp only; omega)
    try simp only [sps] at aO
    refine .exit (w9 _ _ (.region ?_))
    obtain rfl : j = n := by omega
    obtain rfl := o1
    refine .mv rfl (.mv rfl ?_)
    refine .R rfl (.litA rfl sl_25_B ze_24_Hj rfl rfl rfl rfl) ?_
    rintro _ _ ⟨_, rfl, h9, _, x1⟩
    replace u := u.le h9
    replace rk := rk.le h9
    replace t := h9.2 _ _ t
    replace a0 := h9.2 _ _ a0
    have _ := GHeap.ltg x1
    refine .R rfl (.appendV rfl sl_25_B ze_24_Hj rfl by_24_Hj sl_25_B rfl rfl (by assumption) (by assumption) (by first | omega | (simp <;> omega)) rfl rfl (by omega) (by omega)) ?_
    rintro _ _ ⟨_, rfl, j0, _, _⟩
    replace u := u.sP j0
    replace rk := rk.sP j0
    replace a0 := j0.same _ _ ⟨(Ne.symm (e4.ne z.ne (by omega))), trivial⟩ a0
    refine .mv rfl (.nil (z8 _ _ (.region (.mv rfl (.q rfl (.aD rfl rfl rfl) (.mv rfl (.nil ?_)))))))
    refine w7 ((i + 1, upd rr T.length (some ⟨n1, 0, none⟩), T ++ [row], _, _)) _ _ ?_ ?_ (.p rfl)
    ·
     refine ⟨u, by (rw [slsL_snoc]; assumption), by exact ⟨.inr (by omega)⟩, by (rw [slsL_snoc] <;> (first | omega | (simp only [List.length_append, List.length_cons, List.length_nil] <;> omega))), ?_⟩
     have hR' := hR.st rk (.cons (hR.neT q3 rfl) (.nil _ _))
     exact ⟨⟨by omega, by simp; omega⟩, hT.snoc (by omega) hW, hR'.snoc2 (by assumption) (hR.ne (e4.ge (by omega) (by omega))) (e4.ge (by omega) (by omega))⟩
    (dsimp only; omega)
   try simp only [sps] at aZ
   refine .exit (y1 _ _ (.seq (fun K28 x9 => .region ?_)))
   obtain rfl : j6 = T.length := by omega
   refine .mv rfl ?_
   refine .call rfl rfl rfl rfl @Try.call31 rfl (l03PosetG_c (hin := (hR.done t (q0.ge (by omega) (by omega))).intss) (hn := by omega) (hr := fun i hi => by rw [(hT i hi).1]; omega) (hRT := .ones (by rw [show T.length = n by omega]; exact hT) rfl)) ?_
   rintro _ aA ⟨cY, ⟨v8, _⟩, j1, _, _, _, _, _, rfl, cX⟩
   have z5 := cX.catR
   replace b := b.le j1
   replace hs := hs.le j1
   replace c := j1.2 _ _ c
   have j3 := z5
   have c2 : Keep HL1.next aA aA := fun _ _ _ h => h
   refine .r0 rfl rfl (.fillA rfl sz_27_D rfl rfl rfl rfl) ?_
   rintro _ _ ⟨rfl, a9, i2⟩
   replace b := b.sA a9
   replace hs := hs.sA a9
   replace c2 := Keep.st c2 a9 (fun k hb hk => ⟨(by omega), trivial⟩)
   replace z5 := j3.keep c2 (Nat.le_refl _)
   refine .nil (x9 _ _ (.ret (v _ _ (⟨_, _, _, _, rfl, ag_27_D, (by rfl), (Mem.of_get i2), ?_⟩))))
   exact ⟨cY, _, rfl, v8.mono (by omega), z5.keep (.of_le (.refl _)) (by omega), b, hs⟩
  refine .seq (fun K29 v9 => .region (.q rfl (.cmp rfl rfl rfl) (.mv rfl (.nil (v9 _ _ ?_)))))
  refine .cond rfl ?_ ?_ <;> intro h71
  ·
   refine .seq (fun K30 q6 => .region ?_)
   refine .R rfl (.litA rfl sl_24_A ze_2_L rfl rfl rfl rfl) ?_
   rintro _ _ ⟨_, rfl, i6, _, g7⟩
   replace b := b.le i6
   replace hs := hs.le i6
   replace c := i6.2 _ _ c
   have _ := GHeap.ltg g7
   refine .R rfl (.litA rfl sl_24_A ze_2_L rfl rfl rfl rfl) ?_
   rintro _ cO ⟨_, rfl, g9, _, o9⟩
   replace b := b.le g9
   replace hs := hs.le g9
   replace c := g9.2 _ _ c
   replace g7 := g9.2 _ _ g7
   have _ := GHeap.ltg o9
   refine .call rfl rfl rfl rfl @Try.call121 rfl ((by have hh := l03PathsG_c (n := 3) (xs := [0, 1, 0]) (ys := [1, 2, 2]) (ha := Ints.of_get g7) (hb := Ints.of_get o9) (hl := rfl) (hx := by decide) (hn := by decide) (hy := by unfold Bd; decide) (hup := by decide); exact hh)) ?_
   rintro _ aS ⟨cC, ⟨u4, _⟩, l8, _, _, _, _, _, rfl, bJ⟩
   have u7 := bJ.catR
   replace b := b.le l8
   replace hs := hs.le l8
   replace c := l8.2 _ _ c
   have l2 := u7
   have c3 : Keep cO.next aS aS := fun _ _ _ h => h
   refine .r0 rfl rfl (.fillA rfl sz_27_D rfl rfl rfl rfl) ?_
   rintro _ _ ⟨rfl, a4, g5⟩
   replace b := b.sA a4
   replace hs := hs.sA a4
   replace c3 := Keep.st c3 a4 (fun k hb hk => ⟨(by omega), trivial⟩)
   replace u7 := l2.keep c3 (Nat.le_refl _)
   refine .nil (q6 _ _ (.ret (v _ _ (⟨_, _, _, _, rfl, ag_27_D, (by rfl), (Mem.of_get g5), ?_⟩))))
   exact ⟨cC, _, rfl, u4.mono (by omega), u7.keep (.of_le (.refl _)) (by omega), b, hs⟩
  refine .seq (fun K31 t0 => .region (.q rfl (.cmp rfl rfl rfl) (.mv rfl (.nil (t0 _ _ ?_)))))
  refine .cond rfl ?_ ?_ <;> intro h76
  ·
   refine .seq (fun K32 r3 => .region ?_)
   refine .call rfl rfl rfl rfl @Try.call124 rfl (l02SplitG_c) ?_
   rintro _ aQ ⟨bD, ⟨z7, _⟩, k0, _, _, _, _, _, rfl, dD⟩
   have s5 := dD.catR
   replace b := b.le k0
   replace hs := hs.le k0
   replace c := k0.2 _ _ c
   have k5 := s5
   have c1 : Keep cP.next aQ aQ := fun _ _ _ h => h
   refine .r0 rfl rfl (.fillA rfl sz_27_D rfl rfl rfl rfl) ?_
   rintro _ _ ⟨rfl, a5, f7⟩
   replace b := b.sA a5
   replace hs := hs.sA a5
   replace c1 := Keep.st c1 a5 (fun k hb hk => ⟨(by omega), trivial⟩)
   replace s5 := k5.keep c1 (Nat.le_refl _)
   refine .nil (r3 _ _ (.ret (v _ _ (⟨_, _, _, _, rfl, ag_27_D, (by rfl), (Mem.of_get f7), ?_⟩))))
   exact ⟨bD, _, rfl, z7.mono (by omega), s5.keep (.of_le (.refl _)) (by omega), b, hs⟩
  refine .seq (fun K33 x8 => .region (.q rfl (.cmp rfl rfl rfl) (.mv rfl (.nil (x8 _ _ ?_)))))
  refine .cond rfl ?_ ?_ <;> intro h79
  ·
   refine .seq (fun K34 s7 => .region (.mv rfl ?_))
   refine .call rfl rfl rfl rfl @Try.call123 rfl (l02MonoidG_c) ?_
   rintro _ cF ⟨_, _, _, rfl, bK, u3, v1, j2, hs⟩
   have _ := j2.nx
   replace b := b.sA j2
   replace c := j2.s c d.ne
   refine .call rfl rfl rfl rfl @Try.call122 rfl (l03MonoidG_c (hin := bK.intss) (hn := u3) (ht := v1)) ?_
   rintro _ aC ⟨_, ⟨w2, r6⟩, f5, _, _, _, _, _, rfl, bT⟩
   have s1 := bT.catR
   have _ := f5.1
   replace b := b.le f5
   replace hs := hs.le f5
   replace c := f5.2 _ _ c
   have l0 := s1
   have l : Keep cF.next aC aC := fun _ _ _ h => h
   refine .R rfl (.litA rfl sl_24_A ze_2_L rfl rfl rfl rfl) ?_
   rintro _ _ ⟨dH, rfl, h2, _, i0⟩
   replace b := b.le h2
   replace hs := hs.le h2
   replace c := h2.2 _ _ c
   replace l := Keep.le l h2
   have _ := GHeap.ltg i0
   refine .R rfl (.litA rfl sl_25_B ze_24_Hj rfl rfl rfl rfl) ?_
   rintro _ _ ⟨_, rfl, f3, _, p2⟩
   replace b := b.le f3
   replace hs := hs.le f3
   replace c := f3.2 _ _ c
   replace i0 := f3.2 _ _ i0
   replace l := Keep.le l f3
   have _ := GHeap.ltg p2
   refine .call rfl rfl rfl rfl @Try.call31 rfl ((by have hh := l03PosetG_c (rel := [[1]]) (hin := ((lit_own (gs := [dH]) (by simp only [LitAt]; exact ⟨⟨Nat.zero_le _, i0⟩, trivial⟩) (by simp <;> omega)).done (by exact p2) (Nat.zero_le _)).intss) (hn := by decide) (hr := by decide) (hRT := .dec (by decide) (by decide)); exact hh)) ?_
   rintro _ _ ⟨_, ⟨x4, z3⟩, f2, _, _, _, _, _, rfl, bU⟩
   have cU := bU.catR
   have _ := f2.1
   replace b := b.le f2
   replace hs := hs.le f2
   replace c := f2.2 _ _ c
   replace l := Keep.le l f2
   replace s1 := l0.keep l (Nat.le_refl _)
   have aL := s1.inn
   have aG := cU.inn
   refine .call rfl rfl rfl rfl @Try.call126 rfl (l03JoinG_c (hin := aL) (hin1 := aG) (gc := w2) (gd := x4) (oc := r6) (od := z3)) ?_
   rintro _ bC ⟨cB, ⟨o3, _⟩, f6, _, _, _, _, _, rfl, bN⟩
   have bA := bN.catR
   have _ := f6.1
   replace b := b.le f6
   replace hs := hs.le f6
   replace c := f6.2 _ _ c
   clear aL
   clear aG
   have aV := bA.inn
   refine .call rfl rfl rfl rfl @Try.call125 rfl (l03Op_c (hin := aV) (hr := o3.r) (hN := by omega)) ?_
   rintro _ aE ⟨m8, _, _, _, _, _, rfl, dB⟩
   have z0 := dB.catR
   replace b := b.le m8
   replace hs := hs.le m8
   replace c := m8.2 _ _ c
   have l1 := z0
   have b8 : Keep bC.next aE aE := fun _ _ _ h => h
   clear aV
   refine .r0 rfl rfl (.fillA rfl sz_27_D rfl rfl rfl rfl) ?_
   rintro _ _ ⟨rfl, a7, h6⟩
   replace b := b.sA a7
   replace hs := hs.sA a7
   replace b8 := Keep.st b8 a7 (fun k hb hk => ⟨(by omega), trivial⟩)
   replace z0 := l1.keep b8 (Nat.le_refl _)
   refine .nil (s7 _ _ (.ret (v _ _ (⟨_, _, _, _, rfl, ag_27_D, (by rfl), (Mem.of_get h6), ?_⟩))))
   exact ⟨cB.op, _, rfl, o3.op, z0.keep (.of_le (.refl _)) (by omega), b, hs⟩
  refine .seq (fun K35 v7 => .region (.q rfl (.cmp rfl rfl rfl) (.mv rfl (.nil (v7 _ _ ?_)))))
  refine .cond rfl ?_ ?_ <;> intro h89
  ·
   refine .seq (fun K36 x2 => .region (.mv rfl ?_))
   refine .call rfl rfl rfl rfl @Try.call123 rfl (l02MonoidG_c) ?_
   rintro _ bS ⟨_, _, _, rfl, cG, q9, v4, l7, hs⟩
   have _ := l7.nx
   replace b := b.sA l7
   replace c := l7.s c d.ne
   refine .call rfl rfl rfl rfl @Try.call122 rfl (l03MonoidG_c (hin := cG.intss) (hn := q9) (ht := v4)) ?_
   rintro _ aX ⟨_, ⟨w5, t6⟩, h0, _, _, _, _, _, rfl, cZ⟩
   have x5 := cZ.catR
   have _ := h0.1
   replace b := b.le h0
   replace hs := hs.le h0
   replace c := h0.2 _ _ c
   have m3 := x5
   have o : Keep bS.next aX aX := fun _ _ _ h => h
   refine .R rfl (.litA rfl sl_24_A ze_2_L rfl rfl rfl rfl) ?_
   rintro _ _ ⟨dJ, rfl, g1, _, f8⟩
   replace b := b.le g1
   replace hs := hs.le g1
   replace c := g1.2 _ _ c
   replace o := Keep.le o g1
   have _ := GHeap.ltg f8
   refine .R rfl (.litA rfl sl_25_B ze_24_Hj rfl rfl rfl rfl) ?_
   rintro _ _ ⟨_, rfl, e1, _, n6⟩
   replace b := b.le e1
   replace hs := hs.le e1
   replace c := e1.2 _ _ c
   replace f8 := e1.2 _ _ f8
   replace o := Keep.le o e1
   have _ := GHeap.ltg n6
   refine .call rfl rfl rfl rfl @Try.call31 rfl ((by have hh := l03PosetG_c (rel := [[1]]) (hin := ((lit_own (gs := [dJ]) (by simp only [LitAt]; exact ⟨⟨Nat.zero_le _, f8⟩, trivial⟩) (by simp <;> omega)).done (by exact n6) (Nat.zero_le _)).intss) (hn := by decide) (hr := by decide) (hRT := .dec (by decide) (by decide)); exact hh)) ?_
   rintro _ bV ⟨_, ⟨q7, z1⟩, e8, _, _, _, _, _, rfl, cK⟩
   have cR := cK.catR
   have _ := e8.1
   replace b := b.le e8
   replace hs := hs.le e8
   replace c := e8.2 _ _ c
   replace o := Keep.le o e8
   replace x5 := m3.keep o (Nat.le_refl _)
   have aT := x5.inn
   have aY := cR.inn
   refine .call rfl rfl rfl rfl @Try.call126 rfl (l03JoinG_c (hin := aT) (hin1 := aY) (gc := w5) (gd := q7) (oc := t6) (od := z1)) ?_
   rintro _ aF ⟨cW, ⟨v2, _⟩, k6, _, _, _, _, _, rfl, dG⟩
   have x6 := dG.catR
   replace b := b.le k6
   replace hs := hs.le k6
   replace c := k6.2 _ _ c
   have n0 := x6
   have b7 : Keep bV.next aF aF := fun _ _ _ h => h
   clear aT
   clear aY
   refine .r0 rfl rfl (.fillA rfl sz_27_D rfl rfl rfl rfl) ?_
   rintro _ _ ⟨rfl, a3, f9⟩
   replace b := b.sA a3
   replace hs := hs.sA a3
   replace b7 := Keep.st b7 a3 (fun k hb hk => ⟨(by omega), trivial⟩)
   replace x6 := n0.keep b7 (Nat.le_refl _)
   refine .nil (x2 _ _ (.ret (v _ _ (⟨_, _, _, _, rfl, ag_27_D, (by rfl), (Mem.of_get f9), ?_⟩))))
   exact ⟨cW, _, rfl, v2, x6.keep (.of_le (.refl _)) (by omega), b, hs⟩
  refine .seq (fun K37 t2 => .region (.q rfl (.cmp rfl rfl rfl) (.mv rfl (.nil (t2 _ _ ?_)))))
  refine .cond rfl ?_ ?_ <;> intro h98
  ·
   refine .seq (fun K38 t7 => .region (.mv rfl (.mv rfl ?_)))
   refine .call rfl rfl rfl rfl @Try.call30 rfl (l01Next_c) ?_
   rintro _ _ ⟨o7, rfl, _, _, _, e7, hs⟩
   have _ := e7.nx
   replace b := b.sA e7
   replace c := e7.s c d.ne
   obtain ⟨n, hn⟩ : ∃ n : Nat, (n : Int) = 2 + o7 := ⟨(2 + o7).toNat, by omega⟩
   refine .q rfl (.add (r := (n : Int)) rfl rfl (by omega) (by omega) (by omega)) ?_
   refine .call rfl rfl rfl rfl @Try.call32 rfl (l02RelationG_c (n := n) (hn := by omega)) ?_
   rintro _ s6 ⟨_, _, _, rfl, z2, p1, p6, p9, f1, hs⟩
   have _ := f1.nx
   replace b := b.sA f1
   replace c := f1.s c d.ne
   refine .call rfl rfl rfl rfl @Try.call31 rfl (l03PosetG_c (hin := z2.intss) (hn := by omega) (hr := p6) (hRT := by rw [p1]; exact p9)) ?_
   rintro _ p0 ⟨r8, ⟨o6, _⟩, f4, _, _, _, _, _, rfl, z4⟩
   have l9 := z4.catR
   replace b := b.le f4
   replace hs := hs.le f4
   replace c := f4.2 _ _ c
   have g0 := l9
   have b1 : Keep s6.next p0 p0 := fun _ _ _ h => h
   refine .r0 rfl rfl (.fillA rfl sz_27_D rfl rfl rfl rfl) ?_
   rintro _ _ ⟨rfl, a8, g6⟩
   replace b := b.sA a8
   replace hs := hs.sA a8
   replace b1 := Keep.st b1 a8 (fun k hb hk => ⟨(by omega), trivial⟩)
   replace l9 := g0.keep b1 (Nat.le_refl _)
   refine .nil (t7 _ _ (.ret (v _ _ (⟨_, _, _, _, rfl, ag_27_D, (by rfl), (Mem.of_get g6), ?_⟩))))
   exact ⟨r8, _, rfl, o6.mono (by omega), l9.keep (.of_le (.refl _)) (by omega), b, hs⟩
  refine .skip (cI _ _ (.seq (fun K39 u8 => .region (.mv rfl ?_))))
  refine .call rfl rfl rfl rfl @Try.call30 rfl (l01Next_c) ?_
  rintro _ _ ⟨p8, rfl, _, _, _, e3, hs⟩
  have _ := e3.nx
  replace b := b.sA e3
  replace c := e3.s c d.ne
  obtain ⟨n, hn⟩ : ∃ n : Nat, (n : Int) = 2 + p8 := ⟨(2 + p8).toNat, by omega⟩
  refine .q rfl (.add (r := (n : Int)) rfl rfl (by omega) (by omega) (by omega)) ?_
  refine .mv rfl (.nil (u8 _ _ (.seq (fun K40 w0 => .region ?_))))
  refine .R rfl (.litA rfl sl_24_A ze_2_L rfl rfl rfl rfl) ?_
  rintro _ u2 ⟨l6, rfl, e6, _, w⟩
  replace b := b.le e6
  replace hs := hs.le e6
  replace c := e6.2 _ _ c
  have _ := GHeap.ltg w
  replace w : GHeap.get u2 l6 = some (.row (ints []) 2 true) := w
  refine .R rfl (.litA rfl sl_24_A ze_2_L rfl rfl rfl rfl) ?_
  rintro _ u9 ⟨l4, rfl, d5, _, b6⟩
  replace b := b.le d5
  replace hs := hs.le d5
  replace c := d5.2 _ _ c
  replace w := d5.2 _ _ w
  have _ := GHeap.ltg b6
  replace b6 : GHeap.get u9 l4 = some (.row (ints []) 2 true) := b6
  refine .mv rfl (.mv rfl (.nil (w0 _ _ (.seq (fun K41 r5 => .seq (fun K42 r4 => .region (.mv rfl ?_)))))))
  refine .call rfl rfl rfl rfl @Try.call30 rfl (l01Next_c) ?_
  rintro _ j5 ⟨o2, rfl, _, _, _, b4, hs⟩
  have _ := b4.nx
  replace b := b.sA b4
  replace c := b4.s c d.ne
  replace w := b4.s w
  replace b6 := b4.s b6
  obtain ⟨m, rfl⟩ : ∃ m : Nat, o2 = (m : Int) := ⟨o2.toNat, by omega⟩
  refine .mv rfl (.nil (r4 _ _ (.block ?_)))
  refine .loopF (σ := Nat × List Int × List Int × Nat × Nat × Nat × Nat) [0, 2, 8] (fun (k, xs, ys, i4, n5, a2, c6) => [(11, some (.int .i64 (k : Int))), (9, some (.slice (some ⟨i4, 0, none⟩) n5 n5)), (10, some (.slice (some ⟨a2, 0, none⟩) c6 c6))]) (fun (k, xs, ys, i4, n5, a2, c6) H' => St [l6, l4, gS] j5 H' ∧ H'.get i4 = some (.row (ints xs) 2 true) ∧ PL i4 l6 j5.next ∧ n5 = xs.length ∧ H'.get a2 = some (.row (ints ys) 2 true) ∧ PL a2 l4 j5.next ∧ c6 = ys.length ∧ i4 ≠ a2 ∧ (k + xs.length ≤ 3 ∧ ys.length = xs.length) ∧ Bd 0 ((n : Int) - 1) ys ∧ (∀ e, e < xs.length → xs.getD e 0 < ys.getD e 0) ∧ DSrc 86 H' gS) (fun (k, xs, ys, i4, n5, a2, c6) => k) ((m, [], [], _, _, _, _)) rfl (.p rfl) ?_ ?_
  ·
   refine ⟨.refl _ _, by assumption, ⟨.inl rfl⟩, by rfl, by assumption, ⟨.inl rfl⟩, by rfl, by omega, ?_⟩
   exact ⟨⟨by simp; omega, rfl⟩, .nil _ _, fun _ h => by simp at h, hs⟩
  rintro ⟨k, xs, ys, i4, n5, a2, c6⟩ HL3 ⟨g, b3, o4, o8, f, n3, _, n7, hI⟩ _ s8
  dsimp only [cA, nA]
  have _ := g.nx
  replace b := b.st g (fun k hk ho => by simp only [out, and_true] at ho ⊢ <;> exact ⟨by first | exact ho | exact ho.1 | exact ho.2 | exact ho.2.1 | exact ho.2.2 | exact ho.2.2.1 | exact ho.2.2.2 | omega, by first | exact ho | exact ho.1 | exact ho.2 | exact ho.2.1 | exact ho.2.2 | exact ho.2.2.1 | exact ho.2.2.2 | omega, by first | exact ho | exact ho.1 | exact ho.2 | exact ho.2.1 | exact ho.2.2 | exact ho.2.2.1 | exact ho.2.2.2 | omega⟩)
  replace c := g.same _ _ ⟨(by first | assumption | omega), (by first | assumption | omega), d.ne, trivial⟩ c
  have _ := GHeap.ltg f
  obtain ⟨⟨_, hyl⟩, hY, hU, hs⟩ := hI
  have _ : H.next ≤ i4 := o4.ge (by omega) (by omega)
  have _ : H.next ≤ a2 := n3.ge (by omega) (by omega)
  refine .seq (fun K43 w6 => .seq (fun K44 z6 => .region (.mv rfl (.q rfl (.cmp rfl rfl rfl) (.nil (z6 _ _ ?_))))))
  refine .cond rfl ?_ ?_ <;> intro y6
  ·
   simp only [sps] at y6
   obtain ⟨k1, rfl⟩ : ∃ k1, k = k1 + 1 := ⟨k - 1, by omega⟩
   refine .skip (w6 _ _ (.seq (fun K45 u5 => .block (.seq (fun K46 x7 => .region (.mv rfl (.mv rfl ?_)))))))
   refine .q rfl (.sub rfl rfl rfl (by omega) (by omega)) ?_
   refine .call rfl rfl rfl rfl @Try.call30 rfl (l01Next_c) ?_
   rintro _ _ ⟨n8, rfl, _, _, _, d6, hs⟩
   have _ := d6.nx
   replace g := g.sA d6
   replace b3 := d6.s b3
   have x : NE a2 gS := .a
   replace f := d6.s f x.ne
   refine .mv rfl (.nil (x7 _ _ (.seq (fun K47 r1 => .region (.mv rfl (.mv rfl ?_))))))
   refine .R rfl (.litA rfl sl_24_A ze_2_L rfl rfl rfl rfl) ?_
   rintro _ _ ⟨_, rfl, d4, _, n9⟩
   replace g := g.le d4
   replace hs := hs.le d4
   replace b3 := d4.2 _ _ b3
   replace f := d4.2 _ _ f
   have _ := GHeap.ltg n9
   refine .R rfl (.apI rfl sl_24_A ze_2_L rfl by_2_L sl_24_A rfl rfl) ?_
   rintro _ _ ⟨_, rfl, e9, _, y⟩
   replace g := g.sP e9
   replace hs := hs.sP e9
   replace f := e9.same _ _ ⟨(Ne.symm n7), trivial⟩ f
   have _ := GHeap.ltg y
   refine .mv rfl (.nil (r1 _ _ (.region (.mv rfl (.mv rfl (.q rfl (.aD rfl rfl rfl) (.mv rfl (.mv rfl ?_))))))))
   refine .q rfl (.sub rfl rfl rfl (by omega) (by omega)) ?_
   refine .mv rfl ?_
   refine .q rfl (.sub rfl rfl rfl (by omega) (by omega)) ?_
   refine .call rfl rfl rfl rfl @Try.call30 rfl (l01Next_c) ?_
   rintro _ _ ⟨x3, rfl, _, _, _, d2, hs⟩
   have _ := d2.nx
   replace g := g.sA d2
   replace f := d2.s f x.ne
   replace y := d2.s y
   refine .q rfl (.aD rfl rfl rfl) ?_
   refine .R rfl (.litA rfl sl_24_A ze_2_L rfl rfl rfl rfl) ?_
   rintro _ _ ⟨_, rfl, d3, _, p7⟩
   replace g := g.le d3
   replace hs := hs.le d3
   replace f := d3.2 _ _ f
   replace y := d3.2 _ _ y
   have _ := GHeap.ltg p7
   refine .R rfl (.apI rfl sl_24_A ze_2_L rfl by_2_L sl_24_A rfl rfl) ?_
   rintro _ _ ⟨_, rfl, e2, _, _⟩
   replace g := g.sP e2
   replace hs := hs.sP e2
   replace y := e2.s y
   refine .mv rfl (.nil (u5 _ _ (.region (.mv rfl ?_))))
   refine .q rfl (.sub (r := (k1 : Int)) rfl rfl (by omega) (by omega) (by omega)) ?_
   refine .mv rfl (.nil ?_)
   refine s8 ((k1, xs ++ [n8], ys ++ [n8 + 1 + x3], _, _, _, _)) _ _ ?_ ?_ (.p rfl)
   ·
    refine ⟨g, by assumption, by exact ⟨.inr (by omega)⟩, by (simp only [List.length_append, List.length_cons, List.length_nil] <;> omega), by assumption, by exact ⟨.inr (by omega)⟩, by (simp only [List.length_append, List.length_cons, List.length_nil] <;> omega), by omega, ?_⟩
    exact ⟨⟨by simp; omega, by simp; omega⟩, hY.snoc (by omega) (by omega), up_snoc hyl hU (by omega), hs⟩
   (dsimp only; omega)
  refine .exit (r5 _ _ (.seq (fun K48 w3 => .region ?_)))
  obtain rfl := o8
  have dF : c6 = ys.length := by omega
  subst dF
  refine .mv rfl (.mv rfl (.mv rfl ?_))
  refine .call rfl rfl rfl rfl @Try.call121 rfl (l03PathsG_c (ha := Ints.of_get b3) (hb := Ints.of_get f) (hl := hyl) (hx := by omega) (hn := by omega) (hy := hY) (hup := hU)) ?_
  rintro _ o5 ⟨u6, ⟨p5, _⟩, e0, _, _, _, _, _, rfl, y5⟩
  have l5 := y5.catR
  replace b := b.le e0
  replace c := e0.2 _ _ c
  have h7 := l5
  have b0 : Keep HL3.next o5 o5 := fun _ _ _ h => h
  refine .r0 rfl rfl (.fillA rfl sz_27_D rfl rfl rfl rfl) ?_
  rintro _ _ ⟨rfl, a6, h3⟩
  replace b := b.sA a6
  replace b0 := Keep.st b0 a6 (fun k hb hk => ⟨(by omega), trivial⟩)
  replace l5 := h7.keep b0 (Nat.le_refl _)
  refine .nil (w3 _ _ (.ret (v _ _ (⟨_, _, _, _, rfl, ag_27_D, (by rfl), (Mem.of_get h3), ?_⟩))))
  exact ⟨u6, _, rfl, p5.mono (by omega), l5.keep (.of_le (.refl _)) (by omega), b, (hs.le e0).st a6 (fun k hk ho => ⟨by omega, trivial⟩)⟩
end Go.Proofs.Ytfanjkbaemhbmaa
