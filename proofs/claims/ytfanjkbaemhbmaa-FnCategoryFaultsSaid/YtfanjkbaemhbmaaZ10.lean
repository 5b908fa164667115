/- Opposites. No condition but those of each statement. -/
import Derived.Test.YtfanjkbaemhbmaaZ9
namespace Go.Proofs.Ytfanjkbaemhbmaa
open Go Go.GL Go.RowKit Go.Proofs
set_option maxHeartbeats 8000000 in
theorem l03Op_c {c : Cat} {p : CatP} {N : Nat} {H : GHeap} (hin : c.In H p := by assumption) (hr : c.Rect N) (hN : N ≤ 100000) :
    GCalls Try.prog 125 [.agg (c.cells p).toArray] H (NewCatO 2 24 H c.op) := by
  obtain ⟨b1, b2, b3, -, -, b6, -, b8, b9, -⟩ := id hr
  refine GCalls.body (N := 53) (rs := [.cell 2 27]) Try.func125 rfl rfl rfl rfl (fun Qx aN hend => ?_)
  refine .fg [0] rfl ?_
  have m := GHeap.Le.refl H
  have d := hin
  refine .seq (fun K1 bI => .region ?_)
  refine .R rfl (.boxR rfl sz_27_D rfl) ?_
  rintro _ H1 ⟨g1, rfl, bA, ge1, l⟩
  replace m := m.trans bA
  have lt_at1 := GHeap.ltg l
  replace hin := d.mono m
  have u : Cat.At _ g1 0 c p := ⟨Mem.of_get l, hin⟩
  refine .R rfl (.allocR rfl ze_27_Hj rfl) ?_
  rintro _ H2 ⟨g2, rfl, aY, ge2, x0⟩
  replace m := m.trans aY
  replace l := aY.2 _ _ l
  have lt_at2 := GHeap.ltg x0
  replace hin := d.mono m
  clear u
  have u : Cat.At _ g1 0 c p := ⟨Mem.of_get l, hin⟩
  obtain ⟨bF, x7, bC, bK, -, -, u0, -, -⟩ := u.get
  refine .nil (bI _ _ (.seq (fun K2 bO => ?_)))
  refine .regionD mo_B (.q 0 (.q 1 (.q 2 (.q 3 (.q 5 (.q 6 (.q 8 (.q 9 (.or (.c 4 1 (.or (.c 7 1 (.or (.c 10 1 (.or (.c 11 1 (.q 12 (.c 13 1 (.c 14 1 (.done))))) (.c 13 1 (.c 11 1 (.q 12 (.c 14 1 (.done))))))) (.or (.c 11 1 (.or (.c 10 1 (.q 12 (.c 13 1 (.c 14 1 (.done))))) (.c 13 1 (.c 10 1 (.q 12 (.c 14 1 (.done))))))) (.c 13 1 (.or (.c 10 1 (.c 11 1 (.q 12 (.c 14 1 (.done))))) (.c 11 1 (.c 10 1 (.q 12 (.c 14 1 (.done)))))))))) (.or (.c 11 1 (.or (.c 7 1 (.or (.c 10 1 (.q 12 (.c 13 1 (.c 14 1 (.done))))) (.c 13 1 (.c 10 1 (.q 12 (.c 14 1 (.done))))))) (.c 13 1 (.c 7 1 (.c 10 1 (.q 12 (.c 14 1 (.done)))))))) (.c 13 1 (.or (.c 7 1 (.or (.c 10 1 (.c 11 1 (.q 12 (.c 14 1 (.done))))) (.c 11 1 (.c 10 1 (.q 12 (.c 14 1 (.done))))))) (.c 11 1 (.c 7 1 (.c 10 1 (.q 12 (.c 14 1 (.done))))))))))) (.or (.c 11 1 (.or (.c 4 1 (.or (.c 7 1 (.or (.c 10 1 (.q 12 (.c 13 1 (.c 14 1 (.done))))) (.c 13 1 (.c 10 1 (.q 12 (.c 14 1 (.done))))))) (.c 13 1 (.c 7 1 (.c 10 1 (.q 12 (.c 14 1 (.done)))))))) (.c 13 1 (.c 4 1 (.c 7 1 (.c 10 1 (.q 12 (.c 14 1 (.done))))))))) (.c 13 1 (.or (.c 4 1 (.or (.c 7 1 (.or (.c 10 1 (.c 11 1 (.q 12 (.c 14 1 (.done))))) (.c 11 1 (.c 10 1 (.q 12 (.c 14 1 (.done))))))) (.c 11 1 (.c 7 1 (.c 10 1 (.q 12 (.c 14 1 (.done)))))))) (.c 11 1 (.c 4 1 (.c 7 1 (.c 10 1 (.q 12 (.c 14 1 (.done))))))))))))))))))) (by kernel_rfl) ?_
  refine .cut [(0, some _), (1, some _), (2, some _)] ⟨rfl, rfl, rfl, trivial⟩ (fun rest fr' H' => ∃ s9 t6 t1 s2 g3, Sub ((11, some (.slice (some ⟨s9, 0, none⟩) c.tgt.length c.tgt.length)) :: (14, some (.slice (some ⟨t6, 0, none⟩) c.src.length c.src.length)) :: (17, some (.slice (some ⟨t1, 0, none⟩) c.idn.length c.idn.length)) :: (18, some (.slice (some ⟨s2, 0, none⟩) 0 0)) :: (3, some (.pointer (some ⟨g3, 0, none⟩))) :: rest) fr' ∧ H2.Le H' ∧ H2.next ≤ s9 ∧ H2.next ≤ t6 ∧ H2.next ≤ t1 ∧ H2.next ≤ s2 ∧ H2.next ≤ g3 ∧ H'.get s9 = some (.row (ints c.tgt) 2 true) ∧ H'.get t6 = some (.row (ints c.src) 2 true) ∧ H'.get t1 = some (.row (ints c.idn) 2 true) ∧ H'.get s2 = some (.row ([]) 24 true) ∧ H'.get g3 = some (.row ([.int .i64 c.obj, .slice (some ⟨s9, 0, none⟩) c.tgt.length c.tgt.length, .slice (some ⟨t6, 0, none⟩) c.src.length c.src.length, .slice (some ⟨t1, 0, none⟩) c.idn.length c.idn.length, .slice (some ⟨s2, 0, none⟩) 0 0]) 27 true) ∧ s9 ≠ t6 ∧ s9 ≠ t1 ∧ s9 ≠ s2 ∧ s9 ≠ g3 ∧ t6 ≠ t1 ∧ t6 ≠ s2 ∧ t6 ≠ g3 ∧ t1 ≠ s2 ∧ t1 ≠ g3 ∧ s2 ≠ g3) ?_ ?_
  ·
   have j := GHeap.Le.refl H2
   refine .qB rfl (.refl _) (.fieldAddr fo_27_0_B rfl) ?_
   refine .q rfl (.load on_2_A rfl (by first | assumption | exact Mem.of_get l 0 _ rfl)) ?_
   refine .qB rfl (.refl _) (.fieldAddr fo_27_2_B rfl) ?_
   refine .q rfl (.load on_24_B rfl (by first | assumption | exact Mem.of_get l 2 _ rfl)) ?_
   refine .qB rfl (.refl _) (.fieldAddr fo_27_1_B rfl) ?_
   refine .q rfl (.load on_24_B rfl (by first | assumption | exact Mem.of_get l 1 _ rfl)) ?_
   refine .qB rfl (.refl _) (.fieldAddr fo_27_3_B rfl) ?_
   refine .q rfl (.load on_24_B rfl (by first | assumption | exact Mem.of_get l 3 _ rfl)) ?_
   refine .orI ?_ ?_
   ·
    refine .call1 rfl rfl rfl rfl rfl @Try.call108 rfl (l01Own_c) ?_
    rintro _ H11x2 ⟨n8, a5, rfl, b, ge11x2⟩
    have e := n8
    refine ⟨e, ?_⟩
    replace m := m.trans n8
    replace l := n8.2 _ _ l
    have lt_at11x2 := GHeap.ltg b
    replace j := j.trans n8
    refine .orI ?_ ?_
    ·
     replace hin := d.mono m
     clear u bF x7 bC bK u0
     have u : Cat.At _ g1 0 c p := ⟨Mem.of_get l, hin⟩
     obtain ⟨-, -, -, -, -, m7, -, -, -⟩ := u.get
     refine .call1 rfl rfl rfl rfl rfl @Try.call108 rfl (l01Own_c) ?_
     rintro _ H14x2 ⟨m3, l0, rfl, i, ge14x2⟩
     replace e := e.trans m3
     refine ⟨e, ?_⟩
     replace m := m.trans m3
     replace l := m3.2 _ _ l
     replace b := m3.2 _ _ b
     have lt_at14x2 := GHeap.ltg i
     replace j := j.trans m3
     refine .orI ?_ ?_
     ·
      replace hin := d.mono m
      clear u m7
      have u : Cat.At _ g1 0 c p := ⟨Mem.of_get l, hin⟩
      obtain ⟨-, -, -, -, -, -, -, o8, -⟩ := u.get
      refine .call1 rfl rfl rfl rfl rfl @Try.call108 rfl (l01Own_c) ?_
      rintro _ H17x2 ⟨o3, u4, rfl, a2, ge17x2⟩
      replace e := e.trans o3
      refine ⟨e, ?_⟩
      replace b := o3.2 _ _ b
      replace i := o3.2 _ _ i
      have lt_at17x2 := GHeap.ltg a2
      replace j := j.trans o3
      refine .orI ?_ ?_
      ·
       refine .c1 rfl rfl rfl rfl (.litA rfl sl_25_B ze_24_Hj rfl rfl rfl rfl) ?_
       rintro _ H18x2 ⟨x5, rfl, l5, ge18x2, j0⟩
       replace e := e.trans l5
       refine ⟨e, ?_⟩
       replace b := l5.2 _ _ b
       replace i := l5.2 _ _ i
       replace a2 := l5.2 _ _ a2
       have lt_at18x2 := GHeap.ltg j0
       replace j := j.trans l5
       refine .qB rfl e (.build bt_27_Hj rfl rfl rfl) ?_
       refine .c1 rfl rfl rfl rfl (.allocR rfl ze_27_Hj rfl) ?_
       rintro _ H3x2 ⟨aF, rfl, n0, ge3x2, at3x2⟩
       replace e := e.trans n0
       refine ⟨e, ?_⟩
       replace b := n0.2 _ _ b
       replace i := n0.2 _ _ i
       replace a2 := n0.2 _ _ a2
       replace j0 := n0.2 _ _ j0
       replace j := j.trans n0
       refine .r1 rfl rfl rfl (.fillA rfl sz_27_D rfl rfl rfl rfl) ?_
       rintro _ H1014 ⟨rfl, j7, v5⟩
       replace e := e.st j7 (fun k hk => ⟨by omega, trivial⟩)
       refine ⟨e, ?_⟩
       replace b := j7.s b
       replace i := j7.s i
       replace a2 := j7.s a2
       replace j0 := j7.s j0
       replace j := j.st j7 (fun k hk => ⟨by omega, trivial⟩)
       refine .done ?_
       exact ⟨a5, l0, u4, x5, aF, ⟨rfl, rfl, rfl, rfl, rfl, rfl, rfl, rfl, trivial⟩, j, by omega, by omega, by omega, by omega, by omega, by first | assumption | simpa using b, by first | assumption | simpa using i, by first | assumption | simpa using a2, by first | assumption | simpa using j0, by first | assumption | simpa using v5, by omega, by omega, by omega, by omega, by omega, by omega, by omega, by omega, by omega, by omega⟩
      refine .c1 rfl rfl rfl rfl (.allocR rfl ze_27_Hj rfl) ?_
      rintro _ H3x3 ⟨aI, rfl, o9, ge3x3, s7⟩
      replace e := e.trans o9
      refine ⟨e, ?_⟩
      replace b := o9.2 _ _ b
      replace i := o9.2 _ _ i
      replace a2 := o9.2 _ _ a2
      have lt_at3x3 := GHeap.ltg s7
      replace j := j.trans o9
      refine .c1 rfl rfl rfl rfl (.litA rfl sl_25_B ze_24_Hj rfl rfl rfl rfl) ?_
      rintro _ H18x3 ⟨y9, rfl, i8, ge18x3, p3⟩
      replace e := e.trans i8
      refine ⟨e, ?_⟩
      replace b := i8.2 _ _ b
      replace i := i8.2 _ _ i
      replace a2 := i8.2 _ _ a2
      replace s7 := i8.2 _ _ s7
      replace j := j.trans i8
      refine .qB rfl e (.build bt_27_Hj rfl rfl rfl) ?_
      refine .r1 rfl rfl rfl (.fillA rfl sz_27_D rfl rfl rfl rfl) ?_
      rintro _ H1014x2 ⟨rfl, d6, t4⟩
      replace e := e.st d6 (fun k hk => ⟨by omega, trivial⟩)
      refine ⟨e, ?_⟩
      replace b := d6.s b
      replace i := d6.s i
      replace a2 := d6.s a2
      replace p3 := d6.s p3
      replace j := j.st d6 (fun k hk => ⟨by omega, trivial⟩)
      refine .done ?_
      exact ⟨a5, l0, u4, y9, aI, ⟨rfl, rfl, rfl, rfl, rfl, rfl, rfl, rfl, trivial⟩, j, by omega, by omega, by omega, by omega, by omega, by first | assumption | simpa using b, by first | assumption | simpa using i, by first | assumption | simpa using a2, by first | assumption | simpa using p3, by first | assumption | simpa using t4, by omega, by omega, by omega, by omega, by omega, by omega, by omega, by omega, by omega, by omega⟩
     refine .orI ?_ ?_
     ·
      refine .c1 rfl rfl rfl rfl (.litA rfl sl_25_B ze_24_Hj rfl rfl rfl rfl) ?_
      rintro _ H18x4 ⟨u8, rfl, k7, ge18x4, a0⟩
      replace e := e.trans k7
      refine ⟨e, ?_⟩
      replace m := m.trans k7
      replace l := k7.2 _ _ l
      replace b := k7.2 _ _ b
      replace i := k7.2 _ _ i
      have lt_at18x4 := GHeap.ltg a0
      replace j := j.trans k7
      refine .orI ?_ ?_
      ·
       replace hin := d.mono m
       have u : Cat.At _ g1 0 c p := ⟨Mem.of_get l, hin⟩
       obtain ⟨-, -, -, -, -, -, -, o8, -⟩ := u.get
       refine .call1 rfl rfl rfl rfl rfl @Try.call108 rfl (l01Own_c) ?_
       rintro _ H17x3 ⟨m6, x1, rfl, i4, ge17x3⟩
       replace e := e.trans m6
       refine ⟨e, ?_⟩
       replace b := m6.2 _ _ b
       replace i := m6.2 _ _ i
       replace a0 := m6.2 _ _ a0
       have lt_at17x3 := GHeap.ltg i4
       replace j := j.trans m6
       refine .qB rfl e (.build bt_27_Hj rfl rfl rfl) ?_
       refine .c1 rfl rfl rfl rfl (.allocR rfl ze_27_Hj rfl) ?_
       rintro _ H3x4 ⟨aB, rfl, n1, ge3x4, at3x4⟩
       replace e := e.trans n1
       refine ⟨e, ?_⟩
       replace b := n1.2 _ _ b
       replace i := n1.2 _ _ i
       replace a0 := n1.2 _ _ a0
       replace i4 := n1.2 _ _ i4
       replace j := j.trans n1
       refine .r1 rfl rfl rfl (.fillA rfl sz_27_D rfl rfl rfl rfl) ?_
       rintro _ H1014x3 ⟨rfl, d1, t8⟩
       replace e := e.st d1 (fun k hk => ⟨by omega, trivial⟩)
       refine ⟨e, ?_⟩
       replace b := d1.s b
       replace i := d1.s i
       replace a0 := d1.s a0
       replace i4 := d1.s i4
       replace j := j.st d1 (fun k hk => ⟨by omega, trivial⟩)
       refine .done ?_
       exact ⟨a5, l0, x1, u8, aB, ⟨rfl, rfl, rfl, rfl, rfl, rfl, rfl, rfl, trivial⟩, j, by omega, by omega, by omega, by omega, by omega, by first | assumption | simpa using b, by first | assumption | simpa using i, by first | assumption | simpa using i4, by first | assumption | simpa using a0, by first | assumption | simpa using t8, by omega, by omega, by omega, by omega, by omega, by omega, by omega, by omega, by omega, by omega⟩
      refine .c1 rfl rfl rfl rfl (.allocR rfl ze_27_Hj rfl) ?_
      rintro _ H3x5 ⟨aD, rfl, l9, ge3x5, t0⟩
      replace e := e.trans l9
      refine ⟨e, ?_⟩
      replace m := m.trans l9
      replace l := l9.2 _ _ l
      replace b := l9.2 _ _ b
      replace i := l9.2 _ _ i
      replace a0 := l9.2 _ _ a0
      have lt_at3x5 := GHeap.ltg t0
      replace j := j.trans l9
      replace hin := d.mono m
      have u : Cat.At _ g1 0 c p := ⟨Mem.of_get l, hin⟩
      obtain ⟨-, -, -, -, -, -, -, o8, -⟩ := u.get
      refine .call1 rfl rfl rfl rfl rfl @Try.call108 rfl (l01Own_c) ?_
      rintro _ H17x4 ⟨j4, z0, rfl, p7, ge17x4⟩
      replace e := e.trans j4
      refine ⟨e, ?_⟩
      replace b := j4.2 _ _ b
      replace i := j4.2 _ _ i
      replace a0 := j4.2 _ _ a0
      replace t0 := j4.2 _ _ t0
      replace j := j.trans j4
      refine .qB rfl e (.build bt_27_Hj rfl rfl rfl) ?_
      refine .r1 rfl rfl rfl (.fillA rfl sz_27_D rfl rfl rfl rfl) ?_
      rintro _ H1014x4 ⟨rfl, d7, t5⟩
      replace e := e.st d7 (fun k hk => ⟨by omega, trivial⟩)
      refine ⟨e, ?_⟩
      replace b := d7.s b
      replace i := d7.s i
      replace a0 := d7.s a0
      replace p7 := d7.s p7
      replace j := j.st d7 (fun k hk => ⟨by omega, trivial⟩)
      refine .done ?_
      exact ⟨a5, l0, z0, u8, aD, ⟨rfl, rfl, rfl, rfl, rfl, rfl, rfl, rfl, trivial⟩, j, by omega, by omega, by omega, by omega, by omega, by first | assumption | simpa using b, by first | assumption | simpa using i, by first | assumption | simpa using p7, by first | assumption | simpa using a0, by first | assumption | simpa using t5, by omega, by omega, by omega, by omega, by omega, by omega, by omega, by omega, by omega, by omega⟩
     refine .c1 rfl rfl rfl rfl (.allocR rfl ze_27_Hj rfl) ?_
     rintro _ H3x6 ⟨r8, rfl, n2, ge3x6, h8⟩
     replace e := e.trans n2
     refine ⟨e, ?_⟩
     replace m := m.trans n2
     replace l := n2.2 _ _ l
     replace b := n2.2 _ _ b
     replace i := n2.2 _ _ i
     have lt_at3x6 := GHeap.ltg h8
     replace j := j.trans n2
     refine .orI ?_ ?_
     ·
      replace hin := d.mono m
      have u : Cat.At _ g1 0 c p := ⟨Mem.of_get l, hin⟩
      obtain ⟨-, -, -, -, -, -, -, o8, -⟩ := u.get
      refine .call1 rfl rfl rfl rfl rfl @Try.call108 rfl (l01Own_c) ?_
      rintro _ H17x5 ⟨m4, z8, rfl, j9, ge17x5⟩
      replace e := e.trans m4
      refine ⟨e, ?_⟩
      replace b := m4.2 _ _ b
      replace i := m4.2 _ _ i
      replace h8 := m4.2 _ _ h8
      have lt_at17x5 := GHeap.ltg j9
      replace j := j.trans m4
      refine .c1 rfl rfl rfl rfl (.litA rfl sl_25_B ze_24_Hj rfl rfl rfl rfl) ?_
      rintro _ H18x5 ⟨y2, rfl, k0, ge18x5, p4⟩
      replace e := e.trans k0
      refine ⟨e, ?_⟩
      replace b := k0.2 _ _ b
      replace i := k0.2 _ _ i
      replace h8 := k0.2 _ _ h8
      replace j9 := k0.2 _ _ j9
      replace j := j.trans k0
      refine .qB rfl e (.build bt_27_Hj rfl rfl rfl) ?_
      refine .r1 rfl rfl rfl (.fillA rfl sz_27_D rfl rfl rfl rfl) ?_
      rintro _ H1014x5 ⟨rfl, d2, s5⟩
      replace e := e.st d2 (fun k hk => ⟨by omega, trivial⟩)
      refine ⟨e, ?_⟩
      have c9 : NE a5 r8 := .a
      replace b := d2.s b c9.ne
      have d0 : NE l0 r8 := .a
      replace i := d2.s i d0.ne
      replace j9 := d2.s j9
      replace p4 := d2.s p4
      replace j := j.st d2 (fun k hk => ⟨by omega, trivial⟩)
      refine .done ?_
      exact ⟨a5, l0, z8, y2, r8, ⟨rfl, rfl, rfl, rfl, rfl, rfl, rfl, rfl, trivial⟩, j, by omega, by omega, by omega, by omega, by omega, by first | assumption | simpa using b, by first | assumption | simpa using i, by first | assumption | simpa using j9, by first | assumption | simpa using p4, by first | assumption | simpa using s5, by omega, by omega, by omega, by omega, by omega, by omega, by omega, by omega, by omega, by omega⟩
     refine .c1 rfl rfl rfl rfl (.litA rfl sl_25_B ze_24_Hj rfl rfl rfl rfl) ?_
     rintro _ H18x6 ⟨y5, rfl, h0, ge18x6, i6⟩
     replace e := e.trans h0
     refine ⟨e, ?_⟩
     replace m := m.trans h0
     replace l := h0.2 _ _ l
     replace b := h0.2 _ _ b
     replace i := h0.2 _ _ i
     replace h8 := h0.2 _ _ h8
     have lt_at18x6 := GHeap.ltg i6
     replace j := j.trans h0
     replace hin := d.mono m
     have u : Cat.At _ g1 0 c p := ⟨Mem.of_get l, hin⟩
     obtain ⟨-, -, -, -, -, -, -, o8, -⟩ := u.get
     refine .call1 rfl rfl rfl rfl rfl @Try.call108 rfl (l01Own_c) ?_
     rintro _ H17x6 ⟨j2, x2, rfl, p2, ge17x6⟩
     replace e := e.trans j2
     refine ⟨e, ?_⟩
     replace b := j2.2 _ _ b
     replace i := j2.2 _ _ i
     replace h8 := j2.2 _ _ h8
     replace i6 := j2.2 _ _ i6
     replace j := j.trans j2
     refine .qB rfl e (.build bt_27_Hj rfl rfl rfl) ?_
     refine .r1 rfl rfl rfl (.fillA rfl sz_27_D rfl rfl rfl rfl) ?_
     rintro _ H1014x6 ⟨rfl, d5, s3⟩
     replace e := e.st d5 (fun k hk => ⟨by omega, trivial⟩)
     refine ⟨e, ?_⟩
     have c9 : NE a5 r8 := .a
     replace b := d5.s b c9.ne
     have d0 : NE l0 r8 := .a
     replace i := d5.s i d0.ne
     replace i6 := d5.s i6
     replace p2 := d5.s p2
     replace j := j.st d5 (fun k hk => ⟨by omega, trivial⟩)
     refine .done ?_
     exact ⟨a5, l0, x2, y5, r8, ⟨rfl, rfl, rfl, rfl, rfl, rfl, rfl, rfl, trivial⟩, j, by omega, by omega, by omega, by omega, by omega, by first | assumption | simpa using b, by first | assumption | simpa using i, by first | assumption | simpa using p2, by first | assumption | simpa using i6, by first | assumption | simpa using s3, by omega, by omega, by omega, by omega, by omega, by omega, by omega, by omega, by omega, by omega⟩
    refine .orI ?_ ?_
    ·
     refine .c1 rfl rfl rfl rfl (.litA rfl sl_25_B ze_24_Hj rfl rfl rfl rfl) ?_
     rintro _ H18x7 ⟨s6, rfl, l7, ge18x7, t⟩
     replace e := e.trans l7
     refine ⟨e, ?_⟩
     replace m := m.trans l7
     replace l := l7.2 _ _ l
     replace b := l7.2 _ _ b
     have lt_at18x7 := GHeap.ltg t
     replace j := j.trans l7
     refine .orI ?_ ?_
     ·
      replace hin := d.mono m
      have u : Cat.At _ g1 0 c p := ⟨Mem.of_get l, hin⟩
      obtain ⟨-, -, -, -, -, m7, -, -, -⟩ := u.get
      refine .call1 rfl rfl rfl rfl rfl @Try.call108 rfl (l01Own_c) ?_
      rintro _ H14x3 ⟨j3, u5, rfl, a3, ge14x3⟩
      replace e := e.trans j3
      refine ⟨e, ?_⟩
      replace m := m.trans j3
      replace l := j3.2 _ _ l
      replace b := j3.2 _ _ b
      replace t := j3.2 _ _ t
      have lt_at14x3 := GHeap.ltg a3
      replace j := j.trans j3
      refine .orI ?_ ?_
      ·
       replace hin := d.mono m
       clear u m7
       have u : Cat.At _ g1 0 c p := ⟨Mem.of_get l, hin⟩
       obtain ⟨-, -, -, -, -, -, -, o8, -⟩ := u.get
       refine .call1 rfl rfl rfl rfl rfl @Try.call108 rfl (l01Own_c) ?_
       rintro _ H17x7 ⟨l4, y6, rfl, i7, ge17x7⟩
       replace e := e.trans l4
       refine ⟨e, ?_⟩
       replace b := l4.2 _ _ b
       replace t := l4.2 _ _ t
       replace a3 := l4.2 _ _ a3
       have lt_at17x7 := GHeap.ltg i7
       replace j := j.trans l4
       refine .qB rfl e (.build bt_27_Hj rfl rfl rfl) ?_
       refine .c1 rfl rfl rfl rfl (.allocR rfl ze_27_Hj rfl) ?_
       rintro _ H3x7 ⟨aU, rfl, m9, ge3x7, at3x7⟩
       replace e := e.trans m9
       refine ⟨e, ?_⟩
       replace b := m9.2 _ _ b
       replace t := m9.2 _ _ t
       replace a3 := m9.2 _ _ a3
       replace i7 := m9.2 _ _ i7
       replace j := j.trans m9
       refine .r1 rfl rfl rfl (.fillA rfl sz_27_D rfl rfl rfl rfl) ?_
       rintro _ H1014x7 ⟨rfl, d4, t7⟩
       replace e := e.st d4 (fun k hk => ⟨by omega, trivial⟩)
       refine ⟨e, ?_⟩
       replace b := d4.s b
       replace t := d4.s t
       replace a3 := d4.s a3
       replace i7 := d4.s i7
       replace j := j.st d4 (fun k hk => ⟨by omega, trivial⟩)
       refine .done ?_
       exact ⟨a5, u5, y6, s6, aU, ⟨rfl, rfl, rfl, rfl, rfl, rfl, rfl, rfl, trivial⟩, j, by omega, by omega, by omega, by omega, by omega, by first | assumption | simpa using b, by first | assumption | simpa using a3, by first | assumption | simpa using i7, by first | assumption | simpa using t, by first | assumption | simpa using t7, by omega, by omega, by omega, by omega, by omega, by omega, by omega, by omega, by omega, by omega⟩
      refine .c1 rfl rfl rfl rfl (.allocR rfl ze_27_Hj rfl) ?_
      rintro _ H3x8 ⟨aE, rfl, l8, ge3x8, t2⟩
      replace e := e.trans l8
      refine ⟨e, ?_⟩
      replace m := m.trans l8
      replace l := l8.2 _ _ l
      replace b := l8.2 _ _ b
      replace t := l8.2 _ _ t
      replace a3 := l8.2 _ _ a3
      have lt_at3x8 := GHeap.ltg t2
      replace j := j.trans l8
      replace hin := d.mono m
      have u : Cat.At _ g1 0 c p := ⟨Mem.of_get l, hin⟩
      obtain ⟨-, -, -, -, -, -, -, o8, -⟩ := u.get
      refine .call1 rfl rfl rfl rfl rfl @Try.call108 rfl (l01Own_c) ?_
      rintro _ H17x8 ⟨j6, z5, rfl, p9, ge17x8⟩
      replace e := e.trans j6
      refine ⟨e, ?_⟩
      replace b := j6.2 _ _ b
      replace t := j6.2 _ _ t
      replace a3 := j6.2 _ _ a3
      replace t2 := j6.2 _ _ t2
      replace j := j.trans j6
      refine .qB rfl e (.build bt_27_Hj rfl rfl rfl) ?_
      refine .r1 rfl rfl rfl (.fillA rfl sz_27_D rfl rfl rfl rfl) ?_
      rintro _ H1014x8 ⟨rfl, d8, s4⟩
      replace e := e.st d8 (fun k hk => ⟨by omega, trivial⟩)
      refine ⟨e, ?_⟩
      replace b := d8.s b
      replace t := d8.s t
      replace a3 := d8.s a3
      replace p9 := d8.s p9
      replace j := j.st d8 (fun k hk => ⟨by omega, trivial⟩)
      refine .done ?_
      exact ⟨a5, u5, z5, s6, aE, ⟨rfl, rfl, rfl, rfl, rfl, rfl, rfl, rfl, trivial⟩, j, by omega, by omega, by omega, by omega, by omega, by first | assumption | simpa using b, by first | assumption | simpa using a3, by first | assumption | simpa using p9, by first | assumption | simpa using t, by first | assumption | simpa using s4, by omega, by omega, by omega, by omega, by omega, by omega, by omega, by omega, by omega, by omega⟩
     refine .c1 rfl rfl rfl rfl (.allocR rfl ze_27_Hj rfl) ?_
     rintro _ H3x9 ⟨aW, rfl, n3, ge3x9, p0⟩
     replace e := e.trans n3
     refine ⟨e, ?_⟩
     replace m := m.trans n3
     replace l := n3.2 _ _ l
     replace b := n3.2 _ _ b
     replace t := n3.2 _ _ t
     have lt_at3x9 := GHeap.ltg p0
     replace j := j.trans n3
     replace hin := d.mono m
     have u : Cat.At _ g1 0 c p := ⟨Mem.of_get l, hin⟩
     obtain ⟨-, -, -, -, -, m7, -, -, -⟩ := u.get
     refine .call1 rfl rfl rfl rfl rfl @Try.call108 rfl (l01Own_c) ?_
     rintro _ H14x4 ⟨h3, x9, rfl, k9, ge14x4⟩
     replace e := e.trans h3
     refine ⟨e, ?_⟩
     replace m := m.trans h3
     replace l := h3.2 _ _ l
     replace b := h3.2 _ _ b
     replace t := h3.2 _ _ t
     replace p0 := h3.2 _ _ p0
     have lt_at14x4 := GHeap.ltg k9
     replace j := j.trans h3
     replace hin := d.mono m
     clear u m7
     have u : Cat.At _ g1 0 c p := ⟨Mem.of_get l, hin⟩
     obtain ⟨-, -, -, -, -, -, -, o8, -⟩ := u.get
     refine .call1 rfl rfl rfl rfl rfl @Try.call108 rfl (l01Own_c) ?_
     rintro _ H17x9 ⟨k5, y4, rfl, p6, ge17x9⟩
     replace e := e.trans k5
     refine ⟨e, ?_⟩
     replace b := k5.2 _ _ b
     replace t := k5.2 _ _ t
     replace p0 := k5.2 _ _ p0
     replace k9 := k5.2 _ _ k9
     replace j := j.trans k5
     refine .qB rfl e (.build bt_27_Hj rfl rfl rfl) ?_
     refine .r1 rfl rfl rfl (.fillA rfl sz_27_D rfl rfl rfl rfl) ?_
     rintro _ H1014x9 ⟨rfl, d3, t3⟩
     replace e := e.st d3 (fun k hk => ⟨by omega, trivial⟩)
     refine ⟨e, ?_⟩
     replace b := d3.s b
     replace t := d3.s t
     replace k9 := d3.s k9
     replace p6 := d3.s p6
     replace j := j.st d3 (fun k hk => ⟨by omega, trivial⟩)
     refine .done ?_
     exact ⟨a5, x9, y4, s6, aW, ⟨rfl, rfl, rfl, rfl, rfl, rfl, rfl, rfl, trivial⟩, j, by omega, by omega, by omega, by omega, by omega, by first | assumption | simpa using b, by first | assumption | simpa using k9, by first | assumption | simpa using p6, by first | assumption | simpa using t, by first | assumption | simpa using t3, by omega, by omega, by omega, by omega, by omega, by omega, by omega, by omega, by omega, by omega⟩
    refine .c1 rfl rfl rfl rfl (.allocR rfl ze_27_Hj rfl) ?_
    rintro _ H3x10 ⟨l1, rfl, l6, ge3x10, w⟩
    replace e := e.trans l6
    refine ⟨e, ?_⟩
    replace m := m.trans l6
    replace l := l6.2 _ _ l
    replace b := l6.2 _ _ b
    have lt_at3x10 := GHeap.ltg w
    replace j := j.trans l6
    refine .orI ?_ ?_
    ·
     replace hin := d.mono m
     have u : Cat.At _ g1 0 c p := ⟨Mem.of_get l, hin⟩
     obtain ⟨-, -, -, -, -, m7, -, -, -⟩ := u.get
     refine .call1 rfl rfl rfl rfl rfl @Try.call108 rfl (l01Own_c) ?_
     rintro _ H14x5 ⟨k8, q1, rfl, z, ge14x5⟩
     replace e := e.trans k8
     refine ⟨e, ?_⟩
     replace m := m.trans k8
     replace l := k8.2 _ _ l
     replace b := k8.2 _ _ b
     replace w := k8.2 _ _ w
     have lt_at14x5 := GHeap.ltg z
     replace j := j.trans k8
     refine .orI ?_ ?_
     ·
      replace hin := d.mono m
      clear u m7
      have u : Cat.At _ g1 0 c p := ⟨Mem.of_get l, hin⟩
      obtain ⟨-, -, -, -, -, -, -, o8, -⟩ := u.get
      refine .call1 rfl rfl rfl rfl rfl @Try.call108 rfl (l01Own_c) ?_
      rintro _ H17x10 ⟨i2, w9, rfl, f9, ge17x10⟩
      replace e := e.trans i2
      refine ⟨e, ?_⟩
      replace b := i2.2 _ _ b
      replace w := i2.2 _ _ w
      replace z := i2.2 _ _ z
      have lt_at17x10 := GHeap.ltg f9
      replace j := j.trans i2
      refine .c1 rfl rfl rfl rfl (.litA rfl sl_25_B ze_24_Hj rfl rfl rfl rfl) ?_
      rintro _ H18x8 ⟨y0, rfl, k1, ge18x8, q0⟩
      replace e := e.trans k1
      refine ⟨e, ?_⟩
      replace b := k1.2 _ _ b
      replace w := k1.2 _ _ w
      replace z := k1.2 _ _ z
      replace f9 := k1.2 _ _ f9
      replace j := j.trans k1
      refine .qB rfl e (.build bt_27_Hj rfl rfl rfl) ?_
      refine .r1 rfl rfl rfl (.fillA rfl sz_27_D rfl rfl rfl rfl) ?_
      rintro _ H1014x10 ⟨rfl, b7, s0⟩
      replace e := e.st b7 (fun k hk => ⟨by omega, trivial⟩)
      refine ⟨e, ?_⟩
      have y : NE a5 l1 := .a
      replace b := b7.s b y.ne
      have c6 : NE q1 l1 := .a
      replace z := b7.s z c6.ne
      replace f9 := b7.s f9
      replace q0 := b7.s q0
      replace j := j.st b7 (fun k hk => ⟨by omega, trivial⟩)
      refine .done ?_
      exact ⟨a5, q1, w9, y0, l1, ⟨rfl, rfl, rfl, rfl, rfl, rfl, rfl, rfl, trivial⟩, j, by omega, by omega, by omega, by omega, by omega, by first | assumption | simpa using b, by first | assumption | simpa using z, by first | assumption | simpa using f9, by first | assumption | simpa using q0, by first | assumption | simpa using s0, by omega, by omega, by omega, by omega, by omega, by omega, by omega, by omega, by omega, by omega⟩
     refine .c1 rfl rfl rfl rfl (.litA rfl sl_25_B ze_24_Hj rfl rfl rfl rfl) ?_
     rintro _ H18x9 ⟨x8, rfl, h1, ge18x9, k6⟩
     replace e := e.trans h1
     refine ⟨e, ?_⟩
     replace m := m.trans h1
     replace l := h1.2 _ _ l
     replace b := h1.2 _ _ b
     replace w := h1.2 _ _ w
     replace z := h1.2 _ _ z
     have lt_at18x9 := GHeap.ltg k6
     replace j := j.trans h1
     replace hin := d.mono m
     have u : Cat.At _ g1 0 c p := ⟨Mem.of_get l, hin⟩
     obtain ⟨-, -, -, -, -, -, -, o8, -⟩ := u.get
     refine .call1 rfl rfl rfl rfl rfl @Try.call108 rfl (l01Own_c) ?_
     rintro _ H17x11 ⟨f8, v1, rfl, o2, ge17x11⟩
     replace e := e.trans f8
     refine ⟨e, ?_⟩
     replace b := f8.2 _ _ b
     replace w := f8.2 _ _ w
     replace z := f8.2 _ _ z
     replace k6 := f8.2 _ _ k6
     replace j := j.trans f8
     refine .qB rfl e (.build bt_27_Hj rfl rfl rfl) ?_
     refine .r1 rfl rfl rfl (.fillA rfl sz_27_D rfl rfl rfl rfl) ?_
     rintro _ H1014x11 ⟨rfl, c0, q3⟩
     replace e := e.st c0 (fun k hk => ⟨by omega, trivial⟩)
     refine ⟨e, ?_⟩
     have y : NE a5 l1 := .a
     replace b := c0.s b y.ne
     have c6 : NE q1 l1 := .a
     replace z := c0.s z c6.ne
     replace k6 := c0.s k6
     replace o2 := c0.s o2
     replace j := j.st c0 (fun k hk => ⟨by omega, trivial⟩)
     refine .done ?_
     exact ⟨a5, q1, v1, x8, l1, ⟨rfl, rfl, rfl, rfl, rfl, rfl, rfl, rfl, trivial⟩, j, by omega, by omega, by omega, by omega, by omega, by first | assumption | simpa using b, by first | assumption | simpa using z, by first | assumption | simpa using o2, by first | assumption | simpa using k6, by first | assumption | simpa using q3, by omega, by omega, by omega, by omega, by omega, by omega, by omega, by omega, by omega, by omega⟩
    refine .c1 rfl rfl rfl rfl (.litA rfl sl_25_B ze_24_Hj rfl rfl rfl rfl) ?_
    rintro _ H18x10 ⟨w7, rfl, e9, ge18x10, c8⟩
    replace e := e.trans e9
    refine ⟨e, ?_⟩
    replace m := m.trans e9
    replace l := e9.2 _ _ l
    replace b := e9.2 _ _ b
    replace w := e9.2 _ _ w
    have lt_at18x10 := GHeap.ltg c8
    replace j := j.trans e9
    replace hin := d.mono m
    have u : Cat.At _ g1 0 c p := ⟨Mem.of_get l, hin⟩
    obtain ⟨-, -, -, -, -, m7, -, -, -⟩ := u.get
    refine .call1 rfl rfl rfl rfl rfl @Try.call108 rfl (l01Own_c) ?_
    rintro _ H14x6 ⟨h5, y7, rfl, k3, ge14x6⟩
    replace e := e.trans h5
    refine ⟨e, ?_⟩
    replace m := m.trans h5
    replace l := h5.2 _ _ l
    replace b := h5.2 _ _ b
    replace w := h5.2 _ _ w
    replace c8 := h5.2 _ _ c8
    have lt_at14x6 := GHeap.ltg k3
    replace j := j.trans h5
    replace hin := d.mono m
    clear u m7
    have u : Cat.At _ g1 0 c p := ⟨Mem.of_get l, hin⟩
    obtain ⟨-, -, -, -, -, -, -, o8, -⟩ := u.get
    refine .call1 rfl rfl rfl rfl rfl @Try.call108 rfl (l01Own_c) ?_
    rintro _ H17x12 ⟨f7, v9, rfl, n4, ge17x12⟩
    replace e := e.trans f7
    refine ⟨e, ?_⟩
    replace b := f7.2 _ _ b
    replace w := f7.2 _ _ w
    replace c8 := f7.2 _ _ c8
    replace k3 := f7.2 _ _ k3
    replace j := j.trans f7
    refine .qB rfl e (.build bt_27_Hj rfl rfl rfl) ?_
    refine .r1 rfl rfl rfl (.fillA rfl sz_27_D rfl rfl rfl rfl) ?_
    rintro _ H1014x12 ⟨rfl, a9, r2⟩
    replace e := e.st a9 (fun k hk => ⟨by omega, trivial⟩)
    refine ⟨e, ?_⟩
    have y : NE a5 l1 := .a
    replace b := a9.s b y.ne
    replace c8 := a9.s c8
    replace k3 := a9.s k3
    replace n4 := a9.s n4
    replace j := j.st a9 (fun k hk => ⟨by omega, trivial⟩)
    refine .done ?_
    exact ⟨a5, y7, v9, w7, l1, ⟨rfl, rfl, rfl, rfl, rfl, rfl, rfl, rfl, trivial⟩, j, by omega, by omega, by omega, by omega, by omega, by first | assumption | simpa using b, by first | assumption | simpa using k3, by first | assumption | simpa using n4, by first | assumption | simpa using c8, by first | assumption | simpa using r2, by omega, by omega, by omega, by omega, by omega, by omega, by omega, by omega, by omega, by omega⟩
   refine .orI ?_ ?_
   ·
    refine .c1 rfl rfl rfl rfl (.litA rfl sl_25_B ze_24_Hj rfl rfl rfl rfl) ?_
    rintro _ H18x11 ⟨o6, rfl, l3, ge18x11, h⟩
    have e := l3
    refine ⟨e, ?_⟩
    replace m := m.trans l3
    replace l := l3.2 _ _ l
    have lt_at18x11 := GHeap.ltg h
    replace j := j.trans l3
    refine .orI ?_ ?_
    ·
     replace hin := d.mono m
     have u : Cat.At _ g1 0 c p := ⟨Mem.of_get l, hin⟩
     obtain ⟨-, -, -, -, -, -, u0, -, -⟩ := u.get
     refine .call1 rfl rfl rfl rfl rfl @Try.call108 rfl (l01Own_c) ?_
     rintro _ H11x3 ⟨m5, s8, rfl, r, ge11x3⟩
     replace e := e.trans m5
     refine ⟨e, ?_⟩
     replace m := m.trans m5
     replace l := m5.2 _ _ l
     replace h := m5.2 _ _ h
     have lt_at11x3 := GHeap.ltg r
     replace j := j.trans m5
     refine .orI ?_ ?_
     ·
      replace hin := d.mono m
      clear u u0
      have u : Cat.At _ g1 0 c p := ⟨Mem.of_get l, hin⟩
      obtain ⟨-, -, -, -, -, m7, -, -, -⟩ := u.get
      refine .call1 rfl rfl rfl rfl rfl @Try.call108 rfl (l01Own_c) ?_
      rintro _ H14x7 ⟨k2, u7, rfl, a1, ge14x7⟩
      replace e := e.trans k2
      refine ⟨e, ?_⟩
      replace m := m.trans k2
      replace l := k2.2 _ _ l
      replace h := k2.2 _ _ h
      replace r := k2.2 _ _ r
      have lt_at14x7 := GHeap.ltg a1
      replace j := j.trans k2
      refine .orI ?_ ?_
      ·
       replace hin := d.mono m
       clear u m7
       have u : Cat.At _ g1 0 c p := ⟨Mem.of_get l, hin⟩
       obtain ⟨-, -, -, -, -, -, -, o8, -⟩ := u.get
       refine .call1 rfl rfl rfl rfl rfl @Try.call108 rfl (l01Own_c) ?_
       rintro _ H17x13 ⟨i3, w8, rfl, g5, ge17x13⟩
       replace e := e.trans i3
       refine ⟨e, ?_⟩
       replace h := i3.2 _ _ h
       replace r := i3.2 _ _ r
       replace a1 := i3.2 _ _ a1
       have lt_at17x13 := GHeap.ltg g5
       replace j := j.trans i3
       refine .qB rfl e (.build bt_27_Hj rfl rfl rfl) ?_
       refine .c1 rfl rfl rfl rfl (.allocR rfl ze_27_Hj rfl) ?_
       rintro _ H3x11 ⟨y8, rfl, j1, ge3x11, at3x11⟩
       replace e := e.trans j1
       refine ⟨e, ?_⟩
       replace h := j1.2 _ _ h
       replace r := j1.2 _ _ r
       replace a1 := j1.2 _ _ a1
       replace g5 := j1.2 _ _ g5
       replace j := j.trans j1
       refine .r1 rfl rfl rfl (.fillA rfl sz_27_D rfl rfl rfl rfl) ?_
       rintro _ H1014x13 ⟨rfl, c3, q6⟩
       replace e := e.st c3 (fun k hk => ⟨by omega, trivial⟩)
       refine ⟨e, ?_⟩
       replace h := c3.s h
       replace r := c3.s r
       replace a1 := c3.s a1
       replace g5 := c3.s g5
       replace j := j.st c3 (fun k hk => ⟨by omega, trivial⟩)
       refine .done ?_
       exact ⟨s8, u7, w8, o6, y8, ⟨rfl, rfl, rfl, rfl, rfl, rfl, rfl, rfl, trivial⟩, j, by omega, by omega, by omega, by omega, by omega, by first | assumption | simpa using r, by first | assumption | simpa using a1, by first | assumption | simpa using g5, by first | assumption | simpa using h, by first | assumption | simpa using q6, by omega, by omega, by omega, by omega, by omega, by omega, by omega, by omega, by omega, by omega⟩
      refine .c1 rfl rfl rfl rfl (.allocR rfl ze_27_Hj rfl) ?_
      rintro _ H3x12 ⟨y1, rfl, g9, ge3x12, p8⟩
      replace e := e.trans g9
      refine ⟨e, ?_⟩
      replace m := m.trans g9
      replace l := g9.2 _ _ l
      replace h := g9.2 _ _ h
      replace r := g9.2 _ _ r
      replace a1 := g9.2 _ _ a1
      have lt_at3x12 := GHeap.ltg p8
      replace j := j.trans g9
      replace hin := d.mono m
      have u : Cat.At _ g1 0 c p := ⟨Mem.of_get l, hin⟩
      obtain ⟨-, -, -, -, -, -, -, o8, -⟩ := u.get
      refine .call1 rfl rfl rfl rfl rfl @Try.call108 rfl (l01Own_c) ?_
      rintro _ H17x14 ⟨f5, v7, rfl, n7, ge17x14⟩
      replace e := e.trans f5
      refine ⟨e, ?_⟩
      replace h := f5.2 _ _ h
      replace r := f5.2 _ _ r
      replace a1 := f5.2 _ _ a1
      replace p8 := f5.2 _ _ p8
      replace j := j.trans f5
      refine .qB rfl e (.build bt_27_Hj rfl rfl rfl) ?_
      refine .r1 rfl rfl rfl (.fillA rfl sz_27_D rfl rfl rfl rfl) ?_
      rintro _ H1014x14 ⟨rfl, b0, q2⟩
      replace e := e.st b0 (fun k hk => ⟨by omega, trivial⟩)
      refine ⟨e, ?_⟩
      replace h := b0.s h
      replace r := b0.s r
      replace a1 := b0.s a1
      replace n7 := b0.s n7
      replace j := j.st b0 (fun k hk => ⟨by omega, trivial⟩)
      refine .done ?_
      exact ⟨s8, u7, v7, o6, y1, ⟨rfl, rfl, rfl, rfl, rfl, rfl, rfl, rfl, trivial⟩, j, by omega, by omega, by omega, by omega, by omega, by first | assumption | simpa using r, by first | assumption | simpa using a1, by first | assumption | simpa using n7, by first | assumption | simpa using h, by first | assumption | simpa using q2, by omega, by omega, by omega, by omega, by omega, by omega, by omega, by omega, by omega, by omega⟩
     refine .c1 rfl rfl rfl rfl (.allocR rfl ze_27_Hj rfl) ?_
     rintro _ H3x13 ⟨z1, rfl, i5, ge3x13, m0⟩
     replace e := e.trans i5
     refine ⟨e, ?_⟩
     replace m := m.trans i5
     replace l := i5.2 _ _ l
     replace h := i5.2 _ _ h
     replace r := i5.2 _ _ r
     have lt_at3x13 := GHeap.ltg m0
     replace j := j.trans i5
     replace hin := d.mono m
     have u : Cat.At _ g1 0 c p := ⟨Mem.of_get l, hin⟩
     obtain ⟨-, -, -, -, -, m7, -, -, -⟩ := u.get
     refine .call1 rfl rfl rfl rfl rfl @Try.call108 rfl (l01Own_c) ?_
     rintro _ H14x8 ⟨h2, z7, rfl, i9, ge14x8⟩
     replace e := e.trans h2
     refine ⟨e, ?_⟩
     replace m := m.trans h2
     replace l := h2.2 _ _ l
     replace h := h2.2 _ _ h
     replace r := h2.2 _ _ r
     replace m0 := h2.2 _ _ m0
     have lt_at14x8 := GHeap.ltg i9
     replace j := j.trans h2
     replace hin := d.mono m
     clear u m7
     have u : Cat.At _ g1 0 c p := ⟨Mem.of_get l, hin⟩
     obtain ⟨-, -, -, -, -, -, -, o8, -⟩ := u.get
     refine .call1 rfl rfl rfl rfl rfl @Try.call108 rfl (l01Own_c) ?_
     rintro _ H17x15 ⟨g7, w5, rfl, o5, ge17x15⟩
     replace e := e.trans g7
     refine ⟨e, ?_⟩
     replace h := g7.2 _ _ h
     replace r := g7.2 _ _ r
     replace m0 := g7.2 _ _ m0
     replace i9 := g7.2 _ _ i9
     replace j := j.trans g7
     refine .qB rfl e (.build bt_27_Hj rfl rfl rfl) ?_
     refine .r1 rfl rfl rfl (.fillA rfl sz_27_D rfl rfl rfl rfl) ?_
     rintro _ H1014x15 ⟨rfl, b5, r4⟩
     replace e := e.st b5 (fun k hk => ⟨by omega, trivial⟩)
     refine ⟨e, ?_⟩
     replace h := b5.s h
     replace r := b5.s r
     replace i9 := b5.s i9
     replace o5 := b5.s o5
     replace j := j.st b5 (fun k hk => ⟨by omega, trivial⟩)
     refine .done ?_
     exact ⟨s8, z7, w5, o6, z1, ⟨rfl, rfl, rfl, rfl, rfl, rfl, rfl, rfl, trivial⟩, j, by omega, by omega, by omega, by omega, by omega, by first | assumption | simpa using r, by first | assumption | simpa using i9, by first | assumption | simpa using o5, by first | assumption | simpa using h, by first | assumption | simpa using r4, by omega, by omega, by omega, by omega, by omega, by omega, by omega, by omega, by omega, by omega⟩
    refine .c1 rfl rfl rfl rfl (.allocR rfl ze_27_Hj rfl) ?_
    rintro _ H3x14 ⟨z4, rfl, m2, ge3x14, h4⟩
    replace e := e.trans m2
    refine ⟨e, ?_⟩
    replace m := m.trans m2
    replace l := m2.2 _ _ l
    replace h := m2.2 _ _ h
    have lt_at3x14 := GHeap.ltg h4
    replace j := j.trans m2
    replace hin := d.mono m
    have u : Cat.At _ g1 0 c p := ⟨Mem.of_get l, hin⟩
    obtain ⟨-, -, -, -, -, -, u0, -, -⟩ := u.get
    refine .call1 rfl rfl rfl rfl rfl @Try.call108 rfl (l01Own_c) ?_
    rintro _ H11x4 ⟨j5, z6, rfl, e5, ge11x4⟩
    replace e := e.trans j5
    refine ⟨e, ?_⟩
    replace m := m.trans j5
    replace l := j5.2 _ _ l
    replace h := j5.2 _ _ h
    replace h4 := j5.2 _ _ h4
    have lt_at11x4 := GHeap.ltg e5
    replace j := j.trans j5
    replace hin := d.mono m
    clear u u0
    have u : Cat.At _ g1 0 c p := ⟨Mem.of_get l, hin⟩
    obtain ⟨-, -, -, -, -, m7, -, -, -⟩ := u.get
    refine .call1 rfl rfl rfl rfl rfl @Try.call108 rfl (l01Own_c) ?_
    rintro _ H14x9 ⟨h6, x4, rfl, k4, ge14x9⟩
    replace e := e.trans h6
    refine ⟨e, ?_⟩
    replace m := m.trans h6
    replace l := h6.2 _ _ l
    replace h := h6.2 _ _ h
    replace h4 := h6.2 _ _ h4
    replace e5 := h6.2 _ _ e5
    have lt_at14x9 := GHeap.ltg k4
    replace j := j.trans h6
    replace hin := d.mono m
    clear u m7
    have u : Cat.At _ g1 0 c p := ⟨Mem.of_get l, hin⟩
    obtain ⟨-, -, -, -, -, -, -, o8, -⟩ := u.get
    refine .call1 rfl rfl rfl rfl rfl @Try.call108 rfl (l01Own_c) ?_
    rintro _ H17x16 ⟨e8, w6, rfl, n6, ge17x16⟩
    replace e := e.trans e8
    refine ⟨e, ?_⟩
    replace h := e8.2 _ _ h
    replace h4 := e8.2 _ _ h4
    replace e5 := e8.2 _ _ e5
    replace k4 := e8.2 _ _ k4
    replace j := j.trans e8
    refine .qB rfl e (.build bt_27_Hj rfl rfl rfl) ?_
    refine .r1 rfl rfl rfl (.fillA rfl sz_27_D rfl rfl rfl rfl) ?_
    rintro _ H1014x16 ⟨rfl, c5, r7⟩
    replace e := e.st c5 (fun k hk => ⟨by omega, trivial⟩)
    refine ⟨e, ?_⟩
    replace h := c5.s h
    replace e5 := c5.s e5
    replace k4 := c5.s k4
    replace n6 := c5.s n6
    replace j := j.st c5 (fun k hk => ⟨by omega, trivial⟩)
    refine .done ?_
    exact ⟨z6, x4, w6, o6, z4, ⟨rfl, rfl, rfl, rfl, rfl, rfl, rfl, rfl, trivial⟩, j, by omega, by omega, by omega, by omega, by omega, by first | assumption | simpa using e5, by first | assumption | simpa using k4, by first | assumption | simpa using n6, by first | assumption | simpa using h, by first | assumption | simpa using r7, by omega, by omega, by omega, by omega, by omega, by omega, by omega, by omega, by omega, by omega⟩
   refine .c1 rfl rfl rfl rfl (.allocR rfl ze_27_Hj rfl) ?_
   rintro _ H3x15 ⟨i1, rfl, n9, ge3x15, n⟩
   have e := n9
   refine ⟨e, ?_⟩
   replace m := m.trans n9
   replace l := n9.2 _ _ l
   have lt_at3x15 := GHeap.ltg n
   replace j := j.trans n9
   refine .orI ?_ ?_
   ·
    replace hin := d.mono m
    have u : Cat.At _ g1 0 c p := ⟨Mem.of_get l, hin⟩
    obtain ⟨-, -, -, -, -, -, u0, -, -⟩ := u.get
    refine .call1 rfl rfl rfl rfl rfl @Try.call108 rfl (l01Own_c) ?_
    rintro _ H11x5 ⟨m1, m8, rfl, o, ge11x5⟩
    replace e := e.trans m1
    refine ⟨e, ?_⟩
    replace m := m.trans m1
    replace l := m1.2 _ _ l
    replace n := m1.2 _ _ n
    have lt_at11x5 := GHeap.ltg o
    replace j := j.trans m1
    refine .orI ?_ ?_
    ·
     replace hin := d.mono m
     clear u u0
     have u : Cat.At _ g1 0 c p := ⟨Mem.of_get l, hin⟩
     obtain ⟨-, -, -, -, -, m7, -, -, -⟩ := u.get
     refine .call1 rfl rfl rfl rfl rfl @Try.call108 rfl (l01Own_c) ?_
     rintro _ H14x10 ⟨g8, o0, rfl, v, ge14x10⟩
     replace e := e.trans g8
     refine ⟨e, ?_⟩
     replace m := m.trans g8
     replace l := g8.2 _ _ l
     replace n := g8.2 _ _ n
     replace o := g8.2 _ _ o
     have lt_at14x10 := GHeap.ltg v
     replace j := j.trans g8
     refine .orI ?_ ?_
     ·
      replace hin := d.mono m
      clear u m7
      have u : Cat.At _ g1 0 c p := ⟨Mem.of_get l, hin⟩
      obtain ⟨-, -, -, -, -, -, -, o8, -⟩ := u.get
      refine .call1 rfl rfl rfl rfl rfl @Try.call108 rfl (l01Own_c) ?_
      rintro _ H17x17 ⟨h9, v4, rfl, g6, ge17x17⟩
      replace e := e.trans h9
      refine ⟨e, ?_⟩
      replace n := h9.2 _ _ n
      replace o := h9.2 _ _ o
      replace v := h9.2 _ _ v
      have lt_at17x17 := GHeap.ltg g6
      replace j := j.trans h9
      refine .c1 rfl rfl rfl rfl (.litA rfl sl_25_B ze_24_Hj rfl rfl rfl rfl) ?_
      rintro _ H18x12 ⟨v2, rfl, e7, ge18x12, o4⟩
      replace e := e.trans e7
      refine ⟨e, ?_⟩
      replace n := e7.2 _ _ n
      replace o := e7.2 _ _ o
      replace v := e7.2 _ _ v
      replace g6 := e7.2 _ _ g6
      replace j := j.trans e7
      refine .qB rfl e (.build bt_27_Hj rfl rfl rfl) ?_
      refine .r1 rfl rfl rfl (.fillA rfl sz_27_D rfl rfl rfl rfl) ?_
      rintro _ H1014x17 ⟨rfl, c2, r3⟩
      replace e := e.st c2 (fun k hk => ⟨by omega, trivial⟩)
      refine ⟨e, ?_⟩
      have x : NE m8 i1 := .a
      replace o := c2.s o x.ne
      have a6 : NE o0 i1 := .a
      replace v := c2.s v a6.ne
      replace g6 := c2.s g6
      replace o4 := c2.s o4
      replace j := j.st c2 (fun k hk => ⟨by omega, trivial⟩)
      refine .done ?_
      exact ⟨m8, o0, v4, v2, i1, ⟨rfl, rfl, rfl, rfl, rfl, rfl, rfl, rfl, trivial⟩, j, by omega, by omega, by omega, by omega, by omega, by first | assumption | simpa using o, by first | assumption | simpa using v, by first | assumption | simpa using g6, by first | assumption | simpa using o4, by first | assumption | simpa using r3, by omega, by omega, by omega, by omega, by omega, by omega, by omega, by omega, by omega, by omega⟩
     refine .c1 rfl rfl rfl rfl (.litA rfl sl_25_B ze_24_Hj rfl rfl rfl rfl) ?_
     rintro _ H18x13 ⟨v0, rfl, e2, ge18x13, f0⟩
     replace e := e.trans e2
     refine ⟨e, ?_⟩
     replace m := m.trans e2
     replace l := e2.2 _ _ l
     replace n := e2.2 _ _ n
     replace o := e2.2 _ _ o
     replace v := e2.2 _ _ v
     have lt_at18x13 := GHeap.ltg f0
     replace j := j.trans e2
     replace hin := d.mono m
     have u : Cat.At _ g1 0 c p := ⟨Mem.of_get l, hin⟩
     obtain ⟨-, -, -, -, -, -, -, o8, -⟩ := u.get
     refine .call1 rfl rfl rfl rfl rfl @Try.call108 rfl (l01Own_c) ?_
     rintro _ H17x18 ⟨f6, w1, rfl, o7, ge17x18⟩
     replace e := e.trans f6
     refine ⟨e, ?_⟩
     replace n := f6.2 _ _ n
     replace o := f6.2 _ _ o
     replace v := f6.2 _ _ v
     replace f0 := f6.2 _ _ f0
     replace j := j.trans f6
     refine .qB rfl e (.build bt_27_Hj rfl rfl rfl) ?_
     refine .r1 rfl rfl rfl (.fillA rfl sz_27_D rfl rfl rfl rfl) ?_
     rintro _ H1014x18 ⟨rfl, b4, r9⟩
     replace e := e.st b4 (fun k hk => ⟨by omega, trivial⟩)
     refine ⟨e, ?_⟩
     have x : NE m8 i1 := .a
     replace o := b4.s o x.ne
     have a6 : NE o0 i1 := .a
     replace v := b4.s v a6.ne
     replace f0 := b4.s f0
     replace o7 := b4.s o7
     replace j := j.st b4 (fun k hk => ⟨by omega, trivial⟩)
     refine .done ?_
     exact ⟨m8, o0, w1, v0, i1, ⟨rfl, rfl, rfl, rfl, rfl, rfl, rfl, rfl, trivial⟩, j, by omega, by omega, by omega, by omega, by omega, by first | assumption | simpa using o, by first | assumption | simpa using v, by first | assumption | simpa using o7, by first | assumption | simpa using f0, by first | assumption | simpa using r9, by omega, by omega, by omega, by omega, by omega, by omega, by omega, by omega, by omega, by omega⟩
    refine .c1 rfl rfl rfl rfl (.litA rfl sl_25_B ze_24_Hj rfl rfl rfl rfl) ?_
    rintro _ H18x14 ⟨w0, rfl, f1, ge18x14, c7⟩
    replace e := e.trans f1
    refine ⟨e, ?_⟩
    replace m := m.trans f1
    replace l := f1.2 _ _ l
    replace n := f1.2 _ _ n
    replace o := f1.2 _ _ o
    have lt_at18x14 := GHeap.ltg c7
    replace j := j.trans f1
    replace hin := d.mono m
    have u : Cat.At _ g1 0 c p := ⟨Mem.of_get l, hin⟩
    obtain ⟨-, -, -, -, -, m7, -, -, -⟩ := u.get
    refine .call1 rfl rfl rfl rfl rfl @Try.call108 rfl (l01Own_c) ?_
    rintro _ H14x11 ⟨e1, v8, rfl, f2, ge14x11⟩
    replace e := e.trans e1
    refine ⟨e, ?_⟩
    replace m := m.trans e1
    replace l := e1.2 _ _ l
    replace n := e1.2 _ _ n
    replace o := e1.2 _ _ o
    replace c7 := e1.2 _ _ c7
    have lt_at14x11 := GHeap.ltg f2
    replace j := j.trans e1
    replace hin := d.mono m
    clear u m7
    have u : Cat.At _ g1 0 c p := ⟨Mem.of_get l, hin⟩
    obtain ⟨-, -, -, -, -, -, -, o8, -⟩ := u.get
    refine .call1 rfl rfl rfl rfl rfl @Try.call108 rfl (l01Own_c) ?_
    rintro _ H17x19 ⟨g0, u9, rfl, o1, ge17x19⟩
    replace e := e.trans g0
    refine ⟨e, ?_⟩
    replace n := g0.2 _ _ n
    replace o := g0.2 _ _ o
    replace c7 := g0.2 _ _ c7
    replace f2 := g0.2 _ _ f2
    replace j := j.trans g0
    refine .qB rfl e (.build bt_27_Hj rfl rfl rfl) ?_
    refine .r1 rfl rfl rfl (.fillA rfl sz_27_D rfl rfl rfl rfl) ?_
    rintro _ H1014x19 ⟨rfl, a8, q5⟩
    replace e := e.st a8 (fun k hk => ⟨by omega, trivial⟩)
    refine ⟨e, ?_⟩
    have x : NE m8 i1 := .a
    replace o := a8.s o x.ne
    replace c7 := a8.s c7
    replace f2 := a8.s f2
    replace o1 := a8.s o1
    replace j := j.st a8 (fun k hk => ⟨by omega, trivial⟩)
    refine .done ?_
    exact ⟨m8, v8, u9, w0, i1, ⟨rfl, rfl, rfl, rfl, rfl, rfl, rfl, rfl, trivial⟩, j, by omega, by omega, by omega, by omega, by omega, by first | assumption | simpa using o, by first | assumption | simpa using f2, by first | assumption | simpa using o1, by first | assumption | simpa using c7, by first | assumption | simpa using q5, by omega, by omega, by omega, by omega, by omega, by omega, by omega, by omega, by omega, by omega⟩
   refine .c1 rfl rfl rfl rfl (.litA rfl sl_25_B ze_24_Hj rfl rfl rfl rfl) ?_
   rintro _ H18x15 ⟨w3, rfl, i0, ge18x15, a4⟩
   replace e := e.trans i0
   refine ⟨e, ?_⟩
   replace m := m.trans i0
   replace l := i0.2 _ _ l
   replace n := i0.2 _ _ n
   have lt_at18x15 := GHeap.ltg a4
   replace j := j.trans i0
   replace hin := d.mono m
   have u : Cat.At _ g1 0 c p := ⟨Mem.of_get l, hin⟩
   obtain ⟨-, -, -, -, -, -, u0, -, -⟩ := u.get
   refine .call1 rfl rfl rfl rfl rfl @Try.call108 rfl (l01Own_c) ?_
   rintro _ H11x6 ⟨j8, x3, rfl, e4, ge11x6⟩
   replace e := e.trans j8
   refine ⟨e, ?_⟩
   replace m := m.trans j8
   replace l := j8.2 _ _ l
   replace n := j8.2 _ _ n
   replace a4 := j8.2 _ _ a4
   have lt_at11x6 := GHeap.ltg e4
   replace j := j.trans j8
   replace hin := d.mono m
   clear u u0
   have u : Cat.At _ g1 0 c p := ⟨Mem.of_get l, hin⟩
   obtain ⟨-, -, -, -, -, m7, -, -, -⟩ := u.get
   refine .call1 rfl rfl rfl rfl rfl @Try.call108 rfl (l01Own_c) ?_
   rintro _ H14x12 ⟨d9, v6, rfl, g4, ge14x12⟩
   replace e := e.trans d9
   refine ⟨e, ?_⟩
   replace m := m.trans d9
   replace l := d9.2 _ _ l
   replace n := d9.2 _ _ n
   replace a4 := d9.2 _ _ a4
   replace e4 := d9.2 _ _ e4
   have lt_at14x12 := GHeap.ltg g4
   replace j := j.trans d9
   replace hin := d.mono m
   clear u m7
   have u : Cat.At _ g1 0 c p := ⟨Mem.of_get l, hin⟩
   obtain ⟨-, -, -, -, -, -, -, o8, -⟩ := u.get
   refine .call1 rfl rfl rfl rfl rfl @Try.call108 rfl (l01Own_c) ?_
   rintro _ H17x20 ⟨f4, v3, rfl, n5, ge17x20⟩
   replace e := e.trans f4
   refine ⟨e, ?_⟩
   replace n := f4.2 _ _ n
   replace a4 := f4.2 _ _ a4
   replace e4 := f4.2 _ _ e4
   replace g4 := f4.2 _ _ g4
   replace j := j.trans f4
   refine .qB rfl e (.build bt_27_Hj rfl rfl rfl) ?_
   refine .r1 rfl rfl rfl (.fillA rfl sz_27_D rfl rfl rfl rfl) ?_
   rintro _ H1014x20 ⟨rfl, c4, q4⟩
   replace e := e.st c4 (fun k hk => ⟨by omega, trivial⟩)
   refine ⟨e, ?_⟩
   replace a4 := c4.s a4
   replace e4 := c4.s e4
   replace g4 := c4.s g4
   replace n5 := c4.s n5
   replace j := j.st c4 (fun k hk => ⟨by omega, trivial⟩)
   refine .done ?_
   exact ⟨x3, v6, v3, w3, i1, ⟨rfl, rfl, rfl, rfl, rfl, rfl, rfl, rfl, trivial⟩, j, by omega, by omega, by omega, by omega, by omega, by first | assumption | simpa using e4, by first | assumption | simpa using g4, by first | assumption | simpa using n5, by first | assumption | simpa using a4, by first | assumption | simpa using q4, by omega, by omega, by omega, by omega, by omega, by omega, by omega, by omega, by omega, by omega⟩
  rintro fr3 H3 ⟨s9, t6, t1, s2, g3, x6, z9, ge11, ge14, ge17, ge18, ge3, r5, q8, q7, at18, bR, ne3_0, ne3_1, ne3_2, ne3_3, ne3_4, ne3_5, ne3_6, ne3_7, ne3_8, ne3_9⟩
  have nx_H3 := z9.1
  replace m := m.trans z9
  replace l := z9.2 _ _ l
  replace x0 := z9.2 _ _ x0
  have lt_at11 := GHeap.ltg r5
  have lt_at14 := GHeap.ltg q8
  have lt_at17 := GHeap.ltg q7
  have lt_at3 := GHeap.ltg bR
  replace hin := d.mono m
  have u : Cat.At _ g1 0 c p := ⟨Mem.of_get l, hin⟩
  refine bO _ _ ?_
  refine .forget x6 ?_
  refine .seq (fun K3 bQ => .seq (fun K4 bM => .region (.mv rfl (.nil (bM _ _ ?_)))))
  refine .block ?_
  refine .loopR (σ := Nat × (Nat → Option Addr) × Nat) [(1, some _), (2, some _), (3, some _)] (fun (f, rc, gLC) => [(4, some (.int .i64 (f : Int)))]) (fun (f, rc, gLC) H' => St [s2, g3] H3 H' ∧ H'.get gLC = some (.row ((slsL rc (c.opTab f))) 24 true) ∧ (gLC = s2 ∨ H3.next ≤ gLC) ∧ H'.get g3 = some (.row ([.int .i64 c.obj, .slice (some ⟨s9, 0, none⟩) c.tgt.length c.tgt.length, .slice (some ⟨t6, 0, none⟩) c.src.length c.src.length, .slice (some ⟨t1, 0, none⟩) c.idn.length c.idn.length, .slice (some ⟨gLC, 0, none⟩) f f]) 27 true) ∧ gLC ≠ g3 ∧ f ≤ c.src.length ∧ OwnL H3.next H' 2 rc (c.opTab f)) (fun (f, rc, gLC) => c.src.length - f) ((0, fun _ => none, s2)) ⟨rfl, rfl, rfl, trivial⟩ ⟨rfl, trivial⟩ ?_ ?_
  ·
   refine ⟨.refl _ _, by assumption, .inl rfl, by assumption, by omega, ?_⟩
   exact ⟨by omega, .nil _ _ _ _⟩
  rintro ⟨f, rc, gLC⟩ HL1 ⟨e3, e6, pl_LC, a7, z3, hI⟩ KL1 aO
  refine .forget (fr' := [(4, some (.int .i64 (f : Int))), (1, some _), (2, some _), (3, some _)]) ⟨rfl, rfl, rfl, rfl, trivial⟩ ?_
  have ge_LC : H.next ≤ gLC := by omega
  have nx_HL1 := e3.nx
  replace m := m.st e3 (fun k hk => ⟨by omega, by omega, trivial⟩)
  have p1 : NE g1 g3 := .a
  replace l := e3.same _ _ ⟨(by first | assumption | omega), p1.ne, trivial⟩ l
  replace x0 := e3.same _ _ ⟨(by first | assumption | omega), (by first | assumption | omega), trivial⟩ x0
  replace r5 := e3.same _ _ ⟨(by first | assumption | omega), (by first | assumption | omega), trivial⟩ r5
  replace q8 := e3.same _ _ ⟨(by first | assumption | omega), (by first | assumption | omega), trivial⟩ q8
  replace q7 := e3.same _ _ ⟨(by first | assumption | omega), (by first | assumption | omega), trivial⟩ q7
  have lt_at_LC := GHeap.ltg e6
  have lt_at_Lg3 := GHeap.ltg a7
  replace hin := d.mono m
  clear u
  have u : Cat.At _ g1 0 c p := ⟨Mem.of_get l, hin⟩
  obtain ⟨-, x7, -, -, -, -, -, -, -⟩ := u.get
  have rk := St.refl [gLC, g3] HL1
  obtain ⟨hf, hR⟩ := hI
  have hatC := e6
  have aH := a7
  have hql := c.length_opTab f
  have hfl : (slsL rc (c.opTab f)).length = (c.opTab f).length := length_slsL _ _
  refine .seq (fun K5 bN => .seq (fun K6 bJ => .region (.mv rfl (.q rfl (.fieldAddr fo_27_1_B rfl) ?_))))
  refine .q rfl (.load on_24_B rfl (by first | assumption | exact Mem.of_get l 1 _ rfl)) ?_
  refine .q rfl (.len sl_24_A rfl) (.q rfl (.cmp rfl rfl rfl) (.nil (bJ _ _ ?_)))
  refine .cond rfl (fun aQ => ?_) (fun aQ => ?_)
  ·
   simp only [sps] at aQ
   refine .skip ?_
   refine bN _ _ (.seq (fun K7 bP => ?_))
   refine .block ?_
   refine .seq (fun K8 bG => .region ?_)
   refine .R rfl (.litA rfl sl_24_A ze_2_N rfl rfl rfl rfl) ?_
   rintro _ aG ⟨aV, rfl, q9, ge27, w4⟩
   replace m := m.trans q9
   replace e3 := e3.le q9
   replace rk := rk.le q9
   replace l := q9.2 _ _ l
   replace e6 := q9.2 _ _ e6
   replace a7 := q9.2 _ _ a7
   have lt_at27 := GHeap.ltg w4
   replace hin := d.mono m
   clear u x7
   have u : Cat.At _ g1 0 c p := ⟨Mem.of_get l, hin⟩
   replace w4 : GHeap.get aG aV = some (.row (ints []) 2 true) := w4
   refine .mv rfl (.nil (bG _ _ (.seq (fun K9 bH => .seq (fun K10 aT => .region (.mv rfl (.nil (aT _ _ ?_))))))))
   refine .block ?_
   refine .loopR (σ := Nat × Nat × Nat) [(1, some _), (2, some _), (3, some _), (4, some _)] (fun (g, s1, u6) => [(6, some (.int .i64 (g : Int))), (5, some (.slice (some ⟨s1, 0, none⟩) u6 u6))]) (fun (g, s1, u6) H' => St [aV] aG H' ∧ H'.get s1 = some (.row (ints (c.opRow f g)) 2 true) ∧ (s1 = aV ∨ aG.next ≤ s1) ∧ u6 = (c.opRow f g).length ∧ g ≤ c.src.length) (fun (g, s1, u6) => c.src.length - g) ((0, _, _)) ⟨rfl, rfl, rfl, rfl, trivial⟩ ⟨rfl, rfl, trivial⟩ ?_ ?_
   ·
    refine ⟨.refl _ _, by assumption, .inl rfl, by rfl, ?_⟩
    omega
   rintro ⟨g, s1, u6⟩ HL2 ⟨l2, h7, pl_L5, y3, hI⟩ KL2 aP
   refine .forget (fr' := [(6, some (.int .i64 (g : Int))), (5, some (.slice (some ⟨s1, 0, none⟩) u6 u6)), (1, some _), (2, some _), (3, some _), (4, some _)]) ⟨rfl, rfl, rfl, rfl, rfl, rfl, trivial⟩ ?_
   have ge_L5 : H.next ≤ s1 := by omega
   have nx_HL2 := l2.nx
   replace m := m.st l2 (fun k hk => ⟨by omega, trivial⟩)
   replace e3 := e3.sA l2
   replace rk := rk.sA l2
   replace l := l2.s l
   replace e6 := l2.s e6
   replace a7 := l2.s a7
   replace hin := d.mono m
   clear u
   have u : Cat.At _ g1 0 c p := ⟨Mem.of_get l, hin⟩
   obtain ⟨-, x7, -, -, bB, -, -, -, aZ⟩ := u.get
   have hrl := c.length_opRow f g
   refine .seq (fun K11 aJ => .seq (fun K12 aA => .region (.mv rfl (.q rfl (.fieldAddr fo_27_1_B rfl) ?_))))
   refine .q rfl (.load on_24_B rfl (by first | assumption | exact Mem.of_get l 1 _ rfl)) ?_
   refine .q rfl (.len sl_24_A rfl) (.q rfl (.cmp rfl rfl rfl) (.nil (aA _ _ ?_)))
   refine .cond rfl (fun aK => ?_) (fun aK => ?_)
   ·
    simp only [sps] at aK
    have b9g := b9 g (by omega)
    have u1 := aZ.2 g (by omega)
    refine .skip ?_
    refine aJ _ _ (.seq (fun K13 aC => ?_))
    refine .block ?_
    refine .region (.mv rfl (.q rfl (.fieldAddr fo_27_4_B rfl) ?_))
    refine .q rfl (.load on_25_B rfl (by first | assumption | exact Mem.of_get l 4 _ rfl)) ?_
    refine .mv rfl ?_
    refine .q rfl (.idxN sl_25_B (Intss.sl (by assumption)) rfl rfl (by omega)) ?_
    refine .q rfl (.loadR on_24_B (by assumption) rfl (by omega)) ?_
    refine .mv rfl ?_
    refine .q rfl (.idxN sl_24_A (by assumption) rfl rfl (by omega)) ?_
    refine .q rfl (.loadI on_2_A (by assumption) rfl (by omega)) ?_
    refine .R rfl (.litA rfl sl_24_A ze_2_N rfl rfl rfl rfl) ?_
    rintro _ H44 ⟨g44, rfl, u2, ge44, aM⟩
    replace m := m.trans u2
    replace l2 := l2.le u2
    replace l := u2.2 _ _ l
    replace h7 := u2.2 _ _ h7
    have lt_at44 := GHeap.ltg aM
    replace hin := d.mono m
    clear u x7 bB aZ
    have u : Cat.At _ g1 0 c p := ⟨Mem.of_get l, hin⟩
    clear u1
    refine .R rfl (.appendI rfl sl_24_A ze_2_N rfl by_2_N sl_24_A rfl rfl (by assumption) (by assumption) (by first | omega | (simp <;> omega)) (by omega) (by omega)) ?_
    rintro _ H45 ⟨g45, rfl, w2, ge45, at45⟩
    replace m := m.st w2 (fun k hk => ⟨by omega, trivial⟩)
    replace l2 := l2.sA w2
    replace l := w2.s l
    replace hin := d.mono m
    clear u
    have u : Cat.At _ g1 0 c p := ⟨Mem.of_get l, hin⟩
    refine .mv rfl (.nil (aC _ _ (.region (.mv rfl ?_))))
    refine .q rfl (.add rfl rfl rfl (by omega) (by omega)) ?_
    refine .mv rfl (.nil ?_)
    refine aP ((g + 1, _, _)) _ _ ?_ ?_ ⟨rfl, rfl, rfl, rfl, rfl, rfl, trivial⟩
    ·
     refine ⟨l2, by (rw [Cat.opRow_snoc]; assumption), by omega, by (rw [Cat.opRow_snoc] <;> (first | omega | (simp only [List.length_append, List.length_cons, List.length_nil] <;> omega))), ?_⟩
     omega
    (dsimp only; omega)
   try simp only [sps] at aK
   refine .exit ?_
   refine bH _ _ (.region ?_)
   obtain rfl : g = c.src.length := by omega
   have aR := y3.symm
   refine .q rfl (.fieldAddr fo_27_4_B rfl) ?_
   refine .q rfl (.load on_25_B rfl (by first | assumption | exact Mem.of_get a7 4 _ rfl)) ?_
   refine .mv rfl ?_
   refine .R rfl (.litA rfl sl_25_B ze_24_Hj rfl rfl rfl rfl) ?_
   rintro _ H49 ⟨g49, rfl, p5, ge49, aS⟩
   replace m := m.trans p5
   replace e3 := e3.le p5
   replace rk := rk.le p5
   replace l := p5.2 _ _ l
   replace e6 := p5.2 _ _ e6
   replace a7 := p5.2 _ _ a7
   replace h7 := p5.2 _ _ h7
   have lt_at49 := GHeap.ltg aS
   replace hin := d.mono m
   have u : Cat.At _ g1 0 c p := ⟨Mem.of_get l, hin⟩
   refine .R rfl (.appendV rfl sl_25_B ze_24_Hj rfl by_24_Hj sl_25_B rfl rfl (by assumption) (by assumption) (by first | omega | (simp <;> omega)) rfl rfl (by omega) (by omega)) ?_
   rintro _ H50 ⟨bL, rfl, r6, ge50, z2⟩
   replace m := m.st r6 (fun k hk => ⟨by omega, trivial⟩)
   replace e3 := e3.sA r6
   replace rk := rk.sA r6
   replace l := r6.s l
   replace a7 := r6.same _ _ ⟨(Ne.symm z3), trivial⟩ a7
   replace h7 := r6.s h7
   replace hin := d.mono m
   clear u
   have u : Cat.At _ g1 0 c p := ⟨Mem.of_get l, hin⟩
   refine .q rfl (.fieldAddr fo_27_4_B rfl) ?_
   refine .r0 rfl rfl (.storeR rfl sz_25_Ch rfl rfl rfl (by assumption) (by first | exact Nat.le_of_ble_eq_true rfl | (simp; done) | (simp <;> omega))) ?_
   rintro _ H10006 ⟨rfl, f3, u3⟩
   replace m := m.st f3 (fun k hk => ⟨by omega, trivial⟩)
   replace e3 := e3.sA f3
   replace rk := rk.sA f3
   replace l := f3.s l p1.ne
   replace h7 := f3.s h7
   replace z2 := f3.s z2
   replace hin := d.mono m
   clear u
   have u : Cat.At _ g1 0 c p := ⟨Mem.of_get l, hin⟩
   try simp only [Nat.zero_add, List.set_cons_succ, List.set_cons_zero] at u3
   refine .nil (bP _ _ (.region (.mv rfl ?_)))
   refine .q rfl (.add rfl rfl rfl (by omega) (by omega)) ?_
   refine .mv rfl (.nil ?_)
   refine aO ((f + 1, upd rc (c.opTab f).length (some ⟨s1, 0, none⟩), bL)) _ _ ?_ ?_ ⟨rfl, rfl, rfl, rfl, trivial⟩
   ·
    refine ⟨e3, by (rw [Cat.opTab_snoc, slsL_snoc, aR]; assumption), by omega, by assumption, by omega, ?_⟩
    have hR' := hR.st rk (.cons (hR.neT hatC rfl) (.cons (hR.neT aH rfl) (.nil _ _)))
    have bE : HL1.next ≤ s1 := by omega
    have bD := hR.ne (g := s1) bE
    have hrow := h7
    rw [Cat.opTab_snoc]
    exact ⟨by omega, hR'.snoc2 hrow bD (by omega)⟩
   (dsimp only; omega)
  try simp only [sps] at aQ
  refine .exit ?_
  refine bQ _ _ (.seq (fun K14 aX => .region ?_))
  refine .q rfl (.loadM ag_27_Hj rfl ⟨rfl, Mem.of_get a7⟩) ?_
  obtain rfl : f = c.src.length := by omega
  have aL := x0
  refine .r0 rfl rfl (.fillA rfl sz_27_D rfl rfl rfl rfl) ?_
  rintro _ H11001 ⟨rfl, e0, t9⟩
  replace m := m.st e0 (fun k hk => ⟨by omega, trivial⟩)
  replace l := e0.s l
  replace r5 := e0.s r5
  replace q8 := e0.s q8
  replace q7 := e0.s q7
  replace e6 := e0.s e6
  replace hin := d.mono m
  have u : Cat.At _ g1 0 c p := ⟨Mem.of_get l, hin⟩
  refine .nil (aX _ _ ?_)
  refine .ret ?_
  refine aN _ _ ?_
  refine ⟨_, _, _, _, rfl, ag_27_Hj, (by rfl), (Mem.of_get t9), ?_⟩
  have hrc := (hR.st e0 (.cons (hR.neT aL rfl) (.nil _ _)))
  exact ⟨m, s9, t6, t1, gLC, rc, by simp [Cat.cells, Cat.op, ownP, b3], ⟨r5, q8, q7, e6, by omega, by omega, by omega, by omega, by omega, by omega, by omega, hrc.low (by omega), hR.lowNe (by omega), hR.lowNe (by omega), hR.lowNe (by omega)⟩⟩
end Go.Proofs.Ytfanjkbaemhbmaa
namespace Go.Proofs.Ytfanjkbaemhbmaa
open Go Go.GL Go.RowKit Go.Proofs
set_option maxHeartbeats 8000000 in
theorem l03PosetG_c {a : Option Addr} {r : Nat → Option Addr} {rel : List (List Int)} {H : GHeap} (hin : Intss H a rel r := by assumption) (hn : rel.length ≤ 8) (hr : ∀ i, i < rel.length → (rel.getD i []).length = rel.length) (hRT : RelT rel.length rel) :
    GCalls Try.prog 31 [.slice a rel.length rel.length] H (NewGd 2 24 (8 * rel.length) rel.length H) := by
  refine GCalls.body (N := 133) (rs := [.cell 2 27]) Try.func31 rfl rfl rfl rfl (fun Qx t5 hend => ?_)
  refine .fg [0] rfl ?_
  have p := GHeap.Le.refl H
  have e := hin
  refine .seq (fun K1 x8 => .region ?_)
  refine .R rfl (.allocR rfl ze_27_Hj rfl) ?_
  rintro _ H2 ⟨g2, rfl, x5, ge2, a2⟩
  have nx_H2 := x5.1
  replace p := p.trans x5
  have lt_at2 := GHeap.ltg a2
  replace hin := e.mono p
  refine .nil (x8 _ _ (.seq (fun K2 z7 => .region (.mv rfl (.q rfl (.len sl_25_B rfl) (.mv rfl (.nil (z7 _ _ (.seq (fun K3 y4 => .region ?_))))))))))
  refine .R rfl (.litA rfl sl_25_B ze_24_Hj rfl rfl rfl rfl) ?_
  rintro _ H16 ⟨q7, rfl, p9, ge16, f6⟩
  have nx_H16 := p9.1
  replace p := p.trans p9
  replace a2 := p9.2 _ _ a2
  have lt_at16 := GHeap.ltg f6
  replace hin := e.mono p
  refine .mv rfl (.nil (y4 _ _ (.seq (fun K4 y8 => .region (.mv rfl ?_)))))
  refine .R rfl (.litA rfl sl_24_A ze_2_N rfl rfl rfl rfl) ?_
  rintro _ y0 ⟨p8, rfl, o7, ge18, f8⟩
  have nx_H18 := o7.1
  replace p := p.trans o7
  replace a2 := o7.2 _ _ a2
  replace f6 := o7.2 _ _ f6
  have lt_at18 := GHeap.ltg f8
  replace hin := e.mono p
  replace f8 : GHeap.get y0 p8 = some (.row (ints []) 2 true) := f8
  refine .R rfl (.litA rfl sl_24_A ze_2_N rfl rfl rfl rfl) ?_
  rintro _ z3 ⟨q0, rfl, n5, ge19, i5⟩
  have nx_H19 := n5.1
  replace p := p.trans n5
  replace a2 := n5.2 _ _ a2
  replace f6 := n5.2 _ _ f6
  replace f8 := n5.2 _ _ f8
  have lt_at19 := GHeap.ltg i5
  replace hin := e.mono p
  replace i5 : GHeap.get z3 q0 = some (.row (ints []) 2 true) := i5
  refine .R rfl (.litA rfl sl_24_A ze_2_N rfl rfl rfl rfl) ?_
  rintro _ z6 ⟨l4, rfl, m9, ge20, y⟩
  have nx_H20 := m9.1
  replace p := p.trans m9
  replace a2 := m9.2 _ _ a2
  replace f6 := m9.2 _ _ f6
  replace f8 := m9.2 _ _ f8
  replace i5 := m9.2 _ _ i5
  have lt_at20 := GHeap.ltg y
  replace hin := e.mono p
  replace y : GHeap.get z6 l4 = some (.row (ints []) 2 true) := y
  refine .R rfl (.litA rfl sl_25_B ze_24_Hj rfl rfl rfl rfl) ?_
  rintro _ H21 ⟨k8, rfl, m1, ge21, u⟩
  have nx_H21 := m1.1
  replace p := p.trans m1
  replace a2 := m1.2 _ _ a2
  replace f6 := m1.2 _ _ f6
  replace f8 := m1.2 _ _ f8
  replace i5 := m1.2 _ _ i5
  replace y := m1.2 _ _ y
  have lt_at21 := GHeap.ltg u
  replace hin := e.mono p
  refine .q rfl (.build bt_27_Hj rfl rfl rfl) ?_
  refine .R rfl (.allocR rfl ze_27_Hj rfl) ?_
  rintro _ H5 ⟨g5, rfl, o8, ge5, y5⟩
  have nx_H5 := o8.1
  replace p := p.trans o8
  replace a2 := o8.2 _ _ a2
  replace f6 := o8.2 _ _ f6
  replace f8 := o8.2 _ _ f8
  replace i5 := o8.2 _ _ i5
  replace y := o8.2 _ _ y
  replace u := o8.2 _ _ u
  have lt_at5 := GHeap.ltg y5
  replace hin := e.mono p
  refine .r0 rfl rfl (.fillA rfl sz_27_D rfl rfl rfl rfl) ?_
  rintro _ e7 ⟨rfl, d7, m⟩
  have nx_H3007 := d7.nx
  replace p := p.st d7 (fun k hk => ⟨by omega, trivial⟩)
  have a4 : NE g2 g5 := .a
  replace a2 := d7.s a2 a4.ne
  replace f6 := d7.s f6
  replace f8 := d7.s f8
  replace i5 := d7.s i5
  have c6 : NE l4 g5 := .a
  replace y := d7.s y c6.ne
  have b0 : NE k8 g5 := .a
  replace u := d7.s u b0.ne
  have lt_at3007 := GHeap.ltg m
  replace hin := e.mono p
  have d : MemN _ _ _ _ _ := ⟨rfl, Mem.of_get m⟩
  refine .nil (y8 _ _ (.seq (fun K5 z5 => .seq (fun K6 x9 => .region (.mv rfl (.nil (x9 _ _ ?_)))))))
  refine .block ?_
  refine .loopR (σ := Nat × List Int × List Int × List (List Int) × (Nat → Option Addr) × Nat × Nat × Nat × Nat) [(0, some _), (2, some _), (3, some _), (5, some _)] (fun (i, ss, ts, num, rn, i0, p1, gLF, gLT) => [(6, some (.int .i64 (i : Int))), (4, some (.slice (some ⟨i0, 0, none⟩) p1 p1))]) (fun (i, ss, ts, num, rn, i0, p1, gLF, gLT) H' => St [q7, p8, q0, g5] e7 H' ∧ H'.get i0 = some (.row ((slsL rn num)) 24 true) ∧ PL i0 q7 e7.next ∧ p1 = (slsL rn num).length ∧ H'.get gLF = some (.row (ints ss) 2 true) ∧ PL gLF p8 e7.next ∧ H'.get gLT = some (.row (ints ts) 2 true) ∧ PL gLT q0 e7.next ∧ H'.get g5 = some (.row ([.int .i64 (rel.length : Int), .slice (some ⟨gLF, 0, none⟩) ss.length ss.length, .slice (some ⟨gLT, 0, none⟩) ss.length ss.length, .slice (some ⟨l4, 0, none⟩) 0 0, .slice (some ⟨k8, 0, none⟩) 0 0]) 27 true) ∧ i0 ≠ gLF ∧ i0 ≠ gLT ∧ i0 ≠ g5 ∧ gLF ≠ gLT ∧ gLF ≠ g5 ∧ gLT ≠ g5 ∧ (i ≤ rel.length ∧ ss.length ≤ 8 * i ∧ ts.length = ss.length ∧ num.length = i) ∧ Bd 0 (rel.length - 1) ss ∧ Bd 0 (rel.length - 1) ts ∧ Tb 0 (8 * rel.length) rel.length num ∧ (PoM rel ss ts num ∧ PoS rel ss ts) ∧ OwnL e7.next H' 2 rn num ∧ (∀ j, j < num.length → rn j ≠ some ⟨gLF, 0, none⟩) ∧ ∀ j, j < num.length → rn j ≠ some ⟨gLT, 0, none⟩) (fun (i, ss, ts, num, rn, i0, p1, gLF, gLT) => rel.length - i) ((0, [], [], [], fun _ => none, _, _, p8, q0)) ⟨rfl, rfl, rfl, rfl, trivial⟩ ⟨rfl, rfl, trivial⟩ ?_ ?_
  ·
   refine ⟨.refl _ _, by first | assumption | exact f6 | simpa using f6, ⟨.inl rfl⟩, by first | rfl | assumption | simp | omega, by first | assumption | exact f8 | simpa using f8, ⟨.inl rfl⟩, by first | assumption | exact i5 | simpa using i5, ⟨.inl rfl⟩, by first | assumption | exact m | simpa using m, by omega, by omega, by omega, by omega, by omega, by omega, ?_⟩
   exact ⟨⟨by omega, by simp, rfl, rfl⟩, .nil _ _, .nil _ _, .nil _ _ _, ⟨.nil _ _ _, .nil _⟩, .nil _ _ _ _, fun _ h => by simp at h, fun _ h => by simp at h⟩
  rintro ⟨i, ss, ts, num, rn, i0, p1, gLF, gLT⟩ HL1 ⟨a6, l, j8, ln_L4, o, e8, n, f0, b, o0, n8, j4, ap1_3, m3, m2, hI⟩ KL1 u2
  refine .forget (fr' := [(6, some (.int .i64 (i : Int))), (4, some (.slice (some ⟨i0, 0, none⟩) p1 p1)), (0, some _), (2, some _), (3, some _), (5, some _)]) ⟨rfl, rfl, rfl, rfl, rfl, rfl, trivial⟩ ?_
  have ge_L4 : H.next ≤ i0 := j8.ge (by omega) (by omega)
  have ge_LF : H.next ≤ gLF := e8.ge (by omega) (by omega)
  have ge_LT : H.next ≤ gLT := f0.ge (by omega) (by omega)
  have nx_HL1 := a6.nx
  replace p := p.st a6 (fun k hk => ⟨by omega, by omega, by omega, by omega, trivial⟩)
  have i7 : NE g2 q7 := .a
  have i1 : NE g2 p8 := .a
  have j1 : NE g2 q0 := .a
  replace a2 := a6.same _ _ ⟨i7.ne, i1.ne, j1.ne, a4.ne, trivial⟩ a2
  have f3 : NE l4 q7 := .a
  have h0 : NE l4 p8 := .a
  have f9 : NE l4 q0 := .a
  replace y := a6.same _ _ ⟨f3.ne, h0.ne, f9.ne, c6.ne, trivial⟩ y
  have g1 : NE k8 q7 := .a
  have f2 : NE k8 p8 := .a
  have g0 : NE k8 q0 := .a
  replace u := a6.same _ _ ⟨g1.ne, f2.ne, g0.ne, b0.ne, trivial⟩ u
  have lt_at_L4 := GHeap.ltg l
  have lt_at_LF := GHeap.ltg o
  have lt_at_LT := GHeap.ltg n
  have i2 := GHeap.ltg b
  replace hin := e.mono p
  clear d
  have d : MemN _ _ _ _ _ := ⟨rfl, Mem.of_get m⟩
  obtain ⟨⟨hi, hs8, hts, hnl⟩, hS, hT, hN, ⟨hPM, hPS⟩, hR, q6, q5⟩ := hI
  have hfl : (slsL rn num).length = num.length := length_slsL _ _
  refine .seq (fun K7 y2 => .seq (fun K8 z2 => .region (.mv rfl (.mv rfl (.q rfl (.cmp rfl rfl rfl) (.nil (z2 _ _ ?_)))))))
  refine .cond rfl (fun x1 => ?_) (fun x1 => ?_)
  ·
   simp only [sps] at x1
   have hr1 := hr i (by omega)
   refine .skip ?_
   refine y2 _ _ (.seq (fun K9 z8 => ?_))
   refine .block ?_
   refine .seq (fun K10 u3 => .region ?_)
   refine .R rfl (.litA rfl sl_24_A ze_2_N rfl rfl rfl rfl) ?_
   rintro _ r1 ⟨p7, rfl, k7, ge28, n7⟩
   have nx_H28 := k7.1
   replace p := p.trans k7
   replace a6 := a6.le k7
   replace a2 := k7.2 _ _ a2
   replace y := k7.2 _ _ y
   replace u := k7.2 _ _ u
   replace l := k7.2 _ _ l
   replace o := k7.2 _ _ o
   replace n := k7.2 _ _ n
   replace b := k7.2 _ _ b
   have lt_at28 := GHeap.ltg n7
   replace hin := e.mono p
   clear d
   have d : MemN _ _ _ _ _ := ⟨rfl, Mem.of_get m⟩
   replace n7 : GHeap.get r1 p7 = some (.row (ints []) 2 true) := n7
   refine .mv rfl (.nil (u3 _ _ (.seq (fun K11 w4 => .seq (fun K12 t7 => .region (.mv rfl (.nil (t7 _ _ ?_))))))))
   refine .block ?_
   refine .loopR (σ := Nat × List Int × List Int × List Int × Nat × Nat × Nat × Nat) [(0, some _), (2, some _), (3, some _), (4, some _), (5, some _), (6, some _)] (fun (j, s2, t2, row, m0, p0, e6, e5) => [(8, some (.int .i64 (j : Int))), (7, some (.slice (some ⟨m0, 0, none⟩) p0 p0))]) (fun (j, s2, t2, row, m0, p0, e6, e5) H' => St [p7, gLF, gLT, g5] r1 H' ∧ H'.get m0 = some (.row (ints row) 2 true) ∧ PL m0 p7 r1.next ∧ p0 = row.length ∧ H'.get e6 = some (.row (ints s2) 2 true) ∧ PL e6 gLF r1.next ∧ H'.get e5 = some (.row (ints t2) 2 true) ∧ PL e5 gLT r1.next ∧ H'.get g5 = some (.row ([.int .i64 (rel.length : Int), .slice (some ⟨e6, 0, none⟩) s2.length s2.length, .slice (some ⟨e5, 0, none⟩) s2.length s2.length, .slice (some ⟨l4, 0, none⟩) 0 0, .slice (some ⟨k8, 0, none⟩) 0 0]) 27 true) ∧ m0 ≠ e6 ∧ m0 ≠ e5 ∧ m0 ≠ g5 ∧ e6 ≠ e5 ∧ e6 ≠ g5 ∧ e5 ≠ g5 ∧ (j ≤ rel.length ∧ s2.length ≤ 8 * i + j ∧ t2.length = s2.length ∧ row.length = j) ∧ Bd 0 (rel.length - 1) s2 ∧ Bd 0 (rel.length - 1) t2 ∧ Bd 0 (8 * rel.length) row ∧ (PoM rel s2 t2 num ∧ PoS rel s2 t2 ∧ PoR rel s2 t2 i row) ∧ OwnL e7.next H' 2 rn num ∧ (∀ j, j < num.length → rn j ≠ some ⟨m0, 0, none⟩) ∧ (∀ j, j < num.length → rn j ≠ some ⟨e6, 0, none⟩) ∧ ∀ j, j < num.length → rn j ≠ some ⟨e5, 0, none⟩) (fun (j, s2, t2, row, m0, p0, e6, e5) => rel.length - j) ((0, ss, ts, [], _, _, gLF, gLT)) ⟨rfl, rfl, rfl, rfl, rfl, rfl, trivial⟩ ⟨rfl, rfl, trivial⟩ ?_ ?_
   ·
    refine ⟨.refl _ _, by first | assumption | exact n7 | simpa using n7, ⟨.inl rfl⟩, by first | rfl | assumption | simp | omega, by first | assumption | exact o | simpa using o, ⟨.inl rfl⟩, by first | assumption | exact n | simpa using n, ⟨.inl rfl⟩, by first | assumption | exact b | simpa using b, by omega, by omega, by omega, by omega, by omega, by omega, ?_⟩
    exact ⟨⟨by omega, by omega, by omega, rfl⟩, hS, hT, .nil _ _, ⟨hPM, hPS, .nil _ _ _ _⟩, hR.keep (.of_le (by assumption)), hR.ne (by omega), q6, q5⟩
   rintro ⟨j, s2, t2, row, m0, p0, e6, e5⟩ HL2 ⟨b3, k6, k0, s5, b7, h1, a0, f5, b, r3, r5, r8, s1, s0, o9, hI⟩ KL2 r9
   refine .forget (fr' := [(8, some (.int .i64 (j : Int))), (7, some (.slice (some ⟨m0, 0, none⟩) p0 p0)), (0, some _), (2, some _), (3, some _), (4, some _), (5, some _), (6, some _)]) ⟨rfl, rfl, rfl, rfl, rfl, rfl, rfl, rfl, trivial⟩ ?_
   have ge_L7 : H.next ≤ m0 := k0.ge (by omega) (by omega)
   have ge_LF2 : H.next ≤ e6 := h1.ge (by omega) (by omega)
   have ge_LT2 : H.next ≤ e5 := f5.ge (by omega) (by omega)
   have nx_HL2 := b3.nx
   replace p := p.st b3 (fun k hk => ⟨by omega, by omega, by omega, by omega, trivial⟩)
   replace a6 := a6.st b3 (fun k hk ho => by simp only [out, and_true] at ho ⊢ <;> exact ⟨by first | exact ho | exact ho.1 | exact ho.2 | exact ho.2.1 | exact ho.2.2 | exact ho.2.2.1 | exact ho.2.2.2 | omega, by first | exact ho | exact ho.1 | exact ho.2 | exact ho.2.1 | exact ho.2.2 | exact ho.2.2.1 | exact ho.2.2.2 | exact e8.ne (by first | exact ho | exact ho.1 | exact ho.2 | exact ho.2.1 | exact ho.2.2 | exact ho.2.2.1 | exact ho.2.2.2 | omega) (by omega) | omega, by first | exact ho | exact ho.1 | exact ho.2 | exact ho.2.1 | exact ho.2.2 | exact ho.2.2.1 | exact ho.2.2.2 | exact f0.ne (by first | exact ho | exact ho.1 | exact ho.2 | exact ho.2.1 | exact ho.2.2 | exact ho.2.2.1 | exact ho.2.2.2 | omega) (by omega) | omega, by first | exact ho | exact ho.1 | exact ho.2 | exact ho.2.1 | exact ho.2.2 | exact ho.2.2.1 | exact ho.2.2.2 | omega⟩)
   have l2 : NE g2 p7 := .a
   have e4 : NE g2 gLF := ⟨e8.ne i1.ne (by omega)⟩
   have e2 : NE g2 gLT := ⟨f0.ne j1.ne (by omega)⟩
   replace a2 := b3.same _ _ ⟨l2.ne, e4.ne, e2.ne, a4.ne, trivial⟩ a2
   have k1 : NE l4 p7 := .a
   have b8 : NE l4 gLF := ⟨e8.ne h0.ne (by omega)⟩
   have b5 : NE l4 gLT := ⟨f0.ne f9.ne (by omega)⟩
   replace y := b3.same _ _ ⟨k1.ne, b8.ne, b5.ne, c6.ne, trivial⟩ y
   have j9 : NE k8 p7 := .a
   have c2 : NE k8 gLF := ⟨e8.ne f2.ne (by omega)⟩
   have b9 : NE k8 gLT := ⟨f0.ne g0.ne (by omega)⟩
   replace u := b3.same _ _ ⟨j9.ne, c2.ne, b9.ne, b0.ne, trivial⟩ u
   have f1 : NE i0 p7 := .a
   replace l := b3.same _ _ ⟨f1.ne, o0, n8, j4, trivial⟩ l
   have lt_at_L7 := GHeap.ltg k6
   have lt_at_LF2 := GHeap.ltg b7
   have lt_at_LT2 := GHeap.ltg a0
   have i2 := GHeap.ltg b
   replace hin := e.mono p
   clear d
   have d : MemN _ _ _ _ _ := ⟨rfl, Mem.of_get m⟩
   have rk := St.refl [m0, e6, e5, g5] HL2
   obtain ⟨⟨hj, hs9, hts, hrl⟩, hS, hT, hB, ⟨hPM, hPS, hPR⟩, hR, h7, q6, q5⟩ := hI
   refine .seq (fun K13 w3 => .seq (fun K14 v4 => .region (.mv rfl (.mv rfl (.q rfl (.cmp rfl rfl rfl) (.nil (v4 _ _ ?_)))))))
   refine .cond rfl (fun u6 => ?_) (fun u6 => ?_)
   ·
    try simp only [sps] at u6
    refine .skip ?_
    refine w3 _ _ (.seq (fun K15 r2 => ?_))
    refine .block ?_
    refine .seq (fun K16 v2 => .region (.mv rfl (.q rfl (.fieldAddr fo_27_1_B rfl) ?_)))
    refine .q rfl (.load on_24_B rfl (by first | assumption | exact Mem.of_get b 1 _ rfl)) ?_
    refine .q rfl (.len sl_24_A rfl) ?_
    refine .R rfl (.litA rfl sl_24_A ze_2_N rfl rfl rfl rfl) ?_
    rintro _ H38 ⟨z4, rfl, j3, ge38, h2⟩
    have nx_H38 := j3.1
    replace p := p.trans j3
    replace a6 := a6.le j3
    replace b3 := b3.le j3
    replace rk := rk.le j3
    replace a2 := j3.2 _ _ a2
    replace y := j3.2 _ _ y
    replace u := j3.2 _ _ u
    replace l := j3.2 _ _ l
    replace k6 := j3.2 _ _ k6
    replace b7 := j3.2 _ _ b7
    replace a0 := j3.2 _ _ a0
    replace b := j3.2 _ _ b
    have lt_at38 := GHeap.ltg h2
    replace hin := e.mono p
    clear d
    have d : MemN _ _ _ _ _ := ⟨rfl, Mem.of_get m⟩
    refine .R rfl (.appendI rfl sl_24_A ze_2_N rfl by_2_N sl_24_A rfl rfl (by assumption) (by assumption) (by first | omega | (simp <;> omega)) (by omega) (by omega)) ?_
    rintro _ H39 ⟨z0, rfl, j2, ge39, i4⟩
    have nx_H39 := j2.nx
    replace p := p.st j2 (fun k hk => ⟨by omega, trivial⟩)
    replace a6 := a6.sP j2
    replace b3 := b3.sP j2
    replace rk := rk.sP j2
    replace a2 := j2.same _ _ ⟨(k0.ne l2.ne (by omega)), trivial⟩ a2
    replace y := j2.same _ _ ⟨(k0.ne k1.ne (by omega)), trivial⟩ y
    replace u := j2.same _ _ ⟨(k0.ne j9.ne (by omega)), trivial⟩ u
    have f7 : NE i0 m0 := ⟨k0.ne f1.ne (by omega)⟩
    replace l := j2.s l f7.ne
    replace b7 := j2.same _ _ ⟨(Ne.symm r3), trivial⟩ b7
    replace a0 := j2.same _ _ ⟨(Ne.symm r5), trivial⟩ a0
    replace b := j2.same _ _ ⟨(Ne.symm r8), trivial⟩ b
    replace h2 := j2.s h2
    have lt_at39 := GHeap.ltg i4
    replace hin := e.mono p
    clear d
    have d : MemN _ _ _ _ _ := ⟨rfl, Mem.of_get m⟩
    refine .mv rfl (.nil (v2 _ _ (.seq (fun K17 t9 => .region ?_))))
    have u1 := hin.2 i (by omega)
    refine .mv rfl (.mv rfl ?_)
    refine .q rfl (.idxN sl_25_B (Intss.sl (by assumption)) rfl rfl (by omega)) ?_
    refine .q rfl (.loadR on_24_B (by assumption) rfl (by omega)) ?_
    refine .mv rfl ?_
    refine .q rfl (.idxN sl_24_A (by assumption) rfl rfl (by omega)) ?_
    refine .q rfl (.loadI on_2_A (by assumption) rfl (by omega)) ?_
    refine .q rfl (.cmp rfl rfl rfl) (.nil (t9 _ _ ?_))
    refine .cond rfl (fun s4 => ?_) (fun s4 => ?_)
    ·
     simp only [sps] at s4
     obtain ⟨s3, m7, o2, w7⟩ : ∃ s3, s3 = s2 ++ [(i : Int)] ∧ s3.length = s2.length + 1 ∧ Bd 0 (rel.length - 1) s3 := ⟨_, rfl, by simp, hS.snoc (by omega) (by omega)⟩
     obtain ⟨t3, m8, y6, v9⟩ : ∃ t3, t3 = t2 ++ [(j : Int)] ∧ t3.length = t2.length + 1 ∧ Bd 0 (rel.length - 1) t3 := ⟨_, rfl, by simp, hT.snoc (by omega) (by omega)⟩
     have v6 : PoM rel s3 t3 num ∧ PoS rel s3 t3 ∧ PoR rel s3 t3 i (row ++ [(s2.length : Int)]) := by
       rw [m7, m8]
       exact ⟨hPM.grow hts, hPS.snoc hts s4, hPR.snocT hts hrl⟩
     refine .seq (fun K18 w1 => .region (.q rfl (.fieldAddr fo_27_1_B rfl) ?_))
     refine .q rfl (.load on_24_B rfl (by first | assumption | exact Mem.of_get b 1 _ rfl)) ?_
     refine .mv rfl ?_
     refine .R rfl (.litA rfl sl_24_A ze_2_N rfl rfl rfl rfl) ?_
     rintro _ H51 ⟨y3, rfl, h8, ge51, k5⟩
     have nx_H51 := h8.1
     replace p := p.trans h8
     replace a6 := a6.le h8
     replace b3 := b3.le h8
     replace rk := rk.le h8
     replace a2 := h8.2 _ _ a2
     replace y := h8.2 _ _ y
     replace u := h8.2 _ _ u
     replace l := h8.2 _ _ l
     replace b7 := h8.2 _ _ b7
     replace a0 := h8.2 _ _ a0
     replace b := h8.2 _ _ b
     replace h2 := h8.2 _ _ h2
     replace i4 := h8.2 _ _ i4
     have lt_at51 := GHeap.ltg k5
     replace hin := e.mono p
     clear d
     have d : MemN _ _ _ _ _ := ⟨rfl, Mem.of_get m⟩
     refine .R rfl (.appendI rfl sl_24_A ze_2_N rfl by_2_N sl_24_A rfl rfl (by assumption) (by assumption) (by first | omega | (simp <;> omega)) (by omega) (by omega)) ?_
     rintro _ H52 ⟨x4, rfl, h6, ge52, l7⟩
     have nx_H52 := h6.nx
     replace p := p.st h6 (fun k hk => ⟨by omega, trivial⟩)
     replace a6 := a6.sQ h6
     replace b3 := b3.sQ h6
     replace rk := rk.sQ h6
     replace a2 := h6.same _ _ ⟨(h1.ne e4.ne (by omega)), trivial⟩ a2
     replace y := h6.same _ _ ⟨(h1.ne b8.ne (by omega)), trivial⟩ y
     replace u := h6.same _ _ ⟨(h1.ne c2.ne (by omega)), trivial⟩ u
     have e0 : NE i0 e6 := ⟨h1.ne o0 (by omega)⟩
     replace l := h6.s l e0.ne
     replace a0 := h6.same _ _ ⟨(Ne.symm s1), trivial⟩ a0
     replace b := h6.same _ _ ⟨(Ne.symm s0), trivial⟩ b
     replace h2 := h6.s h2
     replace i4 := h6.s i4
     replace k5 := h6.s k5
     have lt_at52 := GHeap.ltg l7
     replace hin := e.mono p
     clear d
     have d : MemN _ _ _ _ _ := ⟨rfl, Mem.of_get m⟩
     refine .q rfl (.fieldAddr fo_27_1_B rfl) ?_
     refine .r0 rfl rfl (.storeR rfl sz_24_Ch rfl rfl rfl (by assumption) (by first | exact Nat.le_of_ble_eq_true rfl | (simp; done) | (simp <;> omega))) ?_
     rintro _ H13006 ⟨rfl, z, c9⟩
     have nx_H13006 := z.nx
     replace p := p.st z (fun k hk => ⟨by omega, trivial⟩)
     replace a6 := a6.sA z
     replace b3 := b3.sA z
     replace rk := rk.sA z
     replace a2 := z.s a2 a4.ne
     replace y := z.s y c6.ne
     replace u := z.s u b0.ne
     replace l := z.same _ _ ⟨j4, trivial⟩ l
     replace a0 := z.same _ _ ⟨o9, trivial⟩ a0
     have l0 : NE z4 g5 := .a
     replace h2 := z.s h2 l0.ne
     have k9 : NE z0 g5 := .a
     replace i4 := z.s i4 k9.ne
     have l3 : NE y3 g5 := .a
     replace k5 := z.s k5 l3.ne
     have l1 : NE x4 g5 := .a
     replace l7 := z.s l7 l1.ne
     have lt_at13006 := GHeap.ltg c9
     replace hin := e.mono p
     clear d
     have d : MemN _ _ _ _ _ := ⟨rfl, Mem.of_get m⟩
     try simp only [Nat.zero_add, List.set_cons_succ, List.set_cons_zero] at c9
     refine .nil (w1 _ _ (.region (.q rfl (.fieldAddr fo_27_2_B rfl) ?_)))
     refine .q rfl (.load on_24_B rfl (by first | assumption | exact Mem.of_get c9 2 _ rfl)) ?_
     refine .mv rfl ?_
     refine .R rfl (.litA rfl sl_24_A ze_2_N rfl rfl rfl rfl) ?_
     rintro _ H57 ⟨g57, rfl, h4, ge57, o1⟩
     have nx_H57 := h4.1
     replace p := p.trans h4
     replace a6 := a6.le h4
     replace b3 := b3.le h4
     replace rk := rk.le h4
     replace a2 := h4.2 _ _ a2
     replace y := h4.2 _ _ y
     replace u := h4.2 _ _ u
     replace l := h4.2 _ _ l
     replace a0 := h4.2 _ _ a0
     replace h2 := h4.2 _ _ h2
     replace i4 := h4.2 _ _ i4
     replace k5 := h4.2 _ _ k5
     replace l7 := h4.2 _ _ l7
     replace c9 := h4.2 _ _ c9
     have lt_at57 := GHeap.ltg o1
     replace hin := e.mono p
     clear d
     have d : MemN _ _ _ _ _ := ⟨rfl, Mem.of_get m⟩
     refine .R rfl (.appendI rfl sl_24_A ze_2_N rfl by_2_N sl_24_A rfl rfl (by assumption) (by assumption) (by first | omega | (simp <;> omega)) (by omega) (by omega)) ?_
     rintro _ H58 ⟨y9, rfl, g6, ge58, p2⟩
     have nx_H58 := g6.nx
     replace p := p.st g6 (fun k hk => ⟨by omega, trivial⟩)
     replace a6 := a6.sQ g6
     replace b3 := b3.sQ g6
     replace rk := rk.sQ g6
     replace a2 := g6.same _ _ ⟨(f5.ne e2.ne (by omega)), trivial⟩ a2
     replace y := g6.same _ _ ⟨(f5.ne b5.ne (by omega)), trivial⟩ y
     replace u := g6.same _ _ ⟨(f5.ne b9.ne (by omega)), trivial⟩ u
     have d8 : NE i0 e5 := ⟨f5.ne n8 (by omega)⟩
     replace l := g6.s l d8.ne
     replace h2 := g6.s h2
     replace i4 := g6.s i4
     replace k5 := g6.s k5
     replace l7 := g6.s l7
     replace c9 := g6.same _ _ ⟨(Ne.symm o9), trivial⟩ c9
     replace o1 := g6.s o1
     have lt_at58 := GHeap.ltg p2
     replace hin := e.mono p
     clear d
     have d : MemN _ _ _ _ _ := ⟨rfl, Mem.of_get m⟩
     refine .q rfl (.fieldAddr fo_27_2_B rfl) ?_
     refine .r0 rfl rfl (.storeR rfl sz_24_Ch rfl rfl rfl (by assumption) (by first | exact Nat.le_of_ble_eq_true rfl | (simp; done) | (simp <;> omega))) ?_
     rintro _ H14006 ⟨rfl, w, m4⟩
     have nx_H14006 := w.nx
     replace p := p.st w (fun k hk => ⟨by omega, trivial⟩)
     replace a6 := a6.sA w
     replace b3 := b3.sA w
     replace rk := rk.sA w
     replace a2 := w.s a2 a4.ne
     replace y := w.s y c6.ne
     replace u := w.s u b0.ne
     replace l := w.same _ _ ⟨j4, trivial⟩ l
     replace h2 := w.s h2 l0.ne
     replace i4 := w.s i4 k9.ne
     replace k5 := w.s k5 l3.ne
     replace l7 := w.s l7 l1.ne
     replace o1 := w.s o1
     replace p2 := w.s p2
     have lt_at14006 := GHeap.ltg m4
     replace hin := e.mono p
     clear d
     have d : MemN _ _ _ _ _ := ⟨rfl, Mem.of_get m⟩
     try simp only [Nat.zero_add, List.set_cons_succ, List.set_cons_zero] at m4
     refine .nil (r2 _ _ (.region (.mv rfl ?_)))
     refine .q rfl (.add rfl rfl rfl (by omega) (by omega)) ?_
     refine .mv rfl (.nil ?_)
     refine r9 ((j + 1, s3, t3, row ++ [(s2.length : Int)], _, _, x4, y9)) _ _ ?_ ?_ ⟨rfl, rfl, rfl, rfl, rfl, rfl, rfl, rfl, trivial⟩
     ·
      refine ⟨b3, by first | assumption | (rw [m7]; assumption) | (rw [m8]; assumption) | (rw [o2]; assumption), by first | assumption | exact ⟨.inr (by omega)⟩ | exact ⟨.inl rfl⟩, by first | omega | (simp only [List.length_append, List.length_cons, List.length_nil] <;> omega) | (rw [m7] <;> (first | omega | (simp only [List.length_append, List.length_cons, List.length_nil] <;> omega))) | (rw [m8] <;> (first | omega | (simp only [List.length_append, List.length_cons, List.length_nil] <;> omega))) | (rw [o2] <;> (first | omega | (simp only [List.length_append, List.length_cons, List.length_nil] <;> omega))), by first | assumption | (rw [m7]; assumption) | (rw [m8]; assumption) | (rw [o2]; assumption), by first | assumption | exact ⟨.inr (by omega)⟩ | exact ⟨.inl rfl⟩, by first | assumption | (rw [m7]; assumption) | (rw [m8]; assumption) | (rw [o2]; assumption), by first | assumption | exact ⟨.inr (by omega)⟩ | exact ⟨.inl rfl⟩, by first | assumption | (rw [m7]; assumption) | (rw [m8]; assumption) | (rw [o2]; assumption), by first | assumption | omega, by first | assumption | omega, by first | assumption | omega, by first | assumption | omega, by first | assumption | omega, by first | assumption | omega, ?_⟩
      have hR' := hR.st rk (.cons h7 (.cons q6 (.cons q5 (.cons (hR.lowNe (by omega)) (.nil _ _)))))
      exact ⟨⟨by omega, by omega, by omega, by simp; omega⟩, w7, v9, hB.snoc (by omega) (by omega), v6, hR', hR.ne (by omega), by first | exact q6 | exact hR.ne (by omega), by first | exact q5 | exact hR.ne (by omega)⟩
     (dsimp only; omega)
    simp only [sps] at s4
    obtain ⟨s3, m7, o2, w7⟩ : ∃ s3, s3 = s2 ∧ s3.length = s2.length ∧ Bd 0 (rel.length - 1) s3 := ⟨_, rfl, by simp, hS⟩
    obtain ⟨t3, m8, y6, v9⟩ : ∃ t3, t3 = t2 ∧ t3.length = t2.length ∧ Bd 0 (rel.length - 1) t3 := ⟨_, rfl, by simp, hT⟩
    have v6 : PoM rel s3 t3 num ∧ PoS rel s3 t3 ∧ PoR rel s3 t3 i (row ++ [(s2.length : Int)]) := by
      rw [m7, m8]
      exact ⟨hPM, hPS, hPR.snocF (by rw [hrl]; exact s4)⟩
    refine .skip ?_
    refine r2 _ _ (.region (.mv rfl ?_))
    refine .q rfl (.add rfl rfl rfl (by omega) (by omega)) ?_
    refine .mv rfl (.nil ?_)
    refine r9 ((j + 1, s3, t3, row ++ [(s2.length : Int)], _, _, e6, e5)) _ _ ?_ ?_ ⟨rfl, rfl, rfl, rfl, rfl, rfl, rfl, rfl, trivial⟩
    ·
     refine ⟨b3, by first | assumption | (rw [m7]; assumption) | (rw [m8]; assumption) | (rw [o2]; assumption), by first | assumption | exact ⟨.inr (by omega)⟩ | exact ⟨.inl rfl⟩, by first | omega | (simp only [List.length_append, List.length_cons, List.length_nil] <;> omega) | (rw [m7] <;> (first | omega | (simp only [List.length_append, List.length_cons, List.length_nil] <;> omega))) | (rw [m8] <;> (first | omega | (simp only [List.length_append, List.length_cons, List.length_nil] <;> omega))) | (rw [o2] <;> (first | omega | (simp only [List.length_append, List.length_cons, List.length_nil] <;> omega))), by first | assumption | (rw [m7]; assumption) | (rw [m8]; assumption) | (rw [o2]; assumption), by first | assumption | exact ⟨.inr (by omega)⟩ | exact ⟨.inl rfl⟩, by first | assumption | (rw [m7]; assumption) | (rw [m8]; assumption) | (rw [o2]; assumption), by first | assumption | exact ⟨.inr (by omega)⟩ | exact ⟨.inl rfl⟩, by first | assumption | (rw [m7]; assumption) | (rw [m8]; assumption) | (rw [o2]; assumption), by first | assumption | omega, by first | assumption | omega, by first | assumption | omega, by first | assumption | omega, by first | assumption | omega, by first | assumption | omega, ?_⟩
     have hR' := hR.st rk (.cons h7 (.cons q6 (.cons q5 (.cons (hR.lowNe (by omega)) (.nil _ _)))))
     exact ⟨⟨by omega, by omega, by omega, by simp; omega⟩, w7, v9, hB.snoc (by omega) (by omega), v6, hR', hR.ne (by omega), by first | exact q6 | exact hR.ne (by omega), by first | exact q5 | exact hR.ne (by omega)⟩
    (dsimp only; omega)
   try simp only [sps] at u6
   refine .exit ?_
   refine w4 _ _ (.region ?_)
   obtain rfl : j = rel.length := by omega
   obtain rfl := s5
   have v5 := l
   refine .mv rfl (.mv rfl ?_)
   refine .R rfl (.litA rfl sl_25_B ze_24_Hj rfl rfl rfl rfl) ?_
   rintro _ H62 ⟨g62, rfl, j6, ge62, p3⟩
   have nx_H62 := j6.1
   replace p := p.trans j6
   replace a6 := a6.le j6
   replace a2 := j6.2 _ _ a2
   replace y := j6.2 _ _ y
   replace u := j6.2 _ _ u
   replace l := j6.2 _ _ l
   replace k6 := j6.2 _ _ k6
   replace b7 := j6.2 _ _ b7
   replace a0 := j6.2 _ _ a0
   replace b := j6.2 _ _ b
   have lt_at62 := GHeap.ltg p3
   replace hin := e.mono p
   clear d
   have d : MemN _ _ _ _ _ := ⟨rfl, Mem.of_get m⟩
   refine .R rfl (.appendV rfl sl_25_B ze_24_Hj rfl by_24_Hj sl_25_B rfl rfl (by assumption) (by assumption) (by first | omega | (simp <;> omega)) rfl rfl (by omega) (by omega)) ?_
   rintro _ H63 ⟨g63, rfl, j7, ge63, t8⟩
   have nx_H63 := j7.nx
   replace p := p.st j7 (fun k hk => ⟨by omega, trivial⟩)
   replace a6 := a6.sP j7
   have j0 : NE g2 i0 := ⟨j8.ne i7.ne (by omega)⟩
   replace a2 := j7.s a2 j0.ne
   have c8 : NE l4 i0 := ⟨j8.ne f3.ne (by omega)⟩
   replace y := j7.s y c8.ne
   have d2 : NE k8 i0 := ⟨j8.ne g1.ne (by omega)⟩
   replace u := j7.s u d2.ne
   have f7 : NE i0 m0 := ⟨k0.ne f1.ne (by omega)⟩
   replace k6 := j7.s k6 (Ne.symm f7.ne)
   have e0 : NE i0 e6 := ⟨h1.ne o0 (by omega)⟩
   replace b7 := j7.s b7 (Ne.symm e0.ne)
   have d8 : NE i0 e5 := ⟨f5.ne n8 (by omega)⟩
   replace a0 := j7.s a0 (Ne.symm d8.ne)
   replace b := j7.same _ _ ⟨(Ne.symm j4), trivial⟩ b
   replace p3 := j7.s p3
   have lt_at63 := GHeap.ltg t8
   replace hin := e.mono p
   clear d
   have d : MemN _ _ _ _ _ := ⟨rfl, Mem.of_get m⟩
   refine .mv rfl (.nil (z8 _ _ (.region (.mv rfl ?_))))
   refine .q rfl (.add rfl rfl rfl (by omega) (by omega)) ?_
   refine .mv rfl (.nil ?_)
   refine u2 ((i + 1, s2, t2, num ++ [row], upd rn num.length (some ⟨m0, 0, none⟩), _, _, e6, e5)) _ _ ?_ ?_ ⟨rfl, rfl, rfl, rfl, rfl, rfl, trivial⟩
   ·
    refine ⟨a6, by first | assumption | (rw [slsL_snoc]; assumption), by first | assumption | exact ⟨.inr (by omega)⟩ | exact ⟨.inl rfl⟩, by first | omega | (simp only [List.length_append, List.length_cons, List.length_nil] <;> omega) | (rw [slsL_snoc] <;> (first | omega | (simp only [List.length_append, List.length_cons, List.length_nil] <;> omega))), by first | assumption | (rw [slsL_snoc]; assumption), by first | assumption | exact h1.trans e8 (by omega) | exact ⟨.inr (by omega)⟩ | exact ⟨.inl rfl⟩, by first | assumption | (rw [slsL_snoc]; assumption), by first | assumption | exact f5.trans f0 (by omega) | exact ⟨.inr (by omega)⟩ | exact ⟨.inl rfl⟩, by first | assumption | (rw [slsL_snoc]; assumption), by first | assumption | omega, by first | assumption | omega, by first | assumption | omega, by first | assumption | omega, by first | assumption | omega, by first | assumption | omega, ?_⟩
    have hR' := (hR.keep (.of_le j6)).st j7 (.cons (hR.neT v5 rfl) (.nil _ _))
    exact ⟨⟨by omega, by omega, by omega, by simp; omega⟩, hS, hT, hN.snoc (by omega) hB, ⟨hPM.snoc (by rw [hnl]; exact hPR), hPS⟩, hR'.snoc2 (by assumption) h7 (k0.ge (by omega) (by omega)), ne_snoc q6 (by omega), ne_snoc q5 (by omega)⟩
   (dsimp only; omega)
  try simp only [sps] at x1
  refine .exit ?_
  refine z5 _ _ (.seq (fun K19 t1 => .seq (fun K20 u7 => .region ?_)))
  obtain rfl : i = rel.length := by omega
  refine .mv rfl (.nil (u7 _ _ ?_))
  refine .block ?_
  refine .loopR (σ := Nat × List Int × Nat) [(2, some _), (3, some _), (4, some _), (5, some _)] (fun (x, is, gLI) => [(9, some (.int .i64 (x : Int)))]) (fun (x, is, gLI) H' => St [l4, g5] HL1 H' ∧ H'.get gLI = some (.row (ints is) 2 true) ∧ PL gLI l4 HL1.next ∧ H'.get g5 = some (.row ([.int .i64 (rel.length : Int), .slice (some ⟨gLF, 0, none⟩) ss.length ss.length, .slice (some ⟨gLT, 0, none⟩) ss.length ss.length, .slice (some ⟨gLI, 0, none⟩) x x, .slice (some ⟨k8, 0, none⟩) 0 0]) 27 true) ∧ gLI ≠ g5 ∧ (x ≤ rel.length ∧ is.length = x) ∧ Bd 0 (8 * rel.length) is ∧ IdsL ss ts is ∧ OwnL e7.next H' 2 rn num ∧ ∀ j, j < num.length → rn j ≠ some ⟨gLI, 0, none⟩) (fun (x, is, gLI) => rel.length - x) ((0, [], l4)) ⟨rfl, rfl, rfl, rfl, trivial⟩ ⟨rfl, trivial⟩ ?_ ?_
  ·
   refine ⟨.refl _ _, by first | assumption | exact y | simpa using y, ⟨.inl rfl⟩, by first | assumption | exact b | simpa using b, by omega, ?_⟩
   exact ⟨⟨by omega, rfl⟩, .nil _ _, .nil _ _, hR, hR.lowNe (by omega)⟩
  rintro ⟨x, is, gLI⟩ HL3 ⟨h5, v, e9, b, o4, hI⟩ KL3 v8
  refine .forget (fr' := [(9, some (.int .i64 (x : Int))), (2, some _), (3, some _), (4, some _), (5, some _)]) ⟨rfl, rfl, rfl, rfl, rfl, trivial⟩ ?_
  have ge_LI : H.next ≤ gLI := e9.ge (by omega) (by omega)
  have nx_HL3 := h5.nx
  replace p := p.st h5 (fun k hk => ⟨by omega, by omega, trivial⟩)
  have h9 : NE g2 l4 := .a
  replace a2 := h5.same _ _ ⟨h9.ne, a4.ne, trivial⟩ a2
  have g7 : NE k8 l4 := .a
  replace u := h5.same _ _ ⟨g7.ne, b0.ne, trivial⟩ u
  have c8 : NE l4 i0 := ⟨j8.ne f3.ne (by omega)⟩
  replace l := h5.same _ _ ⟨(Ne.symm c8.ne), j4, trivial⟩ l
  have b8 : NE l4 gLF := ⟨e8.ne h0.ne (by omega)⟩
  replace o := h5.same _ _ ⟨(Ne.symm b8.ne), m3, trivial⟩ o
  have b5 : NE l4 gLT := ⟨f0.ne f9.ne (by omega)⟩
  replace n := h5.same _ _ ⟨(Ne.symm b5.ne), m2, trivial⟩ n
  have lt_at_LI := GHeap.ltg v
  have i2 := GHeap.ltg b
  replace hin := e.mono p
  clear d
  have d : MemN _ _ _ _ _ := ⟨rfl, Mem.of_get m⟩
  have rk := St.refl [gLI, g5] HL3
  obtain ⟨⟨hx, hxl⟩, x6, hId, hR, s6⟩ := hI
  refine .seq (fun K21 u5 => .seq (fun K22 t6 => .region (.mv rfl (.mv rfl (.q rfl (.cmp rfl rfl rfl) (.nil (t6 _ _ ?_)))))))
  refine .cond rfl (fun x0 => ?_) (fun x0 => ?_)
  ·
   simp only [sps] at x0
   have n1 := hN.at (i := x) (j := x) (by omega) (by omega)
   have n2 := (hN x (by omega)).1
   refine .skip ?_
   refine u5 _ _ (.seq (fun K23 u9 => ?_))
   refine .block ?_
   refine .regionD mo_B (.q 0 (.q 1 (.q 2 (.q 3 (.q 4 (.q 5 (.q 6 (.q 7 (.q 8 (.c 9 1 (.c 10 0 (.q 11 (.c 12 0 (.done)))))))))))))) (by kernel_rfl) ?_
   have iN := (hR.low (b' := H.next) (by omega)).intss l (by omega)
   have u1 := iN.2 x (by omega)
   refine .q rfl (.fieldAddr fo_27_3_B rfl) ?_
   refine .q rfl (.load on_24_B rfl (by first | assumption | exact Mem.of_get b 3 _ rfl)) ?_
   refine .mv rfl rfl (.mv rfl rfl ?_)
   refine .q rfl (.idxN sl_25_B (by first | exact (Intss.sl (by assumption)) | exact SlA.of_row l (by first | rfl | (simp; done) | (simp <;> omega))) rfl rfl (by omega)) ?_
   refine .q rfl (.loadR on_24_B (by assumption) rfl (by omega)) ?_
   refine .mv rfl rfl ?_
   refine .q rfl (.idxN sl_24_A (by assumption) rfl rfl (by omega)) ?_
   refine .q rfl (.loadI on_2_A (by assumption) rfl (by omega)) ?_
   refine .c1 rfl rfl rfl rfl (.litA rfl sl_24_A ze_2_N rfl rfl rfl rfl) ?_
   rintro _ H78 ⟨g78, rfl, j5, ge78, n0⟩
   have y7 := j5
   refine ⟨y7, ?_⟩
   have nx_H78 := j5.1
   replace p := p.trans j5
   replace h5 := h5.le j5
   replace rk := rk.le j5
   replace a2 := j5.2 _ _ a2
   replace u := j5.2 _ _ u
   replace l := j5.2 _ _ l
   replace o := j5.2 _ _ o
   replace n := j5.2 _ _ n
   replace v := j5.2 _ _ v
   replace b := j5.2 _ _ b
   have lt_at78 := GHeap.ltg n0
   replace hin := e.mono p
   clear d
   have d : MemN _ _ _ _ _ := ⟨rfl, Mem.of_get m⟩
   refine .c0 rfl rfl rfl rfl (.appendI rfl sl_24_A ze_2_N rfl by_2_N sl_24_A rfl rfl (by assumption) (by assumption) (by first | omega | (simp <;> omega)) (by omega) (by omega)) ?_
   rintro _ H79 ⟨y1, rfl, k2, ge79, p5⟩
   have nx_H79 := k2.nx
   replace p := p.st k2 (fun k hk => ⟨by omega, trivial⟩)
   replace h5 := h5.sP k2
   replace rk := rk.sP k2
   have i6 : NE g2 gLI := ⟨e9.ne h9.ne (by omega)⟩
   replace a2 := k2.s a2 i6.ne
   have d0 : NE k8 gLI := ⟨e9.ne g7.ne (by omega)⟩
   replace u := k2.s u d0.ne
   replace l := k2.same _ _ ⟨(e9.ne (Ne.symm c8.ne) (by omega)), trivial⟩ l
   replace o := k2.same _ _ ⟨(e9.ne (Ne.symm b8.ne) (by omega)), trivial⟩ o
   replace n := k2.same _ _ ⟨(e9.ne (Ne.symm b5.ne) (by omega)), trivial⟩ n
   replace b := k2.same _ _ ⟨(Ne.symm o4), trivial⟩ b
   replace n0 := k2.s n0
   have lt_at79 := GHeap.ltg p5
   replace hin := e.mono p
   clear d
   have d : MemN _ _ _ _ _ := ⟨rfl, Mem.of_get m⟩
   refine .q rfl (.fieldAddr fo_27_3_B rfl) ?_
   refine .r0 rfl rfl rfl (.storeR rfl sz_24_Ch rfl rfl rfl (by assumption) (by first | exact Nat.le_of_ble_eq_true rfl | (simp; done) | (simp <;> omega))) ?_
   rintro _ H19012 ⟨rfl, a8, m5⟩
   have nx_H19012 := a8.nx
   replace p := p.st a8 (fun k hk => ⟨by omega, trivial⟩)
   replace h5 := h5.sA a8
   replace rk := rk.sA a8
   replace a2 := a8.s a2 a4.ne
   replace u := a8.s u b0.ne
   replace l := a8.same _ _ ⟨j4, trivial⟩ l
   replace o := a8.same _ _ ⟨m3, trivial⟩ o
   replace n := a8.same _ _ ⟨m2, trivial⟩ n
   replace n0 := a8.s n0
   replace p5 := a8.s p5
   have lt_at19012 := GHeap.ltg m5
   replace hin := e.mono p
   clear d
   have d : MemN _ _ _ _ _ := ⟨rfl, Mem.of_get m⟩
   try simp only [Nat.zero_add, List.set_cons_succ, List.set_cons_zero] at m5
   refine .done ?_
   refine u9 _ _ (.region (.mv rfl ?_))
   refine .q rfl (.add rfl rfl rfl (by omega) (by omega)) ?_
   refine .mv rfl (.nil ?_)
   refine v8 ((x + 1, is ++ [(num.getD x []).getD x 0], y1)) _ _ ?_ ?_ ⟨rfl, rfl, rfl, rfl, rfl, trivial⟩
   ·
    refine ⟨h5, by assumption, by first | assumption | exact ⟨.inr (by omega)⟩ | exact ⟨.inl rfl⟩, by assumption, by first | assumption | omega, ?_⟩
    exact ⟨⟨by omega, by simp; omega⟩, x6.snoc n1.1 n1.2, po_id hRT hPM hnl (fun i hi => (hN i hi).1) hId hxl (by omega), hR.st rk (.cons s6 (.cons (hR.lowNe (by omega)) (.nil _ _))), hR.ne (by omega)⟩
   (dsimp only; omega)
  try simp only [sps] at x0
  refine .exit ?_
  refine t1 _ _ (.seq (fun K24 s8 => .seq (fun K25 w0 => .region ?_)))
  obtain rfl : x = rel.length := by omega
  refine .mv rfl (.nil (w0 _ _ ?_))
  refine .block ?_
  refine .loopR (σ := Nat × (Nat → Option Addr) × List (List Int) × Nat) [(2, some _), (4, some _), (5, some _)] (fun (f, rr, cs, gLC) => [(10, some (.int .i64 (f : Int)))]) (fun (f, rr, cs, gLC) H' => St [k8, g5] HL3 H' ∧ H'.get gLC = some (.row ((slsL rr cs)) 24 true) ∧ PL gLC k8 HL3.next ∧ H'.get g5 = some (.row ([.int .i64 (rel.length : Int), .slice (some ⟨gLF, 0, none⟩) ss.length ss.length, .slice (some ⟨gLT, 0, none⟩) ss.length ss.length, .slice (some ⟨gLI, 0, none⟩) rel.length rel.length, .slice (some ⟨gLC, 0, none⟩) f f]) 27 true) ∧ gLC ≠ g5 ∧ (f ≤ ss.length ∧ cs.length = f) ∧ Tb (-1) (8 * rel.length) ss.length cs ∧ CellsT ss ts cs ∧ OwnL e7.next H' 2 rn num ∧ OwnL e7.next H' 2 rr cs ∧ (∀ j, j < cs.length → rr j ≠ some ⟨gLF, 0, none⟩) ∧ (∀ j, j < cs.length → rr j ≠ some ⟨gLT, 0, none⟩) ∧ ∀ j, j < cs.length → rr j ≠ some ⟨gLI, 0, none⟩) (fun (f, rr, cs, gLC) => ss.length - f) ((0, fun _ => none, [], k8)) ⟨rfl, rfl, rfl, trivial⟩ ⟨rfl, trivial⟩ ?_ ?_
  ·
   refine ⟨.refl _ _, by first | assumption | exact u | simpa using u, ⟨.inl rfl⟩, by first | assumption | exact b | simpa using b, by omega, ?_⟩
   exact ⟨⟨by omega, rfl⟩, .nil _ _ _, .nil _ _, hR, .nil _ _ _ _, fun _ h => by simp at h, fun _ h => by simp at h, fun _ h => by simp at h⟩
  rintro ⟨f, rr, cs, gLC⟩ HL4 ⟨b2, a9, k4, b, r7, hI⟩ KL4 u8
  refine .forget (fr' := [(10, some (.int .i64 (f : Int))), (2, some _), (4, some _), (5, some _)]) ⟨rfl, rfl, rfl, rfl, trivial⟩ ?_
  have ge_LC : H.next ≤ gLC := k4.ge (by omega) (by omega)
  have nx_HL4 := b2.nx
  replace p := p.st b2 (fun k hk => ⟨by omega, by omega, trivial⟩)
  have i9 : NE g2 k8 := .a
  replace a2 := b2.same _ _ ⟨i9.ne, a4.ne, trivial⟩ a2
  have d2 : NE k8 i0 := ⟨j8.ne g1.ne (by omega)⟩
  replace l := b2.same _ _ ⟨(Ne.symm d2.ne), j4, trivial⟩ l
  have c2 : NE k8 gLF := ⟨e8.ne f2.ne (by omega)⟩
  replace o := b2.same _ _ ⟨(Ne.symm c2.ne), m3, trivial⟩ o
  have b9 : NE k8 gLT := ⟨f0.ne g0.ne (by omega)⟩
  replace n := b2.same _ _ ⟨(Ne.symm b9.ne), m2, trivial⟩ n
  have d0 : NE k8 gLI := ⟨e9.ne g7.ne (by omega)⟩
  replace v := b2.same _ _ ⟨(Ne.symm d0.ne), o4, trivial⟩ v
  have lt_at_LC := GHeap.ltg a9
  have i2 := GHeap.ltg b
  replace hin := e.mono p
  clear d
  have d : MemN _ _ _ _ _ := ⟨rfl, Mem.of_get m⟩
  have rk := St.refl [gLC, g5] HL4
  obtain ⟨⟨hf, hcl⟩, hC, hCT, hR, hQ, x3, x7, s6⟩ := hI
  have hatC := a9
  have hfl : (slsL rr cs).length = cs.length := length_slsL _ _
  refine .seq (fun K26 w6 => .seq (fun K27 w2 => .region (.mv rfl (.q rfl (.fieldAddr fo_27_1_B rfl) ?_))))
  refine .q rfl (.load on_24_B rfl (by first | assumption | exact Mem.of_get b 1 _ rfl)) ?_
  refine .q rfl (.len sl_24_A rfl) (.q rfl (.cmp rfl rfl rfl) (.nil (w2 _ _ ?_)))
  refine .cond rfl (fun u4 => ?_) (fun u4 => ?_)
  ·
   simp only [sps] at u4
   have q1 := hS f (by omega)
   have q2 := hT f (by omega)
   refine .skip ?_
   refine w6 _ _ (.seq (fun K28 w9 => ?_))
   refine .block ?_
   refine .seq (fun K29 v1 => .region ?_)
   refine .R rfl (.litA rfl sl_24_A ze_2_N rfl rfl rfl rfl) ?_
   rintro _ t0 ⟨o5, rfl, k3, ge88, n4⟩
   have nx_H88 := k3.1
   replace p := p.trans k3
   replace b2 := b2.le k3
   replace rk := rk.le k3
   replace a2 := k3.2 _ _ a2
   replace l := k3.2 _ _ l
   replace o := k3.2 _ _ o
   replace n := k3.2 _ _ n
   replace v := k3.2 _ _ v
   replace a9 := k3.2 _ _ a9
   replace b := k3.2 _ _ b
   have lt_at88 := GHeap.ltg n4
   replace hin := e.mono p
   clear d
   have d : MemN _ _ _ _ _ := ⟨rfl, Mem.of_get m⟩
   replace n4 : GHeap.get t0 o5 = some (.row (ints []) 2 true) := n4
   refine .mv rfl (.nil (v1 _ _ (.seq (fun K30 v7 => .seq (fun K31 w8 => .region (.mv rfl (.nil (w8 _ _ ?_))))))))
   refine .block ?_
   refine .loopR (σ := Nat × List Int × Nat × Nat) [(2, some _), (4, some _), (5, some _), (10, some _)] (fun (g, row, a7, l8) => [(12, some (.int .i64 (g : Int))), (11, some (.slice (some ⟨a7, 0, none⟩) l8 l8))]) (fun (g, row, a7, l8) H' => St [o5] t0 H' ∧ H'.get a7 = some (.row (ints row) 2 true) ∧ PL a7 o5 t0.next ∧ l8 = row.length ∧ (g ≤ ss.length ∧ row.length = g) ∧ Bd (-1) (8 * rel.length) row ∧ CellsR ss ts f row) (fun (g, row, a7, l8) => ss.length - g) ((0, [], _, _)) ⟨rfl, rfl, rfl, rfl, trivial⟩ ⟨rfl, rfl, trivial⟩ ?_ ?_
   ·
    refine ⟨.refl _ _, by first | assumption | exact n4 | simpa using n4, ⟨.inl rfl⟩, by first | rfl | assumption | simp | omega, ?_⟩
    exact ⟨⟨by omega, rfl⟩, .nil _ _, .nil _ _ _⟩
   rintro ⟨g, row, a7, l8⟩ HL5 ⟨c4, b6, t, p4, hI⟩ KL5 r4
   refine .forget (fr' := [(12, some (.int .i64 (g : Int))), (11, some (.slice (some ⟨a7, 0, none⟩) l8 l8)), (2, some _), (4, some _), (5, some _), (10, some _)]) ⟨rfl, rfl, rfl, rfl, rfl, rfl, trivial⟩ ?_
   have ge_L11 : H.next ≤ a7 := t.ge (by omega) (by omega)
   have nx_HL5 := c4.nx
   replace p := p.st c4 (fun k hk => ⟨by omega, trivial⟩)
   replace b2 := b2.sA c4
   replace rk := rk.sA c4
   have i3 : NE g2 o5 := .a
   replace a2 := c4.s a2 i3.ne
   have g8 : NE i0 o5 := .a
   replace l := c4.s l g8.ne
   have f4 : NE gLF o5 := .a
   replace o := c4.s o f4.ne
   have g3 : NE gLT o5 := .a
   replace n := c4.s n g3.ne
   have g9 : NE gLI o5 := .a
   replace v := c4.s v g9.ne
   have d1 : NE gLC o5 := .a
   replace a9 := c4.s a9 d1.ne
   have e3 : NE g5 o5 := .a
   replace b := c4.s b e3.ne
   have lt_at_L11 := GHeap.ltg b6
   replace hin := e.mono p
   clear d
   have d : MemN _ _ _ _ _ := ⟨rfl, Mem.of_get m⟩
   obtain ⟨⟨hg, hrl⟩, hB, hCR⟩ := hI
   refine .seq (fun K32 s9 => .seq (fun K33 v3 => .region (.mv rfl (.q rfl (.fieldAddr fo_27_1_B rfl) ?_))))
   refine .q rfl (.load on_24_B rfl (by first | assumption | exact Mem.of_get b 1 _ rfl)) ?_
   refine .q rfl (.len sl_24_A rfl) (.q rfl (.cmp rfl rfl rfl) (.nil (v3 _ _ ?_)))
   refine .cond rfl (fun s7 => ?_) (fun s7 => ?_)
   ·
    simp only [sps] at s7
    have q3 := hS g (by omega)
    have q4 := hT g (by omega)
    refine .skip ?_
    refine s9 _ _ (.seq (fun K34 q8 => ?_))
    refine .block ?_
    refine .seq (fun K35 u0 => .region (.mv rfl (.nil (u0 _ _ (.seq (fun K36 r6 => .seq (fun K37 x2 => ?_)))))))
    refine .regionD mo_B (.q 0 (.q 1 (.q 2 (.q 3 (.q 4 (.q 5 (.q 6 (.q 7 (.q 8 (.q 9 (.q 10 (.done)))))))))))) (by kernel_rfl) ?_
    refine .q rfl (.fieldAddr fo_27_2_B rfl) ?_
    refine .q rfl (.load on_24_B rfl (by first | assumption | exact Mem.of_get b 2 _ rfl)) ?_
    refine .mv rfl rfl ?_
    refine .q rfl (.idxN sl_24_A (by first | assumption | exact SlA.of_row n (by first | rfl | (simp; done) | (simp <;> omega))) rfl rfl (by omega)) ?_
    refine .q rfl (.loadI on_2_A (by first | assumption | exact Ints.of_get n) rfl (by omega)) ?_
    refine .q rfl (.fieldAddr fo_27_1_B rfl) ?_
    refine .q rfl (.load on_24_B rfl (by first | assumption | exact Mem.of_get b 1 _ rfl)) ?_
    refine .mv rfl rfl ?_
    refine .q rfl (.idxN sl_24_A (by first | assumption | exact SlA.of_row o (by first | rfl | (simp; done) | (simp <;> omega))) rfl rfl (by omega)) ?_
    refine .q rfl (.loadI on_2_A (by first | assumption | exact Ints.of_get o) rfl (by omega)) ?_
    refine .q rfl (.cmp rfl rfl rfl) ?_
    refine .done ?_
    refine x2 _ _ ?_
    refine .cond rfl (fun n9 => ?_) (fun n9 => ?_)
    ·
     simp only [sps] at n9
     have n1 := hN.at (i := (ss.getD f 0).toNat) (j := (ts.getD g 0).toNat) (by omega) (by omega)
     obtain ⟨h3, p6, n3⟩ : ∃ h3, h3 = (num.getD (ss.getD f 0).toNat []).getD (ts.getD g 0).toNat 0 ∧ -1 ≤ h3 ∧ h3 ≤ 8 * rel.length := ⟨_, rfl, by omega, by omega⟩
     have w5 : CellV ss ts f g h3 := by rw [p6]; exact po_cell hRT hPM hPS hnl (fun i hi => (hN i hi).1) hS hT hts (by omega) (by omega) n9
     refine .regionD mo_B (.q 0 (.q 1 (.q 2 (.q 3 (.q 4 (.q 5 (.q 6 (.q 7 (.q 8 (.q 9 (.q 10 (.q 11 (.q 12 (.q 13 (.q 14 (.q 15 (.done))))))))))))))))) (by kernel_rfl) ?_
     have hRn := hR.st rk (.cons (hR.neT hatC rfl) (.cons (hR.lowNe (by omega)) (.nil _ _)))
     have iN := (hRn.low (b' := H.next) (by omega)).intss l (by omega)
     have u1 := iN.2 (ss.getD f 0).toNat (by omega)
     have n2 := (hN (ss.getD f 0).toNat (by omega)).1
     refine .mv rfl rfl (.q rfl (.fieldAddr fo_27_1_B rfl) ?_)
     refine .q rfl (.load on_24_B rfl (by first | assumption | exact Mem.of_get b 1 _ rfl)) ?_
     refine .mv rfl rfl ?_
     refine .q rfl (.idxN sl_24_A (by first | assumption | exact SlA.of_row o (by first | rfl | (simp; done) | (simp <;> omega))) rfl rfl (by omega)) ?_
     refine .q rfl (.loadI on_2_A (by first | assumption | exact Ints.of_get o) rfl (by omega)) ?_
     refine .q rfl (.idx1 sl_25_B (by first | exact (Intss.sl (by assumption)) | exact SlA.of_row l (by first | rfl | (simp; done) | (simp <;> omega))) rfl rfl (by omega) (by omega)) ?_
     refine .q rfl (.loadR on_24_B (by assumption) rfl (by omega)) ?_
     refine .q rfl (.fieldAddr fo_27_2_B rfl) ?_
     refine .q rfl (.load on_24_B rfl (by first | assumption | exact Mem.of_get b 2 _ rfl)) ?_
     refine .mv rfl rfl ?_
     refine .q rfl (.idxN sl_24_A (by first | assumption | exact SlA.of_row n (by first | rfl | (simp; done) | (simp <;> omega))) rfl rfl (by omega)) ?_
     refine .q rfl (.loadI on_2_A (by first | assumption | exact Ints.of_get n) rfl (by omega)) ?_
     refine .q rfl (.idx1 sl_24_A (by assumption) rfl rfl (by omega) (by omega)) ?_
     refine .q rfl (.loadI on_2_A (by assumption) rfl (by omega)) ?_
     refine .mv rfl rfl ?_
     refine .done ?_
     refine r6 _ _ (.region (.mv rfl (.mv rfl ?_)))
     refine .R rfl (.litA rfl sl_24_A ze_2_N rfl rfl rfl rfl) ?_
     rintro _ H124 ⟨g124, rfl, c5, ge124, n6⟩
     have nx_H124 := c5.1
     replace p := p.trans c5
     replace b2 := b2.le c5
     replace rk := rk.le c5
     replace c4 := c4.le c5
     replace a2 := c5.2 _ _ a2
     replace l := c5.2 _ _ l
     replace o := c5.2 _ _ o
     replace n := c5.2 _ _ n
     replace v := c5.2 _ _ v
     replace a9 := c5.2 _ _ a9
     replace b := c5.2 _ _ b
     replace b6 := c5.2 _ _ b6
     have lt_at124 := GHeap.ltg n6
     replace hin := e.mono p
     clear d
     have d : MemN _ _ _ _ _ := ⟨rfl, Mem.of_get m⟩
     refine .R rfl (.appendI rfl sl_24_A ze_2_N rfl by_2_N sl_24_A rfl rfl (by assumption) (by assumption) (by first | omega | (simp <;> omega)) (by omega) (by omega)) ?_
     rintro _ H125 ⟨g125, rfl, c7, ge125, q9⟩
     have nx_H125 := c7.nx
     replace p := p.st c7 (fun k hk => ⟨by omega, trivial⟩)
     replace b2 := b2.sP c7
     replace rk := rk.sP c7
     replace c4 := c4.sP c7
     have g4 : NE g2 a7 := ⟨t.ne i3.ne (by omega)⟩
     replace a2 := c7.s a2 g4.ne
     have d5 : NE i0 a7 := ⟨t.ne g8.ne (by omega)⟩
     replace l := c7.s l d5.ne
     have d9 : NE gLF a7 := ⟨t.ne f4.ne (by omega)⟩
     replace o := c7.s o d9.ne
     have d6 : NE gLT a7 := ⟨t.ne g3.ne (by omega)⟩
     replace n := c7.s n d6.ne
     have e1 : NE gLI a7 := ⟨t.ne g9.ne (by omega)⟩
     replace v := c7.s v e1.ne
     have b1 : NE gLC a7 := ⟨t.ne d1.ne (by omega)⟩
     replace a9 := c7.s a9 b1.ne
     have c3 : NE g5 a7 := ⟨t.ne e3.ne (by omega)⟩
     replace b := c7.s b c3.ne
     replace n6 := c7.s n6
     have lt_at125 := GHeap.ltg q9
     replace hin := e.mono p
     clear d
     have d : MemN _ _ _ _ _ := ⟨rfl, Mem.of_get m⟩
     refine .mv rfl (.nil (q8 _ _ (.region (.mv rfl ?_))))
     refine .q rfl (.add rfl rfl rfl (by omega) (by omega)) ?_
     refine .mv rfl (.nil ?_)
     refine r4 ((g + 1, row ++ [h3], _, _)) _ _ ?_ ?_ ⟨rfl, rfl, rfl, rfl, rfl, rfl, trivial⟩
     ·
      refine ⟨c4, by first | assumption | (rw [p6]; assumption), by first | assumption | exact ⟨.inr (by omega)⟩ | exact ⟨.inl rfl⟩, by first | omega | (simp only [List.length_append, List.length_cons, List.length_nil] <;> omega) | (rw [p6] <;> (first | omega | (simp only [List.length_append, List.length_cons, List.length_nil] <;> omega))), ?_⟩
      exact ⟨⟨by omega, by simp; omega⟩, hB.snoc (by omega) (by omega), hCR.snoc (by rw [hrl]; exact w5)⟩
     (dsimp only; omega)
    simp only [sps] at n9
    obtain ⟨h3, p6, n3⟩ : ∃ h3 : Int, h3 = -1 ∧ -1 ≤ h3 ∧ h3 ≤ 8 * rel.length := ⟨_, rfl, by omega, by omega⟩
    have w5 : CellV ss ts f g h3 := .neg n9 p6
    refine .skip ?_
    refine r6 _ _ (.region (.mv rfl (.mv rfl ?_)))
    refine .R rfl (.litA rfl sl_24_A ze_2_N rfl rfl rfl rfl) ?_
    rintro _ H124x2 ⟨g124x2, rfl, a1, ge124x2, l6⟩
    have nx_H124x2 := a1.1
    replace p := p.trans a1
    replace b2 := b2.le a1
    replace rk := rk.le a1
    replace c4 := c4.le a1
    replace a2 := a1.2 _ _ a2
    replace l := a1.2 _ _ l
    replace o := a1.2 _ _ o
    replace n := a1.2 _ _ n
    replace v := a1.2 _ _ v
    replace a9 := a1.2 _ _ a9
    replace b := a1.2 _ _ b
    replace b6 := a1.2 _ _ b6
    have lt_at124x2 := GHeap.ltg l6
    replace hin := e.mono p
    clear d
    have d : MemN _ _ _ _ _ := ⟨rfl, Mem.of_get m⟩
    refine .R rfl (.appendI rfl sl_24_A ze_2_N rfl by_2_N sl_24_A rfl rfl (by assumption) (by assumption) (by first | omega | (simp <;> omega)) (by omega) (by omega)) ?_
    rintro _ H125x2 ⟨g125x2, rfl, a3, ge125x2, o6⟩
    have nx_H125x2 := a3.nx
    replace p := p.st a3 (fun k hk => ⟨by omega, trivial⟩)
    replace b2 := b2.sP a3
    replace rk := rk.sP a3
    replace c4 := c4.sP a3
    have g4 : NE g2 a7 := ⟨t.ne i3.ne (by omega)⟩
    replace a2 := a3.s a2 g4.ne
    have d5 : NE i0 a7 := ⟨t.ne g8.ne (by omega)⟩
    replace l := a3.s l d5.ne
    have d9 : NE gLF a7 := ⟨t.ne f4.ne (by omega)⟩
    replace o := a3.s o d9.ne
    have d6 : NE gLT a7 := ⟨t.ne g3.ne (by omega)⟩
    replace n := a3.s n d6.ne
    have e1 : NE gLI a7 := ⟨t.ne g9.ne (by omega)⟩
    replace v := a3.s v e1.ne
    have b1 : NE gLC a7 := ⟨t.ne d1.ne (by omega)⟩
    replace a9 := a3.s a9 b1.ne
    have c3 : NE g5 a7 := ⟨t.ne e3.ne (by omega)⟩
    replace b := a3.s b c3.ne
    replace l6 := a3.s l6
    have lt_at125x2 := GHeap.ltg o6
    replace hin := e.mono p
    clear d
    have d : MemN _ _ _ _ _ := ⟨rfl, Mem.of_get m⟩
    refine .mv rfl (.nil (q8 _ _ (.region (.mv rfl ?_))))
    refine .q rfl (.add rfl rfl rfl (by omega) (by omega)) ?_
    refine .mv rfl (.nil ?_)
    refine r4 ((g + 1, row ++ [h3], _, _)) _ _ ?_ ?_ ⟨rfl, rfl, rfl, rfl, rfl, rfl, trivial⟩
    ·
     refine ⟨c4, by first | assumption | (rw [p6]; assumption), by first | assumption | exact ⟨.inr (by omega)⟩ | exact ⟨.inl rfl⟩, by first | omega | (simp only [List.length_append, List.length_cons, List.length_nil] <;> omega) | (rw [p6] <;> (first | omega | (simp only [List.length_append, List.length_cons, List.length_nil] <;> omega))), ?_⟩
     exact ⟨⟨by omega, by simp; omega⟩, hB.snoc (by omega) (by omega), hCR.snoc (by rw [hrl]; exact w5)⟩
    (dsimp only; omega)
   try simp only [sps] at s7
   refine .exit ?_
   refine v7 _ _ (.region ?_)
   obtain rfl : g = ss.length := by omega
   obtain rfl := p4
   refine .q rfl (.fieldAddr fo_27_4_B rfl) ?_
   refine .q rfl (.load on_25_B rfl (by first | assumption | exact Mem.of_get b 4 _ rfl)) ?_
   refine .mv rfl ?_
   refine .R rfl (.litA rfl sl_25_B ze_24_Hj rfl rfl rfl rfl) ?_
   rintro _ H129 ⟨g129, rfl, d3, ge129, l9⟩
   have nx_H129 := d3.1
   replace p := p.trans d3
   replace b2 := b2.le d3
   replace rk := rk.le d3
   replace a2 := d3.2 _ _ a2
   replace l := d3.2 _ _ l
   replace o := d3.2 _ _ o
   replace n := d3.2 _ _ n
   replace v := d3.2 _ _ v
   replace a9 := d3.2 _ _ a9
   replace b := d3.2 _ _ b
   replace b6 := d3.2 _ _ b6
   have lt_at129 := GHeap.ltg l9
   replace hin := e.mono p
   clear d
   have d : MemN _ _ _ _ _ := ⟨rfl, Mem.of_get m⟩
   refine .R rfl (.appendV rfl sl_25_B ze_24_Hj rfl by_24_Hj sl_25_B rfl rfl (by assumption) (by assumption) (by first | omega | (simp <;> omega)) rfl rfl (by omega) (by omega)) ?_
   rintro _ H130 ⟨t4, rfl, d4, ge130, o3⟩
   have nx_H130 := d4.nx
   replace p := p.st d4 (fun k hk => ⟨by omega, trivial⟩)
   replace b2 := b2.sP d4
   replace rk := rk.sP d4
   have i8 : NE g2 gLC := ⟨k4.ne i9.ne (by omega)⟩
   replace a2 := d4.s a2 i8.ne
   replace l := d4.same _ _ ⟨(k4.ne (Ne.symm d2.ne) (by omega)), trivial⟩ l
   replace o := d4.same _ _ ⟨(k4.ne (Ne.symm c2.ne) (by omega)), trivial⟩ o
   replace n := d4.same _ _ ⟨(k4.ne (Ne.symm b9.ne) (by omega)), trivial⟩ n
   replace v := d4.same _ _ ⟨(k4.ne (Ne.symm d0.ne) (by omega)), trivial⟩ v
   replace b := d4.same _ _ ⟨(Ne.symm r7), trivial⟩ b
   have b1 : NE gLC a7 := ⟨t.ne d1.ne (by omega)⟩
   replace b6 := d4.s b6 (Ne.symm b1.ne)
   replace l9 := d4.s l9
   have lt_at130 := GHeap.ltg o3
   replace hin := e.mono p
   clear d
   have d : MemN _ _ _ _ _ := ⟨rfl, Mem.of_get m⟩
   refine .q rfl (.fieldAddr fo_27_4_B rfl) ?_
   refine .r0 rfl rfl (.storeR rfl sz_25_Ch rfl rfl rfl (by assumption) (by first | exact Nat.le_of_ble_eq_true rfl | (simp; done) | (simp <;> omega))) ?_
   rintro _ H31006 ⟨rfl, a5, m6⟩
   have nx_H31006 := a5.nx
   replace p := p.st a5 (fun k hk => ⟨by omega, trivial⟩)
   replace b2 := b2.sA a5
   replace rk := rk.sA a5
   replace a2 := a5.s a2 a4.ne
   replace l := a5.same _ _ ⟨j4, trivial⟩ l
   replace o := a5.same _ _ ⟨m3, trivial⟩ o
   replace n := a5.same _ _ ⟨m2, trivial⟩ n
   replace v := a5.same _ _ ⟨o4, trivial⟩ v
   have c3 : NE g5 a7 := ⟨t.ne e3.ne (by omega)⟩
   replace b6 := a5.s b6 (Ne.symm c3.ne)
   replace l9 := a5.s l9
   replace o3 := a5.s o3
   have lt_at31006 := GHeap.ltg m6
   replace hin := e.mono p
   clear d
   have d : MemN _ _ _ _ _ := ⟨rfl, Mem.of_get m⟩
   try simp only [Nat.zero_add, List.set_cons_succ, List.set_cons_zero] at m6
   refine .nil (w9 _ _ (.region (.mv rfl ?_)))
   refine .q rfl (.add rfl rfl rfl (by omega) (by omega)) ?_
   refine .mv rfl (.nil ?_)
   refine u8 ((f + 1, upd rr cs.length (some ⟨a7, 0, none⟩), cs ++ [row], t4)) _ _ ?_ ?_ ⟨rfl, rfl, rfl, rfl, trivial⟩
   ·
    refine ⟨b2, by first | assumption | (rw [slsL_snoc]; assumption), by first | assumption | exact ⟨.inr (by omega)⟩ | exact ⟨.inl rfl⟩, by first | assumption | (rw [slsL_snoc]; assumption), by first | assumption | omega, ?_⟩
    have hR' := hR.st rk (.cons (hR.neT hatC rfl) (.cons (hR.lowNe (by omega)) (.nil _ _)))
    have hQ' := hQ.st rk (.cons (hQ.neT hatC rfl) (.cons (hQ.lowNe (by omega)) (.nil _ _)))
    have z1 := hQ.ne (g := a7) (t.ge (by omega) (by omega))
    have b11 : e7.next ≤ a7 := t.ge (by omega) (by omega)
    have hx1 : a7 ≠ gLF := t.ne' (by omega) (by omega)
    have hx2 : a7 ≠ gLT := t.ne' (by omega) (by omega)
    have hx3 : a7 ≠ gLI := t.ne' (by omega) (by omega)
    exact ⟨⟨by omega, by simp; omega⟩, hC.snoc (by omega) hB, hCT.snoc (by rw [hcl]; exact hCR), hR', hQ'.snoc2 (by assumption) z1 (by omega), ne_snoc x3 (by omega), ne_snoc x7 (by omega), ne_snoc s6 (by omega)⟩
   (dsimp only; omega)
  simp only [sps] at u4
  refine .exit ?_
  refine s8 _ _ (.seq (fun K38 v0 => .region ?_))
  refine .q rfl (.loadM ag_27_Hj rfl ⟨rfl, Mem.of_get b⟩) ?_
  refine .r0 rfl rfl (.fillA rfl sz_27_D rfl rfl rfl rfl) ?_
  rintro _ H32001 ⟨rfl, b4, l5⟩
  have nx_H32001 := b4.nx
  replace p := p.st b4 (fun k hk => ⟨by omega, trivial⟩)
  have j0 : NE g2 i0 := ⟨j8.ne i7.ne (by omega)⟩
  replace l := b4.s l (Ne.symm j0.ne)
  have e4 : NE g2 gLF := ⟨e8.ne i1.ne (by omega)⟩
  replace o := b4.s o (Ne.symm e4.ne)
  have e2 : NE g2 gLT := ⟨f0.ne j1.ne (by omega)⟩
  replace n := b4.s n (Ne.symm e2.ne)
  have i6 : NE g2 gLI := ⟨e9.ne h9.ne (by omega)⟩
  replace v := b4.s v (Ne.symm i6.ne)
  have i8 : NE g2 gLC := ⟨k4.ne i9.ne (by omega)⟩
  replace a9 := b4.s a9 (Ne.symm i8.ne)
  replace b := b4.s b (Ne.symm a4.ne)
  have lt_at32001 := GHeap.ltg l5
  replace hin := e.mono p
  clear d
  have d : MemN _ _ _ _ _ := ⟨rfl, Mem.of_get m⟩
  have mm32001 : MemN _ _ _ _ _ := ⟨rfl, Mem.of_get l5⟩
  refine .nil (v0 _ _ ?_)
  refine .ret ?_
  refine t5 _ _ ?_
  refine ⟨_, _, _, _, rfl, ag_27_Hj, (by rfl), (Mem.of_get l5), ?_⟩
  obtain rfl : f = ss.length := by omega
  have hx4 : gLF ≠ gLI := e9.ne (e8.ne' (by omega) (by omega)) (by omega)
  have hx5 : gLT ≠ gLI := e9.ne (f0.ne' (by omega) (by omega)) (by omega)
  exact ⟨⟨rel.length, ss, ts, is, cs⟩, ⟨⟨rect_mk (by omega) (by omega) hts (hS.mono (by omega) (by omega)) (hT.mono (by omega) (by omega)) (by omega) x6 (by omega) (hC.mono (by omega) (by omega)), .mk' hts hS hT (by omega) hId (by omega) (fun f hf => (hC f hf).1) hCT⟩, rfl⟩, p, gLF, gLT, gLI, gLC, rr, by simp [Cat.cells, ownP, hts, hxl, hcl], ⟨o, n, v, a9, by omega, by omega, by omega, by omega, by omega, by omega, by omega, (hQ.st b4 (.cons (hQ.lowNe (by omega)) (.nil _ _))).low (by omega), x3, x7, s6⟩⟩
end Go.Proofs.Ytfanjkbaemhbmaa
namespace Go.Proofs.Ytfanjkbaemhbmaa
open Go Go.GL Go.RowKit Go.Proofs
set_option maxHeartbeats 8000000 in
theorem l02FamilyG_c {gS : Nat} {H : GHeap} (hs : DSrc 86 H gS := by assumption) :
    GCalls Try.prog 102 [.pointer (some ⟨gS, 0, none⟩)] H (DrawnG 86 128 gS H) := by
  have hlS := hs.lt
  refine GCalls.body (N := 141) (rs := [.cell 2 27]) Try.func102 rfl rfl rfl rfl (fun Qx b9 hend => ?_)
  refine .fg [0] rfl ?_
  have b := St.refl [gS] H
  refine .seq (fun K1 dQ => .region ?_)
  refine .R rfl (.allocR rfl ze_27_Hj rfl) ?_
  rintro _ H2 ⟨g2, rfl, x4, ge2, c⟩
  have nx_H2 := x4.1
  replace b := b.le x4
  have lt_at2 := GHeap.ltg c
  refine .nil (dQ _ _ (.seq (fun K2 eG => .seq (fun K3 eO => .region (.mv rfl ?_)))))
  refine .call rfl rfl rfl rfl @Try.call30 rfl (l01Next_c (hs.le x4)) ?_
  rintro _ cV ⟨k14, rfl, ka14, kb14, kc14, p0, hs⟩
  have nx_H14 := p0.nx
  replace b := b.sA p0
  have d : NE g2 gS := .a
  replace c := p0.s c d.ne
  refine .nil (eO _ _ ?_)
  refine .block ?_
  refine .seq (fun K4 dY => .region (.q rfl (.cmp rfl rfl rfl) (.mv rfl (.nil (dY _ _ ?_)))))
  refine .cond rfl (fun x1 => ?_) (fun x1 => ?_)
  ·
   try simp only [sps] at x1
   refine .seq (fun K5 eC => .region (.mv rfl (.mv rfl ?_)))
   refine .call rfl rfl rfl rfl @Try.call30 rfl (l01Next_c) ?_
   rintro _ H19 ⟨cD, rfl, ka19, kb19, kc19, q9, hs⟩
   have nx_H19 := q9.nx
   replace b := b.sA q9
   replace c := q9.s c d.ne
   obtain ⟨n, rfl⟩ : ∃ n : Nat, cD = (n : Int) := ⟨cD.toNat, by omega⟩
   have hn5 : n < 5 := by omega
   refine .call rfl rfl rfl rfl @Try.call32 rfl (l02RelationG_c (n := n) (hn := by omega)) ?_
   rintro _ dM ⟨a20, T20, r20, rfl, dL, w4, u5, aO, q6, hs⟩
   have nx_H20 := q6.nx
   replace b := b.sA q6
   replace c := q6.s c d.ne
   refine .call rfl rfl rfl rfl @Try.call31 rfl (l03PosetG_c (hin := dL.intss) (hn := by omega) (hr := u5) (hRT := by rw [w4]; exact aO)) ?_
   rintro _ bZ ⟨cU, ⟨aB, oc21⟩, n4, ga21, gb21, gc21, gd21, rr21, rfl, cS⟩
   have r9 := cS.catR
   have nx_H21 := n4.1
   replace b := b.le n4
   replace hs := hs.le n4
   replace c := n4.2 _ _ c
   have q2 := r9
   have i2 : Keep dM.next bZ bZ := fun _ _ _ h => h
   have cF := r9.inn
   refine .r0 rfl rfl (.fillA rfl sz_27_D rfl rfl rfl rfl) ?_
   rintro _ H3005 ⟨rfl, f2, i5⟩
   have nx_H3005 := f2.nx
   replace b := b.sA f2
   replace hs := hs.sA f2
   replace i2 := Keep.st i2 f2 (fun k hb hk => ⟨(by omega), trivial⟩)
   replace r9 := q2.keep i2 (Nat.le_refl _)
   have lt_at3005 := GHeap.ltg i5
   clear cF
   have cF := r9.inn
   have mm3005 : MemN _ _ _ _ _ := ⟨rfl, Mem.of_get i5⟩
   refine .nil (eC _ _ ?_)
   refine .ret ?_
   refine b9 _ _ ?_
   refine ⟨_, _, _, _, rfl, ag_27_Hj, (by rfl), (Mem.of_get i5), ?_⟩
   exact ⟨cU, _, rfl, aB.mono (by omega), r9.keep (.of_le (.refl _)) (by omega), b, hs⟩
  try simp only [sps] at x1
  refine .seq (fun K6 dR => .region (.q rfl (.cmp rfl rfl rfl) (.mv rfl (.nil (dR _ _ ?_)))))
  refine .cond rfl (fun aU => ?_) (fun aU => ?_)
  ·
   try simp only [sps] at aU
   refine .seq (fun K7 eL => .region ?_)
   refine .R rfl (.litA rfl sl_24_A ze_2_N rfl rfl rfl rfl) ?_
   rintro _ H24 ⟨cX, rfl, n9, ge24, d7⟩
   have nx_H24 := n9.1
   replace b := b.le n9
   replace hs := hs.le n9
   replace c := n9.2 _ _ c
   have lt_at24 := GHeap.ltg d7
   refine .R rfl (.litA rfl sl_24_A ze_2_N rfl rfl rfl rfl) ?_
   rintro _ H25 ⟨eP, rfl, l5, ge25, g5⟩
   have nx_H25 := l5.1
   replace b := b.le l5
   replace hs := hs.le l5
   replace c := l5.2 _ _ c
   replace d7 := l5.2 _ _ d7
   have lt_at25 := GHeap.ltg g5
   refine .R rfl (.litA rfl sl_25_B ze_24_Hj rfl rfl rfl rfl) ?_
   rintro _ eB ⟨g26, rfl, k0, ge26, k7⟩
   have nx_H26 := k0.1
   replace b := b.le k0
   replace hs := hs.le k0
   replace c := k0.2 _ _ c
   replace d7 := k0.2 _ _ d7
   replace g5 := k0.2 _ _ g5
   have lt_at26 := GHeap.ltg k7
   refine .call rfl rfl rfl rfl @Try.call31 rfl ((by have hh := l03PosetG_c (rel := [[1, 1], [0, 1]]) (hin := ((lit_own (gs := [cX, eP]) (by simp only [LitAt]; exact ⟨⟨Nat.zero_le _, d7⟩, ⟨Nat.zero_le _, g5⟩, trivial⟩) (by simp <;> omega)).done (by exact k7) (Nat.zero_le _)).intss) (hn := by decide) (hr := by decide) (hRT := .dec (by decide) (by decide)); exact hh)) ?_
   rintro _ cA ⟨eR, ⟨aX, oc27⟩, i0, ga27, gb27, gc27, gd27, rr27, rfl, eI⟩
   have s0 := eI.catR
   have nx_H27 := i0.1
   replace b := b.le i0
   replace hs := hs.le i0
   replace c := i0.2 _ _ c
   replace d7 := i0.2 _ _ d7
   replace g5 := i0.2 _ _ g5
   replace k7 := i0.2 _ _ k7
   have q7 := s0
   have h7 : Keep eB.next cA cA := fun _ _ _ h => h
   have bX := s0.inn
   refine .r0 rfl rfl (.fillA rfl sz_27_D rfl rfl rfl rfl) ?_
   rintro _ H5004 ⟨rfl, a2, h8⟩
   have nx_H5004 := a2.nx
   replace b := b.sA a2
   replace hs := hs.sA a2
   replace d7 := a2.s d7
   replace g5 := a2.s g5
   replace k7 := a2.s k7
   replace h7 := Keep.st h7 a2 (fun k hb hk => ⟨(by omega), trivial⟩)
   replace s0 := q7.keep h7 (Nat.le_refl _)
   have lt_at5004 := GHeap.ltg h8
   clear bX
   have bX := s0.inn
   have mm5004 : MemN _ _ _ _ _ := ⟨rfl, Mem.of_get h8⟩
   refine .nil (eL _ _ ?_)
   refine .ret ?_
   refine b9 _ _ ?_
   refine ⟨_, _, _, _, rfl, ag_27_Hj, (by rfl), (Mem.of_get h8), ?_⟩
   exact ⟨eR, _, rfl, aX.mono (by decide), s0.keep (.of_le (.refl _)) (by omega), b, hs⟩
  try simp only [sps] at aU
  refine .seq (fun K8 dF => .region (.q rfl (.cmp rfl rfl rfl) (.mv rfl (.nil (dF _ _ ?_)))))
  refine .cond rfl (fun x9 => ?_) (fun x9 => ?_)
  ·
   try simp only [sps] at x9
   refine .seq (fun K9 dP => .region ?_)
   refine .R rfl (.litA rfl sl_24_A ze_2_N rfl rfl rfl rfl) ?_
   rintro _ H30 ⟨dH, rfl, n3, ge30, c2⟩
   have nx_H30 := n3.1
   replace b := b.le n3
   replace hs := hs.le n3
   replace c := n3.2 _ _ c
   have lt_at30 := GHeap.ltg c2
   refine .R rfl (.litA rfl sl_24_A ze_2_N rfl rfl rfl rfl) ?_
   rintro _ H31 ⟨dA, rfl, m8, ge31, d6⟩
   have nx_H31 := m8.1
   replace b := b.le m8
   replace hs := hs.le m8
   replace c := m8.2 _ _ c
   replace c2 := m8.2 _ _ c2
   have lt_at31 := GHeap.ltg d6
   refine .R rfl (.litA rfl sl_24_A ze_2_N rfl rfl rfl rfl) ?_
   rintro _ H32 ⟨dG, rfl, j7, ge32, f9⟩
   have nx_H32 := j7.1
   replace b := b.le j7
   replace hs := hs.le j7
   replace c := j7.2 _ _ c
   replace c2 := j7.2 _ _ c2
   replace d6 := j7.2 _ _ d6
   have lt_at32 := GHeap.ltg f9
   refine .R rfl (.litA rfl sl_25_B ze_24_Hj rfl rfl rfl rfl) ?_
   rintro _ dZ ⟨g33, rfl, j1, ge33, k6⟩
   have nx_H33 := j1.1
   replace b := b.le j1
   replace hs := hs.le j1
   replace c := j1.2 _ _ c
   replace c2 := j1.2 _ _ c2
   replace d6 := j1.2 _ _ d6
   replace f9 := j1.2 _ _ f9
   have lt_at33 := GHeap.ltg k6
   refine .call rfl rfl rfl rfl @Try.call31 rfl ((by have hh := l03PosetG_c (rel := [[1, 1, 1], [0, 1, 0], [0, 0, 1]]) (hin := ((lit_own (gs := [dH, dA, dG]) (by simp only [LitAt]; exact ⟨⟨Nat.zero_le _, c2⟩, ⟨Nat.zero_le _, d6⟩, ⟨Nat.zero_le _, f9⟩, trivial⟩) (by simp <;> omega)).done (by exact k6) (Nat.zero_le _)).intss) (hn := by decide) (hr := by decide) (hRT := .dec (by decide) (by decide)); exact hh)) ?_
   rintro _ cO ⟨eV, ⟨aR, oc34⟩, g6, ga34, gb34, gc34, gd34, rr34, rfl, cY⟩
   have t4 := cY.catR
   have nx_H34 := g6.1
   replace b := b.le g6
   replace hs := hs.le g6
   replace c := g6.2 _ _ c
   replace c2 := g6.2 _ _ c2
   replace d6 := g6.2 _ _ d6
   replace f9 := g6.2 _ _ f9
   replace k6 := g6.2 _ _ k6
   have p6 := t4
   have h9 : Keep dZ.next cO cO := fun _ _ _ h => h
   have bW := t4.inn
   refine .r0 rfl rfl (.fillA rfl sz_27_D rfl rfl rfl rfl) ?_
   rintro _ H7005 ⟨rfl, x, i4⟩
   have nx_H7005 := x.nx
   replace b := b.sA x
   replace hs := hs.sA x
   replace c2 := x.s c2
   replace d6 := x.s d6
   replace f9 := x.s f9
   replace k6 := x.s k6
   replace h9 := Keep.st h9 x (fun k hb hk => ⟨(by omega), trivial⟩)
   replace t4 := p6.keep h9 (Nat.le_refl _)
   have lt_at7005 := GHeap.ltg i4
   clear bW
   have bW := t4.inn
   have mm7005 : MemN _ _ _ _ _ := ⟨rfl, Mem.of_get i4⟩
   refine .nil (dP _ _ ?_)
   refine .ret ?_
   refine b9 _ _ ?_
   refine ⟨_, _, _, _, rfl, ag_27_Hj, (by rfl), (Mem.of_get i4), ?_⟩
   exact ⟨eV, _, rfl, aR.mono (by decide), t4.keep (.of_le (.refl _)) (by omega), b, hs⟩
  try simp only [sps] at x9
  refine .seq (fun K10 bB => .region (.q rfl (.cmp rfl rfl rfl) (.mv rfl (.nil (bB _ _ ?_)))))
  refine .cond rfl (fun bQ => ?_) (fun bQ => ?_)
  ·
   try simp only [sps] at bQ
   refine .seq (fun K11 z1 => .region ?_)
   refine .R rfl (.litA rfl sl_24_A ze_2_N rfl rfl rfl rfl) ?_
   rintro _ H37 ⟨g37, rfl, n5, ge37, g3⟩
   have nx_H37 := n5.1
   replace b := b.le n5
   replace hs := hs.le n5
   replace c := n5.2 _ _ c
   have lt_at37 := GHeap.ltg g3
   refine .R rfl (.litA rfl sl_24_A ze_2_N rfl rfl rfl rfl) ?_
   rintro _ cT ⟨g38, rfl, l8, ge38, k3⟩
   have nx_H38 := l8.1
   replace b := b.le l8
   replace hs := hs.le l8
   replace c := l8.2 _ _ c
   replace g3 := l8.2 _ _ g3
   have lt_at38 := GHeap.ltg k3
   refine .call rfl rfl rfl rfl @Try.call121 rfl ((by have hh := l03PathsG_c (n := 2) (xs := [0, 0]) (ys := [1, 1]) (ha := Ints.of_get g3) (hb := Ints.of_get k3) (hl := rfl) (hx := by decide) (hn := by decide) (hy := by unfold Bd; decide) (hup := by decide); exact hh)) ?_
   rintro _ cE ⟨eN, ⟨v5, oc39⟩, j8, ga39, gb39, gc39, gd39, rr39, rfl, dX⟩
   have t1 := dX.catR
   have nx_H39 := j8.1
   replace b := b.le j8
   replace hs := hs.le j8
   replace c := j8.2 _ _ c
   replace g3 := j8.2 _ _ g3
   replace k3 := j8.2 _ _ k3
   have q3 := t1
   have i1 : Keep cT.next cE cE := fun _ _ _ h => h
   have cC := t1.inn
   refine .r0 rfl rfl (.fillA rfl sz_27_D rfl rfl rfl rfl) ?_
   rintro _ H9003 ⟨rfl, b1, i6⟩
   have nx_H9003 := b1.nx
   replace b := b.sA b1
   replace hs := hs.sA b1
   replace g3 := b1.s g3
   replace k3 := b1.s k3
   replace i1 := Keep.st i1 b1 (fun k hb hk => ⟨(by omega), trivial⟩)
   replace t1 := q3.keep i1 (Nat.le_refl _)
   have lt_at9003 := GHeap.ltg i6
   clear cC
   have cC := t1.inn
   have mm9003 : MemN _ _ _ _ _ := ⟨rfl, Mem.of_get i6⟩
   refine .nil (z1 _ _ ?_)
   refine .ret ?_
   refine b9 _ _ ?_
   refine ⟨_, _, _, _, rfl, ag_27_Hj, (by rfl), (Mem.of_get i6), ?_⟩
   exact ⟨eN, _, rfl, v5.mono (by omega), t1.keep (.of_le (.refl _)) (by omega), b, hs⟩
  try simp only [sps] at bQ
  refine .seq (fun K12 u7 => .region (.q rfl (.cmp rfl rfl rfl) (.mv rfl (.nil (u7 _ _ ?_)))))
  refine .cond rfl (fun bA => ?_) (fun bA => ?_)
  ·
   try simp only [sps] at bA
   refine .seq (fun K13 v8 => .region (.mv rfl ?_))
   refine .call rfl rfl rfl rfl @Try.call123 rfl (l02MonoidG_c) ?_
   rintro _ dB ⟨a43, T43, r43, rfl, eS, aT, aG, o8, hs⟩
   have nx_H43 := o8.nx
   replace b := b.sA o8
   replace c := o8.s c d.ne
   refine .call rfl rfl rfl rfl @Try.call122 rfl (l03MonoidG_c (hin := eS.intss) (hn := aT) (ht := aG)) ?_
   rintro _ cG ⟨eH, ⟨bI, oc44⟩, o3, ga44, gb44, gc44, gd44, rr44, rfl, dD⟩
   have t9 := dD.catR
   have nx_H44 := o3.1
   replace b := b.le o3
   replace hs := hs.le o3
   replace c := o3.2 _ _ c
   have p7 := t9
   have i9 : Keep dB.next cG cG := fun _ _ _ h => h
   have cP := t9.inn
   refine .r0 rfl rfl (.fillA rfl sz_27_D rfl rfl rfl rfl) ?_
   rintro _ H11003 ⟨rfl, c4, e8⟩
   have nx_H11003 := c4.nx
   replace b := b.sA c4
   replace hs := hs.sA c4
   replace i9 := Keep.st i9 c4 (fun k hb hk => ⟨(by omega), trivial⟩)
   replace t9 := p7.keep i9 (Nat.le_refl _)
   have lt_at11003 := GHeap.ltg e8
   clear cP
   have cP := t9.inn
   have mm11003 : MemN _ _ _ _ _ := ⟨rfl, Mem.of_get e8⟩
   refine .nil (v8 _ _ ?_)
   refine .ret ?_
   refine b9 _ _ ?_
   refine ⟨_, _, _, _, rfl, ag_27_Hj, (by rfl), (Mem.of_get e8), ?_⟩
   exact ⟨eH, _, rfl, bI.mono (by omega), t9.keep (.of_le (.refl _)) (by omega), b, hs⟩
  try simp only [sps] at bA
  refine .seq (fun K14 bH => .region (.q rfl (.cmp rfl rfl rfl) (.mv rfl (.nil (bH _ _ ?_)))))
  refine .cond rfl (fun w9 => ?_) (fun w9 => ?_)
  ·
   try simp only [sps] at w9
   refine .seq (fun K15 x6 => .region (.mv rfl ?_))
   refine .call rfl rfl rfl rfl @Try.call30 rfl (l01Next_c) ?_
   rintro _ H48 ⟨cN, rfl, ka48, kb48, kc48, p5, hs⟩
   have nx_H48 := p5.nx
   replace b := b.sA p5
   replace c := p5.s c d.ne
   obtain ⟨n, hn⟩ : ∃ n : Nat, (n : Int) = 1 + cN := ⟨(1 + cN).toNat, by omega⟩
   refine .q rfl (.add (r := (n : Int)) rfl rfl (by omega) (by omega) (by omega)) ?_
   refine .mv rfl (.nil (x6 _ _ (.seq (fun K16 y4 => .region ?_))))
   refine .R rfl (.litA rfl sl_25_B ze_24_Hj rfl rfl rfl rfl) ?_
   rintro _ cM ⟨aC, rfl, o4, ge50, q8⟩
   have nx_H50 := o4.1
   replace b := b.le o4
   replace hs := hs.le o4
   replace c := o4.2 _ _ c
   have lt_at50 := GHeap.ltg q8
   refine .mv rfl (.nil (y4 _ _ (.seq (fun K17 aY => .seq (fun K18 y9 => .region (.mv rfl (.nil (y9 _ _ ?_))))))))
   refine .block ?_
   refine .loopR (σ := Nat × (Nat → Option Addr) × List (List Int) × Nat × Nat) [(2, some _), (3, some _)] (fun (i, rr, T, j5, n8) => [(5, some (.int .i64 (i : Int))), (4, some (.slice (some ⟨j5, 0, none⟩) n8 n8))]) (fun (i, rr, T, j5, n8) H' => St [aC] cM H' ∧ H'.get j5 = some (.row ((slsL rr T)) 24 true) ∧ PL j5 aC cM.next ∧ n8 = (slsL rr T).length ∧ (i ≤ n ∧ T.length = i) ∧ Tb 1 1 n T ∧ OwnL H.next H' 2 rr T) (fun (i, rr, T, j5, n8) => n - i) ((0, fun _ => none, [], _, _)) ⟨rfl, rfl, trivial⟩ ⟨rfl, rfl, trivial⟩ ?_ ?_
   ·
    refine ⟨.refl _ _, by first | assumption | exact q8 | simpa using q8, ⟨.inl rfl⟩, by first | rfl | assumption | simp | omega, ?_⟩
    exact ⟨⟨by omega, rfl⟩, .nil _ _ _, .nil _ _ _ _⟩
   rintro ⟨i, rr, T, j5, n8⟩ HL1 ⟨w, o, l9, ln_L4, hI⟩ KL1 aD
   refine .forget (fr' := [(5, some (.int .i64 (i : Int))), (4, some (.slice (some ⟨j5, 0, none⟩) n8 n8)), (2, some _), (3, some _)]) ⟨rfl, rfl, rfl, rfl, trivial⟩ ?_
   have nx_HL1 := w.nx
   replace b := b.sA w
   replace hs := hs.sA w
   have b5 : NE g2 aC := .a
   replace c := w.s c b5.ne
   have lt_at_L4 := GHeap.ltg o
   have rk := St.refl [j5] HL1
   obtain ⟨⟨hi, hTl⟩, hT, hR⟩ := hI
   have aL := o
   have hfl : (slsL rr T).length = T.length := length_slsL _ _
   refine .seq (fun K19 x0 => .seq (fun K20 v4 => .region (.mv rfl (.mv rfl (.q rfl (.cmp rfl rfl rfl) (.nil (v4 _ _ ?_)))))))
   refine .cond rfl (fun y7 => ?_) (fun y7 => ?_)
   ·
    simp only [sps] at y7
    refine .skip ?_
    refine x0 _ _ (.seq (fun K21 y0 => ?_))
    refine .block ?_
    refine .seq (fun K22 x2 => .region ?_)
    refine .R rfl (.litA rfl sl_24_A ze_2_N rfl rfl rfl rfl) ?_
    rintro _ z6 ⟨s5, rfl, h3, ge56, l2⟩
    have nx_H56 := h3.1
    replace b := b.le h3
    replace hs := hs.le h3
    replace w := w.le h3
    replace rk := rk.le h3
    replace c := h3.2 _ _ c
    replace o := h3.2 _ _ o
    have lt_at56 := GHeap.ltg l2
    replace l2 : GHeap.get z6 s5 = some (.row (ints []) 2 true) := l2
    refine .mv rfl (.nil (x2 _ _ (.seq (fun K23 bE => .seq (fun K24 z8 => .region (.mv rfl (.nil (z8 _ _ ?_))))))))
    refine .block ?_
    refine .loopR (σ := Nat × List Int × Nat × Nat) [(2, some _), (3, some _), (4, some _), (5, some _)] (fun (j, row, m9, o7) => [(7, some (.int .i64 (j : Int))), (6, some (.slice (some ⟨m9, 0, none⟩) o7 o7))]) (fun (j, row, m9, o7) H' => St [s5] z6 H' ∧ H'.get m9 = some (.row (ints row) 2 true) ∧ PL m9 s5 z6.next ∧ o7 = row.length ∧ (j ≤ n ∧ row.length = j) ∧ Bd 1 1 row) (fun (j, row, m9, o7) => n - j) ((0, [], _, _)) ⟨rfl, rfl, rfl, rfl, trivial⟩ ⟨rfl, rfl, trivial⟩ ?_ ?_
    ·
     refine ⟨.refl _ _, by first | assumption | exact l2 | simpa using l2, ⟨.inl rfl⟩, by first | rfl | assumption | simp | omega, ?_⟩
     exact ⟨⟨by omega, rfl⟩, .nil _ _⟩
    rintro ⟨j, row, m9, o7⟩ HL2 ⟨c3, c8, h0, r7, hI⟩ KL2 aQ
    refine .forget (fr' := [(7, some (.int .i64 (j : Int))), (6, some (.slice (some ⟨m9, 0, none⟩) o7 o7)), (2, some _), (3, some _), (4, some _), (5, some _)]) ⟨rfl, rfl, rfl, rfl, rfl, rfl, trivial⟩ ?_
    have nx_HL2 := c3.nx
    replace b := b.sA c3
    replace hs := hs.sA c3
    replace w := w.sA c3
    replace rk := rk.sA c3
    have e0 : NE g2 s5 := .a
    replace c := c3.s c e0.ne
    have a4 : NE j5 s5 := .a
    replace o := c3.s o a4.ne
    have lt_at_L6 := GHeap.ltg c8
    obtain ⟨⟨hj, hrl⟩, hW⟩ := hI
    refine .seq (fun K25 bJ => .seq (fun K26 w3 => .region (.mv rfl (.mv rfl (.q rfl (.cmp rfl rfl rfl) (.nil (w3 _ _ ?_)))))))
    refine .cond rfl (fun v3 => ?_) (fun v3 => ?_)
    ·
     simp only [sps] at v3
     refine .skip ?_
     refine bJ _ _ (.seq (fun K27 z0 => ?_))
     refine .block ?_
     refine .region (.mv rfl ?_)
     refine .R rfl (.litA rfl sl_24_A ze_2_N rfl rfl rfl rfl) ?_
     rintro _ H63 ⟨g63, rfl, e7, ge63, q5⟩
     have nx_H63 := e7.1
     replace b := b.le e7
     replace hs := hs.le e7
     replace w := w.le e7
     replace rk := rk.le e7
     replace c3 := c3.le e7
     replace c := e7.2 _ _ c
     replace o := e7.2 _ _ o
     replace c8 := e7.2 _ _ c8
     have lt_at63 := GHeap.ltg q5
     refine .R rfl (.appendI rfl sl_24_A ze_2_N rfl by_2_N sl_24_A rfl rfl (by assumption) (by assumption) (by first | omega | (simp <;> omega)) (by omega) (by omega)) ?_
     rintro _ H64 ⟨g64, rfl, e4, ge64, y1⟩
     have nx_H64 := e4.nx
     replace b := b.sP e4
     replace hs := hs.sP e4
     replace w := w.sP e4
     replace rk := rk.sP e4
     replace c3 := c3.sP e4
     replace c := e4.same _ _ ⟨(h0.ne e0.ne (by omega)), trivial⟩ c
     have a1 : NE j5 m9 := ⟨h0.ne a4.ne (by omega)⟩
     replace o := e4.s o a1.ne
     replace q5 := e4.s q5
     have lt_at64 := GHeap.ltg y1
     refine .mv rfl (.nil (z0 _ _ (.region (.mv rfl ?_))))
     refine .q rfl (.add rfl rfl rfl (by omega) (by omega)) ?_
     refine .mv rfl (.nil ?_)
     refine aQ ((j + 1, row ++ [1], _, _)) _ _ ?_ ?_ ⟨rfl, rfl, rfl, rfl, rfl, rfl, trivial⟩
     ·
      refine ⟨c3, by assumption, by first | assumption | exact ⟨.inr (by omega)⟩ | exact ⟨.inl rfl⟩, by first | omega | (simp only [List.length_append, List.length_cons, List.length_nil] <;> omega), ?_⟩
      exact ⟨⟨by omega, by simp; omega⟩, hW.snoc (by omega) (by omega)⟩
     (dsimp only; omega)
    try simp only [sps] at v3
    refine .exit ?_
    refine bE _ _ (.region ?_)
    obtain rfl : j = n := by omega
    obtain rfl := r7
    refine .mv rfl (.mv rfl ?_)
    refine .R rfl (.litA rfl sl_25_B ze_24_Hj rfl rfl rfl rfl) ?_
    rintro _ H67 ⟨g67, rfl, g8, ge67, p1⟩
    have nx_H67 := g8.1
    replace b := b.le g8
    replace hs := hs.le g8
    replace w := w.le g8
    replace rk := rk.le g8
    replace c := g8.2 _ _ c
    replace o := g8.2 _ _ o
    replace c8 := g8.2 _ _ c8
    have lt_at67 := GHeap.ltg p1
    refine .R rfl (.appendV rfl sl_25_B ze_24_Hj rfl by_24_Hj sl_25_B rfl rfl (by assumption) (by assumption) (by first | omega | (simp <;> omega)) rfl rfl (by omega) (by omega)) ?_
    rintro _ H68 ⟨g68, rfl, g0, ge68, aS⟩
    have nx_H68 := g0.nx
    replace b := b.sP g0
    replace hs := hs.sP g0
    replace w := w.sP g0
    replace rk := rk.sP g0
    have b4 : NE g2 j5 := ⟨l9.ne b5.ne (by omega)⟩
    replace c := g0.s c b4.ne
    have a1 : NE j5 m9 := ⟨h0.ne a4.ne (by omega)⟩
    replace c8 := g0.s c8 (Ne.symm a1.ne)
    replace p1 := g0.s p1
    have lt_at68 := GHeap.ltg aS
    refine .mv rfl (.nil (y0 _ _ (.region (.mv rfl ?_))))
    refine .q rfl (.add rfl rfl rfl (by omega) (by omega)) ?_
    refine .mv rfl (.nil ?_)
    refine aD ((i + 1, upd rr T.length (some ⟨m9, 0, none⟩), T ++ [row], _, _)) _ _ ?_ ?_ ⟨rfl, rfl, rfl, rfl, trivial⟩
    ·
     refine ⟨w, by first | assumption | (rw [slsL_snoc]; assumption), by first | assumption | exact ⟨.inr (by omega)⟩ | exact ⟨.inl rfl⟩, by first | omega | (simp only [List.length_append, List.length_cons, List.length_nil] <;> omega) | (rw [slsL_snoc] <;> (first | omega | (simp only [List.length_append, List.length_cons, List.length_nil] <;> omega))), ?_⟩
     have hR' := hR.st rk (.cons (hR.neT aL rfl) (.nil _ _))
     exact ⟨⟨by omega, by simp; omega⟩, hT.snoc (by omega) hW, hR'.snoc2 (by assumption) (hR.ne (h0.ge (by omega) (by omega))) (h0.ge (by omega) (by omega))⟩
    (dsimp only; omega)
   try simp only [sps] at y7
   refine .exit ?_
   refine aY _ _ (.seq (fun K28 bN => .region ?_))
   obtain rfl : n8 = T.length := by omega
   refine .mv rfl ?_
   refine .call rfl rfl rfl rfl @Try.call31 rfl (l03PosetG_c (hin := (hR.done o (l9.ge (by omega) (by omega))).intss) (hn := by omega) (hr := fun i hi => by rw [(hT i hi).1]; omega) (hRT := .ones (by rw [show T.length = n by omega]; exact hT) rfl)) ?_
   rintro _ cH ⟨eT, ⟨x7, oc70⟩, l0, ga70, gb70, gc70, gd70, rr70, rfl, eQ⟩
   have t2 := eQ.catR
   have nx_H70 := l0.1
   replace b := b.le l0
   replace hs := hs.le l0
   replace c := l0.2 _ _ c
   replace o := l0.2 _ _ o
   have p3 := t2
   have i8 : Keep HL1.next cH cH := fun _ _ _ h => h
   have cQ := t2.inn
   refine .r0 rfl rfl (.fillA rfl sz_27_D rfl rfl rfl rfl) ?_
   rintro _ H24002 ⟨rfl, a7, f0⟩
   have nx_H24002 := a7.nx
   replace b := b.sA a7
   replace hs := hs.sA a7
   have b4 : NE g2 j5 := ⟨l9.ne b5.ne (by omega)⟩
   replace o := a7.s o (Ne.symm b4.ne)
   replace i8 := Keep.st i8 a7 (fun k hb hk => ⟨(by omega), trivial⟩)
   replace t2 := p3.keep i8 (Nat.le_refl _)
   have lt_at24002 := GHeap.ltg f0
   clear cQ
   have cQ := t2.inn
   have mm24002 : MemN _ _ _ _ _ := ⟨rfl, Mem.of_get f0⟩
   refine .nil (bN _ _ ?_)
   refine .ret ?_
   refine b9 _ _ ?_
   refine ⟨_, _, _, _, rfl, ag_27_Hj, (by rfl), (Mem.of_get f0), ?_⟩
   exact ⟨eT, _, rfl, x7.mono (by omega), t2.keep (.of_le (.refl _)) (by omega), b, hs⟩
  try simp only [sps] at w9
  refine .seq (fun K29 aI => .region (.q rfl (.cmp rfl rfl rfl) (.mv rfl (.nil (aI _ _ ?_)))))
  refine .cond rfl (fun z3 => ?_) (fun z3 => ?_)
  ·
   try simp only [sps] at z3
   refine .seq (fun K30 aM => .region ?_)
   refine .R rfl (.litA rfl sl_24_A ze_2_N rfl rfl rfl rfl) ?_
   rintro _ H73 ⟨g73, rfl, o2, ge73, f7⟩
   have nx_H73 := o2.1
   replace b := b.le o2
   replace hs := hs.le o2
   replace c := o2.2 _ _ c
   have lt_at73 := GHeap.ltg f7
   refine .R rfl (.litA rfl sl_24_A ze_2_N rfl rfl rfl rfl) ?_
   rintro _ cZ ⟨g74, rfl, l7, ge74, j9⟩
   have nx_H74 := l7.1
   replace b := b.le l7
   replace hs := hs.le l7
   replace c := l7.2 _ _ c
   replace f7 := l7.2 _ _ f7
   have lt_at74 := GHeap.ltg j9
   refine .call rfl rfl rfl rfl @Try.call121 rfl ((by have hh := l03PathsG_c (n := 3) (xs := [0, 1, 0]) (ys := [1, 2, 2]) (ha := Ints.of_get f7) (hb := Ints.of_get j9) (hl := rfl) (hx := by decide) (hn := by decide) (hy := by unfold Bd; decide) (hup := by decide); exact hh)) ?_
   rintro _ cB ⟨eJ, ⟨w7, oc75⟩, k5, ga75, gb75, gc75, gd75, rr75, rfl, dW⟩
   have r8 := dW.catR
   have nx_H75 := k5.1
   replace b := b.le k5
   replace hs := hs.le k5
   replace c := k5.2 _ _ c
   replace f7 := k5.2 _ _ f7
   replace j9 := k5.2 _ _ j9
   have o9 := r8
   have i7 : Keep cZ.next cB cB := fun _ _ _ h => h
   have bV := r8.inn
   refine .r0 rfl rfl (.fillA rfl sz_27_D rfl rfl rfl rfl) ?_
   rintro _ H26003 ⟨rfl, y, f6⟩
   have nx_H26003 := y.nx
   replace b := b.sA y
   replace hs := hs.sA y
   replace f7 := y.s f7
   replace j9 := y.s j9
   replace i7 := Keep.st i7 y (fun k hb hk => ⟨(by omega), trivial⟩)
   replace r8 := o9.keep i7 (Nat.le_refl _)
   have lt_at26003 := GHeap.ltg f6
   clear bV
   have bV := r8.inn
   have mm26003 : MemN _ _ _ _ _ := ⟨rfl, Mem.of_get f6⟩
   refine .nil (aM _ _ ?_)
   refine .ret ?_
   refine b9 _ _ ?_
   refine ⟨_, _, _, _, rfl, ag_27_Hj, (by rfl), (Mem.of_get f6), ?_⟩
   exact ⟨eJ, _, rfl, w7.mono (by omega), r8.keep (.of_le (.refl _)) (by omega), b, hs⟩
  try simp only [sps] at z3
  refine .seq (fun K31 bL => .region (.q rfl (.cmp rfl rfl rfl) (.mv rfl (.nil (bL _ _ ?_)))))
  refine .cond rfl (fun u9 => ?_) (fun u9 => ?_)
  ·
   try simp only [sps] at u9
   refine .seq (fun K32 z9 => .region ?_)
   refine .call rfl rfl rfl rfl @Try.call124 rfl (l02SplitG_c) ?_
   rintro _ bS ⟨dV, ⟨aA, oc78⟩, o0, ga78, gb78, gc78, gd78, rr78, rfl, dC⟩
   have r5 := dC.catR
   have nx_H78 := o0.1
   replace b := b.le o0
   replace hs := hs.le o0
   replace c := o0.2 _ _ c
   have q1 := r5
   have i3 : Keep cV.next bS bS := fun _ _ _ h => h
   have cK := r5.inn
   refine .r0 rfl rfl (.fillA rfl sz_27_D rfl rfl rfl rfl) ?_
   rintro _ H28001 ⟨rfl, c6, e2⟩
   have nx_H28001 := c6.nx
   replace b := b.sA c6
   replace hs := hs.sA c6
   replace i3 := Keep.st i3 c6 (fun k hb hk => ⟨(by omega), trivial⟩)
   replace r5 := q1.keep i3 (Nat.le_refl _)
   have lt_at28001 := GHeap.ltg e2
   clear cK
   have cK := r5.inn
   have mm28001 : MemN _ _ _ _ _ := ⟨rfl, Mem.of_get e2⟩
   refine .nil (z9 _ _ ?_)
   refine .ret ?_
   refine b9 _ _ ?_
   refine ⟨_, _, _, _, rfl, ag_27_Hj, (by rfl), (Mem.of_get e2), ?_⟩
   exact ⟨dV, _, rfl, aA.mono (by omega), r5.keep (.of_le (.refl _)) (by omega), b, hs⟩
  try simp only [sps] at u9
  refine .seq (fun K33 y5 => .region (.q rfl (.cmp rfl rfl rfl) (.mv rfl (.nil (y5 _ _ ?_)))))
  refine .cond rfl (fun w0 => ?_) (fun w0 => ?_)
  ·
   try simp only [sps] at w0
   refine .seq (fun K34 aW => .region (.mv rfl ?_))
   refine .call rfl rfl rfl rfl @Try.call123 rfl (l02MonoidG_c) ?_
   rintro _ dE ⟨a82, T82, r82, rfl, eF, v2, aK, p8, hs⟩
   have nx_H82 := p8.nx
   replace b := b.sA p8
   replace c := p8.s c d.ne
   refine .call rfl rfl rfl rfl @Try.call122 rfl (l03MonoidG_c (hin := eF.intss) (hn := v2) (ht := aK)) ?_
   rintro _ bY ⟨c83, ⟨aE, z2⟩, n1, ga83, gb83, gc83, gd83, rr83, rfl, cR⟩
   have j4 := cR.catR
   have nx_H83 := n1.1
   replace b := b.le n1
   replace hs := hs.le n1
   replace c := n1.2 _ _ c
   have b3 := j4
   have f : Keep dE.next bY bY := fun _ _ _ h => h
   have k4 := j4.inn
   refine .R rfl (.litA rfl sl_24_A ze_2_N rfl rfl rfl rfl) ?_
   rintro _ H84 ⟨dK, rfl, m3, ge84, c0⟩
   have nx_H84 := m3.1
   replace b := b.le m3
   replace hs := hs.le m3
   replace c := m3.2 _ _ c
   replace f := Keep.le f m3
   replace j4 := b3.keep f (Nat.le_refl _)
   have lt_at84 := GHeap.ltg c0
   clear k4
   have k4 := j4.inn
   refine .R rfl (.litA rfl sl_25_B ze_24_Hj rfl rfl rfl rfl) ?_
   rintro _ eU ⟨g85, rfl, k2, ge85, d9⟩
   have nx_H85 := k2.1
   replace b := b.le k2
   replace hs := hs.le k2
   replace c := k2.2 _ _ c
   replace c0 := k2.2 _ _ c0
   replace f := Keep.le f k2
   replace j4 := b3.keep f (Nat.le_refl _)
   have lt_at85 := GHeap.ltg d9
   clear k4
   have k4 := j4.inn
   refine .call rfl rfl rfl rfl @Try.call31 rfl ((by have hh := l03PosetG_c (rel := [[1]]) (hin := ((lit_own (gs := [dK]) (by simp only [LitAt]; exact ⟨⟨Nat.zero_le _, c0⟩, trivial⟩) (by simp <;> omega)).done (by exact d9) (Nat.zero_le _)).intss) (hn := by decide) (hr := by decide) (hRT := .dec (by decide) (by decide)); exact hh)) ?_
   rintro _ w1 ⟨c86, ⟨u6, bK⟩, h6, ga86, gb86, gc86, gd86, rr86, rfl, eA⟩
   have o5 := eA.catR
   have nx_H86 := h6.1
   replace b := b.le h6
   replace hs := hs.le h6
   replace c := h6.2 _ _ c
   replace c0 := h6.2 _ _ c0
   replace d9 := h6.2 _ _ d9
   replace f := Keep.le f h6
   replace j4 := b3.keep f (Nat.le_refl _)
   have j0 := o5
   have u : Keep eU.next w1 w1 := fun _ _ _ h => h
   clear k4
   have k4 := j4.inn
   have q4 := o5.inn
   refine .call rfl rfl rfl rfl @Try.call126 rfl (l03JoinG_c (hin := k4) (hin1 := q4) (gc := aE) (gd := u6) (oc := z2) (od := bK)) ?_
   rintro _ v7 ⟨eE, ⟨t7, oc87⟩, g4, ga87, gb87, gc87, gd87, rr87, rfl, eD⟩
   have r3 := eD.catR
   have nx_H87 := g4.1
   replace b := b.le g4
   replace hs := hs.le g4
   replace c := g4.2 _ _ c
   replace c0 := g4.2 _ _ c0
   replace d9 := g4.2 _ _ d9
   replace f := Keep.le f g4
   replace j4 := b3.keep f (Nat.le_refl _)
   replace u := Keep.le u g4
   replace o5 := j0.keep u (Nat.le_refl _)
   have m0 := r3
   have b0 : Keep w1.next v7 v7 := fun _ _ _ h => h
   clear k4
   have k4 := j4.inn
   clear q4
   have q4 := o5.inn
   have s6 := r3.inn
   refine .call rfl rfl rfl rfl @Try.call125 rfl (l03Op_c (hin := s6) (hr := t7.r) (hN := by omega)) ?_
   rintro _ bT ⟨e6, ga88, gb88, gc88, gd88, rr88, rfl, cW⟩
   have u1 := cW.catR
   have nx_H88 := e6.1
   replace b := b.le e6
   replace hs := hs.le e6
   replace c := e6.2 _ _ c
   replace c0 := e6.2 _ _ c0
   replace d9 := e6.2 _ _ d9
   replace f := Keep.le f e6
   replace j4 := b3.keep f (Nat.le_refl _)
   replace u := Keep.le u e6
   replace o5 := j0.keep u (Nat.le_refl _)
   replace b0 := Keep.le b0 e6
   replace r3 := m0.keep b0 (Nat.le_refl _)
   have r1 := u1
   have h1 : Keep v7.next bT bT := fun _ _ _ h => h
   clear k4
   have k4 := j4.inn
   clear q4
   have q4 := o5.inn
   clear s6
   have s6 := r3.inn
   have cJ := u1.inn
   refine .r0 rfl rfl (.fillA rfl sz_27_D rfl rfl rfl rfl) ?_
   rintro _ H30008 ⟨rfl, p, f1⟩
   have nx_H30008 := p.nx
   replace b := b.sA p
   replace hs := hs.sA p
   replace c0 := p.s c0
   replace d9 := p.s d9
   replace f := Keep.st f p (fun k hb hk => ⟨(by omega), trivial⟩)
   replace j4 := b3.keep f (Nat.le_refl _)
   replace u := Keep.st u p (fun k hb hk => ⟨(by omega), trivial⟩)
   replace o5 := j0.keep u (Nat.le_refl _)
   replace b0 := Keep.st b0 p (fun k hb hk => ⟨(by omega), trivial⟩)
   replace r3 := m0.keep b0 (Nat.le_refl _)
   replace h1 := Keep.st h1 p (fun k hb hk => ⟨(by omega), trivial⟩)
   replace u1 := r1.keep h1 (Nat.le_refl _)
   have lt_at30008 := GHeap.ltg f1
   clear k4
   have k4 := j4.inn
   clear q4
   have q4 := o5.inn
   clear s6
   have s6 := r3.inn
   clear cJ
   have cJ := u1.inn
   have mm30008 : MemN _ _ _ _ _ := ⟨rfl, Mem.of_get f1⟩
   refine .nil (aW _ _ ?_)
   refine .ret ?_
   refine b9 _ _ ?_
   refine ⟨_, _, _, _, rfl, ag_27_Hj, (by rfl), (Mem.of_get f1), ?_⟩
   exact ⟨eE.op, _, rfl, t7.op, u1.keep (.of_le (.refl _)) (by omega), b, hs⟩
  try simp only [sps] at w0
  refine .seq (fun K35 x8 => .region (.q rfl (.cmp rfl rfl rfl) (.mv rfl (.nil (x8 _ _ ?_)))))
  refine .cond rfl (fun z5 => ?_) (fun z5 => ?_)
  ·
   try simp only [sps] at z5
   refine .seq (fun K36 y3 => .region (.mv rfl ?_))
   refine .call rfl rfl rfl rfl @Try.call123 rfl (l02MonoidG_c) ?_
   rintro _ dI ⟨a92, T92, r92, rfl, dN, y8, z4, p2, hs⟩
   have nx_H92 := p2.nx
   replace b := b.sA p2
   replace c := p2.s c d.ne
   refine .call rfl rfl rfl rfl @Try.call122 rfl (l03MonoidG_c (hin := dN.intss) (hn := y8) (ht := z4)) ?_
   rintro _ cI ⟨c93, ⟨y2, bM⟩, n7, ga93, gb93, gc93, gd93, rr93, rfl, dS⟩
   have k8 := dS.catR
   have nx_H93 := n7.1
   replace b := b.le n7
   replace hs := hs.le n7
   replace c := n7.2 _ _ c
   have d2 := k8
   have l : Keep dI.next cI cI := fun _ _ _ h => h
   have m2 := k8.inn
   refine .R rfl (.litA rfl sl_24_A ze_2_N rfl rfl rfl rfl) ?_
   rintro _ H94 ⟨dJ, rfl, l6, ge94, d8⟩
   have nx_H94 := l6.1
   replace b := b.le l6
   replace hs := hs.le l6
   replace c := l6.2 _ _ c
   replace l := Keep.le l l6
   replace k8 := d2.keep l (Nat.le_refl _)
   have lt_at94 := GHeap.ltg d8
   clear m2
   have m2 := k8.inn
   refine .R rfl (.litA rfl sl_25_B ze_24_Hj rfl rfl rfl rfl) ?_
   rintro _ eK ⟨g95, rfl, j6, ge95, g9⟩
   have nx_H95 := j6.1
   replace b := b.le j6
   replace hs := hs.le j6
   replace c := j6.2 _ _ c
   replace d8 := j6.2 _ _ d8
   replace l := Keep.le l j6
   replace k8 := d2.keep l (Nat.le_refl _)
   have lt_at95 := GHeap.ltg g9
   clear m2
   have m2 := k8.inn
   refine .call rfl rfl rfl rfl @Try.call31 rfl ((by have hh := l03PosetG_c (rel := [[1]]) (hin := ((lit_own (gs := [dJ]) (by simp only [LitAt]; exact ⟨⟨Nat.zero_le _, d8⟩, trivial⟩) (by simp <;> omega)).done (by exact g9) (Nat.zero_le _)).intss) (hn := by decide) (hr := by decide) (hRT := .dec (by decide) (by decide)); exact hh)) ?_
   rintro _ v9 ⟨c96, ⟨v6, w6⟩, h4, ga96, gb96, gc96, gd96, rr96, rfl, dO⟩
   have r2 := dO.catR
   have nx_H96 := h4.1
   replace b := b.le h4
   replace hs := hs.le h4
   replace c := h4.2 _ _ c
   replace d8 := h4.2 _ _ d8
   replace g9 := h4.2 _ _ g9
   replace l := Keep.le l h4
   replace k8 := d2.keep l (Nat.le_refl _)
   have m7 := r2
   have b2 : Keep eK.next v9 v9 := fun _ _ _ h => h
   clear m2
   have m2 := k8.inn
   have s7 := r2.inn
   refine .call rfl rfl rfl rfl @Try.call126 rfl (l03JoinG_c (hin := m2) (hin1 := s7) (gc := y2) (gd := v6) (oc := bM) (od := w6)) ?_
   rintro _ cL ⟨dT, ⟨w8, oc97⟩, g1, ga97, gb97, gc97, gd97, rr97, rfl, eM⟩
   have s9 := eM.catR
   have nx_H97 := g1.1
   replace b := b.le g1
   replace hs := hs.le g1
   replace c := g1.2 _ _ c
   replace d8 := g1.2 _ _ d8
   replace g9 := g1.2 _ _ g9
   replace l := Keep.le l g1
   replace k8 := d2.keep l (Nat.le_refl _)
   replace b2 := Keep.le b2 g1
   replace r2 := m7.keep b2 (Nat.le_refl _)
   have p9 := s9
   have h2 : Keep v9.next cL cL := fun _ _ _ h => h
   clear m2
   have m2 := k8.inn
   clear s7
   have s7 := r2.inn
   have bU := s9.inn
   refine .r0 rfl rfl (.fillA rfl sz_27_D rfl rfl rfl rfl) ?_
   rintro _ H32007 ⟨rfl, t, e9⟩
   have nx_H32007 := t.nx
   replace b := b.sA t
   replace hs := hs.sA t
   replace d8 := t.s d8
   replace g9 := t.s g9
   replace l := Keep.st l t (fun k hb hk => ⟨(by omega), trivial⟩)
   replace k8 := d2.keep l (Nat.le_refl _)
   replace b2 := Keep.st b2 t (fun k hb hk => ⟨(by omega), trivial⟩)
   replace r2 := m7.keep b2 (Nat.le_refl _)
   replace h2 := Keep.st h2 t (fun k hb hk => ⟨(by omega), trivial⟩)
   replace s9 := p9.keep h2 (Nat.le_refl _)
   have lt_at32007 := GHeap.ltg e9
   clear m2
   have m2 := k8.inn
   clear s7
   have s7 := r2.inn
   clear bU
   have bU := s9.inn
   have mm32007 : MemN _ _ _ _ _ := ⟨rfl, Mem.of_get e9⟩
   refine .nil (y3 _ _ ?_)
   refine .ret ?_
   refine b9 _ _ ?_
   refine ⟨_, _, _, _, rfl, ag_27_Hj, (by rfl), (Mem.of_get e9), ?_⟩
   exact ⟨dT, _, rfl, w8, s9.keep (.of_le (.refl _)) (by omega), b, hs⟩
  try simp only [sps] at z5
  refine .seq (fun K37 bR => .region (.q rfl (.cmp rfl rfl rfl) (.mv rfl (.nil (bR _ _ ?_)))))
  refine .cond rfl (fun aJ => ?_) (fun aJ => ?_)
  ·
   try simp only [sps] at aJ
   refine .seq (fun K38 aH => .region (.mv rfl (.mv rfl ?_)))
   refine .call rfl rfl rfl rfl @Try.call30 rfl (l01Next_c) ?_
   rintro _ H102 ⟨t3, rfl, ka102, kb102, kc102, m5, hs⟩
   have nx_H102 := m5.nx
   replace b := b.sA m5
   replace c := m5.s c d.ne
   obtain ⟨n, hn⟩ : ∃ n : Nat, (n : Int) = 2 + t3 := ⟨(2 + t3).toNat, by omega⟩
   refine .q rfl (.add (r := (n : Int)) rfl rfl (by omega) (by omega) (by omega)) ?_
   refine .call rfl rfl rfl rfl @Try.call32 rfl (l02RelationG_c (n := n) (hn := by omega)) ?_
   rintro _ w2 ⟨a104, T104, r104, rfl, bD, t8, t5, s1, l4, hs⟩
   have nx_H104 := l4.nx
   replace b := b.sA l4
   replace c := l4.s c d.ne
   refine .call rfl rfl rfl rfl @Try.call31 rfl (l03PosetG_c (hin := bD.intss) (hn := by omega) (hr := t5) (hRT := by rw [t8]; exact s1)) ?_
   rintro _ s4 ⟨bP, ⟨u2, oc105⟩, j3, ga105, gb105, gc105, gd105, rr105, rfl, v1⟩
   have m1 := v1.catR
   have nx_H105 := j3.1
   replace b := b.le j3
   replace hs := hs.le j3
   replace c := j3.2 _ _ c
   have n2 := m1
   have f5 : Keep w2.next s4 s4 := fun _ _ _ h => h
   have u0 := m1.inn
   refine .r0 rfl rfl (.fillA rfl sz_27_D rfl rfl rfl rfl) ?_
   rintro _ H34006 ⟨rfl, c5, f4⟩
   have nx_H34006 := c5.nx
   replace b := b.sA c5
   replace hs := hs.sA c5
   replace f5 := Keep.st f5 c5 (fun k hb hk => ⟨(by omega), trivial⟩)
   replace m1 := n2.keep f5 (Nat.le_refl _)
   have lt_at34006 := GHeap.ltg f4
   clear u0
   have u0 := m1.inn
   have mm34006 : MemN _ _ _ _ _ := ⟨rfl, Mem.of_get f4⟩
   refine .nil (aH _ _ ?_)
   refine .ret ?_
   refine b9 _ _ ?_
   refine ⟨_, _, _, _, rfl, ag_27_Hj, (by rfl), (Mem.of_get f4), ?_⟩
   exact ⟨bP, _, rfl, u2.mono (by omega), m1.keep (.of_le (.refl _)) (by omega), b, hs⟩
  try simp only [sps] at aJ
  refine .skip ?_
  refine eG _ _ (.seq (fun K39 bO => .region (.mv rfl ?_)))
  refine .call rfl rfl rfl rfl @Try.call30 rfl (l01Next_c) ?_
  rintro _ H107 ⟨u3, rfl, ka107, kb107, kc107, l3, hs⟩
  have nx_H107 := l3.nx
  replace b := b.sA l3
  replace c := l3.s c d.ne
  obtain ⟨n, hn⟩ : ∃ n : Nat, (n : Int) = 2 + u3 := ⟨(2 + u3).toNat, by omega⟩
  refine .q rfl (.add (r := (n : Int)) rfl rfl (by omega) (by omega) (by omega)) ?_
  refine .mv rfl (.nil (bO _ _ (.seq (fun K40 u8 => .region ?_))))
  refine .R rfl (.litA rfl sl_24_A ze_2_N rfl rfl rfl rfl) ?_
  rintro _ bF ⟨o1, rfl, j2, ge109, a9⟩
  have nx_H109 := j2.1
  replace b := b.le j2
  replace hs := hs.le j2
  replace c := j2.2 _ _ c
  have lt_at109 := GHeap.ltg a9
  replace a9 : GHeap.get bF o1 = some (.row (ints []) 2 true) := a9
  refine .R rfl (.litA rfl sl_24_A ze_2_N rfl rfl rfl rfl) ?_
  rintro _ x5 ⟨n6, rfl, f8, ge110, d1⟩
  have nx_H110 := f8.1
  replace b := b.le f8
  replace hs := hs.le f8
  replace c := f8.2 _ _ c
  replace a9 := f8.2 _ _ a9
  have lt_at110 := GHeap.ltg d1
  replace d1 : GHeap.get x5 n6 = some (.row (ints []) 2 true) := d1
  refine .mv rfl (.mv rfl (.nil (u8 _ _ (.seq (fun K41 v0 => .seq (fun K42 x3 => .region (.mv rfl ?_)))))))
  refine .call rfl rfl rfl rfl @Try.call30 rfl (l01Next_c) ?_
  rintro _ p4 ⟨s8, rfl, ka112, kb112, kc112, g7, hs⟩
  have nx_H112 := g7.nx
  replace b := b.sA g7
  replace c := g7.s c d.ne
  replace a9 := g7.s a9
  replace d1 := g7.s d1
  obtain ⟨m, rfl⟩ : ∃ m : Nat, s8 = (m : Int) := ⟨s8.toNat, by omega⟩
  refine .mv rfl (.nil (x3 _ _ ?_))
  refine .block ?_
  refine .loopR (σ := Nat × List Int × List Int × Nat × Nat × Nat × Nat) [(0, some _), (2, some _), (8, some _)] (fun (k, xs, ys, k9, o6, c1, e3) => [(11, some (.int .i64 (k : Int))), (9, some (.slice (some ⟨k9, 0, none⟩) o6 o6)), (10, some (.slice (some ⟨c1, 0, none⟩) e3 e3))]) (fun (k, xs, ys, k9, o6, c1, e3) H' => St [o1, n6, gS] p4 H' ∧ H'.get k9 = some (.row (ints xs) 2 true) ∧ PL k9 o1 p4.next ∧ o6 = xs.length ∧ H'.get c1 = some (.row (ints ys) 2 true) ∧ PL c1 n6 p4.next ∧ e3 = ys.length ∧ k9 ≠ c1 ∧ (k + xs.length ≤ 3 ∧ ys.length = xs.length) ∧ Bd 0 ((n : Int) - 1) ys ∧ (∀ e, e < xs.length → xs.getD e 0 < ys.getD e 0) ∧ DSrc 86 H' gS) (fun (k, xs, ys, k9, o6, c1, e3) => k) ((m, [], [], _, _, _, _)) ⟨rfl, rfl, rfl, trivial⟩ ⟨rfl, rfl, rfl, trivial⟩ ?_ ?_
  ·
   refine ⟨.refl _ _, by first | assumption | exact a9 | simpa using a9, ⟨.inl rfl⟩, by first | rfl | assumption | simp | omega, by first | assumption | exact d1 | simpa using d1, ⟨.inl rfl⟩, by first | rfl | assumption | simp | omega, by omega, ?_⟩
   exact ⟨⟨by simp; omega, rfl⟩, .nil _ _, fun _ h => by simp at h, hs⟩
  rintro ⟨k, xs, ys, k9, o6, c1, e3⟩ HL3 ⟨v, a0, m4, t0, g, h5, ln_L10, u4, hI⟩ KL3 aN
  refine .forget (fr' := [(11, some (.int .i64 (k : Int))), (9, some (.slice (some ⟨k9, 0, none⟩) o6 o6)), (10, some (.slice (some ⟨c1, 0, none⟩) e3 e3)), (0, some _), (2, some _), (8, some _)]) ⟨rfl, rfl, rfl, rfl, rfl, rfl, trivial⟩ ?_
  have nx_HL3 := v.nx
  replace b := b.st v (fun k hk ho => by simp only [out, and_true] at ho ⊢ <;> exact ⟨by first | exact ho | exact ho.1 | exact ho.2 | exact ho.2.1 | exact ho.2.2 | exact ho.2.2.1 | exact ho.2.2.2 | omega, by first | exact ho | exact ho.1 | exact ho.2 | exact ho.2.1 | exact ho.2.2 | exact ho.2.2.1 | exact ho.2.2.2 | omega, by first | exact ho | exact ho.1 | exact ho.2 | exact ho.2.1 | exact ho.2.2 | exact ho.2.2.1 | exact ho.2.2.2 | omega⟩)
  have a6 : NE g2 o1 := .a
  have a3 : NE g2 n6 := .a
  replace c := v.same _ _ ⟨a6.ne, a3.ne, d.ne, trivial⟩ c
  have lt_at_L9 := GHeap.ltg a0
  have lt_at_L10 := GHeap.ltg g
  obtain ⟨⟨hk3, hyl⟩, hY, hU, hs⟩ := hI
  have ge9 : H.next ≤ k9 := m4.ge (by omega) (by omega)
  have ge10 : H.next ≤ c1 := h5.ge (by omega) (by omega)
  refine .seq (fun K43 y6 => .seq (fun K44 aZ => .region (.mv rfl (.q rfl (.cmp rfl rfl rfl) (.nil (aZ _ _ ?_))))))
  refine .cond rfl (fun q0 => ?_) (fun q0 => ?_)
  ·
   simp only [sps] at q0
   obtain ⟨k1, rfl⟩ : ∃ k1, k = k1 + 1 := ⟨k - 1, by omega⟩
   refine .skip ?_
   refine y6 _ _ (.seq (fun K45 bG => ?_))
   refine .block ?_
   refine .seq (fun K46 aP => .region (.mv rfl (.mv rfl ?_)))
   refine .q rfl (.sub rfl rfl rfl (by omega) (by omega)) ?_
   refine .call rfl rfl rfl rfl @Try.call30 rfl (l01Next_c) ?_
   rintro _ H120 ⟨r6, rfl, ka120, kb120, kc120, e1, hs⟩
   have nx_H120 := e1.nx
   replace b := b.sA e1
   replace v := v.sA e1
   replace c := e1.s c d.ne
   replace a0 := e1.s a0
   have d0 : NE c1 gS := .a
   replace g := e1.s g d0.ne
   refine .mv rfl (.nil (aP _ _ (.seq (fun K47 w5 => .region (.mv rfl (.mv rfl ?_))))))
   refine .R rfl (.litA rfl sl_24_A ze_2_N rfl rfl rfl rfl) ?_
   rintro _ H123 ⟨g123, rfl, d4, ge123, a8⟩
   have nx_H123 := d4.1
   replace b := b.le d4
   replace v := v.le d4
   replace hs := hs.le d4
   replace c := d4.2 _ _ c
   replace a0 := d4.2 _ _ a0
   replace g := d4.2 _ _ g
   have lt_at123 := GHeap.ltg a8
   refine .R rfl (.appendI rfl sl_24_A ze_2_N rfl by_2_N sl_24_A rfl rfl (by assumption) (by assumption) (by first | omega | (simp <;> omega)) (by omega) (by omega)) ?_
   rintro _ H124 ⟨g124, rfl, d3, ge124, c9⟩
   have nx_H124 := d3.nx
   replace b := b.sP d3
   replace v := v.sP d3
   replace hs := hs.sP d3
   have b6 : NE g2 k9 := ⟨m4.ne a6.ne (by omega)⟩
   replace c := d3.s c b6.ne
   replace g := d3.same _ _ ⟨(Ne.symm u4), trivial⟩ g
   replace a8 := d3.s a8
   have lt_at124 := GHeap.ltg c9
   refine .mv rfl (.nil (w5 _ _ (.region (.mv rfl (.mv rfl ?_)))))
   refine .q rfl (.add rfl rfl rfl (by omega) (by omega)) ?_
   refine .mv rfl (.mv rfl ?_)
   refine .q rfl (.sub rfl rfl rfl (by omega) (by omega)) ?_
   refine .mv rfl ?_
   refine .q rfl (.sub rfl rfl rfl (by omega) (by omega)) ?_
   refine .call rfl rfl rfl rfl @Try.call30 rfl (l01Next_c) ?_
   rintro _ H133 ⟨z7, rfl, ka133, kb133, kc133, c7, hs⟩
   have nx_H133 := c7.nx
   replace b := b.sA c7
   replace v := v.sA c7
   replace c := c7.s c d.ne
   replace g := c7.s g d0.ne
   replace a8 := c7.s a8
   replace c9 := c7.s c9
   refine .q rfl (.add rfl rfl rfl (by omega) (by omega)) ?_
   refine .R rfl (.litA rfl sl_24_A ze_2_N rfl rfl rfl rfl) ?_
   rintro _ H135 ⟨g135, rfl, b7, ge135, l1⟩
   have nx_H135 := b7.1
   replace b := b.le b7
   replace v := v.le b7
   replace hs := hs.le b7
   replace c := b7.2 _ _ c
   replace g := b7.2 _ _ g
   replace a8 := b7.2 _ _ a8
   replace c9 := b7.2 _ _ c9
   have lt_at135 := GHeap.ltg l1
   refine .R rfl (.appendI rfl sl_24_A ze_2_N rfl by_2_N sl_24_A rfl rfl (by assumption) (by assumption) (by first | omega | (simp <;> omega)) (by omega) (by omega)) ?_
   rintro _ H136 ⟨g136, rfl, b8, ge136, t6⟩
   have nx_H136 := b8.nx
   replace b := b.sP b8
   replace v := v.sP b8
   replace hs := hs.sP b8
   have a5 : NE g2 c1 := ⟨h5.ne a3.ne (by omega)⟩
   replace c := b8.s c a5.ne
   replace a8 := b8.s a8
   replace c9 := b8.s c9
   replace l1 := b8.s l1
   have lt_at136 := GHeap.ltg t6
   refine .mv rfl (.nil (bG _ _ (.region (.mv rfl ?_))))
   refine .q rfl (.sub (r := (k1 : Int)) rfl rfl (by omega) (by omega) (by omega)) ?_
   refine .mv rfl (.nil ?_)
   refine aN ((k1, xs ++ [r6], ys ++ [r6 + 1 + z7], _, _, _, _)) _ _ ?_ ?_ ⟨rfl, rfl, rfl, rfl, rfl, rfl, trivial⟩
   ·
    refine ⟨v, by assumption, by first | assumption | exact ⟨.inr (by omega)⟩ | exact ⟨.inl rfl⟩, by first | omega | (simp only [List.length_append, List.length_cons, List.length_nil] <;> omega), by assumption, by first | assumption | exact ⟨.inr (by omega)⟩ | exact ⟨.inl rfl⟩, by first | omega | (simp only [List.length_append, List.length_cons, List.length_nil] <;> omega), by first | assumption | omega, ?_⟩
    exact ⟨⟨by simp; omega, by simp; omega⟩, hY.snoc (by omega) (by omega), up_snoc hyl hU (by omega), hs⟩
   (dsimp only; omega)
  try simp only [sps] at q0
  refine .exit ?_
  refine v0 _ _ (.seq (fun K48 aV => .region ?_))
  obtain rfl := t0
  have dU : e3 = ys.length := by omega
  subst dU
  refine .mv rfl (.mv rfl (.mv rfl ?_))
  refine .call rfl rfl rfl rfl @Try.call121 rfl (l03PathsG_c (ha := Ints.of_get a0) (hb := Ints.of_get g) (hl := hyl) (hx := by omega) (hn := by omega) (hy := hY) (hup := hU)) ?_
  rintro _ r4 ⟨aF, ⟨s3, oc140⟩, d5, ga140, gb140, gc140, gd140, rr140, rfl, bC⟩
  have m6 := bC.catR
  have nx_H140 := d5.1
  replace b := b.le d5
  replace v := v.le d5
  replace c := d5.2 _ _ c
  replace a0 := d5.2 _ _ a0
  replace g := d5.2 _ _ g
  have n0 := m6
  have e5 : Keep HL3.next r4 r4 := fun _ _ _ h => h
  have s2 := m6.inn
  refine .r0 rfl rfl (.fillA rfl sz_27_D rfl rfl rfl rfl) ?_
  rintro _ H43004 ⟨rfl, z, f3⟩
  have nx_H43004 := z.nx
  replace b := b.sA z
  have b6 : NE g2 k9 := ⟨m4.ne a6.ne (by omega)⟩
  replace a0 := z.s a0 (Ne.symm b6.ne)
  have a5 : NE g2 c1 := ⟨h5.ne a3.ne (by omega)⟩
  replace g := z.s g (Ne.symm a5.ne)
  replace e5 := Keep.st e5 z (fun k hb hk => ⟨(by omega), trivial⟩)
  replace m6 := n0.keep e5 (Nat.le_refl _)
  have lt_at43004 := GHeap.ltg f3
  clear s2
  have s2 := m6.inn
  have mm43004 : MemN _ _ _ _ _ := ⟨rfl, Mem.of_get f3⟩
  refine .nil (aV _ _ ?_)
  refine .ret ?_
  refine b9 _ _ ?_
  refine ⟨_, _, _, _, rfl, ag_27_Hj, (by rfl), (Mem.of_get f3), ?_⟩
  exact ⟨aF, _, rfl, s3.mono (by omega), m6.keep (.of_le (.refl _)) (by omega), b, (hs.le d5).st z (fun k hk ho => ⟨by omega, trivial⟩)⟩
end Go.Proofs.Ytfanjkbaemhbmaa
