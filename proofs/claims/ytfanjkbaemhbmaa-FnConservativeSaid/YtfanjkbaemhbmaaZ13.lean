/- Functors that are searched. No condition but those of each statement. -/
import Derived.Test.YtfanjkbaemhbmaaZ12
namespace Go.Proofs.Ytfanjkbaemhbmaa
open Go Go.GL Go.RowKit Go.Proofs
def SrcQ (N B g : Nat) (H : GHeap) (v : Value) (H' : GHeap) : Prop := ∃ g' n' cs', v = .slice (some ⟨g', 0, none⟩) n' n' ∧ St [g] H H' ∧ (g' = g ∨ H.next ≤ g') ∧ n' ≤ 201 ∧ H'.get g' = some (.row cs' 40 true) ∧ FLc 2 N B (H'.set g' none) cs' n'
def SrcSpec (r : Nat) : Prop := ∀ {N M B : Nat} {c d : Cat} {p q : CatP} {a : Option Addr} {ob : List Int} {g n m : Nat} {cs : List Value} {H : GHeap} (_ : c.In (H.set g none) p) (_ : d.In (H.set g none) q) (_ : Ints (H.set g none) a ob) (_ : c.Good N) (_ : d.Good M) (_ : N ≤ 100000) (_ : M ≤ 100000) (_ : ∀ x, x < ob.length → 0 ≤ ob.getD x 0 ∧ ob.getD x 0 < d.obj) (_ : (ob.length : Int) ≤ c.obj) (_ : c.obj ≤ ob.length + r) (_ : H.get g = some (.row cs 40 true)) (_ : FLc 2 N B (H.set g none) cs n) (_ : n ≤ 200) (_ : ob.length = m) (_ : B ≤ H.next),
    GCalls Try.prog 128 [.agg (c.cells p).toArray, .agg (d.cells q).toArray, .slice a m m, .slice (some ⟨g, 0, none⟩) n n] H (SrcQ N B g H)
theorem sl_111_Zd : sliceT Try.prog 111 = some (40, 12) := by kernel_rfl
theorem by_40_Zd : (Try.prog.info? 40).map (·.bytes) = some 256 := by kernel_rfl
set_option maxHeartbeats 8000000 in
theorem l06Search_step {r : Nat} (ih : ∀ r', r' + 1 = r → SrcSpec r') : SrcSpec r := by
  intro N M B c d p q a ob g n m cs H hin hin1 ho gc gd hN hM hob hol hr hg hL hn hm hB
  subst hm
  have q1 := gc.r.obj
  have q3 := gc.r.n
  have q5 := gc.r.tl
  have q7 := gd.r.obj
  have q8 := gc.r.il
  have q9 := gd.r.il
  have s1 := gc.small (by omega)
  have s2 := gd.small (by omega)
  refine GCalls.body (N := 108) (rs := [.tmp 8]) Try.func128 rfl rfl rfl rfl (fun Qx hret hend => ?_)
  refine .fg [0, 1, 2, 3] rfl ?_
  have lt_hg := GHeap.ltg hg
  have hst := St.refl [g] H
  refine .seq (fun K1 hK1 => .region ?_)
  refine .R rfl (.boxR rfl sz_27_D rfl) ?_
  rintro _ H4 ⟨g4, rfl, le4, ge4, at4⟩
  replace hst := hst.le le4
  replace hg := le4.2 _ _ hg
  have lt_at4 := GHeap.ltg at4
  have hc := hin.mono hst.low
  have hb4 : Cat.At _ g4 0 c p := ⟨Mem.of_get at4, hc⟩
  refine .R rfl (.boxR rfl sz_27_D rfl) ?_
  rintro _ H5 ⟨g5, rfl, le5, ge5, at5⟩
  replace hst := hst.le le5
  replace hg := le5.2 _ _ hg
  replace at4 := le5.2 _ _ at4
  have lt_at5 := GHeap.ltg at5
  clear hc
  have hc := hin.mono hst.low
  have hd := hin1.mono hst.low
  have hO := ho.mono hst.low
  clear hb4
  have hb4 : Cat.At _ g4 0 c p := ⟨Mem.of_get at4, hc⟩
  obtain ⟨c04, -, -, -, -, -, -, -, -⟩ := hb4.get
  have hb5 : Cat.At _ g5 0 d q := ⟨Mem.of_get at5, hd⟩
  refine .mv rfl (.nil (hK1 _ _ (.seq (fun K2 hK2 => .seq (fun K3 hK3 => .region ?_)))))
  refine .q rfl (.loadM ag_27_D rfl ⟨rfl, Mem.of_get at4⟩) ?_
  refine .q rfl (.loadM ag_27_D rfl ⟨rfl, Mem.of_get at5⟩) ?_
  refine .mv rfl ?_
  refine .call rfl rfl rfl rfl @Try.call132 rfl (l06Rooms_c hc hd hO gc gd) ?_
  rintro _ _ ⟨⟨b18, rfl⟩, rfl⟩
  refine .q rfl (.not rfl) (.nil (hK3 _ _ ?_))
  refine .cond rfl ?_ ?_ <;> intro h19
  ·
   refine .seq (fun K4 hK4 => .region (.mv rfl (.mv rfl (.nil (hK4 _ _ (.ret (hret _ _ (⟨_, rfl, ?_⟩))))))))
   first
   | exact ⟨_, _, _, rfl, hst, .inl rfl, by omega, by assumption, hL.le (hst.erase (.inl rfl))⟩
   | exact ⟨_, _, _, rfl, hst, by omega, by omega, by assumption, by rw [ln_L3]; exact hL5⟩
   | exact ⟨_, _, _, rfl, hst, by omega, by omega, by assumption, by rw [ln_L3]; exact hL6⟩
  refine .skip (hK2 _ _ (.seq (fun K5 hK5 => .seq (fun K6 hK6 => .region (.mv rfl (.q rfl (.len sl_24_A rfl) (.q rfl (.fieldAddr fo_27_0_B rfl) (.q rfl (.lA on_2_A rfl) (.q rfl (.cmp rfl rfl rfl) (.nil (hK6 _ _ ?_)))))))))))
  refine .cond rfl ?_ ?_ <;> intro h25
  ·
   simp only [sps] at h25
   refine .seq (fun K7 hK7 => .region ?_)
   refine .R rfl (.litA rfl sl_24_A ze_2_L rfl rfl rfl rfl) ?_
   rintro _ H26 ⟨g26, rfl, le26, ge26, at26⟩
   replace hst := hst.le le26
   replace hg := le26.2 _ _ hg
   replace at4 := le26.2 _ _ at4
   replace at5 := le26.2 _ _ at5
   have lt_at26 := GHeap.ltg at26
   clear hc hd hO
   have hc := hin.mono hst.low
   have hd := hin1.mono hst.low
   clear hb4 c04
   have hb4 : Cat.At _ g4 0 c p := ⟨Mem.of_get at4, hc⟩
   clear hb5
   have hb5 : Cat.At _ g5 0 d q := ⟨Mem.of_get at5, hd⟩
   replace at26 : GHeap.get H26 g26 = some (.row (ints []) 2 true) := at26
   refine .mv rfl (.nil (hK7 _ _ (.seq (fun K8 hK8 => .seq (fun K9 hK9 => .region (.mv rfl (.nil (hK9 _ _ (.block ?_)))))))))
   refine .loopF (σ := Nat × Nat × Nat) [2, 3, 4, 5] (fun (f, gL9, nL9) => [(10, some (.int .i64 (f : Int))), (9, some (.slice (some ⟨gL9, 0, none⟩) nL9 nL9))]) (fun (f, gL9, nL9) H' => St [g26] H26 H' ∧ H'.get gL9 = some (.row (ints (List.replicate f (-1))) 2 true) ∧ (gL9 = g26 ∨ H26.next ≤ gL9) ∧ nL9 = (List.replicate f (-1)).length ∧ f ≤ c.src.length) (fun (f, gL9, nL9) => c.src.length - f) ((0, _, _)) rfl (.p rfl) ?_ ?_
   ·
    refine ⟨.refl _ _, by assumption, .inl rfl, by rfl, ?_⟩
    omega
   rintro ⟨f, gL9, nL9⟩ HL1 ⟨lst1, at_L9, pl_L9, ln_L9, hI⟩ KL1 hKL1
   dsimp only [cA, nA]
   have nx_HL1 := lst1.nx
   replace hst := hst.sA lst1
   replace hg := lst1.s hg
   replace at4 := lst1.s at4
   replace at5 := lst1.s at5
   clear hc hd
   have hc := hin.mono hst.low
   have hd := hin1.mono hst.low
   clear hb4
   have hb4 : Cat.At _ g4 0 c p := ⟨Mem.of_get at4, hc⟩
   obtain ⟨-, c14, -, -, -, -, -, -, -⟩ := hb4.get
   clear hb5
   have hb5 : Cat.At _ g5 0 d q := ⟨Mem.of_get at5, hd⟩
   have hrl : (List.replicate f (-1 : Int)).length = f := List.length_replicate
   refine .seq (fun K10 hK10 => .seq (fun K11 hK11 => .region (.mv rfl (.q rfl (.fieldAddr fo_27_1_B rfl) (.q rfl (.lA on_24_B rfl) (.q rfl (.len sl_24_A rfl) (.q rfl (.cmp rfl rfl rfl) (.nil (hK11 _ _ ?_)))))))))
   refine .cond rfl ?_ ?_ <;> intro h31
   ·
    simp only [sps] at h31
    refine .skip (hK10 _ _ (.seq (fun K12 hK12 => .block (.region (.mv rfl ?_)))))
    refine .R rfl (.litA rfl sl_24_A ze_2_L rfl rfl rfl rfl) ?_
    rintro _ H35 ⟨g35, rfl, le35, ge35, at35⟩
    replace hst := hst.le le35
    replace lst1 := lst1.le le35
    replace at4 := le35.2 _ _ at4
    replace at5 := le35.2 _ _ at5
    replace at_L9 := le35.2 _ _ at_L9
    have lt_at35 := GHeap.ltg at35
    clear hc hd
    have hc := hin.mono hst.low
    have hd := hin1.mono hst.low
    clear hb4 c14
    have hb4 : Cat.At _ g4 0 c p := ⟨Mem.of_get at4, hc⟩
    clear hb5
    have hb5 : Cat.At _ g5 0 d q := ⟨Mem.of_get at5, hd⟩
    refine .R rfl (.apI rfl sl_24_A ze_2_L rfl by_2_L sl_24_A rfl rfl) ?_
    rintro _ H36 ⟨g36, rfl, st36, ge36, at36⟩
    replace hst := hst.sA st36
    replace lst1 := lst1.sA st36
    have ne_g4_gL9 : NE g4 gL9 := .a
    replace at4 := st36.s at4 ne_g4_gL9.ne
    have ne_g5_gL9 : NE g5 gL9 := .a
    replace at5 := st36.s at5 ne_g5_gL9.ne
    clear hc hd
    have hc := hin.mono hst.low
    have hd := hin1.mono hst.low
    clear hb4
    have hb4 : Cat.At _ g4 0 c p := ⟨Mem.of_get at4, hc⟩
    clear hb5
    have hb5 : Cat.At _ g5 0 d q := ⟨Mem.of_get at5, hd⟩
    refine .mv rfl (.nil (hK12 _ _ (.region (.mv rfl (.q rfl (.aD rfl rfl rfl) (.mv rfl (.nil ?_)))))))
    refine hKL1 ((f + 1, _, _)) _ _ ?_ ?_ (.p rfl)
    ·
     refine ⟨lst1, by (rw [List.replicate_succ']; assumption), by omega, by (rw [List.replicate_succ'] <;> (first | omega | (simp only [List.length_append, List.length_cons, List.length_nil] <;> omega))), ?_⟩
     omega
    (dsimp only; omega)
   simp only [sps] at h31
   refine .exit (hK8 _ _ (.seq (fun K13 hK13 => .seq (fun K14 hK14 => .region ?_))))
   obtain rfl : f = c.src.length := by omega
   refine .mv rfl (.nil (hK14 _ _ (.block ?_)))
   refine .loopF (σ := Nat × List Int) [2, 3, 4, 5, 9] (fun (x, zs) => [(11, some (.int .i64 (x : Int)))]) (fun (x, zs) H' => St [gL9] HL1 H' ∧ H'.get gL9 = some (.row (ints zs) 2 true) ∧ x ≤ ob.length ∧ Typd c d ob zs) (fun (x, zs) => ob.length - x) ((0, List.replicate c.src.length (-1))) rfl (.p rfl) ?_ ?_
   ·
    refine ⟨.refl _ _, by assumption, ?_⟩
    exact ⟨by omega, .start⟩
   rintro ⟨x, zs⟩ HL2 ⟨lst2, at_L9, hI⟩ KL2 hKL2
   dsimp only [cA, nA]
   have nx_HL2 := lst2.nx
   replace hst := hst.sA lst2
   replace hg := lst2.s hg
   have ne_g4_gL9 : NE g4 gL9 := .a
   replace at4 := lst2.s at4 ne_g4_gL9.ne
   have ne_g5_gL9 : NE g5 gL9 := .a
   replace at5 := lst2.s at5 ne_g5_gL9.ne
   have lt_at_L9 := GHeap.ltg at_L9
   have hc := hin.mono hst.low
   have hd := hin1.mono hst.low
   have hO := ho.mono hst.low
   have hb4 : Cat.At _ g4 0 c p := ⟨Mem.of_get at4, hc⟩
   obtain ⟨-, -, -, c34, -, -, -, i34, -⟩ := hb4.get
   have hb5 : Cat.At _ g5 0 d q := ⟨Mem.of_get at5, hd⟩
   obtain ⟨-, -, -, c35, -, -, -, i35, -⟩ := hb5.get
   obtain ⟨hx, hT⟩ := hI
   have hzl := hT.len
   refine .seq (fun K15 hK15 => .seq (fun K16 hK16 => .region (.mv rfl (.mv rfl (.q rfl (.len sl_24_A rfl) (.q rfl (.cmp rfl rfl rfl) (.nil (hK16 _ _ ?_))))))))
   refine .cond rfl ?_ ?_ <;> intro h40
   ·
    simp only [sps] at h40
    have r1 := hob x (by omega)
    have r2 := gc.s.ids x (by omega)
    have r3 := gd.s.ids (ob.getD x 0).toNat (by omega)
    have hT2 := hT.set (k := (c.idn.getD x 0).toNat) (v := d.idn.getD (ob.getD x 0).toNat 0) (by omega) (by omega) (by rw [r2.2.1, Int.toNat_natCast, r3.2.1]; omega) (by rw [r2.2.2, Int.toNat_natCast, r3.2.2]; omega)
    refine .skip (hK15 _ _ (.seq (fun K17 hK17 => .block ?_)))
    refine .regionD mo_B (.qs [0, 1, 2, 3, 4, 5, 6, 7, 8, 9, 10, 11, 12, 13, 14] (.c 15 0 (.done))) (by kernel_rfl) ?_
    refine .mv rfl rfl (.q rfl (.fieldAddr fo_27_3_B rfl) (.q rfl (.lA on_24_B rfl) (.mv rfl rfl (.q rfl (.iN sl_24_A rfl rfl) (.q rfl (.lI on_2_A rfl) (.q rfl (.fieldAddr fo_27_3_B rfl) (.q rfl (.lA on_24_B rfl) (.mv rfl rfl (.mv rfl rfl (.q rfl (.iN sl_24_A rfl rfl) (.q rfl (.lI on_2_A rfl) (.q rfl (.i1 sl_24_A rfl rfl) (.q rfl (.lI on_2_A rfl) ?_)))))))))))))
    refine .q rfl (.idx1 sl_24_A (by first | assumption | exact SlA.of_row at_L9 (by first | rfl | (simp; done) | (simp <;> omega))) rfl rfl (by omega) (by omega)) ?_
    refine .r0 rfl rfl rfl (.storeI rfl sz_2_N rfl rfl (by assumption) (by first | omega | (simp <;> omega))) ?_
    rintro _ H12015 ⟨rfl, st12015, at12015⟩
    replace hst := hst.sA st12015
    replace lst2 := lst2.sA st12015
    replace at4 := st12015.s at4 ne_g4_gL9.ne
    replace at5 := st12015.s at5 ne_g5_gL9.ne
    clear hc hd hO
    have hc := hin.mono hst.low
    have hd := hin1.mono hst.low
    clear hb4 c34 i34
    have hb4 : Cat.At _ g4 0 c p := ⟨Mem.of_get at4, hc⟩
    clear hb5 c35 i35
    have hb5 : Cat.At _ g5 0 d q := ⟨Mem.of_get at5, hd⟩
    refine .done (hK17 _ _ (.region (.mv rfl (.q rfl (.aD rfl rfl rfl) (.mv rfl (.nil ?_))))))
    refine hKL2 ((x + 1, zs.set (c.idn.getD x 0).toNat (d.idn.getD (ob.getD x 0).toNat 0))) _ _ ?_ ?_ (.p rfl)
    ·
     refine ⟨lst2, by (rw [Nat.zero_add] at at12015; assumption), ?_⟩
     exact ⟨by omega, hT2⟩
    (dsimp only; omega)
   refine .exit (hK13 _ _ (.seq (fun K18 hK18 => .region ?_)))
   refine .q rfl (.loadM ag_27_D rfl ⟨rfl, Mem.of_get at4⟩) ?_
   refine .q rfl (.loadM ag_27_D rfl ⟨rfl, Mem.of_get at5⟩) ?_
   refine .mv rfl (.mv rfl ?_)
   refine .R rfl (.litA rfl sl_25_B ze_24_Hj rfl rfl rfl rfl) ?_
   rintro _ H62 ⟨g62, rfl, le62, ge62, at62⟩
   replace hst := hst.le le62
   replace hg := le62.2 _ _ hg
   replace at4 := le62.2 _ _ at4
   replace at5 := le62.2 _ _ at5
   replace at_L9 := le62.2 _ _ at_L9
   have lt_at62 := GHeap.ltg at62
   have hc := hin.mono hst.low
   have hd := hin1.mono hst.low
   have hb4 : Cat.At _ g4 0 c p := ⟨Mem.of_get at4, hc⟩
   have hb5 : Cat.At _ g5 0 d q := ⟨Mem.of_get at5, hd⟩
   refine .call rfl rfl rfl rfl @Try.call133 rfl (l06Arrows_all c.src.length 0 (hin.mono (hst.low.hi (by rw [GHeap.next_set]; omega))) (hin1.mono (hst.low.hi (by rw [GHeap.next_set]; omega))) (ho.mono (hst.low.hi (by rw [GHeap.next_set]; omega))) (Ints.of_get (GHeap.get_erase_of at_L9 (by omega))) gc gd hN hM hT (by omega) (by omega) (by omega) (by assumption) (.nil _ _ _ _) (by omega) (by omega) (show H.next ≤ _ by omega)) ?_
   rintro _ H63 ⟨gR63, nR63, cR63, rfl, st63, or63, nn63, at63, ll63⟩
   obtain rfl := ll63.1
   have nx_H63 := st63.nx
   replace hst := hst.sA st63
   replace hg := st63.s hg
   replace at4 := st63.s at4
   replace at5 := st63.s at5
   clear hc hd
   have hc := hin.mono hst.low
   have hd := hin1.mono hst.low
   clear hb4
   have hb4 : Cat.At _ g4 0 c p := ⟨Mem.of_get at4, hc⟩
   clear hb5
   have hb5 : Cat.At _ g5 0 d q := ⟨Mem.of_get at5, hd⟩
   refine .mv rfl (.nil (hK18 _ _ (.seq (fun K19 hK19 => .seq (fun K20 hK20 => .region (.mv rfl (.nil (hK20 _ _ (.block ?_)))))))))
   refine .loopF (σ := Nat × Nat × List Value × Nat × Nat) [2, 4, 5, 12] (fun (i, n5, cs5, gL3, nL3) => [(13, some (.int .i64 (i : Int))), (3, some (.slice (some ⟨gL3, 0, none⟩) nL3 nL3))]) (fun (i, n5, cs5, gL3, nL3) H' => St [g] H63 H' ∧ H'.get gL3 = some (.row (cs5) 40 true) ∧ (gL3 = g ∨ H63.next ≤ gL3) ∧ nL3 = n5 ∧ i ≤ cR63.length ∧ n5 ≤ 201 ∧ FLc 2 N B (H'.set gL3 none) cs5 n5) (fun (i, n5, cs5, gL3, nL3) => cR63.length - i) ((0, n, cs, _, _)) rfl (.p rfl) ?_ ?_
   ·
    refine ⟨.refl _ _, by assumption, .inl rfl, by rfl, ?_⟩
    exact ⟨by omega, by omega, hL.le (hst.erase (.inl rfl))⟩
   rintro ⟨i, n5, cs5, gL3, nL3⟩ HL3 ⟨lst3, at_L3, pl_L3, ln_L3, hI⟩ KL3 hKL3
   dsimp only [cA, nA]
   have nx_HL3 := lst3.nx
   replace hst := hst.sA lst3
   have ne_g4_g : NE g4 g := .a
   replace at4 := lst3.s at4 ne_g4_g.ne
   have ne_g5_g : NE g5 g := .a
   replace at5 := lst3.s at5 ne_g5_g.ne
   replace at63 := lst3.s at63
   have lt_at_L3 := GHeap.ltg at_L3
   clear hc hd
   have hc := hin.mono hst.low
   have hd := hin1.mono hst.low
   have hO := ho.mono hst.low
   clear hb4
   have hb4 : Cat.At _ g4 0 c p := ⟨Mem.of_get at4, hc⟩
   clear hb5
   have hb5 : Cat.At _ g5 0 d q := ⟨Mem.of_get at5, hd⟩
   have rk := St.refl [gL3] HL3
   obtain ⟨-, hn5, hL5⟩ := hI
   have q10 := hL5.1
   refine .seq (fun K21 hK21 => .seq (fun K22 hK22 => .region (.mv rfl (.mv rfl (.q rfl (.len sl_25_B rfl) (.q rfl (.cmp rfl rfl rfl) (.mv rfl ?_)))))))
   refine .split (fun h68 => ?_) (fun h68 => ?_)
   ·
    simp only [sps] at h68
    refine .qg rfl (.move rfl) (.qg rfl (.len sl_111_Zd rfl) (.qg rfl (.cmp rfl rfl rfl) (.q rfl (.pickT rfl rfl) (.nil (hK22 _ _ ?_)))))
    refine .cond rfl ?_ ?_ <;> intro h72
    ·
     simp only [sps] at h72
     obtain ⟨gx, zs3, e1, e2, e3, e4⟩ := ll63.2 i (by omega)
     have e5 := lst3.same _ _ ⟨by omega, trivial⟩ (GHeap.get_erase e4).2
     refine .skip (hK21 _ _ (.seq (fun K23 hK23 => .block ?_)))
     refine .regionD mo_B (.qs [0, 1, 2, 3, 4, 5, 6, 7] (.c 8 1 (.c 9 1 (.c 10 0 (.c 11 0 (.done)))))) (by kernel_rfl) ?_
     refine .mv rfl rfl ?_
     refine .q rfl (.loadM ag_27_D rfl ⟨rfl, Mem.of_get at4⟩) ?_
     refine .q rfl (.loadM ag_27_D rfl ⟨rfl, Mem.of_get at5⟩) ?_
     refine .mv rfl rfl (.mv rfl rfl (.mv rfl rfl ?_))
     refine .q rfl (.idxN sl_25_B (by first | exact (Intss.sl (by assumption)) | exact SlA.of_row at63 (by first | rfl | (simp; done) | (simp <;> omega))) rfl rfl (by omega)) ?_
     refine .q rfl (.load on_24_B rfl (by rw [GHeap.cell_of at63]; simpa using e1)) ?_
     refine .call1 rfl rfl rfl rfl rfl @Try.call129 rfl (l06MakeO_c hc hd hO (Ints.of_get e5) s1 s2 (by omega) (by omega)) ?_
     rintro _ H83 ⟨le83, p83, rfl, v83⟩
     have hbl := le83
     refine ⟨hbl, ?_⟩
     have nx_H83 := le83.1
     replace hst := hst.le le83
     replace lst3 := lst3.le le83
     replace rk := rk.le le83
     replace at4 := le83.2 _ _ at4
     replace at5 := le83.2 _ _ at5
     replace at_L3 := le83.2 _ _ at_L3
     have bs_v83 := v83
     have lv_v83 : Keep HL3.next H83 H83 := fun _ _ _ h => h
     clear hc hd hO
     have hc := hin.mono hst.low
     have hd := hin1.mono hst.low
     clear hb4
     have hb4 : Cat.At _ g4 0 c p := ⟨Mem.of_get at4, hc⟩
     clear hb5
     have hb5 : Cat.At _ g5 0 d q := ⟨Mem.of_get at5, hd⟩
     refine .c1 rfl rfl rfl rfl (.litA rfl sl_111_Zd ze_40_Hj rfl rfl rfl rfl) ?_
     rintro _ H84 ⟨g84, rfl, le84, ge84, at84⟩
     replace hbl := hbl.trans le84
     refine ⟨hbl, ?_⟩
     replace hst := hst.le le84
     replace lst3 := lst3.le le84
     replace rk := rk.le le84
     replace at4 := le84.2 _ _ at4
     replace at5 := le84.2 _ _ at5
     replace at_L3 := le84.2 _ _ at_L3
     replace lv_v83 := Keep.le lv_v83 le84
     have lt_at84 := GHeap.ltg at84
     clear hc hd
     have hc := hin.mono hst.low
     have hd := hin1.mono hst.low
     clear hb4
     have hb4 : Cat.At _ g4 0 c p := ⟨Mem.of_get at4, hc⟩
     clear hb5
     have hb5 : Cat.At _ g5 0 d q := ⟨Mem.of_get at5, hd⟩
     refine .c0 rfl rfl rfl rfl (.appendV rfl sl_111_Zd ze_40_Hj rfl by_40_Zd sl_111_Zd rfl rfl (by assumption) (by assumption) (by first | omega | (simp <;> omega)) rfl rfl (by omega) (by omega)) ?_
     rintro _ H85 ⟨g85, rfl, st85, ge85, at85⟩
     replace hst := hst.sA st85
     replace lst3 := lst3.sA st85
     replace rk := rk.sA st85
     have ne_g4_gL3 : NE g4 gL3 := .a
     replace at4 := st85.s at4 ne_g4_gL3.ne
     have ne_g5_gL3 : NE g5 gL3 := .a
     replace at5 := st85.s at5 ne_g5_gL3.ne
     replace lv_v83 := Keep.st lv_v83 st85 (fun k hb hk => ⟨by omega, trivial⟩)
     clear hc hd
     have hc := hin.mono hst.low
     have hd := hin1.mono hst.low
     clear hb4
     have hb4 : Cat.At _ g4 0 c p := ⟨Mem.of_get at4, hc⟩
     clear hb5
     have hb5 : Cat.At _ g5 0 d q := ⟨Mem.of_get at5, hd⟩
     refine .d0 rfl rfl rfl rfl (.quiet (.assign rfl) CIs.mk) (.done (hK23 _ _ (.region (.mv rfl (.q rfl (.aD rfl rfl rfl) (.mv rfl (.nil ?_)))))))
     refine hKL3 ((i + 1, n5 + 1, cs5 ++ Fun.cells ⟨c, d, ob, zs3⟩ p83, _, _)) _ _ ?_ ?_ (.p rfl)
     ·
      refine ⟨lst3, by assumption, by omega, by omega, ?_⟩
      exact ⟨by omega, by omega, (hL5.le (rk.erase (.inr (by omega)))).snoc ⟨gc.r, ⟨s1, s2, by show ob.length ≤ _; omega, by show zs3.length ≤ _; omega⟩, by show ob.length ≤ N; omega⟩ ((bs_v83.keep (lv_v83.erase_hi (by omega)) (Nat.le_refl _)).keep (.of_le (.refl _)) (by omega))⟩
     (dsimp only; omega)
    refine .exit (hK19 _ _ (.seq (fun K24 hK24 => .region (.mv rfl (.mv rfl (.nil (hK24 _ _ (.ret (hret _ _ (⟨_, rfl, ?_⟩))))))))))
    first
    | exact ⟨_, _, _, rfl, hst, .inl rfl, by omega, by assumption, hL.le (hst.erase (.inl rfl))⟩
    | exact ⟨_, _, _, rfl, hst, by omega, by omega, by assumption, by rw [ln_L3]; exact hL5⟩
    | exact ⟨_, _, _, rfl, hst, by omega, by omega, by assumption, by rw [ln_L3]; exact hL6⟩
   simp only [sps] at h68
   refine .z rfl (.z rfl (.z rfl (.q rfl (.pickF rfl rfl) (.nil (hK22 _ _ ?_)))))
   refine .condF rfl ?_
   refine .exit (hK19 _ _ (.seq (fun K25 hK25 => .region (.mv rfl (.mv rfl (.nil (hK25 _ _ (.ret (hret _ _ (⟨_, rfl, ?_⟩))))))))))
   first
   | exact ⟨_, _, _, rfl, hst, .inl rfl, by omega, by assumption, hL.le (hst.erase (.inl rfl))⟩
   | exact ⟨_, _, _, rfl, hst, by omega, by omega, by assumption, by rw [ln_L3]; exact hL5⟩
   | exact ⟨_, _, _, rfl, hst, by omega, by omega, by assumption, by rw [ln_L3]; exact hL6⟩
  simp only [sps] at h25
  refine .skip (hK5 _ _ (.seq (fun K26 hK26 => .seq (fun K27 hK27 => .region (.mv rfl (.nil (hK27 _ _ (.block ?_))))))))
  refine .loopF (σ := Nat × Nat × List Value × Nat × Nat) [2, 4, 5] (fun (y, n6, cs6, gL3, nL3) => [(14, some (.int .i64 (y : Int))), (3, some (.slice (some ⟨gL3, 0, none⟩) nL3 nL3))]) (fun (y, n6, cs6, gL3, nL3) H' => St [g] H5 H' ∧ H'.get gL3 = some (.row (cs6) 40 true) ∧ (gL3 = g ∨ H5.next ≤ gL3) ∧ nL3 = n6 ∧ y ≤ d.obj.toNat ∧ n6 ≤ 201 ∧ FLc 2 N B (H'.set gL3 none) cs6 n6) (fun (y, n6, cs6, gL3, nL3) => d.obj.toNat - y) ((0, n, cs, _, _)) rfl (.p rfl) ?_ ?_
  ·
   refine ⟨.refl _ _, by assumption, .inl rfl, by rfl, ?_⟩
   exact ⟨by omega, by omega, hL.le (hst.erase (.inl rfl))⟩
  rintro ⟨y, n6, cs6, gL3, nL3⟩ HL4 ⟨lst4, at_L3, pl_L3, ln_L3, hI⟩ KL4 hKL4
  dsimp only [cA, nA]
  have nx_HL4 := lst4.nx
  replace hst := hst.sA lst4
  have ne_g4_g : NE g4 g := .a
  replace at4 := lst4.s at4 ne_g4_g.ne
  have ne_g5_g : NE g5 g := .a
  replace at5 := lst4.s at5 ne_g5_g.ne
  have lt_at_L3 := GHeap.ltg at_L3
  have hc := hin.mono hst.low
  have hd := hin1.mono hst.low
  have hO := ho.mono hst.low
  have hb4 : Cat.At _ g4 0 c p := ⟨Mem.of_get at4, hc⟩
  have hb5 : Cat.At _ g5 0 d q := ⟨Mem.of_get at5, hd⟩
  obtain ⟨c05, -, -, -, -, -, -, -, -⟩ := hb5.get
  have rk := St.refl [gL3] HL4
  obtain ⟨hy, hn6, hL6⟩ := hI
  refine .seq (fun K28 hK28 => .seq (fun K29 hK29 => .region (.mv rfl (.q rfl (.fieldAddr fo_27_0_B rfl) (.q rfl (.lA on_2_A rfl) (.q rfl (.cmp rfl rfl rfl) (.mv rfl ?_)))))))
  refine .split (fun h91 => ?_) (fun h91 => ?_)
  ·
   simp only [sps] at h91
   refine .qg rfl (.move rfl) (.qg rfl (.len sl_111_Zd rfl) (.qg rfl (.cmp rfl rfl rfl) (.q rfl (.pickT rfl rfl) (.nil (hK29 _ _ ?_)))))
   refine .cond rfl ?_ ?_ <;> intro h95
   ·
    simp only [sps] at h95
    have hob2 : ∀ x, x < (ob ++ [(y : Int)]).length → 0 ≤ (ob ++ [(y : Int)]).getD x 0 ∧ (ob ++ [(y : Int)]).getD x 0 < d.obj := fun x hx => by
      rw [List.length_append, List.length_singleton] at hx
      rw [getD_snoc]
      split
      · exact hob x (by omega)
      · rw [if_pos (by omega)]; omega
    have hol2 : (ob ++ [(y : Int)]).length = ob.length + 1 := by rw [List.length_append]; rfl
    refine .skip (hK28 _ _ (.seq (fun K30 hK30 => .block ?_)))
    refine .regionD mo_B (.qs [0, 1, 2, 4, 7] (.or (.c 3 1 (.c 5 1 (.c 6 1 (.c 8 0 (.c 9 0 (.done)))))) (.c 5 1 (.c 3 1 (.c 6 1 (.c 8 0 (.c 9 0 (.done)))))))) (by kernel_rfl) ?_
    refine .cut [(2, some _), (4, some _), (5, some _), (14, some _), (87, some _), (88, some _), (89, some _), (90, some _), (91, some _), (92, some _), (93, some _), (94, some _), (95, some _)] (.p rfl) (fun rest fr' H' => ∃ (gR : Nat) (nR : Nat) (cR : List Value), Sub ((3, some (.slice (some ⟨gR, 0, none⟩) nR nR)) :: rest) fr' ∧ St [gL3] HL4 H' ∧ (gR = gL3 ∨ HL4.next ≤ gR) ∧ nR ≤ 201 ∧ H'.get gR = some (.row cR 40 true) ∧ FLc 2 N B (H'.set gR none) cR nR) ?_ ?_
    ·
     have hf0 := St.refl [gL3] HL4
     refine .q rfl (.loadM ag_27_D rfl ⟨rfl, Mem.of_get at4⟩) ?_
     refine .q rfl (.loadM ag_27_D rfl ⟨rfl, Mem.of_get at5⟩) ?_
     refine .qB rfl (.refl _) (.move rfl) (.qB rfl (.refl _) (.move rfl) (.qB rfl (.refl _) (.move rfl) ?_))
     refine .orI ?_ ?_
     ·
      refine .call1 rfl rfl rfl rfl rfl @Try.call108 rfl (l01Own_c hO) ?_
      rintro _ H101 ⟨le101, g101, rfl, at101, ge101⟩
      have hbl := le101
      refine ⟨hbl, ?_⟩
      replace hst := hst.le le101
      replace rk := rk.le le101
      replace hf0 := hf0.le le101
      replace at4 := le101.2 _ _ at4
      replace at5 := le101.2 _ _ at5
      replace at_L3 := le101.2 _ _ at_L3
      have lt_at101 := GHeap.ltg at101
      clear hc hd hO
      have hc := hin.mono hst.low
      have hd := hin1.mono hst.low
      clear hb4
      have hb4 : Cat.At _ g4 0 c p := ⟨Mem.of_get at4, hc⟩
      clear hb5 c05
      have hb5 : Cat.At _ g5 0 d q := ⟨Mem.of_get at5, hd⟩
      refine .c1 rfl rfl rfl rfl (.litA rfl sl_24_A ze_2_L rfl rfl rfl rfl) ?_
      rintro _ H103 ⟨g103, rfl, le103, ge103, at103⟩
      replace hbl := hbl.trans le103
      refine ⟨hbl, ?_⟩
      replace hst := hst.le le103
      replace rk := rk.le le103
      replace hf0 := hf0.le le103
      replace at4 := le103.2 _ _ at4
      replace at5 := le103.2 _ _ at5
      replace at_L3 := le103.2 _ _ at_L3
      replace at101 := le103.2 _ _ at101
      have lt_at103 := GHeap.ltg at103
      clear hc hd
      have hc := hin.mono hst.low
      have hd := hin1.mono hst.low
      clear hb4
      have hb4 : Cat.At _ g4 0 c p := ⟨Mem.of_get at4, hc⟩
      clear hb5
      have hb5 : Cat.At _ g5 0 d q := ⟨Mem.of_get at5, hd⟩
      refine .c1 rfl rfl rfl rfl (.apI rfl sl_24_A ze_2_L rfl by_2_L sl_24_A rfl rfl) ?_
      rintro _ H104 ⟨g104, rfl, st104, ge104, at104⟩
      replace hbl := hbl.st st104 (fun k hk => ⟨by omega, trivial⟩)
      refine ⟨hbl, ?_⟩
      replace hst := hst.sA st104
      replace rk := rk.sA st104
      replace hf0 := hf0.sA st104
      replace at4 := st104.s at4
      replace at5 := st104.s at5
      replace at_L3 := st104.s at_L3
      have lt_at104 := GHeap.ltg at104
      clear hc hd
      have hc := hin.mono hst.low
      have hd := hin1.mono hst.low
      clear hb4
      have hb4 : Cat.At _ g4 0 c p := ⟨Mem.of_get at4, hc⟩
      clear hb5
      have hb5 : Cat.At _ g5 0 d q := ⟨Mem.of_get at5, hd⟩
      refine .call0 rfl rfl rfl rfl rfl @Try.call128 rfl (ih (r - 1) (by omega) (hin.mono (hst.erase (by omega))) (hin1.mono (hst.erase (by omega))) (Ints.of_get (GHeap.get_erase_of (by first | exact at104 | exact at104x2) (by omega))) gc gd hN hM hob2 (by omega) (by omega) (by assumption) (by rw [ln_L3]; exact hL6.le (rk.erase (.inl rfl))) (by omega) (by omega) (by omega)) ?_
      rintro _ H106 ⟨gR106, nR106, cR106, rfl, st106, or106, nn106, at106, ll106⟩
      replace hst := hst.sA st106
      replace hf0 := hf0.sA st106
      have ne_g4_gL3 : NE g4 gL3 := .a
      replace at4 := st106.s at4 ne_g4_gL3.ne
      have ne_g5_gL3 : NE g5 gL3 := .a
      replace at5 := st106.s at5 ne_g5_gL3.ne
      clear hc hd
      have hc := hin.mono hst.low
      have hd := hin1.mono hst.low
      clear hb4
      have hb4 : Cat.At _ g4 0 c p := ⟨Mem.of_get at4, hc⟩
      clear hb5
      have hb5 : Cat.At _ g5 0 d q := ⟨Mem.of_get at5, hd⟩
      refine .d0 rfl rfl rfl rfl (.quiet (.assign rfl) CIs.mk) (.done ?_)
      exact ⟨_, _, _, (.p rfl), hf0, by omega, nn106, at106, ll106⟩
     refine .c1 rfl rfl rfl rfl (.litA rfl sl_24_A ze_2_L rfl rfl rfl rfl) ?_
     rintro _ H103x2 ⟨g103x2, rfl, le103x2, ge103x2, at103x2⟩
     have hbl := le103x2
     refine ⟨hbl, ?_⟩
     replace hst := hst.le le103x2
     replace rk := rk.le le103x2
     replace hf0 := hf0.le le103x2
     replace at4 := le103x2.2 _ _ at4
     replace at5 := le103x2.2 _ _ at5
     replace at_L3 := le103x2.2 _ _ at_L3
     have lt_at103x2 := GHeap.ltg at103x2
     have hc := hin.mono hst.low
     have hd := hin1.mono hst.low
     have hO := ho.mono hst.low
     have hb4 : Cat.At _ g4 0 c p := ⟨Mem.of_get at4, hc⟩
     have hb5 : Cat.At _ g5 0 d q := ⟨Mem.of_get at5, hd⟩
     refine .call1 rfl rfl rfl rfl rfl @Try.call108 rfl (l01Own_c hO) ?_
     rintro _ H101x2 ⟨le101x2, g101x2, rfl, at101x2, ge101x2⟩
     replace hbl := hbl.trans le101x2
     refine ⟨hbl, ?_⟩
     replace hst := hst.le le101x2
     replace rk := rk.le le101x2
     replace hf0 := hf0.le le101x2
     replace at4 := le101x2.2 _ _ at4
     replace at5 := le101x2.2 _ _ at5
     replace at_L3 := le101x2.2 _ _ at_L3
     replace at103x2 := le101x2.2 _ _ at103x2
     have lt_at101x2 := GHeap.ltg at101x2
     clear hc hd hO
     have hc := hin.mono hst.low
     have hd := hin1.mono hst.low
     clear hb4
     have hb4 : Cat.At _ g4 0 c p := ⟨Mem.of_get at4, hc⟩
     clear hb5
     have hb5 : Cat.At _ g5 0 d q := ⟨Mem.of_get at5, hd⟩
     refine .c1 rfl rfl rfl rfl (.apI rfl sl_24_A ze_2_L rfl by_2_L sl_24_A rfl rfl) ?_
     rintro _ H104x2 ⟨g104x2, rfl, st104x2, ge104x2, at104x2⟩
     replace hbl := hbl.st st104x2 (fun k hk => ⟨by omega, trivial⟩)
     refine ⟨hbl, ?_⟩
     replace hst := hst.sA st104x2
     replace rk := rk.sA st104x2
     replace hf0 := hf0.sA st104x2
     replace at4 := st104x2.s at4
     replace at5 := st104x2.s at5
     replace at_L3 := st104x2.s at_L3
     have lt_at104x2 := GHeap.ltg at104x2
     clear hc hd
     have hc := hin.mono hst.low
     have hd := hin1.mono hst.low
     clear hb4
     have hb4 : Cat.At _ g4 0 c p := ⟨Mem.of_get at4, hc⟩
     clear hb5
     have hb5 : Cat.At _ g5 0 d q := ⟨Mem.of_get at5, hd⟩
     refine .call0 rfl rfl rfl rfl rfl @Try.call128 rfl (ih (r - 1) (by omega) (hin.mono (hst.erase (by omega))) (hin1.mono (hst.erase (by omega))) (Ints.of_get (GHeap.get_erase_of (by first | exact at104 | exact at104x2) (by omega))) gc gd hN hM hob2 (by omega) (by omega) (by assumption) (by rw [ln_L3]; exact hL6.le (rk.erase (.inl rfl))) (by omega) (by omega) (by omega)) ?_
     rintro _ H106x2 ⟨gR106x2, nR106x2, cR106x2, rfl, st106x2, or106x2, nn106x2, at106x2, ll106x2⟩
     replace hst := hst.sA st106x2
     replace hf0 := hf0.sA st106x2
     have ne_g4_gL3 : NE g4 gL3 := .a
     replace at4 := st106x2.s at4 ne_g4_gL3.ne
     have ne_g5_gL3 : NE g5 gL3 := .a
     replace at5 := st106x2.s at5 ne_g5_gL3.ne
     clear hc hd
     have hc := hin.mono hst.low
     have hd := hin1.mono hst.low
     clear hb4
     have hb4 : Cat.At _ g4 0 c p := ⟨Mem.of_get at4, hc⟩
     clear hb5
     have hb5 : Cat.At _ g5 0 d q := ⟨Mem.of_get at5, hd⟩
     refine .d0 rfl rfl rfl rfl (.quiet (.assign rfl) CIs.mk) (.done ?_)
     exact ⟨_, _, _, (.p rfl), hf0, by omega, nn106x2, at106x2, ll106x2⟩
    rintro fr922 H922 ⟨gR22, nR22, cR22, hsub922, st922, or922, nn922, at922, ll922⟩
    replace hst := hst.sA st922
    replace lst4 := lst4.sA st922
    have ne_g4_gL3 : NE g4 gL3 := .a
    replace at4 := st922.s at4 ne_g4_gL3.ne
    have ne_g5_gL3 : NE g5 gL3 := .a
    replace at5 := st922.s at5 ne_g5_gL3.ne
    have hc := hin.mono hst.low
    have hd := hin1.mono hst.low
    have hb4 : Cat.At _ g4 0 c p := ⟨Mem.of_get at4, hc⟩
    have hb5 : Cat.At _ g5 0 d q := ⟨Mem.of_get at5, hd⟩
    refine hK30 _ _ ?_
    refine .forget hsub922 ?_
    refine .region (.mv rfl (.q rfl (.aD rfl rfl rfl) (.mv rfl (.nil ?_))))
    refine hKL4 ((y + 1, nR22, cR22, _, _)) _ _ ?_ ?_ (.p rfl)
    ·
     refine ⟨lst4, by assumption, by omega, by omega, ?_⟩
     exact ⟨by omega, by omega, by assumption⟩
    (dsimp only; omega)
   refine .exit (hK26 _ _ (.seq (fun K31 hK31 => .region (.mv rfl (.mv rfl (.nil (hK31 _ _ (.ret (hret _ _ (⟨_, rfl, ?_⟩))))))))))
   first
   | exact ⟨_, _, _, rfl, hst, .inl rfl, by omega, by assumption, hL.le (hst.erase (.inl rfl))⟩
   | exact ⟨_, _, _, rfl, hst, by omega, by omega, by assumption, by rw [ln_L3]; exact hL5⟩
   | exact ⟨_, _, _, rfl, hst, by omega, by omega, by assumption, by rw [ln_L3]; exact hL6⟩
  simp only [sps] at h91
  refine .z rfl (.z rfl (.z rfl (.q rfl (.pickF rfl rfl) (.nil (hK29 _ _ ?_)))))
  refine .condF rfl ?_
  refine .exit (hK26 _ _ (.seq (fun K32 hK32 => .region (.mv rfl (.mv rfl (.nil (hK32 _ _ (.ret (hret _ _ (⟨_, rfl, ?_⟩))))))))))
  first
  | exact ⟨_, _, _, rfl, hst, .inl rfl, by omega, by assumption, hL.le (hst.erase (.inl rfl))⟩
  | exact ⟨_, _, _, rfl, hst, by omega, by omega, by assumption, by rw [ln_L3]; exact hL5⟩
  | exact ⟨_, _, _, rfl, hst, by omega, by omega, by assumption, by rw [ln_L3]; exact hL6⟩
theorem l06Search_all : ∀ r, SrcSpec r
  | 0 => l06Search_step fun r' h => by omega
  | r + 1 => l06Search_step fun r' h => by
    obtain rfl : r' = r := by omega
    exact l06Search_all r'
end Go.Proofs.Ytfanjkbaemhbmaa
namespace Go.Proofs.Ytfanjkbaemhbmaa
open Go Go.GL Go.RowKit Go.Proofs
theorem l06All_c {N M : Nat} {c d : Cat} {p q : CatP} {H : GHeap} (hin : c.In H p) (hin1 : d.In H q) (gc : c.Good N) (gd : d.Good M) (hN : N ≤ 100000 := by omega) (hM : M ≤ 100000 := by omega) :
    GCalls Try.prog 111 [.agg (c.cells p).toArray, .agg (d.cells q).toArray] H (fun v H' => H.Le H' ∧ ∃ g n cs, v = .slice (some ⟨g, 0, none⟩) n n ∧ H.next ≤ g ∧ n ≤ 201 ∧ H'.get g = some (.row cs 40 true) ∧ FLc 2 N H.next H' cs n) := by
  have _ := gc.r.obj
  refine GCalls.body (N := 10) (rs := [.tmp 4]) Try.func111 rfl rfl rfl rfl (fun Qx t hend => ?_)
  refine .fg [0, 1] rfl ?_
  have e := GHeap.Le.refl H
  have b := hin
  have a := hin1
  refine .seq (fun K1 a1 => .region ?_)
  refine .R rfl (.boxR rfl sz_27_D rfl) ?_
  rintro _ _ ⟨g2, rfl, a4, _, f⟩
  replace e := e.trans a4
  have _ := GHeap.ltg f
  replace hin := b.mono e
  have j : Cat.At _ g2 0 c p := ⟨Mem.of_get f, hin⟩
  refine .R rfl (.boxR rfl sz_27_D rfl) ?_
  rintro _ _ ⟨g3, rfl, y, _, i⟩
  replace e := e.trans y
  replace f := y.2 _ _ f
  have _ := GHeap.ltg i
  replace hin := b.mono e
  replace hin1 := a.mono e
  clear j
  have j : Cat.At _ g2 0 c p := ⟨Mem.of_get f, hin⟩
  have m : Cat.At _ g3 0 d q := ⟨Mem.of_get i, hin1⟩
  refine .mv rfl (.nil (a1 _ _ (.seq (fun K2 a2 => .region ?_))))
  refine .q rfl (.loadM ag_27_D rfl ⟨rfl, Mem.of_get f⟩) ?_
  refine .q rfl (.loadM ag_27_D rfl ⟨rfl, Mem.of_get i⟩) ?_
  refine .R rfl (.litA rfl sl_24_A ze_2_L rfl rfl rfl rfl) ?_
  rintro _ H7 ⟨g7, rfl, w, _, l⟩
  replace e := e.trans w
  replace f := w.2 _ _ f
  replace i := w.2 _ _ i
  have _ := GHeap.ltg l
  replace hin := b.mono e
  replace hin1 := a.mono e
  clear j
  have j : Cat.At _ g2 0 c p := ⟨Mem.of_get f, hin⟩
  clear m
  have m : Cat.At _ g3 0 d q := ⟨Mem.of_get i, hin1⟩
  replace l : GHeap.get H7 g7 = some (.row (ints []) 2 true) := l
  refine .R rfl (.litA rfl sl_111_Zd ze_40_Hj rfl rfl rfl rfl) ?_
  rintro _ _ ⟨_, rfl, o, _, a3⟩
  have _ := o.1
  replace e := e.trans o
  replace f := o.2 _ _ f
  replace i := o.2 _ _ i
  replace l := o.2 _ _ l
  have _ := GHeap.ltg a3
  replace hin := b.mono e
  replace hin1 := a.mono e
  clear j
  have j : Cat.At _ g2 0 c p := ⟨Mem.of_get f, hin⟩
  clear m
  have m : Cat.At _ g3 0 d q := ⟨Mem.of_get i, hin1⟩
  refine .call rfl rfl rfl rfl @Try.call128 rfl (l06Search_all c.obj.toNat (ob := []) (cs := []) (b.mono (e.hi (by omega))) (a.mono (e.hi (by omega))) ((Ints.of_get (GHeap.get_erase_of l (by omega)))) gc gd hN hM (fun x h => by simp at h) (by simp; omega) (by simp; omega) (by assumption) (.nil _ _ _ _) (by omega) rfl (show H.next ≤ _ by omega)) ?_
  rintro _ _ ⟨_, _, _, rfl, u, _, _, z, a0⟩
  replace e := e.st u (fun k hk => ⟨by omega, trivial⟩)
  replace f := u.s f
  replace i := u.s i
  replace hin := b.mono e
  replace hin1 := a.mono e
  clear j
  have j : Cat.At _ g2 0 c p := ⟨Mem.of_get f, hin⟩
  clear m
  have m : Cat.At _ g3 0 d q := ⟨Mem.of_get i, hin1⟩
  refine .mv rfl (.nil (a2 _ _ (.ret (t _ _ (⟨_, rfl, ?_⟩)))))
  exact ⟨e, _, _, _, rfl, by omega, by omega, z, a0.le (GHeap.le_erase _ _)⟩
set_option maxHeartbeats 8000000 in
theorem l06Some_c {gS : Nat} {c : Cat} {p : CatP} {m n : Int} {H : GHeap} (hs : DSrc 86 H gS := by assumption) (hin : c.In (H.set gS none) p) (gc : c.Good 33000) :
    GCalls Try.prog 90 [.pointer (some ⟨gS, 0, none⟩), .agg (c.cells p).toArray, .int .i64 m, .int .i64 n] H (DrawnF 86 2 33000 gS H) := by
  have _ := hs.lt
  have _ := gc.r.obj
  have _ := gc.r.n
  have s1 := gc.small (by omega)
  refine GCalls.body (N := 48) (rs := [.cell 8 40]) Try.func90 rfl rfl rfl rfl (fun Qx c0 hend => ?_)
  refine .fg [0, 1, 2, 3] rfl ?_
  have b := St.refl [gS] H
  refine .seq (fun K1 f7 => .region ?_)
  refine .R rfl (.boxR rfl sz_27_D rfl) ?_
  rintro _ _ ⟨g5, rfl, f5, _, d⟩
  replace b := b.le f5
  have _ := GHeap.ltg d
  have hc := hin.mono b.low
  have l : Cat.At _ g5 0 c p := ⟨Mem.of_get d, hc⟩
  refine .R rfl (.allocR rfl ze_40_Hj rfl) ?_
  rintro _ H8 ⟨g8, rfl, d7, _, a0⟩
  replace b := b.le d7
  replace d := d7.2 _ _ d
  have _ := GHeap.ltg a0
  clear hc
  have hc := hin.mono b.low
  clear l
  have l : Cat.At _ g5 0 c p := ⟨Mem.of_get d, hc⟩
  refine .nil (f7 _ _ (.seq (fun K2 g2 => .region ?_)))
  have hs := (hs.le f5).le d7
  refine .mv rfl (.mv rfl (.mv rfl ?_))
  refine .call rfl rfl rfl rfl @Try.call70 rfl (l02SomeG_c) ?_
  rintro _ f6 ⟨d5, _, rfl, a7, d2, b5, hs⟩
  have _ := b5.nx
  replace b := b.sA b5
  have u : NE g5 gS := .a
  replace d := b5.s d u.ne
  have t : NE g8 gS := .a
  replace a0 := b5.s a0 t.ne
  clear hc
  have hc := hin.mono b.low
  clear l
  have l : Cat.At _ g5 0 c p := ⟨Mem.of_get d, hc⟩
  have b2 := d2
  have e : Keep H8.next f6 f6 := fun _ _ _ h => h
  refine .R rfl (.allocR rfl ze_27_I rfl) ?_
  rintro _ _ ⟨_, rfl, d1, _, _⟩
  have _ := d1.1
  replace b := b.le d1
  replace hs := hs.le d1
  replace d := d1.2 _ _ d
  replace a0 := d1.2 _ _ a0
  replace e := Keep.le e d1
  clear hc
  have hc := hin.mono b.low
  clear l
  have l : Cat.At _ g5 0 c p := ⟨Mem.of_get d, hc⟩
  refine .r0 rfl rfl (.fillA rfl sz_27_D rfl rfl rfl rfl) ?_
  rintro _ d3 ⟨rfl, w, i⟩
  have _ := w.nx
  replace b := b.sA w
  replace hs := hs.sA w
  replace d := w.s d
  replace a0 := w.s a0
  replace e := Keep.st e w (fun k hb hk => ⟨by omega, trivial⟩)
  replace d2 := b2.keep e (Nat.le_refl _)
  have _ := GHeap.ltg i
  clear hc
  have hc := hin.mono b.low
  clear l
  have l : Cat.At _ g5 0 c p := ⟨Mem.of_get d, hc⟩
  have d0 := d2.inn
  refine .nil (g2 _ _ ?_)
  refine .seqM (rest := [(0, some _), (5, some _), (8, some _), (9, some _)]) (M := fun rest fr' H' =>  Sub rest fr' ∧ d3.Le H') (.p rfl) ?_ ?_
  ·
   rintro _ e2 ⟨b4, y⟩
   have _ := y.1
   replace b := b.le y
   replace hs := hs.le y
   replace d := y.2 _ _ d
   replace a0 := y.2 _ _ a0
   replace i := y.2 _ _ i
   replace e := Keep.le e y
   clear hc
   have hc := hin.mono b.low
   clear l
   have l : Cat.At _ g5 0 c p := ⟨Mem.of_get d, hc⟩
   clear d0
   refine .forget b4 ?_
   refine .seq (fun K3 f3 => .seq (fun K4 f1 => .region (.q rfl (.fieldAddr fo_27_0_B rfl) (.q rfl (.load on_2_A rfl (Mem.of_get i 0 _ rfl)) (.q rfl (.cmp rfl rfl rfl) (.mv rfl ?_))))))
   refine .split (fun d9 => ?_) (fun d9 => ?_)
   ·
    try simp only [sps] at d9
    refine .qg rfl (.move rfl) ?_
    refine .callg rfl rfl rfl rfl rfl rfl @Try.call30 rfl (l01Next_c) ?_
    rintro _ e3 ⟨_, rfl, _, _, _, a8, hs⟩
    have _ := a8.nx
    replace b := b.sA a8
    replace d := a8.s d u.ne
    replace a0 := a8.s a0 t.ne
    replace i := a8.s i
    replace e := Keep.st e a8 (fun k hb hk => ⟨by omega, trivial⟩)
    clear hc
    have hc := hin.mono b.low
    clear l
    have l : Cat.At _ g5 0 c p := ⟨Mem.of_get d, hc⟩
    refine .qg rfl (.cmp rfl rfl rfl) (.q rfl (.pickT rfl rfl) (.nil (f1 _ _ ?_)))
    refine .cond rfl ?_ ?_ <;> intro e7
    ·
     try simp only [sps] at e7
     refine .seq (fun K5 g7 => ?_)
     refine .regionDB mo_B (.qs [0, 1, 2, 3, 4] (.c 5 1 (.c 6 0 (.c 7 0 (.done))))) (by kernel_rfl) (GHeap.le_erase e3 gS) ?_
     have c3 := GHeap.le_erase e3 gS
     have f8 := GHeap.get_erase_of (g := gS) d (by omega)
     have e8 := GHeap.get_erase_of (g := gS) i (by omega)
     refine .qB rfl c3 (.loadM ag_27_D rfl ⟨rfl, Mem.of_get f8⟩) ?_
     refine .qB rfl c3 (.loadM ag_27_D rfl ⟨rfl, Mem.of_get e8⟩) ?_
     refine .qB rfl c3 (.move rfl) (.qB rfl c3 (.fieldAddr fo_27_0_B rfl) (.qB rfl c3 (.load on_2_A rfl (Mem.of_get e8 0 _ rfl)) ?_))
     refine .call1 rfl rfl rfl rfl rfl @Try.call30 rfl (l01Next_c) ?_
     rintro _ g0 ⟨_, rfl, _, _, _, a6, hs⟩
     replace c3 := c3.erase_st a6
     refine ⟨c3, ?_⟩
     have _ := a6.nx
     replace b := b.sA a6
     replace d := a6.s d u.ne
     replace a0 := a6.s a0 t.ne
     replace e := Keep.st e a6 (fun k hb hk => ⟨by omega, trivial⟩)
     replace d2 := b2.keep e (Nat.le_refl _)
     clear hc
     have hc := hin.mono b.low
     clear l
     have l : Cat.At _ g5 0 c p := ⟨Mem.of_get d, hc⟩
     have d0 := d2.inn
     refine .call0 rfl rfl rfl rfl rfl @Try.call112 rfl (l06ConstantO_c hc d0 gc a7) ?_
     rintro _ e5 ⟨b8, _, rfl, f4⟩
     replace b := b.le b8
     replace hs := hs.le b8
     replace d := b8.2 _ _ d
     replace a0 := b8.2 _ _ a0
     have c9 := f4
     have a5 : Keep g0.next e5 e5 := fun _ _ _ h => h
     clear hc
     have hc := hin.mono b.low
     clear l
     have l : Cat.At _ g5 0 c p := ⟨Mem.of_get d, hc⟩
     clear d0
     refine .r0 rfl rfl rfl (.fillA rfl sz_40_I rfl rfl rfl rfl) ?_
     rintro _ _ ⟨rfl, a3, c6⟩
     replace b := b.sA a3
     replace hs := hs.sA a3
     have f : NE g5 g8 := .a
     replace d := a3.s d f.ne
     replace a5 := Keep.st a5 a3 (fun k hb hk => ⟨by omega, trivial⟩)
     replace f4 := c9.keep a5 (Nat.le_refl _)
     clear hc
     have hc := hin.mono b.low
     clear l
     have l : Cat.At _ g5 0 c p := ⟨Mem.of_get d, hc⟩
     refine .done (g7 _ _ (.ret (c0 _ _ (⟨_, _, _, _, rfl, ag_40_Hj, (by rfl), (Mem.of_get c6), ?_⟩))))
     first
     | exact ⟨_, _, rfl, c1, (b6.keep (fun k o hb hk => j.same k o ⟨by omega, trivial⟩ hk) (Nat.le_refl _)).keep (.of_le (.refl _)) (by omega), b, hs⟩
     | exact ⟨_, _, rfl, ⟨gc.r, ⟨s1, a7.small (by omega), by simp; omega, by simp; omega⟩, by simp; omega⟩, (by assumption : FunO _ _ _ ⟨c, d5, _, _⟩ _).keep (.of_le (.refl _)) (by omega), b, hs⟩
     | exact ⟨_, _, rfl, ⟨gc.r, ⟨s1, s1, by simp; omega, by simp; omega⟩, by simp; omega⟩, (by assumption : FunO _ _ _ ⟨c, c, _, _⟩ _).keep (.of_le (.refl _)) (by omega), b, hs⟩
    try simp only [sps] at e7
    refine .skip (f3 _ _ (.seq (fun K6 g1 => .region ?_)))
    refine .q rfl (.loadM ag_27_D rfl ⟨rfl, Mem.of_get d⟩) ?_
    refine .call rfl rfl rfl rfl @Try.call113 rfl (l06SelfO_c hc gc) ?_
    rintro _ e9 ⟨b7, _, rfl, f2⟩
    replace b := b.le b7
    replace hs := hs.le b7
    replace d := b7.2 _ _ d
    replace a0 := b7.2 _ _ a0
    have c7 := f2
    have a4 : Keep e3.next e9 e9 := fun _ _ _ h => h
    clear hc
    have hc := hin.mono b.low
    have l : Cat.At _ g5 0 c p := ⟨Mem.of_get d, hc⟩
    refine .r0 rfl rfl (.fillA rfl sz_40_I rfl rfl rfl rfl) ?_
    rintro _ _ ⟨rfl, a1, c5⟩
    replace b := b.sA a1
    replace hs := hs.sA a1
    have f : NE g5 g8 := .a
    replace d := a1.s d f.ne
    replace a4 := Keep.st a4 a1 (fun k hb hk => ⟨by omega, trivial⟩)
    replace f2 := c7.keep a4 (Nat.le_refl _)
    clear hc
    have hc := hin.mono b.low
    clear l
    have l : Cat.At _ g5 0 c p := ⟨Mem.of_get d, hc⟩
    refine .nil (g1 _ _ (.ret (c0 _ _ (⟨_, _, _, _, rfl, ag_40_Hj, (by rfl), (Mem.of_get c5), ?_⟩))))
    first
    | exact ⟨_, _, rfl, c1, (b6.keep (fun k o hb hk => j.same k o ⟨by omega, trivial⟩ hk) (Nat.le_refl _)).keep (.of_le (.refl _)) (by omega), b, hs⟩
    | exact ⟨_, _, rfl, ⟨gc.r, ⟨s1, a7.small (by omega), by simp; omega, by simp; omega⟩, by simp; omega⟩, (by assumption : FunO _ _ _ ⟨c, d5, _, _⟩ _).keep (.of_le (.refl _)) (by omega), b, hs⟩
    | exact ⟨_, _, rfl, ⟨gc.r, ⟨s1, s1, by simp; omega, by simp; omega⟩, by simp; omega⟩, (by assumption : FunO _ _ _ ⟨c, c, _, _⟩ _).keep (.of_le (.refl _)) (by omega), b, hs⟩
   try simp only [sps] at d9
   refine .z rfl (.z rfl (.z rfl (.q rfl (.pickF rfl rfl) (.nil (f1 _ _ ?_)))))
   refine .condF rfl ?_
   refine .skip (f3 _ _ (.seq (fun K7 g4 => .region ?_)))
   refine .q rfl (.loadM ag_27_D rfl ⟨rfl, Mem.of_get d⟩) ?_
   refine .call rfl rfl rfl rfl @Try.call113 rfl (l06SelfO_c hc gc) ?_
   rintro _ c2 ⟨a2, _, rfl, c4⟩
   replace b := b.le a2
   replace hs := hs.le a2
   replace d := a2.2 _ _ d
   replace a0 := a2.2 _ _ a0
   have b1 := c4
   have x : Keep e2.next c2 c2 := fun _ _ _ h => h
   clear hc
   have hc := hin.mono b.low
   have l : Cat.At _ g5 0 c p := ⟨Mem.of_get d, hc⟩
   refine .r0 rfl rfl (.fillA rfl sz_40_I rfl rfl rfl rfl) ?_
   rintro _ _ ⟨rfl, v, b0⟩
   replace b := b.sA v
   replace hs := hs.sA v
   have f : NE g5 g8 := .a
   replace d := v.s d f.ne
   replace x := Keep.st x v (fun k hb hk => ⟨by omega, trivial⟩)
   replace c4 := b1.keep x (Nat.le_refl _)
   clear hc
   have hc := hin.mono b.low
   clear l
   have l : Cat.At _ g5 0 c p := ⟨Mem.of_get d, hc⟩
   refine .nil (g4 _ _ (.ret (c0 _ _ (⟨_, _, _, _, rfl, ag_40_Hj, (by rfl), (Mem.of_get b0), ?_⟩))))
   first
   | exact ⟨_, _, rfl, c1, (b6.keep (fun k o hb hk => j.same k o ⟨by omega, trivial⟩ hk) (Nat.le_refl _)).keep (.of_le (.refl _)) (by omega), b, hs⟩
   | exact ⟨_, _, rfl, ⟨gc.r, ⟨s1, a7.small (by omega), by simp; omega, by simp; omega⟩, by simp; omega⟩, (by assumption : FunO _ _ _ ⟨c, d5, _, _⟩ _).keep (.of_le (.refl _)) (by omega), b, hs⟩
   | exact ⟨_, _, rfl, ⟨gc.r, ⟨s1, s1, by simp; omega, by simp; omega⟩, by simp; omega⟩, (by assumption : FunO _ _ _ ⟨c, c, _, _⟩ _).keep (.of_le (.refl _)) (by omega), b, hs⟩
  refine .seq (fun K8 f9 => .region ?_)
  refine .q rfl (.loadM ag_27_D rfl ⟨rfl, Mem.of_get d⟩) ?_
  refine .q rfl (.loadM ag_27_D rfl ⟨rfl, Mem.of_get i⟩) ?_
  refine .call rfl rfl rfl rfl @Try.call110 rfl (l06Small_c hc d0 gc) ?_
  rintro _ _ ⟨⟨_, rfl⟩, rfl⟩
  refine .nil (f9 _ _ ?_)
  refine .cond rfl ?_ ?_ <;> intro e6
  ·
   try simp only [sps] at e6
   refine .seq (fun K9 g6 => .region ?_)
   refine .q rfl (.loadM ag_27_D rfl ⟨rfl, Mem.of_get d⟩) ?_
   refine .q rfl (.loadM ag_27_D rfl ⟨rfl, Mem.of_get i⟩) ?_
   refine .call rfl rfl rfl rfl @Try.call111 rfl (l06All_c hc d0 gc a7) ?_
   rintro _ _ ⟨a9, _, _, _, rfl, _, _, b9, d4⟩
   replace b := b.le a9
   replace hs := hs.le a9
   replace d := a9.2 _ _ d
   replace a0 := a9.2 _ _ a0
   clear hc
   have hc := hin.mono b.low
   have l : Cat.At _ g5 0 c p := ⟨Mem.of_get d, hc⟩
   clear d0
   refine .mv rfl (.nil (g6 _ _ (.seq (fun K10 d6 => .region (.mv rfl (.q rfl (.len sl_111_Zd rfl) (.q rfl (.cmp rfl rfl rfl) (.nil (d6 _ _ ?_)))))))))
   refine .cond rfl ?_ ?_ <;> intro f0
   ·
    try simp only [sps] at f0
    refine .seq (fun K11 e0 => .region (.mv rfl (.mv rfl (.mv rfl (.q rfl (.len sl_111_Zd rfl) ?_)))))
    refine .call rfl rfl rfl rfl @Try.call30 rfl (l01Next_c) ?_
    rintro _ g3 ⟨_, rfl, e4, d8, _, b3, hs⟩
    replace b := b.sA b3
    replace d := b3.s d u.ne
    replace a0 := b3.s a0 t.ne
    replace b9 := b3.s b9
    clear hc
    have hc := hin.mono b.low
    clear l
    have l : Cat.At _ g5 0 c p := ⟨Mem.of_get d, hc⟩
    obtain ⟨_, _, e1, c1, b6⟩ := (d4.keep (H' := g3) (fun k o hb hk => b3.same k o ⟨by omega, trivial⟩ hk)).memI b9 e4 (d8 (by omega))
    have sA := (d4.slA b9)
    refine .q rfl (.idx sl_111_Zd (by assumption) (by omega) rfl rfl (by omega) (by omega) rfl) ?_
    refine .q rfl (.loadM ag_40_Hj rfl e1) ?_
    refine .r0 rfl rfl (.fillA rfl sz_40_I rfl rfl rfl rfl) ?_
    rintro _ _ ⟨rfl, j, c8⟩
    replace b := b.sA j
    replace hs := hs.sA j
    have f : NE g5 g8 := .a
    replace d := j.s d f.ne
    clear hc
    have hc := hin.mono b.low
    clear l
    have l : Cat.At _ g5 0 c p := ⟨Mem.of_get d, hc⟩
    refine .nil (e0 _ _ (.ret (c0 _ _ (⟨_, _, _, _, rfl, ag_40_Hj, (by rfl), (Mem.of_get c8), ?_⟩))))
    first
    | exact ⟨_, _, rfl, c1, (b6.keep (fun k o hb hk => j.same k o ⟨by omega, trivial⟩ hk) (Nat.le_refl _)).keep (.of_le (.refl _)) (by omega), b, hs⟩
    | exact ⟨_, _, rfl, ⟨gc.r, ⟨s1, a7.small (by omega), by simp; omega, by simp; omega⟩, by simp; omega⟩, (by assumption : FunO _ _ _ ⟨c, d5, _, _⟩ _).keep (.of_le (.refl _)) (by omega), b, hs⟩
    | exact ⟨_, _, rfl, ⟨gc.r, ⟨s1, s1, by simp; omega, by simp; omega⟩, by simp; omega⟩, (by assumption : FunO _ _ _ ⟨c, c, _, _⟩ _).keep (.of_le (.refl _)) (by omega), b, hs⟩
   try simp only [sps] at f0
   refine .skip ?_
   exact ⟨(.p rfl), by first | exact .refl _ | exact a9⟩
  try simp only [sps] at e6
  refine .skip ?_
  exact ⟨(.p rfl), by first | exact .refl _ | exact a9⟩
set_option maxHeartbeats 8000000 in
theorem l06Draw_c {gS : Nat} {H : GHeap} (hs : DSrc 86 H gS := by assumption) :
    GCalls Try.prog 55 [.pointer (some ⟨gS, 0, none⟩)] H (DrawnV 86 gS H) := by
  have _ := hs.lt
  refine GCalls.body (N := 46) (rs := [.cell 2 40]) Try.func55 rfl rfl rfl rfl (fun Qx c1 hend => ?_)
  refine .fg [0] rfl ?_
  have i := St.refl [gS] H
  refine .seq (fun K1 e5 => .region ?_)
  refine .R rfl (.allocR rfl ze_40_Hj rfl) ?_
  rintro _ H2 ⟨g2, rfl, e2, _, a1⟩
  replace i := i.le e2
  have _ := GHeap.ltg a1
  refine .nil (e5 _ _ (.seq (fun K2 e9 => .region ?_)))
  have hs := hs.le e2
  refine .mv rfl (.mv rfl ?_)
  refine .call rfl rfl rfl rfl @Try.call70 rfl (l02SomeG_c) ?_
  rintro _ H7 ⟨_, _, rfl, f7, v7, c9, hs⟩
  have _ := c9.nx
  replace i := i.sA c9
  have l : NE g2 gS := .a
  replace a1 := c9.s a1 l.ne
  refine .call rfl rfl rfl rfl @Try.call90 rfl (l06Some_c (hin := ((v7.keep (b' := H2.next) (fun k o hb hk => GHeap.get_erase_of hk (by omega)) (Nat.le_refl _)).inn)) (gc := f7)) ?_
  rintro _ H8 ⟨f8, p8, rfl, e6, v8, e0, hs⟩
  obtain ⟨ps, pt, _, _⟩ := p8
  obtain ⟨gO, gA, rfl, rfl, _, _, aO, aA, cS, cT⟩ := v8
  obtain ⟨rs, ⟨y1, y2, y3, y4⟩, _⟩ := e6
  have _ := y2.1
  have j := St.refl [gO, gA, g2, gS] H8
  replace i := i.sA e0
  replace a1 := e0.s a1 l.ne
  have _ := GHeap.ltg aO
  have _ := GHeap.ltg aA
  refine .R rfl (.allocR rfl ze_40_Hj rfl) ?_
  rintro _ _ ⟨g3, rfl, c6, _, _⟩
  replace i := i.le c6
  replace hs := hs.le c6
  replace j := j.le c6
  replace a1 := c6.2 _ _ a1
  replace aO := c6.2 _ _ aO
  replace aA := c6.2 _ _ aA
  refine .r0 rfl rfl (.fillA rfl sz_40_I rfl rfl rfl rfl) ?_
  rintro _ _ ⟨rfl, a2, d⟩
  replace i := i.sA a2
  replace hs := hs.sA a2
  replace j := j.sA a2
  have a4 : NE g2 g3 := .a
  replace a1 := a2.s a1 a4.ne
  have a6 : NE gO g3 := .a
  replace aO := a2.s aO a6.ne
  have y : NE gA g3 := .a
  replace aA := a2.s aA y.ne
  have _ := GHeap.ltg d
  refine .nil (e9 _ _ (.seq (fun K3 f2 => .region (.q rfl (.fieldAddr fo_40_3_G rfl) ?_))))
  refine .q rfl (.load on_24_B rfl (by first | assumption | exact Mem.of_get d 11 _ rfl)) ?_
  refine .q rfl (.len sl_24_A rfl) (.mv rfl (.nil (f2 _ _ (.seq (fun K4 c8 => .seq (fun K5 g0 => .region (.mv rfl ?_)))))))
  refine .call rfl rfl rfl rfl @Try.call30 rfl (l01Next_c) ?_
  rintro _ d6 ⟨_, rfl, _, _, _, b1, hs⟩
  have _ := b1.nx
  replace i := i.sA b1
  replace j := j.sA b1
  replace a1 := b1.s a1 l.ne
  have x : NE gO gS := .a
  replace aO := b1.s aO x.ne
  have a0 : NE gA gS := .a
  replace aA := b1.s aA a0.ne
  have z : NE g3 gS := .a
  replace d := b1.s d z.ne
  refine .nil (g0 _ _ (.block (.seq (fun K6 f6 => .region (.q rfl (.cmp rfl rfl rfl) (.mv rfl (.nil (f6 _ _ ?_))))))))
  refine .cond rfl ?_ ?_ <;> intro e1
  ·
   try simp only [sps] at e1
   refine .region (.mv rfl (.q rfl (.fieldAddr fo_40_0_G rfl) ?_))
   refine .q rfl (.loadM ag_27_D rfl ⟨rfl, (show Mem _ _ _ (f8.s.cells ps ++ _) from Mem.of_get d).left⟩) ?_
   refine .call rfl rfl rfl rfl @Try.call71 rfl (l02Bend_c (hin := (cS.keep (j.keep2 (b := H7.next) (fun k hk => ⟨by omega, by omega, trivial⟩)) (Nat.le_refl _)).inn) (hr := rs)) ?_
   rintro _ e3 ⟨f4, f1, rfl, d4, d5, b8, hs⟩
   replace i := i.sA b8
   replace j := j.sA b8
   replace a1 := b8.s a1 l.ne
   replace aO := b8.s aO x.ne
   replace aA := b8.s aA a0.ne
   replace d := b8.s d z.ne
   have c5 := d5
   have a5 : Keep d6.next e3 e3 := fun _ _ _ h => h
   refine .q rfl (.fieldAddr fo_40_0_G rfl) ?_
   refine .r0 rfl rfl (.storeNR rfl sz_27_D rfl rfl rfl rfl (by assumption) (by first | rfl | exact Nat.le_of_ble_eq_true rfl | simp)) ?_
   rintro _ _ ⟨rfl, w, c4⟩
   replace i := i.sA w
   replace j := j.sA w
   replace hs := hs.sA w
   replace a1 := w.s a1 a4.ne
   replace aO := w.s aO a6.ne
   replace aA := w.s aA y.ne
   replace a5 := Keep.st a5 w (fun k hb hk => ⟨by omega, trivial⟩)
   refine .nil (c8 _ _ (.seq (fun K7 f3 => .region ?_)))
   refine .q rfl (.loadM ag_40_Hj rfl ⟨rfl, Mem.of_get c4⟩) ?_
   refine .r0 rfl rfl (.fillA rfl sz_40_I rfl rfl rfl rfl) ?_
   rintro _ _ ⟨rfl, v, c3⟩
   replace i := i.sA v
   replace j := j.sA v
   replace hs := hs.sA v
   have e : NE gO g2 := .a
   replace aO := v.s aO e.ne
   have f : NE gA g2 := .a
   replace aA := v.s aA f.ne
   replace a5 := Keep.st a5 v (fun k hb hk => ⟨by omega, trivial⟩)
   replace d5 := c5.keep a5 (Nat.le_refl _)
   refine .nil (f3 _ _ (.ret (c1 _ _ (⟨_, _, _, _, rfl, ag_40_Hj, (by rfl), (Mem.of_get c3), ?_⟩))))
   have cT' := cT.keep (j.keep2 (b := H7.next) (fun k hk => ⟨by omega, by omega, trivial⟩)) (Nat.le_refl _)
   exact ⟨⟨f4, f8.t, f8.ob, f8.ar⟩, ⟨f1, pt, some ⟨gO, 0, none⟩, some ⟨gA, 0, none⟩⟩, rfl, ⟨d4, y2, y3, y4⟩, fun H' k => ⟨d5.all H' (k.mono (by omega)), (cT'.keep k (by omega)).inn, Ints.of_get (k _ _ (by omega) aO), Ints.of_get (k _ _ (by omega) aA)⟩, i, hs⟩
  try simp only [sps] at e1
  refine .seq (fun K8 f5 => .region (.q rfl (.cmp rfl rfl rfl) (.mv rfl (.nil (f5 _ _ ?_)))))
  refine .cond rfl ?_ ?_ <;> intro f0
  ·
   try simp only [sps] at f0
   refine .seq (fun K9 g1 => .region (.mv rfl (.q rfl (.cmp rfl rfl rfl) (.nil (g1 _ _ ?_)))))
   refine .cond rfl ?_ ?_ <;> intro e8
   ·
    try simp only [sps] at e8
    refine .regionDB mo_B (.qs [0, 1, 2, 3, 5, 6, 7, 8, 9, 10] (.c 4 1 (.c 11 1 (.q 12 (.c 13 0 (.done)))))) (by kernel_rfl) (GHeap.le_erase d6 gS) ?_
    have a7 := GHeap.le_erase d6 gS
    have d9 := GHeap.get_erase_of (g := gS) d (by omega)
    have aAB := GHeap.get_erase_of (g := gS) aA (by omega)
    refine .qB rfl a7 (.fieldAddr fo_40_3_G rfl) (.qB rfl a7 (.load on_24_B rfl (Mem.of_get d9 11 _ rfl)) (.qB rfl a7 (.move rfl) (.qB rfl a7 (.move rfl) (.qB rfl a7 (.move rfl) (.qB rfl a7 (.fieldAddr fo_40_1_G rfl) (.qB rfl a7 (.fieldAddr fo_27_1_B rfl) (.qB rfl a7 (.load on_24_B rfl (Mem.of_get d9 6 _ rfl)) (.qB rfl a7 (.len sl_24_A rfl) (.qB rfl a7 (.aD rfl rfl rfl) ?_)))))))))
    refine .call1 rfl rfl rfl rfl rfl @Try.call30 rfl (l01Next_c) ?_
    rintro _ _ ⟨e4, rfl, _, _, _, b3, hs⟩
    replace a7 := a7.erase_st b3
    refine ⟨a7, ?_⟩
    replace i := i.sA b3
    replace j := j.sA b3
    replace a1 := b3.s a1 l.ne
    replace aO := b3.s aO x.ne
    replace aA := b3.s aA a0.ne
    replace d := b3.s d z.ne
    refine .call1 rfl rfl rfl rfl rfl @Try.call30 rfl (l01Next_c) ?_
    rintro _ _ ⟨e7, rfl, _, _, _, b2, hs⟩
    replace a7 := a7.erase_st b2
    refine ⟨a7, ?_⟩
    replace i := i.sA b2
    replace j := j.sA b2
    replace a1 := b2.s a1 l.ne
    replace aO := b2.s aO x.ne
    replace aA := b2.s aA a0.ne
    replace d := b2.s d z.ne
    refine .qB rfl a7 (.idx1 sl_24_A (SlA.of_row aAB (by first | rfl | (simp; done) | (simp <;> omega))) rfl rfl (by omega) (by omega)) ?_
    refine .r0 rfl rfl rfl (.storeI rfl sz_2_N rfl rfl (by assumption) (by first | omega | (simp <;> omega))) ?_
    rintro _ _ ⟨rfl, a3, b0⟩
    replace i := i.sA a3
    replace j := j.sA a3
    replace hs := hs.sA a3
    have a8 : NE g2 gA := .a
    replace a1 := a3.s a1 a8.ne
    replace aO := a3.s aO
    replace d := a3.s d (Ne.symm y.ne)
    refine .done (c8 _ _ (.seq (fun K10 d0 => .region ?_)))
    refine .q rfl (.loadM ag_40_Hj rfl ⟨rfl, Mem.of_get d⟩) ?_
    refine .r0 rfl rfl (.fillA rfl sz_40_I rfl rfl rfl rfl) ?_
    rintro _ _ ⟨rfl, m, b6⟩
    replace i := i.sA m
    replace j := j.sA m
    replace hs := hs.sA m
    have e : NE gO g2 := .a
    replace aO := m.s aO e.ne
    replace b0 := m.s b0 (Ne.symm a8.ne)
    refine .nil (d0 _ _ (.ret (c1 _ _ (⟨_, _, _, _, rfl, ag_40_Hj, (by rfl), (Mem.of_get b6), ?_⟩))))
    have cS' := cS.keep (j.keep2 (b := H7.next) (fun k hk => ⟨by omega, by omega, trivial⟩)) (Nat.le_refl _)
    have cT' := cT.keep (j.keep2 (b := H7.next) (fun k hk => ⟨by omega, by omega, trivial⟩)) (Nat.le_refl _)
    exact ⟨⟨f8.s, f8.t, f8.ob, f8.ar.set (0 + e4.toNat) e7⟩, ⟨ps, pt, some ⟨gO, 0, none⟩, some ⟨gA, 0, none⟩⟩, by simp [Fun.cells], ⟨y1, y2, y3, by rw [List.length_set]; exact y4⟩, fun H' k => ⟨(cS'.keep k (by omega)).inn, (cT'.keep k (by omega)).inn, Ints.of_get (k _ _ (by omega) aO), Ints.of_get (k _ _ (by omega) b0)⟩, i, hs⟩
   refine .skip (c8 _ _ (.seq (fun K11 d8 => .region ?_)))
   refine .q rfl (.loadM ag_40_Hj rfl ⟨rfl, Mem.of_get d⟩) ?_
   refine .r0 rfl rfl (.fillA rfl sz_40_I rfl rfl rfl rfl) ?_
   rintro _ _ ⟨rfl, p, b5⟩
   replace i := i.sA p
   replace j := j.sA p
   replace hs := hs.sA p
   have e : NE gO g2 := .a
   replace aO := p.s aO e.ne
   have f : NE gA g2 := .a
   replace aA := p.s aA f.ne
   refine .nil (d8 _ _ (.ret (c1 _ _ (⟨_, _, _, _, rfl, ag_40_Hj, (by rfl), (Mem.of_get b5), ?_⟩))))
   have cS' := cS.keep (j.keep2 (b := H7.next) (fun k hk => ⟨by omega, by omega, trivial⟩)) (Nat.le_refl _)
   have cT' := cT.keep (j.keep2 (b := H7.next) (fun k hk => ⟨by omega, by omega, trivial⟩)) (Nat.le_refl _)
   exact ⟨f8, ⟨ps, pt, some ⟨gO, 0, none⟩, some ⟨gA, 0, none⟩⟩, rfl, ⟨y1, y2, y3, y4⟩, fun H' k => ⟨(cS'.keep k (by omega)).inn, (cT'.keep k (by omega)).inn, Ints.of_get (k _ _ (by omega) aO), Ints.of_get (k _ _ (by omega) aA)⟩, i, hs⟩
  refine .seq (fun K12 d2 => .region (.q rfl (.cmp rfl rfl rfl) (.mv rfl (.nil (d2 _ _ ?_)))))
  refine .cond rfl ?_ ?_ <;> intro h38
  ·
   refine .region (.q rfl (.fieldAddr fo_40_2_G rfl) ?_)
   refine .q rfl (.load on_24_B rfl (by first | assumption | exact Mem.of_get d 10 _ rfl)) ?_
   refine .R rfl (.litA rfl sl_24_A ze_2_L rfl rfl rfl rfl) ?_
   rintro _ _ ⟨_, rfl, a9, _, d3⟩
   replace i := i.le a9
   replace j := j.le a9
   replace hs := hs.le a9
   replace a1 := a9.2 _ _ a1
   replace aO := a9.2 _ _ aO
   replace aA := a9.2 _ _ aA
   replace d := a9.2 _ _ d
   have _ := GHeap.ltg d3
   refine .R rfl (.apI rfl sl_24_A ze_2_L rfl by_2_L sl_24_A rfl rfl) ?_
   rintro _ _ ⟨f9, rfl, c0, _, c2⟩
   replace i := i.sA c0
   replace j := j.sA c0
   replace hs := hs.sA c0
   replace a1 := c0.s a1
   replace aA := c0.s aA
   replace d := c0.s d (Ne.symm a6.ne)
   refine .q rfl (.fieldAddr fo_40_2_G rfl) ?_
   refine .r0 rfl rfl (.storeR rfl sz_24_Ch rfl rfl rfl (by assumption) (by first | exact Nat.le_of_ble_eq_true rfl | (simp; done) | (simp <;> omega))) ?_
   rintro _ _ ⟨rfl, u, b4⟩
   replace i := i.sA u
   replace j := j.sA u
   replace hs := hs.sA u
   replace a1 := u.s a1 a4.ne
   replace aA := u.s aA y.ne
   replace c2 := u.s c2
   try simp only [Nat.zero_add, List.set_cons_succ, List.set_cons_zero] at b4
   refine .nil (c8 _ _ (.seq (fun K13 d7 => .region ?_)))
   refine .q rfl (.loadM ag_40_Hj rfl ⟨rfl, Mem.of_get b4⟩) ?_
   refine .r0 rfl rfl (.fillA rfl sz_40_I rfl rfl rfl rfl) ?_
   rintro _ _ ⟨rfl, r, b9⟩
   replace i := i.sA r
   replace j := j.sA r
   replace hs := hs.sA r
   have f : NE gA g2 := .a
   replace aA := r.s aA f.ne
   replace c2 := r.s c2
   refine .nil (d7 _ _ (.ret (c1 _ _ (⟨_, _, _, _, rfl, ag_40_Hj, (by rfl), (Mem.of_get b9), ?_⟩))))
   have cS' := cS.keep (j.keep2 (b := H7.next) (fun k hk => ⟨by omega, by omega, trivial⟩)) (Nat.le_refl _)
   have cT' := cT.keep (j.keep2 (b := H7.next) (fun k hk => ⟨by omega, by omega, trivial⟩)) (Nat.le_refl _)
   exact ⟨⟨f8.s, f8.t, f8.ob ++ [0], f8.ar⟩, ⟨ps, pt, some ⟨f9, 0, none⟩, some ⟨gA, 0, none⟩⟩, by simp [Fun.cells]; rfl, ⟨y1, y2, by rw [List.length_append]; show _ + 1 ≤ _; omega, y4⟩, fun H' k => ⟨(cS'.keep k (by omega)).inn, (cT'.keep k (by omega)).inn, Ints.of_get (k _ _ (by omega) c2), Ints.of_get (k _ _ (by omega) aA)⟩, i, hs⟩
  refine .skip (c8 _ _ (.seq (fun K14 d1 => .region ?_)))
  refine .q rfl (.loadM ag_40_Hj rfl ⟨rfl, Mem.of_get d⟩) ?_
  refine .r0 rfl rfl (.fillA rfl sz_40_I rfl rfl rfl rfl) ?_
  rintro _ _ ⟨rfl, n, b7⟩
  replace i := i.sA n
  replace j := j.sA n
  replace hs := hs.sA n
  have e : NE gO g2 := .a
  replace aO := n.s aO e.ne
  have f : NE gA g2 := .a
  replace aA := n.s aA f.ne
  refine .nil (d1 _ _ (.ret (c1 _ _ (⟨_, _, _, _, rfl, ag_40_Hj, (by rfl), (Mem.of_get b7), ?_⟩))))
  have cS' := cS.keep (j.keep2 (b := H7.next) (fun k hk => ⟨by omega, by omega, trivial⟩)) (Nat.le_refl _)
  have cT' := cT.keep (j.keep2 (b := H7.next) (fun k hk => ⟨by omega, by omega, trivial⟩)) (Nat.le_refl _)
  exact ⟨f8, ⟨ps, pt, some ⟨gO, 0, none⟩, some ⟨gA, 0, none⟩⟩, rfl, ⟨y1, y2, y3, y4⟩, fun H' k => ⟨(cS'.keep k (by omega)).inn, (cT'.keep k (by omega)).inn, Ints.of_get (k _ _ (by omega) aO), Ints.of_get (k _ _ (by omega) aA)⟩, i, hs⟩
theorem drawCons_c {a : Option Addr} {xs : List Int} {H : GHeap} (hb : Bytes H a xs := by assumption) (hlt : ∀ b o t, a = some ⟨b, o, t⟩ → b < H.next := by assumption) (hx : xs.length ≤ 4096 := by omega) :
    GCalls Try.prog 21 [.slice a xs.length xs.length] H (NewV H) := by
  refine GCalls.body (N := 6) (rs := [.cell 2 40]) Try.func21 rfl rfl rfl rfl (fun Qx n hend => ?_)
  refine .fg [0] rfl ?_
  have f := GHeap.Le.refl H
  have g := hb
  refine .seq (fun K1 v => .region ?_)
  refine .R rfl (.allocR rfl ze_40_Hj rfl) ?_
  rintro _ _ ⟨_, rfl, u, _, j⟩
  replace f := f.trans u
  have _ := GHeap.ltg j
  replace hb := g.mono f
  refine .nil (v _ _ (.seq (fun K2 q => .region (.mv rfl ?_))))
  refine .call rfl rfl rfl rfl @Try.call29 rfl (l01From_c (hlt := fun b o t e => by have := hlt b o t e; omega)) ?_
  rintro _ H4 ⟨m, _, rfl, _, hs⟩
  have _ := hs.lt
  have _ := m.1
  replace f := f.trans m
  replace j := m.2 _ _ j
  refine .call rfl rfl rfl rfl @Try.call55 rfl (l06Draw_c) ?_
  rintro _ H5 ⟨_, _, rfl, r, v5, p, hs⟩
  replace f := f.st p (fun k hk => ⟨by omega, trivial⟩)
  replace j := p.s j
  have l := v5
  have c : Keep H4.next H5 H5 := fun _ _ _ h => h
  refine .r0 rfl rfl (.fillA rfl sz_40_I rfl rfl rfl rfl) ?_
  rintro _ _ ⟨rfl, d, i⟩
  replace f := f.st d (fun k hk => ⟨by omega, trivial⟩)
  replace c := Keep.st c d (fun k hb hk => ⟨(by omega), trivial⟩)
  replace v5 := l.keep c (Nat.le_refl _)
  refine .nil (q _ _ (.ret (n _ _ (⟨_, _, _, _, rfl, ag_40_Hj, (by rfl), (Mem.of_get i), ?_⟩))))
  exact ⟨f, _, _, rfl, r, v5.keep (.of_le (.refl _)) (by omega)⟩
end Go.Proofs.Ytfanjkbaemhbmaa
namespace Go.Proofs.Ytfanjkbaemhbmaa
open Go Go.GL Go.RowKit Go.Proofs
theorem sl_22_Fa : sliceT Try.prog 22 = some (5, 1) := by kernel_rfl
theorem big_c {a : Option Addr} {xs : List Int} {H : GHeap} : GCalls Try.prog 6 [.slice a xs.length xs.length] H (Ret (.bool (decide (4096 < (xs.length : Int)))) H) := by
  refine GCalls.body (N := 6) (rs := [.tmp 2]) Try.func6 rfl rfl rfl rfl (fun Qx b hend => ?_)
  refine .fg [0] rfl ?_
  refine .seq (fun K1 c => .region (.mv rfl (.nil (c _ _ (.seq (fun K2 d => .region (.mv rfl (.q rfl (.len sl_22_Fa rfl) (.q rfl (.cmp rfl rfl rfl) (.mv rfl (.nil (d _ _ (.ret (b _ _ (⟨_, rfl, ?_⟩)))))))))))))))
  exact .mk
set_option maxHeartbeats 4000000 in
theorem extensions_c {g o : Nat} {c : Cat} {p : CatP} {f k : Int} {H : GHeap} (h : Cat.At H g o c p := by assumption) (hS : c.Shape := by assumption) (h0 : 0 ≤ f := by omega) (h1 : f < c.src.length := by omega) (h2 : 0 ≤ k := by omega) (h3 : k < c.src.length := by omega) :
    GCalls Try.prog 100 [.pointer (some ⟨g, o, none⟩), .int .i64 f, .int .i64 k] H (NewInts 2 H (c.ext f k)) := by
  refine GCalls.body (N := 44) (rs := [.tmp 6]) Try.func100 rfl rfl rfl rfl (fun Qx a3 hend => ?_)
  refine .fg [0, 1, 2] rfl ?_
  have d := GHeap.Le.refl H
  have a := h
  have _ := hS.tl
  have _ := hS.n40
  have _ := hS.cl
  have _ := hS.row k.toNat (by omega)
  have _ := c.hom_le (c.tgt.getD k.toNat 0) (c.tgt.getD f.toNat 0)
  refine .seq (fun K1 b2 => .region (.mv rfl (.nil (b2 _ _ (.seq (fun K2 b3 => .region ?_))))))
  refine .R rfl (.litA rfl sl_24_A ze_2_L rfl rfl rfl rfl) ?_
  rintro _ b6 ⟨a2, rfl, a5, _, e⟩
  replace d := d.trans a5
  have _ := GHeap.ltg e
  replace h := a.mono d
  obtain ⟨-, -, c2, -, -, -, i2, -, -⟩ := h.get
  replace e : GHeap.get b6 a2 = some (.row (ints []) 2 true) := e
  refine .mv rfl (.nil (b3 _ _ (.seq (fun K3 b5 => .seq (fun K4 c1 => ?_)))))
  refine .regionD mo_B (.qs [0, 1, 2, 3, 4, 5, 6, 7, 8, 9, 10, 11, 12, 13, 14, 17] (.c 15 1 (.q 16 (.done)))) (by kernel_rfl) ?_
  refine .mv rfl rfl (.mv rfl rfl (.q rfl (.nilCheck rfl) (.q rfl (.fieldAddr fo_27_2_B rfl) (.q rfl (.lA on_24_B rfl) (.mv rfl rfl (.q rfl (.i1 sl_24_A rfl rfl) (.q rfl (.lI on_2_A rfl) (.mv rfl rfl (.q rfl (.nilCheck rfl) (.q rfl (.fieldAddr fo_27_2_B rfl) (.q rfl (.lA on_24_B rfl) (.mv rfl rfl (.q rfl (.i1 sl_24_A rfl rfl) (.q rfl (.lI on_2_A rfl) (.mv rfl rfl ?_)))))))))))))))
  refine .call1 rfl rfl rfl rfl rfl @Try.call92 rfl (hom_c) ?_
  rintro _ a8 ⟨u, _, rfl, n, _⟩
  have a7 := u
  refine ⟨a7, ?_⟩
  replace d := d.trans u
  replace e := u.2 _ _ e
  have _ := GHeap.ltg n
  replace h := a.mono d
  clear c2 i2
  refine .m rfl rfl rfl rfl a7 (.len sl_24_A rfl) (.done (c1 _ _ (.block ?_)))
  refine .loopF (σ := Nat × Nat × Nat) [0, 1, 2, 26, 27] (fun (i, t, w) => [(28, some (.int .i64 (i : Int))), (7, some (.slice (some ⟨t, 0, none⟩) w w))]) (fun (i, t, w) H' => St [a2] a8 H' ∧ H'.get t = some (.row (ints (((c.hom (c.tgt.getD k.toNat 0) (c.tgt.getD f.toNat 0)).take i).filter fun x => decide (c.th k x = f))) 2 true) ∧ (t = a2 ∨ a8.next ≤ t) ∧ w = (((c.hom (c.tgt.getD k.toNat 0) (c.tgt.getD f.toNat 0)).take i).filter fun x => decide (c.th k x = f)).length ∧ i ≤ (c.hom (c.tgt.getD k.toNat 0) (c.tgt.getD f.toNat 0)).length) (fun (i, t, w) => (c.hom (c.tgt.getD k.toNat 0) (c.tgt.getD f.toNat 0)).length - i) ((0, _, _)) rfl (.p rfl) ?_ ?_
  ·
   refine ⟨.refl _ _, by first | assumption | exact e | simpa using e, .inl rfl, by first | rfl | assumption | simp | omega, ?_⟩
   omega
  rintro ⟨i, t, w⟩ _ ⟨b, l, _, r, _⟩ _ a1
  dsimp only [cA, nA]
  have a0 : H.next ≤ t := by omega
  have _ := b.nx
  replace d := d.st b (fun k hk => ⟨by omega, trivial⟩)
  replace n := b.s n
  replace h := a.mono d
  have b4 := Ints.of_get n
  have _ := filt_le (c.hom (c.tgt.getD k.toNat 0) (c.tgt.getD f.toNat 0)) (fun x => decide (c.th k x = f)) i
  refine .seq (fun K5 c0 => .region (.q rfl (.cmp rfl rfl rfl) (.nil (c0 _ _ (.seq (fun K6 b8 => ?_))))))
  refine .cond rfl ?_ ?_ <;> intro a9
  ·
   simp only [sps] at a9
   obtain ⟨j, _, -, -, _⟩ := c.hom_get (x := (c.tgt.getD k.toNat 0)) (y := (c.tgt.getD f.toNat 0)) (i := i) (by omega)
   refine .skip (b8 _ _ (.seq (fun K7 b0 => .block (.seq (fun K8 b7 => .region ?_)))))
   refine .q rfl (.idxN sl_24_A (by first | assumption | exact SlA.of_row n (by first | rfl | (simp; done) | (simp <;> omega))) rfl rfl (by omega)) ?_
   refine .q rfl (.loadI on_2_A (by first | assumption | exact Ints.of_get n) rfl (by omega)) ?_
   refine .mv rfl (.nil (b7 _ _ (.seq (fun K9 b9 => .region (.mv rfl (.mv rfl (.mv rfl ?_)))))))
   refine .callQ rfl rfl rfl rfl @Try.call79 rfl (then_s) ?_
   refine .mv rfl (.q rfl (.cmp rfl rfl rfl) (.nil (b9 _ _ ?_)))
   refine .cond rfl ?_ ?_ <;> intro b1
   ·
    try simp only [sps] at b1
    refine .region (.mv rfl (.mv rfl ?_))
    refine .R rfl (.litA rfl sl_24_A ze_2_L rfl rfl rfl rfl) ?_
    rintro _ _ ⟨_, rfl, v, _, a6⟩
    replace d := d.trans v
    replace b := b.le v
    replace l := v.2 _ _ l
    have _ := GHeap.ltg a6
    replace h := a.mono d
    clear b4
    refine .R rfl (.apI rfl sl_24_A ze_2_L rfl by_2_L sl_24_A rfl rfl) ?_
    rintro _ _ ⟨_, rfl, z, _, _⟩
    replace d := d.st z (fun k hk => ⟨by omega, trivial⟩)
    replace b := b.sA z
    replace h := a.mono d
    refine .mv rfl (.nil (b0 _ _ (.region (.q rfl (.aD rfl rfl rfl) (.mv rfl (.nil ?_))))))
    refine a1 ((i + 1, _, _)) _ _ ?_ ?_ (.p rfl)
    ·
     refine ⟨b, by first | assumption | (rw [filt_T (by omega) (by simp only [sps]; assumption)]; assumption) | (rw [filt_F (by omega) (by simp only [sps]; assumption)]; assumption), by omega, by first | omega | (simp only [List.length_append, List.length_cons, List.length_nil] <;> omega) | (rw [filt_T (by omega) (by simp only [sps]; assumption)] <;> (first | omega | (simp only [List.length_append, List.length_cons, List.length_nil] <;> omega))) | (rw [filt_F (by omega) (by simp only [sps]; assumption)] <;> (first | omega | (simp only [List.length_append, List.length_cons, List.length_nil] <;> omega))), ?_⟩
     omega
    (dsimp only; omega)
   try simp only [sps] at b1
   refine .skip (b0 _ _ (.region (.q rfl (.aD rfl rfl rfl) (.mv rfl (.nil ?_)))))
   refine a1 ((i + 1, _, _)) _ _ ?_ ?_ (.p rfl)
   ·
    refine ⟨b, by first | assumption | (rw [filt_T (by omega) (by simp only [sps]; assumption)]; assumption) | (rw [filt_F (by omega) (by simp only [sps]; assumption)]; assumption), by omega, by first | omega | (simp only [List.length_append, List.length_cons, List.length_nil] <;> omega) | (rw [filt_T (by omega) (by simp only [sps]; assumption)] <;> (first | omega | (simp only [List.length_append, List.length_cons, List.length_nil] <;> omega))) | (rw [filt_F (by omega) (by simp only [sps]; assumption)] <;> (first | omega | (simp only [List.length_append, List.length_cons, List.length_nil] <;> omega))), ?_⟩
    omega
   (dsimp only; omega)
  try simp only [sps] at a9
  refine .exit (b5 _ _ (.seq (fun K10 a4 => .region (.mv rfl (.mv rfl (.nil (a4 _ _ (.ret (a3 _ _ (⟨_, rfl, ?_⟩))))))))))
  obtain rfl : i = (c.hom (c.tgt.getD k.toNat 0) (c.tgt.getD f.toNat 0)).length := by omega
  rw [List.take_length] at l r
  exact ⟨d, _, by rw [r]; rfl, l, a0⟩
set_option maxHeartbeats 4000000 in
theorem lifts_c {g o : Nat} {c : Cat} {p : CatP} {f k : Int} {H : GHeap} (h : Cat.At H g o c p := by assumption) (hS : c.Shape := by assumption) (h0 : 0 ≤ f := by omega) (h1 : f < c.src.length := by omega) (h2 : 0 ≤ k := by omega) (h3 : k < c.src.length := by omega) :
    GCalls Try.prog 101 [.pointer (some ⟨g, o, none⟩), .int .i64 f, .int .i64 k] H (NewInts 2 H (c.lif f k)) := by
  refine GCalls.body (N := 44) (rs := [.tmp 6]) Try.func101 rfl rfl rfl rfl (fun Qx a3 hend => ?_)
  refine .fg [0, 1, 2] rfl ?_
  have d := GHeap.Le.refl H
  have a := h
  have _ := hS.tl
  have _ := hS.n40
  have _ := hS.cl
  have _ := c.hom_le (c.src.getD f.toNat 0) (c.src.getD k.toNat 0)
  refine .seq (fun K1 b2 => .region (.mv rfl (.nil (b2 _ _ (.seq (fun K2 b3 => .region ?_))))))
  refine .R rfl (.litA rfl sl_24_A ze_2_L rfl rfl rfl rfl) ?_
  rintro _ b6 ⟨a2, rfl, a5, _, e⟩
  replace d := d.trans a5
  have _ := GHeap.ltg e
  replace h := a.mono d
  obtain ⟨-, c1, -, -, -, i1, -, -, -⟩ := h.get
  replace e : GHeap.get b6 a2 = some (.row (ints []) 2 true) := e
  refine .mv rfl (.nil (b3 _ _ (.seq (fun K3 b5 => .seq (fun K4 c2 => ?_)))))
  refine .regionD mo_B (.qs [0, 1, 2, 3, 4, 5, 6, 7, 8, 9, 10, 11, 12, 13, 14, 17] (.c 15 1 (.q 16 (.done)))) (by kernel_rfl) ?_
  refine .mv rfl rfl (.mv rfl rfl (.q rfl (.nilCheck rfl) (.q rfl (.fieldAddr fo_27_1_B rfl) (.q rfl (.lA on_24_B rfl) (.mv rfl rfl (.q rfl (.i1 sl_24_A rfl rfl) (.q rfl (.lI on_2_A rfl) (.mv rfl rfl (.q rfl (.nilCheck rfl) (.q rfl (.fieldAddr fo_27_1_B rfl) (.q rfl (.lA on_24_B rfl) (.mv rfl rfl (.q rfl (.i1 sl_24_A rfl rfl) (.q rfl (.lI on_2_A rfl) (.mv rfl rfl ?_)))))))))))))))
  refine .call1 rfl rfl rfl rfl rfl @Try.call92 rfl (hom_c) ?_
  rintro _ a8 ⟨u, _, rfl, n, _⟩
  have a7 := u
  refine ⟨a7, ?_⟩
  replace d := d.trans u
  replace e := u.2 _ _ e
  have _ := GHeap.ltg n
  replace h := a.mono d
  clear c1 i1
  refine .m rfl rfl rfl rfl a7 (.len sl_24_A rfl) (.done (c2 _ _ (.block ?_)))
  refine .loopF (σ := Nat × Nat × Nat) [0, 1, 2, 26, 27] (fun (i, t, w) => [(28, some (.int .i64 (i : Int))), (7, some (.slice (some ⟨t, 0, none⟩) w w))]) (fun (i, t, w) H' => St [a2] a8 H' ∧ H'.get t = some (.row (ints (((c.hom (c.src.getD f.toNat 0) (c.src.getD k.toNat 0)).take i).filter fun x => decide (c.th x k = f))) 2 true) ∧ (t = a2 ∨ a8.next ≤ t) ∧ w = (((c.hom (c.src.getD f.toNat 0) (c.src.getD k.toNat 0)).take i).filter fun x => decide (c.th x k = f)).length ∧ i ≤ (c.hom (c.src.getD f.toNat 0) (c.src.getD k.toNat 0)).length) (fun (i, t, w) => (c.hom (c.src.getD f.toNat 0) (c.src.getD k.toNat 0)).length - i) ((0, _, _)) rfl (.p rfl) ?_ ?_
  ·
   refine ⟨.refl _ _, by first | assumption | exact e | simpa using e, .inl rfl, by first | rfl | assumption | simp | omega, ?_⟩
   omega
  rintro ⟨i, t, w⟩ _ ⟨b, l, _, r, _⟩ _ a1
  dsimp only [cA, nA]
  have a0 : H.next ≤ t := by omega
  have _ := b.nx
  replace d := d.st b (fun k hk => ⟨by omega, trivial⟩)
  replace n := b.s n
  replace h := a.mono d
  have b4 := Ints.of_get n
  have _ := filt_le (c.hom (c.src.getD f.toNat 0) (c.src.getD k.toNat 0)) (fun x => decide (c.th x k = f)) i
  refine .seq (fun K5 c0 => .region (.q rfl (.cmp rfl rfl rfl) (.nil (c0 _ _ (.seq (fun K6 b8 => ?_))))))
  refine .cond rfl ?_ ?_ <;> intro a9
  ·
   simp only [sps] at a9
   obtain ⟨j, _, -, -, _⟩ := c.hom_get (x := (c.src.getD f.toNat 0)) (y := (c.src.getD k.toNat 0)) (i := i) (by omega)
   refine .skip (b8 _ _ (.seq (fun K7 b0 => .block (.seq (fun K8 b7 => .region ?_)))))
   refine .q rfl (.idxN sl_24_A (by first | assumption | exact SlA.of_row n (by first | rfl | (simp; done) | (simp <;> omega))) rfl rfl (by omega)) ?_
   refine .q rfl (.loadI on_2_A (by first | assumption | exact Ints.of_get n) rfl (by omega)) ?_
   refine .mv rfl (.nil (b7 _ _ (.seq (fun K9 b9 => .region (.mv rfl (.mv rfl (.mv rfl ?_)))))))
   refine .callQ rfl rfl rfl rfl @Try.call79 rfl (then_s) ?_
   refine .mv rfl (.q rfl (.cmp rfl rfl rfl) (.nil (b9 _ _ ?_)))
   refine .cond rfl ?_ ?_ <;> intro b1
   ·
    try simp only [sps] at b1
    refine .region (.mv rfl (.mv rfl ?_))
    refine .R rfl (.litA rfl sl_24_A ze_2_L rfl rfl rfl rfl) ?_
    rintro _ _ ⟨_, rfl, v, _, a6⟩
    replace d := d.trans v
    replace b := b.le v
    replace l := v.2 _ _ l
    have _ := GHeap.ltg a6
    replace h := a.mono d
    clear b4
    refine .R rfl (.apI rfl sl_24_A ze_2_L rfl by_2_L sl_24_A rfl rfl) ?_
    rintro _ _ ⟨_, rfl, z, _, _⟩
    replace d := d.st z (fun k hk => ⟨by omega, trivial⟩)
    replace b := b.sA z
    replace h := a.mono d
    refine .mv rfl (.nil (b0 _ _ (.region (.q rfl (.aD rfl rfl rfl) (.mv rfl (.nil ?_))))))
    refine a1 ((i + 1, _, _)) _ _ ?_ ?_ (.p rfl)
    ·
     refine ⟨b, by first | assumption | (rw [filt_T (by omega) (by simp only [sps]; assumption)]; assumption) | (rw [filt_F (by omega) (by simp only [sps]; assumption)]; assumption), by omega, by first | omega | (simp only [List.length_append, List.length_cons, List.length_nil] <;> omega) | (rw [filt_T (by omega) (by simp only [sps]; assumption)] <;> (first | omega | (simp only [List.length_append, List.length_cons, List.length_nil] <;> omega))) | (rw [filt_F (by omega) (by simp only [sps]; assumption)] <;> (first | omega | (simp only [List.length_append, List.length_cons, List.length_nil] <;> omega))), ?_⟩
     omega
    (dsimp only; omega)
   try simp only [sps] at b1
   refine .skip (b0 _ _ (.region (.q rfl (.aD rfl rfl rfl) (.mv rfl (.nil ?_)))))
   refine a1 ((i + 1, _, _)) _ _ ?_ ?_ (.p rfl)
   ·
    refine ⟨b, by first | assumption | (rw [filt_T (by omega) (by simp only [sps]; assumption)]; assumption) | (rw [filt_F (by omega) (by simp only [sps]; assumption)]; assumption), by omega, by first | omega | (simp only [List.length_append, List.length_cons, List.length_nil] <;> omega) | (rw [filt_T (by omega) (by simp only [sps]; assumption)] <;> (first | omega | (simp only [List.length_append, List.length_cons, List.length_nil] <;> omega))) | (rw [filt_F (by omega) (by simp only [sps]; assumption)] <;> (first | omega | (simp only [List.length_append, List.length_cons, List.length_nil] <;> omega))), ?_⟩
    omega
   (dsimp only; omega)
  try simp only [sps] at a9
  refine .exit (b5 _ _ (.seq (fun K10 a4 => .region (.mv rfl (.mv rfl (.nil (a4 _ _ (.ret (a3 _ _ (⟨_, rfl, ?_⟩))))))))))
  obtain rfl : i = (c.hom (c.src.getD f.toNat 0) (c.src.getD k.toNat 0)).length := by omega
  rw [List.take_length] at l r
  exact ⟨d, _, by rw [r]; rfl, l, a0⟩
theorem retractions_c {g o : Nat} {c : Cat} {p : CatP} {f : Int} {H : GHeap} (h : Cat.At H g o c p := by assumption) (hS : c.Shape := by assumption) (h0 : 0 ≤ f := by omega) (h1 : f < c.src.length := by omega) :
    GCalls Try.prog 68 [.pointer (some ⟨g, o, none⟩), .int .i64 f] H (NewInts 2 H (c.retr f)) := by
  rw [← Cat.ext_retr hS h0 h1]
  refine GCalls.body (N := 21) (rs := [.tmp 4]) Try.func68 rfl rfl rfl rfl (fun Qx e hend => ?_)
  refine .fg [0, 1] rfl ?_
  have b := GHeap.Le.refl H
  have a := h
  obtain ⟨-, c1, -, c3, -, i1, -, i3, -⟩ := h.get
  have _ := hS.tl
  have _ := hS.n40
  have _ := hS.il
  have _ := hS.src f.toNat (by omega)
  have _ := hS.idn (c.src.getD f.toNat 0).toNat (by omega)
  refine .seq (fun K1 k => .region (.mv rfl (.nil (k _ _ (.seq (fun K2 j => ?_))))))
  refine .regionD mo_B (.qs [0, 1, 2, 3, 4, 5, 6, 7, 8, 9, 10, 11, 12, 13, 14] (.c 15 0 (.q 16 (.done)))) (by kernel_rfl) ?_
  refine .mv rfl rfl (.mv rfl rfl (.q rfl (.nilCheck rfl) (.q rfl (.fieldAddr fo_27_3_B rfl) (.q rfl (.lA on_24_B rfl) (.mv rfl rfl (.q rfl (.nilCheck rfl) (.q rfl (.fieldAddr fo_27_1_B rfl) (.q rfl (.lA on_24_B rfl) (.mv rfl rfl (.q rfl (.i1 sl_24_A rfl rfl) (.q rfl (.lI on_2_A rfl) (.q rfl (.i1 sl_24_A rfl rfl) (.q rfl (.lI on_2_A rfl) (.mv rfl rfl ?_))))))))))))))
  refine .call0 rfl rfl rfl rfl rfl @Try.call100 rfl (extensions_c) ?_
  rintro _ _ ⟨d, _, rfl, i, _⟩
  replace b := b.trans d
  replace h := a.mono b
  clear c1 c3 i1 i3
  refine .mv rfl rfl (.done (j _ _ (.ret (e _ _ (⟨_, rfl, ?_⟩)))))
  exact ⟨b, _, rfl, i, by omega⟩
theorem sections_c {g o : Nat} {c : Cat} {p : CatP} {f : Int} {H : GHeap} (h : Cat.At H g o c p := by assumption) (hS : c.Shape := by assumption) (h0 : 0 ≤ f := by omega) (h1 : f < c.src.length := by omega) :
    GCalls Try.prog 69 [.pointer (some ⟨g, o, none⟩), .int .i64 f] H (NewInts 2 H (c.sect f)) := by
  rw [← Cat.lif_sect hS h0 h1]
  refine GCalls.body (N := 21) (rs := [.tmp 4]) Try.func69 rfl rfl rfl rfl (fun Qx e hend => ?_)
  refine .fg [0, 1] rfl ?_
  have b := GHeap.Le.refl H
  have a := h
  obtain ⟨-, -, c2, c3, -, -, i2, i3, -⟩ := h.get
  have _ := hS.tl
  have _ := hS.n40
  have _ := hS.il
  have _ := hS.tgt f.toNat (by omega)
  have _ := hS.idn (c.tgt.getD f.toNat 0).toNat (by omega)
  refine .seq (fun K1 k => .region (.mv rfl (.nil (k _ _ (.seq (fun K2 j => ?_))))))
  refine .regionD mo_B (.qs [0, 1, 2, 3, 4, 5, 6, 7, 8, 9, 10, 11, 12, 13, 14] (.c 15 0 (.q 16 (.done)))) (by kernel_rfl) ?_
  refine .mv rfl rfl (.mv rfl rfl (.q rfl (.nilCheck rfl) (.q rfl (.fieldAddr fo_27_3_B rfl) (.q rfl (.lA on_24_B rfl) (.mv rfl rfl (.q rfl (.nilCheck rfl) (.q rfl (.fieldAddr fo_27_2_B rfl) (.q rfl (.lA on_24_B rfl) (.mv rfl rfl (.q rfl (.i1 sl_24_A rfl rfl) (.q rfl (.lI on_2_A rfl) (.q rfl (.i1 sl_24_A rfl rfl) (.q rfl (.lI on_2_A rfl) (.mv rfl rfl ?_))))))))))))))
  refine .call0 rfl rfl rfl rfl rfl @Try.call101 rfl (lifts_c) ?_
  rintro _ _ ⟨d, _, rfl, i, _⟩
  replace b := b.trans d
  replace h := a.mono b
  clear c2 c3 i2 i3
  refine .mv rfl rfl (.done (j _ _ (.ret (e _ _ (⟨_, rfl, ?_⟩)))))
  exact ⟨b, _, rfl, i, by omega⟩
end Go.Proofs.Ytfanjkbaemhbmaa
namespace Go.GL
structure Cans (xs : List Int) (n : Nat) (X : Int → Nat → Int) : Prop where
  all : ∀ i j, i < j → j < xs.length → ∃ w, w < n ∧ X (xs.getD i 0) w ≠ X (xs.getD j 0) w
theorem Cans.iff {xs : List Int} {n : Nat} {X : Int → Nat → Int} (hn : xs.Nodup) : Cans xs n X ↔ ∀ g ∈ xs, ∀ h ∈ xs, (∀ w, w < n → X g w = X h w) → g = h := by
  constructor
  · intro hc g hg h hh he
    obtain ⟨i, hi, rfl⟩ := mem_getD hg
    obtain ⟨j, hj, rfl⟩ := mem_getD hh
    rcases Nat.lt_trichotomy i j with e | e | e
    · obtain ⟨w, h1, h2⟩ := hc.all i j e hj
      exact absurd (he w h1) h2
    · rw [e]
    · obtain ⟨w, h1, h2⟩ := hc.all j i e hi
      exact absurd (he w h1).symm h2
  · intro h
    refine ⟨fun i j hij hj => Classical.byContradiction fun hno => ?_⟩
    have e := h _ (getD_mem (xs := xs) (i := i) (by omega)) _ (getD_mem hj) fun w hw => Classical.byContradiction fun hne => hno ⟨w, hw, hne⟩
    have p := List.pairwise_iff_getElem.1 hn i j (by omega) hj hij
    rw [List.getD_eq_getElem?_getD, List.getElem?_eq_getElem (by omega), List.getD_eq_getElem?_getD, List.getElem?_eq_getElem hj] at e
    exact p e
structure Cat.Jm (c : Cat) (x : Int) (fs : List Int) : Prop where
  all : ∀ g h : Nat, g < c.src.length → h < c.src.length → c.src.getD g 0 = c.src.getD h 0 → c.tgt.getD g 0 = x → c.tgt.getD h 0 = x → (∀ w, w < fs.length → c.th g (fs.getD w 0) = c.th h (fs.getD w 0)) → g = h
structure Cat.Je (c : Cat) (x : Int) (fs : List Int) : Prop where
  all : ∀ g h : Nat, g < c.src.length → h < c.src.length → c.tgt.getD g 0 = c.tgt.getD h 0 → c.src.getD g 0 = x → c.src.getD h 0 = x → (∀ w, w < fs.length → c.th (fs.getD w 0) g = c.th (fs.getD w 0) h) → g = h
structure Cat.Mono (c : Cat) (f : Int) : Prop where
  all : ∀ g h : Nat, g < c.src.length → h < c.src.length → c.src.getD g 0 = c.src.getD h 0 → c.tgt.getD g 0 = c.S f → c.tgt.getD h 0 = c.S f → c.th g f = c.th h f → g = h
structure Cat.Epi (c : Cat) (f : Int) : Prop where
  all : ∀ g h : Nat, g < c.src.length → h < c.src.length → c.tgt.getD g 0 = c.tgt.getD h 0 → c.src.getD g 0 = c.T f → c.src.getD h 0 = c.T f → c.th f g = c.th f h → g = h
theorem Cat.Jm.one {c : Cat} {f : Int} : c.Jm (c.S f) [f] ↔ c.Mono f :=
  ⟨fun h => ⟨fun a b h1 h2 h3 h4 h5 h6 => h.all a b h1 h2 h3 h4 h5 fun w hw => by
    obtain rfl : w = 0 := by rw [List.length_singleton] at hw; omega
    exact h6⟩,
    fun h => ⟨fun a b h1 h2 h3 h4 h5 h6 => h.all a b h1 h2 h3 h4 h5 (h6 0 (by simp))⟩⟩
theorem Cat.Je.one {c : Cat} {f : Int} : c.Je (c.T f) [f] ↔ c.Epi f :=
  ⟨fun h => ⟨fun a b h1 h2 h3 h4 h5 h6 => h.all a b h1 h2 h3 h4 h5 fun w hw => by
    obtain rfl : w = 0 := by rw [List.length_singleton] at hw; omega
    exact h6⟩,
    fun h => ⟨fun a b h1 h2 h3 h4 h5 h6 => h.all a b h1 h2 h3 h4 h5 (h6 0 (by simp))⟩⟩
theorem Cat.hom_nd (c : Cat) (x y : Int) : (c.hom x y).Nodup := filtN_nd _ _
theorem Cat.Jm.iff {c : Cat} {x : Int} {fs : List Int} (hS : c.Shape) : c.Jm x fs ↔ ∀ s : Nat, (s : Int) < c.obj → Cans (c.hom s x) fs.length (fun g w => c.th g (fs.getD w 0)) := by
  constructor
  · intro h s hs
    refine (Cans.iff (c.hom_nd _ _)).2 fun g hg k hk he => ?_
    obtain ⟨a, a1, a2, a3, rfl⟩ := Cat.mem_hom.1 hg
    obtain ⟨b, b1, b2, b3, rfl⟩ := Cat.mem_hom.1 hk
    rw [h.all a b a1 b1 (by omega) a3 b3 he]
  · intro h
    refine ⟨fun a b a1 b1 e1 e2 e3 he => ?_⟩
    have q := hS.src a a1
    have := (Cans.iff (c.hom_nd _ _)).1 (h (c.src.getD a 0).toNat (by omega)) a (Cat.mem_hom.2 ⟨a, a1, by omega, e2, rfl⟩) b (Cat.mem_hom.2 ⟨b, b1, by omega, e3, rfl⟩) he
    omega
theorem Cat.Je.iff {c : Cat} {x : Int} {fs : List Int} (hS : c.Shape) : c.Je x fs ↔ ∀ s : Nat, (s : Int) < c.obj → Cans (c.hom x s) fs.length (fun g w => c.th (fs.getD w 0) g) := by
  constructor
  · intro h s hs
    refine (Cans.iff (c.hom_nd _ _)).2 fun g hg k hk he => ?_
    obtain ⟨a, a1, a2, a3, rfl⟩ := Cat.mem_hom.1 hg
    obtain ⟨b, b1, b2, b3, rfl⟩ := Cat.mem_hom.1 hk
    rw [h.all a b a1 b1 (by omega) a2 b2 he]
  · intro h
    refine ⟨fun a b a1 b1 e1 e2 e3 he => ?_⟩
    have q := hS.tgt a (by have := hS.tl; omega)
    have := (Cans.iff (c.hom_nd _ _)).1 (h (c.tgt.getD a 0).toNat (by omega)) a (Cat.mem_hom.2 ⟨a, a1, e2, by omega, rfl⟩) b (Cat.mem_hom.2 ⟨b, b1, e3, by omega, rfl⟩) he
    omega
theorem Cat.code_nil {c : Cat} : c.code [] = 0 ↔ c.Is := by
  rw [Cat.code_ok]
  exact ⟨fun h => h.1, fun h => ⟨h, allIn_iff.2 fun i hi => by simp at hi⟩⟩
theorem Cat.code_nil1 {c : Cat} (h : ¬ c.Is) : c.code [] = 1 := Cat.code_not h
theorem one_bd {f n : Int} (h : 0 ≤ f ∧ f < n) : ∀ w, w < [f].length → 0 ≤ [f].getD w 0 ∧ [f].getD w 0 < n := fun w hw => by
  obtain rfl : w = 0 := by rw [List.length_singleton] at hw; omega
  exact h
end Go.GL
namespace Go.Proofs.Ytfanjkbaemhbmaa
open Go Go.GL Go.RowKit Go.Proofs
theorem sz_58_Fc : (Try.prog.info? 58).map (·.size) = some 1 := by kernel_rfl
theorem sz_24_Fc : (Try.prog.info? 24).map (·.size) = some 1 := by kernel_rfl
theorem cancels_c {g fn n : Nat} {xs : List Int} {cap : Array Value} {Y : Int → Nat → Int} {H : GHeap} (hg : H.get g = some (.row (ints xs) 2 true)) (hl : xs.length ≤ 1048576) (hn : n ≤ 1048576)
    (hcall : ∀ (xs : Array Value) (w : World), (callFunc fn xs).run Try.prog w = .ok (.enter fn xs) w)
    (hq : ∀ i w : Nat, i < xs.length → w < n → GCalls Try.prog fn ([.int .i64 (xs.getD i 0), .int .i64 (w : Int)] ++ cap.toList) H (Ret (.int .i64 (Y (xs.getD i 0) w)) H)) :
    GCalls Try.prog 118 [.slice (some ⟨g, 0, none⟩) xs.length xs.length, .int .i64 (n : Int), .func (.func fn) #[] cap] H (Ret (.bool (B (Cans xs n Y))) H) := by
  have _ := Ints.of_get hg
  refine GCalls.body (N := 49) (rs := [.tmp 6]) Try.func118 rfl rfl rfl rfl (fun Qx d hend => ?_)
  refine .fg [0, 1, 2] rfl ?_
  refine .seq (fun K1 b4 => .region (.mv rfl (.nil (b4 _ _ (.seq (fun K2 b6 => .seq (fun K3 b7 => .region (.mv rfl (.q rfl (.len sl_24_A rfl) (.mv rfl (.nil (b7 _ _ (.block ?_)))))))))))))
  refine .loopF (σ := Nat) [0, 1, 2, 13, 14] (fun i => [(15, some (.int .i64 (i : Int)))]) (fun i H' => H = H' ∧ i ≤ xs.length ∧ ∀ a b, a < i → a < b → b < xs.length → ∃ w, w < n ∧ Y (xs.getD a 0) w ≠ Y (xs.getD b 0) w) (fun i => xs.length - i) (0) rfl (.p rfl) ?_ ?_
  ·
   refine ⟨rfl, ?_⟩
   exact ⟨by omega, fun a b h => by omega⟩
  rintro i _ ⟨rfl, hI⟩ _ a9
  dsimp only [cA, nA]
  obtain ⟨_, ha⟩ := hI
  refine .seq (fun K4 c2 => .region (.q rfl (.cmp rfl rfl rfl) (.nil (c2 _ _ (.seq (fun K5 b5 => ?_))))))
  refine .cond rfl ?_ ?_ <;> intro b2
  ·
   simp only [sps] at b2
   refine .skip (b5 _ _ (.seq (fun K6 c0 => .block (.seq (fun K7 b8 => .region (.mv rfl ?_))))))
   refine .q rfl (.idxN sl_24_A (by first | assumption | exact SlA.of_row hg (by first | rfl | (simp; done) | (simp <;> omega))) rfl rfl (by omega)) ?_
   refine .q rfl (.loadI on_2_A (by first | assumption | exact Ints.of_get hg) rfl (by omega)) ?_
   refine .mv rfl (.mv rfl (.nil (b8 _ _ (.seq (fun K8 b9 => .region (.mv rfl (.mv rfl (.q rfl (.aD rfl rfl rfl) ?_))))))))
   refine .q rfl (.slice (l := i + 1) (h := xs.length) sl_24_A rfl hg ⟨_, rfl⟩ rfl (by omega) (by omega)) ?_
   refine .q rfl (.len sl_24_A rfl) (.mv rfl (.nil (b9 _ _ (.block ?_))))
   refine .loopF (σ := Nat) [0, 1, 2, 8, 13, 14, 15, 23, 24] (fun j => [(25, some (.int .i64 (j : Int)))]) (fun j H' => H = H' ∧ j ≤ xs.length - (i + 1) ∧ ∀ b, b < j → ∃ w, w < n ∧ Y (xs.getD i 0) w ≠ Y (xs.getD (i + 1 + b) 0) w) (fun j => xs.length - j) (0) rfl (.p rfl) ?_ ?_
   ·
    refine ⟨rfl, ?_⟩
    exact ⟨by omega, fun b h => by omega⟩
   rintro j _ ⟨rfl, hI⟩ _ m
   dsimp only [cA, nA]
   obtain ⟨_, hb⟩ := hI
   refine .seq (fun K9 c1 => .region (.q rfl (.cmp rfl rfl rfl) (.nil (c1 _ _ (.seq (fun K10 x => ?_))))))
   refine .cond rfl ?_ ?_ <;> intro b1
   ·
    simp only [sps] at b1
    refine .skip (x _ _ (.seq (fun K11 r => .block (.seq (fun K12 y => .region ?_)))))
    have iD : SlA H (some ⟨g, 0 + (i + 1) * 1, none⟩) (xs.length - (i + 1)) (fun t => .int .i64 (xs.getD (i + 1 + t) 0)) := .inr ⟨g, _, rfl, fun t ht => by
      rw [GHeap.cell_of hg, show 0 + (i + 1) * 1 + t = i + 1 + t by omega]; exact ints_get (by omega)⟩
    refine .q rfl (.idxN (j := j) sl_24_A iD rfl rfl (by omega)) ?_
    refine .q rfl (.loadE on_2_A iD rfl (by omega)) ?_
    refine .mv rfl (.nil (y _ _ (.seq (fun K13 b0 => .region (.mv rfl (.nil (b0 _ _ (.seq (fun K14 k => .seq (fun K15 a7 => .region (.mv rfl (.nil (a7 _ _ (.block ?_))))))))))))))
    refine .loopF (σ := Nat × Bool) [0, 1, 2, 8, 10, 13, 14, 15, 23, 24, 25] (fun (w, e) => [(12, some (.int .i64 (w : Int))), (11, some (.bool e))]) (fun (w, e) H' => H = H' ∧ w ≤ n ∧ (e = true → ∀ u, u < w → Y (xs.getD i 0) u = Y (xs.getD (i + 1 + j) 0) u) ∧ (e = false → ∃ u, u < n ∧ Y (xs.getD i 0) u ≠ Y (xs.getD (i + 1 + j) 0) u)) (fun (w, e) => n - w) ((0, true)) rfl (.p rfl) ?_ ?_
    ·
     refine ⟨rfl, ?_⟩
     exact ⟨by omega, fun _ u h => by omega, fun h => by cases h⟩
    rintro ⟨w, e⟩ _ ⟨rfl, hI⟩ _ a0
    dsimp only [cA, nA]
    obtain ⟨_, v, b3⟩ := hI
    refine .seq (fun K16 a3 => .seq (fun K17 o => .region (.mv rfl (.mv rfl (.q rfl (.cmp rfl rfl rfl) (.mv rfl ?_))))))
    refine .split (fun a6 => ?_) (fun a6 => ?_)
    ·
     try simp only [sps] at a6
     refine .qg rfl (.move rfl) (.q rfl (.pickT rfl rfl) (.nil (o _ _ ?_)))
     refine .cond rfl ?_ ?_ <;> intro f
     ·
      try simp only [sps] at f
      refine .skip (a3 _ _ (.seq (fun K18 a2 => .block (.region (.mv rfl (.mv rfl (.mv rfl ?_)))))))
      refine .callV rfl rfl rfl rfl rfl hcall rfl ((hq i w (by omega) (by omega))) ?_
      rintro _ _ ⟨rfl, rfl⟩
      refine .mv rfl (.mv rfl (.mv rfl ?_))
      refine .callV rfl rfl rfl rfl rfl hcall rfl ((hq (i + 1 + j) w (by omega) (by omega))) ?_
      rintro _ _ ⟨rfl, rfl⟩
      refine .q rfl (.cmp rfl rfl rfl) (.mv rfl (.nil (a2 _ _ (.region (.mv rfl (.q rfl (.aD rfl rfl rfl) (.mv rfl (.nil ?_))))))))
      refine a0 ((w + 1, Y (xs.getD i 0) w == Y (xs.getD (i + 1 + j) 0) w)) _ _ ?_ ?_ (.p rfl)
      ·
       refine ⟨rfl, ?_⟩
       refine ⟨by omega, fun q u hu => ?_, fun q => ⟨w, by omega, beq_eq_false_iff_ne.1 q⟩⟩
       by_cases e3 : u < w
       · exact v f u e3
       · obtain rfl : u = w := by omega
         exact beq_iff_eq.1 q
      (dsimp only; omega)
     try simp only [sps] at f
     refine .exit (k _ _ (.seq (fun K19 a4 => .region (.mv rfl (.nil (a4 _ _ ?_))))))
     refine .cond rfl ?_ ?_ <;> intro c
     ·
      try simp only [sps] at c
      refine .seq (fun K20 a5 => .region (.mv rfl (.nil (a5 _ _ (.ret (d _ _ (⟨_, rfl, ?_⟩)))))))
      exact .of (congrArg _ (B_false fun hc => by
        obtain ⟨w2, -, -⟩ := hc.all i (i + 1 + j) (by omega) (by omega)
        first
        | exact w4 (v c w2 (by omega))
        | (rw [c] at f; cases f)))
     have hne := b3 c
     refine .skip (r _ _ (.region (.q rfl (.aD rfl rfl rfl) (.mv rfl (.nil ?_)))))
     refine m (j + 1) _ _ ?_ ?_ (.p rfl)
     ·
      refine ⟨rfl, ?_⟩
      refine ⟨by omega, fun b h => ?_⟩
      by_cases e : b < j
      · exact hb b e
      · obtain rfl : b = j := by omega
        exact hne
     omega
    try simp only [sps] at a6
    refine .z rfl (.q rfl (.pickF rfl rfl) (.nil (o _ _ ?_)))
    refine .condF rfl ?_
    refine .exit (k _ _ (.seq (fun K21 a8 => .region (.mv rfl (.nil (a8 _ _ ?_))))))
    refine .cond rfl ?_ ?_ <;> intro c
    ·
     try simp only [sps] at c
     refine .seq (fun K22 a1 => .region (.mv rfl (.nil (a1 _ _ (.ret (d _ _ (⟨_, rfl, ?_⟩)))))))
     exact .of (congrArg _ (B_false fun hc => by
       obtain ⟨w2, _, w4⟩ := hc.all i (i + 1 + j) (by omega) (by omega)
       first
       | exact w4 (v c w2 (by omega))
       | (rw [c] at f; cases f)))
    have hne := b3 c
    refine .skip (r _ _ (.region (.q rfl (.aD rfl rfl rfl) (.mv rfl (.nil ?_)))))
    refine m (j + 1) _ _ ?_ ?_ (.p rfl)
    ·
     refine ⟨rfl, ?_⟩
     refine ⟨by omega, fun b h => ?_⟩
     by_cases e : b < j
     · exact hb b e
     · obtain rfl : b = j := by omega
       exact hne
    omega
   try simp only [sps] at b1
   refine .exit (c0 _ _ (.region (.q rfl (.aD rfl rfl rfl) (.mv rfl (.nil ?_)))))
   refine a9 (i + 1) _ _ ?_ ?_ (.p rfl)
   ·
    refine ⟨rfl, ?_⟩
    refine ⟨by omega, fun a b h1 h2 h3 => ?_⟩
    by_cases e : a < i
    · exact ha a b e h2 h3
    · obtain rfl : a = i := by omega
      have := hb (b - (a + 1)) (by omega)
      rwa [show a + 1 + (b - (a + 1)) = b by omega] at this
   omega
  try simp only [sps] at b2
  refine .exit (b6 _ _ (.seq (fun K23 s => .region (.mv rfl (.nil (s _ _ (.ret (d _ _ (⟨_, rfl, ?_⟩)))))))))
  exact .of (congrArg _ (B_true ⟨fun a b h1 h2 => ha a b (by omega) h1 h2⟩))
theorem jMono1_c {g o g3 g5 : Nat} {c : Cat} {p : CatP} {a : Option Addr} {fs : List Int} {k : Int} {w : Nat} {e3 e5 : TypeId} {H : GHeap} (h : Cat.At H g o c p) (h3 : H.get g3 = some (.row [.pointer (some ⟨g, o, none⟩)] e3 true)) (h5 : H.get g5 = some (.row [.slice a fs.length fs.length] e5 true)) (hx : Ints H a fs)
    (hS : c.Shape) (k0 : 0 ≤ k) (k1 : k < c.src.length) (hw : w < fs.length) (hf : 0 ≤ fs.getD w 0 ∧ fs.getD w 0 < c.src.length) :
    GCalls Try.prog 119 [.int .i64 k, .int .i64 (w : Int), .pointer (some ⟨g3, 0, none⟩), .pointer (some ⟨g5, 0, none⟩)] H (Ret (.int .i64 (c.th k (fs.getD w 0))) H) := by
  have _ : H.cell g3 0 = some (.pointer (some ⟨g, o, none⟩)) := by rw [GHeap.cell_of h3]; rfl
  have _ : H.cell g5 0 = some (.slice a fs.length fs.length) := by rw [GHeap.cell_of h5]; rfl
  refine GCalls.body (N := 14) (rs := [.tmp 6]) Try.func119 rfl rfl rfl rfl (fun Qx b hend => ?_)
  refine .fg [0, 1, 2, 3] rfl ?_
  refine .seq (fun K1 d => .region (.mv rfl (.nil (d _ _ (.seq (fun K2 e => ?_))))))
  refine .regionD mo_B (.qs [0, 1, 2, 3, 4, 5] (.c 6 0 (.q 7 (.done)))) (by kernel_rfl) ?_
  refine .q rfl (.lA on_58_F rfl) (.mv rfl rfl (.q rfl (.lA on_24_B rfl) (.mv rfl rfl (.q rfl (.iN sl_24_A rfl rfl) (.q rfl (.lI on_2_A rfl) ?_)))))
  refine .callQ0 rfl rfl rfl rfl rfl @Try.call79 rfl (then_s) ?_
  refine .mv rfl rfl (.done (e _ _ (.ret (b _ _ (⟨_, rfl, ?_⟩)))))
  exact .mk
theorem jEpi1_c {g o g3 g5 : Nat} {c : Cat} {p : CatP} {a : Option Addr} {fs : List Int} {k : Int} {w : Nat} {e3 e5 : TypeId} {H : GHeap} (h : Cat.At H g o c p) (h3 : H.get g3 = some (.row [.pointer (some ⟨g, o, none⟩)] e3 true)) (h5 : H.get g5 = some (.row [.slice a fs.length fs.length] e5 true)) (hx : Ints H a fs)
    (hS : c.Shape) (k0 : 0 ≤ k) (k1 : k < c.src.length) (hw : w < fs.length) (hf : 0 ≤ fs.getD w 0 ∧ fs.getD w 0 < c.src.length) :
    GCalls Try.prog 120 [.int .i64 k, .int .i64 (w : Int), .pointer (some ⟨g3, 0, none⟩), .pointer (some ⟨g5, 0, none⟩)] H (Ret (.int .i64 (c.th (fs.getD w 0) k)) H) := by
  have _ : H.cell g3 0 = some (.pointer (some ⟨g, o, none⟩)) := by rw [GHeap.cell_of h3]; rfl
  have _ : H.cell g5 0 = some (.slice a fs.length fs.length) := by rw [GHeap.cell_of h5]; rfl
  refine GCalls.body (N := 14) (rs := [.tmp 6]) Try.func120 rfl rfl rfl rfl (fun Qx b hend => ?_)
  refine .fg [0, 1, 2, 3] rfl ?_
  refine .seq (fun K1 d => .region (.mv rfl (.nil (d _ _ (.seq (fun K2 e => ?_))))))
  refine .regionD mo_B (.qs [0, 1, 2, 3, 4, 5] (.c 6 0 (.q 7 (.done)))) (by kernel_rfl) ?_
  refine .q rfl (.lA on_58_F rfl) (.q rfl (.lA on_24_B rfl) (.mv rfl rfl (.q rfl (.iN sl_24_A rfl rfl) (.q rfl (.lI on_2_A rfl) (.mv rfl rfl ?_)))))
  refine .callQ0 rfl rfl rfl rfl rfl @Try.call79 rfl (then_s) ?_
  refine .mv rfl rfl (.done (e _ _ (.ret (b _ _ (⟨_, rfl, ?_⟩)))))
  exact .mk
theorem jointlyMono_c {g o : Nat} {c : Cat} {p : CatP} {x : Int} {a : Option Addr} {fs : List Int} {H : GHeap} (h : Cat.At H g o c p := by assumption) (hx : Ints H a fs := by assumption) (hS : c.Shape := by assumption) (hl : fs.length ≤ 1048576 := by omega) (hf : ∀ w, w < fs.length → 0 ≤ fs.getD w 0 ∧ fs.getD w 0 < c.src.length) :
    GCalls Try.prog 98 [.pointer (some ⟨g, o, none⟩), .int .i64 x, .slice a fs.length fs.length] H (Ret (.bool (B (c.Jm x fs))) H) := by
  refine GCalls.ret rfl ?_
  have _ := hS.obj
  have _ := hS.n40
  refine GCalls.body (N := 25) (rs := [.tmp 6]) Try.func98 rfl rfl rfl rfl (fun Qx u hend => ?_)
  refine .fg [0, 1, 2] rfl ?_
  have d := GHeap.Le.refl H
  have b := h
  have n := hx
  refine .seq (fun K1 a3 => .region ?_)
  refine .R rfl (.boxR rfl sz_58_Fc rfl) ?_
  rintro _ _ ⟨_, rfl, a4, _, m⟩
  replace d := d.trans a4
  replace h := b.mono d
  refine .R rfl (.boxR rfl sz_24_Fc rfl) ?_
  rintro _ H5 ⟨_, rfl, a1, _, r⟩
  replace d := d.trans a1
  replace m := a1.2 _ _ m
  replace h := b.mono d
  refine .mv rfl (.nil (a3 _ _ (.seq (fun K2 a5 => .seq (fun K3 a6 => .region (.mv rfl (.nil (a6 _ _ (.block ?_)))))))))
  refine .loopF (σ := Nat) [1, 3, 5] (fun s => [(7, some (.int .i64 (s : Int)))]) (fun s H' => St [] H5 H' ∧ (s : Int) ≤ c.obj ∧ ∀ t : Nat, t < s → Cans (c.hom t x) fs.length (fun g w => c.th g (fs.getD w 0))) (fun s => c.obj.toNat - s) (0) rfl (.p rfl) ?_ ?_
  ·
   refine ⟨.refl _ _, ?_⟩
   exact ⟨by omega, fun t h => by omega⟩
  rintro s _ ⟨f, hI⟩ _ z
  dsimp only [cA, nA]
  replace d := d.st f (fun k hk => trivial)
  replace m := f.same _ _ trivial m
  replace r := f.same _ _ trivial r
  replace h := b.mono d
  obtain ⟨c0, -, -, -, -, -, -, -, -⟩ := h.get
  obtain ⟨_, ha⟩ := hI
  refine .seq (fun K4 b2 => .seq (fun K5 b1 => .region (.mv rfl ?_)))
  refine .q rfl (.load on_58_F rfl (by first | assumption | exact Mem.of_get m 0 _ rfl)) ?_
  refine .q rfl (.nilCheck rfl) (.q rfl (.fieldAddr fo_27_0_B rfl) (.q rfl (.lA on_2_A rfl) (.q rfl (.cmp rfl rfl rfl) (.nil (b1 _ _ ?_)))))
  refine .cond rfl ?_ ?_ <;> intro a0
  ·
   try simp only [sps] at a0
   refine .skip (b2 _ _ (.seq (fun K6 a9 => .block (.seq (fun K7 a7 => ?_)))))
   refine .regionD mo_B (.qs [0, 1, 2, 4, 5, 6] (.c 3 1 (.c 7 0 (.q 8 (.done))))) (by kernel_rfl) ?_
   refine .q rfl (.load on_58_F rfl (by first | assumption | exact Mem.of_get m 0 _ rfl)) ?_
   refine .mv rfl rfl (.mv rfl rfl ?_)
   refine .q rfl (.load on_24_B rfl (by first | assumption | exact Mem.of_get r 0 _ rfl)) ?_
   refine .q rfl (.len sl_24_A rfl) (.q rfl (.makeFunc rfl) ?_)
   refine .call1 rfl rfl rfl rfl rfl @Try.call92 rfl (hom_c) ?_
   rintro _ _ ⟨l, _, rfl, v, _⟩
   have a2 := l
   refine ⟨a2, ?_⟩
   replace d := d.trans l
   replace f := f.le l
   replace m := l.2 _ _ m
   replace r := l.2 _ _ r
   replace h := b.mono d
   replace hx := n.mono d
   clear c0
   have _ := Ints.of_get v
   refine .callQ0 rfl rfl rfl rfl rfl @Try.call118 rfl (cancels_c (Y := fun g w => c.th g (fs.getD w 0)) v (by have := c.hom_le s x; omega) (by omega) @Try.call119 (fun i w hi hw => by
     obtain ⟨j, _, -, -, _⟩ := c.hom_get hi
     exact jMono1_c h m r hx hS (by omega) (by omega) hw (hf w hw))) ?_
   refine .q rfl (.not rfl) (.done (a7 _ _ ?_))
   refine .cond rfl ?_ ?_ <;> intro y
   ·
    try simp only [sps] at y
    refine .seq (fun K8 a8 => .region (.mv rfl (.nil (a8 _ _ (.ret (u _ _ (⟨_, rfl, ?_⟩)))))))
    exact ⟨congrArg _ (B_false fun q => y ((Cat.Jm.iff hS).1 q s (by omega))), d⟩
   try simp only [sps] at y
   refine .skip (a9 _ _ (.region (.mv rfl (.q rfl (.aD rfl rfl rfl) (.mv rfl (.nil ?_))))))
   refine z (s + 1) _ _ ?_ ?_ (.p rfl)
   ·
    refine ⟨f, ?_⟩
    refine ⟨by omega, fun t ht => ?_⟩
    by_cases e : t < s
    · exact ha t e
    · obtain rfl : t = s := by omega
      exact y
   omega
  try simp only [sps] at a0
  refine .exit (a5 _ _ (.seq (fun K9 b0 => .region (.mv rfl (.nil (b0 _ _ (.ret (u _ _ (⟨_, rfl, ?_⟩)))))))))
  exact ⟨congrArg _ (B_true ((Cat.Jm.iff hS).2 fun t ht => ha t (by omega))), d⟩
theorem jointlyEpi_c {g o : Nat} {c : Cat} {p : CatP} {x : Int} {a : Option Addr} {fs : List Int} {H : GHeap} (h : Cat.At H g o c p := by assumption) (hx : Ints H a fs := by assumption) (hS : c.Shape := by assumption) (hl : fs.length ≤ 1048576 := by omega) (hf : ∀ w, w < fs.length → 0 ≤ fs.getD w 0 ∧ fs.getD w 0 < c.src.length) :
    GCalls Try.prog 99 [.pointer (some ⟨g, o, none⟩), .int .i64 x, .slice a fs.length fs.length] H (Ret (.bool (B (c.Je x fs))) H) := by
  refine GCalls.ret rfl ?_
  have _ := hS.obj
  have _ := hS.n40
  refine GCalls.body (N := 25) (rs := [.tmp 6]) Try.func99 rfl rfl rfl rfl (fun Qx u hend => ?_)
  refine .fg [0, 1, 2] rfl ?_
  have d := GHeap.Le.refl H
  have b := h
  have n := hx
  refine .seq (fun K1 a3 => .region ?_)
  refine .R rfl (.boxR rfl sz_58_Fc rfl) ?_
  rintro _ _ ⟨_, rfl, a4, _, m⟩
  replace d := d.trans a4
  replace h := b.mono d
  refine .R rfl (.boxR rfl sz_24_Fc rfl) ?_
  rintro _ H5 ⟨_, rfl, a1, _, r⟩
  replace d := d.trans a1
  replace m := a1.2 _ _ m
  replace h := b.mono d
  refine .mv rfl (.nil (a3 _ _ (.seq (fun K2 a5 => .seq (fun K3 a6 => .region (.mv rfl (.nil (a6 _ _ (.block ?_)))))))))
  refine .loopF (σ := Nat) [1, 3, 5] (fun s => [(7, some (.int .i64 (s : Int)))]) (fun s H' => St [] H5 H' ∧ (s : Int) ≤ c.obj ∧ ∀ t : Nat, t < s → Cans (c.hom x t) fs.length (fun g w => c.th (fs.getD w 0) g)) (fun s => c.obj.toNat - s) (0) rfl (.p rfl) ?_ ?_
  ·
   refine ⟨.refl _ _, ?_⟩
   exact ⟨by omega, fun t h => by omega⟩
  rintro s _ ⟨f, hI⟩ _ z
  dsimp only [cA, nA]
  replace d := d.st f (fun k hk => trivial)
  replace m := f.same _ _ trivial m
  replace r := f.same _ _ trivial r
  replace h := b.mono d
  obtain ⟨c0, -, -, -, -, -, -, -, -⟩ := h.get
  obtain ⟨_, ha⟩ := hI
  refine .seq (fun K4 b2 => .seq (fun K5 b1 => .region (.mv rfl ?_)))
  refine .q rfl (.load on_58_F rfl (by first | assumption | exact Mem.of_get m 0 _ rfl)) ?_
  refine .q rfl (.nilCheck rfl) (.q rfl (.fieldAddr fo_27_0_B rfl) (.q rfl (.lA on_2_A rfl) (.q rfl (.cmp rfl rfl rfl) (.nil (b1 _ _ ?_)))))
  refine .cond rfl ?_ ?_ <;> intro a0
  ·
   try simp only [sps] at a0
   refine .skip (b2 _ _ (.seq (fun K6 a9 => .block (.seq (fun K7 a7 => ?_)))))
   refine .regionD mo_B (.qs [0, 1, 2, 4, 5, 6] (.c 3 1 (.c 7 0 (.q 8 (.done))))) (by kernel_rfl) ?_
   refine .q rfl (.load on_58_F rfl (by first | assumption | exact Mem.of_get m 0 _ rfl)) ?_
   refine .mv rfl rfl (.mv rfl rfl ?_)
   refine .q rfl (.load on_24_B rfl (by first | assumption | exact Mem.of_get r 0 _ rfl)) ?_
   refine .q rfl (.len sl_24_A rfl) (.q rfl (.makeFunc rfl) ?_)
   refine .call1 rfl rfl rfl rfl rfl @Try.call92 rfl (hom_c) ?_
   rintro _ _ ⟨l, _, rfl, v, _⟩
   have a2 := l
   refine ⟨a2, ?_⟩
   replace d := d.trans l
   replace f := f.le l
   replace m := l.2 _ _ m
   replace r := l.2 _ _ r
   replace h := b.mono d
   replace hx := n.mono d
   clear c0
   have _ := Ints.of_get v
   refine .callQ0 rfl rfl rfl rfl rfl @Try.call118 rfl (cancels_c (Y := fun g w => c.th (fs.getD w 0) g) v (by have := c.hom_le x s; omega) (by omega) @Try.call120 (fun i w hi hw => by
     obtain ⟨j, _, -, -, _⟩ := c.hom_get hi
     exact jEpi1_c h m r hx hS (by omega) (by omega) hw (hf w hw))) ?_
   refine .q rfl (.not rfl) (.done (a7 _ _ ?_))
   refine .cond rfl ?_ ?_ <;> intro y
   ·
    try simp only [sps] at y
    refine .seq (fun K8 a8 => .region (.mv rfl (.nil (a8 _ _ (.ret (u _ _ (⟨_, rfl, ?_⟩)))))))
    exact ⟨congrArg _ (B_false fun q => y ((Cat.Je.iff hS).1 q s (by omega))), d⟩
   try simp only [sps] at y
   refine .skip (a9 _ _ (.region (.mv rfl (.q rfl (.aD rfl rfl rfl) (.mv rfl (.nil ?_))))))
   refine z (s + 1) _ _ ?_ ?_ (.p rfl)
   ·
    refine ⟨f, ?_⟩
    refine ⟨by omega, fun t ht => ?_⟩
    by_cases e : t < s
    · exact ha t e
    · obtain rfl : t = s := by omega
      exact y
   omega
  try simp only [sps] at a0
  refine .exit (a5 _ _ (.seq (fun K9 b0 => .region (.mv rfl (.nil (b0 _ _ (.ret (u _ _ (⟨_, rfl, ?_⟩)))))))))
  exact ⟨congrArg _ (B_true ((Cat.Je.iff hS).2 fun t ht => ha t (by omega))), d⟩
theorem isMono_c {g o : Nat} {c : Cat} {p : CatP} {f : Int} {H : GHeap} (h : Cat.At H g o c p := by assumption) (hS : c.Shape := by assumption) (f0 : 0 ≤ f := by omega) (f1 : f < c.src.length := by omega) :
    GCalls Try.prog 64 [.pointer (some ⟨g, o, none⟩), .int .i64 f] H (Ret (.bool (B (c.Mono f))) H) := by
  refine GCalls.ret rfl ?_
  rw [← B_congr Cat.Jm.one]
  refine GCalls.body (N := 16) (rs := [.tmp 4]) Try.func64 rfl rfl rfl rfl (fun Qx e hend => ?_)
  refine .fg [0, 1] rfl ?_
  have b := GHeap.Le.refl H
  have a := h
  obtain ⟨-, c1, -, -, -, i1, -, -, -⟩ := h.get
  have _ := hS.tl
  have _ := hS.n40
  refine .seq (fun K1 j => .region (.mv rfl (.nil (j _ _ (.seq (fun K2 i => .region (.mv rfl (.mv rfl (.q rfl (.nilCheck rfl) (.q rfl (.fieldAddr fo_27_1_B rfl) (.q rfl (.lA on_24_B rfl) (.mv rfl (.q rfl (.i1 sl_24_A rfl rfl) (.q rfl (.lI on_2_A rfl) (.mv rfl ?_)))))))))))))))
  refine .R rfl (.litA rfl sl_24_A ze_2_L rfl rfl rfl rfl) ?_
  rintro _ _ ⟨_, rfl, d, _, _⟩
  replace b := b.trans d
  replace h := a.mono b
  clear c1 i1
  refine .callQ rfl rfl rfl rfl @Try.call98 rfl (jointlyMono_c (fs := [f]) (hx := Ints.of_get (by assumption)) (hl := by simp) (hf := one_bd ⟨f0, f1⟩)) ?_
  refine .mv rfl (.nil (i _ _ (.ret (e _ _ (⟨_, rfl, ?_⟩)))))
  exact ⟨rfl, b⟩
theorem isEpi_c {g o : Nat} {c : Cat} {p : CatP} {f : Int} {H : GHeap} (h : Cat.At H g o c p := by assumption) (hS : c.Shape := by assumption) (f0 : 0 ≤ f := by omega) (f1 : f < c.src.length := by omega) :
    GCalls Try.prog 66 [.pointer (some ⟨g, o, none⟩), .int .i64 f] H (Ret (.bool (B (c.Epi f))) H) := by
  refine GCalls.ret rfl ?_
  rw [← B_congr Cat.Je.one]
  refine GCalls.body (N := 16) (rs := [.tmp 4]) Try.func66 rfl rfl rfl rfl (fun Qx e hend => ?_)
  refine .fg [0, 1] rfl ?_
  have b := GHeap.Le.refl H
  have a := h
  obtain ⟨-, -, c2, -, -, -, i2, -, -⟩ := h.get
  have _ := hS.tl
  have _ := hS.n40
  refine .seq (fun K1 j => .region (.mv rfl (.nil (j _ _ (.seq (fun K2 i => .region (.mv rfl (.mv rfl (.q rfl (.nilCheck rfl) (.q rfl (.fieldAddr fo_27_2_B rfl) (.q rfl (.lA on_24_B rfl) (.mv rfl (.q rfl (.i1 sl_24_A rfl rfl) (.q rfl (.lI on_2_A rfl) (.mv rfl ?_)))))))))))))))
  refine .R rfl (.litA rfl sl_24_A ze_2_L rfl rfl rfl rfl) ?_
  rintro _ _ ⟨_, rfl, d, _, _⟩
  replace b := b.trans d
  replace h := a.mono b
  clear c2 i2
  refine .callQ rfl rfl rfl rfl @Try.call99 rfl (jointlyEpi_c (fs := [f]) (hx := Ints.of_get (by assumption)) (hl := by simp) (hf := one_bd ⟨f0, f1⟩)) ?_
  refine .mv rfl (.nil (i _ _ (.ret (e _ _ (⟨_, rfl, ?_⟩)))))
  exact ⟨rfl, b⟩
end Go.Proofs.Ytfanjkbaemhbmaa
namespace Go.Proofs.Ytfanjkbaemhbmaa
open Go Go.GL Go.RowKit Go.Proofs
end Go.Proofs.Ytfanjkbaemhbmaa
namespace Go.Proofs.Ytfanjkbaemhbmaa
open Go Go.GL Go.RowKit Go.Proofs
end Go.Proofs.Ytfanjkbaemhbmaa
namespace Go.GL
abbrev hd (l : List Int) : Int := l.getD 0 0
structure EqvOn (P : Int → Prop) (E : Int → Int → Bool) : Prop where
  refl : ∀ x, P x → E x x = true
  symm : ∀ x y, E x y = true → E y x = true
  trans : ∀ x y z, P x → P y → P z → E x y = true → E y z = true → E x z = true
structure ClsOk (P : Int → Prop) (E : Int → Int → Bool) (T : List (List Int)) : Prop where
  ne : ∀ i, i < T.length → 0 < (T.getD i []).length
  mem : ∀ i, i < T.length → ∀ x ∈ T.getD i [], P x ∧ E x (hd (T.getD i [])) = true
  ap : ∀ i j, i < T.length → j < T.length → i ≠ j → E (hd (T.getD i [])) (hd (T.getD j [])) = false
structure Cat.ToX (c : Cat) (x m : Int) : Prop where
  ge : 0 ≤ m
  lt : m < c.src.length
  tg : c.T m = x
  mono : c.Mono m
end Go.GL
namespace Go.Proofs.Ytfanjkbaemhbmaa
open Go Go.GL Go.RowKit Go.Proofs
end Go.Proofs.Ytfanjkbaemhbmaa
namespace Go.Proofs.Ytfanjkbaemhbmaa
open Go Go.GL Go.RowKit Go.Proofs
end Go.Proofs.Ytfanjkbaemhbmaa
namespace Go.GL
end Go.GL
namespace Go.Proofs.Ytfanjkbaemhbmaa
open Go Go.GL Go.RowKit Go.Proofs
end Go.Proofs.Ytfanjkbaemhbmaa
namespace Go.Proofs.Ytfanjkbaemhbmaa
open Go Go.GL Go.RowKit Go.Proofs
end Go.Proofs.Ytfanjkbaemhbmaa
namespace Go.Proofs.Ytfanjkbaemhbmaa
open Go Go.GL Go.RowKit Go.Proofs
end Go.Proofs.Ytfanjkbaemhbmaa
namespace Go.Proofs.Ytfanjkbaemhbmaa
open Go Go.GL Go.RowKit Go.Proofs
end Go.Proofs.Ytfanjkbaemhbmaa
namespace Go.GL
structure SubSt (eI eS : TypeId) (H H' : GHeap) (gV : Nat) (rr : Nat → Option Addr) (T : List (List Int)) : Prop where
  le : H.Le H'
  a5 : H'.get gV = some (.row (slsL rr T) eS true)
  b5 : H.next ≤ gV
  own : OwnL H.next H' eI rr T
theorem MStep.shl1 {P : Program} {fr : Slots} {H : GHeap} {t u : TypeId} {x y : Operand} {j : Nat} (hj : j < 5) (hx : ev fr x = some (.int .i64 1)) (hy : ev fr y = some (.int .i64 (j : Int))) : MStep P fr H (.binOp .shl t x y u) (.int .i64 ((2 : Int) ^ j)) :=
  .intOp hx hy fun w => by
    show (Op.shift .shl .i64 1 .i64 (j : Int)).run P w = _
    match j, hj with
    | 0, _ => rfl
    | 1, _ => rfl
    | 2, _ => rfl
    | 3, _ => rfl
    | 4, _ => rfl
theorem arr5 {b0 b1 b2 b3 b4 : Bool} {k : Nat} (h : k < 5) : (#[Value.bool b0, .bool b1, .bool b2, .bool b3, .bool b4] : Array Value)[((k : Nat) : Int).toNat]? = some (.bool ([b0, b1, b2, b3, b4].getD k false)) := by
  match k, h with
  | 0, _ => rfl
  | 1, _ => rfl
  | 2, _ => rfl
  | 3, _ => rfl
  | 4, _ => rfl
theorem pow5 {k : Nat} (h : k < 5) : 0 ≤ (2 : Int) ^ k ∧ (2 : Int) ^ k ≤ 16 := by
  match k, h with
  | 0, _ => decide
  | 1, _ => decide
  | 2, _ => decide
  | 3, _ => decide
  | 4, _ => decide
def kpS (l : List Bool) : Nat → Int
  | 0 => 0
  | k + 1 => kpS l k + if l.getD k false = true then (2 : Int) ^ k else 0
theorem kpS_bd (l : List Bool) : ∀ k, k ≤ 5 → 0 ≤ kpS l k ∧ kpS l k ≤ 16 * k
  | 0, _ => by simp [kpS]
  | k + 1, h => by
    have := kpS_bd l k (by omega)
    have := pow5 (k := k) (by omega)
    simp only [kpS]
    split <;> omega
noncomputable def Cat.kbL (c : Cat) (f : Nat) : List Bool := [B (c.Mono f), B (c.Epi f), decide (((c.retr f).length : Int) > 0), decide (((c.sect f).length : Int) > 0), decide (c.inv f ≥ 0)]
noncomputable def Cat.kind (c : Cat) (f : Nat) : Int := kpS (c.kbL f) 5
noncomputable def Cat.kinds (c : Cat) : List Int := (List.range c.src.length).map c.kind
@[simp] theorem Cat.length_kinds (c : Cat) : c.kinds.length = c.src.length := by simp [Cat.kinds]
theorem Cat.kinds_get {c : Cat} {f : Nat} (h : f < c.src.length) : c.kinds.getD f 0 = c.kind f := by simp [Cat.kinds, List.getD_eq_getElem?_getD, h]
theorem part0_cur {n : Nat} {f : Nat → Int} {i : Nat} (h : i < n) : (part0 n f i).set i 0 = part0 n f i := by
  refine eq_of_getD (by simp) fun j hj => ?_
  rw [length_part0] at hj
  rw [getD_set (by simpa using h)]
  split
  · rename_i e
    subst e
    rw [part0_get hj, decide_eq_false (Nat.lt_irrefl _)]; rfl
  · rfl
theorem Cat.kind_eq (c : Cat) (f : Nat) : c.kind f = (if B (c.Mono f) = true then 1 else 0) + (if B (c.Epi f) = true then 2 else 0) + (if ((c.retr f).length : Int) > 0 then 4 else 0) + (if ((c.sect f).length : Int) > 0 then 8 else 0) + (if c.inv f ≥ 0 then 16 else 0) := by
  unfold Cat.kind Cat.kbL
  simp only [kpS, List.getD_cons_zero, List.getD_cons_succ, decide_eq_true_eq, Int.zero_add]
  rfl
theorem Cat.kind_mono {c : Cat} {f : Nat} : (c.kind f).tmod 2 = 1 ↔ c.Mono f := by
  rw [Cat.kind_eq, Int.tmod_eq_emod_of_nonneg (by split <;> split <;> split <;> split <;> split <;> decide)]
  by_cases h : c.Mono f
  · rw [if_pos (B_iff.2 h)]
    refine ⟨fun _ => h, fun _ => ?_⟩
    split <;> split <;> split <;> split <;> decide
  · rw [if_neg (fun q => h (B_iff.1 q))]
    refine ⟨fun q => ?_, fun q => absurd q h⟩
    exfalso
    revert q
    split <;> split <;> split <;> split <;> decide
end Go.GL
namespace Go.Proofs.Ytfanjkbaemhbmaa
open Go Go.GL Go.RowKit Go.Proofs
theorem sz_4_Fs : (Try.prog.info? 4).map (·.size) = some 1 := by kernel_rfl
theorem on_4_Fs : oneT Try.prog 4 = true := by kernel_rfl
theorem bta_83_Fs : buildAT Try.prog 83 = some ([.bool false, .bool false, .bool false, .bool false, .bool false], 1) := by kernel_rfl
theorem ze_83_Fs : zeroT Try.prog 83 = some ([.bool false, .bool false, .bool false, .bool false, .bool false], 5) := by kernel_rfl
theorem sz_83_Fs : (Try.prog.info? 83).map (·.size) = some 5 := by kernel_rfl
theorem ag_83_Fs : aggT Try.prog 83 = some 5 := by kernel_rfl
theorem und_arr5 : Try.prog.underlying 83 = some (.array 5 4) := by kernel_rfl
set_option maxHeartbeats 4000000 in
theorem arrowKinds_c {c : Cat} {p : CatP} {H : GHeap} (hin : c.In H p := by assumption) (hs : c.Small := by assumption) :
    GCalls Try.prog 28 [.agg (c.cells p).toArray] H (NewLC (c.code []) (codeL (c.code []) c.kinds) H) := by
  refine GCalls.body (N := 53) (rs := [.tmp 2, .tmp 3]) Try.func28 rfl rfl rfl rfl (fun Qx a0 hend => ?_)
  refine .fg [0] rfl ?_
  have f := GHeap.Le.refl H
  have b := hin
  refine .seq (fun K1 c2 => .region ?_)
  refine .R rfl (.boxR rfl sz_27_D rfl) ?_
  rintro _ _ ⟨g1, rfl, c7, _, h⟩
  replace f := f.trans c7
  have _ := GHeap.ltg h
  replace hin := b.mono f
  have n : Cat.At _ g1 0 c p := ⟨Mem.of_get h, hin⟩
  refine .mv rfl (.mv rfl (.nil (c2 _ _ (.seq (fun K2 c4 => .seq (fun K3 c5 => .region ?_))))))
  refine .callQ rfl rfl rfl rfl @Try.call34 rfl (isCategory_c) ?_
  refine .q rfl (.not rfl) (.nil (c5 _ _ ?_))
  refine .cond rfl ?_ ?_ <;> intro w
  ·
   try simp only [sps] at w
   refine .seq (fun K4 d2 => .region (.mv rfl (.mv rfl (.nil (d2 _ _ (.ret (a0 _ _ (⟨_, _, rfl, rfl, ?_⟩))))))))
   rw [codeL_err (by rw [Cat.code_nil1 w]; decide), Cat.code_nil1 w]; exact ⟨f, none, rfl, .inl ⟨rfl, rfl⟩⟩
  simp only [sps] at w
  have hS := w.1
  have _ := hS.n40
  refine .skip (c4 _ _ (.seq (fun K5 c3 => .region ?_)))
  refine .callQ rfl rfl rfl rfl @Try.call67 rfl (arrows_c) ?_
  refine .R rfl (.makeIN rfl sl_24_A ze_2_L by_2_L rfl rfl (by omega) (by omega) (by omega)) ?_
  rintro _ c6 ⟨x, rfl, z, _, a9⟩
  replace f := f.trans z
  replace h := z.2 _ _ h
  replace hin := b.mono f
  clear n
  have n : Cat.At _ g1 0 c p := ⟨Mem.of_get h, hin⟩
  refine .mv rfl (.nil (c3 _ _ (.seq (fun K6 d0 => .seq (fun K7 c8 => .region (.mv rfl (.q rfl (.len sl_24_A rfl) (.mv rfl (.nil (c8 _ _ (.block ?_)))))))))))
  refine .loopF (σ := Nat) [1, 4, 15] (fun i => [(16, some (.int .i64 (i : Int)))]) (fun i H' => St [x] c6 H' ∧ H'.get x = some (.row (ints (part0 c.src.length c.kind i)) 2 true) ∧ i ≤ c.src.length) (fun i => c.src.length - i) (0) rfl (.p rfl) ?_ ?_
  ·
   refine ⟨.refl _ _, by (rw [part0_zero]; simpa using a9), ?_⟩
   omega
  rintro i _ ⟨e, d, hI⟩ _ b6
  dsimp only [cA, nA]
  have _ := e.nx
  replace f := f.st e (fun k hk => ⟨by omega, trivial⟩)
  have g : NE g1 x := .a
  replace h := e.s h g.ne
  have _ := GHeap.ltg d
  replace hin := b.mono f
  clear n
  have n : Cat.At _ g1 0 c p := ⟨Mem.of_get h, hin⟩
  refine .seq (fun K8 c9 => .region (.q rfl (.cmp rfl rfl rfl) (.nil (c9 _ _ (.seq (fun K9 d1 => ?_))))))
  refine .cond rfl ?_ ?_ <;> intro c0
  ·
   simp only [sps, length_part0, List.length_replicate] at c0
   refine .skip (d1 _ _ (.seq (fun K10 a5 => .block (.seq (fun K11 b8 => .region (.mv rfl (.mv rfl (.nil (b8 _ _ (.seq (fun K12 a8 => .region (.mv rfl (.mv rfl (.nil (a8 _ _ ?_)))))))))))))))
   refine .seq (fun K13 b7 => .region (.mv rfl ?_))
   refine .callQ rfl rfl rfl rfl @Try.call64 rfl (isMono_c) ?_
   refine .mv rfl ?_
   refine .callQ rfl rfl rfl rfl @Try.call66 rfl (isEpi_c) ?_
   refine .mv rfl ?_
   refine .call rfl rfl rfl rfl @Try.call68 rfl (retractions_c) ?_
   rintro _ _ ⟨t, _, rfl, a4, _⟩
   replace f := f.trans t
   replace e := e.le t
   replace h := t.2 _ _ h
   replace d := t.2 _ _ d
   have _ := GHeap.ltg a4
   replace hin := b.mono f
   clear n
   have n : Cat.At _ g1 0 c p := ⟨Mem.of_get h, hin⟩
   refine .q rfl (.len sl_24_A rfl) (.q rfl (.cmp rfl rfl rfl) (.mv rfl ?_))
   refine .call rfl rfl rfl rfl @Try.call69 rfl (sections_c) ?_
   rintro _ _ ⟨u, _, rfl, b1, _⟩
   replace f := f.trans u
   replace e := e.le u
   replace h := u.2 _ _ h
   replace d := u.2 _ _ d
   have _ := GHeap.ltg b1
   replace hin := b.mono f
   clear n
   have n : Cat.At _ g1 0 c p := ⟨Mem.of_get h, hin⟩
   refine .q rfl (.len sl_24_A rfl) (.q rfl (.cmp rfl rfl rfl) (.mv rfl ?_))
   refine .callQ rfl rfl rfl rfl @Try.call58 rfl (inverse_c) ?_
   refine .q rfl (.cmp rfl rfl rfl) (.q rfl (.buildA bta_83_Fs rfl rfl rfl) ?_)
   refine .R rfl (.allocR rfl ze_83_Fs rfl) ?_
   rintro _ _ ⟨_, rfl, a3, _, _⟩
   replace f := f.trans a3
   replace e := e.le a3
   replace h := a3.2 _ _ h
   replace d := a3.2 _ _ d
   replace hin := b.mono f
   clear n
   have n : Cat.At _ g1 0 c p := ⟨Mem.of_get h, hin⟩
   refine .r0 rfl rfl (.fillA rfl sz_83_Fs rfl rfl rfl rfl) ?_
   rintro _ y ⟨rfl, m, v⟩
   replace f := f.st m (fun k hk => ⟨by omega, trivial⟩)
   replace e := e.sA m
   replace h := m.s h
   replace d := m.s d
   replace hin := b.mono f
   clear n
   have n : Cat.At _ g1 0 c p := ⟨Mem.of_get h, hin⟩
   refine .nil (b7 _ _ (.seq (fun K14 a6 => .region ?_)))
   refine .q rfl (.loadM ag_83_Fs rfl ⟨rfl, Mem.of_get v⟩) ?_
   refine .mv rfl (.nil (a6 _ _ (.block ?_)))
   refine .loopF (σ := Nat) [1, 4, 5, 15, 16, 36] (fun k => [(37, some (.int .i64 (k : Int)))]) (fun k H' => St [x] y H' ∧ H'.get x = some (.row (ints ((part0 c.src.length c.kind i).set i (kpS (c.kbL i) k))) 2 true) ∧ k ≤ 5) (fun k => 5 - k) (0) rfl (.p rfl) ?_ ?_
   ·
    refine ⟨.refl _ _, by (rw [show kpS (c.kbL i) 0 = 0 from rfl, part0_cur (by omega)]; assumption), ?_⟩
    omega
   rintro k _ ⟨o, d, hI⟩ _ a1
   dsimp only [cA, nA]
   replace f := f.st o (fun k hk => ⟨by omega, trivial⟩)
   replace e := e.sA o
   replace h := o.s h g.ne
   replace hin := b.mono f
   clear n
   have n : Cat.At _ g1 0 c p := ⟨Mem.of_get h, hin⟩
   have _ := kpS_bd (c.kbL i) k hI
   have _ : ((part0 c.src.length c.kind i).set i (kpS (c.kbL i) k)).length = c.src.length := by rw [List.length_set, length_part0]
   refine .seq (fun K15 b5 => .region (.q rfl (.cmp rfl rfl rfl) (.nil (b5 _ _ (.seq (fun K16 b2 => ?_))))))
   refine .cond rfl ?_ ?_ <;> intro c1
   ·
    simp only [sps] at c1
    have _ := pow5 (k := k) (by omega)
    refine .skip (b2 _ _ (.seq (fun K17 a2 => .block (.seq (fun K18 b0 => .region (.mv rfl ?_))))))
    refine .q rfl (.indexV und_arr5 sz_4_Fs on_4_Fs rfl rfl (by omega) (by omega) (arr5 (by omega))) ?_
    refine .mv rfl (.mv rfl (.nil (b0 _ _ (.seq (fun K19 b3 => .region (.mv rfl (.nil (b3 _ _ ?_))))))))
    refine .cond rfl ?_ ?_ <;> intro b9
    ·
     have a7 : kpS (c.kbL i) (k + 1) = kpS (c.kbL i) k + (2 : Int) ^ k := by
       show _ + (if (c.kbL i).getD k false = true then (2 : Int) ^ k else 0) = _
       rw [if_pos (show (c.kbL i).getD k false = true from b9)]
     refine .regionD mo_B (.qs [0, 1, 2, 3, 4, 5, 6, 7] (.c 8 0 (.done))) (by kernel_rfl) ?_
     refine .mv rfl rfl (.mv rfl rfl ?_)
     refine .q rfl (.idxN sl_24_A (by first | assumption | exact SlA.of_row d (by first | rfl | (simp; done) | (simp <;> omega))) rfl rfl (by omega)) ?_
     refine .q rfl (.loadI on_2_A (by first | assumption | exact Ints.of_get d) rfl (by omega)) ?_
     rw [getD_set (by rw [length_part0]; omega), if_pos rfl]
     refine .mv rfl rfl ?_
     refine .q rfl (.shl1 (j := k) (by omega) rfl rfl) ?_
     refine .q rfl (.aD rfl rfl rfl) ?_
     refine .q rfl (.idxN sl_24_A (by first | assumption | exact SlA.of_row d (by first | rfl | (simp; done) | (simp <;> omega))) rfl rfl (by omega)) ?_
     refine .r0 rfl rfl rfl (.storeI rfl sz_2_N rfl rfl (by assumption) (by first | omega | (simp <;> omega))) ?_
     rintro _ _ ⟨rfl, l, r⟩
     replace f := f.st l (fun k hk => ⟨by omega, trivial⟩)
     replace o := o.sA l
     replace h := l.s h g.ne
     replace hin := b.mono f
     clear n
     have n : Cat.At _ g1 0 c p := ⟨Mem.of_get h, hin⟩
     rw [Nat.zero_add] at r
     rw [List.set_set, ← a7] at r
     refine .done (a2 _ _ (.region (.q rfl (.aD rfl rfl rfl) (.mv rfl (.nil ?_)))))
     refine a1 (k + 1) _ _ ?_ ?_ (.p rfl)
     ·
      refine ⟨o, by assumption, ?_⟩
      omega
     omega
    have a7 : kpS (c.kbL i) (k + 1) = kpS (c.kbL i) k := by
      show _ + (if (c.kbL i).getD k false = true then (2 : Int) ^ k else 0) = _
      rw [if_neg (by rw [show (c.kbL i).getD k false = false from b9]; simp), Int.add_zero]
    refine .skip (a2 _ _ (.region (.q rfl (.aD rfl rfl rfl) (.mv rfl (.nil ?_)))))
    refine a1 (k + 1) _ _ ?_ ?_ (.p rfl)
    ·
     refine ⟨o, by (rw [a7]; assumption), ?_⟩
     omega
    omega
   try simp only [sps] at c1
   refine .exit (a5 _ _ (.region ?_))
   obtain rfl : k = 5 := by omega
   refine .q rfl (.aD rfl rfl rfl) (.mv rfl (.nil ?_))
   refine b6 (i + 1) _ _ ?_ ?_ (.p rfl)
   ·
    refine ⟨e, by (rw [part0_set (by omega) rfl]; assumption), ?_⟩
    omega
   omega
  try simp only [sps] at c0
  refine .exit (d0 _ _ (.seq (fun K20 b4 => .region (.mv rfl (.mv rfl (.mv rfl (.nil (b4 _ _ (.ret (a0 _ _ (⟨_, _, rfl, rfl, ?_⟩)))))))))))
  obtain rfl : i = c.src.length := by omega
  have hkk : part0 c.src.length c.kind c.src.length = c.kinds := part0_all _ _
  rw [hkk] at d
  rw [codeL_ok (Cat.code_nil.2 w), Cat.code_nil.2 w]
  exact ⟨f, some ⟨x, 0, none⟩, by rw [Cat.length_kinds], .of_at d (by omega)⟩
end Go.Proofs.Ytfanjkbaemhbmaa
namespace Go.GL
def Fun.Cons (f : Fun) : Prop := ∀ a : Nat, a < f.ar.length → ¬ (0 ≤ f.t.inv (f.ar.getD a 0) ∧ f.s.inv a < 0)
def Fun.KMo (f : Fun) : Prop := ∀ a : Nat, a < f.ar.length → ¬ (f.s.Mono a ∧ ¬ f.t.Mono (f.ar.getD a 0))
def Fun.KEp (f : Fun) : Prop := ∀ a : Nat, a < f.ar.length → ¬ (f.s.Epi a ∧ ¬ f.t.Epi (f.ar.getD a 0))
def Cat.Ar (c : Cat) (a : Int) : Prop := 0 ≤ a ∧ a < c.src.length
theorem Cat.monoI {c : Cat} {f : Int} : c.Mono f ↔ ∀ g h : Int, c.Ar g → c.Ar h → c.S g = c.S h → c.T g = c.S f → c.T h = c.S f → c.th g f = c.th h f → g = h :=
  ⟨fun m g h hg hh e1 e2 e3 e4 => by
    have hg' := hg
    have hh' := hh
    obtain ⟨g0, g1⟩ := hg'
    obtain ⟨h0, h1⟩ := hh'
    have := m.all g.toNat h.toNat (by omega) (by omega) e1 e2 e3 (by unfold Cat.th at e4 ⊢; rw [Int.toNat_natCast, Int.toNat_natCast]; exact e4)
    omega, fun q => ⟨fun g h hg hh e1 e2 e3 e4 => by
    have := q g h ⟨by omega, by omega⟩ ⟨by omega, by omega⟩ (by unfold Cat.S; rw [Int.toNat_natCast, Int.toNat_natCast]; exact e1) (by unfold Cat.T; rw [Int.toNat_natCast]; exact e2) (by unfold Cat.T; rw [Int.toNat_natCast]; exact e3) e4
    omega⟩⟩
theorem Cat.epiI {c : Cat} {f : Int} : c.Epi f ↔ ∀ g h : Int, c.Ar g → c.Ar h → c.T g = c.T h → c.S g = c.T f → c.S h = c.T f → c.th f g = c.th f h → g = h :=
  ⟨fun m g h hg hh e1 e2 e3 e4 => by
    have hg' := hg
    have hh' := hh
    obtain ⟨g0, g1⟩ := hg'
    obtain ⟨h0, h1⟩ := hh'
    have := m.all g.toNat h.toNat (by omega) (by omega) e1 e2 e3 (by unfold Cat.th at e4 ⊢; rw [Int.toNat_natCast, Int.toNat_natCast]; exact e4)
    omega, fun q => ⟨fun g h hg hh e1 e2 e3 e4 => by
    have := q g h ⟨by omega, by omega⟩ ⟨by omega, by omega⟩ (by unfold Cat.T; rw [Int.toNat_natCast, Int.toNat_natCast]; exact e1) (by unfold Cat.S; rw [Int.toNat_natCast]; exact e2) (by unfold Cat.S; rw [Int.toNat_natCast]; exact e3) e4
    omega⟩⟩
theorem Cat.isoI {c : Cat} {f : Int} : 0 ≤ c.inv f ↔ ∃ g, c.Ar g ∧ c.S g = c.T f ∧ c.T g = c.S f ∧ c.th f g = c.I (c.S f) ∧ c.th g f = c.I (c.T f) := by
  rw [Cat.inv_some]
  constructor
  · rintro ⟨g, h1, h2⟩
    obtain ⟨k, k1, k2, k3, k4, rfl⟩ := Cat.mem_retr.1 h1
    obtain ⟨j, j1, j2, j3, j4, e⟩ := Cat.mem_sect.1 h2
    obtain rfl : k = j := by omega
    exact ⟨k, ⟨by omega, by omega⟩, by unfold Cat.S; rw [Int.toNat_natCast]; exact k2, by unfold Cat.T; rw [Int.toNat_natCast]; exact k3, k4, j4⟩
  · rintro ⟨g, ⟨g0, g1⟩, e1, e2, e3, e4⟩
    obtain ⟨k, rfl⟩ : ∃ k : Nat, g = k := ⟨g.toNat, by omega⟩
    unfold Cat.S at e1
    unfold Cat.T at e2
    rw [Int.toNat_natCast] at e1 e2
    exact ⟨k, Cat.mem_retr.2 ⟨k, by omega, e1, e2, e3, rfl⟩, Cat.mem_sect.2 ⟨k, by omega, e1, e2, e4, rfl⟩⟩
section
variable {f : Fun}
abbrev Fun.M (f : Fun) (a : Int) : Int := f.ar.getD a.toNat 0
theorem Fun.Is.im (h : f.Is) {a : Int} (ha : f.s.Ar a) : f.t.Ar (f.M a) ∧ f.t.S (f.M a) = f.O (f.s.S a) ∧ f.t.T (f.M a) = f.O (f.s.T a) ∧ (0 ≤ f.s.S a ∧ f.s.S a < f.s.obj) ∧ (0 ≤ f.s.T a ∧ f.s.T a < f.s.obj) := by
  obtain ⟨a0, a1⟩ := ha
  have hal := h.2.2.al
  have hol := h.2.2.ol
  have htl := h.1.1.tl
  have r := h.2.2.ar a.toNat (by omega)
  have e := h.2.2.ends a.toNat (by omega)
  have s1 := h.1.1.src a.toNat (by omega)
  have s2 := h.1.1.tgt a.toNat (by omega)
  exact ⟨⟨r.1, r.2⟩, e.1, e.2, s1, s2⟩
theorem Fun.Is.comp (h : f.Is) {a b : Int} (ha : f.s.Ar a) (hb : f.s.Ar b) (e : f.s.T a = f.s.S b) : f.M (f.s.th a b) = f.t.th (f.M a) (f.M b) := by
  obtain ⟨a0, a1⟩ := ha
  obtain ⟨b0, b1⟩ := hb
  have := h.2.2.th a.toNat (by omega) b.toNat (by omega) e
  rw [Int.toNat_of_nonneg a0, Int.toNat_of_nonneg b0] at this
  exact this
theorem Fun.Is.idm (h : f.Is) {x : Int} (h0 : 0 ≤ x) (h1 : x < f.s.obj) : f.M (f.s.I x) = f.t.I (f.O x) := by
  have hil := h.1.1.il
  exact h.2.2.ids x.toNat (by omega)
theorem Fun.Is.fai (h : f.Is) (hf : f.Faithful) {a b : Int} (ha : f.s.Ar a) (hb : f.s.Ar b) (e1 : f.s.S a = f.s.S b) (e2 : f.s.T a = f.s.T b) (e3 : f.M a = f.M b) : a = b := by
  obtain ⟨a0, a1⟩ := ha
  obtain ⟨b0, b1⟩ := hb
  have hal := h.2.2.al
  rcases Nat.lt_trichotomy a.toNat b.toNat with q | q | q
  · exact absurd ⟨e1.symm, e2.symm, e3.symm⟩ (hf b.toNat (by omega) a.toNat q)
  · omega
  · exact absurd ⟨e1, e2, e3⟩ (hf a.toNat (by omega) b.toNat q)
theorem Fun.Is.ful (h : f.Is) (hf : f.Full) {x y g : Int} (hx : 0 ≤ x ∧ x < f.s.obj) (hy : 0 ≤ y ∧ y < f.s.obj) (hg : f.t.Ar g) (e1 : f.t.S g = f.O x) (e2 : f.t.T g = f.O y) : ∃ a, f.s.Ar a ∧ f.s.S a = x ∧ f.s.T a = y ∧ f.M a = g := by
  obtain ⟨g0, g1⟩ := hg
  have hm : g ∈ f.t.hom (f.O x) (f.O y) := Cat.mem_hom.2 ⟨g.toNat, by omega, e1, e2, by omega⟩
  obtain ⟨i, hi, e⟩ := List.mem_iff_getElem.1 hm
  have := hf x.toNat (by omega) y.toNat (by omega) i hi
  rw [List.getD_eq_getElem?_getD, List.getElem?_eq_getElem hi, Option.getD_some, e] at this
  obtain ⟨b, b1, b2⟩ := mem_thenL.1 this
  obtain ⟨k, k1, k2, k3, rfl⟩ := Cat.mem_hom.1 b1
  exact ⟨k, ⟨by omega, by omega⟩, by unfold Cat.S; rw [Int.toNat_natCast]; omega, by unfold Cat.T; rw [Int.toNat_natCast]; omega, b2⟩
theorem Fun.Is.iso (h : f.Is) {a : Int} (ha : f.s.Ar a) (hi : 0 ≤ f.s.inv a) : 0 ≤ f.t.inv (f.M a) := by
  obtain ⟨g, g1, g2, g3, g4, g5⟩ := Cat.isoI.1 hi
  obtain ⟨a1, a2, a3, a4, a5⟩ := h.im ha
  obtain ⟨b1, b2, b3, _, _⟩ := h.im g1
  exact Cat.isoI.2 ⟨f.M g, b1, by rw [b2, g2, a3], by rw [b3, g3, a2], by rw [← h.comp ha g1 g2.symm, g4, h.idm a4.1 a4.2, a2], by rw [← h.comp g1 ha g3, g5, h.idm a5.1 a5.2, a3]⟩
theorem Fun.Is.monoR (h : f.Is) (hf : f.Faithful) {a : Int} (ha : f.s.Ar a) (hm : f.t.Mono (f.M a)) : f.s.Mono a := Cat.monoI.2 fun g k hg hk e1 e2 e3 e4 => by
  obtain ⟨a1, a2, a3, _, _⟩ := h.im ha
  obtain ⟨g1, g2, g3, _, _⟩ := h.im hg
  obtain ⟨k1, k2, k3, _, _⟩ := h.im hk
  exact h.fai hf hg hk e1 (by rw [e2, e3]) (Cat.monoI.1 hm _ _ g1 k1 (by rw [g2, k2, e1]) (by rw [g3, e2, a2]) (by rw [k3, e3, a2]) (by rw [← h.comp hg ha e2, ← h.comp hk ha e3, e4]))
theorem Fun.Is.epiR (h : f.Is) (hf : f.Faithful) {a : Int} (ha : f.s.Ar a) (hm : f.t.Epi (f.M a)) : f.s.Epi a := Cat.epiI.2 fun g k hg hk e1 e2 e3 e4 => by
  obtain ⟨a1, a2, a3, _, _⟩ := h.im ha
  obtain ⟨g1, g2, g3, _, _⟩ := h.im hg
  obtain ⟨k1, k2, k3, _, _⟩ := h.im hk
  exact h.fai hf hg hk (by rw [e2, e3]) e1 (Cat.epiI.1 hm _ _ g1 k1 (by rw [g3, k3, e1]) (by rw [g2, e2, a3]) (by rw [k2, e3, a3]) (by rw [← h.comp ha hg e2.symm, ← h.comp ha hk e3.symm, e4]))
theorem Fun.Is.cons (h : f.Is) (hE : f.Equiv) : f.Cons := fun a ha ⟨h1, h2⟩ => by
  have hal := h.2.2.al
  have hA : f.s.Ar a := ⟨by omega, by omega⟩
  have eM : f.M (a : Int) = f.ar.getD a 0 := by unfold Fun.M; rw [Int.toNat_natCast]
  rw [← eM] at h1
  obtain ⟨g, g1, g2, g3, g4, g5⟩ := Cat.isoI.1 h1
  obtain ⟨a1, a2, a3, a4, a5⟩ := h.im hA
  obtain ⟨b, b1, b2, b3, b4⟩ := h.ful hE.1 a5 a4 g1 (by rw [g2, a3]) (by rw [g3, a2])
  obtain ⟨p1, p2, p3⟩ := Cat.th_two h.1.1 hA b1 b2.symm
  obtain ⟨q1, q2, q3⟩ := Cat.th_two h.1.1 b1 hA b3
  obtain ⟨i1, i2, i3⟩ := Cat.id_in h.1.1 a4.1 a4.2
  obtain ⟨j1, j2, j3⟩ := Cat.id_in h.1.1 a5.1 a5.2
  have := Cat.isoI.2 ⟨b, b1, b2, b3, h.fai hE.2.1 p1 i1 (by rw [p2, i2]) (by rw [p3, i3, b3]) (by rw [h.comp hA b1 b2.symm, b4, g4, h.idm a4.1 a4.2, a2]), h.fai hE.2.1 q1 j1 (by rw [q2, j2, b2]) (by rw [q3, j3]) (by rw [h.comp b1 hA b3, b4, g5, h.idm a5.1 a5.2, a3])⟩
  omega
theorem Fun.Is.onto (h : f.Is) (hE : f.Equiv) {z : Int} (h0 : 0 ≤ z) (h1 : z < f.t.obj) : ∃ x e e' : Int, (0 ≤ x ∧ x < f.s.obj) ∧ f.t.Ar e ∧ f.t.Ar e' ∧ f.t.S e = f.O x ∧ f.t.T e = z ∧ f.t.S e' = z ∧ f.t.T e' = f.O x ∧ f.t.th e' e = f.t.I z := by
  obtain ⟨x, x1, e, e1, e2⟩ := hE.2.2 z.toNat (by omega)
  have hol := h.2.2.ol
  obtain ⟨k, k1, k2, k3, rfl⟩ := Cat.mem_hom.1 e1
  obtain ⟨g, g1, g2, g3, g4, g5⟩ := Cat.isoI.1 e2
  have eS : f.t.S (k : Int) = f.O (x : Int) := by unfold Cat.S Fun.O; rw [Int.toNat_natCast, Int.toNat_natCast]; exact k2
  have eT : f.t.T (k : Int) = z := by unfold Cat.T; rw [Int.toNat_natCast]; omega
  exact ⟨x, k, g, ⟨by omega, by omega⟩, ⟨by omega, by omega⟩, g1, eS, eT, by rw [g2, eT], by rw [g3, eS], by rw [g5, eT]⟩
theorem Fun.Is.kmo (h : f.Is) (hE : f.Equiv) : f.KMo := fun a ha ⟨h1, h2⟩ => h2 <| by
  have hal := h.2.2.al
  have hA : f.s.Ar a := ⟨by omega, by omega⟩
  have eM : f.M (a : Int) = f.ar.getD a 0 := by unfold Fun.M; rw [Int.toNat_natCast]
  rw [← eM]
  obtain ⟨a1, a2, a3, a4, a5⟩ := h.im hA
  refine Cat.monoI.2 fun u v hu hv e1 e2 e3 e4 => ?_
  have zr := h.2.1.1.src u.toNat (by obtain ⟨u0, u1⟩ := hu; omega)
  obtain ⟨x, e, e', hx, he, he', r1, r2, r3, r4, r5⟩ := h.onto hE zr.1 zr.2
  have r2' : f.t.T e = f.t.S v := by rw [r2, ← e1]
  obtain ⟨p1, p2, p3⟩ := Cat.th_two h.2.1.1 he hu r2
  obtain ⟨q1, q2, q3⟩ := Cat.th_two h.2.1.1 he hv r2'
  obtain ⟨u', u1, u2, u3, u4⟩ := h.ful hE.1 hx a4 p1 (by rw [p2, r1]) (by rw [p3, e2, a2])
  obtain ⟨v', v1, v2, v3, v4⟩ := h.ful hE.1 hx a4 q1 (by rw [q2, r1]) (by rw [q3, e3, a2])
  obtain ⟨s1, s2, s3⟩ := Cat.th_two h.1.1 u1 hA u3
  obtain ⟨t1, t2, t3⟩ := Cat.th_two h.1.1 v1 hA v3
  have k1 : f.s.th u' a = f.s.th v' a := h.fai hE.2.1 s1 t1 (by rw [s2, t2, u2, v2]) (by rw [s3, t3]) (by
    rw [h.comp u1 hA u3, h.comp v1 hA v3, u4, v4, Cat.th_assoc h.2.1 he hu a1 r2 e2, Cat.th_assoc h.2.1 he hv a1 r2' e3, e4])
  have k2 : u' = v' := Cat.monoI.1 h1 _ _ u1 v1 (by rw [u2, v2]) u3 v3 k1
  have k3 : f.t.th e u = f.t.th e v := by rw [← u4, ← v4, k2]
  have k4 : f.t.th e' (f.t.th e u) = f.t.th e' (f.t.th e v) := by rw [k3]
  have w : f.t.T e' = f.t.S e := by rw [r4, r1]
  rw [← Cat.th_assoc h.2.1 he' he hu w r2, ← Cat.th_assoc h.2.1 he' he hv w r2', r5] at k4
  have l1 := (Cat.id_two h.2.1 hu).1
  have l2 := (Cat.id_two h.2.1 hv).1
  rw [← e1] at l2
  rw [← l1, ← l2]
  exact k4
theorem Fun.Is.kep (h : f.Is) (hE : f.Equiv) : f.KEp := fun a ha ⟨h1, h2⟩ => h2 <| by
  have hal := h.2.2.al
  have hA : f.s.Ar a := ⟨by omega, by omega⟩
  have eM : f.M (a : Int) = f.ar.getD a 0 := by unfold Fun.M; rw [Int.toNat_natCast]
  rw [← eM]
  obtain ⟨a1, a2, a3, a4, a5⟩ := h.im hA
  refine Cat.epiI.2 fun u v hu hv e1 e2 e3 e4 => ?_
  have htl := h.2.1.1.tl
  have zr := h.2.1.1.tgt u.toNat (by obtain ⟨u0, u1⟩ := hu; omega)
  obtain ⟨x, e, e', hx, he, he', r1, r2, r3, r4, r5⟩ := h.onto hE zr.1 zr.2
  have r3' : f.t.T v = f.t.S e' := by rw [r3, ← e1]
  have r3u : f.t.T u = f.t.S e' := r3.symm
  obtain ⟨p1, p2, p3⟩ := Cat.th_two h.2.1.1 hu he' r3u
  obtain ⟨q1, q2, q3⟩ := Cat.th_two h.2.1.1 hv he' r3'
  obtain ⟨u', u1, u2, u3, u4⟩ := h.ful hE.1 a5 hx p1 (by rw [p2, e2, a3]) (by rw [p3, r4])
  obtain ⟨v', v1, v2, v3, v4⟩ := h.ful hE.1 a5 hx q1 (by rw [q2, e3, a3]) (by rw [q3, r4])
  obtain ⟨s1, s2, s3⟩ := Cat.th_two h.1.1 hA u1 u2.symm
  obtain ⟨t1, t2, t3⟩ := Cat.th_two h.1.1 hA v1 v2.symm
  have k1 : f.s.th a u' = f.s.th a v' := h.fai hE.2.1 s1 t1 (by rw [s2, t2]) (by rw [s3, t3, u3, v3]) (by
    rw [h.comp hA u1 u2.symm, h.comp hA v1 v2.symm, u4, v4, ← Cat.th_assoc h.2.1 a1 hu he' e2.symm r3u, ← Cat.th_assoc h.2.1 a1 hv he' e3.symm r3', e4])
  have k2 : u' = v' := Cat.epiI.1 h1 _ _ u1 v1 (by rw [u3, v3]) u2 v2 k1
  have k3 : f.t.th u e' = f.t.th v e' := by rw [← u4, ← v4, k2]
  have k4 : f.t.th (f.t.th u e') e = f.t.th (f.t.th v e') e := by rw [k3]
  have w : f.t.T e' = f.t.S e := by rw [r4, r1]
  rw [Cat.th_assoc h.2.1 hu he' he r3u w, Cat.th_assoc h.2.1 hv he' he r3' w, r5] at k4
  have l1 := (Cat.id_two h.2.1 hu).2
  have l2 := (Cat.id_two h.2.1 hv).2
  rw [← e1] at l2
  rw [← l1, ← l2]
  exact k4
end
theorem Cat.kind_epi {c : Cat} {f : Nat} : ((c.kind f).tdiv 2).tmod 2 = 1 ↔ c.Epi f := by
  rw [Cat.kind_eq]
  by_cases h : c.Epi f
  · rw [if_pos (B_iff.2 h)]
    refine ⟨fun _ => h, fun _ => ?_⟩
    split <;> split <;> split <;> split <;> decide
  · rw [if_neg (fun q => h (B_iff.1 q))]
    refine ⟨fun q => ?_, fun q => absurd q h⟩
    exfalso
    revert q
    split <;> split <;> split <;> split <;> decide
theorem Cat.kind_iso {c : Cat} {f : Nat} : ((c.kind f).tdiv 16 = 1 ↔ 0 ≤ c.inv f) ∧ ((c.kind f).tdiv 16 = 0 ↔ ¬ 0 ≤ c.inv f) := by
  rw [Cat.kind_eq]
  by_cases h : c.inv f ≥ 0
  · rw [if_pos h]
    refine ⟨⟨fun _ => h, fun _ => ?_⟩, fun q => ?_, fun q => absurd h q⟩
    · split <;> split <;> split <;> split <;> decide
    · exfalso; revert q; split <;> split <;> split <;> split <;> decide
  · rw [if_neg h]
    refine ⟨⟨fun q => ?_, fun q => absurd q h⟩, fun _ => h, fun _ => ?_⟩
    · exfalso; revert q; split <;> split <;> split <;> split <;> decide
    · split <;> split <;> split <;> split <;> decide
theorem Cat.kind_bd (c : Cat) (f : Nat) : 0 ≤ c.kind f ∧ c.kind f ≤ 31 := by
  rw [Cat.kind_eq]
  split <;> split <;> split <;> split <;> split <;> decide
theorem wrap_small {x : Int} (h0 : 0 ≤ x) (h1 : x ≤ 31) : IntKind.i64.wrap x = x := by rw [IntKind.wrap_i64]; omega
theorem Fun.Is.law {f : Fun} (h : f.Is) {k : Nat} (hk : k < f.ar.length) : (f.Faithful → (f.t.kinds.getD (f.ar.getD k 0).toNat 0).tmod 2 = 1 → ¬ (f.s.kinds.getD k 0).tmod 2 = 0) ∧
    (f.Faithful → (IntKind.i64.wrap ((f.t.kinds.getD (f.ar.getD k 0).toNat 0).tdiv 2)).tmod 2 = 1 → ¬ (IntKind.i64.wrap ((f.s.kinds.getD k 0).tdiv 2)).tmod 2 = 0) ∧
    (IntKind.i64.wrap ((f.s.kinds.getD k 0).tdiv 16) = 1 → ¬ IntKind.i64.wrap ((f.t.kinds.getD (f.ar.getD k 0).toNat 0).tdiv 16) = 0) := by
  have hal := h.2.2.al
  have hA : f.s.Ar k := ⟨by omega, by omega⟩
  have r := h.2.2.ar k hk
  obtain ⟨j, hj⟩ : ∃ j : Nat, f.ar.getD k 0 = j := ⟨(f.ar.getD k 0).toNat, by omega⟩
  have eM : f.M (k : Int) = j := by unfold Fun.M; rw [Int.toNat_natCast]; exact hj
  rw [hj, Int.toNat_natCast, Cat.kinds_get (by omega), Cat.kinds_get (by omega)]
  have b1 := f.s.kind_bd k
  have b2 := f.t.kind_bd j
  have d : ∀ x y : Int, 0 ≤ x → x ≤ 31 → 2 ≤ y → 0 ≤ x.tdiv y ∧ x.tdiv y ≤ 31 := fun x y h0 h1 h2 => by
    rw [Int.tdiv_eq_ediv_of_nonneg h0]
    exact ⟨Int.ediv_nonneg h0 (by omega), Int.le_trans (Int.ediv_le_self _ h0) h1⟩
  rw [wrap_small (d _ _ b2.1 b2.2 (by decide)).1 (d _ _ b2.1 b2.2 (by decide)).2, wrap_small (d _ _ b1.1 b1.2 (by decide)).1 (d _ _ b1.1 b1.2 (by decide)).2, wrap_small (d _ _ b1.1 b1.2 (by decide)).1 (d _ _ b1.1 b1.2 (by decide)).2, wrap_small (d _ _ b2.1 b2.2 (by decide)).1 (d _ _ b2.1 b2.2 (by decide)).2]
  refine ⟨fun hf q1 q2 => ?_, fun hf q1 q2 => ?_, fun q1 q2 => ?_⟩
  · have := Cat.kind_mono.2 (h.monoR hf hA (by rw [eM]; exact Cat.kind_mono.1 q1))
    omega
  · have := Cat.kind_epi.2 (h.epiR hf hA (by rw [eM]; exact Cat.kind_epi.1 q1))
    omega
  · have := h.iso hA (Cat.kind_iso.1.1 q1)
    rw [eM] at this
    exact Cat.kind_iso.2.1 q2 this
end Go.GL
namespace Go.Proofs.Ytfanjkbaemhbmaa
open Go Go.GL Go.RowKit Go.Proofs
theorem cons1_c {g o : Nat} {f : Fun} {p : FunP} {H : GHeap} (h : Fun.At H g o f p := by assumption) (hI : f.Is := by assumption) :
    GCalls Try.prog 57 [.pointer (some ⟨g, o, none⟩)] H (Ret (.bool (B f.Cons)) H) := by
  have hSs := hI.1.1
  have _ := hI.2.1.1
  have _ := hI.2.2.al
  have _ := hSs.n40
  refine GCalls.body (N := 30) (rs := [.tmp 2]) Try.func57 rfl rfl rfl rfl (fun Qx b hend => ?_)
  refine .fg [0] rfl ?_
  obtain ⟨_, _, -, _, -, _⟩ := h.get
  refine .seq (fun K1 w => .region (.mv rfl (.nil (w _ _ (.seq (fun K2 u => .seq (fun K3 a1 => .region (.mv rfl (.q rfl (.nilCheck rfl) (.q rfl (.fieldAddr fo_40_3_G rfl) (.q rfl (.lA on_24_B rfl) (.q rfl (.len sl_24_A rfl) (.mv rfl (.nil (a1 _ _ ?_)))))))))))))))
  refine .block ?_
  refine .loopF (σ := Nat) [0, 8, 9] (fun k => [(10, some (.int .i64 (k : Int)))]) (fun k H' => H = H' ∧ (k : Int) ≤ f.ar.length ∧ ∀ a, a < k → ¬ (0 ≤ f.t.inv (f.ar.getD a 0) ∧ f.s.inv a < 0)) (fun k => (f.ar.length - k : Int).toNat) (0) rfl (.p rfl) ?_ ?_
  ·
   refine ⟨rfl, ?_⟩
   exact ⟨by omega, fun _ _ => by omega⟩
  rintro k _ ⟨rfl, hI⟩ _ c
  dsimp only [cA, nA]
  obtain ⟨_, e⟩ := hI
  refine .seq (fun K4 r => .region (.q rfl (.cmp rfl rfl rfl) (.nil (r _ _ (.seq (fun K5 a0 => ?_))))))
  refine .cond rfl ?_ ?_ <;> intro n
  ·
   simp only [sps] at n
   have _ := hI.2.2.ar k (by omega)
   refine .skip (a0 _ _ (.seq (fun K6 l => .block (.seq (fun K7 v => .region (.mv rfl (.q rfl (.iN sl_24_A rfl rfl) (.q rfl (.lI on_2_A rfl) (.mv rfl (.mv rfl (.nil (v _ _ (.seq (fun K8 m => .region (.mv rfl ?_)))))))))))))))
   refine .q rfl (.nilCheck rfl) (.q rfl (.fieldAddr fo_40_1_G rfl) (.mv rfl ?_))
   refine .callQ rfl rfl rfl rfl @Try.call58 rfl (inverse_c) ?_
   refine .q rfl (.cmp rfl rfl rfl) (.mv rfl ?_)
   refine .split (fun d => ?_) (fun d => ?_)
   ·
    try simp only [sps] at d
    refine .qg rfl (.move rfl) (.qg rfl (.nilCheck rfl) (.qg rfl (.fieldAddr fo_40_0_G rfl) (.qg rfl (.move rfl) ?_)))
    refine .callQg rfl rfl rfl rfl rfl rfl @Try.call58 rfl (inverse_c) ?_
    refine .qg rfl (.cmp rfl rfl rfl) (.q rfl (.pickT rfl rfl) (.nil (m _ _ ?_)))
    refine .cond rfl ?_ ?_ <;> intro j
    ·
     try simp only [sps] at j
     refine .seq (fun K9 y => .region (.mv rfl (.nil (y _ _ (.ret (b _ _ (⟨_, rfl, ?_⟩)))))))
     exact .of (congrArg _ (B_false fun hF => hF k (by omega) ⟨by assumption, by assumption⟩))
    try simp only [sps] at j
    refine .skip (l _ _ (.region (.q rfl (.aD rfl rfl rfl) (.mv rfl (.nil ?_)))))
    refine c (k + 1) _ _ ?_ ?_ (.p rfl)
    ·
     refine ⟨rfl, ?_⟩
     refine ⟨by omega, fun a hx => ?_⟩
     by_cases hltq : a < k
     · exact e a hltq
     · obtain rfl : a = k := by omega
       first | assumption | omega | simp_all
    omega
   try simp only [sps] at d
   refine .z rfl (.z rfl (.z rfl (.z rfl (.z rfl (.z rfl (.q rfl (.pickF rfl rfl) (.nil (m _ _ ?_))))))))
   refine .condF rfl ?_
   refine .skip (l _ _ (.region (.q rfl (.aD rfl rfl rfl) (.mv rfl (.nil ?_)))))
   refine c (k + 1) _ _ ?_ ?_ (.p rfl)
   ·
    refine ⟨rfl, ?_⟩
    refine ⟨by omega, fun a hx => ?_⟩
    by_cases hltq : a < k
    · exact e a hltq
    · obtain rfl : a = k := by omega
      first | assumption | omega | simp_all
   omega
  try simp only [sps] at n
  refine .exit (u _ _ (.seq (fun K10 i => .region (.mv rfl (.nil (i _ _ (.ret (b _ _ (⟨_, rfl, ?_⟩)))))))))
  exact .of (congrArg _ (B_true fun x hx => e x (by omega)))
theorem kmo1_c {g o : Nat} {f : Fun} {p : FunP} {H : GHeap} (h : Fun.At H g o f p := by assumption) (hI : f.Is := by assumption) :
    GCalls Try.prog 63 [.pointer (some ⟨g, o, none⟩)] H (Ret (.bool (B f.KMo)) H) := by
  have hSs := hI.1.1
  have _ := hI.2.1.1
  have _ := hI.2.2.al
  have _ := hSs.n40
  refine GCalls.body (N := 29) (rs := [.tmp 2]) Try.func63 rfl rfl rfl rfl (fun Qx b hend => ?_)
  refine .fg [0] rfl ?_
  obtain ⟨_, _, -, _, -, _⟩ := h.get
  refine .seq (fun K1 w => .region (.mv rfl (.nil (w _ _ (.seq (fun K2 u => .seq (fun K3 a1 => .region (.mv rfl (.q rfl (.nilCheck rfl) (.q rfl (.fieldAddr fo_40_3_G rfl) (.q rfl (.lA on_24_B rfl) (.q rfl (.len sl_24_A rfl) (.mv rfl (.nil (a1 _ _ ?_)))))))))))))))
  refine .block ?_
  refine .loopF (σ := Nat) [0, 8, 9] (fun k => [(10, some (.int .i64 (k : Int)))]) (fun k H' => H = H' ∧ (k : Int) ≤ f.ar.length ∧ ∀ a, a < k → ¬ (f.s.Mono a ∧ ¬ f.t.Mono (f.ar.getD a 0))) (fun k => (f.ar.length - k : Int).toNat) (0) rfl (.p rfl) ?_ ?_
  ·
   refine ⟨rfl, ?_⟩
   exact ⟨by omega, fun _ _ => by omega⟩
  rintro k _ ⟨rfl, hI⟩ _ c
  dsimp only [cA, nA]
  obtain ⟨_, d⟩ := hI
  refine .seq (fun K4 r => .region (.q rfl (.cmp rfl rfl rfl) (.nil (r _ _ (.seq (fun K5 a0 => ?_))))))
  refine .cond rfl ?_ ?_ <;> intro n
  ·
   simp only [sps] at n
   have _ := hI.2.2.ar k (by omega)
   refine .skip (a0 _ _ (.seq (fun K6 j => .block (.seq (fun K7 v => .region (.mv rfl (.q rfl (.iN sl_24_A rfl rfl) (.q rfl (.lI on_2_A rfl) (.mv rfl (.mv rfl (.nil (v _ _ (.seq (fun K8 l => .region (.mv rfl ?_)))))))))))))))
   refine .q rfl (.nilCheck rfl) (.q rfl (.fieldAddr fo_40_0_G rfl) (.mv rfl ?_))
   refine .callQ rfl rfl rfl rfl @Try.call64 rfl (isMono_c) ?_
   refine .mv rfl ?_
   refine .split (fun i => ?_) (fun i => ?_)
   ·
    try simp only [sps] at i
    refine .qg rfl (.move rfl) (.qg rfl (.nilCheck rfl) (.qg rfl (.fieldAddr fo_40_1_G rfl) (.qg rfl (.move rfl) ?_)))
    refine .callQg rfl rfl rfl rfl rfl rfl @Try.call64 rfl (isMono_c) ?_
    refine .qg rfl (.not rfl) (.q rfl (.pickT rfl rfl) (.nil (l _ _ ?_)))
    refine .cond rfl ?_ ?_ <;> intro m
    ·
     try simp only [sps] at m
     refine .seq (fun K9 y => .region (.mv rfl (.nil (y _ _ (.ret (b _ _ (⟨_, rfl, ?_⟩)))))))
     exact .of (congrArg _ (B_false fun hF => hF k (by omega) ⟨by assumption, by assumption⟩))
    try simp only [sps] at m
    refine .skip (j _ _ (.region (.q rfl (.aD rfl rfl rfl) (.mv rfl (.nil ?_)))))
    refine c (k + 1) _ _ ?_ ?_ (.p rfl)
    ·
     refine ⟨rfl, ?_⟩
     refine ⟨by omega, fun a hx => ?_⟩
     by_cases hltq : a < k
     · exact d a hltq
     · obtain rfl : a = k := by omega
       first | assumption | omega | simp_all
    omega
   try simp only [sps] at i
   refine .z rfl (.z rfl (.z rfl (.z rfl (.z rfl (.z rfl (.q rfl (.pickF rfl rfl) (.nil (l _ _ ?_))))))))
   refine .condF rfl ?_
   refine .skip (j _ _ (.region (.q rfl (.aD rfl rfl rfl) (.mv rfl (.nil ?_)))))
   refine c (k + 1) _ _ ?_ ?_ (.p rfl)
   ·
    refine ⟨rfl, ?_⟩
    refine ⟨by omega, fun a hx => ?_⟩
    by_cases hltq : a < k
    · exact d a hltq
    · obtain rfl : a = k := by omega
      first | assumption | omega | simp_all
   omega
  try simp only [sps] at n
  refine .exit (u _ _ (.seq (fun K10 e => .region (.mv rfl (.nil (e _ _ (.ret (b _ _ (⟨_, rfl, ?_⟩)))))))))
  exact .of (congrArg _ (B_true fun x hx => d x (by omega)))
theorem kep1_c {g o : Nat} {f : Fun} {p : FunP} {H : GHeap} (h : Fun.At H g o f p := by assumption) (hI : f.Is := by assumption) :
    GCalls Try.prog 65 [.pointer (some ⟨g, o, none⟩)] H (Ret (.bool (B f.KEp)) H) := by
  have hSs := hI.1.1
  have _ := hI.2.1.1
  have _ := hI.2.2.al
  have _ := hSs.n40
  refine GCalls.body (N := 29) (rs := [.tmp 2]) Try.func65 rfl rfl rfl rfl (fun Qx b hend => ?_)
  refine .fg [0] rfl ?_
  obtain ⟨_, _, -, _, -, _⟩ := h.get
  refine .seq (fun K1 w => .region (.mv rfl (.nil (w _ _ (.seq (fun K2 u => .seq (fun K3 a1 => .region (.mv rfl (.q rfl (.nilCheck rfl) (.q rfl (.fieldAddr fo_40_3_G rfl) (.q rfl (.lA on_24_B rfl) (.q rfl (.len sl_24_A rfl) (.mv rfl (.nil (a1 _ _ ?_)))))))))))))))
  refine .block ?_
  refine .loopF (σ := Nat) [0, 8, 9] (fun k => [(10, some (.int .i64 (k : Int)))]) (fun k H' => H = H' ∧ (k : Int) ≤ f.ar.length ∧ ∀ a, a < k → ¬ (f.s.Epi a ∧ ¬ f.t.Epi (f.ar.getD a 0))) (fun k => (f.ar.length - k : Int).toNat) (0) rfl (.p rfl) ?_ ?_
  ·
   refine ⟨rfl, ?_⟩
   exact ⟨by omega, fun _ _ => by omega⟩
  rintro k _ ⟨rfl, hI⟩ _ c
  dsimp only [cA, nA]
  obtain ⟨_, d⟩ := hI
  refine .seq (fun K4 r => .region (.q rfl (.cmp rfl rfl rfl) (.nil (r _ _ (.seq (fun K5 a0 => ?_))))))
  refine .cond rfl ?_ ?_ <;> intro n
  ·
   simp only [sps] at n
   have _ := hI.2.2.ar k (by omega)
   refine .skip (a0 _ _ (.seq (fun K6 j => .block (.seq (fun K7 v => .region (.mv rfl (.q rfl (.iN sl_24_A rfl rfl) (.q rfl (.lI on_2_A rfl) (.mv rfl (.mv rfl (.nil (v _ _ (.seq (fun K8 l => .region (.mv rfl ?_)))))))))))))))
   refine .q rfl (.nilCheck rfl) (.q rfl (.fieldAddr fo_40_0_G rfl) (.mv rfl ?_))
   refine .callQ rfl rfl rfl rfl @Try.call66 rfl (isEpi_c) ?_
   refine .mv rfl ?_
   refine .split (fun i => ?_) (fun i => ?_)
   ·
    try simp only [sps] at i
    refine .qg rfl (.move rfl) (.qg rfl (.nilCheck rfl) (.qg rfl (.fieldAddr fo_40_1_G rfl) (.qg rfl (.move rfl) ?_)))
    refine .callQg rfl rfl rfl rfl rfl rfl @Try.call66 rfl (isEpi_c) ?_
    refine .qg rfl (.not rfl) (.q rfl (.pickT rfl rfl) (.nil (l _ _ ?_)))
    refine .cond rfl ?_ ?_ <;> intro m
    ·
     try simp only [sps] at m
     refine .seq (fun K9 y => .region (.mv rfl (.nil (y _ _ (.ret (b _ _ (⟨_, rfl, ?_⟩)))))))
     exact .of (congrArg _ (B_false fun hF => hF k (by omega) ⟨by assumption, by assumption⟩))
    try simp only [sps] at m
    refine .skip (j _ _ (.region (.q rfl (.aD rfl rfl rfl) (.mv rfl (.nil ?_)))))
    refine c (k + 1) _ _ ?_ ?_ (.p rfl)
    ·
     refine ⟨rfl, ?_⟩
     refine ⟨by omega, fun a hx => ?_⟩
     by_cases hltq : a < k
     · exact d a hltq
     · obtain rfl : a = k := by omega
       first | assumption | omega | simp_all
    omega
   try simp only [sps] at i
   refine .z rfl (.z rfl (.z rfl (.z rfl (.z rfl (.z rfl (.q rfl (.pickF rfl rfl) (.nil (l _ _ ?_))))))))
   refine .condF rfl ?_
   refine .skip (j _ _ (.region (.q rfl (.aD rfl rfl rfl) (.mv rfl (.nil ?_)))))
   refine c (k + 1) _ _ ?_ ?_ (.p rfl)
   ·
    refine ⟨rfl, ?_⟩
    refine ⟨by omega, fun a hx => ?_⟩
    by_cases hltq : a < k
    · exact d a hltq
    · obtain rfl : a = k := by omega
      first | assumption | omega | simp_all
   omega
  try simp only [sps] at n
  refine .exit (u _ _ (.seq (fun K10 e => .region (.mv rfl (.nil (e _ _ (.ret (b _ _ (⟨_, rfl, ?_⟩)))))))))
  exact .of (congrArg _ (B_true fun x hx => d x (by omega)))
theorem implIsConservative_c {f : Fun} {p : FunP} {H : GHeap} (hin : f.In H p := by assumption) (hsm : f.Small := by assumption) :
    GCalls Try.prog 22 [.agg (f.cells p).toArray] H (Ret (.tuple #[.bool (B f.Is && B f.Cons), .int .i64 (bif B f.Is then 0 else 1)]) H) := by
  refine GCalls.ret rfl ?_
  refine GCalls.body (N := 7) (rs := [.tmp 2, .tmp 3]) Try.func22 rfl rfl rfl rfl (fun Qx c hend => ?_)
  refine .fg [0] rfl ?_
  have b := GHeap.Le.refl H
  have a := hin
  refine .seq (fun K1 h => .region ?_)
  refine .R rfl (.boxR rfl sz_40_I rfl) ?_
  rintro _ _ ⟨g1, rfl, e, _, i⟩
  replace b := b.trans e
  replace hin := a.mono b
  have d : Fun.At _ g1 0 f p := ⟨Mem.of_get i, hin⟩
  refine .mv rfl (.mv rfl (.nil (h _ _ (.seq (fun K2 g => .region ?_)))))
  refine .callQ rfl rfl rfl rfl @Try.call56 rfl (asked_c d hsm @Try.call57 (fun hI => cons1_c d hI)) ?_
  refine .q rfl (.extract rfl rfl) (.q rfl (.extract rfl rfl) (.mv rfl (.mv rfl (.nil (g _ _ (.ret (c _ _ (⟨_, _, rfl, rfl, ?_⟩))))))))
  exact ⟨rfl, b⟩
theorem implKeepsMonos_c {f : Fun} {p : FunP} {H : GHeap} (hin : f.In H p := by assumption) (hsm : f.Small := by assumption) :
    GCalls Try.prog 26 [.agg (f.cells p).toArray] H (Ret (.tuple #[.bool (B f.Is && B f.KMo), .int .i64 (bif B f.Is then 0 else 1)]) H) := by
  refine GCalls.ret rfl ?_
  refine GCalls.body (N := 7) (rs := [.tmp 2, .tmp 3]) Try.func26 rfl rfl rfl rfl (fun Qx c hend => ?_)
  refine .fg [0] rfl ?_
  have b := GHeap.Le.refl H
  have a := hin
  refine .seq (fun K1 h => .region ?_)
  refine .R rfl (.boxR rfl sz_40_I rfl) ?_
  rintro _ _ ⟨g1, rfl, e, _, i⟩
  replace b := b.trans e
  replace hin := a.mono b
  have d : Fun.At _ g1 0 f p := ⟨Mem.of_get i, hin⟩
  refine .mv rfl (.mv rfl (.nil (h _ _ (.seq (fun K2 g => .region ?_)))))
  refine .callQ rfl rfl rfl rfl @Try.call56 rfl (asked_c d hsm @Try.call63 (fun hI => kmo1_c d hI)) ?_
  refine .q rfl (.extract rfl rfl) (.q rfl (.extract rfl rfl) (.mv rfl (.mv rfl (.nil (g _ _ (.ret (c _ _ (⟨_, _, rfl, rfl, ?_⟩))))))))
  exact ⟨rfl, b⟩
theorem implKeepsEpis_c {f : Fun} {p : FunP} {H : GHeap} (hin : f.In H p := by assumption) (hsm : f.Small := by assumption) :
    GCalls Try.prog 27 [.agg (f.cells p).toArray] H (Ret (.tuple #[.bool (B f.Is && B f.KEp), .int .i64 (bif B f.Is then 0 else 1)]) H) := by
  refine GCalls.ret rfl ?_
  refine GCalls.body (N := 7) (rs := [.tmp 2, .tmp 3]) Try.func27 rfl rfl rfl rfl (fun Qx c hend => ?_)
  refine .fg [0] rfl ?_
  have b := GHeap.Le.refl H
  have a := hin
  refine .seq (fun K1 h => .region ?_)
  refine .R rfl (.boxR rfl sz_40_I rfl) ?_
  rintro _ _ ⟨g1, rfl, e, _, i⟩
  replace b := b.trans e
  replace hin := a.mono b
  have d : Fun.At _ g1 0 f p := ⟨Mem.of_get i, hin⟩
  refine .mv rfl (.mv rfl (.nil (h _ _ (.seq (fun K2 g => .region ?_)))))
  refine .callQ rfl rfl rfl rfl @Try.call56 rfl (asked_c d hsm @Try.call65 (fun hI => kep1_c d hI)) ?_
  refine .q rfl (.extract rfl rfl) (.q rfl (.extract rfl rfl) (.mv rfl (.mv rfl (.nil (g _ _ (.ret (c _ _ (⟨_, _, rfl, rfl, ?_⟩))))))))
  exact ⟨rfl, b⟩
theorem implIsFaithful_c {f : Fun} {p : FunP} {H : GHeap} (hin : f.In H p := by assumption) (hsm : f.Small := by assumption) :
    GCalls Try.prog 25 [.agg (f.cells p).toArray] H (Ret (.tuple #[.bool (B f.Is && B f.Faithful), .int .i64 (bif B f.Is then 0 else 1)]) H) := by
  refine GCalls.ret rfl ?_
  refine GCalls.body (N := 7) (rs := [.tmp 2, .tmp 3]) Try.func25 rfl rfl rfl rfl (fun Qx c hend => ?_)
  refine .fg [0] rfl ?_
  have b := GHeap.Le.refl H
  have a := hin
  refine .seq (fun K1 h => .region ?_)
  refine .R rfl (.boxR rfl sz_40_I rfl) ?_
  rintro _ _ ⟨g1, rfl, e, _, i⟩
  replace b := b.trans e
  replace hin := a.mono b
  have d : Fun.At _ g1 0 f p := ⟨Mem.of_get i, hin⟩
  refine .mv rfl (.mv rfl (.nil (h _ _ (.seq (fun K2 g => .region ?_)))))
  refine .callQ rfl rfl rfl rfl @Try.call56 rfl (asked_c d hsm @Try.call62 (fun hI => isFaithful_c d hI)) ?_
  refine .q rfl (.extract rfl rfl) (.q rfl (.extract rfl rfl) (.mv rfl (.mv rfl (.nil (g _ _ (.ret (c _ _ (⟨_, _, rfl, rfl, ?_⟩))))))))
  exact ⟨rfl, b⟩
theorem specIsConservative_c {f : Fun} {p : FunP} {H : GHeap} (hin : f.In H p := by assumption) (hsm : f.Small := by assumption) :
    GCalls Try.prog 23 [.agg (f.cells p).toArray] H (Ret (.tuple #[.bool (B f.Is && B f.Cons), .int .i64 (bif B f.Is then 0 else 1)]) H) := by
  refine GCalls.ret rfl ?_
  refine GCalls.body (N := 31) (rs := [.tmp 2, .tmp 3]) Try.func23 rfl rfl rfl rfl (fun Qx d hend => ?_)
  refine .fg [0] rfl ?_
  have e := GHeap.Le.refl H
  have b := hin
  refine .seq (fun K1 a0 => .region ?_)
  refine .R rfl (.boxR rfl sz_40_I rfl) ?_
  rintro _ H1 ⟨g1, rfl, a3, _, i⟩
  replace e := e.trans a3
  replace hin := b.mono e
  have u : Fun.At _ g1 0 f p := ⟨Mem.of_get i, hin⟩
  obtain ⟨y, r, -, _, -, _⟩ := u.get
  have _ := u.2
  have _ : MemN _ _ _ _ _ := ⟨rfl, y.1⟩
  have _ := y.2
  have _ : MemN _ _ _ _ _ := ⟨rfl, r.1⟩
  have _ := r.2
  refine .mv rfl (.mv rfl (.nil (a0 _ _ (.seq (fun K2 a1 => .seq (fun K3 a2 => .region ?_))))))
  refine .q rfl (.loadM ag_40_Hj rfl ⟨rfl, Mem.of_get i⟩) ?_
  refine .callQ rfl rfl rfl rfl @Try.call59 rfl (l06Is_c) ?_
  refine .q rfl (.not rfl) (.nil (a2 _ _ ?_))
  refine .cond rfl ?_ ?_ <;> intro h7
  ·
   try simp only [sps] at h7
   refine .seq (fun K4 a8 => .region (.mv rfl (.mv rfl (.nil (a8 _ _ (.ret (d _ _ (⟨_, _, rfl, rfl, ?_⟩))))))))
   exact ⟨by rw [B_false (by simpa only [sps] using h7)]; rfl, e⟩
  simp only [sps] at h7
  have hSs := h7.1.1
  have _ := h7.2.1.1
  have _ := h7.2.2.al
  have _ := hSs.n40
  refine .skip (a1 _ _ (.seq (fun K5 a7 => .seq (fun K6 a5 => .region (.mv rfl (.nil (a5 _ _ (.block ?_))))))))
  refine .loopF (σ := Nat) [1] (fun k => [(4, some (.int .i64 (k : Int)))]) (fun k H' => H1 = H' ∧ (k : Int) ≤ f.ar.length ∧ ∀ a, a < k → ¬ (0 ≤ f.t.inv (f.ar.getD a 0) ∧ f.s.inv a < 0)) (fun k => (f.ar.length - k : Int).toNat) (0) rfl (.p rfl) ?_ ?_
  ·
   refine ⟨rfl, ?_⟩
   exact ⟨by omega, fun _ _ => by omega⟩
  rintro k _ ⟨rfl, hI⟩ _ h
  dsimp only [cA, nA]
  obtain ⟨_, m⟩ := hI
  refine .seq (fun K7 a4 => .seq (fun K8 a6 => .region (.mv rfl (.q rfl (.fieldAddr fo_40_3_G rfl) ?_))))
  refine .q rfl (.load on_24_B rfl (by first | assumption | exact Mem.of_get i 11 _ rfl)) ?_
  refine .q rfl (.len sl_24_A rfl) (.q rfl (.cmp rfl rfl rfl) (.nil (a6 _ _ ?_)))
  refine .cond rfl ?_ ?_ <;> intro v
  ·
   simp only [sps] at v
   have _ := h7.2.2.ar k (by omega)
   refine .skip (a4 _ _ (.seq (fun K9 w => .block (.seq (fun K10 g => ?_)))))
   refine .regionD mo_B (.qs [0, 1, 2, 3, 4, 5, 6] (.c 7 0 (.qs [8, 9, 10, 11, 12] (.c 13 0 (.q 14 (.q 15 (.done))))))) (by kernel_rfl) ?_
   refine .q rfl (.fieldAddr fo_40_1_G rfl) ?_
   refine .q rfl (.loadM ag_27_D rfl (by assumption)) ?_
   refine .q rfl (.fieldAddr fo_40_3_G rfl) ?_
   refine .q rfl (.load on_24_B rfl (by first | assumption | exact Mem.of_get i 11 _ rfl)) ?_
   refine .mv rfl rfl (.q rfl (.iN sl_24_A rfl rfl) (.q rfl (.lI on_2_A rfl) ?_))
   refine .callQ0 rfl rfl rfl rfl rfl @Try.call60 rfl (l05Inverse_c) ?_
   refine .q rfl (.cmp rfl rfl rfl) (.mv rfl rfl ?_)
   refine .split (fun l => ?_) (fun l => ?_)
   ·
    try simp only [sps] at l
    refine .qg rfl (.fieldAddr fo_40_0_G rfl) ?_
    refine .qg rfl (.loadM ag_27_D rfl (by assumption)) ?_
    refine .qg rfl (.move rfl) ?_
    refine .callQ0g rfl rfl rfl rfl rfl rfl rfl @Try.call60 rfl (l05Inverse_c) ?_
    refine .qg rfl (.cmp rfl rfl rfl) (.q rfl (.pickT rfl rfl) (.done (g _ _ ?_)))
    refine .cond rfl ?_ ?_ <;> intro o
    ·
     try simp only [sps] at o
     refine .seq (fun K11 n => .region (.mv rfl (.mv rfl (.nil (n _ _ (.ret (d _ _ (⟨_, _, rfl, rfl, ?_⟩))))))))
     exact ⟨by rw [B_true h7, B_false fun hF => hF k (by omega) ⟨by assumption, by assumption⟩]; rfl, e⟩
    try simp only [sps] at o
    refine .skip (w _ _ (.region (.mv rfl (.q rfl (.aD rfl rfl rfl) (.mv rfl (.nil ?_))))))
    refine h (k + 1) _ _ ?_ ?_ (.p rfl)
    ·
     refine ⟨rfl, ?_⟩
     refine ⟨by omega, fun a hx => ?_⟩
     by_cases hltq : a < k
     · exact m a hltq
     · obtain rfl : a = k := by omega
       first | assumption | omega | simp_all
    omega
   try simp only [sps] at l
   refine .z rfl (.z rfl (.z rfl (.sgc rfl rfl rfl rfl rfl rfl (.z rfl (.q rfl (.pickF rfl rfl) (.done (g _ _ ?_)))))))
   refine .condF rfl ?_
   refine .skip (w _ _ (.region (.mv rfl (.q rfl (.aD rfl rfl rfl) (.mv rfl (.nil ?_))))))
   refine h (k + 1) _ _ ?_ ?_ (.p rfl)
   ·
    refine ⟨rfl, ?_⟩
    refine ⟨by omega, fun a hx => ?_⟩
    by_cases hltq : a < k
    · exact m a hltq
    · obtain rfl : a = k := by omega
      first | assumption | omega | simp_all
   omega
  try simp only [sps] at v
  refine .exit (a7 _ _ (.seq (fun K12 j => .region (.mv rfl (.mv rfl (.nil (j _ _ (.ret (d _ _ (⟨_, _, rfl, rfl, ?_⟩))))))))))
  exact ⟨by rw [B_true h7, B_true (p := f.Cons) fun x hx => m x (by omega)]; rfl, e⟩
theorem arrowKinds0_c {c : Cat} {p : CatP} {H : GHeap} (hin : c.In H p) (hs : c.Small) (hI : c.Is) :
    GCalls Try.prog 28 [.agg (c.cells p).toArray] H (NewLC 0 c.kinds H) := by
  have h := arrowKinds_c hin hs
  rw [Cat.code_nil.2 hI, codeL_ok rfl] at h
  exact h
theorem eqv0_c {f : Fun} {p : FunP} {H : GHeap} (hI : f.Is) (hsm : f.Small) (hin : f.In H p := by assumption) :
    GCalls Try.prog 24 [.agg (f.cells p).toArray] H (Ret (.tuple #[.bool (B f.Equiv), .int .i64 0]) H) := by
  have h := implIsEquivalence_c hin hsm
  rw [B_true hI] at h
  exact h
theorem fai0_c {f : Fun} {p : FunP} {H : GHeap} (hI : f.Is) (hsm : f.Small) (hin : f.In H p := by assumption) :
    GCalls Try.prog 25 [.agg (f.cells p).toArray] H (Ret (.tuple #[.bool (B f.Faithful), .int .i64 0]) H) := by
  have h := implIsFaithful_c hin hsm
  rw [B_true hI] at h
  exact h
theorem kmo0_c {f : Fun} {p : FunP} {H : GHeap} (hI : f.Is) (hsm : f.Small) (hin : f.In H p := by assumption) :
    GCalls Try.prog 26 [.agg (f.cells p).toArray] H (Ret (.tuple #[.bool (B f.KMo), .int .i64 0]) H) := by
  have h := implKeepsMonos_c hin hsm
  rw [B_true hI] at h
  exact h
theorem kep0_c {f : Fun} {p : FunP} {H : GHeap} (hI : f.Is) (hsm : f.Small) (hin : f.In H p := by assumption) :
    GCalls Try.prog 27 [.agg (f.cells p).toArray] H (Ret (.tuple #[.bool (B f.KEp), .int .i64 0]) H) := by
  have h := implKeepsEpis_c hin hsm
  rw [B_true hI] at h
  exact h
end Go.Proofs.Ytfanjkbaemhbmaa
namespace Go.Proofs.Ytfanjkbaemhbmaa
open Go Go.GL Go.RowKit Go.Proofs
theorem bo_4_LFnConservative : isBoolT Try.prog 4 = true := by kernel_rfl
set_option maxHeartbeats 40000000 in
theorem lawFnConservative_c {a : Option Addr} {xs : List Int} {H : GHeap} (hb : Bytes H a xs) (hl : xs.length ≤ 9223372036854775807) (hlt : ∀ b o t, a = some ⟨b, o, t⟩ → b < H.next) :
    GCalls Try.prog 5 [.slice a xs.length xs.length] H (fun v _ => v = .bool true) := by
  refine GCalls.body (N := 180) (rs := [.tmp 2]) Try.func5 rfl rfl rfl rfl (fun Qx x hend => ?_)
  refine .fg [0] rfl ?_
  have _ := hb
  refine .seq (fun K1 f4 => .region (.mv rfl (.nil (f4 _ _ (.seq (fun K2 g1 => .seq (fun K3 g2 => .region (.mv rfl ?_))))))))
  refine .callQ rfl rfl rfl rfl @Try.call6 rfl (big_c) ?_
  refine .nil (g2 _ _ ?_)
  refine .cond rfl ?_ ?_ <;> intro e9
  ·
   try simp only [sps] at e9
   refine .seq (fun K4 f9 => .region (.mv rfl (.nil (f9 _ _ (.ret (x _ _ (⟨_, rfl, ?_⟩)))))))
   first
   | rfl
   | exact absurd s (lM f r)
   | exact absurd j (lE f l)
   | exact congrArg Value.bool (by rw [B_false hno]; rfl)
  simp only [sps] at e9
  refine .skip (g1 _ _ (.seq (fun K5 g0 => .region (.mv rfl ?_))))
  refine .call rfl rfl rfl rfl @Try.call21 rfl (drawCons_c) ?_
  rintro _ e7 ⟨_, y, c4, rfl, a0, a9⟩
  have w := a9
  have e : Keep H.next e7 e7 := fun _ _ _ h => h
  refine .R rfl (.allocR rfl ze_40_Hj rfl) ?_
  rintro _ _ ⟨g3, rfl, f7, _, _⟩
  replace e := Keep.le e f7
  refine .r0 rfl rfl (.fillA rfl sz_40_I rfl rfl rfl rfl) ?_
  rintro _ a6 ⟨rfl, a8, c⟩
  replace e := Keep.st e a8 (fun k hb hk => ⟨by omega, trivial⟩)
  replace a9 := w.keep e (Nat.le_refl _)
  have a2 := a9.inn
  have a5 : Fun.At _ g3 0 y c4 := ⟨Mem.of_get c, a2⟩
  obtain ⟨f3, -, -, -, -, -⟩ := a5.get
  have f5 := a5.2
  have c5 : MemN _ _ _ _ _ := ⟨rfl, f3.1⟩
  refine .nil (g0 _ _ (.seq (fun K6 f8 => .region ?_)))
  refine .q rfl (.loadM ag_40_Hj rfl ⟨rfl, Mem.of_get c⟩) ?_
  refine .callQ rfl rfl rfl rfl @Try.call22 rfl (implIsConservative_c) ?_
  refine .mv rfl (.q rfl (.extract rfl rfl) (.q rfl (.extract rfl rfl) (.mv rfl (.mv rfl (.nil (f8 _ _ (.seq (fun K7 g4 => .region ?_))))))))
  refine .q rfl (.loadM ag_40_Hj rfl ⟨rfl, Mem.of_get c⟩) ?_
  refine .callQ rfl rfl rfl rfl @Try.call23 rfl (specIsConservative_c) ?_
  refine .mv rfl (.q rfl (.extract rfl rfl) (.q rfl (.extract rfl rfl) (.mv rfl (.mv rfl (.nil (g4 _ _ (.seq (fun K8 f6 => .seq (fun K9 g5 => .region (.mv rfl (.mv rfl (.q rfl (.cmp rfl rfl rfl) (.mv rfl ?_)))))))))))))
  refine .split (fun d7 => ?_) (fun d7 => ?_)
  ·
   simp at d7
  try simp only [sps] at d7
  refine .qg rfl (.move rfl) (.qg rfl (.move rfl) (.qg rfl (.boolNe bo_4_LFnConservative rfl rfl) (.q rfl (.pickF rfl rfl) (.nil (g5 _ _ ?_)))))
  refine .cond rfl ?_ ?_ <;> intro e8
  ·
   simp at e8
  try simp only [sps] at e8
  refine .skip (f6 _ _ (.seq (fun K10 b7 => .seq (fun K11 c3 => .region (.mv rfl (.q rfl (.cmp rfl rfl rfl) (.nil (c3 _ _ ?_))))))))
  refine .cond rfl ?_ ?_ <;> intro b2
  ·
   simp only [sps] at b2
   have hno : ¬ y.Is := fun q => by rw [B_true q] at b2; exact b2 rfl
   refine .seq (fun K12 d3 => .region (.mv rfl (.q rfl (.not rfl) (.mv rfl (.nil (d3 _ _ (.ret (x _ _ (⟨_, rfl, ?_⟩)))))))))
   first
   | rfl
   | exact absurd s (lM f r)
   | exact absurd j (lE f l)
   | exact congrArg Value.bool (by rw [B_false hno]; rfl)
  simp only [sps] at b2
  have hIs : y.Is := by
    by_cases q : y.Is
    · exact q
    · rw [B_false q] at b2; exact absurd b2 (by decide)
  have _ := hIs.2.2.al
  have _ := hIs.1.1.n40
  obtain ⟨y1, y2, -, -⟩ := id a0
  refine .skip (b7 _ _ (.seq (fun K13 e6 => .region ?_)))
  refine .q rfl (.loadM ag_40_Hj rfl ⟨rfl, Mem.of_get c⟩) ?_
  refine .callQ rfl rfl rfl rfl @Try.call24 rfl (eqv0_c hIs a0) ?_
  refine .mv rfl (.q rfl (.extract rfl rfl) (.q rfl (.extract rfl rfl) (.mv rfl (.mv rfl (.nil (e6 _ _ (.seq (fun K14 d9 => .region ?_))))))))
  refine .q rfl (.loadM ag_40_Hj rfl ⟨rfl, Mem.of_get c⟩) ?_
  refine .callQ rfl rfl rfl rfl @Try.call25 rfl (fai0_c hIs a0) ?_
  refine .mv rfl (.q rfl (.extract rfl rfl) (.q rfl (.extract rfl rfl) (.mv rfl (.mv rfl (.nil (d9 _ _ (.seq (fun K15 e4 => .region ?_))))))))
  refine .q rfl (.loadM ag_40_Hj rfl ⟨rfl, Mem.of_get c⟩) ?_
  refine .callQ rfl rfl rfl rfl @Try.call26 rfl (kmo0_c hIs a0) ?_
  refine .mv rfl (.q rfl (.extract rfl rfl) (.q rfl (.extract rfl rfl) (.mv rfl (.mv rfl (.nil (e4 _ _ (.seq (fun K16 b9 => .region ?_))))))))
  refine .q rfl (.loadM ag_40_Hj rfl ⟨rfl, Mem.of_get c⟩) ?_
  refine .callQ rfl rfl rfl rfl @Try.call27 rfl (kep0_c hIs a0) ?_
  refine .mv rfl (.q rfl (.extract rfl rfl) (.q rfl (.extract rfl rfl) (.mv rfl (.mv rfl (.nil (b9 _ _ ?_))))))
  refine .seqM (rest := [(3, some _), (10, some _)]) (M := fun rest fr' H' =>  Sub rest fr' ∧ a6 = H') (.p rfl) ?_ ?_
  ·
   rintro _ _ ⟨a4, rfl⟩
   refine .forget a4 ?_
   refine .seq (fun K17 c2 => .region (.q rfl (.fieldAddr fo_40_0_G rfl) ?_))
   refine .q rfl (.loadM ag_27_D rfl (by assumption)) ?_
   refine .call rfl rfl rfl rfl @Try.call28 rfl (arrowKinds0_c a2.1 y1 hIs.1) ?_
   rintro _ f0 ⟨b6, _, rfl, d1⟩
   replace c := b6.2 _ _ c
   replace e := Keep.le e b6
   replace a9 := w.keep e (Nat.le_refl _)
   have a7 := d1
   have u : Keep a6.next f0 f0 := fun _ _ _ h => h
   clear a2
   have a2 := a9.inn
   clear a5 f3 f5 c5
   have a5 : Fun.At _ g3 0 y c4 := ⟨Mem.of_get c, a2⟩
   obtain ⟨-, f2, -, -, -, -⟩ := a5.get
   have d4 : MemN _ _ _ _ _ := ⟨rfl, f2.1⟩
   refine .mv rfl (.q rfl (.extract rfl rfl) (.q rfl (.extract rfl rfl) (.mv rfl (.mv rfl (.nil (c2 _ _ (.seq (fun K18 c9 => .region (.q rfl (.fieldAddr fo_40_1_G rfl) ?_)))))))))
   refine .q rfl (.loadM ag_27_D rfl (by assumption)) ?_
   refine .call rfl rfl rfl rfl @Try.call28 rfl (arrowKinds0_c a2.2.1 y2 hIs.2.1) ?_
   rintro _ c8 ⟨a1, _, rfl, c7⟩
   replace c := a1.2 _ _ c
   replace e := Keep.le e a1
   replace a9 := w.keep e (Nat.le_refl _)
   replace u := Keep.le u a1
   replace d1 := a7.keep u (Nat.le_refl _)
   clear a2
   have a2 := a9.inn
   clear a5 f2 d4
   have a5 : Fun.At _ g3 0 y c4 := ⟨Mem.of_get c, a2⟩
   obtain ⟨-, -, -, _, -, _⟩ := a5.get
   have _ := d1.ints
   have _ := c7.ints
   refine .mv rfl (.q rfl (.extract rfl rfl) (.q rfl (.extract rfl rfl) (.mv rfl (.mv rfl (.nil (c9 _ _ (.seq (fun K19 e3 => .seq (fun K20 d6 => .region (.mv rfl (.mv rfl (.q rfl (.aD rfl rfl rfl) (.q rfl (.cmp rfl rfl rfl) (.mv rfl ?_))))))))))))))
   refine .split (fun b0 => ?_) (fun b0 => ?_)
   ·
    simp at b0
   try simp only [sps] at b0
   refine .qg rfl (.move rfl) (.qg rfl (.len sl_24_A rfl) (.qg rfl (.fieldAddr fo_40_3_G rfl) (.qg rfl (.lA on_24_B rfl) (.qg rfl (.len sl_24_A rfl) (.qg rfl (.cmp rfl rfl rfl) (.q rfl (.pickF rfl rfl) (.mv rfl ?_)))))))
   refine .split (fun a3 => ?_) (fun a3 => ?_)
   ·
    exfalso
    rw [Cat.length_kinds] at a3
    simp only [sps] at a3
    omega
   try simp only [sps] at a3
   refine .qg rfl (.move rfl) (.qg rfl (.len sl_24_A rfl) (.qg rfl (.fieldAddr fo_40_1_G rfl) (.qg rfl (.fieldAddr fo_27_1_B rfl) (.qg rfl (.load on_24_B rfl (Mem.of_get c 6 _ rfl)) (.qg rfl (.len sl_24_A rfl) (.qg rfl (.cmp rfl rfl rfl) (.q rfl (.pickF rfl rfl) (.nil (d6 _ _ ?_)))))))))
   refine .cond rfl ?_ ?_ <;> intro b5
   ·
    exfalso
    simp at b5
   try simp only [sps] at b5
   refine .skip (e3 _ _ (.seq (fun K21 e5 => .seq (fun K22 e1 => .region (.mv rfl (.nil (e1 _ _ (.block ?_))))))))
   refine .loopF (σ := Nat) [3, 10, 16, 18] (fun k => [(20, some (.int .i64 (k : Int)))]) (fun k H' => c8 = H' ∧ k ≤ y.ar.length) (fun k => y.ar.length - k) (0) rfl (.p rfl) ?_ ?_
   ·
    refine ⟨rfl, ?_⟩
    omega
   rintro k _ ⟨rfl, _⟩ _ n
   dsimp only [cA, nA]
   refine .seq (fun K23 d8 => .seq (fun K24 d2 => .region (.mv rfl (.mv rfl (.q rfl (.len sl_24_A rfl) (.q rfl (.cmp rfl rfl rfl) (.nil (d2 _ _ ?_))))))))
   refine .cond rfl ?_ ?_ <;> intro b4
   ·
    simp only [sps] at b4
    have _ := hIs.2.2.ar k (by omega)
    obtain ⟨lM, lE, lI⟩ := hIs.law (k := k) (by omega)
    refine .skip (d8 _ _ (.seq (fun K25 m => .block (.seq (fun K26 d5 => .region (.mv rfl (.q rfl (.fieldAddr fo_40_3_G rfl) (.q rfl (.lA on_24_B rfl) (.mv rfl (.q rfl (.iN sl_24_A rfl rfl) (.q rfl (.lI on_2_A rfl) (.q rfl (.i1 sl_24_A rfl rfl) (.q rfl (.lI on_2_A rfl) (.mv rfl (.nil ?_)))))))))))))))
    refine d5 _ _ (.seq (fun K27 i => .region (.mv rfl (.mv rfl ?_))))
    refine .split (fun f => ?_) (fun f => ?_)
    ·
     try simp only [sps] at f
     refine .qg rfl (.move rfl) ?_
     refine .qg rfl (.rem rfl rfl (by omega)) ?_
     refine .qg rfl (.cmp rfl rfl rfl) (.qg rfl (.move rfl) ?_)
     refine .split (fun r => ?_) (fun r => ?_)
     ·
      try simp only [sps] at r
      refine .qg rfl (.move rfl) (.qg rfl (.move rfl) (.qg rfl (.iN sl_24_A rfl rfl) (.qg rfl (.lI on_2_A rfl) ?_)))
      refine .qg rfl (.rem rfl rfl (by omega)) ?_
      refine .qg rfl (.cmp rfl rfl rfl) (.qg rfl (.pickT rfl rfl) (.qg rfl (.move rfl) ?_))
      refine .split (fun s => ?_) (fun s => ?_)
      ·
       try simp only [sps] at s
       refine .z rfl (.z rfl (.z rfl (.z rfl (.z rfl ?_))))
       refine .sgu rfl rfl rfl rfl rfl ?_
       refine .sgu rfl rfl rfl rfl rfl ?_
       refine .sgu rfl rfl rfl rfl rfl ?_
       refine .sgu rfl rfl rfl rfl rfl ?_
       refine .sgu rfl rfl rfl rfl rfl ?_
       refine .sgu rfl rfl rfl rfl rfl ?_
       refine .sgu rfl rfl rfl rfl rfl ?_
       refine .z rfl (.qg rfl (.pickT rfl rfl) (.q rfl (.pickT rfl rfl) (.mv rfl (.z rfl (.z rfl (.z rfl (.z rfl (.z rfl (.z rfl (.z rfl ?_))))))))))
       refine .sgu rfl rfl rfl rfl rfl ?_
       refine .sgu rfl rfl rfl rfl rfl ?_
       refine .sgu rfl rfl rfl rfl rfl ?_
       refine .z rfl (.q rfl (.pickT rfl rfl) (.nil (i _ _ ?_)))
       refine .condT rfl ?_
       refine .seq (fun K28 c0 => .region (.mv rfl (.nil (c0 _ _ (.ret (x _ _ (⟨_, rfl, ?_⟩)))))))
       first
       | rfl
       | exact absurd s (lM f r)
       | exact absurd j (lE f l)
       | exact congrArg Value.bool (by rw [B_false hno]; rfl)
      try simp only [sps] at s
      refine .qg rfl (.move rfl) ?_
      refine .qg rfl (.quo rfl rfl (by omega)) ?_
      refine .qg rfl (.rem rfl rfl (by omega)) ?_
      refine .qg rfl (.cmp rfl rfl rfl) (.qg rfl (.move rfl) ?_)
      refine .split (fun l => ?_) (fun l => ?_)
      ·
       try simp only [sps] at l
       refine .qg rfl (.move rfl) (.qg rfl (.move rfl) (.qg rfl (.iN sl_24_A rfl rfl) (.qg rfl (.lI on_2_A rfl) ?_)))
       refine .qg rfl (.quo rfl rfl (by omega)) ?_
       refine .qg rfl (.rem rfl rfl (by omega)) ?_
       refine .qg rfl (.cmp rfl rfl rfl) (.qg rfl (.pickT rfl rfl) (.qg rfl (.pickF rfl rfl) (.q rfl (.pickT rfl rfl) (.mv rfl ?_))))
       refine .split (fun j => ?_) (fun j => ?_)
       ·
        try simp only [sps] at j
        refine .z rfl (.z rfl (.z rfl (.z rfl (.z rfl (.z rfl (.z rfl ?_))))))
        refine .sgu rfl rfl rfl rfl rfl ?_
        refine .sgu rfl rfl rfl rfl rfl ?_
        refine .sgu rfl rfl rfl rfl rfl ?_
        refine .z rfl (.q rfl (.pickT rfl rfl) (.nil (i _ _ ?_)))
        refine .condT rfl ?_
        refine .seq (fun K29 c6 => .region (.mv rfl (.nil (c6 _ _ (.ret (x _ _ (⟨_, rfl, ?_⟩)))))))
        first
        | rfl
        | exact absurd s (lM f r)
        | exact absurd j (lE f l)
        | exact congrArg Value.bool (by rw [B_false hno]; rfl)
       try simp only [sps] at j
       refine .qg rfl (.move rfl) (.qg rfl (.move rfl) (.qg rfl (.iN sl_24_A rfl rfl) (.qg rfl (.lI on_2_A rfl) ?_)))
       refine .qg rfl (.quo rfl rfl (by omega)) ?_
       refine .qg rfl (.cmp rfl rfl rfl) (.qg rfl (.move rfl) ?_)
       refine .split (fun d => ?_) (fun d => ?_)
       ·
        try simp only [sps] at d
        refine .qg rfl (.move rfl) ?_
        refine .qg rfl (.quo rfl rfl (by omega)) ?_
        refine .qg rfl (.cmp rfl rfl rfl) (.qg rfl (.pickT rfl rfl) (.q rfl (.pickF rfl rfl) (.nil (i _ _ ?_))))
        refine .cond rfl ?_ ?_ <;> intro g
        ·
         exfalso
         exact lI d (by simpa using g)
        try simp only [sps] at g
        refine .skip (m _ _ (.region (.mv rfl (.q rfl (.aD rfl rfl rfl) (.mv rfl (.nil ?_))))))
        refine n (k + 1) _ _ ?_ ?_ (.p rfl)
        ·
         refine ⟨rfl, ?_⟩
         omega
        omega
       try simp only [sps] at d
       refine .z rfl (.z rfl (.z rfl (.qg rfl (.pickF rfl rfl) (.q rfl (.pickF rfl rfl) (.nil (i _ _ ?_))))))
       refine .condF rfl ?_
       refine .skip (m _ _ (.region (.mv rfl (.q rfl (.aD rfl rfl rfl) (.mv rfl (.nil ?_))))))
       refine n (k + 1) _ _ ?_ ?_ (.p rfl)
       ·
        refine ⟨rfl, ?_⟩
        omega
       omega
      try simp only [sps] at l
      refine .z rfl (.z rfl (.z rfl (.z rfl (.z rfl (.z rfl (.z rfl (.qg rfl (.pickF rfl rfl) (.qg rfl (.pickF rfl rfl) (.q rfl (.pickT rfl rfl) (.mv rfl (.qg rfl (.move rfl) (.qg rfl (.move rfl) (.qg rfl (.iN sl_24_A rfl rfl) (.qg rfl (.lI on_2_A rfl) ?_))))))))))))))
      refine .qg rfl (.quo rfl rfl (by omega)) ?_
      refine .qg rfl (.cmp rfl rfl rfl) (.qg rfl (.move rfl) ?_)
      refine .split (fun d => ?_) (fun d => ?_)
      ·
       try simp only [sps] at d
       refine .qg rfl (.move rfl) ?_
       refine .qg rfl (.quo rfl rfl (by omega)) ?_
       refine .qg rfl (.cmp rfl rfl rfl) (.qg rfl (.pickT rfl rfl) (.q rfl (.pickF rfl rfl) (.nil (i _ _ ?_))))
       refine .cond rfl ?_ ?_ <;> intro g
       ·
        exfalso
        exact lI d (by simpa using g)
       try simp only [sps] at g
       refine .skip (m _ _ (.region (.mv rfl (.q rfl (.aD rfl rfl rfl) (.mv rfl (.nil ?_))))))
       refine n (k + 1) _ _ ?_ ?_ (.p rfl)
       ·
        refine ⟨rfl, ?_⟩
        omega
       omega
      try simp only [sps] at d
      refine .z rfl (.z rfl (.z rfl (.qg rfl (.pickF rfl rfl) (.q rfl (.pickF rfl rfl) (.nil (i _ _ ?_))))))
      refine .condF rfl ?_
      refine .skip (m _ _ (.region (.mv rfl (.q rfl (.aD rfl rfl rfl) (.mv rfl (.nil ?_))))))
      refine n (k + 1) _ _ ?_ ?_ (.p rfl)
      ·
       refine ⟨rfl, ?_⟩
       omega
      omega
     try simp only [sps] at r
     refine .z rfl (.z rfl (.z rfl (.z rfl (.z rfl (.z rfl (.qg rfl (.pickF rfl rfl) (.qg rfl (.move rfl) (.qg rfl (.move rfl) ?_))))))))
     refine .qg rfl (.quo rfl rfl (by omega)) ?_
     refine .qg rfl (.rem rfl rfl (by omega)) ?_
     refine .qg rfl (.cmp rfl rfl rfl) (.qg rfl (.move rfl) ?_)
     refine .split (fun l => ?_) (fun l => ?_)
     ·
      try simp only [sps] at l
      refine .qg rfl (.move rfl) (.qg rfl (.move rfl) (.qg rfl (.iN sl_24_A rfl rfl) (.qg rfl (.lI on_2_A rfl) ?_)))
      refine .qg rfl (.quo rfl rfl (by omega)) ?_
      refine .qg rfl (.rem rfl rfl (by omega)) ?_
      refine .qg rfl (.cmp rfl rfl rfl) (.qg rfl (.pickT rfl rfl) (.qg rfl (.pickF rfl rfl) (.q rfl (.pickT rfl rfl) (.mv rfl ?_))))
      refine .split (fun j => ?_) (fun j => ?_)
      ·
       try simp only [sps] at j
       refine .z rfl (.z rfl (.z rfl (.z rfl (.z rfl (.z rfl (.z rfl ?_))))))
       refine .sgu rfl rfl rfl rfl rfl ?_
       refine .sgu rfl rfl rfl rfl rfl ?_
       refine .sgu rfl rfl rfl rfl rfl ?_
       refine .z rfl (.q rfl (.pickT rfl rfl) (.nil (i _ _ ?_)))
       refine .condT rfl ?_
       refine .seq (fun K30 b8 => .region (.mv rfl (.nil (b8 _ _ (.ret (x _ _ (⟨_, rfl, ?_⟩)))))))
       first
       | rfl
       | exact absurd s (lM f r)
       | exact absurd j (lE f l)
       | exact congrArg Value.bool (by rw [B_false hno]; rfl)
      try simp only [sps] at j
      refine .qg rfl (.move rfl) (.qg rfl (.move rfl) (.qg rfl (.iN sl_24_A rfl rfl) (.qg rfl (.lI on_2_A rfl) ?_)))
      refine .qg rfl (.quo rfl rfl (by omega)) ?_
      refine .qg rfl (.cmp rfl rfl rfl) (.qg rfl (.move rfl) ?_)
      refine .split (fun d => ?_) (fun d => ?_)
      ·
       try simp only [sps] at d
       refine .qg rfl (.move rfl) ?_
       refine .qg rfl (.quo rfl rfl (by omega)) ?_
       refine .qg rfl (.cmp rfl rfl rfl) (.qg rfl (.pickT rfl rfl) (.q rfl (.pickF rfl rfl) (.nil (i _ _ ?_))))
       refine .cond rfl ?_ ?_ <;> intro g
       ·
        exfalso
        exact lI d (by simpa using g)
       try simp only [sps] at g
       refine .skip (m _ _ (.region (.mv rfl (.q rfl (.aD rfl rfl rfl) (.mv rfl (.nil ?_))))))
       refine n (k + 1) _ _ ?_ ?_ (.p rfl)
       ·
        refine ⟨rfl, ?_⟩
        omega
       omega
      try simp only [sps] at d
      refine .z rfl (.z rfl (.z rfl (.qg rfl (.pickF rfl rfl) (.q rfl (.pickF rfl rfl) (.nil (i _ _ ?_))))))
      refine .condF rfl ?_
      refine .skip (m _ _ (.region (.mv rfl (.q rfl (.aD rfl rfl rfl) (.mv rfl (.nil ?_))))))
      refine n (k + 1) _ _ ?_ ?_ (.p rfl)
      ·
       refine ⟨rfl, ?_⟩
       omega
      omega
     try simp only [sps] at l
     refine .z rfl (.z rfl (.z rfl (.z rfl (.z rfl (.z rfl (.z rfl (.qg rfl (.pickF rfl rfl) (.qg rfl (.pickF rfl rfl) (.q rfl (.pickT rfl rfl) (.mv rfl (.qg rfl (.move rfl) (.qg rfl (.move rfl) (.qg rfl (.iN sl_24_A rfl rfl) (.qg rfl (.lI on_2_A rfl) ?_))))))))))))))
     refine .qg rfl (.quo rfl rfl (by omega)) ?_
     refine .qg rfl (.cmp rfl rfl rfl) (.qg rfl (.move rfl) ?_)
     refine .split (fun d => ?_) (fun d => ?_)
     ·
      try simp only [sps] at d
      refine .qg rfl (.move rfl) ?_
      refine .qg rfl (.quo rfl rfl (by omega)) ?_
      refine .qg rfl (.cmp rfl rfl rfl) (.qg rfl (.pickT rfl rfl) (.q rfl (.pickF rfl rfl) (.nil (i _ _ ?_))))
      refine .cond rfl ?_ ?_ <;> intro g
      ·
       exfalso
       exact lI d (by simpa using g)
      try simp only [sps] at g
      refine .skip (m _ _ (.region (.mv rfl (.q rfl (.aD rfl rfl rfl) (.mv rfl (.nil ?_))))))
      refine n (k + 1) _ _ ?_ ?_ (.p rfl)
      ·
       refine ⟨rfl, ?_⟩
       omega
      omega
     try simp only [sps] at d
     refine .z rfl (.z rfl (.z rfl (.qg rfl (.pickF rfl rfl) (.q rfl (.pickF rfl rfl) (.nil (i _ _ ?_))))))
     refine .condF rfl ?_
     refine .skip (m _ _ (.region (.mv rfl (.q rfl (.aD rfl rfl rfl) (.mv rfl (.nil ?_))))))
     refine n (k + 1) _ _ ?_ ?_ (.p rfl)
     ·
      refine ⟨rfl, ?_⟩
      omega
     omega
    try simp only [sps] at f
    refine .z rfl (.z rfl (.z rfl (.z rfl ?_)))
    refine .sgu rfl rfl rfl rfl rfl ?_
    refine .sgu rfl rfl rfl rfl rfl ?_
    refine .sgu rfl rfl rfl rfl rfl ?_
    refine .sgu rfl rfl rfl rfl rfl ?_
    refine .sgu rfl rfl rfl rfl rfl ?_
    refine .sgu rfl rfl rfl rfl rfl ?_
    refine .z rfl (.z rfl ?_)
    refine .sgu rfl rfl rfl rfl rfl ?_
    refine .sgu rfl rfl rfl rfl rfl ?_
    refine .sgu rfl rfl rfl rfl rfl ?_
    refine .sgu rfl rfl rfl rfl rfl ?_
    refine .sgu rfl rfl rfl rfl rfl ?_
    refine .sgu rfl rfl rfl rfl rfl ?_
    refine .sgu rfl rfl rfl rfl rfl ?_
    refine .sgu rfl rfl rfl rfl rfl ?_
    refine .sgu rfl rfl rfl rfl rfl ?_
    refine .sgu rfl rfl rfl rfl rfl ?_
    refine .sgu rfl rfl rfl rfl rfl ?_
    refine .sgu rfl rfl rfl rfl rfl ?_
    refine .sgu rfl rfl rfl rfl rfl ?_
    refine .z rfl (.q rfl (.pickF rfl rfl) (.mv rfl (.qg rfl (.move rfl) (.qg rfl (.move rfl) (.qg rfl (.iN sl_24_A rfl rfl) (.qg rfl (.lI on_2_A rfl) ?_))))))
    refine .qg rfl (.quo rfl rfl (by omega)) ?_
    refine .qg rfl (.cmp rfl rfl rfl) (.qg rfl (.move rfl) ?_)
    refine .split (fun d => ?_) (fun d => ?_)
    ·
     try simp only [sps] at d
     refine .qg rfl (.move rfl) ?_
     refine .qg rfl (.quo rfl rfl (by omega)) ?_
     refine .qg rfl (.cmp rfl rfl rfl) (.qg rfl (.pickT rfl rfl) (.q rfl (.pickF rfl rfl) (.nil (i _ _ ?_))))
     refine .cond rfl ?_ ?_ <;> intro g
     ·
      exfalso
      exact lI d (by simpa using g)
     try simp only [sps] at g
     refine .skip (m _ _ (.region (.mv rfl (.q rfl (.aD rfl rfl rfl) (.mv rfl (.nil ?_))))))
     refine n (k + 1) _ _ ?_ ?_ (.p rfl)
     ·
      refine ⟨rfl, ?_⟩
      omega
     omega
    try simp only [sps] at d
    refine .z rfl (.z rfl (.z rfl (.qg rfl (.pickF rfl rfl) (.q rfl (.pickF rfl rfl) (.nil (i _ _ ?_))))))
    refine .condF rfl ?_
    refine .skip (m _ _ (.region (.mv rfl (.q rfl (.aD rfl rfl rfl) (.mv rfl (.nil ?_))))))
    refine n (k + 1) _ _ ?_ ?_ (.p rfl)
    ·
     refine ⟨rfl, ?_⟩
     omega
    omega
   simp only [sps] at b4
   refine .exit (e5 _ _ (.seq (fun K31 e2 => .region (.mv rfl (.nil (e2 _ _ (.ret (x _ _ (⟨_, rfl, ?_⟩)))))))))
   first
   | rfl
   | exact absurd s (lM f r)
   | exact absurd j (lE f l)
   | exact congrArg Value.bool (by rw [B_false hno]; rfl)
  refine .seq (fun K32 b3 => .region (.mv rfl (.mv rfl (.q rfl (.aD rfl rfl rfl) (.mv rfl (.q rfl (.aD rfl rfl rfl) (.mv rfl (.q rfl (.aD rfl rfl rfl) (.q rfl (.cmp rfl rfl rfl) (.mv rfl ?_))))))))))
  refine .split (fun c1 => ?_) (fun c1 => ?_)
  ·
   simp at c1
  try simp only [sps] at c1
  refine .qg rfl (.move rfl) (.qg rfl (.move rfl) ?_)
  refine .split (fun b1 => ?_) (fun b1 => ?_)
  ·
   try simp only [sps] at b1
   refine .qg rfl (.move rfl) (.qg rfl (.not rfl) (.qg rfl (.move rfl) ?_))
   refine .split (fun e0 => ?_) (fun e0 => ?_)
   ·
    exfalso
    rcases (by simpa only [sps] using e0 : ¬ y.Is ∨ ¬ y.Cons) with q | q
    · exact q hIs
    · exact q (hIs.cons (by simpa only [sps] using b1))
   try simp only [sps] at e0
   refine .qg rfl (.move rfl) (.qg rfl (.not rfl) (.qg rfl (.pickF rfl rfl) (.qg rfl (.move rfl) ?_)))
   refine .split (fun d0 => ?_) (fun d0 => ?_)
   ·
    exfalso
    exact (by simpa only [sps] using d0 : ¬ y.KMo) (hIs.kmo (by simpa only [sps] using b1))
   try simp only [sps] at d0
   refine .qg rfl (.move rfl) (.qg rfl (.not rfl) (.qg rfl (.pickF rfl rfl) (.qg rfl (.pickT rfl rfl) (.q rfl (.pickF rfl rfl) (.nil (b3 _ _ ?_))))))
   refine .cond rfl ?_ ?_ <;> intro f1
   ·
    exfalso
    exact (by simpa only [sps] using f1 : ¬ y.KEp) (hIs.kep (by simpa only [sps] using b1))
   try simp only [sps] at f1
   refine .skip ?_
   exact ⟨(.p rfl), rfl⟩
  try simp only [sps] at b1
  refine .z rfl (.z rfl (.z rfl ?_))
  refine .sgu rfl rfl rfl rfl rfl ?_
  refine .sgu rfl rfl rfl rfl rfl ?_
  refine .z rfl (.z rfl ?_)
  refine .sgu rfl rfl rfl rfl rfl ?_
  refine .sgu rfl rfl rfl rfl rfl ?_
  refine .z rfl (.qg rfl (.pickF rfl rfl) (.q rfl (.pickF rfl rfl) (.nil (b3 _ _ ?_))))
  refine .condF rfl ?_
  refine .skip ?_
  exact ⟨(.p rfl), rfl⟩
end Go.Proofs.Ytfanjkbaemhbmaa
