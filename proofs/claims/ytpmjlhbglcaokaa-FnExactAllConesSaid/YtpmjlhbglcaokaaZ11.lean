/- All cones: the program's. No condition but those of each statement. -/
import Derived.Test.YtpmjlhbglcaokaaZ10
namespace Go.Proofs.Ytpmjlhbglcaokaa
open Go Go.GL Go.RowKit Go.Proofs
theorem on_29_Hi : oneT Try.prog 29 = true := by kernel_rfl
theorem bt_42_Hi : buildT Try.prog 42 = some ([.int .i64 0, .slice none 0 0], [(0, 1), (1, 1)]) := by kernel_rfl
theorem sl_29_Hi : sliceT Try.prog 29 = some (42, 2) := by kernel_rfl
theorem ze_42_Hi : zeroT Try.prog 42 = some ([.int .i64 0, .slice none 0 0], 2) := by kernel_rfl
theorem by_42_Hi : (Try.prog.info? 42).map (·.bytes) = some 32 := by kernel_rfl
theorem sz_29_Hi : (Try.prog.info? 29).map (·.size) = some 1 := by kernel_rfl
theorem ze_29_Hi : zeroT Try.prog 29 = some ([.slice none 0 0], 1) := by kernel_rfl
/-- What the closure of all cones gathers. -/
theorem allCones1_c {go gx gF gc b0 e0 b : Nat} {x : Int} {pre : List Con} {q : List Int} {fs : List (List Int)} {H : GHeap} (hA : GathC 29 42 2 2 go gx b0 e0 x pre b fs gF H) (hgc : H.get gc = some (.row (ints q) 2 true)) (n1 : gc ≠ go) (n2 : gc ≠ gF) (n6 : go ≠ gx) (hb : b ≤ H.next) (hb0 : b0 ≤ b) (hfs : pre.length + fs.length ≤ 400) (hq : q.length ≤ 8) :
    GCalls Try.prog 82 [.slice (some ⟨gc, 0, none⟩) q.length q.length, .pointer (some ⟨go, 0, none⟩), .pointer (some ⟨gx, 0, none⟩)] H (fun v H' => v = .bool (decide (fs.length + 1 ≤ 400 - pre.length)) ∧ ∃ gF', (gF' = gF ∨ H.next ≤ gF') ∧ gF' < H'.next ∧ St [go, gF] H H' ∧ GathC 29 42 2 2 go gx b0 e0 x pre b (fs ++ [q]) gF' H') := by
  obtain ⟨hd, hmo, r, hgF, hR, hside⟩ := hA
  have hd0 := hd
  have hgF0 := hgF
  have n3 := row_ne hd hgF rfl
  have n4 := row_ne hmo hgF rfl
  have hln : (pre ++ fs.map fun l => (⟨x, l⟩ : Con)).length = pre.length + fs.length := by simp
  have hfl := length_conV r (pre ++ fs.map fun l => (⟨x, l⟩ : Con))
  refine GCalls.body (N := 15) (rs := [.tmp 4]) Try.func82 rfl rfl rfl rfl (fun Qx hret hend => ?_)
  refine .forget (fr' := [(0, some _), (1, some _), (2, some _)]) ⟨rfl, rfl, rfl, trivial⟩ ?_
  have lt_hgc := GHeap.lt_of_get hgc
  have lt_hd := GHeap.lt_of_get hd
  have lt_hmo := GHeap.lt_of_get hmo
  have lt_hgF := GHeap.lt_of_get hgF
  have hfo := St.refl [go, gF] H
  refine .seq (fun K1 hK1 => ?_)
  refine .region (.m rfl rfl rfl (.assign rfl) (.nil ?_))
  refine hK1 _ _ ?_
  refine .seq (fun K2 hK2 => ?_)
  refine .regionD mixed_orders_B (.q 0 (.q 1 (.q 2 (.c 3 1 (.q 4 (.c 5 1 (.c 6 0 (.c 7 0 (.done))))))))) (by kernel_rfl) ?_
  refine .m rfl rfl rfl rfl (.refl _) (.load on_29_Hi rfl (by first | assumption | exact Mem.of_get hd 0 _ rfl)) ?_
  refine .m rfl rfl rfl rfl (.refl _) (.load on_2_A rfl (by first | assumption | exact Mem.of_get hmo 0 _ rfl)) ?_
  refine .m rfl rfl rfl rfl (.refl _) (.move rfl) ?_
  refine .call1 rfl rfl rfl rfl rfl @Try.call83 rfl (clone_c (Ints.of_get hgc)) ?_
  rintro _ H8 ⟨le8, g8, rfl, at8, ge8⟩
  have hbl := le8
  refine ⟨hbl, ?_⟩
  have nx_H8 := le8.1
  replace hfo := hfo.le le8
  replace hgc := le8.2 _ _ hgc
  replace hd := le8.2 _ _ hd
  replace hmo := le8.2 _ _ hmo
  replace hgF := le8.2 _ _ hgF
  have lt_at8 := GHeap.lt_of_get at8
  have i8 := Ints.of_get at8
  refine .m rfl rfl rfl rfl hbl (.build bt_42_Hi rfl rfl rfl) ?_
  refine .c1 rfl rfl rfl rfl (.litR rfl sl_29_Hi ze_42_Hi rfl rfl (by omega) (by omega) rfl rfl) ?_
  rintro _ H10 ⟨g10, rfl, le10, ge10, at10⟩
  have hbl := le10
  refine ⟨hbl, ?_⟩
  have nx_H10 := le10.1
  replace hfo := hfo.le le10
  replace hgc := le10.2 _ _ hgc
  replace hd := le10.2 _ _ hd
  replace hmo := le10.2 _ _ hmo
  replace hgF := le10.2 _ _ hgF
  replace at8 := le10.2 _ _ at8
  have lt_at10 := GHeap.lt_of_get at10
  clear i8
  have i8 := Ints.of_get at8
  refine .c0 rfl rfl rfl rfl (.appendV rfl sl_29_Hi ze_42_Hi rfl by_42_Hi sl_29_Hi rfl rfl (by assumption) (by assumption) (by first | omega | (simp <;> omega)) rfl rfl (by omega) (by omega)) ?_
  rintro _ H11 ⟨g11, rfl, st11, ge11, at11⟩
  have nx_H11 := st11.nx
  replace hfo := hfo.st st11 (fun k hk ho => by simp only [out, and_true] at ho ⊢ <;> omega)
  replace hgc := st11.same _ _ ⟨by omega, trivial⟩ hgc
  replace hd := st11.same _ _ ⟨by omega, trivial⟩ hd
  replace hmo := st11.same _ _ ⟨by omega, trivial⟩ hmo
  replace at8 := st11.same _ _ ⟨by omega, trivial⟩ at8
  replace at10 := st11.same _ _ ⟨by omega, trivial⟩ at10
  have lt_at11 := GHeap.lt_of_get at11
  clear i8
  have i8 := Ints.of_get at8
  refine .r0 rfl rfl rfl (.storeR rfl sz_29_Hi rfl rfl rfl (by assumption) (by first | exact Nat.le_of_ble_eq_true rfl | (simp; done) | (simp <;> omega))) ?_
  rintro _ H1007 ⟨rfl, st1007, at1007⟩
  have nx_H1007 := st1007.nx
  replace hfo := hfo.st st1007 (fun k hk ho => by simp only [out, and_true] at ho ⊢ <;> omega)
  replace hgc := st1007.same _ _ ⟨by omega, trivial⟩ hgc
  replace hmo := st1007.same _ _ ⟨by omega, trivial⟩ hmo
  replace at8 := st1007.same _ _ ⟨by omega, trivial⟩ at8
  replace at10 := st1007.same _ _ ⟨by omega, trivial⟩ at10
  replace at11 := st1007.same _ _ ⟨by omega, trivial⟩ at11
  have lt_at1007 := GHeap.lt_of_get at1007
  clear i8
  have i8 := Ints.of_get at8
  try simp only [Nat.zero_add, List.set_cons_succ, List.set_cons_zero] at at1007
  refine .done ?_
  refine hK2 _ _ ?_
  refine .seq (fun K3 hK3 => ?_)
  refine .region ?_
  refine .m rfl rfl rfl (.load on_29_Hi rfl (by first | assumption | exact Mem.of_get at1007 0 _ rfl)) ?_
  refine .m rfl rfl rfl (.len sl_29_Hi rfl) (.m rfl rfl rfl (.cmp rfl rfl rfl) (.m rfl rfl rfl (.assign rfl) (.nil ?_)))
  refine hK3 _ _ ?_
  refine .ret ?_
  refine hret _ _ ?_
  refine ⟨_, rfl, ?_⟩
  have hsn : pre ++ (fs ++ [q]).map (fun l => (⟨x, l⟩ : Con)) = (pre ++ fs.map fun l => (⟨x, l⟩ : Con)) ++ [⟨x, q⟩] := by simp
  have hw0 := hR.st hfo (.cons (hR.neT hd0 rfl) (.cons (hR.neT hgF0 rfl) (.nil _ _)))
  have hw := hw0.snoc2 (x := q) at8 (hR.ne (by omega)) (by omega)
  rw [List.length_map] at hw
  refine ⟨congrArg _ (decide_eq_decide.2 (by omega)), g11, .inr (by omega), by omega, hfo, ?_, hmo, ⟨upd r (pre ++ fs.map fun l => (⟨x, l⟩ : Con)).length (some ⟨g8, 0, none⟩), ?_, ?_, fun i hi g hg => ?_⟩⟩
  · rw [hsn, List.length_append]; exact at1007
  · rw [hsn, conV_snoc]; exact at11
  · rw [hsn, List.map_append]; exact hw
  · by_cases e : i = (pre ++ fs.map fun l => (⟨x, l⟩ : Con)).length
    · subst e
      rw [upd_eq] at hg
      cases hg
      right; omega
    · rw [upd_ne e] at hg
      rw [hsn, List.length_append, List.length_singleton] at hi
      exact hside i (by omega) g hg
set_option maxHeartbeats 4000000 in
theorem allCones_c {g o : Nat} {d : Fun} {p : FunP} {H : GHeap} (h : Fun.At H g o d p := by assumption) (hP : d.Is) :
    GCalls Try.prog 56 [.pointer (some ⟨g, o, none⟩)] H (fun v H' => H.Le H' ∧ ((400 < (d.coneL d.t.obj.toNat).length ∧ v = .tuple #[.slice none 0 0, .bool false]) ∨ ((d.coneL d.t.obj.toNat).length ≤ 400 ∧ ∃ gL r, v = .tuple #[.slice (some ⟨gL, 0, none⟩) (d.coneL d.t.obj.toNat).length (d.coneL d.t.obj.toNat).length, .bool true] ∧ H.next ≤ gL ∧ ConsAt 42 2 H.next H' gL r (d.coneL d.t.obj.toNat)))) := by
  have hob := hP.2.1.1.obj
  refine GCalls.body (N := 25) (rs := [.tmp 2, .tmp 3]) Try.func56 rfl rfl rfl rfl (fun Qx hret hend => ?_)
  refine .forget (fr' := [(0, some _)]) ⟨rfl, trivial⟩ ?_
  have hle := GHeap.Le.refl H
  have base_h := h
  obtain ⟨fs, ft, c10, c11, j1, j2⟩ := h.get
  have hm : MemN _ _ _ _ _ := ⟨rfl, h.1⟩
  have hi := h.2
  have hms : MemN _ _ _ _ _ := ⟨rfl, fs.1⟩
  have his := fs.2
  have hmt : MemN _ _ _ _ _ := ⟨rfl, ft.1⟩
  have hit := ft.2
  obtain ⟨s0, s1, s2, s3, s4, u1, u2, u3, u4⟩ := ft.get
  refine .seq (fun K1 hK1 => ?_)
  refine .region (.m rfl rfl rfl (.assign rfl) (.m rfl rfl rfl (.assign rfl) (.nil ?_)))
  refine hK1 _ _ ?_
  refine .seq (fun K2 hK2 => ?_)
  refine .region ?_
  refine .r rfl rfl rfl (.litR rfl sl_29_Hi ze_42_Hi rfl rfl (by omega) (by omega) rfl rfl) ?_
  rintro _ H7 ⟨g7, rfl, le7, ge7, at7⟩
  have nx_H7 := le7.1
  replace hle := hle.trans le7
  have lt_at7 := GHeap.lt_of_get at7
  replace h := base_h.mono hle
  clear fs ft c10 c11 j1 j2 hm hi hms his hmt hit s0 s1 s2 s3 s4 u1 u2 u3 u4
  obtain ⟨fs, ft, c10, c11, j1, j2⟩ := h.get
  have hm : MemN _ _ _ _ _ := ⟨rfl, h.1⟩
  have hi := h.2
  have hms : MemN _ _ _ _ _ := ⟨rfl, fs.1⟩
  have his := fs.2
  have hmt : MemN _ _ _ _ _ := ⟨rfl, ft.1⟩
  have hit := ft.2
  obtain ⟨s0, s1, s2, s3, s4, u1, u2, u3, u4⟩ := ft.get
  refine .r rfl rfl rfl (.allocR rfl ze_29_Hi rfl) ?_
  rintro _ H4 ⟨g4, rfl, le4, ge4, at4⟩
  have nx_H4 := le4.1
  replace hle := hle.trans le4
  replace at7 := le4.2 _ _ at7
  have lt_at4 := GHeap.lt_of_get at4
  replace h := base_h.mono hle
  clear fs ft c10 c11 j1 j2 hm hi hms his hmt hit s0 s1 s2 s3 s4 u1 u2 u3 u4
  obtain ⟨fs, ft, c10, c11, j1, j2⟩ := h.get
  have hm : MemN _ _ _ _ _ := ⟨rfl, h.1⟩
  have hi := h.2
  have hms : MemN _ _ _ _ _ := ⟨rfl, fs.1⟩
  have his := fs.2
  have hmt : MemN _ _ _ _ _ := ⟨rfl, ft.1⟩
  have hit := ft.2
  obtain ⟨s0, s1, s2, s3, s4, u1, u2, u3, u4⟩ := ft.get
  refine .r0 rfl rfl (.storeR rfl sz_29_Hi rfl rfl rfl (by assumption) (by first | exact Nat.le_of_ble_eq_true rfl | (simp; done) | (simp <;> omega))) ?_
  rintro _ H1002 ⟨rfl, st1002, at1002⟩
  have nx_H1002 := st1002.nx
  replace hle := hle.st st1002 (fun k hk => ⟨by omega, trivial⟩)
  replace at7 := st1002.same _ _ ⟨by omega, trivial⟩ at7
  have lt_at1002 := GHeap.lt_of_get at1002
  replace h := base_h.mono hle
  clear fs ft c10 c11 j1 j2 hm hi hms his hmt hit s0 s1 s2 s3 s4 u1 u2 u3 u4
  obtain ⟨fs, ft, c10, c11, j1, j2⟩ := h.get
  have hm : MemN _ _ _ _ _ := ⟨rfl, h.1⟩
  have hi := h.2
  have hms : MemN _ _ _ _ _ := ⟨rfl, fs.1⟩
  have his := fs.2
  have hmt : MemN _ _ _ _ _ := ⟨rfl, ft.1⟩
  have hit := ft.2
  obtain ⟨s0, s1, s2, s3, s4, u1, u2, u3, u4⟩ := ft.get
  try simp only [Nat.zero_add, List.set_cons_succ, List.set_cons_zero] at at1002
  refine .nil ?_
  refine hK2 _ _ ?_
  refine .seq (fun K3 hK3 => ?_)
  refine .seq (fun K4 hK4 => ?_)
  refine .region ?_
  refine .r rfl rfl rfl (.allocR rfl ze_2_E rfl) ?_
  rintro _ H5 ⟨g5, rfl, le5, ge5, at5⟩
  have nx_H5 := le5.1
  replace hle := hle.trans le5
  replace at7 := le5.2 _ _ at7
  replace at1002 := le5.2 _ _ at1002
  have lt_at5 := GHeap.lt_of_get at5
  replace h := base_h.mono hle
  clear fs ft c10 c11 j1 j2 hm hi hms his hmt hit s0 s1 s2 s3 s4 u1 u2 u3 u4
  obtain ⟨fs, ft, c10, c11, j1, j2⟩ := h.get
  have hm : MemN _ _ _ _ _ := ⟨rfl, h.1⟩
  have hi := h.2
  have hms : MemN _ _ _ _ _ := ⟨rfl, fs.1⟩
  have his := fs.2
  have hmt : MemN _ _ _ _ _ := ⟨rfl, ft.1⟩
  have hit := ft.2
  obtain ⟨s0, s1, s2, s3, s4, u1, u2, u3, u4⟩ := ft.get
  refine .r0 rfl rfl (.storeR rfl sz_2_E rfl rfl rfl (by assumption) (by first | exact Nat.le_of_ble_eq_true rfl | (simp; done) | (simp <;> omega))) ?_
  rintro _ H2001 ⟨rfl, st2001, at2001⟩
  have nx_H2001 := st2001.nx
  replace hle := hle.st st2001 (fun k hk => ⟨by omega, trivial⟩)
  replace at7 := st2001.same _ _ ⟨by omega, trivial⟩ at7
  replace at1002 := st2001.same _ _ ⟨by omega, trivial⟩ at1002
  have lt_at2001 := GHeap.lt_of_get at2001
  replace h := base_h.mono hle
  clear fs ft c10 c11 j1 j2 hm hi hms his hmt hit s0 s1 s2 s3 s4 u1 u2 u3 u4
  obtain ⟨fs, ft, c10, c11, j1, j2⟩ := h.get
  have hm : MemN _ _ _ _ _ := ⟨rfl, h.1⟩
  have hi := h.2
  have hms : MemN _ _ _ _ _ := ⟨rfl, fs.1⟩
  have his := fs.2
  have hmt : MemN _ _ _ _ _ := ⟨rfl, ft.1⟩
  have hit := ft.2
  obtain ⟨s0, s1, s2, s3, s4, u1, u2, u3, u4⟩ := ft.get
  try simp only [Nat.zero_add, List.set_cons_succ, List.set_cons_zero] at at2001
  refine .nil ?_
  refine hK4 _ _ ?_
  refine .block ?_
  refine .loopR (σ := Nat × Nat × Nat) [(0, some _), (4, some _)] (fun (x, gx, gV) => [(5, some (.pointer (some ⟨gx, 0, none⟩)))]) (fun (x, gx, gV) H' => St [g4, g7] H2001 H' ∧ x ≤ d.t.obj.toNat ∧ (d.coneL x).length ≤ 400 ∧ (gx = g5 ∨ H2001.next ≤ gx) ∧ gx < H'.next ∧ (gV = g7 ∨ H2001.next ≤ gV) ∧ gV < H'.next ∧ gx ≠ gV ∧ H'.get gx = some (.row [.int .i64 (x : Int)] 2 true) ∧ H'.get g4 = some (.row [.slice (some ⟨gV, 0, none⟩) (d.coneL x).length (d.coneL x).length] 29 true) ∧ ∃ r, H'.get gV = some (.row (conV r (d.coneL x)) 42 true) ∧ OwnL H.next H' 2 r ((d.coneL x).map Con.lg)) (fun (x, gx, gV) => d.t.obj.toNat - x) ((0, g5, g7)) ⟨rfl, rfl, trivial⟩ ⟨rfl, trivial⟩ ?_ ?_
  ·
   refine ⟨.refl _ _, ?_⟩
   exact ⟨by omega, by simp [Fun.coneL], .inl rfl, by omega, .inl rfl, by omega, by omega, at2001, at1002, fun _ => none, at7, .nil _ _ _ _⟩
  rintro ⟨x, gx, gV⟩ HL1 ⟨lst1, hI⟩ KL1 hKL1
  refine .forget (fr' := [(5, some (.pointer (some ⟨gx, 0, none⟩))), (0, some _), (4, some _)]) ⟨rfl, rfl, rfl, trivial⟩ ?_
  have nx_HL1 := lst1.nx
  replace hle := hle.st lst1 (fun k hk => ⟨by omega, by omega, trivial⟩)
  replace at2001 := lst1.same _ _ ⟨by omega, by omega, trivial⟩ at2001
  replace h := base_h.mono hle
  clear fs ft c10 c11 j1 j2 hm hi hms his hmt hit s0 s1 s2 s3 s4 u1 u2 u3 u4
  obtain ⟨fs, ft, c10, c11, j1, j2⟩ := h.get
  have hm : MemN _ _ _ _ _ := ⟨rfl, h.1⟩
  have hi := h.2
  have hms : MemN _ _ _ _ _ := ⟨rfl, fs.1⟩
  have his := fs.2
  have hmt : MemN _ _ _ _ _ := ⟨rfl, ft.1⟩
  have hit := ft.2
  obtain ⟨s0, s1, s2, s3, s4, u1, u2, u3, u4⟩ := ft.get
  obtain ⟨hx, hcl, hgx, hgxl, hgV, hgVl, hxv, hix, hd, r, hgc, hR⟩ := hI
  have c5 := Mem.of_get hix 0 _ rfl
  refine .seq (fun K5 hK5 => ?_)
  refine .seq (fun K6 hK6 => ?_)
  refine .regionD mixed_orders_B (.q 0 (.q 1 (.q 2 (.q 3 (.q 4 (.q 5 (.q 6 (.done)))))))) (by kernel_rfl) ?_
  refine .m rfl rfl rfl rfl (.refl _) (.load on_2_A rfl (by assumption)) ?_
  refine .m rfl rfl rfl rfl (.refl _) (.move rfl) (.m rfl rfl rfl rfl (.refl _) (.nilCheck rfl) (.m rfl rfl rfl rfl (.refl _) (.fieldAddr fo_34_1_E rfl) (.m rfl rfl rfl rfl (.refl _) (.fieldAddr fo_32_0_B rfl) ?_)))
  refine .m rfl rfl rfl rfl (.refl _) (.load on_2_A rfl (by assumption)) ?_
  refine .m rfl rfl rfl rfl (.refl _) (.cmp rfl rfl rfl) ?_
  refine .done ?_
  refine hK6 _ _ ?_
  refine .cond rfl (fun h14 => ?_) (fun h14 => ?_)
  ·
   simp only [sps] at h14
   refine .skip ?_
   refine hK5 _ _ ?_
   refine .seq (fun K7 hK7 => ?_)
   refine .block ?_
   refine .seq (fun K8 hK8 => ?_)
   refine .region (.m rfl rfl rfl (.move rfl) ?_)
   refine .m rfl rfl rfl (.load on_2_A rfl (by assumption)) ?_
   refine .m rfl rfl rfl (.makeFunc rfl) ?_
   have hears : Hears Try.prog 82 #[.pointer (some ⟨g4, 0, none⟩), .pointer (some ⟨gx, 0, none⟩)] HL1.next g4 (400 - (d.coneL x).length) 2 (fun b fs gF H' => GathC 29 42 2 2 g4 gx H.next HL1.next (x : Int) (d.coneL x) b fs gF H') := ⟨@Try.call82, fun h s => h.le s, fun h h1 h2 h3 s => h.st s (by omega) (by omega) h3 h1 h2, fun hA h1 h2 h3 h4 h5 h6 h7 _ => allCones1_c hA h5 (by omega) h3 (by omega) h4 (by omega) (by omega) h7⟩
   refine .call rfl rfl rfl rfl @Try.call81 rfl ((legs_c (H0 := H) (w := (x : Int)) (gF := gV) (g1 := g4) (fs := []) base_h hP hears hle (by omega) (by omega) (by omega) (by omega) (by simp) (fun b => ⟨by simpa using hd, hix, r, by simpa using hgc, by simpa using hR, fun i hi g hg => .inl (hR.side i (by simpa using hi) g hg)⟩))) ?_
   rintro _ H20 ⟨gF20, b20, rfl, hb20, hbb20, hg20, hl20, st20, hA20⟩
   obtain ⟨hd20, hix20, r20, hgF20, hR20, hsd20⟩ := hA20
   have rk20 := St.refl [] H20
   have nx_H20 := st20.nx
   replace hle := hle.st st20 (fun k hk => ⟨by omega, by omega, trivial⟩)
   replace lst1 := lst1.st st20 (fun k hk ho => by simp only [out, and_true] at ho ⊢ <;> omega)
   replace at2001 := st20.same _ _ ⟨by omega, by omega, trivial⟩ at2001
   have lt_hd20 := GHeap.lt_of_get hd20
   have lt_hgF20 := GHeap.lt_of_get hgF20
   replace h := base_h.mono hle
   clear fs ft c10 c11 j1 j2 hm hi hms his hmt hit s0 s1 s2 s3 s4 u1 u2 u3 u4
   obtain ⟨fs, ft, c10, c11, j1, j2⟩ := h.get
   have hm : MemN _ _ _ _ _ := ⟨rfl, h.1⟩
   have hi := h.2
   have hms : MemN _ _ _ _ _ := ⟨rfl, fs.1⟩
   have his := fs.2
   have hmt : MemN _ _ _ _ _ := ⟨rfl, ft.1⟩
   have hit := ft.2
   obtain ⟨s0, s1, s2, s3, s4, u1, u2, u3, u4⟩ := ft.get
   refine .m rfl rfl rfl (.assign rfl) (.nil ?_)
   refine hK8 _ _ ?_
   refine .seq (fun K9 hK9 => ?_)
   refine .region (.m rfl rfl rfl (.move rfl) (.m rfl rfl rfl (.not rfl) (.nil ?_)))
   refine hK9 _ _ ?_
   refine .cond rfl (fun h22 => ?_) (fun h22 => ?_)
   ·
    have hbig := Fun.coneL_big (d := d) (x := x) (n := d.t.obj.toNat) (by omega) (by have := of_decide_eq_false (bnot_T h22); rw [List.length_nil, Nat.zero_add] at this; exact this) hcl
    refine .seq (fun K10 hK10 => ?_)
    refine .region (.m rfl rfl rfl (.assign rfl) (.m rfl rfl rfl (.assign rfl) (.nil ?_)))
    refine hK10 _ _ ?_
    refine .ret ?_
    refine hret _ _ ?_
    refine ⟨_, _, rfl, rfl, ?_⟩
    exact ⟨hle, .inl ⟨hbig, rfl⟩⟩
   have hsm := of_decide_eq_true (bnot_f h22)
   rw [List.length_nil, Nat.zero_add] at hsm
   have hE := Fun.coneL_next hsm
   have hlen : (d.coneL (x + 1)).length ≤ 400 := by rw [Fun.coneL_succ, List.length_append, List.length_map]; omega
   rw [hE] at hd20 hgF20 hR20
   refine .skip ?_
   refine hK7 _ _ ?_
   refine .seq (fun K11 hK11 => ?_)
   refine .seq (fun K12 hK12 => ?_)
   refine .region ?_
   have c5b := Mem.of_get hix20 0 _ rfl
   refine .m rfl rfl rfl (.load on_2_A rfl (by assumption)) ?_
   refine .nil ?_
   refine hK12 _ _ ?_
   refine .region ?_
   refine .r rfl rfl rfl (.allocR rfl ze_2_E rfl) ?_
   rintro _ H5x2 ⟨g5x2, rfl, le5x2, ge5x2, at5x2⟩
   have nx_H5x2 := le5x2.1
   replace hle := hle.trans le5x2
   replace lst1 := lst1.le le5x2
   replace rk20 := rk20.le le5x2
   replace at2001 := le5x2.2 _ _ at2001
   replace hd20 := le5x2.2 _ _ hd20
   replace hgF20 := le5x2.2 _ _ hgF20
   have lt_at5x2 := GHeap.lt_of_get at5x2
   replace h := base_h.mono hle
   clear fs ft c10 c11 j1 j2 hm hi hms his hmt hit s0 s1 s2 s3 s4 u1 u2 u3 u4
   obtain ⟨fs, ft, c10, c11, j1, j2⟩ := h.get
   have hm : MemN _ _ _ _ _ := ⟨rfl, h.1⟩
   have hi := h.2
   have hms : MemN _ _ _ _ _ := ⟨rfl, fs.1⟩
   have his := fs.2
   have hmt : MemN _ _ _ _ _ := ⟨rfl, ft.1⟩
   have hit := ft.2
   obtain ⟨s0, s1, s2, s3, s4, u1, u2, u3, u4⟩ := ft.get
   refine .r0 rfl rfl (.storeR rfl sz_2_E rfl rfl rfl (by assumption) (by first | exact Nat.le_of_ble_eq_true rfl | (simp; done) | (simp <;> omega))) ?_
   rintro _ H9001 ⟨rfl, st9001, at9001⟩
   have nx_H9001 := st9001.nx
   replace hle := hle.st st9001 (fun k hk => ⟨by omega, trivial⟩)
   replace lst1 := lst1.st st9001 (fun k hk ho => by simp only [out, and_true] at ho ⊢ <;> omega)
   replace rk20 := rk20.st st9001 (fun k hk ho => by simp only [out, and_true] at ho ⊢ <;> omega)
   replace at2001 := st9001.same _ _ ⟨by omega, trivial⟩ at2001
   replace hd20 := st9001.same _ _ ⟨by omega, trivial⟩ hd20
   replace hgF20 := st9001.same _ _ ⟨by omega, trivial⟩ hgF20
   have lt_at9001 := GHeap.lt_of_get at9001
   replace h := base_h.mono hle
   clear fs ft c10 c11 j1 j2 hm hi hms his hmt hit s0 s1 s2 s3 s4 u1 u2 u3 u4
   obtain ⟨fs, ft, c10, c11, j1, j2⟩ := h.get
   have hm : MemN _ _ _ _ _ := ⟨rfl, h.1⟩
   have hi := h.2
   have hms : MemN _ _ _ _ _ := ⟨rfl, fs.1⟩
   have his := fs.2
   have hmt : MemN _ _ _ _ _ := ⟨rfl, ft.1⟩
   have hit := ft.2
   obtain ⟨s0, s1, s2, s3, s4, u1, u2, u3, u4⟩ := ft.get
   try simp only [Nat.zero_add, List.set_cons_succ, List.set_cons_zero] at at9001
   refine .nil ?_
   refine hK11 _ _ ?_
   refine .region ?_
   refine .m rfl rfl rfl (.load on_2_A rfl (by first | assumption | exact Mem.of_get at9001 0 _ rfl)) ?_
   refine .m rfl rfl rfl (.add rfl rfl rfl (by omega) (by omega)) ?_
   refine .r0 rfl rfl (.storeR rfl sz_2_E rfl rfl rfl (by assumption) (by first | exact Nat.le_of_ble_eq_true rfl | (simp; done) | (simp <;> omega))) ?_
   rintro _ H4002 ⟨rfl, st4002, at4002⟩
   have nx_H4002 := st4002.nx
   replace hle := hle.st st4002 (fun k hk => ⟨by omega, trivial⟩)
   replace lst1 := lst1.st st4002 (fun k hk ho => by simp only [out, and_true] at ho ⊢ <;> omega)
   replace rk20 := rk20.st st4002 (fun k hk ho => by simp only [out, and_true] at ho ⊢ <;> omega)
   replace at2001 := st4002.same _ _ ⟨by omega, trivial⟩ at2001
   replace hd20 := st4002.same _ _ ⟨by omega, trivial⟩ hd20
   replace hgF20 := st4002.same _ _ ⟨by omega, trivial⟩ hgF20
   have lt_at4002 := GHeap.lt_of_get at4002
   replace h := base_h.mono hle
   clear fs ft c10 c11 j1 j2 hm hi hms his hmt hit s0 s1 s2 s3 s4 u1 u2 u3 u4
   obtain ⟨fs, ft, c10, c11, j1, j2⟩ := h.get
   have hm : MemN _ _ _ _ _ := ⟨rfl, h.1⟩
   have hi := h.2
   have hms : MemN _ _ _ _ _ := ⟨rfl, fs.1⟩
   have his := fs.2
   have hmt : MemN _ _ _ _ _ := ⟨rfl, ft.1⟩
   have hit := ft.2
   obtain ⟨s0, s1, s2, s3, s4, u1, u2, u3, u4⟩ := ft.get
   try simp only [Nat.zero_add, List.set_cons_succ, List.set_cons_zero] at at4002
   refine .nil ?_
   refine hKL1 ((x + 1, g5x2, gF20)) _ _ ?_ ?_ ⟨rfl, rfl, rfl, trivial⟩
   ·
    refine ⟨lst1, ?_⟩
    exact ⟨by omega, hlen, .inr (by omega), by omega, by omega, by omega, by omega, at4002, hd20, r20, hgF20, hR20.mono (rk20.le_of_nil)⟩
   (dsimp only; omega)
  simp only [sps] at h14
  refine .exit ?_
  refine hK3 _ _ ?_
  refine .seq (fun K13 hK13 => ?_)
  refine .region ?_
  have c44 := Mem.of_get hd 0 _ rfl
  refine .m rfl rfl rfl (.load on_29_Hi rfl (by assumption)) ?_
  refine .m rfl rfl rfl (.assign rfl) (.m rfl rfl rfl (.assign rfl) (.nil ?_))
  refine hK13 _ _ ?_
  refine .ret ?_
  refine hret _ _ ?_
  refine ⟨_, _, rfl, rfl, ?_⟩
  obtain rfl : x = d.t.obj.toNat := by omega
  exact ⟨hle, .inr ⟨hcl, gV, r, rfl, by omega, hgc, hR⟩⟩
end Go.Proofs.Ytpmjlhbglcaokaa
/- Universal cones. No condition but those of each statement. -/
namespace Go.Proofs.Ytpmjlhbglcaokaa
open Go Go.GL Go.RowKit Go.Proofs
end Go.Proofs.Ytpmjlhbglcaokaa
/- Limits. No condition but those of each statement. -/
namespace Go.Proofs.Ytpmjlhbglcaokaa
open Go Go.GL Go.RowKit Go.Proofs
set_option maxHeartbeats 4000000 in
theorem l12List0_c {d : Fun} {p : FunP} {H : GHeap} (hin : d.In H p) (hs : d.Small) (hI : d.Is) (hb : (d.coneL d.t.obj.toNat).length ≤ 400) :
    GCalls Try.prog 36 [.agg (d.cells p).toArray] H (fun v H' => H.Le H' ∧ ∃ g r, v = .tuple #[.slice (some ⟨g, 0, none⟩) (d.coneL d.t.obj.toNat).length (d.coneL d.t.obj.toNat).length, .int .i64 0] ∧ ConsIn 42 H.next H' g r (d.coneL d.t.obj.toNat)) := by
  have htk : (d.coneL d.t.obj.toNat).take 401 = d.coneL d.t.obj.toNat := List.take_of_length_le (by omega)
  have hlt : ((d.coneL d.t.obj.toNat).take 401).length = (d.coneL d.t.obj.toNat).length := by rw [htk]
  refine GCalls.body (N := 11) (rs := [.tmp 2, .tmp 3]) Try.func36 rfl rfl rfl rfl (fun Qx hret hend => ?_)
  refine .forget (fr' := [(0, some _)]) ⟨rfl, trivial⟩ ?_
  have hle := GHeap.Le.refl H
  have base_hin := hin
  refine .seq (fun K1 hK1 => ?_)
  refine .region ?_
  refine .r rfl rfl rfl (.boxR rfl sz_34_E rfl) ?_
  rintro _ H1 ⟨g1, rfl, le1, ge1, at1⟩
  have nx_H1 := le1.1
  replace hle := hle.trans le1
  have lt_at1 := GHeap.lt_of_get at1
  replace hin := base_hin.mono hle
  have hb1 : Fun.At _ g1 0 d p := ⟨Mem.of_get at1, hin⟩
  obtain ⟨fs1, ft1, c101, c111, j11, j21⟩ := hb1.get
  have hm1 : MemN _ _ _ _ _ := ⟨rfl, hb1.1⟩
  have hi1 := hb1.2
  have hms1 : MemN _ _ _ _ _ := ⟨rfl, fs1.1⟩
  have his1 := fs1.2
  have hmt1 : MemN _ _ _ _ _ := ⟨rfl, ft1.1⟩
  have hit1 := ft1.2
  refine .m rfl rfl rfl (.assign rfl) (.m rfl rfl rfl (.assign rfl) (.nil ?_))
  refine hK1 _ _ ?_
  refine .seq (fun K2 hK2 => ?_)
  refine .region ?_
  refine .m rfl rfl rfl (.loadM ag_34_E rfl ⟨rfl, Mem.of_get at1⟩) ?_
  refine .call rfl rfl rfl rfl @Try.call69 rfl (l12Cones_c hin hs hI) ?_
  rintro _ H6 ⟨le6, g6, r6, rfl, v6⟩
  have nx_H6 := le6.1
  replace hle := hle.trans le6
  replace at1 := le6.2 _ _ at1
  have bs_v6 := v6
  have lv_v6 : Keep H1.next H6 H6 := fun _ _ _ h => h
  replace hin := base_hin.mono hle
  clear hb1 fs1 ft1 c101 c111 j11 j21 hm1 hi1 hms1 his1 hmt1 hit1
  have hb1 : Fun.At _ g1 0 d p := ⟨Mem.of_get at1, hin⟩
  obtain ⟨fs1, ft1, c101, c111, j11, j21⟩ := hb1.get
  have hm1 : MemN _ _ _ _ _ := ⟨rfl, hb1.1⟩
  have hi1 := hb1.2
  have hms1 : MemN _ _ _ _ _ := ⟨rfl, fs1.1⟩
  have his1 := fs1.2
  have hmt1 : MemN _ _ _ _ _ := ⟨rfl, ft1.1⟩
  have hit1 := ft1.2
  refine .m rfl rfl rfl (.assign rfl) (.nil ?_)
  refine hK2 _ _ ?_
  refine .seq (fun K3 hK3 => ?_)
  refine .seq (fun K4 hK4 => ?_)
  refine .region (.m rfl rfl rfl (.move rfl) (.m rfl rfl rfl (.len sl_29_Hk rfl) (.m rfl rfl rfl (.cmp rfl rfl rfl) ?_)))
  refine .nil ?_
  refine hK4 _ _ ?_
  refine .cond rfl (fun h9 => ?_) (fun h9 => ?_)
  ·
   simp only [sps] at h9; omega
  try simp only [sps] at h9
  refine .skip ?_
  refine hK3 _ _ ?_
  refine .seq (fun K5 hK5 => ?_)
  refine .region (.m rfl rfl rfl (.move rfl) (.m rfl rfl rfl (.assign rfl) (.m rfl rfl rfl (.assign rfl) ?_)))
  refine .nil ?_
  refine hK5 _ _ ?_
  refine .ret ?_
  refine hret _ _ ?_
  refine ⟨_, _, rfl, rfl, ?_⟩
  rw [htk] at v6
  exact ⟨hle, g6, r6, by rw [htk], v6.keep (.of_le (.refl _)) (by omega)⟩
set_option maxHeartbeats 4000000 in
theorem l12List1_c {d : Fun} {p : FunP} {H : GHeap} (hin : d.In H p) (hs : d.Small) (hI : d.Is) (hb : ¬ (d.coneL d.t.obj.toNat).length ≤ 400) :
    GCalls Try.prog 36 [.agg (d.cells p).toArray] H (Ret (.tuple #[.slice none 0 0, .int .i64 3]) H) := by
  refine GCalls.ret rfl ?_
  have hlt : 400 < ((d.coneL d.t.obj.toNat).take 401).length := by rw [List.length_take]; omega
  refine GCalls.body (N := 11) (rs := [.tmp 2, .tmp 3]) Try.func36 rfl rfl rfl rfl (fun Qx hret hend => ?_)
  refine .forget (fr' := [(0, some _)]) ⟨rfl, trivial⟩ ?_
  have hle := GHeap.Le.refl H
  have base_hin := hin
  refine .seq (fun K1 hK1 => ?_)
  refine .region ?_
  refine .r rfl rfl rfl (.boxR rfl sz_34_E rfl) ?_
  rintro _ H1 ⟨g1, rfl, le1, ge1, at1⟩
  have nx_H1 := le1.1
  replace hle := hle.trans le1
  have lt_at1 := GHeap.lt_of_get at1
  replace hin := base_hin.mono hle
  have hb1 : Fun.At _ g1 0 d p := ⟨Mem.of_get at1, hin⟩
  obtain ⟨fs1, ft1, c101, c111, j11, j21⟩ := hb1.get
  have hm1 : MemN _ _ _ _ _ := ⟨rfl, hb1.1⟩
  have hi1 := hb1.2
  have hms1 : MemN _ _ _ _ _ := ⟨rfl, fs1.1⟩
  have his1 := fs1.2
  have hmt1 : MemN _ _ _ _ _ := ⟨rfl, ft1.1⟩
  have hit1 := ft1.2
  refine .m rfl rfl rfl (.assign rfl) (.m rfl rfl rfl (.assign rfl) (.nil ?_))
  refine hK1 _ _ ?_
  refine .seq (fun K2 hK2 => ?_)
  refine .region ?_
  refine .m rfl rfl rfl (.loadM ag_34_E rfl ⟨rfl, Mem.of_get at1⟩) ?_
  refine .call rfl rfl rfl rfl @Try.call69 rfl (l12Cones_c hin hs hI) ?_
  rintro _ H6 ⟨le6, g6, r6, rfl, v6⟩
  have nx_H6 := le6.1
  replace hle := hle.trans le6
  replace at1 := le6.2 _ _ at1
  have bs_v6 := v6
  have lv_v6 : Keep H1.next H6 H6 := fun _ _ _ h => h
  replace hin := base_hin.mono hle
  clear hb1 fs1 ft1 c101 c111 j11 j21 hm1 hi1 hms1 his1 hmt1 hit1
  have hb1 : Fun.At _ g1 0 d p := ⟨Mem.of_get at1, hin⟩
  obtain ⟨fs1, ft1, c101, c111, j11, j21⟩ := hb1.get
  have hm1 : MemN _ _ _ _ _ := ⟨rfl, hb1.1⟩
  have hi1 := hb1.2
  have hms1 : MemN _ _ _ _ _ := ⟨rfl, fs1.1⟩
  have his1 := fs1.2
  have hmt1 : MemN _ _ _ _ _ := ⟨rfl, ft1.1⟩
  have hit1 := ft1.2
  refine .m rfl rfl rfl (.assign rfl) (.nil ?_)
  refine hK2 _ _ ?_
  refine .seq (fun K3 hK3 => ?_)
  refine .seq (fun K4 hK4 => ?_)
  refine .region (.m rfl rfl rfl (.move rfl) (.m rfl rfl rfl (.len sl_29_Hk rfl) (.m rfl rfl rfl (.cmp rfl rfl rfl) ?_)))
  refine .nil ?_
  refine hK4 _ _ ?_
  refine .cond rfl (fun h9 => ?_) (fun h9 => ?_)
  ·
   try simp only [sps] at h9
   refine .seq (fun K5 hK5 => ?_)
   refine .region (.m rfl rfl rfl (.assign rfl) (.m rfl rfl rfl (.assign rfl) (.nil ?_)))
   refine hK5 _ _ ?_
   refine .ret ?_
   refine hret _ _ ?_
   refine ⟨_, _, rfl, rfl, ?_⟩
   exact ⟨rfl, hle⟩
  simp only [sps] at h9; omega
theorem allCones1b_c {g o : Nat} {d : Fun} {p : FunP} {H : GHeap} (h : Fun.At H g o d p) (hP : d.Is) (hb : ¬ (d.coneL d.t.obj.toNat).length ≤ 400) :
    GCalls Try.prog 56 [.pointer (some ⟨g, o, none⟩)] H (fun v H' => H.Le H' ∧ v = .tuple #[.slice none 0 0, .bool false]) :=
  (allCones_c h hP).mono fun v H' ⟨h1, h2⟩ => by
    rcases h2 with ⟨_, h4⟩ | ⟨h3, _⟩
    · exact ⟨h1, h4⟩
    · omega
end Go.Proofs.Ytpmjlhbglcaokaa
/- Universal cones and the arrows to them. No condition. -/
namespace Go.GL
end Go.GL
/- Lists of cones that are handed back, and marks on them. No condition. -/
namespace Go.GL
/-- A list of cones that is read only. -/
def ConsV (T : TypeId) (H : GHeap) (a : Option Addr) (r : Nat → Option Addr) (cs : List Con) : Prop := cs = [] ∨ ∃ g, a = some ⟨g, 0, none⟩ ∧ H.get g = some (.row (conV r cs) T true) ∧ ∀ i, i < cs.length → Ints H (r i) (cs.getD i .z).lg
theorem ConsV.mono {T : TypeId} {H H' : GHeap} {a : Option Addr} {r : Nat → Option Addr} {cs : List Con} (h : ConsV T H a r cs) (s : H.Le H') : ConsV T H' a r cs := h.imp id fun ⟨g, h1, h2, h3⟩ => ⟨g, h1, s.2 _ _ h2, fun i hi => (h3 i hi).mono s⟩
/-- A list of cones that is handed back: its own rows, no two alike. -/
def ConsR (T e : TypeId) (b : Nat) (H : GHeap) (a : Option Addr) (r : Nat → Option Addr) (cs : List Con) : Prop := (cs = [] ∧ a = none) ∨ ∃ g, a = some ⟨g, 0, none⟩ ∧ b ≤ g ∧ ConsAt T e b H g r cs
theorem getD_lg {cs : List Con} {i : Nat} : (cs.map Con.lg).getD i [] = (cs.getD i .z).lg := by
  rw [List.getD_eq_getElem?_getD, List.getD_eq_getElem?_getD, List.getElem?_map]
  cases cs[i]? <;> rfl
theorem OwnL.keepK {b b' : Nat} {H H' : GHeap} {e : TypeId} {r : Nat → Option Addr} {xss : List (List Int)} (h : OwnL b H e r xss) (k : Keep b' H H') (hb : b' ≤ b) : OwnL b' H' e r xss := ⟨fun i hi => by
  obtain ⟨g, h1, h2, h3⟩ := h.row i hi
  exact ⟨g, h1, by omega, k g _ (by omega) h3⟩, h.inj⟩
theorem ConsR.keep {T e : TypeId} {b b' : Nat} {H H' : GHeap} {a : Option Addr} {r : Nat → Option Addr} {cs : List Con} (h : ConsR T e b H a r cs) (k : Keep b' H H') (hb : b' ≤ b) : ConsR T e b' H' a r cs := h.imp id fun ⟨g, h1, h2, h3⟩ => ⟨g, h1, by omega, ⟨k g _ (by omega) h3.hd, h3.rows.keepK k hb⟩⟩
theorem ConsAt.view {T e : TypeId} {b g : Nat} {H : GHeap} {r : Nat → Option Addr} {cs : List Con} (h : ConsAt T e b H g r cs) : ConsV T H (some ⟨g, 0, none⟩) r cs := .inr ⟨g, rfl, h.hd, fun i hi => by
  obtain ⟨x, h1, _, h3⟩ := h.rows.row i (by rw [List.length_map]; exact hi)
  rw [getD_lg] at h3
  rw [h1]; exact Ints.of_get h3⟩
theorem ConsR.view {T e : TypeId} {b : Nat} {H : GHeap} {a : Option Addr} {r : Nat → Option Addr} {cs : List Con} (h : ConsR T e b H a r cs) : ConsV T H a r cs := by
  rcases h with ⟨h, _⟩ | ⟨g, rfl, _, h⟩
  · exact .inl h
  · exact h.view
theorem ConsIn.view {T : TypeId} {b g : Nat} {H : GHeap} {r : Nat → Option Addr} {cs : List Con} (h : ConsIn T b H g r cs) : ConsV T H (some ⟨g, 0, none⟩) r cs := .inr ⟨g, rfl, h.2.1, fun i hi => (h.2.2 i hi).ints⟩
/-- A list of cones that is handed back, to be read only. -/
def ConsS (T : TypeId) (b : Nat) (H : GHeap) (a : Option Addr) (r : Nat → Option Addr) (cs : List Con) : Prop := (cs = [] ∧ a = none) ∨ ∃ g, a = some ⟨g, 0, none⟩ ∧ ConsIn T b H g r cs
theorem ConsS.keep {T : TypeId} {b b' : Nat} {H H' : GHeap} {a : Option Addr} {r : Nat → Option Addr} {cs : List Con} (h : ConsS T b H a r cs) (k : Keep b' H H') (hb : b' ≤ b) : ConsS T b' H' a r cs := h.imp id fun ⟨g, h1, h2⟩ => ⟨g, h1, h2.keep k hb⟩
theorem ConsS.view {T : TypeId} {b : Nat} {H : GHeap} {a : Option Addr} {r : Nat → Option Addr} {cs : List Con} (h : ConsS T b H a r cs) : ConsV T H a r cs := by
  rcases h with ⟨h, _⟩ | ⟨g, rfl, h⟩
  · exact .inl h
  · exact h.view
/-- Only blocks among lo .. hi - 1 have turned. -/
structure StK (lo hi : Nat) (H H' : GHeap) : Prop where
  nx : H.next ≤ H'.next
  same : ∀ k o, ¬ (lo ≤ k ∧ k < hi) → H.get k = some o → H'.get k = some o
theorem StK.refl (lo hi : Nat) (H : GHeap) : StK lo hi H H := ⟨Nat.le_refl _, fun _ _ _ h => h⟩
theorem StK.st {lo hi g : Nat} {A B C : GHeap} (h : StK lo hi A B) (s : St [g] B C) (h1 : lo ≤ g) (h2 : g < hi) : StK lo hi A C := ⟨Nat.le_trans h.nx s.nx, fun k o hk ho => s.same k o ⟨fun e => hk (by subst e; exact ⟨h1, h2⟩), trivial⟩ (h.same k o hk ho)⟩
theorem StK.le_left {lo hi : Nat} {A B C : GHeap} (h : A.Le B) (k : StK lo hi B C) (hA : A.next ≤ lo) : A.Le C :=
  ⟨Nat.le_trans h.1 k.nx, fun g o ho => k.same g o (by have := GHeap.lt_of_get ho; omega) (h.2 g o ho)⟩
theorem Keep.stK {b lo hi : Nat} {H0 H H' : GHeap} (k : Keep b H0 H) (h : StK lo hi H H') (hg : ∀ k, b ≤ k → k < H0.next → ¬ (lo ≤ k ∧ k < hi)) : Keep b H0 H' := fun g o hb h1 => h.same g o (hg g hb (GHeap.lt_of_get h1)) (k g o hb h1)
/-- All of a list of cones lies below hi. -/
def ConsW (T e : TypeId) (lo hi : Nat) (H : GHeap) (a : Option Addr) (r : Nat → Option Addr) (cs : List Con) : Prop := (cs = [] ∧ a = none) ∨ ∃ g, a = some ⟨g, 0, none⟩ ∧ lo ≤ g ∧ g < hi ∧ ConsAt T e lo H g r cs ∧ ∀ i, i < cs.length → ∀ x, r i = some ⟨x, 0, none⟩ → x < hi
theorem ConsW.of_r {T e : TypeId} {b : Nat} {H0 H : GHeap} {a : Option Addr} {r : Nat → Option Addr} {cs : List Con} (h : ConsR T e b H0 a r cs) (k : Keep b H0 H) : ConsW T e b H0.next H a r cs := h.imp id fun ⟨g, h1, h2, h3⟩ => ⟨g, h1, h2, GHeap.lt_of_get h3.hd, ⟨k g _ h2 h3.hd, h3.rows.keepK k (Nat.le_refl _)⟩, h3.rows.side⟩
theorem conV_set {r : Nat → Option Addr} {cs : List Con} {i : Nat} {v : Int} (hi : i < cs.length) : (conV r cs).set (0 + (i : Int).toNat * 2 + 0) (.int .i64 v) = conV r (cs.set i ⟨v, (cs.getD i .z).lg⟩) := by
  apply List.ext_getElem?
  intro n
  rw [Int.toNat_natCast, Nat.zero_add, Nat.add_zero]
  by_cases hn : n < cs.length * 2
  · have h1 : n / 2 < cs.length := by omega
    have h2 : n % 2 < 2 := by omega
    have e : n / 2 * 2 + n % 2 = n := by omega
    have f1 := flat2_get (f := fun j => (cs.getD j .z).cells ⟨r j⟩) (fun _ => rfl) h1 h2
    have f2 := flat2_get (n := cs.length) (f := fun j => ((cs.set i ⟨v, (cs.getD i .z).lg⟩).getD j .z).cells ⟨r j⟩) (fun _ => rfl) h1 h2
    rw [e] at f1 f2
    unfold conV
    rw [List.length_set, f2, List.getElem?_set, f1]
    have gd : (cs.set i ⟨v, (cs.getD i .z).lg⟩).getD (n / 2) .z = if i = n / 2 then ⟨v, (cs.getD i .z).lg⟩ else cs.getD (n / 2) .z := by
      rw [List.getD_eq_getElem?_getD, List.getElem?_set]
      split
      · first | rfl | (rw [if_pos (by omega)]; rfl)
      · rw [List.getD_eq_getElem?_getD]
    rw [gd]
    by_cases c1 : i = n / 2
    · rw [if_pos c1]
      by_cases c2 : i * 2 = n
      · rw [if_pos c2, if_pos (by show _ < ((List.range cs.length).flatMap _).length; have := length_conV r cs; unfold conV at this; omega), show n % 2 = 0 by omega]; rfl
      · rw [if_neg c2, show n % 2 = 1 by omega, ← c1]; rfl
    · rw [if_neg c1, if_neg (by omega)]
  · rw [List.getElem?_eq_none (by rw [List.length_set, length_conV]; omega), List.getElem?_eq_none (by rw [length_conV, List.length_set]; omega)]
theorem OwnL.set1 {b gi i : Nat} {H H' : GHeap} {e : TypeId} {r : Nat → Option Addr} {xss : List (List Int)} {ys : List Int} (h : OwnL b H e r xss) (s : St [gi] H H') (hi : i < xss.length) (hr : r i = some ⟨gi, 0, none⟩) (hg : H'.get gi = some (.row (ints ys) e true)) : OwnL b H' e r (xss.set i ys) := by
  unfold OwnL
  rw [List.length_set]
  refine ⟨fun j hj => ?_, h.inj⟩
  obtain ⟨x, h1, h2, h3⟩ := h.row j hj
  rw [List.getD_eq_getElem?_getD, List.getElem?_set]
  by_cases ej : i = j
  · subst ej
    rw [hr] at h1; cases h1
    exact ⟨gi, hr, h2, by rw [if_pos rfl, if_pos hi]; exact hg⟩
  · refine ⟨x, h1, h2, ?_⟩
    rw [if_neg ej, ← List.getD_eq_getElem?_getD]
    exact s.same x _ ⟨fun ex => by
      subst ex
      exact ej (h.inj i j hi hj (by rw [hr, h1])), trivial⟩ h3
def conTot (cs : List Con) (j : Nat) : Nat := j + sumL ((cs.map Con.lg).take j)
theorem conTot_succ {cs : List Con} {j : Nat} (h : j < cs.length) : conTot cs (j + 1) = conTot cs j + 1 + (cs.getD j .z).lg.length := by
  unfold conTot
  rw [sumL_take_succ (by rw [List.length_map]; exact h), getD_lg]
  omega
theorem conTot_le {cs : List Con} {j : Nat} (h : j ≤ cs.length) : conTot cs j ≤ conTot cs cs.length := by
  have := sumL_take_le (xss := cs.map Con.lg) (k := j)
  unfold conTot
  rw [List.take_of_length_le (i := cs.length) (by rw [List.length_map]; omega)]
  omega
def markC (cs : List Con) (k : Int) : List Con := (List.range cs.length).map fun j => (⟨k + conTot cs j, seqL (k + conTot cs j + 1) (cs.getD j .z).lg.length⟩ : Con)
@[simp] theorem length_markC (cs : List Con) (k : Int) : (markC cs k).length = cs.length := by simp [markC]
theorem markC_get {cs : List Con} {k : Int} {j : Nat} (h : j < cs.length) : (markC cs k).getD j .z = ⟨k + conTot cs j, seqL (k + conTot cs j + 1) (cs.getD j .z).lg.length⟩ := by simp [markC, List.getD_eq_getElem?_getD, h]
theorem getD_setC {cs : List Con} {i j : Nat} {c : Con} (hi : i < cs.length) : (cs.set i c).getD j .z = if i = j then c else cs.getD j .z := by
  rw [List.getD_eq_getElem?_getD, List.getElem?_set]
  split
  · first | rfl | (rename_i e2; rw [if_pos (by omega)]; rfl)
  · rw [List.getD_eq_getElem?_getD]
theorem conV_len {r : Nat → Option Addr} {cs cs' : List Con} (hl : cs.length = cs'.length) (h : ∀ i, i < cs.length → (cs.getD i .z).ap = (cs'.getD i .z).ap ∧ (cs.getD i .z).lg.length = (cs'.getD i .z).lg.length) : conV r cs = conV r cs' := by
  unfold conV
  rw [← hl]
  refine flatMap_congr' fun i hi => ?_
  obtain ⟨h1, h2⟩ := h i (List.mem_range.1 hi)
  unfold Con.cells
  rw [h1, h2]
theorem conV_setlen {r : Nat → Option Addr} {cs : List Con} {i : Nat} {v : Int} {l l' : List Int} (hi : i < cs.length) (h : l.length = l'.length) : conV r (cs.set i ⟨v, l⟩) = conV r (cs.set i ⟨v, l'⟩) := by
  refine conV_len (by simp) fun j _ => ?_
  rw [getD_setC hi, getD_setC hi]
  split
  · exact ⟨rfl, h⟩
  · exact ⟨rfl, rfl⟩
theorem map_setC {cs : List Con} {i : Nat} {c : Con} : (cs.set i c).map Con.lg = (cs.map Con.lg).set i c.lg := List.map_set
theorem eq_of_getDC {xs ys : List Con} (hl : xs.length = ys.length) (h : ∀ i, i < xs.length → xs.getD i .z = ys.getD i .z) : xs = ys := by
  apply List.ext_getElem hl
  intro i h1 h2
  have := h i h1
  simpa [List.getD_eq_getElem?_getD, h1, h2] using this
theorem Fun.Cone.small {d : Fun} {c : Con} (h : d.Is) (hc : d.Cone c) : c.Small ∧ c.lg.length ≤ 8 := by
  have b1 := h.2.1.1.obj
  have b2 := h.1.1.obj
  have b3 := h.2.2.ol
  have b4 := hc.ll
  have b5 := hc.ap
  exact ⟨⟨⟨by omega, by omega⟩, by omega⟩, by omega⟩
/-- Cones that are cones of d, at most 400. -/
structure ConsOk (cs : List Con) : Prop where
  len : cs.length ≤ 400
  sm : ∀ i, i < cs.length → (cs.getD i .z).Small
  tot : conTot cs cs.length ≤ 3600
theorem ConsOk.of {cs : List Con} (h : cs.length ≤ 400) (hs : ∀ c ∈ cs, c.Small ∧ c.lg.length ≤ 8) : ConsOk cs := by
  refine ⟨h, fun i hi => (hs _ (getD_mem_list hi)).1, ?_⟩
  have := sumL_le (m := 8) (xss := cs.map Con.lg) (fun i => by
    rw [getD_lg]
    by_cases hi : i < cs.length
    · exact (hs _ (getD_mem_list hi)).2
    · rw [List.getD_eq_getElem?_getD, List.getElem?_eq_none (by omega)]; simp [Con.z])
  rw [List.length_map] at this
  unfold conTot
  rw [List.take_of_length_le (by rw [List.length_map]; omega)]
  omega
theorem ConsOk.nil : ConsOk [] := .of (by simp) (fun c hc => by simp at hc)
theorem Fun.coneL_ok {d : Fun} (h : d.Is) (hb : (d.coneL d.t.obj.toNat).length ≤ 400) : ConsOk (d.coneL d.t.obj.toNat) := .of hb fun c hc => (Fun.coneL_cone h (by have := h.2.1.1.obj; omega) c hc).small h
noncomputable def Fun.acR (d : Fun) : List Con := bif B (d.Is ∧ (d.coneL d.t.obj.toNat).length ≤ 400) then d.coneL d.t.obj.toNat else []
noncomputable def Fun.acC (d : Fun) : Int := bif B d.Is then (bif decide ((d.coneL d.t.obj.toNat).length ≤ 400) then 0 else 3) else 1
theorem Fun.ac_1 {d : Fun} (h : ¬ d.Is) : d.acR = [] ∧ d.acC = 1 := by unfold acR acC; rw [B_false h, B_false fun hh => h hh.1]; exact ⟨rfl, rfl⟩
theorem Fun.ac_2 {d : Fun} (h : d.Is) (hb : ¬ (d.coneL d.t.obj.toNat).length ≤ 400) : d.acR = [] ∧ d.acC = 3 := by unfold acR acC; rw [B_true h, decide_eq_false hb, B_false fun hh => hb hh.2]; exact ⟨rfl, rfl⟩
theorem Fun.ac_3 {d : Fun} (h : d.Is) (hb : (d.coneL d.t.obj.toNat).length ≤ 400) : d.acR = d.coneL d.t.obj.toNat ∧ d.acC = 0 := by unfold acR acC; rw [B_true h, decide_eq_true hb, B_true ⟨h, hb⟩]; exact ⟨rfl, rfl⟩
theorem Fun.acR_ok (d : Fun) : ConsOk d.acR := by
  by_cases h : d.Is
  · by_cases hb : (d.coneL d.t.obj.toNat).length ≤ 400
    · rw [(Fun.ac_3 h hb).1]; exact Fun.coneL_ok h hb
    · rw [(Fun.ac_2 h hb).1]; exact .nil
  · rw [(Fun.ac_1 h).1]; exact .nil
end Go.GL
/- All cones. No condition but those of each statement. -/
namespace Go.Proofs.Ytpmjlhbglcaokaa
open Go Go.GL Go.RowKit Go.Proofs
set_option maxHeartbeats 4000000 in
theorem specAllCones_c {d : Fun} {p : FunP} {H : GHeap} (hin : d.In H p := by assumption) (hs : d.Small := by assumption) :
    GCalls Try.prog 9 [.agg (d.cells p).toArray] H (fun v H' => H.Le H' ∧ ∃ a r, v = .tuple #[.slice a d.acR.length d.acR.length, .int .i64 d.acC] ∧ ConsS 42 H.next H' a r d.acR) := by
  by_cases hb : (d.coneL d.t.obj.toNat).length ≤ 400
  refine GCalls.body (N := 11) (rs := [.tmp 2, .tmp 3]) Try.func9 rfl rfl rfl rfl (fun Qx hret hend => ?_)
  refine .forget (fr' := [(0, some _)]) ⟨rfl, trivial⟩ ?_
  have hle := GHeap.Le.refl H
  have base_hin := hin
  refine .seq (fun K1 hK1 => ?_)
  refine .region ?_
  refine .r rfl rfl rfl (.boxR rfl sz_34_E rfl) ?_
  rintro _ H1 ⟨g1, rfl, le1, ge1, at1⟩
  have nx_H1 := le1.1
  replace hle := hle.trans le1
  have lt_at1 := GHeap.lt_of_get at1
  replace hin := base_hin.mono hle
  have hb1 : Fun.At _ g1 0 d p := ⟨Mem.of_get at1, hin⟩
  obtain ⟨fs1, ft1, c101, c111, j11, j21⟩ := hb1.get
  have hm1 : MemN _ _ _ _ _ := ⟨rfl, hb1.1⟩
  have hi1 := hb1.2
  have hms1 : MemN _ _ _ _ _ := ⟨rfl, fs1.1⟩
  have his1 := fs1.2
  have hmt1 : MemN _ _ _ _ _ := ⟨rfl, ft1.1⟩
  have hit1 := ft1.2
  refine .m rfl rfl rfl (.assign rfl) (.m rfl rfl rfl (.assign rfl) (.nil ?_))
  refine hK1 _ _ ?_
  refine .seq (fun K2 hK2 => ?_)
  refine .seq (fun K3 hK3 => ?_)
  refine .region ?_
  refine .m rfl rfl rfl (.loadM ag_34_E rfl ⟨rfl, Mem.of_get at1⟩) ?_
  refine .callQ rfl rfl rfl rfl @Try.call35 rfl (l06Is_c) ?_
  refine .m rfl rfl rfl (.not rfl) (.nil ?_)
  refine hK3 _ _ ?_
  refine .cond rfl (fun h6 => ?_) (fun h6 => ?_)
  ·
   simp only [sps] at h6
   refine .seq (fun K4 hK4 => ?_)
   refine .region (.m rfl rfl rfl (.assign rfl) (.m rfl rfl rfl (.assign rfl) (.nil ?_)))
   refine hK4 _ _ ?_
   refine .ret ?_
   refine hret _ _ ?_
   refine ⟨_, _, rfl, rfl, ?_⟩
   obtain ⟨e1, e2⟩ := Fun.ac_1 h6
   rw [e1, e2]
   exact ⟨hle, none, fun _ => none, rfl, .inl ⟨rfl, rfl⟩⟩
  ·
   simp only [sps] at h6
   refine .skip ?_
   refine hK2 _ _ ?_
   refine .seq (fun K5 hK5 => ?_)
   refine .region ?_
   refine .m rfl rfl rfl (.loadM ag_34_E rfl ⟨rfl, Mem.of_get at1⟩) ?_
   refine .call rfl rfl rfl rfl @Try.call36 rfl (l12List0_c hin hs (by assumption) hb) ?_
   rintro _ H8 ⟨le8, g8, r8, rfl, v8⟩
   have nx_H8 := le8.1
   replace hle := hle.trans le8
   replace at1 := le8.2 _ _ at1
   have bs_v8 := v8
   have lv_v8 : Keep H1.next H8 H8 := fun _ _ _ h => h
   replace hin := base_hin.mono hle
   clear hb1 fs1 ft1 c101 c111 j11 j21 hm1 hi1 hms1 his1 hmt1 hit1
   have hb1 : Fun.At _ g1 0 d p := ⟨Mem.of_get at1, hin⟩
   obtain ⟨fs1, ft1, c101, c111, j11, j21⟩ := hb1.get
   have hm1 : MemN _ _ _ _ _ := ⟨rfl, hb1.1⟩
   have hi1 := hb1.2
   have hms1 : MemN _ _ _ _ _ := ⟨rfl, fs1.1⟩
   have his1 := fs1.2
   have hmt1 : MemN _ _ _ _ _ := ⟨rfl, ft1.1⟩
   have hit1 := ft1.2
   refine .m rfl rfl rfl (.extract rfl rfl) (.m rfl rfl rfl (.extract rfl rfl) (.m rfl rfl rfl (.assign rfl) (.m rfl rfl rfl (.assign rfl) ?_)))
   refine .nil ?_
   refine hK5 _ _ ?_
   refine .ret ?_
   refine hret _ _ ?_
   refine ⟨_, _, rfl, rfl, ?_⟩
   obtain ⟨e1, e2⟩ := Fun.ac_3 h6 hb
   rw [e1, e2]
   exact ⟨hle, _, r8, rfl, .inr ⟨g8, rfl, v8.keep (.of_le (.refl _)) (by omega)⟩⟩
  refine GCalls.body (N := 11) (rs := [.tmp 2, .tmp 3]) Try.func9 rfl rfl rfl rfl (fun Qx hret hend => ?_)
  refine .forget (fr' := [(0, some _)]) ⟨rfl, trivial⟩ ?_
  have hle := GHeap.Le.refl H
  have base_hin := hin
  refine .seq (fun K1 hK1 => ?_)
  refine .region ?_
  refine .r rfl rfl rfl (.boxR rfl sz_34_E rfl) ?_
  rintro _ H1 ⟨g1, rfl, le1, ge1, at1⟩
  have nx_H1 := le1.1
  replace hle := hle.trans le1
  have lt_at1 := GHeap.lt_of_get at1
  replace hin := base_hin.mono hle
  have hb1 : Fun.At _ g1 0 d p := ⟨Mem.of_get at1, hin⟩
  obtain ⟨fs1, ft1, c101, c111, j11, j21⟩ := hb1.get
  have hm1 : MemN _ _ _ _ _ := ⟨rfl, hb1.1⟩
  have hi1 := hb1.2
  have hms1 : MemN _ _ _ _ _ := ⟨rfl, fs1.1⟩
  have his1 := fs1.2
  have hmt1 : MemN _ _ _ _ _ := ⟨rfl, ft1.1⟩
  have hit1 := ft1.2
  refine .m rfl rfl rfl (.assign rfl) (.m rfl rfl rfl (.assign rfl) (.nil ?_))
  refine hK1 _ _ ?_
  refine .seq (fun K2 hK2 => ?_)
  refine .seq (fun K3 hK3 => ?_)
  refine .region ?_
  refine .m rfl rfl rfl (.loadM ag_34_E rfl ⟨rfl, Mem.of_get at1⟩) ?_
  refine .callQ rfl rfl rfl rfl @Try.call35 rfl (l06Is_c) ?_
  refine .m rfl rfl rfl (.not rfl) (.nil ?_)
  refine hK3 _ _ ?_
  refine .cond rfl (fun h6 => ?_) (fun h6 => ?_)
  ·
   simp only [sps] at h6
   refine .seq (fun K4 hK4 => ?_)
   refine .region (.m rfl rfl rfl (.assign rfl) (.m rfl rfl rfl (.assign rfl) (.nil ?_)))
   refine hK4 _ _ ?_
   refine .ret ?_
   refine hret _ _ ?_
   refine ⟨_, _, rfl, rfl, ?_⟩
   obtain ⟨e1, e2⟩ := Fun.ac_1 h6
   rw [e1, e2]
   exact ⟨hle, none, fun _ => none, rfl, .inl ⟨rfl, rfl⟩⟩
  simp only [sps] at h6
  refine .skip ?_
  refine hK2 _ _ ?_
  refine .seq (fun K5 hK5 => ?_)
  refine .region ?_
  refine .m rfl rfl rfl (.loadM ag_34_E rfl ⟨rfl, Mem.of_get at1⟩) ?_
  refine .callQ rfl rfl rfl rfl @Try.call36 rfl (l12List1_c hin hs (by assumption) hb) ?_
  refine .m rfl rfl rfl (.extract rfl rfl) (.m rfl rfl rfl (.extract rfl rfl) (.m rfl rfl rfl (.assign rfl) (.m rfl rfl rfl (.assign rfl) ?_)))
  refine .nil ?_
  refine hK5 _ _ ?_
  refine .ret ?_
  refine hret _ _ ?_
  refine ⟨_, _, rfl, rfl, ?_⟩
  obtain ⟨e1, e2⟩ := Fun.ac_2 h6 hb
  rw [e1, e2]
  exact ⟨hle, none, fun _ => none, rfl, .inl ⟨rfl, rfl⟩⟩
theorem allConesR_c {g o : Nat} {d : Fun} {p : FunP} {H : GHeap} (h : Fun.At H g o d p) (hP : d.Is) (hb : (d.coneL d.t.obj.toNat).length ≤ 400) :
    GCalls Try.prog 56 [.pointer (some ⟨g, o, none⟩)] H (fun v H' => H.Le H' ∧ ∃ gL r, v = .tuple #[.slice (some ⟨gL, 0, none⟩) (d.coneL d.t.obj.toNat).length (d.coneL d.t.obj.toNat).length, .bool true] ∧ ConsR 42 2 H.next H' (some ⟨gL, 0, none⟩) r (d.coneL d.t.obj.toNat)) :=
  (allCones_c h hP).mono fun v H' ⟨h1, h2⟩ => by
    rcases h2 with ⟨h3, _⟩ | ⟨_, gL, r, h4, h5, h6⟩
    · omega
    · exact ⟨h1, gL, r, h4, .inr ⟨gL, rfl, h5, h6⟩⟩
set_option maxHeartbeats 4000000 in
theorem every_c {g o : Nat} {d : Fun} {p : FunP} {H : GHeap} (h : Fun.At H g o d p) (hI : d.Is) :
    GCalls Try.prog 40 [.iface 95 (.agg #[.pointer (some ⟨g, o, none⟩)])] H (fun v H' => H.Le H' ∧ ∃ a r, v = .tuple #[.slice a d.acR.length d.acR.length, .int .i64 d.acC] ∧ ConsR 42 2 H.next H' a r d.acR) := by
  by_cases hb : (d.coneL d.t.obj.toNat).length ≤ 400
  refine GCalls.body (N := 15) (rs := [.tmp 2, .tmp 3]) Try.func40 rfl rfl rfl rfl (fun Qx hret hend => ?_)
  refine .forget (fr' := [(0, some _)]) ⟨rfl, trivial⟩ ?_
  have hle := GHeap.Le.refl H
  have base_h := h
  refine .seq (fun K1 hK1 => ?_)
  refine .region (.m rfl rfl rfl (.assign rfl) (.m rfl rfl rfl (.assign rfl) (.nil ?_)))
  refine hK1 _ _ ?_
  refine .seq (fun K2 hK2 => ?_)
  refine .region (.m rfl rfl rfl (.move rfl) ?_)
  refine .callM rfl rfl rfl rfl rfl (by kernel_rfl) @Try.call132 rfl (diagram_c) ?_
  rintro _ H8 ⟨rfl, le8⟩
  have nx_H8 := le8.1
  replace hle := hle.trans le8
  replace h := base_h.mono hle
  refine .call rfl rfl rfl rfl @Try.call56 rfl (allConesR_c h hI hb) ?_
  rintro _ H9 ⟨le9, g9, r9, rfl, v9⟩
  have nx_H9 := le9.1
  replace hle := hle.trans le9
  have bs_v9 := v9
  have lv_v9 : Keep H8.next H9 H9 := fun _ _ _ h => h
  replace h := base_h.mono hle
  refine .m rfl rfl rfl (.move rfl) (.m rfl rfl rfl (.extract rfl rfl) (.m rfl rfl rfl (.extract rfl rfl) (.m rfl rfl rfl (.assign rfl) ?_)))
  refine .m rfl rfl rfl (.assign rfl) (.nil ?_)
  refine hK2 _ _ ?_
  refine .seq (fun K3 hK3 => ?_)
  refine .seq (fun K4 hK4 => ?_)
  refine .region (.m rfl rfl rfl (.move rfl) (.m rfl rfl rfl (.not rfl) (.nil ?_)))
  refine hK4 _ _ ?_
  refine .cond rfl (fun h13 => ?_) (fun h13 => ?_)
  ·
   simp at h13
  ·
   try simp only [sps] at h13
   refine .skip ?_
   refine hK3 _ _ ?_
   refine .seq (fun K5 hK5 => ?_)
   refine .region (.m rfl rfl rfl (.move rfl) (.m rfl rfl rfl (.assign rfl) (.m rfl rfl rfl (.assign rfl) ?_)))
   refine .nil ?_
   refine hK5 _ _ ?_
   refine .ret ?_
   refine hret _ _ ?_
   refine ⟨_, _, rfl, rfl, ?_⟩
   obtain ⟨e1, e2⟩ := Fun.ac_3 hI hb
   rw [e1, e2]
   exact ⟨hle, _, r9, rfl, v9.keep (.of_le (.refl _)) (by omega)⟩
  refine GCalls.body (N := 15) (rs := [.tmp 2, .tmp 3]) Try.func40 rfl rfl rfl rfl (fun Qx hret hend => ?_)
  refine .forget (fr' := [(0, some _)]) ⟨rfl, trivial⟩ ?_
  have hle := GHeap.Le.refl H
  have base_h := h
  refine .seq (fun K1 hK1 => ?_)
  refine .region (.m rfl rfl rfl (.assign rfl) (.m rfl rfl rfl (.assign rfl) (.nil ?_)))
  refine hK1 _ _ ?_
  refine .seq (fun K2 hK2 => ?_)
  refine .region (.m rfl rfl rfl (.move rfl) ?_)
  refine .callM rfl rfl rfl rfl rfl (by kernel_rfl) @Try.call132 rfl (diagram_c) ?_
  rintro _ H8 ⟨rfl, le8⟩
  have nx_H8 := le8.1
  replace hle := hle.trans le8
  replace h := base_h.mono hle
  refine .call rfl rfl rfl rfl @Try.call56 rfl (allCones1b_c h hI hb) ?_
  rintro _ H9 ⟨le9, rfl⟩
  have nx_H9 := le9.1
  replace hle := hle.trans le9
  replace h := base_h.mono hle
  refine .m rfl rfl rfl (.move rfl) (.m rfl rfl rfl (.extract rfl rfl) (.m rfl rfl rfl (.extract rfl rfl) (.m rfl rfl rfl (.assign rfl) ?_)))
  refine .m rfl rfl rfl (.assign rfl) (.nil ?_)
  refine hK2 _ _ ?_
  refine .seq (fun K3 hK3 => ?_)
  refine .seq (fun K4 hK4 => ?_)
  refine .region (.m rfl rfl rfl (.move rfl) (.m rfl rfl rfl (.not rfl) (.nil ?_)))
  refine hK4 _ _ ?_
  refine .cond rfl (fun h13 => ?_) (fun h13 => ?_)
  ·
   try simp only [sps] at h13
   refine .seq (fun K5 hK5 => ?_)
   refine .region (.m rfl rfl rfl (.assign rfl) (.m rfl rfl rfl (.assign rfl) (.nil ?_)))
   refine hK5 _ _ ?_
   refine .ret ?_
   refine hret _ _ ?_
   refine ⟨_, _, rfl, rfl, ?_⟩
   obtain ⟨e1, e2⟩ := Fun.ac_2 hI hb
   rw [e1, e2]
   exact ⟨hle, none, fun _ => none, rfl, .inl ⟨rfl, rfl⟩⟩
  simp at h13
set_option maxHeartbeats 4000000 in
theorem implAllCones_c {d : Fun} {p : FunP} {H : GHeap} (hin : d.In H p := by assumption) (hs : d.Small := by assumption) :
    GCalls Try.prog 11 [.agg (d.cells p).toArray] H (fun v H' => H.Le H' ∧ ∃ a r, v = .tuple #[.slice a d.acR.length d.acR.length, .int .i64 d.acC] ∧ ConsR 42 2 H.next H' a r d.acR) := by
  refine GCalls.body (N := 10) (rs := [.tmp 2, .tmp 3]) Try.func11 rfl rfl rfl rfl (fun Qx hret hend => ?_)
  refine .forget (fr' := [(0, some _)]) ⟨rfl, trivial⟩ ?_
  have hle := GHeap.Le.refl H
  have base_hin := hin
  refine .seq (fun K1 hK1 => ?_)
  refine .region ?_
  refine .r rfl rfl rfl (.boxR rfl sz_34_E rfl) ?_
  rintro _ H1 ⟨g1, rfl, le1, ge1, at1⟩
  have nx_H1 := le1.1
  replace hle := hle.trans le1
  have lt_at1 := GHeap.lt_of_get at1
  replace hin := base_hin.mono hle
  have hb1 : Fun.At _ g1 0 d p := ⟨Mem.of_get at1, hin⟩
  obtain ⟨fs1, ft1, c101, c111, j11, j21⟩ := hb1.get
  have hm1 : MemN _ _ _ _ _ := ⟨rfl, hb1.1⟩
  have hi1 := hb1.2
  have hms1 : MemN _ _ _ _ _ := ⟨rfl, fs1.1⟩
  have his1 := fs1.2
  have hmt1 : MemN _ _ _ _ _ := ⟨rfl, ft1.1⟩
  have hit1 := ft1.2
  refine .m rfl rfl rfl (.assign rfl) (.m rfl rfl rfl (.assign rfl) (.nil ?_))
  refine hK1 _ _ ?_
  refine .seq (fun K2 hK2 => ?_)
  refine .seq (fun K3 hK3 => ?_)
  refine .region ?_
  refine .callQ rfl rfl rfl rfl @Try.call39 rfl (isFunctor_c) ?_
  refine .m rfl rfl rfl (.not rfl) (.nil ?_)
  refine hK3 _ _ ?_
  refine .cond rfl (fun h5 => ?_) (fun h5 => ?_)
  ·
   simp only [sps] at h5
   refine .seq (fun K4 hK4 => ?_)
   refine .region (.m rfl rfl rfl (.assign rfl) (.m rfl rfl rfl (.assign rfl) (.nil ?_)))
   refine hK4 _ _ ?_
   refine .ret ?_
   refine hret _ _ ?_
   refine ⟨_, _, rfl, rfl, ?_⟩
   obtain ⟨e1, e2⟩ := Fun.ac_1 h5
   rw [e1, e2]
   exact ⟨hle, none, fun _ => none, rfl, .inl ⟨rfl, rfl⟩⟩
  simp only [sps] at h5
  refine .skip ?_
  refine hK2 _ _ ?_
  refine .seq (fun K5 hK5 => ?_)
  refine .region ?_
  refine .callQ rfl rfl rfl rfl @Try.call41 rfl (conesOf_c) ?_
  refine .call rfl rfl rfl rfl @Try.call40 rfl (every_c hb1 (by assumption)) ?_
  rintro _ H7 ⟨le7, a7, r7, rfl, v7⟩
  have nx_H7 := le7.1
  replace hle := hle.trans le7
  replace at1 := le7.2 _ _ at1
  have bs_v7 := v7
  have lv_v7 : Keep H1.next H7 H7 := fun _ _ _ h => h
  replace hin := base_hin.mono hle
  clear hb1 fs1 ft1 c101 c111 j11 j21 hm1 hi1 hms1 his1 hmt1 hit1
  have hb1 : Fun.At _ g1 0 d p := ⟨Mem.of_get at1, hin⟩
  obtain ⟨fs1, ft1, c101, c111, j11, j21⟩ := hb1.get
  have hm1 : MemN _ _ _ _ _ := ⟨rfl, hb1.1⟩
  have hi1 := hb1.2
  have hms1 : MemN _ _ _ _ _ := ⟨rfl, fs1.1⟩
  have his1 := fs1.2
  have hmt1 : MemN _ _ _ _ _ := ⟨rfl, ft1.1⟩
  have hit1 := ft1.2
  refine .m rfl rfl rfl (.extract rfl rfl) (.m rfl rfl rfl (.extract rfl rfl) (.m rfl rfl rfl (.assign rfl) (.m rfl rfl rfl (.assign rfl) ?_)))
  refine .nil ?_
  refine hK5 _ _ ?_
  refine .ret ?_
  refine hret _ _ ?_
  refine ⟨_, _, rfl, rfl, ?_⟩
  exact ⟨hle, a7, r7, rfl, v7.keep (.of_le (.refl _)) (by omega)⟩
end Go.Proofs.Ytpmjlhbglcaokaa
/- Lists of cones compared, written over and found again. No condition but those of each statement. -/
namespace Go.Proofs.Ytpmjlhbglcaokaa
open Go Go.GL Go.RowKit Go.Proofs
theorem sl_29_Ho : sliceT Try.prog 29 = some (42, 2) := by kernel_rfl
theorem ag_42_Ho : aggT Try.prog 42 = some 2 := by kernel_rfl
theorem heldIntsV_c {a : Option Addr} {n : Nat} {k q : Int} {H : GHeap} (hi : Ints H a (seqL k n)) (hk : 0 ≤ k) (hk' : k + n ≤ 9223372036854775000) (hq : q = k := by omega) :
    GCalls Try.prog 44 [.slice a n n, .int .i64 q] H (Ret (.int .i64 (k + n)) H) := by
  subst hq
  have hl : (seqL q n).length = n := length_seqL q n
  have hsl : SlA H a n (fun i => .int .i64 ((seqL q n).getD i 0)) := by have hi' := hi; unfold Ints at hi'; rw [hl] at hi'; exact hi'
  refine GCalls.body (N := 21) (rs := [.tmp 4]) Try.func44 rfl rfl rfl rfl (fun Qx hret hend => ?_)
  refine .forget (fr' := [(0, some _), (1, some _)]) ⟨rfl, rfl, trivial⟩ ?_
  refine .seq (fun K1 hK1 => ?_)
  refine .region (.m rfl rfl rfl (.assign rfl) (.nil ?_))
  refine hK1 _ _ ?_
  refine .seq (fun K2 hK2 => ?_)
  refine .seq (fun K3 hK3 => ?_)
  refine .region (.m rfl rfl rfl (.assign rfl) (.nil ?_))
  refine hK3 _ _ ?_
  refine .block ?_
  refine .loopR (σ := Nat × Int) [(0, some _)] (fun (i, p) => [(5, some (.int .i64 (i : Int))), (1, some (.int .i64 p))]) (fun (i, p) H' => H = H' ∧ i ≤ n ∧ p = q + i) (fun (i, p) => n - i) ((0, q)) ⟨rfl, trivial⟩ ⟨rfl, rfl, trivial⟩ ?_ ?_
  ·
   refine ⟨rfl, ?_⟩
   exact ⟨by omega, by omega⟩
  rintro ⟨i, p⟩ _ ⟨rfl, hI⟩ KL1 hKL1
  refine .forget (fr' := [(5, some (.int .i64 (i : Int))), (1, some (.int .i64 p)), (0, some _)]) ⟨rfl, rfl, rfl, trivial⟩ ?_
  obtain ⟨hi, hq⟩ := hI
  refine .seq (fun K4 hK4 => ?_)
  refine .seq (fun K5 hK5 => ?_)
  refine .region (.m rfl rfl rfl (.move rfl) (.m rfl rfl rfl (.move rfl) (.m rfl rfl rfl (.len sl_22_A rfl) ?_)))
  refine .m rfl rfl rfl (.cmp rfl rfl rfl) (.nil ?_)
  refine hK5 _ _ ?_
  refine .cond rfl (fun h9 => ?_) (fun h9 => ?_)
  ·
   try simp only [sps] at h9
   refine .skip ?_
   refine hK4 _ _ ?_
   refine .seq (fun K6 hK6 => ?_)
   refine .block ?_
   refine .seq (fun K7 hK7 => ?_)
   refine .seq (fun K8 hK8 => ?_)
   refine .region (.m rfl rfl rfl (.move rfl) (.m rfl rfl rfl (.move rfl) ?_))
   refine .m rfl rfl rfl (.idxN sl_22_A hsl rfl rfl (by omega)) ?_
   refine .m rfl rfl rfl (.loadE on_2_A hsl rfl (by omega)) ?_
   refine .m rfl rfl rfl (.move rfl) (.m rfl rfl rfl (.cmp rfl rfl rfl) (.nil ?_))
   refine hK8 _ _ ?_
   refine .cond rfl (fun h17 => ?_) (fun h17 => ?_)
   ·
    simp only [sps] at h17
    rw [seqL_get (by omega)] at h17
    refine .seq (fun K9 hK9 => ?_)
    refine .region (.m rfl rfl rfl (.assign rfl) (.nil ?_))
    refine hK9 _ _ ?_
    refine .ret ?_
    refine hret _ _ ?_
    refine ⟨_, rfl, ?_⟩
    exact absurd hq.symm (by omega)
   try simp only [sps] at h17
   refine .skip ?_
   refine hK7 _ _ ?_
   refine .region (.m rfl rfl rfl (.move rfl) ?_)
   refine .m rfl rfl rfl (.add rfl rfl rfl (by omega) (by omega)) ?_
   refine .m rfl rfl rfl (.assign rfl) (.nil ?_)
   refine hK6 _ _ ?_
   refine .region (.m rfl rfl rfl (.move rfl) ?_)
   refine .m rfl rfl rfl (.add rfl rfl rfl (by omega) (by omega)) ?_
   refine .m rfl rfl rfl (.assign rfl) (.nil ?_)
   refine hKL1 ((i + 1, p + 1)) _ _ ?_ ?_ ⟨rfl, rfl, rfl, trivial⟩
   ·
    refine ⟨rfl, ?_⟩
    exact ⟨by omega, by omega⟩
   (dsimp only; omega)
  try simp only [sps] at h9
  refine .exit ?_
  refine hK2 _ _ ?_
  refine .seq (fun K10 hK10 => ?_)
  refine .region (.m rfl rfl rfl (.move rfl) (.m rfl rfl rfl (.assign rfl) (.nil ?_)))
  refine hK10 _ _ ?_
  refine .ret ?_
  refine hret _ _ ?_
  refine ⟨_, rfl, ?_⟩
  obtain rfl : i = n := by omega
  exact .of (by rw [hq])
theorem eqConeS0_c {a a' : Option Addr} {H : GHeap} : GCalls Try.prog 12 [.slice a 0 0, .slice a' 0 0] H (Ret (.bool true) H) := by
  refine GCalls.ret rfl ?_
  refine GCalls.body (N := 27) (rs := [.tmp 4]) Try.func12 rfl rfl rfl rfl (fun Qx hret hend => ?_)
  refine .forget (fr' := [(0, some _), (1, some _)]) ⟨rfl, rfl, trivial⟩ ?_
  have hle := GHeap.Le.refl H
  refine .seq (fun K1 hK1 => ?_)
  refine .region (.m rfl rfl rfl (.assign rfl) (.nil ?_))
  refine hK1 _ _ ?_
  refine .seq (fun K2 hK2 => ?_)
  refine .seq (fun K3 hK3 => ?_)
  refine .region (.m rfl rfl rfl (.move rfl) (.m rfl rfl rfl (.len sl_29_Ho rfl) (.m rfl rfl rfl (.move rfl) ?_)))
  refine .m rfl rfl rfl (.len sl_29_Ho rfl) (.m rfl rfl rfl (.cmp rfl rfl rfl) (.nil ?_))
  refine hK3 _ _ ?_
  refine .cond rfl (fun h10 => ?_) (fun h10 => ?_)
  ·
   exact absurd h10 (by simp)
  try simp only [sps] at h10
  refine .skip ?_
  refine hK2 _ _ ?_
  refine .seq (fun K4 hK4 => ?_)
  refine .seq (fun K5 hK5 => ?_)
  refine .region (.m rfl rfl rfl (.assign rfl) (.nil ?_))
  refine hK5 _ _ ?_
  refine .block ?_
  refine .loopR (σ := Nat) [(0, some _), (1, some _)] (fun i => [(5, some (.int .i64 (i : Int)))]) (fun i H' => St [] H H' ∧ i = 0) (fun i => i) (0) ⟨rfl, rfl, trivial⟩ ⟨rfl, trivial⟩ ?_ ?_
  ·
   refine ⟨.refl _ _, ?_⟩
   rfl
  rintro i HL1 ⟨lst1, hI⟩ KL1 hKL1
  refine .forget (fr' := [(5, some (.int .i64 (i : Int))), (0, some _), (1, some _)]) ⟨rfl, rfl, rfl, trivial⟩ ?_
  have nx_HL1 := lst1.nx
  replace hle := hle.st lst1 (fun k hk => trivial)
  refine .seq (fun K6 hK6 => ?_)
  refine .seq (fun K7 hK7 => ?_)
  refine .region (.m rfl rfl rfl (.move rfl) (.m rfl rfl rfl (.move rfl) (.m rfl rfl rfl (.len sl_29_Ho rfl) ?_)))
  refine .m rfl rfl rfl (.cmp rfl rfl rfl) (.nil ?_)
  refine hK7 _ _ ?_
  refine .cond rfl (fun h14 => ?_) (fun h14 => ?_)
  ·
   simp only [sps] at h14; omega
  try simp only [sps] at h14
  refine .exit ?_
  refine hK4 _ _ ?_
  refine .seq (fun K8 hK8 => ?_)
  refine .region (.m rfl rfl rfl (.assign rfl) (.nil ?_))
  refine hK8 _ _ ?_
  refine .ret ?_
  refine hret _ _ ?_
  refine ⟨_, rfl, ?_⟩
  exact ⟨rfl, hle⟩
set_option maxHeartbeats 4000000 in
theorem eqConeS1_c {T T' : TypeId} {g g' : Nat} {r r' : Nat → Option Addr} {cs : List Con} {H : GHeap} (h1 : H.get g = some (.row (conV r cs) T true)) (h2 : H.get g' = some (.row (conV r' cs) T' true)) (h3 : ∀ i, i < cs.length → Ints H (r i) (cs.getD i .z).lg) (h4 : ∀ i, i < cs.length → Ints H (r' i) (cs.getD i .z).lg) (hl : cs.length ≤ 1048576) (hs : ∀ i, i < cs.length → (cs.getD i .z).Small) :
    GCalls Try.prog 12 [.slice (some ⟨g, 0, none⟩) cs.length cs.length, .slice (some ⟨g', 0, none⟩) cs.length cs.length] H (Ret (.bool true) H) := by
  refine GCalls.ret rfl ?_
  have hA : SlA H (some ⟨g, 0, none⟩) (cs.length * 2) _ := SlA.of_row h1 (length_conV _ _)
  have hB : SlA H (some ⟨g', 0, none⟩) (cs.length * 2) _ := SlA.of_row h2 (length_conV _ _)
  refine GCalls.body (N := 27) (rs := [.tmp 4]) Try.func12 rfl rfl rfl rfl (fun Qx hret hend => ?_)
  refine .forget (fr' := [(0, some _), (1, some _)]) ⟨rfl, rfl, trivial⟩ ?_
  have hle := GHeap.Le.refl H
  have base_hA := hA
  have base_hB := hB
  refine .seq (fun K1 hK1 => ?_)
  refine .region (.m rfl rfl rfl (.assign rfl) (.nil ?_))
  refine hK1 _ _ ?_
  refine .seq (fun K2 hK2 => ?_)
  refine .seq (fun K3 hK3 => ?_)
  refine .region (.m rfl rfl rfl (.move rfl) (.m rfl rfl rfl (.len sl_29_Ho rfl) (.m rfl rfl rfl (.move rfl) ?_)))
  refine .m rfl rfl rfl (.len sl_29_Ho rfl) (.m rfl rfl rfl (.cmp rfl rfl rfl) (.nil ?_))
  refine hK3 _ _ ?_
  refine .cond rfl (fun h10 => ?_) (fun h10 => ?_)
  ·
   exact absurd h10 (by simp)
  try simp only [sps] at h10
  refine .skip ?_
  refine hK2 _ _ ?_
  refine .seq (fun K4 hK4 => ?_)
  refine .seq (fun K5 hK5 => ?_)
  refine .region (.m rfl rfl rfl (.assign rfl) (.nil ?_))
  refine hK5 _ _ ?_
  refine .block ?_
  refine .loopR (σ := Nat) [(0, some _), (1, some _)] (fun i => [(5, some (.int .i64 (i : Int)))]) (fun i H' => St [] H H' ∧ i ≤ cs.length) (fun i => cs.length - i) (0) ⟨rfl, rfl, trivial⟩ ⟨rfl, trivial⟩ ?_ ?_
  ·
   refine ⟨.refl _ _, ?_⟩
   omega
  rintro i HL1 ⟨lst1, hI⟩ KL1 hKL1
  refine .forget (fr' := [(5, some (.int .i64 (i : Int))), (0, some _), (1, some _)]) ⟨rfl, rfl, rfl, trivial⟩ ?_
  have nx_HL1 := lst1.nx
  replace hle := hle.st lst1 (fun k hk => trivial)
  replace hA := base_hA.mono hle
  replace hB := base_hB.mono hle
  refine .seq (fun K6 hK6 => ?_)
  refine .seq (fun K7 hK7 => ?_)
  refine .region (.m rfl rfl rfl (.move rfl) (.m rfl rfl rfl (.move rfl) (.m rfl rfl rfl (.len sl_29_Ho rfl) ?_)))
  refine .m rfl rfl rfl (.cmp rfl rfl rfl) (.nil ?_)
  refine hK7 _ _ ?_
  refine .cond rfl (fun h14 => ?_) (fun h14 => ?_)
  ·
   simp only [sps] at h14
   have hs1 := hs i (by omega)
   have hm1 : MemN _ _ _ _ _ := ⟨(conV_mem h1 (i := i) (by omega)).1, (conV_mem h1 (i := i) (by omega)).2.mono hle⟩
   have hm2 : MemN _ _ _ _ _ := ⟨(conV_mem h2 (i := i) (by omega)).1, (conV_mem h2 (i := i) (by omega)).2.mono hle⟩
   have hi1 : (cs.getD i .z).In _ ⟨r i⟩ := (h3 i (by omega)).mono hle
   have hi2 : (cs.getD i .z).In _ ⟨r' i⟩ := (h4 i (by omega)).mono hle
   refine .skip ?_
   refine hK6 _ _ ?_
   refine .seq (fun K8 hK8 => ?_)
   refine .block ?_
   refine .seq (fun K9 hK9 => ?_)
   refine .regionD mixed_orders_B (.q 0 (.q 1 (.q 2 (.q 3 (.q 4 (.q 5 (.q 6 (.q 7 (.c 8 0 (.q 9 (.done))))))))))) (by kernel_rfl) ?_
   refine .m rfl rfl rfl rfl (.refl _) (.move rfl) (.m rfl rfl rfl rfl (.refl _) (.move rfl) ?_)
   refine .m rfl rfl rfl rfl (.refl _) (.idx sl_29_Ho hA (by omega) rfl rfl (by omega) (by omega) rfl) ?_
   refine .m rfl rfl rfl rfl (.refl _) (.loadM ag_42_Ho rfl hm1) (.m rfl rfl rfl rfl (.refl _) (.move rfl) (.m rfl rfl rfl rfl (.refl _) (.move rfl) ?_))
   refine .m rfl rfl rfl rfl (.refl _) (.idx sl_29_Ho hB (by omega) rfl rfl (by omega) (by omega) rfl) ?_
   refine .m rfl rfl rfl rfl (.refl _) (.loadM ag_42_Ho rfl hm2) ?_
   refine .callQ0 rfl rfl rfl rfl rfl @Try.call19 rfl (eqCone_c hi1 hi2 hs1) ?_
   refine .m rfl rfl rfl rfl (.refl _) (.not rfl) ?_
   refine .done ?_
   refine hK9 _ _ ?_
   refine .cond rfl (fun h26 => ?_) (fun h26 => ?_)
   ·
    simp at h26
   try simp only [sps] at h26
   refine .skip ?_
   refine hK8 _ _ ?_
   refine .region (.m rfl rfl rfl (.move rfl) ?_)
   refine .m rfl rfl rfl (.add rfl rfl rfl (by omega) (by omega)) ?_
   refine .m rfl rfl rfl (.assign rfl) (.nil ?_)
   refine hKL1 (i + 1) _ _ ?_ ?_ ⟨rfl, rfl, rfl, trivial⟩
   ·
    refine ⟨lst1, ?_⟩
    omega
   omega
  try simp only [sps] at h14
  refine .exit ?_
  refine hK4 _ _ ?_
  refine .seq (fun K10 hK10 => ?_)
  refine .region (.m rfl rfl rfl (.assign rfl) (.nil ?_))
  refine hK10 _ _ ?_
  refine .ret ?_
  refine hret _ _ ?_
  refine ⟨_, rfl, ?_⟩
  exact ⟨rfl, hle⟩
theorem eqConeS_c {T T' : TypeId} {a a' : Option Addr} {r r' : Nat → Option Addr} {cs : List Con} {H : GHeap} (h1 : ConsV T H a r cs := by assumption) (h2 : ConsV T' H a' r' cs := by assumption) (hl : cs.length ≤ 1048576 := by omega) (hs : ∀ i, i < cs.length → (cs.getD i .z).Small := by assumption) :
    GCalls Try.prog 12 [.slice a cs.length cs.length, .slice a' cs.length cs.length] H (Ret (.bool true) H) := by
  rcases h1 with rfl | ⟨g, rfl, h1, h3⟩
  · exact eqConeS0_c
  · rcases h2 with rfl | ⟨g', rfl, h2, h4⟩
    · exact eqConeS0_c
    · exact eqConeS1_c h1 h2 h3 h4 hl hs
theorem heldConeS0_c {a : Option Addr} {k : Int} {H : GHeap} (hk : 0 ≤ k) (hk' : k ≤ 9223372036854775000) : GCalls Try.prog 16 [.slice a 0 0, .int .i64 k] H (Ret (.int .i64 k) H) := by
  refine GCalls.ret rfl ?_
  refine GCalls.body (N := 31) (rs := [.tmp 4]) Try.func16 rfl rfl rfl rfl (fun Qx hret hend => ?_)
  refine .forget (fr' := [(0, some _), (1, some _)]) ⟨rfl, rfl, trivial⟩ ?_
  have hle := GHeap.Le.refl H
  refine .seq (fun K1 hK1 => ?_)
  refine .region (.m rfl rfl rfl (.assign rfl) (.nil ?_))
  refine hK1 _ _ ?_
  refine .seq (fun K2 hK2 => ?_)
  refine .seq (fun K3 hK3 => ?_)
  refine .region (.m rfl rfl rfl (.assign rfl) (.nil ?_))
  refine hK3 _ _ ?_
  refine .block ?_
  refine .loopR (σ := Nat) [(0, some _)] (fun i => [(5, some (.int .i64 (i : Int))), (1, some (.int .i64 k))]) (fun i H' => St [] H H' ∧ i = 0) (fun i => i) (0) ⟨rfl, trivial⟩ ⟨rfl, rfl, trivial⟩ ?_ ?_
  ·
   refine ⟨.refl _ _, ?_⟩
   rfl
  rintro i HL1 ⟨lst1, hI⟩ KL1 hKL1
  refine .forget (fr' := [(5, some (.int .i64 (i : Int))), (1, some (.int .i64 k)), (0, some _)]) ⟨rfl, rfl, rfl, trivial⟩ ?_
  have nx_HL1 := lst1.nx
  replace hle := hle.st lst1 (fun k hk => trivial)
  refine .seq (fun K4 hK4 => ?_)
  refine .seq (fun K5 hK5 => ?_)
  refine .region (.m rfl rfl rfl (.move rfl) (.m rfl rfl rfl (.move rfl) (.m rfl rfl rfl (.len sl_29_Ho rfl) ?_)))
  refine .m rfl rfl rfl (.cmp rfl rfl rfl) (.nil ?_)
  refine hK5 _ _ ?_
  refine .cond rfl (fun h9 => ?_) (fun h9 => ?_)
  ·
   simp only [sps] at h9; omega
  try simp only [sps] at h9
  refine .exit ?_
  refine hK2 _ _ ?_
  refine .seq (fun K6 hK6 => ?_)
  refine .region (.m rfl rfl rfl (.move rfl) (.m rfl rfl rfl (.assign rfl) (.nil ?_)))
  refine hK6 _ _ ?_
  refine .ret ?_
  refine hret _ _ ?_
  refine ⟨_, rfl, ?_⟩
  exact ⟨rfl, hle⟩
set_option maxHeartbeats 4000000 in
theorem heldConeS1_c {T : TypeId} {g : Nat} {r : Nat → Option Addr} {cs : List Con} {k : Int} {H : GHeap} (h1 : H.get g = some (.row (conV r (markC cs k)) T true)) (h3 : ∀ i, i < cs.length → Ints H (r i) ((markC cs k).getD i .z).lg) (hk : 0 ≤ k) (hk' : k + conTot cs cs.length ≤ 9223372036854775000) (hl : cs.length ≤ 1048576) :
    GCalls Try.prog 16 [.slice (some ⟨g, 0, none⟩) cs.length cs.length, .int .i64 k] H (Ret (.int .i64 (k + conTot cs cs.length)) H) := by
  refine GCalls.ret rfl ?_
  have hA : SlA H (some ⟨g, 0, none⟩) (cs.length * 2) _ := SlA.of_row h1 ((length_conV _ _).trans (by rw [length_markC]))
  refine GCalls.body (N := 31) (rs := [.tmp 4]) Try.func16 rfl rfl rfl rfl (fun Qx hret hend => ?_)
  refine .forget (fr' := [(0, some _), (1, some _)]) ⟨rfl, rfl, trivial⟩ ?_
  have hle := GHeap.Le.refl H
  have base_hA := hA
  refine .seq (fun K1 hK1 => ?_)
  refine .region (.m rfl rfl rfl (.assign rfl) (.nil ?_))
  refine hK1 _ _ ?_
  refine .seq (fun K2 hK2 => ?_)
  refine .seq (fun K3 hK3 => ?_)
  refine .region (.m rfl rfl rfl (.assign rfl) (.nil ?_))
  refine hK3 _ _ ?_
  refine .block ?_
  refine .loopR (σ := Nat × Int) [(0, some _)] (fun (i, q) => [(5, some (.int .i64 (i : Int))), (1, some (.int .i64 q))]) (fun (i, q) H' => St [] H H' ∧ i ≤ cs.length ∧ q = k + conTot cs i) (fun (i, q) => cs.length - i) ((0, k)) ⟨rfl, trivial⟩ ⟨rfl, rfl, trivial⟩ ?_ ?_
  ·
   refine ⟨.refl _ _, ?_⟩
   exact ⟨by omega, by simp [conTot, sumL]⟩
  rintro ⟨i, q⟩ HL1 ⟨lst1, hI⟩ KL1 hKL1
  refine .forget (fr' := [(5, some (.int .i64 (i : Int))), (1, some (.int .i64 q)), (0, some _)]) ⟨rfl, rfl, rfl, trivial⟩ ?_
  have nx_HL1 := lst1.nx
  replace hle := hle.st lst1 (fun k hk => trivial)
  replace hA := base_hA.mono hle
  obtain ⟨hi, hq⟩ := hI
  refine .seq (fun K4 hK4 => ?_)
  refine .seq (fun K5 hK5 => ?_)
  refine .region (.m rfl rfl rfl (.move rfl) (.m rfl rfl rfl (.move rfl) (.m rfl rfl rfl (.len sl_29_Ho rfl) ?_)))
  refine .m rfl rfl rfl (.cmp rfl rfl rfl) (.nil ?_)
  refine hK5 _ _ ?_
  refine .cond rfl (fun h9 => ?_) (fun h9 => ?_)
  ·
   simp only [sps] at h9
   have hts := conTot_succ (cs := cs) (j := i) (by omega)
   have htl := conTot_le (cs := cs) (j := i + 1) (by omega)
   have hg0 := markC_get (cs := cs) (k := k) (j := i) (by omega)
   have hm1 := (conV_mem h1 (i := i) (by rw [length_markC]; omega)).2.mono hle
   have c0 := hm1 0 _ rfl
   have c1 := hm1 1 _ rfl
   have hi1 := (h3 i (by omega)).mono hle
   rw [hg0] at c0 c1 hi1
   rw [show (seqL (k + conTot cs i + 1) (cs.getD i .z).lg.length).length = (cs.getD i .z).lg.length from length_seqL _ _] at c1
   refine .skip ?_
   refine hK4 _ _ ?_
   refine .seq (fun K6 hK6 => ?_)
   refine .block ?_
   refine .seq (fun K7 hK7 => ?_)
   refine .seq (fun K8 hK8 => ?_)
   refine .region (.m rfl rfl rfl (.move rfl) (.m rfl rfl rfl (.move rfl) ?_))
   refine .m rfl rfl rfl (.idx sl_29_Ho hA (by omega) rfl rfl (by omega) (by omega) rfl) ?_
   refine .m rfl rfl rfl (.fieldAddr fo_42_0_VCon rfl) (.m rfl rfl rfl (.load on_2_A rfl c0) (.m rfl rfl rfl (.move rfl) (.m rfl rfl rfl (.cmp rfl rfl rfl) ?_)))
   refine .nil ?_
   refine hK8 _ _ ?_
   refine .cond rfl (fun h18 => ?_) (fun h18 => ?_)
   ·
    simp only [sps] at h18; omega
   try simp only [sps] at h18
   refine .skip ?_
   refine hK7 _ _ ?_
   refine .seq (fun K9 hK9 => ?_)
   refine .region (.m rfl rfl rfl (.move rfl) ?_)
   refine .m rfl rfl rfl (.add rfl rfl rfl (by omega) (by omega)) ?_
   refine .m rfl rfl rfl (.assign rfl) (.nil ?_)
   refine hK9 _ _ ?_
   refine .seq (fun K10 hK10 => ?_)
   refine .region (.m rfl rfl rfl (.move rfl) (.m rfl rfl rfl (.move rfl) ?_))
   refine .m rfl rfl rfl (.idx sl_29_Ho hA (by omega) rfl rfl (by omega) (by omega) rfl) ?_
   refine .m rfl rfl rfl (.fieldAddr fo_42_1_VCon rfl) (.m rfl rfl rfl (.load on_22_B rfl c1) (.m rfl rfl rfl (.move rfl) ?_))
   refine .callQ rfl rfl rfl rfl @Try.call44 rfl (heldIntsV_c hi1 (by omega) (by omega)) ?_
   refine .m rfl rfl rfl (.assign rfl) (.nil ?_)
   refine hK10 _ _ ?_
   refine .seq (fun K11 hK11 => ?_)
   refine .region (.m rfl rfl rfl (.move rfl) (.m rfl rfl rfl (.cmp rfl rfl rfl) (.nil ?_)))
   refine hK11 _ _ ?_
   refine .cond rfl (fun h29 => ?_) (fun h29 => ?_)
   ·
    simp only [sps] at h29; omega
   try simp only [sps] at h29
   refine .skip ?_
   refine hK6 _ _ ?_
   refine .region (.m rfl rfl rfl (.move rfl) ?_)
   refine .m rfl rfl rfl (.add rfl rfl rfl (by omega) (by omega)) ?_
   refine .m rfl rfl rfl (.assign rfl) (.nil ?_)
   refine hKL1 ((i + 1, _)) _ _ ?_ ?_ ⟨rfl, rfl, rfl, trivial⟩
   ·
    refine ⟨lst1, ?_⟩
    exact ⟨by omega, by rw [conTot_succ (by omega)]; omega⟩
   (dsimp only; omega)
  try simp only [sps] at h9
  refine .exit ?_
  refine hK2 _ _ ?_
  refine .seq (fun K12 hK12 => ?_)
  refine .region (.m rfl rfl rfl (.move rfl) (.m rfl rfl rfl (.assign rfl) (.nil ?_)))
  refine hK12 _ _ ?_
  refine .ret ?_
  refine hret _ _ ?_
  refine ⟨_, rfl, ?_⟩
  obtain rfl : i = cs.length := by omega
  rw [hq]
  exact ⟨rfl, hle⟩
set_option maxHeartbeats 4000000 in
theorem markConeS1_c {T e : TypeId} {g lo hi : Nat} {r : Nat → Option Addr} {cs : List Con} {k : Int} {H : GHeap} (hT : (T != e) = true) (h1 : ConsAt T e lo H g r cs) (hg : lo ≤ g) (hg' : g < hi) (hs : ∀ i, i < cs.length → ∀ x, r i = some ⟨x, 0, none⟩ → x < hi) (hk : 0 ≤ k) (hk' : k + conTot cs cs.length ≤ 9223372036854775000) (hl : cs.length ≤ 1048576) :
    GCalls Try.prog 15 [.slice (some ⟨g, 0, none⟩) cs.length cs.length, .int .i64 k] H (fun v H' => v = .int .i64 (k + conTot cs cs.length) ∧ StK lo hi H H' ∧ ConsAt T e lo H' g r (markC cs k)) := by
  refine GCalls.body (N := 27) (rs := [.tmp 4]) Try.func15 rfl rfl rfl rfl (fun Qx hret hend => ?_)
  refine .forget (fr' := [(0, some _), (1, some _)]) ⟨rfl, rfl, trivial⟩ ?_
  refine .seq (fun K1 hK1 => ?_)
  refine .region (.m rfl rfl rfl (.assign rfl) (.nil ?_))
  refine hK1 _ _ ?_
  refine .seq (fun K2 hK2 => ?_)
  refine .seq (fun K3 hK3 => ?_)
  refine .region (.m rfl rfl rfl (.assign rfl) (.nil ?_))
  refine hK3 _ _ ?_
  refine .block ?_
  refine .loopR (σ := Nat × Int × List Con) [(0, some _)] (fun (i, q, ys) => [(5, some (.int .i64 (i : Int))), (1, some (.int .i64 q))]) (fun (i, q, ys) H' => i ≤ cs.length ∧ q = k + conTot cs i ∧ ys.length = cs.length ∧ StK lo hi H H' ∧ ConsAt T e lo H' g r ys ∧ (∀ j, j < i → ys.getD j .z = (markC cs k).getD j .z) ∧ ∀ j, i ≤ j → ys.getD j .z = cs.getD j .z) (fun (i, q, ys) => cs.length - i) ((0, k, cs)) ⟨rfl, trivial⟩ ⟨rfl, rfl, trivial⟩ ?_ ?_
  ·
   exact ⟨by omega, by simp [conTot, sumL], rfl, .refl _ _ _, h1, fun _ _ => by omega, fun _ _ => rfl⟩
  rintro ⟨i, q, ys⟩ HL1 hI KL1 hKL1
  refine .forget (fr' := [(5, some (.int .i64 (i : Int))), (1, some (.int .i64 q)), (0, some _)]) ⟨rfl, rfl, rfl, trivial⟩ ?_
  obtain ⟨hi', hq, hyl, hK, hC, hA, hB⟩ := hI
  have hd := hC.hd
  have hsl : SlA HL1 (some ⟨g, 0, none⟩) (cs.length * 2) _ := SlA.of_row hd ((length_conV _ _).trans (by rw [hyl]))
  refine .seq (fun K4 hK4 => ?_)
  refine .seq (fun K5 hK5 => ?_)
  refine .region (.m rfl rfl rfl (.move rfl) (.m rfl rfl rfl (.move rfl) (.m rfl rfl rfl (.len sl_29_Ho rfl) ?_)))
  refine .m rfl rfl rfl (.cmp rfl rfl rfl) (.nil ?_)
  refine hK5 _ _ ?_
  refine .cond rfl (fun h9 => ?_) (fun h9 => ?_)
  ·
   simp only [sps] at h9
   have hts := conTot_succ (cs := cs) (j := i) (by omega)
   have htl := conTot_le (cs := cs) (j := i + 1) (by omega)
   obtain ⟨gi, r1, r2, r3⟩ := hC.rows.row i (by rw [List.length_map]; omega)
   have hlt := hs i (by omega) gi r1
   have hne : g ≠ gi := row_ne hd r3 hT
   have hTe : (e != T) = true := by simp only [bne_iff_ne, ne_eq] at hT ⊢; exact fun h => hT h.symm
   rw [getD_lg, hB i (Nat.le_refl _)] at r3
   refine .skip ?_
   refine hK4 _ _ ?_
   refine .seq (fun K6 hK6 => ?_)
   refine .block ?_
   refine .seq (fun K7 hK7 => ?_)
   refine .region (.m rfl rfl rfl (.move rfl) (.m rfl rfl rfl (.move rfl) (.m rfl rfl rfl (.move rfl) ?_)))
   refine .m rfl rfl rfl (.idx sl_29_Ho hsl (by omega) rfl rfl (by omega) (by omega) rfl) ?_
   refine .m rfl rfl rfl (.fieldAddr fo_42_0_VCon rfl) ?_
   refine .r0 rfl rfl (.storeR rfl sz_2_E rfl rfl rfl (by assumption) (by first | exact Nat.le_of_ble_eq_true rfl | (simp; done) | (simp <;> omega))) ?_
   rintro _ H4005 ⟨rfl, st4005, at4005⟩
   have nx_H4005 := st4005.nx
   have lt_at4005 := GHeap.lt_of_get at4005
   rw [conV_set (by omega)] at at4005
   have r4 := st4005.same _ _ ⟨Ne.symm hne, trivial⟩ r3
   have hsl2 : SlA H4005 (some ⟨g, 0, none⟩) (cs.length * 2) _ := SlA.of_row at4005 ((length_conV _ _).trans (by rw [List.length_set, hyl]))
   have c1 : H4005.cell g (0 + (i : Int).toNat * 2 + 1) = some (.slice (some ⟨gi, 0, none⟩) (cs.getD i .z).lg.length (cs.getD i .z).lg.length) := by
     have hm2 := (conV_mem at4005 (i := i) (by rw [List.length_set]; omega)).2 1 _ rfl
     rw [getD_setC (by omega), if_pos rfl, hB i (Nat.le_refl _)] at hm2
     rw [hm2, r1]
   refine .nil ?_
   refine hK7 _ _ ?_
   refine .seq (fun K8 hK8 => ?_)
   refine .region (.m rfl rfl rfl (.move rfl) ?_)
   refine .m rfl rfl rfl (.add rfl rfl rfl (by omega) (by omega)) ?_
   refine .m rfl rfl rfl (.assign rfl) (.nil ?_)
   refine hK8 _ _ ?_
   refine .region (.m rfl rfl rfl (.move rfl) (.m rfl rfl rfl (.move rfl) ?_))
   refine .m rfl rfl rfl (.idx sl_29_Ho hsl2 (by omega) rfl rfl (by omega) (by omega) rfl) ?_
   refine .m rfl rfl rfl (.fieldAddr fo_42_1_VCon rfl) (.m rfl rfl rfl (.load on_22_B rfl c1) (.m rfl rfl rfl (.move rfl) ?_))
   refine .call rfl rfl rfl rfl @Try.call43 rfl (markInt64S_own r4 (by omega) (by omega)) ?_
   rintro _ H25 ⟨rfl, st25, at25⟩
   refine .m rfl rfl rfl (.assign rfl) (.nil ?_)
   refine hK6 _ _ ?_
   refine .region (.m rfl rfl rfl (.move rfl) ?_)
   refine .m rfl rfl rfl (.add rfl rfl rfl (by omega) (by omega)) ?_
   refine .m rfl rfl rfl (.assign rfl) (.nil ?_)
   refine hKL1 ((i + 1, _, ys.set i ⟨q, seqL (q + 1) (cs.getD i .z).lg.length⟩)) _ _ ?_ ?_ ⟨rfl, rfl, rfl, trivial⟩
   ·
    refine ⟨by omega, by rw [conTot_succ (by omega)]; omega, by rw [List.length_set]; exact hyl, (hK.st st4005 hg hg').st st25 (by omega) (by omega), ⟨?_, ?_⟩, fun j hj => ?_, fun j hj => ?_⟩
    · rw [← conV_setlen (l := (ys.getD i .z).lg) (by omega) (by rw [hB i (Nat.le_refl _), length_seqL])]
      exact st25.same _ _ ⟨hne, trivial⟩ at4005
    · rw [map_setC]
      exact OwnL.set1 (hC.rows.st st4005 (.cons (hC.rows.neT hd hTe) (.nil _ _))) st25 (by rw [List.length_map]; omega) r1 at25
    · rw [getD_setC (by omega)]
      split
      · rename_i e; subst e
        rw [markC_get (by omega), hq]
      · exact hA j (by omega)
    · rw [getD_setC (by omega), if_neg (by omega)]
      exact hB j (by omega)
   (dsimp only; omega)
  try simp only [sps] at h9
  refine .exit ?_
  refine hK2 _ _ ?_
  refine .seq (fun K9 hK9 => ?_)
  refine .region (.m rfl rfl rfl (.move rfl) (.m rfl rfl rfl (.assign rfl) (.nil ?_)))
  refine hK9 _ _ ?_
  refine .ret ?_
  refine hret _ _ ?_
  refine ⟨_, rfl, ?_⟩
  obtain rfl : i = cs.length := by omega
  obtain rfl : ys = markC cs k := eq_of_getDC (by rw [hyl, length_markC]) fun j hj => hA j (by omega)
  exact ⟨by rw [hq], hK, hC⟩
theorem markConeS0_c {a : Option Addr} {k : Int} {H : GHeap} (hk : 0 ≤ k) (hk' : k ≤ 9223372036854775000) : GCalls Try.prog 15 [.slice a 0 0, .int .i64 k] H (fun v H' => v = .int .i64 k ∧ H' = H) := by
  refine GCalls.body (N := 27) (rs := [.tmp 4]) Try.func15 rfl rfl rfl rfl (fun Qx hret hend => ?_)
  refine .forget (fr' := [(0, some _), (1, some _)]) ⟨rfl, rfl, trivial⟩ ?_
  refine .seq (fun K1 hK1 => ?_)
  refine .region (.m rfl rfl rfl (.assign rfl) (.nil ?_))
  refine hK1 _ _ ?_
  refine .seq (fun K2 hK2 => ?_)
  refine .seq (fun K3 hK3 => ?_)
  refine .region (.m rfl rfl rfl (.assign rfl) (.nil ?_))
  refine hK3 _ _ ?_
  refine .block ?_
  refine .loopR (σ := Unit) [(0, some _)] (fun u => [(5, some (.int .i64 0)), (1, some (.int .i64 k))]) (fun u H' => H = H' ∧ True) (fun u => 0) (()) ⟨rfl, trivial⟩ ⟨rfl, rfl, trivial⟩ ?_ ?_
  ·
   refine ⟨rfl, ?_⟩
   exact trivial
  rintro u _ ⟨rfl, hI⟩ KL1 hKL1
  refine .forget (fr' := [(5, some (.int .i64 0)), (1, some (.int .i64 k)), (0, some _)]) ⟨rfl, rfl, rfl, trivial⟩ ?_
  refine .seq (fun K4 hK4 => ?_)
  refine .seq (fun K5 hK5 => ?_)
  refine .region (.m rfl rfl rfl (.move rfl) (.m rfl rfl rfl (.move rfl) (.m rfl rfl rfl (.len sl_29_Ho rfl) ?_)))
  refine .m rfl rfl rfl (.cmp rfl rfl rfl) (.nil ?_)
  refine hK5 _ _ ?_
  refine .cond rfl (fun h9 => ?_) (fun h9 => ?_)
  ·
   exact absurd h9 (by simp)
  try simp only [sps] at h9
  refine .exit ?_
  refine hK2 _ _ ?_
  refine .seq (fun K6 hK6 => ?_)
  refine .region (.m rfl rfl rfl (.move rfl) (.m rfl rfl rfl (.assign rfl) (.nil ?_)))
  refine hK6 _ _ ?_
  refine .ret ?_
  refine hret _ _ ?_
  refine ⟨_, rfl, ?_⟩
  exact ⟨rfl, rfl⟩
theorem markConeS_c {T e : TypeId} {a : Option Addr} {lo hi : Nat} {r : Nat → Option Addr} {cs : List Con} {k : Int} {H : GHeap} (w : ConsW T e lo hi H a r cs := by assumption) (hT : (T != e) = true := by rfl) (hk : 0 ≤ k := by omega) (hk' : k + conTot cs cs.length ≤ 9223372036854775000 := by omega) (hl : cs.length ≤ 1048576 := by omega) :
    GCalls Try.prog 15 [.slice a cs.length cs.length, .int .i64 k] H (fun v H' => v = .int .i64 (k + conTot cs cs.length) ∧ StK lo hi H H' ∧ ConsR T e lo H' a r (markC cs k)) := by
  rcases w with ⟨rfl, rfl⟩ | ⟨g, rfl, w1, w2, w3, w4⟩
  · refine (markConeS0_c hk (by omega)).mono fun v H' ⟨h1, h2⟩ => ?_
    subst h2
    exact ⟨by rw [h1]; simp [conTot, sumL], .refl _ _ _, .inl ⟨rfl, rfl⟩⟩
  · exact (markConeS1_c hT w3 w1 w2 w4 hk hk' hl).mono fun v H' ⟨h1, h2, h3⟩ => ⟨h1, h2, .inr ⟨g, rfl, w1, h3⟩⟩
theorem heldConeS_c {T : TypeId} {a : Option Addr} {r : Nat → Option Addr} {cs : List Con} {k : Int} {H : GHeap} (h : ConsV T H a r (markC cs k) := by assumption) (hk : 0 ≤ k := by omega) (hk' : k + conTot cs cs.length ≤ 9223372036854775000 := by omega) (hl : cs.length ≤ 1048576 := by omega) :
    GCalls Try.prog 16 [.slice a cs.length cs.length, .int .i64 k] H (Ret (.int .i64 (k + conTot cs cs.length)) H) := by
  rcases h with h | ⟨g, rfl, h1, h3⟩
  · have h0 := congrArg List.length h
    rw [length_markC] at h0
    obtain rfl : cs = [] := List.eq_nil_of_length_eq_zero h0
    rw [show k + (conTot ([] : List Con) ([] : List Con).length : Int) = k by simp [conTot, sumL]]
    exact heldConeS0_c hk (by omega)
  · exact heldConeS1_c h1 (fun i hi => h3 i (by rw [length_markC]; exact hi)) hk hk' hl
end Go.Proofs.Ytpmjlhbglcaokaa
/- The law of AllCones. No condition but those of each statement. -/
namespace Go.Proofs.Ytpmjlhbglcaokaa
open Go Go.GL Go.RowKit Go.Proofs
theorem ag_27_LAllCones : aggT Try.prog 27 = some 12 := by kernel_rfl
set_option maxHeartbeats 40000000 in
theorem lawAllCones_c {d : Fun} {p : FunP} {H : GHeap} (h0 : d.In H p) (w0 : d.Wide) :
    GCalls Try.prog 3 [.agg (d.cells p).toArray] H (fun v _ => v = .bool true) := by
  refine GCalls.body (N := 96) (rs := [.tmp 2]) Try.func3 rfl rfl rfl rfl (fun Qx hret hend => ?_)
  refine .forget (fr' := [(0, some _)]) ⟨rfl, trivial⟩ ?_
  have hle := GHeap.Le.refl H
  have base_h0 := h0
  refine .seq (fun K1 hK1 => ?_)
  refine .region ?_
  refine .r rfl rfl rfl (.boxR rfl sz_27_E rfl) ?_
  rintro _ H1 ⟨g1, rfl, le1, ge1, at1⟩
  have nx_H1 := le1.1
  replace hle := hle.trans le1
  have lt_at1 := GHeap.lt_of_get at1
  replace h0 := base_h0.mono hle
  have hb1 : Fun.At _ g1 0 d p := ⟨Mem.of_get at1, h0⟩
  obtain ⟨fs1, ft1, c101, c111, j11, j21⟩ := hb1.get
  have hm1 : MemN _ _ _ _ _ := ⟨rfl, hb1.1⟩
  have hi1 := hb1.2
  have hms1 : MemN _ _ _ _ _ := ⟨rfl, fs1.1⟩
  have his1 := fs1.2
  have hmt1 : MemN _ _ _ _ _ := ⟨rfl, ft1.1⟩
  have hit1 := ft1.2
  refine .m rfl rfl rfl (.assign rfl) (.nil ?_)
  refine hK1 _ _ ?_
  refine .seq (fun K2 hK2 => ?_)
  refine .region (.m rfl rfl rfl (.assign rfl) (.nil ?_))
  refine hK2 _ _ ?_
  refine .seq (fun K3 hK3 => ?_)
  refine .region ?_
  refine .m rfl rfl rfl (.loadM ag_27_LAllCones rfl ⟨rfl, Mem.of_get at1⟩) ?_
  refine .m rfl rfl rfl (.move rfl) ?_
  refine .call rfl rfl rfl rfl @Try.call8 rfl (szFunctor_c) ?_
  rintro _ _ ⟨heq, lf16, rfl, z116, z216, z316⟩
  obtain rfl := heq.symm
  refine .m rfl rfl rfl (.assign rfl) (.nil ?_)
  refine hK3 _ _ ?_
  refine .seq (fun K4 hK4 => ?_)
  refine .seq (fun K5 hK5 => ?_)
  refine .region (.m rfl rfl rfl (.move rfl) (.m rfl rfl rfl (.cmp rfl rfl rfl) (.nil ?_)))
  refine hK5 _ _ ?_
  refine .cond rfl (fun h18 => ?_) (fun h18 => ?_)
  ·
   try simp only [sps] at h18
   refine .seq (fun K6 hK6 => ?_)
   refine .region (.m rfl rfl rfl (.assign rfl) (.nil ?_))
   refine hK6 _ _ ?_
   refine .ret ?_
   refine hret _ _ ?_
   refine ⟨_, rfl, ?_⟩
   first
   | exact rfl
   | exact absurd trivial (by assumption)
   | contradiction
   | (exfalso; omega)
  simp only [sps] at h18
  obtain ⟨hcl, hcs, hct⟩ := d.acR_ok
  have hsm16 := z316 (by omega)
  have tb16 := hsm16.tot
  refine .skip ?_
  refine hK4 _ _ ?_
  refine .seq (fun K7 hK7 => ?_)
  refine .region ?_
  refine .m rfl rfl rfl (.loadM ag_27_LAllCones rfl ⟨rfl, Mem.of_get at1⟩) ?_
  refine .call rfl rfl rfl rfl @Try.call10 rfl (toFunctor_c) ?_
  rintro _ H21 ⟨le21, p21, rfl, v21⟩
  have nx_H21 := le21.1
  replace hle := hle.trans le21
  replace at1 := le21.2 _ _ at1
  have bs_v21 := v21
  have lv_v21 : Keep H1.next H21 H21 := fun _ _ _ h => h
  replace h0 := base_h0.mono hle
  clear hb1 fs1 ft1 c101 c111 j11 j21 hm1 hi1 hms1 his1 hmt1 hit1
  have hb1 : Fun.At _ g1 0 d p := ⟨Mem.of_get at1, h0⟩
  obtain ⟨fs1, ft1, c101, c111, j11, j21⟩ := hb1.get
  have hm1 : MemN _ _ _ _ _ := ⟨rfl, hb1.1⟩
  have hi1 := hb1.2
  have hms1 : MemN _ _ _ _ _ := ⟨rfl, fs1.1⟩
  have his1 := fs1.2
  have hmt1 : MemN _ _ _ _ _ := ⟨rfl, ft1.1⟩
  have hit1 := ft1.2
  have i21 := v21.inn
  refine .call rfl rfl rfl rfl @Try.call9 rfl (specAllCones_c) ?_
  rintro _ H22 ⟨le22, a22, r22, rfl, v22⟩
  have nx_H22 := le22.1
  replace hle := hle.trans le22
  replace at1 := le22.2 _ _ at1
  replace lv_v21 := Keep.le lv_v21 le22
  replace v21 := bs_v21.keep lv_v21 (Nat.le_refl _)
  have bs_v22 := v22
  have lv_v22 : Keep H21.next H22 H22 := fun _ _ _ h => h
  replace h0 := base_h0.mono hle
  clear hb1 fs1 ft1 c101 c111 j11 j21 hm1 hi1 hms1 his1 hmt1 hit1
  have hb1 : Fun.At _ g1 0 d p := ⟨Mem.of_get at1, h0⟩
  obtain ⟨fs1, ft1, c101, c111, j11, j21⟩ := hb1.get
  have hm1 : MemN _ _ _ _ _ := ⟨rfl, hb1.1⟩
  have hi1 := hb1.2
  have hms1 : MemN _ _ _ _ _ := ⟨rfl, fs1.1⟩
  have his1 := fs1.2
  have hmt1 : MemN _ _ _ _ _ := ⟨rfl, ft1.1⟩
  have hit1 := ft1.2
  clear i21
  have i21 := v21.inn
  have i22 := v22.view
  refine .m rfl rfl rfl (.move rfl) (.m rfl rfl rfl (.extract rfl rfl) (.m rfl rfl rfl (.extract rfl rfl) (.m rfl rfl rfl (.assign rfl) ?_)))
  refine .m rfl rfl rfl (.assign rfl) (.nil ?_)
  refine hK7 _ _ ?_
  refine .seq (fun K8 hK8 => ?_)
  refine .region ?_
  refine .m rfl rfl rfl (.loadM ag_27_LAllCones rfl ⟨rfl, Mem.of_get at1⟩) ?_
  refine .call rfl rfl rfl rfl @Try.call10 rfl (toFunctor_c) ?_
  rintro _ H26 ⟨le26, p26, rfl, v26⟩
  have nx_H26 := le26.1
  replace hle := hle.trans le26
  replace at1 := le26.2 _ _ at1
  replace lv_v21 := Keep.le lv_v21 le26
  replace v21 := bs_v21.keep lv_v21 (Nat.le_refl _)
  replace lv_v22 := Keep.le lv_v22 le26
  replace v22 := bs_v22.keep lv_v22 (Nat.le_refl _)
  have bs_v26 := v26
  have lv_v26 : Keep H22.next H26 H26 := fun _ _ _ h => h
  replace h0 := base_h0.mono hle
  clear hb1 fs1 ft1 c101 c111 j11 j21 hm1 hi1 hms1 his1 hmt1 hit1
  have hb1 : Fun.At _ g1 0 d p := ⟨Mem.of_get at1, h0⟩
  obtain ⟨fs1, ft1, c101, c111, j11, j21⟩ := hb1.get
  have hm1 : MemN _ _ _ _ _ := ⟨rfl, hb1.1⟩
  have hi1 := hb1.2
  have hms1 : MemN _ _ _ _ _ := ⟨rfl, fs1.1⟩
  have his1 := fs1.2
  have hmt1 : MemN _ _ _ _ _ := ⟨rfl, ft1.1⟩
  have hit1 := ft1.2
  clear i21
  have i21 := v21.inn
  clear i22
  have i22 := v22.view
  have i26 := v26.inn
  refine .r rfl rfl rfl (.allocR rfl ze_34_E rfl) ?_
  rintro _ H6 ⟨g6, rfl, le6, ge6, at6⟩
  have nx_H6 := le6.1
  replace hle := hle.trans le6
  replace at1 := le6.2 _ _ at1
  replace lv_v21 := Keep.le lv_v21 le6
  replace v21 := bs_v21.keep lv_v21 (Nat.le_refl _)
  replace lv_v22 := Keep.le lv_v22 le6
  replace v22 := bs_v22.keep lv_v22 (Nat.le_refl _)
  replace lv_v26 := Keep.le lv_v26 le6
  replace v26 := bs_v26.keep lv_v26 (Nat.le_refl _)
  have lt_at6 := GHeap.lt_of_get at6
  replace h0 := base_h0.mono hle
  clear hb1 fs1 ft1 c101 c111 j11 j21 hm1 hi1 hms1 his1 hmt1 hit1
  have hb1 : Fun.At _ g1 0 d p := ⟨Mem.of_get at1, h0⟩
  obtain ⟨fs1, ft1, c101, c111, j11, j21⟩ := hb1.get
  have hm1 : MemN _ _ _ _ _ := ⟨rfl, hb1.1⟩
  have hi1 := hb1.2
  have hms1 : MemN _ _ _ _ _ := ⟨rfl, fs1.1⟩
  have his1 := fs1.2
  have hmt1 : MemN _ _ _ _ _ := ⟨rfl, ft1.1⟩
  have hit1 := ft1.2
  clear i21
  have i21 := v21.inn
  clear i22
  have i22 := v22.view
  clear i26
  have i26 := v26.inn
  refine .r0 rfl rfl (.fillR rfl sz_34_E rfl rfl rfl rfl (by assumption) (by first | rfl | exact Nat.le_of_ble_eq_true rfl | simp)) ?_
  rintro _ H6003 ⟨rfl, st6003, at6003⟩
  have nx_H6003 := st6003.nx
  replace hle := hle.st st6003 (fun k hk => ⟨by omega, trivial⟩)
  replace at1 := st6003.same _ _ ⟨by omega, trivial⟩ at1
  replace lv_v21 := Keep.st lv_v21 st6003 (fun k hb hk => ⟨by omega, trivial⟩)
  replace v21 := bs_v21.keep lv_v21 (Nat.le_refl _)
  replace lv_v22 := Keep.st lv_v22 st6003 (fun k hb hk => ⟨by omega, trivial⟩)
  replace v22 := bs_v22.keep lv_v22 (Nat.le_refl _)
  replace lv_v26 := Keep.st lv_v26 st6003 (fun k hb hk => ⟨by omega, trivial⟩)
  replace v26 := bs_v26.keep lv_v26 (Nat.le_refl _)
  have lt_at6003 := GHeap.lt_of_get at6003
  replace h0 := base_h0.mono hle
  clear hb1 fs1 ft1 c101 c111 j11 j21 hm1 hi1 hms1 his1 hmt1 hit1
  have hb1 : Fun.At _ g1 0 d p := ⟨Mem.of_get at1, h0⟩
  obtain ⟨fs1, ft1, c101, c111, j11, j21⟩ := hb1.get
  have hm1 : MemN _ _ _ _ _ := ⟨rfl, hb1.1⟩
  have hi1 := hb1.2
  have hms1 : MemN _ _ _ _ _ := ⟨rfl, fs1.1⟩
  have his1 := fs1.2
  have hmt1 : MemN _ _ _ _ _ := ⟨rfl, ft1.1⟩
  have hit1 := ft1.2
  clear i21
  have i21 := v21.inn
  clear i22
  have i22 := v22.view
  clear i26
  have i26 := v26.inn
  have mm6003 : MemN _ _ _ _ _ := ⟨rfl, Mem.of_get at6003⟩
  refine .nil ?_
  refine hK8 _ _ ?_
  refine .seq (fun K9 hK9 => ?_)
  refine .region ?_
  refine .m rfl rfl rfl (.loadM ag_34_E rfl ⟨rfl, Mem.of_get at6003⟩) ?_
  refine .call rfl rfl rfl rfl @Try.call11 rfl (implAllCones_c) ?_
  rintro _ H29 ⟨le29, a29, r29, rfl, v29⟩
  have nx_H29 := le29.1
  replace hle := hle.trans le29
  replace at1 := le29.2 _ _ at1
  replace at6003 := le29.2 _ _ at6003
  replace lv_v21 := Keep.le lv_v21 le29
  replace v21 := bs_v21.keep lv_v21 (Nat.le_refl _)
  replace lv_v22 := Keep.le lv_v22 le29
  replace v22 := bs_v22.keep lv_v22 (Nat.le_refl _)
  replace lv_v26 := Keep.le lv_v26 le29
  replace v26 := bs_v26.keep lv_v26 (Nat.le_refl _)
  have bs_v29 := v29
  have lv_v29 : Keep H6003.next H29 H29 := fun _ _ _ h => h
  replace h0 := base_h0.mono hle
  clear hb1 fs1 ft1 c101 c111 j11 j21 hm1 hi1 hms1 his1 hmt1 hit1
  have hb1 : Fun.At _ g1 0 d p := ⟨Mem.of_get at1, h0⟩
  obtain ⟨fs1, ft1, c101, c111, j11, j21⟩ := hb1.get
  have hm1 : MemN _ _ _ _ _ := ⟨rfl, hb1.1⟩
  have hi1 := hb1.2
  have hms1 : MemN _ _ _ _ _ := ⟨rfl, fs1.1⟩
  have his1 := fs1.2
  have hmt1 : MemN _ _ _ _ _ := ⟨rfl, ft1.1⟩
  have hit1 := ft1.2
  clear i21
  have i21 := v21.inn
  clear i22
  have i22 := v22.view
  clear i26
  have i26 := v26.inn
  clear mm6003
  have mm6003 : MemN _ _ _ _ _ := ⟨rfl, Mem.of_get at6003⟩
  have i29 := v29.view
  refine .m rfl rfl rfl (.move rfl) (.m rfl rfl rfl (.extract rfl rfl) (.m rfl rfl rfl (.extract rfl rfl) (.m rfl rfl rfl (.assign rfl) ?_)))
  refine .m rfl rfl rfl (.assign rfl) (.nil ?_)
  refine hK9 _ _ ?_
  refine .seq (fun K10 hK10 => ?_)
  refine .seq (fun K11 hK11 => ?_)
  refine .region (.m rfl rfl rfl (.move rfl) (.m rfl rfl rfl (.move rfl) ?_))
  refine .callQ rfl rfl rfl rfl @Try.call12 rfl (eqConeS_c) ?_
  refine .m rfl rfl rfl (.not rfl) (.m rfl rfl rfl (.move rfl) ?_)
  refine .split (fun h36 => ?_) (fun h36 => ?_)
  ·
   try simp only [sps] at h36
   refine .sg rfl rfl rfl rfl rfl (.sg rfl rfl rfl rfl rfl (.sg rfl rfl rfl rfl rfl (.m rfl rfl rfl (.pickT rfl rfl) ?_)))
   refine .nil ?_
   refine hK11 _ _ ?_
   refine .condT rfl ?_
   refine .seq (fun K12 hK12 => ?_)
   refine .region (.m rfl rfl rfl (.assign rfl) (.nil ?_))
   refine hK12 _ _ ?_
   refine .ret ?_
   refine hret _ _ ?_
   refine ⟨_, rfl, ?_⟩
   first
   | exact rfl
   | exact absurd trivial (by assumption)
   | contradiction
   | (exfalso; omega)
  try simp only [sps] at h36
  refine .mg rfl rfl rfl rfl rfl (.move rfl) (.mg rfl rfl rfl rfl rfl (.move rfl) (.mg rfl rfl rfl rfl rfl (.cmp rfl rfl rfl) (.m rfl rfl rfl (.pickF rfl rfl) ?_)))
  refine .nil ?_
  refine hK11 _ _ ?_
  refine .cond rfl (fun h40 => ?_) (fun h40 => ?_)
  ·
   try simp only [sps] at h40
   refine .seq (fun K13 hK13 => ?_)
   refine .region (.m rfl rfl rfl (.assign rfl) (.nil ?_))
   refine hK13 _ _ ?_
   refine .ret ?_
   refine hret _ _ ?_
   refine ⟨_, rfl, ?_⟩
   first
   | exact rfl
   | exact absurd trivial (by assumption)
   | contradiction
   | (exfalso; omega)
  try simp only [sps] at h40
  refine .skip ?_
  refine hK10 _ _ ?_
  refine .seq (fun K14 hK14 => ?_)
  refine .seq (fun K15 hK15 => ?_)
  refine .regionD mixed_orders_B (.q 0 (.q 1 (.c 2 1 (.c 3 0 (.q 4 (.done)))))) (by kernel_rfl) ?_
  refine .m rfl rfl rfl rfl (.refl _) (.loadM ag_34_E rfl ⟨rfl, Mem.of_get at6003⟩) ?_
  refine .m rfl rfl rfl rfl (.refl _) (.loadM ag_27_LAllCones rfl ⟨rfl, Mem.of_get at1⟩) ?_
  refine .call1 rfl rfl rfl rfl rfl @Try.call10 rfl (toFunctor_c) ?_
  rintro _ H43 ⟨le43, p43, rfl, v43⟩
  have hbl := le43
  refine ⟨hbl, ?_⟩
  have nx_H43 := le43.1
  replace hle := hle.trans le43
  replace at1 := le43.2 _ _ at1
  replace at6003 := le43.2 _ _ at6003
  replace lv_v21 := Keep.le lv_v21 le43
  replace v21 := bs_v21.keep lv_v21 (Nat.le_refl _)
  replace lv_v22 := Keep.le lv_v22 le43
  replace v22 := bs_v22.keep lv_v22 (Nat.le_refl _)
  replace lv_v26 := Keep.le lv_v26 le43
  replace v26 := bs_v26.keep lv_v26 (Nat.le_refl _)
  replace lv_v29 := Keep.le lv_v29 le43
  replace v29 := bs_v29.keep lv_v29 (Nat.le_refl _)
  have bs_v43 := v43
  have lv_v43 : Keep H29.next H43 H43 := fun _ _ _ h => h
  replace h0 := base_h0.mono hle
  clear hb1 fs1 ft1 c101 c111 j11 j21 hm1 hi1 hms1 his1 hmt1 hit1
  have hb1 : Fun.At _ g1 0 d p := ⟨Mem.of_get at1, h0⟩
  obtain ⟨fs1, ft1, c101, c111, j11, j21⟩ := hb1.get
  have hm1 : MemN _ _ _ _ _ := ⟨rfl, hb1.1⟩
  have hi1 := hb1.2
  have hms1 : MemN _ _ _ _ _ := ⟨rfl, fs1.1⟩
  have his1 := fs1.2
  have hmt1 : MemN _ _ _ _ _ := ⟨rfl, ft1.1⟩
  have hit1 := ft1.2
  clear i21
  have i21 := v21.inn
  clear i22
  have i22 := v22.view
  clear i26
  have i26 := v26.inn
  clear mm6003
  have mm6003 : MemN _ _ _ _ _ := ⟨rfl, Mem.of_get at6003⟩
  clear i29
  have i29 := v29.view
  have i43 := v43.inn
  refine .callQ0 rfl rfl rfl rfl rfl @Try.call13 rfl (eqFunctor_c) ?_
  refine .m rfl rfl rfl rfl (.refl _) (.not rfl) ?_
  refine .done ?_
  refine hK15 _ _ ?_
  refine .cond rfl (fun h45 => ?_) (fun h45 => ?_)
  ·
   try simp only [sps] at h45
   refine .seq (fun K16 hK16 => ?_)
   refine .region (.m rfl rfl rfl (.assign rfl) (.nil ?_))
   refine hK16 _ _ ?_
   refine .ret ?_
   refine hret _ _ ?_
   refine ⟨_, rfl, ?_⟩
   first
   | exact rfl
   | exact absurd trivial (by assumption)
   | contradiction
   | (exfalso; omega)
  try simp only [sps] at h45
  refine .skip ?_
  refine hK14 _ _ ?_
  refine .seq (fun K17 hK17 => ?_)
  refine .region (.m rfl rfl rfl (.assign rfl) (.nil ?_))
  refine hK17 _ _ ?_
  refine .seq (fun K18 hK18 => ?_)
  refine .region ?_
  refine .m rfl rfl rfl (.loadM ag_34_E rfl ⟨rfl, Mem.of_get at6003⟩) ?_
  refine .m rfl rfl rfl (.move rfl) ?_
  have w_v26 := FunW.of_at bs_v26 lv_v26
  refine .call rfl rfl rfl rfl @Try.call14 rfl (markFunctor_c) ?_
  rintro _ H48 ⟨rfl, mk48⟩
  have sm48 := mk48.stm
  have nx_H48 := sm48.nx
  replace hle := StM.le_left hle sm48 (by omega)
  replace at1 := sm48.same _ _ (by omega) at1
  replace at6003 := sm48.same _ _ (by omega) at6003
  replace lv_v21 := Keep.stM lv_v21 sm48 (fun k hb hk => by omega)
  replace v21 := bs_v21.keep lv_v21 (Nat.le_refl _)
  replace lv_v22 := Keep.stM lv_v22 sm48 (fun k hb hk => by omega)
  replace v22 := bs_v22.keep lv_v22 (Nat.le_refl _)
  replace lv_v29 := Keep.stM lv_v29 sm48 (fun k hb hk => by omega)
  replace v29 := bs_v29.keep lv_v29 (Nat.le_refl _)
  replace lv_v43 := Keep.stM lv_v43 sm48 (fun k hb hk => by omega)
  replace v43 := bs_v43.keep lv_v43 (Nat.le_refl _)
  replace h0 := base_h0.mono hle
  clear hb1 fs1 ft1 c101 c111 j11 j21 hm1 hi1 hms1 his1 hmt1 hit1
  have hb1 : Fun.At _ g1 0 d p := ⟨Mem.of_get at1, h0⟩
  obtain ⟨fs1, ft1, c101, c111, j11, j21⟩ := hb1.get
  have hm1 : MemN _ _ _ _ _ := ⟨rfl, hb1.1⟩
  have hi1 := hb1.2
  have hms1 : MemN _ _ _ _ _ := ⟨rfl, fs1.1⟩
  have his1 := fs1.2
  have hmt1 : MemN _ _ _ _ _ := ⟨rfl, ft1.1⟩
  have hit1 := ft1.2
  clear i21
  have i21 := v21.inn
  clear i22
  have i22 := v22.view
  clear mm6003
  have mm6003 : MemN _ _ _ _ _ := ⟨rfl, Mem.of_get at6003⟩
  clear i29
  have i29 := v29.view
  clear i43
  have i43 := v43.inn
  refine .m rfl rfl rfl (.assign rfl) (.nil ?_)
  refine hK18 _ _ ?_
  refine .seq (fun K19 hK19 => ?_)
  refine .seq (fun K20 hK20 => ?_)
  refine .region (.m rfl rfl rfl (.move rfl) (.m rfl rfl rfl (.cmp rfl rfl rfl) (.m rfl rfl rfl (.move rfl) ?_)))
  refine .split (fun h51 => ?_) (fun h51 => ?_)
  ·
   try simp only [sps] at h51
   refine .sg rfl rfl rfl rfl rfl (.sg rfl rfl rfl rfl rfl (.sg rfl rfl rfl rfl rfl (.sg rfl rfl rfl rfl rfl ?_)))
   refine .m rfl rfl rfl (.pickT rfl rfl) (.m rfl rfl rfl (.move rfl) (.sg rfl rfl rfl rfl rfl (.sg rfl rfl rfl rfl rfl ?_)))
   refine .sg rfl rfl rfl rfl rfl (.m rfl rfl rfl (.pickT rfl rfl) (.nil ?_))
   refine hK20 _ _ ?_
   refine .condT rfl ?_
   refine .seq (fun K21 hK21 => ?_)
   refine .region (.m rfl rfl rfl (.assign rfl) (.nil ?_))
   refine hK21 _ _ ?_
   refine .ret ?_
   refine hret _ _ ?_
   refine ⟨_, rfl, ?_⟩
   first
   | exact rfl
   | exact absurd trivial (by assumption)
   | contradiction
   | (exfalso; omega)
  try simp only [sps] at h51
  refine .mg rfl rfl rfl rfl rfl (.move rfl) (.mg rfl rfl rfl rfl rfl (.move rfl) ?_)
  refine .callQg rfl rfl rfl rfl rfl rfl @Try.call12 rfl (eqConeS_c) ?_
  refine .mg rfl rfl rfl rfl rfl (.not rfl) (.m rfl rfl rfl (.pickF rfl rfl) (.m rfl rfl rfl (.move rfl) ?_))
  refine .split (fun h57 => ?_) (fun h57 => ?_)
  ·
   try simp only [sps] at h57
   refine .sg rfl rfl rfl rfl rfl (.sg rfl rfl rfl rfl rfl (.sg rfl rfl rfl rfl rfl (.m rfl rfl rfl (.pickT rfl rfl) ?_)))
   refine .nil ?_
   refine hK20 _ _ ?_
   refine .condT rfl ?_
   refine .seq (fun K22 hK22 => ?_)
   refine .region (.m rfl rfl rfl (.assign rfl) (.nil ?_))
   refine hK22 _ _ ?_
   refine .ret ?_
   refine hret _ _ ?_
   refine ⟨_, rfl, ?_⟩
   first
   | exact rfl
   | exact absurd trivial (by assumption)
   | contradiction
   | (exfalso; omega)
  try simp only [sps] at h57
  refine .mg rfl rfl rfl rfl rfl (.move rfl) (.mg rfl rfl rfl rfl rfl (.move rfl) (.mg rfl rfl rfl rfl rfl (.cmp rfl rfl rfl) (.m rfl rfl rfl (.pickF rfl rfl) ?_)))
  refine .nil ?_
  refine hK20 _ _ ?_
  refine .cond rfl (fun h61 => ?_) (fun h61 => ?_)
  ·
   try simp only [sps] at h61
   refine .seq (fun K23 hK23 => ?_)
   refine .region (.m rfl rfl rfl (.assign rfl) (.nil ?_))
   refine hK23 _ _ ?_
   refine .ret ?_
   refine hret _ _ ?_
   refine ⟨_, rfl, ?_⟩
   first
   | exact rfl
   | exact absurd trivial (by assumption)
   | contradiction
   | (exfalso; omega)
  try simp only [sps] at h61
  refine .skip ?_
  refine hK19 _ _ ?_
  refine .seq (fun K24 hK24 => ?_)
  refine .region (.m rfl rfl rfl (.assign rfl) (.nil ?_))
  refine hK24 _ _ ?_
  refine .seq (fun K25 hK25 => ?_)
  refine .region (.m rfl rfl rfl (.move rfl) (.m rfl rfl rfl (.move rfl) ?_))
  have w_v29 := ConsW.of_r bs_v29 lv_v29
  refine .call rfl rfl rfl rfl @Try.call15 rfl (markConeS_c) ?_
  rintro _ H64 ⟨rfl, sk64, v64⟩
  have sm64 := sk64
  have nx_H64 := sm64.nx
  replace hle := StK.le_left hle sm64 (by omega)
  replace at1 := sm64.same _ _ (by omega) at1
  replace at6003 := sm64.same _ _ (by omega) at6003
  replace lv_v21 := Keep.stK lv_v21 sm64 (fun k hb hk => by omega)
  replace v21 := bs_v21.keep lv_v21 (Nat.le_refl _)
  replace lv_v22 := Keep.stK lv_v22 sm64 (fun k hb hk => by omega)
  replace v22 := bs_v22.keep lv_v22 (Nat.le_refl _)
  replace lv_v43 := Keep.stK lv_v43 sm64 (fun k hb hk => by omega)
  replace v43 := bs_v43.keep lv_v43 (Nat.le_refl _)
  replace h0 := base_h0.mono hle
  clear hb1 fs1 ft1 c101 c111 j11 j21 hm1 hi1 hms1 his1 hmt1 hit1
  have hb1 : Fun.At _ g1 0 d p := ⟨Mem.of_get at1, h0⟩
  obtain ⟨fs1, ft1, c101, c111, j11, j21⟩ := hb1.get
  have hm1 : MemN _ _ _ _ _ := ⟨rfl, hb1.1⟩
  have hi1 := hb1.2
  have hms1 : MemN _ _ _ _ _ := ⟨rfl, fs1.1⟩
  have his1 := fs1.2
  have hmt1 : MemN _ _ _ _ _ := ⟨rfl, ft1.1⟩
  have hit1 := ft1.2
  clear i21
  have i21 := v21.inn
  clear i22
  have i22 := v22.view
  clear mm6003
  have mm6003 : MemN _ _ _ _ _ := ⟨rfl, Mem.of_get at6003⟩
  clear i43
  have i43 := v43.inn
  have bs_v64 := v64
  have lv_v64 : Keep H6003.next H64 H64 := fun _ _ _ h => h
  have i64 := v64.view
  refine .m rfl rfl rfl (.assign rfl) (.nil ?_)
  refine hK25 _ _ ?_
  refine .seq (fun K26 hK26 => ?_)
  refine .region (.m rfl rfl rfl (.assign rfl) (.nil ?_))
  refine hK26 _ _ ?_
  refine .seq (fun K27 hK27 => ?_)
  refine .region (.m rfl rfl rfl (.move rfl) (.m rfl rfl rfl (.move rfl) ?_))
  refine .callQ rfl rfl rfl rfl @Try.call16 rfl (heldConeS_c) ?_
  refine .m rfl rfl rfl (.assign rfl) (.nil ?_)
  refine hK27 _ _ ?_
  refine .seq (fun K28 hK28 => ?_)
  refine .seq (fun K29 hK29 => ?_)
  refine .region (.m rfl rfl rfl (.move rfl) (.m rfl rfl rfl (.cmp rfl rfl rfl) (.nil ?_)))
  refine hK29 _ _ ?_
  refine .cond rfl (fun h69 => ?_) (fun h69 => ?_)
  ·
   try simp only [sps] at h69
   refine .seq (fun K30 hK30 => ?_)
   refine .region (.m rfl rfl rfl (.assign rfl) (.nil ?_))
   refine hK30 _ _ ?_
   refine .ret ?_
   refine hret _ _ ?_
   refine ⟨_, rfl, ?_⟩
   first
   | exact rfl
   | exact absurd trivial (by assumption)
   | contradiction
   | (exfalso; omega)
  try simp only [sps] at h69
  refine .skip ?_
  refine hK28 _ _ ?_
  refine .seq (fun K31 hK31 => ?_)
  refine .seq (fun K32 hK32 => ?_)
  refine .region (.m rfl rfl rfl (.move rfl) (.m rfl rfl rfl (.move rfl) (.m rfl rfl rfl (.cmp rfl rfl rfl) ?_)))
  refine .nil ?_
  refine hK32 _ _ ?_
  refine .cond rfl (fun h72 => ?_) (fun h72 => ?_)
  ·
   try simp only [sps] at h72
   refine .seq (fun K33 hK33 => ?_)
   refine .region (.m rfl rfl rfl (.assign rfl) (.nil ?_))
   refine hK33 _ _ ?_
   refine .ret ?_
   refine hret _ _ ?_
   refine ⟨_, rfl, ?_⟩
   first
   | exact rfl
   | exact absurd trivial (by assumption)
   | contradiction
   | (exfalso; omega)
  try simp only [sps] at h72
  refine .skip ?_
  refine hK31 _ _ ?_
  refine .seq (fun K34 hK34 => ?_)
  refine .region ?_
  refine .m rfl rfl rfl (.loadM ag_27_LAllCones rfl ⟨rfl, Mem.of_get at1⟩) ?_
  refine .call rfl rfl rfl rfl @Try.call10 rfl (toFunctor_c) ?_
  rintro _ H75 ⟨le75, p75, rfl, v75⟩
  have nx_H75 := le75.1
  replace hle := hle.trans le75
  replace at1 := le75.2 _ _ at1
  replace at6003 := le75.2 _ _ at6003
  replace lv_v21 := Keep.le lv_v21 le75
  replace v21 := bs_v21.keep lv_v21 (Nat.le_refl _)
  replace lv_v22 := Keep.le lv_v22 le75
  replace v22 := bs_v22.keep lv_v22 (Nat.le_refl _)
  replace lv_v43 := Keep.le lv_v43 le75
  replace v43 := bs_v43.keep lv_v43 (Nat.le_refl _)
  replace lv_v64 := Keep.le lv_v64 le75
  replace v64 := bs_v64.keep lv_v64 (Nat.le_refl _)
  have bs_v75 := v75
  have lv_v75 : Keep H64.next H75 H75 := fun _ _ _ h => h
  replace h0 := base_h0.mono hle
  clear hb1 fs1 ft1 c101 c111 j11 j21 hm1 hi1 hms1 his1 hmt1 hit1
  have hb1 : Fun.At _ g1 0 d p := ⟨Mem.of_get at1, h0⟩
  obtain ⟨fs1, ft1, c101, c111, j11, j21⟩ := hb1.get
  have hm1 : MemN _ _ _ _ _ := ⟨rfl, hb1.1⟩
  have hi1 := hb1.2
  have hms1 : MemN _ _ _ _ _ := ⟨rfl, fs1.1⟩
  have his1 := fs1.2
  have hmt1 : MemN _ _ _ _ _ := ⟨rfl, ft1.1⟩
  have hit1 := ft1.2
  clear i21
  have i21 := v21.inn
  clear i22
  have i22 := v22.view
  clear mm6003
  have mm6003 : MemN _ _ _ _ _ := ⟨rfl, Mem.of_get at6003⟩
  clear i43
  have i43 := v43.inn
  clear i64
  have i64 := v64.view
  have i75 := v75.inn
  refine .call rfl rfl rfl rfl @Try.call11 rfl (implAllCones_c) ?_
  rintro _ H76 ⟨le76, a76, r76, rfl, v76⟩
  have nx_H76 := le76.1
  replace hle := hle.trans le76
  replace at1 := le76.2 _ _ at1
  replace at6003 := le76.2 _ _ at6003
  replace lv_v21 := Keep.le lv_v21 le76
  replace v21 := bs_v21.keep lv_v21 (Nat.le_refl _)
  replace lv_v22 := Keep.le lv_v22 le76
  replace v22 := bs_v22.keep lv_v22 (Nat.le_refl _)
  replace lv_v43 := Keep.le lv_v43 le76
  replace v43 := bs_v43.keep lv_v43 (Nat.le_refl _)
  replace lv_v64 := Keep.le lv_v64 le76
  replace v64 := bs_v64.keep lv_v64 (Nat.le_refl _)
  replace lv_v75 := Keep.le lv_v75 le76
  replace v75 := bs_v75.keep lv_v75 (Nat.le_refl _)
  have bs_v76 := v76
  have lv_v76 : Keep H75.next H76 H76 := fun _ _ _ h => h
  replace h0 := base_h0.mono hle
  clear hb1 fs1 ft1 c101 c111 j11 j21 hm1 hi1 hms1 his1 hmt1 hit1
  have hb1 : Fun.At _ g1 0 d p := ⟨Mem.of_get at1, h0⟩
  obtain ⟨fs1, ft1, c101, c111, j11, j21⟩ := hb1.get
  have hm1 : MemN _ _ _ _ _ := ⟨rfl, hb1.1⟩
  have hi1 := hb1.2
  have hms1 : MemN _ _ _ _ _ := ⟨rfl, fs1.1⟩
  have his1 := fs1.2
  have hmt1 : MemN _ _ _ _ _ := ⟨rfl, ft1.1⟩
  have hit1 := ft1.2
  clear i21
  have i21 := v21.inn
  clear i22
  have i22 := v22.view
  clear mm6003
  have mm6003 : MemN _ _ _ _ _ := ⟨rfl, Mem.of_get at6003⟩
  clear i43
  have i43 := v43.inn
  clear i64
  have i64 := v64.view
  clear i75
  have i75 := v75.inn
  have i76 := v76.view
  refine .m rfl rfl rfl (.move rfl) (.m rfl rfl rfl (.extract rfl rfl) (.m rfl rfl rfl (.extract rfl rfl) (.m rfl rfl rfl (.assign rfl) ?_)))
  refine .m rfl rfl rfl (.assign rfl) (.nil ?_)
  refine hK34 _ _ ?_
  refine .seq (fun K35 hK35 => ?_)
  refine .seq (fun K36 hK36 => ?_)
  refine .region (.m rfl rfl rfl (.move rfl) (.m rfl rfl rfl (.move rfl) ?_))
  refine .callQ rfl rfl rfl rfl @Try.call12 rfl (eqConeS_c) ?_
  refine .m rfl rfl rfl (.not rfl) (.m rfl rfl rfl (.move rfl) ?_)
  refine .split (fun h83 => ?_) (fun h83 => ?_)
  ·
   try simp only [sps] at h83
   refine .sg rfl rfl rfl rfl rfl (.sg rfl rfl rfl rfl rfl (.sg rfl rfl rfl rfl rfl (.m rfl rfl rfl (.pickT rfl rfl) ?_)))
   refine .nil ?_
   refine hK36 _ _ ?_
   refine .condT rfl ?_
   refine .seq (fun K37 hK37 => ?_)
   refine .region (.m rfl rfl rfl (.assign rfl) (.nil ?_))
   refine hK37 _ _ ?_
   refine .ret ?_
   refine hret _ _ ?_
   refine ⟨_, rfl, ?_⟩
   first
   | exact rfl
   | exact absurd trivial (by assumption)
   | contradiction
   | (exfalso; omega)
  try simp only [sps] at h83
  refine .mg rfl rfl rfl rfl rfl (.move rfl) (.mg rfl rfl rfl rfl rfl (.move rfl) (.mg rfl rfl rfl rfl rfl (.cmp rfl rfl rfl) (.m rfl rfl rfl (.pickF rfl rfl) ?_)))
  refine .nil ?_
  refine hK36 _ _ ?_
  refine .cond rfl (fun h87 => ?_) (fun h87 => ?_)
  ·
   try simp only [sps] at h87
   refine .seq (fun K38 hK38 => ?_)
   refine .region (.m rfl rfl rfl (.assign rfl) (.nil ?_))
   refine hK38 _ _ ?_
   refine .ret ?_
   refine hret _ _ ?_
   refine ⟨_, rfl, ?_⟩
   first
   | exact rfl
   | exact absurd trivial (by assumption)
   | contradiction
   | (exfalso; omega)
  try simp only [sps] at h87
  refine .skip ?_
  refine hK35 _ _ ?_
  refine .seq (fun K39 hK39 => ?_)
  refine .region (.m rfl rfl rfl (.assign rfl) (.nil ?_))
  refine hK39 _ _ ?_
  refine .seq (fun K40 hK40 => ?_)
  refine .region (.m rfl rfl rfl (.move rfl) (.m rfl rfl rfl (.move rfl) ?_))
  refine .callQ rfl rfl rfl rfl @Try.call16 rfl (heldConeS_c) ?_
  refine .m rfl rfl rfl (.assign rfl) (.nil ?_)
  refine hK40 _ _ ?_
  refine .seq (fun K41 hK41 => ?_)
  refine .seq (fun K42 hK42 => ?_)
  refine .region (.m rfl rfl rfl (.move rfl) (.m rfl rfl rfl (.cmp rfl rfl rfl) (.nil ?_)))
  refine hK42 _ _ ?_
  refine .cond rfl (fun h92 => ?_) (fun h92 => ?_)
  ·
   try simp only [sps] at h92
   refine .seq (fun K43 hK43 => ?_)
   refine .region (.m rfl rfl rfl (.assign rfl) (.nil ?_))
   refine hK43 _ _ ?_
   refine .ret ?_
   refine hret _ _ ?_
   refine ⟨_, rfl, ?_⟩
   first
   | exact rfl
   | exact absurd trivial (by assumption)
   | contradiction
   | (exfalso; omega)
  try simp only [sps] at h92
  refine .skip ?_
  refine hK41 _ _ ?_
  refine .seq (fun K44 hK44 => ?_)
  refine .seq (fun K45 hK45 => ?_)
  refine .region (.m rfl rfl rfl (.move rfl) (.m rfl rfl rfl (.move rfl) (.m rfl rfl rfl (.cmp rfl rfl rfl) ?_)))
  refine .nil ?_
  refine hK45 _ _ ?_
  refine .cond rfl (fun h95 => ?_) (fun h95 => ?_)
  ·
   try simp only [sps] at h95
   refine .seq (fun K46 hK46 => ?_)
   refine .region (.m rfl rfl rfl (.assign rfl) (.nil ?_))
   refine hK46 _ _ ?_
   refine .ret ?_
   refine hret _ _ ?_
   refine ⟨_, rfl, ?_⟩
   first
   | exact rfl
   | exact absurd trivial (by assumption)
   | contradiction
   | (exfalso; omega)
  try simp only [sps] at h95
  refine .skip ?_
  refine hK44 _ _ ?_
  refine .seq (fun K47 hK47 => ?_)
  refine .region (.m rfl rfl rfl (.assign rfl) (.nil ?_))
  refine hK47 _ _ ?_
  refine .ret ?_
  refine hret _ _ ?_
  refine ⟨_, rfl, ?_⟩
  first
  | exact rfl
  | exact absurd trivial (by assumption)
  | contradiction
  | (exfalso; omega)
end Go.Proofs.Ytpmjlhbglcaokaa
/- The call of a law, whatever it takes: the arguments brought in one by one. No condition. -/
namespace Go.GL
open Go.RowKit Go.WideShapes Go.ChangeShapes Go.Deep

/-- An argument of type t may be brought in so that R holds of what stands for it. -/
structure Imp1 (P : Program) (t : TypeId) (R : GHeap → Value → Prop) : Prop where
  mono : ∀ {H H' : GHeap} {g : Value}, H.Le H' → R H g → R H' g
  imp : ∀ {T : Type} {enc : TypeId × Value → T} {B : Nat} {w0 : World} {ρ : Place} {H : GHeap} {w : World} {held : Bool} {base fuel : Nat} {v : Value} {x : DataW T × List MemPlace}, Sim P B w0 ρ H w → w.heap.size ≤ B →
    DataW.trod enc P w 0 (fun _ => true) held fuel t v.cells.toList = some x → Value.okWide P w .any base t v → ∃ ρ' H' g, Sim P B w0 ρ' H' w ∧ Ext ρ ρ' ∧ H.Le H' ∧ VRel ρ' g v ∧ R H' g

def structT (P : Program) (t : TypeId) : Bool := match P.underlying t with | some (.struct _) => true | _ => false
theorem imp1_struct {P : Program} {t : TypeId} {α β : Type} {cells : α → β → List Value} {I : GHeap → α → β → Prop} {W : α → Prop} (hm : ∀ {H H' : GHeap} {c : α} {p : β}, I H c p → H.Le H' → I H' c p)
    (hI : Imports P t (fun ρ H cs => ∃ (c : α) (p : β), LRel ρ (cells c p) cs ∧ I H c p ∧ W c)) (hst : structT P t = true) : Imp1 P t (fun H g => ∃ (c : α) (p : β), g = .agg (cells c p).toArray ∧ I H c p ∧ W c) where
  mono h := fun ⟨c, p, h1, h2, h3⟩ => ⟨c, p, h1, hm h2 h, h3⟩
  imp := by
    intro T enc B w0 ρ H w held base fuel v x hs hB h hv
    have hagg : ∃ cs, v = .agg cs := by
      unfold Value.okWide at hv
      unfold structT at hst
      split at hst
      · rename_i fs hu
        rw [hu] at hv
        obtain ⟨cs, h, _⟩ := hv
        exact ⟨cs, h⟩
      · cases hst
    obtain ⟨cs, rfl⟩ := hagg
    obtain ⟨ρ', H', h1, h2, h3, c, p, h4, h5, h6⟩ := hI hs hB h
    exact ⟨ρ', H', _, h1, h2, h3, by have := VRel.agg_of h4; simpa [Value.cells] using this, c, p, rfl, h5, h6⟩
/-- Arguments of types ts may be brought in so that R holds of what stands for them. -/
structure ImpAll (P : Program) (ts : List TypeId) (R : GHeap → List Value → Prop) : Prop where
  imp : ∀ {T : Type} {enc : TypeId × Value → T} {B : Nat} {w0 : World} {ρ : Place} {H : GHeap} {w : World} {base : Nat} {vs : List Value} {ds : List (DataW T)} {ps : List MemPlace}, Sim P B w0 ρ H w → w.heap.size ≤ B →
    DataW.TrodAll enc P w 0 (fun _ => true) true ts vs ds ps → (∀ (j : Nat) t v, ts[j]? = some t → vs[j]? = some v → Value.okWide P w .any base t v) → ds.length = ts.length ∧ ∃ ρ' H' gs, Sim P B w0 ρ' H' w ∧ Ext ρ ρ' ∧ H.Le H' ∧ LRel ρ' gs vs ∧ R H' gs
theorem ImpAll.nil {P : Program} : ImpAll P [] (fun _ gs => gs = []) where
  imp := by
    intro T enc B w0 ρ H w base vs ds ps hs hB h hv
    obtain ⟨rfl, rfl, rfl⟩ := trodAll_nil h
    exact ⟨rfl, ρ, H, [], hs, .refl ρ, .refl H, .nil ρ, rfl⟩
theorem ImpAll.cons {P : Program} {t : TypeId} {ts : List TypeId} {R1 : GHeap → Value → Prop} {R : GHeap → List Value → Prop} (h1 : Imp1 P t R1) (h2 : ImpAll P ts R) : ImpAll P (t :: ts) (fun H gs => ∃ g r, gs = g :: r ∧ R1 H g ∧ R H r) where
  imp := by
    intro T enc B w0 ρ H w base vs ds ps hs hB h hv
    obtain ⟨v, vs, d, ds, p, q, rfl, rfl, rfl, ⟨fuel, k1⟩, k2⟩ := trodAll_cons h
    obtain ⟨ρ1, H1, g, s1, e1, l1, v1, r1⟩ := h1.imp hs hB k1 (hv 0 t v rfl rfl)
    obtain ⟨hl, ρ2, H2, gs, s2, e2, l2, v2, r2⟩ := h2.imp s1 hB k2 (fun j t v ht hj => hv (j + 1) t v (by simpa using ht) (by simpa using hj))
    exact ⟨by simp [hl], ρ2, H2, g :: gs, s2, e1.trans e2, l1.trans l2, .cons (v1.mono e2) v2, g, gs, rfl, h1.mono l2 r1, r2⟩

/-- The call of a law. -/
theorem law_calls {P : Program} {f : FuncId} {fn : Func} {ts : List TypeId} {tb : TypeId} {R : GHeap → List Value → Prop} (hI : ImpAll P ts R) (hp : fn.params = ts.toArray)
    (hc : ∀ H gs, R H gs → GCalls P f gs H fun v _ => v = .bool true)
    {T : Type} {enc : TypeId × Value → T} {W : World} {base : Nat} {args : Array Value} {s : ChangeSpec} {apart fresh handsOn again : Bool} {ds gs : List (DataW T)} {before : List MemPlace}
    (hval : ∀ (j : Nat) t v, fn.params[j]? = some t → args[j]? = some v → Value.okWide P W .any base t v)
    (hW : DataW.Whole enc P fn.params.toList s.vars apart W args.toList ds gs before)
    (hl : laidOutB P = true) (hr : readB P fn.params.toList = true) (hv : s.vars = []) (hrt : fn.resultTypes = #[tb]) (htb : P.underlying tb = some .bool)
    (hs : ∀ ds : List (DataW T), ds.length = ts.length → (s.fn T ds).results = [.lit (.bool true)] ∧ (s.fn T ds).args = ds ∧ (s.fn T ds).vars = []) :
    Calls P f args W fun e W' => ∃ v, e = .returned v ∧ s.post enc P fn apart fresh handsOn again W args v W' := by
  have hWW := hW
  obtain ⟨p, q, hA, _⟩ := hW
  rw [hp] at hA
  obtain ⟨hlen, ρ, H, gs', hs', _, _, hrel, hR⟩ := hI.imp (base := base) (Sim.start P W) (Nat.le_refl _) (by simpa using hA) (fun j t v ht hj => hval j t v (by rw [hp]; simpa using ht) (by simpa using hj))
  have := (hc H gs' hR) _ _ ρ args.toList W hs' hrel
  rw [Array.toArray_toList] at this
  refine this.mono fun e W' ⟨v, c, ρ', H', he, hv', _, hsim, hrv⟩ => ?_
  subst hv'
  cases hrv
  exact ⟨_, he, law_post hl hr hv hrt htb hWW (hs ds hlen).1 (hs ds hlen).2.1 (hs ds hlen).2.2 hsim.below⟩
end Go.GL
