/- All cones: the program's. No condition but those of each statement. -/
import Derived.Test.YtpmjlhbglcaokaaZ10
namespace Go.Proofs.Ytpmjlhbglcaokaa
open Go Go.GL Go.RowKit Go.Proofs
theorem on_29_Hi : oneT Try.prog 29 = true := by kernel_rfl
theorem bt_42_Hi : buildT Try.prog 42 = some ([.int .i64 0, .slice none 0 0], [(0, 1), (1, 1)]) := by kernel_rfl
theorem sl_29_Hi : sliceT Try.prog 29 = some (42, 2) := by kernel_rfl
theorem ze_42_Hi : zeroT Try.prog 42 = some ([.int .i64 0, .slice none 0 0], 2) := by kernel_rfl
theorem by_42_Hi : (Try.prog.info? 42).map (·.bytes) = some 32 := by kernel_rfl
theorem sz_29_Hi : (Try.prog.info? 29).map (·.size) = some 1 := by kernel_rfl
theorem ze_29_Hi : zeroT Try.prog 29 = some ([.slice none 0 0], 1) := by kernel_rfl
/-- What the closure of all cones gathers. -/
theorem allCones1_c {go gx gF gc b0 e0 b : Nat} {x : Int} {pre : List Con} {q : List Int} {fs : List (List Int)} {H : GHeap} (hA : GathC 29 42 2 2 go gx b0 e0 x pre b fs gF H) (hgc : H.get gc = some (.row (ints q) 2 true)) (n1 : gc ≠ go) (n2 : gc ≠ gF) (n6 : go ≠ gx) (hb : b ≤ H.next) (hb0 : b0 ≤ b) (hfs : pre.length + fs.length ≤ 400) (hq : q.length ≤ 8) :
    GCalls Try.prog 82 [.slice (some ⟨gc, 0, none⟩) q.length q.length, .pointer (some ⟨go, 0, none⟩), .pointer (some ⟨gx, 0, none⟩)] H (fun v H' => v = .bool (decide (fs.length + 1 ≤ 400 - pre.length)) ∧ ∃ gF', (gF' = gF ∨ H.next ≤ gF') ∧ gF' < H'.next ∧ St [go, gF] H H' ∧ GathC 29 42 2 2 go gx b0 e0 x pre b (fs ++ [q]) gF' H') := by
  obtain ⟨hd, hmo, r, hgF, hR, hside⟩ := hA
  have hd0 := hd
  have hgF0 := hgF
  have n3 := row_ne hd hgF rfl
  have n4 := row_ne hmo hgF rfl
  have hln : (pre ++ fs.map fun l => (⟨x, l⟩ : Con)).length = pre.length + fs.length := by simp
  have hfl := length_conV r (pre ++ fs.map fun l => (⟨x, l⟩ : Con))
  refine GCalls.body (N := 15) (rs := [.tmp 4]) Try.func82 rfl rfl rfl rfl (fun Qx hret hend => ?_)
  refine .forget (fr' := [(0, some _), (1, some _), (2, some _)]) ⟨rfl, rfl, rfl, trivial⟩ ?_
  have lt_hgc := GHeap.lt_of_get hgc
  have lt_hd := GHeap.lt_of_get hd
  have lt_hmo := GHeap.lt_of_get hmo
  have lt_hgF := GHeap.lt_of_get hgF
  have hfo := St.refl [go, gF] H
  refine .seq (fun K1 hK1 => ?_)
  refine .region (.m rfl rfl rfl (.assign rfl) (.nil ?_))
  refine hK1 _ _ ?_
  refine .seq (fun K2 hK2 => ?_)
  refine .regionD mixed_orders_B (.q 0 (.q 1 (.q 2 (.c 3 1 (.q 4 (.c 5 1 (.c 6 0 (.c 7 0 (.done))))))))) (by kernel_rfl) ?_
  refine .m rfl rfl rfl rfl (.refl _) (.load on_29_Hi rfl (by first | assumption | exact Mem.of_get hd 0 _ rfl)) ?_
  refine .m rfl rfl rfl rfl (.refl _) (.load on_2_A rfl (by first | assumption | exact Mem.of_get hmo 0 _ rfl)) ?_
  refine .m rfl rfl rfl rfl (.refl _) (.move rfl) ?_
  refine .call1 rfl rfl rfl rfl rfl @Try.call83 rfl (clone_c (Ints.of_get hgc)) ?_
  rintro _ H8 ⟨le8, g8, rfl, at8, ge8⟩
  have hbl := le8
  refine ⟨hbl, ?_⟩
  have nx_H8 := le8.1
  replace hfo := hfo.le le8
  replace hgc := le8.2 _ _ hgc
  replace hd := le8.2 _ _ hd
  replace hmo := le8.2 _ _ hmo
  replace hgF := le8.2 _ _ hgF
  have lt_at8 := GHeap.lt_of_get at8
  have i8 := Ints.of_get at8
  refine .m rfl rfl rfl rfl hbl (.build bt_42_Hi rfl rfl rfl) ?_
  refine .c1 rfl rfl rfl rfl (.litR rfl sl_29_Hi ze_42_Hi rfl rfl (by omega) (by omega) rfl rfl) ?_
  rintro _ H10 ⟨g10, rfl, le10, ge10, at10⟩
  have hbl := le10
  refine ⟨hbl, ?_⟩
  have nx_H10 := le10.1
  replace hfo := hfo.le le10
  replace hgc := le10.2 _ _ hgc
  replace hd := le10.2 _ _ hd
  replace hmo := le10.2 _ _ hmo
  replace hgF := le10.2 _ _ hgF
  replace at8 := le10.2 _ _ at8
  have lt_at10 := GHeap.lt_of_get at10
  clear i8
  have i8 := Ints.of_get at8
  refine .c0 rfl rfl rfl rfl (.appendV rfl sl_29_Hi ze_42_Hi rfl by_42_Hi sl_29_Hi rfl rfl (by assumption) (by assumption) (by first | omega | (simp <;> omega)) rfl rfl (by omega) (by omega)) ?_
  rintro _ H11 ⟨g11, rfl, st11, ge11, at11⟩
  have nx_H11 := st11.nx
  replace hfo := hfo.st st11 (fun k hk ho => by simp only [out, and_true] at ho ⊢ <;> omega)
  replace hgc := st11.same _ _ ⟨by omega, trivial⟩ hgc
  replace hd := st11.same _ _ ⟨by omega, trivial⟩ hd
  replace hmo := st11.same _ _ ⟨by omega, trivial⟩ hmo
  replace at8 := st11.same _ _ ⟨by omega, trivial⟩ at8
  replace at10 := st11.same _ _ ⟨by omega, trivial⟩ at10
  have lt_at11 := GHeap.lt_of_get at11
  clear i8
  have i8 := Ints.of_get at8
  refine .r0 rfl rfl rfl (.storeR rfl sz_29_Hi rfl rfl rfl (by assumption) (by first | exact Nat.le_of_ble_eq_true rfl | (simp; done) | (simp <;> omega))) ?_
  rintro _ H1007 ⟨rfl, st1007, at1007⟩
  have nx_H1007 := st1007.nx
  replace hfo := hfo.st st1007 (fun k hk ho => by simp only [out, and_true] at ho ⊢ <;> omega)
  replace hgc := st1007.same _ _ ⟨by omega, trivial⟩ hgc
  replace hmo := st1007.same _ _ ⟨by omega, trivial⟩ hmo
  replace at8 := st1007.same _ _ ⟨by omega, trivial⟩ at8
  replace at10 := st1007.same _ _ ⟨by omega, trivial⟩ at10
  replace at11 := st1007.same _ _ ⟨by omega, trivial⟩ at11
  have lt_at1007 := GHeap.lt_of_get at1007
  clear i8
  have i8 := Ints.of_get at8
  try simp only [Nat.zero_add, List.set_cons_succ, List.set_cons_zero] at at1007
  refine .done ?_
  refine hK2 _ _ ?_
  refine .seq (fun K3 hK3 => ?_)
  refine .region ?_
  refine .m rfl rfl rfl (.load on_29_Hi rfl (by first | assumption | exact Mem.of_get at1007 0 _ rfl)) ?_
  refine .m rfl rfl rfl (.len sl_29_Hi rfl) (.m rfl rfl rfl (.cmp rfl rfl rfl) (.m rfl rfl rfl (.assign rfl) (.nil ?_)))
  refine hK3 _ _ ?_
  refine .ret ?_
  refine hret _ _ ?_
  refine ⟨_, rfl, ?_⟩
  have hsn : pre ++ (fs ++ [q]).map (fun l => (⟨x, l⟩ : Con)) = (pre ++ fs.map fun l => (⟨x, l⟩ : Con)) ++ [⟨x, q⟩] := by simp
  have hw0 := hR.st hfo (.cons (hR.neT hd0 rfl) (.cons (hR.neT hgF0 rfl) (.nil _ _)))
  have hw := hw0.snoc2 (x := q) at8 (hR.ne (by omega)) (by omega)
  rw [List.length_map] at hw
  refine ⟨congrArg _ (decide_eq_decide.2 (by omega)), g11, .inr (by omega), by omega, hfo, ?_, hmo, ⟨upd r (pre ++ fs.map fun l => (⟨x, l⟩ : Con)).length (some ⟨g8, 0, none⟩), ?_, ?_, fun i hi g hg => ?_⟩⟩
  · rw [hsn, List.length_append]; exact at1007
  · rw [hsn, conV_snoc]; exact at11
  · rw [hsn, List.map_append]; exact hw
  · by_cases e : i = (pre ++ fs.map fun l => (⟨x, l⟩ : Con)).length
    · subst e
      rw [upd_eq] at hg
      cases hg
      right; omega
    · rw [upd_ne e] at hg
      rw [hsn, List.length_append, List.length_singleton] at hi
      exact hside i (by omega) g hg
set_option maxHeartbeats 4000000 in
theorem allCones_c {g o : Nat} {d : Fun} {p : FunP} {H : GHeap} (h : Fun.At H g o d p := by assumption) (hP : d.Is) :
    GCalls Try.prog 56 [.pointer (some ⟨g, o, none⟩)] H (fun v H' => H.Le H' ∧ ((400 < (d.coneL d.t.obj.toNat).length ∧ v = .tuple #[.slice none 0 0, .bool false]) ∨ ((d.coneL d.t.obj.toNat).length ≤ 400 ∧ ∃ gL r, v = .tuple #[.slice (some ⟨gL, 0, none⟩) (d.coneL d.t.obj.toNat).length (d.coneL d.t.obj.toNat).length, .bool true] ∧ H.next ≤ gL ∧ ConsAt 42 2 H.next H' gL r (d.coneL d.t.obj.toNat)))) := by
  have hob := hP.2.1.1.obj
  refine GCalls.body (N := 25) (rs := [.tmp 2, .tmp 3]) Try.func56 rfl rfl rfl rfl (fun Qx hret hend => ?_)
  refine .forget (fr' := [(0, some _)]) ⟨rfl, trivial⟩ ?_
  have hle := GHeap.Le.refl H
  have base_h := h
  obtain ⟨fs, ft, c10, c11, j1, j2⟩ := h.get
  have hm : MemN _ _ _ _ _ := ⟨rfl, h.1⟩
  have hi := h.2
  have hms : MemN _ _ _ _ _ := ⟨rfl, fs.1⟩
  have his := fs.2
  have hmt : MemN _ _ _ _ _ := ⟨rfl, ft.1⟩
  have hit := ft.2
  obtain ⟨s0, s1, s2, s3, s4, u1, u2, u3, u4⟩ := ft.get
  refine .seq (fun K1 hK1 => ?_)
  refine .region (.m rfl rfl rfl (.assign rfl) (.m rfl rfl rfl (.assign rfl) (.nil ?_)))
  refine hK1 _ _ ?_
  refine .seq (fun K2 hK2 => ?_)
  refine .region ?_
  refine .r rfl rfl rfl (.litR rfl sl_29_Hi ze_42_Hi rfl rfl (by omega) (by omega) rfl rfl) ?_
  rintro _ H7 ⟨g7, rfl, le7, ge7, at7⟩
  have nx_H7 := le7.1
  replace hle := hle.trans le7
  have lt_at7 := GHeap.lt_of_get at7
  replace h := base_h.mono hle
  clear fs ft c10 c11 j1 j2 hm hi hms his hmt hit s0 s1 s2 s3 s4 u1 u2 u3 u4
  obtain ⟨fs, ft, c10, c11, j1, j2⟩ := h.get
  have hm : MemN _ _ _ _ _ := ⟨rfl, h.1⟩
  have hi := h.2
  have hms : MemN _ _ _ _ _ := ⟨rfl, fs.1⟩
  have his := fs.2
  have hmt : MemN _ _ _ _ _ := ⟨rfl, ft.1⟩
  have hit := ft.2
  obtain ⟨s0, s1, s2, s3, s4, u1, u2, u3, u4⟩ := ft.get
  refine .r rfl rfl rfl (.allocR rfl ze_29_Hi rfl) ?_
  rintro _ H4 ⟨g4, rfl, le4, ge4, at4⟩
  have nx_H4 := le4.1
  replace hle := hle.trans le4
  replace at7 := le4.2 _ _ at7
  have lt_at4 := GHeap.lt_of_get at4
  replace h := base_h.mono hle
  clear fs ft c10 c11 j1 j2 hm hi hms his hmt hit s0 s1 s2 s3 s4 u1 u2 u3 u4
  obtain ⟨fs, ft, c10, c11, j1, j2⟩ := h.get
  have hm : MemN _ _ _ _ _ := ⟨rfl, h.1⟩
  have hi := h.2
  have hms : MemN _ _ _ _ _ := ⟨rfl, fs.1⟩
  have his := fs.2
  have hmt : MemN _ _ _ _ _ := ⟨rfl, ft.1⟩
  have hit := ft.2
  obtain ⟨s0, s1, s2, s3, s4, u1, u2, u3, u4⟩ := ft.get
  refine .r0 rfl rfl (.storeR rfl sz_29_Hi rfl rfl rfl (by assumption) (by first | exact Nat.le_of_ble_eq_true rfl | (simp; done) | (simp <;> omega))) ?_
  rintro _ H1002 ⟨rfl, st1002, at1002⟩
  have nx_H1002 := st1002.nx
  replace hle := hle.st st1002 (fun k hk => ⟨by omega, trivial⟩)
  replace at7 := st1002.same _ _ ⟨by omega, trivial⟩ at7
  have lt_at1002 := GHeap.lt_of_get at1002
  replace h := base_h.mono hle
  clear fs ft c10 c11 j1 j2 hm hi hms his hmt hit s0 s1 s2 s3 s4 u1 u2 u3 u4
  obtain ⟨fs, ft, c10, c11, j1, j2⟩ := h.get
  have hm : MemN _ _ _ _ _ := ⟨rfl, h.1⟩
  have hi := h.2
  have hms : MemN _ _ _ _ _ := ⟨rfl, fs.1⟩
  have his := fs.2
  have hmt : MemN _ _ _ _ _ := ⟨rfl, ft.1⟩
  have hit := ft.2
  obtain ⟨s0, s1, s2, s3, s4, u1, u2, u3, u4⟩ := ft.get
  try simp only [Nat.zero_add, List.set_cons_succ, List.set_cons_zero] at at1002
  refine .nil ?_
  refine hK2 _ _ ?_
  refine .seq (fun K3 hK3 => ?_)
  refine .seq (fun K4 hK4 => ?_)
  refine .region ?_
  refine .r rfl rfl rfl (.allocR rfl ze_2_E rfl) ?_
  rintro _ H5 ⟨g5, rfl, le5, ge5, at5⟩
  have nx_H5 := le5.1
  replace hle := hle.trans le5
  replace at7 := le5.2 _ _ at7
  replace at1002 := le5.2 _ _ at1002
  have lt_at5 := GHeap.lt_of_get at5
  replace h := base_h.mono hle
  clear fs ft c10 c11 j1 j2 hm hi hms his hmt hit s0 s1 s2 s3 s4 u1 u2 u3 u4
  obtain ⟨fs, ft, c10, c11, j1, j2⟩ := h.get
  have hm : MemN _ _ _ _ _ := ⟨rfl, h.1⟩
  have hi := h.2
  have hms : MemN _ _ _ _ _ := ⟨rfl, fs.1⟩
  have his := fs.2
  have hmt : MemN _ _ _ _ _ := ⟨rfl, ft.1⟩
  have hit := ft.2
  obtain ⟨s0, s1, s2, s3, s4, u1, u2, u3, u4⟩ := ft.get
  refine .r0 rfl rfl (.storeR rfl sz_2_E rfl rfl rfl (by assumption) (by first | exact Nat.le_of_ble_eq_true rfl | (simp; done) | (simp <;> omega))) ?_
  rintro _ H2001 ⟨rfl, st2001, at2001⟩
  have nx_H2001 := st2001.nx
  replace hle := hle.st st2001 (fun k hk => ⟨by omega, trivial⟩)
  replace at7 := st2001.same _ _ ⟨by omega, trivial⟩ at7
  replace at1002 := st2001.same _ _ ⟨by omega, trivial⟩ at1002
  have lt_at2001 := GHeap.lt_of_get at2001
  replace h := base_h.mono hle
  clear fs ft c10 c11 j1 j2 hm hi hms his hmt hit s0 s1 s2 s3 s4 u1 u2 u3 u4
  obtain ⟨fs, ft, c10, c11, j1, j2⟩ := h.get
  have hm : MemN _ _ _ _ _ := ⟨rfl, h.1⟩
  have hi := h.2
  have hms : MemN _ _ _ _ _ := ⟨rfl, fs.1⟩
  have his := fs.2
  have hmt : MemN _ _ _ _ _ := ⟨rfl, ft.1⟩
  have hit := ft.2
  obtain ⟨s0, s1, s2, s3, s4, u1, u2, u3, u4⟩ := ft.get
  try simp only [Nat.zero_add, List.set_cons_succ, List.set_cons_zero] at at2001
  refine .nil ?_
  refine hK4 _ _ ?_
  refine .block ?_
  refine .loopR (σ := Nat × Nat × Nat) [(0, some _), (4, some _)] (fun (x, gx, gV) => [(5, some (.pointer (some ⟨gx, 0, none⟩)))]) (fun (x, gx, gV) H' => St [g4, g7] H2001 H' ∧ x ≤ d.t.obj.toNat ∧ (d.coneL x).length ≤ 400 ∧ (gx = g5 ∨ H2001.next ≤ gx) ∧ gx < H'.next ∧ (gV = g7 ∨ H2001.next ≤ gV) ∧ gV < H'.next ∧ gx ≠ gV ∧ H'.get gx = some (.row [.int .i64 (x : Int)] 2 true) ∧ H'.get g4 = some (.row [.slice (some ⟨gV, 0, none⟩) (d.coneL x).length (d.coneL x).length] 29 true) ∧ ∃ r, H'.get gV = some (.row (conV r (d.coneL x)) 42 true) ∧ OwnL H.next H' 2 r ((d.coneL x).map Con.lg)) (fun (x, gx, gV) => d.t.obj.toNat - x) ((0, g5, g7)) ⟨rfl, rfl, trivial⟩ ⟨rfl, trivial⟩ ?_ ?_
  ·
   refine ⟨.refl _ _, ?_⟩
   exact ⟨by omega, by simp [Fun.coneL], .inl rfl, by omega, .inl rfl, by omega, by omega, at2001, at1002, fun _ => none, at7, .nil _ _ _ _⟩
  rintro ⟨x, gx, gV⟩ HL1 ⟨lst1, hI⟩ KL1 hKL1
  refine .forget (fr' := [(5, some (.pointer (some ⟨gx, 0, none⟩))), (0, some _), (4, some _)]) ⟨rfl, rfl, rfl, trivial⟩ ?_
  have nx_HL1 := lst1.nx
  replace hle := hle.st lst1 (fun k hk => ⟨by omega, by omega, trivial⟩)
  replace at2001 := lst1.same _ _ ⟨by omega, by omega, trivial⟩ at2001
  replace h := base_h.mono hle
  clear fs ft c10 c11 j1 j2 hm hi hms his hmt hit s0 s1 s2 s3 s4 u1 u2 u3 u4
  obtain ⟨fs, ft, c10, c11, j1, j2⟩ := h.get
  have hm : MemN _ _ _ _ _ := ⟨rfl, h.1⟩
  have hi := h.2
  have hms : MemN _ _ _ _ _ := ⟨rfl, fs.1⟩
  have his := fs.2
  have hmt : MemN _ _ _ _ _ := ⟨rfl, ft.1⟩
  have hit := ft.2
  obtain ⟨s0, s1, s2, s3, s4, u1, u2, u3, u4⟩ := ft.get
  obtain ⟨hx, hcl, hgx, hgxl, hgV, hgVl, hxv, hix, hd, r, hgc, hR⟩ := hI
  have c5 := Mem.of_get hix 0 _ rfl
  refine .seq (fun K5 hK5 => ?_)
  refine .seq (fun K6 hK6 => ?_)
  refine .regionD mixed_orders_B (.q 0 (.q 1 (.q 2 (.q 3 (.q 4 (.q 5 (.q 6 (.done)))))))) (by kernel_rfl) ?_
  refine .m rfl rfl rfl rfl (.refl _) (.load on_2_A rfl (by assumption)) ?_
  refine .m rfl rfl rfl rfl (.refl _) (.move rfl) (.m rfl rfl rfl rfl (.refl _) (.nilCheck rfl) (.m rfl rfl rfl rfl (.refl _) (.fieldAddr fo_34_1_E rfl) (.m rfl rfl rfl rfl (.refl _) (.fieldAddr fo_32_0_B rfl) ?_)))
  refine .m rfl rfl rfl rfl (.refl _) (.load on_2_A rfl (by assumption)) ?_
  refine .m rfl rfl rfl rfl (.refl _) (.cmp rfl rfl rfl) ?_
  refine .done ?_
  refine hK6 _ _ ?_
  refine .cond rfl (fun h14 => ?_) (fun h14 => ?_)
  ·
   simp only [sps] at h14
   refine .skip ?_
   refine hK5 _ _ ?_
   refine .seq (fun K7 hK7 => ?_)
   refine .block ?_
   refine .seq (fun K8 hK8 => ?_)
   refine .region (.m rfl rfl rfl (.move rfl) ?_)
   refine .m rfl rfl rfl (.load on_2_A rfl (by assumption)) ?_
   refine .m rfl rfl rfl (.makeFunc rfl) ?_
   have hears : Hears Try.prog 82 #[.pointer (some ⟨g4, 0, none⟩), .pointer (some ⟨gx, 0, none⟩)] HL1.next g4 (400 - (d.coneL x).length) 2 (fun b fs gF H' => GathC 29 42 2 2 g4 gx H.next HL1.next (x : Int) (d.coneL x) b fs gF H') := ⟨@Try.call82, fun h s => h.le s, fun h h1 h2 h3 s => h.st s (by omega) (by omega) h3 h1 h2, fun hA h1 h2 h3 h4 h5 h6 h7 _ => allCones1_c hA h5 (by omega) h3 (by omega) h4 (by omega) (by omega) h7⟩
   refine .call rfl rfl rfl rfl @Try.call81 rfl ((legs_c (H0 := H) (w := (x : Int)) (gF := gV) (g1 := g4) (fs := []) base_h hP hears hle (by omega) (by omega) (by omega) (by omega) (by simp) (fun b => ⟨by simpa using hd, hix, r, by simpa using hgc, by simpa using hR, fun i hi g hg => .inl (hR.side i (by simpa using hi) g hg)⟩))) ?_
   rintro _ H20 ⟨gF20, b20, rfl, hb20, hbb20, hg20, hl20, st20, hA20⟩
   obtain ⟨hd20, hix20, r20, hgF20, hR20, hsd20⟩ := hA20
   have rk20 := St.refl [] H20
   have nx_H20 := st20.nx
   replace hle := hle.st st20 (fun k hk => ⟨by omega, by omega, trivial⟩)
   replace lst1 := lst1.st st20 (fun k hk ho => by simp only [out, and_true] at ho ⊢ <;> omega)
   replace at2001 := st20.same _ _ ⟨by omega, by omega, trivial⟩ at2001
   have lt_hd20 := GHeap.lt_of_get hd20
   have lt_hgF20 := GHeap.lt_of_get hgF20
   replace h := base_h.mono hle
   clear fs ft c10 c11 j1 j2 hm hi hms his hmt hit s0 s1 s2 s3 s4 u1 u2 u3 u4
   obtain ⟨fs, ft, c10, c11, j1, j2⟩ := h.get
   have hm : MemN _ _ _ _ _ := ⟨rfl, h.1⟩
   have hi := h.2
   have hms : MemN _ _ _ _ _ := ⟨rfl, fs.1⟩
   have his := fs.2
   have hmt : MemN _ _ _ _ _ := ⟨rfl, ft.1⟩
   have hit := ft.2
   obtain ⟨s0, s1, s2, s3, s4, u1, u2, u3, u4⟩ := ft.get
   refine .m rfl rfl rfl (.assign rfl) (.nil ?_)
   refine hK8 _ _ ?_
   refine .seq (fun K9 hK9 => ?_)
   refine .region (.m rfl rfl rfl (.move rfl) (.m rfl rfl rfl (.not rfl) (.nil ?_)))
   refine hK9 _ _ ?_
   refine .cond rfl (fun h22 => ?_) (fun h22 => ?_)
   ·
    have hbig := Fun.coneL_big (d := d) (x := x) (n := d.t.obj.toNat) (by omega) (by have := of_decide_eq_false (bnot_T h22); rw [List.length_nil, Nat.zero_add] at this; exact this) hcl
    refine .seq (fun K10 hK10 => ?_)
    refine .region (.m rfl rfl rfl (.assign rfl) (.m rfl rfl rfl (.assign rfl) (.nil ?_)))
    refine hK10 _ _ ?_
    refine .ret ?_
    refine hret _ _ ?_
    refine ⟨_, _, rfl, rfl, ?_⟩
    exact ⟨hle, .inl ⟨hbig, rfl⟩⟩
   have hsm := of_decide_eq_true (bnot_f h22)
   rw [List.length_nil, Nat.zero_add] at hsm
   have hE := Fun.coneL_next hsm
   have hlen : (d.coneL (x + 1)).length ≤ 400 := by rw [Fun.coneL_succ, List.length_append, List.length_map]; omega
   rw [hE] at hd20 hgF20 hR20
   refine .skip ?_
   refine hK7 _ _ ?_
   refine .seq (fun K11 hK11 => ?_)
   refine .seq (fun K12 hK12 => ?_)
   refine .region ?_
   have c5b := Mem.of_get hix20 0 _ rfl
   refine .m rfl rfl rfl (.load on_2_A rfl (by assumption)) ?_
   refine .nil ?_
   refine hK12 _ _ ?_
   refine .region ?_
   refine .r rfl rfl rfl (.allocR rfl ze_2_E rfl) ?_
   rintro _ H5x2 ⟨g5x2, rfl, le5x2, ge5x2, at5x2⟩
   have nx_H5x2 := le5x2.1
   replace hle := hle.trans le5x2
   replace lst1 := lst1.le le5x2
   replace rk20 := rk20.le le5x2
   replace at2001 := le5x2.2 _ _ at2001
   replace hd20 := le5x2.2 _ _ hd20
   replace hgF20 := le5x2.2 _ _ hgF20
   have lt_at5x2 := GHeap.lt_of_get at5x2
   replace h := base_h.mono hle
   clear fs ft c10 c11 j1 j2 hm hi hms his hmt hit s0 s1 s2 s3 s4 u1 u2 u3 u4
   obtain ⟨fs, ft, c10, c11, j1, j2⟩ := h.get
   have hm : MemN _ _ _ _ _ := ⟨rfl, h.1⟩
   have hi := h.2
   have hms : MemN _ _ _ _ _ := ⟨rfl, fs.1⟩
   have his := fs.2
   have hmt : MemN _ _ _ _ _ := ⟨rfl, ft.1⟩
   have hit := ft.2
   obtain ⟨s0, s1, s2, s3, s4, u1, u2, u3, u4⟩ := ft.get
   refine .r0 rfl rfl (.storeR rfl sz_2_E rfl rfl rfl (by assumption) (by first | exact Nat.le_of_ble_eq_true rfl | (simp; done) | (simp <;> omega))) ?_
   rintro _ H9001 ⟨rfl, st9001, at9001⟩
   have nx_H9001 := st9001.nx
   replace hle := hle.st st9001 (fun k hk => ⟨by omega, trivial⟩)
   replace lst1 := lst1.st st9001 (fun k hk ho => by simp only [out, and_true] at ho ⊢ <;> omega)
   replace rk20 := rk20.st st9001 (fun k hk ho => by simp only [out, and_true] at ho ⊢ <;> omega)
   replace at2001 := st9001.same _ _ ⟨by omega, trivial⟩ at2001
   replace hd20 := st9001.same _ _ ⟨by omega, trivial⟩ hd20
   replace hgF20 := st9001.same _ _ ⟨by omega, trivial⟩ hgF20
   have lt_at9001 := GHeap.lt_of_get at9001
   replace h := base_h.mono hle
   clear fs ft c10 c11 j1 j2 hm hi hms his hmt hit s0 s1 s2 s3 s4 u1 u2 u3 u4
   obtain ⟨fs, ft, c10, c11, j1, j2⟩ := h.get
   have hm : MemN _ _ _ _ _ := ⟨rfl, h.1⟩
   have hi := h.2
   have hms : MemN _ _ _ _ _ := ⟨rfl, fs.1⟩
   have his := fs.2
   have hmt : MemN _ _ _ _ _ := ⟨rfl, ft.1⟩
   have hit := ft.2
   obtain ⟨s0, s1, s2, s3, s4, u1, u2, u3, u4⟩ := ft.get
   try simp only [Nat.zero_add, List.set_cons_succ, List.set_cons_zero] at at9001
   refine .nil ?_
   refine hK11 _ _ ?_
   refine .region ?_
   refine .m rfl rfl rfl (.load on_2_A rfl (by first | assumption | exact Mem.of_get at9001 0 _ rfl)) ?_
   refine .m rfl rfl rfl (.add rfl rfl rfl (by omega) (by omega)) ?_
   refine .r0 rfl rfl (.storeR rfl sz_2_E rfl rfl rfl (by assumption) (by first | exact Nat.le_of_ble_eq_true rfl | (simp; done) | (simp <;> omega))) ?_
   rintro _ H4002 ⟨rfl, st4002, at4002⟩
   have nx_H4002 := st4002.nx
   replace hle := hle.st st4002 (fun k hk => ⟨by omega, trivial⟩)
   replace lst1 := lst1.st st4002 (fun k hk ho => by simp only [out, and_true] at ho ⊢ <;> omega)
   replace rk20 := rk20.st st4002 (fun k hk ho => by simp only [out, and_true] at ho ⊢ <;> omega)
   replace at2001 := st4002.same _ _ ⟨by omega, trivial⟩ at2001
   replace hd20 := st4002.same _ _ ⟨by omega, trivial⟩ hd20
   replace hgF20 := st4002.same _ _ ⟨by omega, trivial⟩ hgF20
   have lt_at4002 := GHeap.lt_of_get at4002
   replace h := base_h.mono hle
   clear fs ft c10 c11 j1 j2 hm hi hms his hmt hit s0 s1 s2 s3 s4 u1 u2 u3 u4
   obtain ⟨fs, ft, c10, c11, j1, j2⟩ := h.get
   have hm : MemN _ _ _ _ _ := ⟨rfl, h.1⟩
   have hi := h.2
   have hms : MemN _ _ _ _ _ := ⟨rfl, fs.1⟩
   have his := fs.2
   have hmt : MemN _ _ _ _ _ := ⟨rfl, ft.1⟩
   have hit := ft.2
   obtain ⟨s0, s1, s2, s3, s4, u1, u2, u3, u4⟩ := ft.get
   try simp only [Nat.zero_add, List.set_cons_succ, List.set_cons_zero] at at4002
   refine .nil ?_
   refine hKL1 ((x + 1, g5x2, gF20)) _ _ ?_ ?_ ⟨rfl, rfl, rfl, trivial⟩
   ·
    refine ⟨lst1, ?_⟩
    exact ⟨by omega, hlen, .inr (by omega), by omega, by omega, by omega, by omega, at4002, hd20, r20, hgF20, hR20.mono (rk20.le_of_nil)⟩
   (dsimp only; omega)
  simp only [sps] at h14
  refine .exit ?_
  refine hK3 _ _ ?_
  refine .seq (fun K13 hK13 => ?_)
  refine .region ?_
  have c44 := Mem.of_get hd 0 _ rfl
  refine .m rfl rfl rfl (.load on_29_Hi rfl (by assumption)) ?_
  refine .m rfl rfl rfl (.assign rfl) (.m rfl rfl rfl (.assign rfl) (.nil ?_))
  refine hK13 _ _ ?_
  refine .ret ?_
  refine hret _ _ ?_
  refine ⟨_, _, rfl, rfl, ?_⟩
  obtain rfl : x = d.t.obj.toNat := by omega
  exact ⟨hle, .inr ⟨hcl, gV, r, rfl, by omega, hgc, hR⟩⟩
end Go.Proofs.Ytpmjlhbglcaokaa
/- Universal cones. No condition but those of each statement. -/
namespace Go.Proofs.Ytpmjlhbglcaokaa
open Go Go.GL Go.RowKit Go.Proofs
theorem ag_42_Hl : aggT Try.prog 42 = some 2 := by kernel_rfl
set_option maxHeartbeats 4000000 in
theorem l12Universal_c {k n : Nat} {d : Fun} {p : FunP} {m : Con} {q : ConP} {C : Nat → Con} {P : Nat → ConP} {f : Nat → Value} {H : GHeap} (hin : d.In H p) (hI : d.Is) (hm : m.In H q) (hcm : d.Cone m) (hn : n ≤ 1000) (hsl : SlA H (some ⟨k, 0, none⟩) (n * 2) f)
    (hmem : ∀ i, i < n → MemN H k (0 + (i : Int).toNat * 2) 2 ((C i).cells (P i))) (hins : ∀ i, i < n → (C i).In H (P i)) (hcs : ∀ i, i < n → d.Cone (C i)) :
    GCalls Try.prog 73 [.agg (d.cells p).toArray, .slice (some ⟨k, 0, none⟩) n n, .agg (m.cells q).toArray] H (Ret (.bool (B (∀ i, i < n → (d.coneMaps (C i) m).length = 1))) H) := by
  refine GCalls.ret rfl ?_
  have hI0 := hI
  refine GCalls.body (N := 23) (rs := [.tmp 6]) Try.func73 rfl rfl rfl rfl (fun Qx hret hend => ?_)
  refine .forget (fr' := [(0, some _), (1, some _), (2, some _)]) ⟨rfl, rfl, rfl, trivial⟩ ?_
  have hle := GHeap.Le.refl H
  have base_hin := hin
  have base_hm := hm
  have base_hsl := hsl
  refine .seq (fun K1 hK1 => ?_)
  refine .region ?_
  refine .r rfl rfl rfl (.boxR rfl sz_34_E rfl) ?_
  rintro _ H3 ⟨g3, rfl, le3, ge3, at3⟩
  have nx_H3 := le3.1
  replace hle := hle.trans le3
  have lt_at3 := GHeap.lt_of_get at3
  replace hin := base_hin.mono hle
  replace hm := base_hm.mono hle
  replace hsl := base_hsl.mono hle
  have hb3 : Fun.At _ g3 0 d p := ⟨Mem.of_get at3, hin⟩
  obtain ⟨fs3, ft3, c103, c113, j13, j23⟩ := hb3.get
  have hm3 : MemN _ _ _ _ _ := ⟨rfl, hb3.1⟩
  have hi3 := hb3.2
  have hms3 : MemN _ _ _ _ _ := ⟨rfl, fs3.1⟩
  have his3 := fs3.2
  have hmt3 : MemN _ _ _ _ _ := ⟨rfl, ft3.1⟩
  have hit3 := ft3.2
  refine .r rfl rfl rfl (.boxR rfl sz_42_U rfl) ?_
  rintro _ H5 ⟨g5, rfl, le5, ge5, at5⟩
  have nx_H5 := le5.1
  replace hle := hle.trans le5
  replace at3 := le5.2 _ _ at3
  have lt_at5 := GHeap.lt_of_get at5
  replace hin := base_hin.mono hle
  replace hm := base_hm.mono hle
  replace hsl := base_hsl.mono hle
  clear hb3 fs3 ft3 c103 c113 j13 j23 hm3 hi3 hms3 his3 hmt3 hit3
  have hb3 : Fun.At _ g3 0 d p := ⟨Mem.of_get at3, hin⟩
  obtain ⟨fs3, ft3, c103, c113, j13, j23⟩ := hb3.get
  have hm3 : MemN _ _ _ _ _ := ⟨rfl, hb3.1⟩
  have hi3 := hb3.2
  have hms3 : MemN _ _ _ _ _ := ⟨rfl, fs3.1⟩
  have his3 := fs3.2
  have hmt3 : MemN _ _ _ _ _ := ⟨rfl, ft3.1⟩
  have hit3 := ft3.2
  have hb5 : Con.At _ g5 0 m q := ⟨Mem.of_get at5, hm⟩
  obtain ⟨c05, c15, i15⟩ := hb5.get
  have hm5 : MemN _ _ _ _ _ := ⟨rfl, hb5.1⟩
  have hi5 := hb5.2
  refine .m rfl rfl rfl (.assign rfl) (.nil ?_)
  refine hK1 _ _ ?_
  refine .seq (fun K2 hK2 => ?_)
  refine .seq (fun K3 hK3 => ?_)
  refine .region (.m rfl rfl rfl (.assign rfl) (.nil ?_))
  refine hK3 _ _ ?_
  refine .block ?_
  refine .loopR (σ := Nat) [(1, some _), (3, some _), (5, some _)] (fun i => [(7, some (.int .i64 (i : Int)))]) (fun i H' => St [] H5 H' ∧ i ≤ n ∧ ∀ j, j < i → (d.coneMaps (C j) m).length = 1) (fun i => n - i) (0) ⟨rfl, rfl, rfl, trivial⟩ ⟨rfl, trivial⟩ ?_ ?_
  ·
   refine ⟨.refl _ _, ?_⟩
   exact ⟨by omega, fun j hj => by omega⟩
  rintro i HL1 ⟨lst1, hI⟩ KL1 hKL1
  refine .forget (fr' := [(7, some (.int .i64 (i : Int))), (1, some _), (3, some _), (5, some _)]) ⟨rfl, rfl, rfl, rfl, trivial⟩ ?_
  have nx_HL1 := lst1.nx
  replace hle := hle.st lst1 (fun k hk => trivial)
  replace at3 := lst1.same _ _ trivial at3
  replace at5 := lst1.same _ _ trivial at5
  replace hin := base_hin.mono hle
  replace hm := base_hm.mono hle
  replace hsl := base_hsl.mono hle
  clear hb3 fs3 ft3 c103 c113 j13 j23 hm3 hi3 hms3 his3 hmt3 hit3
  have hb3 : Fun.At _ g3 0 d p := ⟨Mem.of_get at3, hin⟩
  obtain ⟨fs3, ft3, c103, c113, j13, j23⟩ := hb3.get
  have hm3 : MemN _ _ _ _ _ := ⟨rfl, hb3.1⟩
  have hi3 := hb3.2
  have hms3 : MemN _ _ _ _ _ := ⟨rfl, fs3.1⟩
  have his3 := fs3.2
  have hmt3 : MemN _ _ _ _ _ := ⟨rfl, ft3.1⟩
  have hit3 := ft3.2
  clear hb5 c05 c15 i15 hm5 hi5
  have hb5 : Con.At _ g5 0 m q := ⟨Mem.of_get at5, hm⟩
  obtain ⟨c05, c15, i15⟩ := hb5.get
  have hm5 : MemN _ _ _ _ _ := ⟨rfl, hb5.1⟩
  have hi5 := hb5.2
  obtain ⟨hi, ha⟩ := hI
  refine .seq (fun K4 hK4 => ?_)
  refine .seq (fun K5 hK5 => ?_)
  refine .region (.m rfl rfl rfl (.move rfl) (.m rfl rfl rfl (.move rfl) (.m rfl rfl rfl (.len sl_29_Hk rfl) ?_)))
  refine .m rfl rfl rfl (.cmp rfl rfl rfl) (.nil ?_)
  refine hK5 _ _ ?_
  refine .cond rfl (fun h11 => ?_) (fun h11 => ?_)
  ·
   simp only [sps] at h11
   have hm1 : MemN _ _ _ _ _ := ⟨(hmem i (by omega)).1, (hmem i (by omega)).2.mono hle⟩
   have hin1 := (hins i (by omega)).mono hle
   refine .skip ?_
   refine hK4 _ _ ?_
   refine .seq (fun K6 hK6 => ?_)
   refine .block ?_
   refine .seq (fun K7 hK7 => ?_)
   refine .regionD mixed_orders_B (.q 0 (.q 1 (.q 2 (.q 3 (.q 4 (.q 5 (.c 6 0 (.q 7 (.q 8 (.done)))))))))) (by kernel_rfl) ?_
   refine .m rfl rfl rfl rfl (.refl _) (.loadM ag_34_E rfl ⟨rfl, Mem.of_get at3⟩) ?_
   refine .m rfl rfl rfl rfl (.refl _) (.move rfl) (.m rfl rfl rfl rfl (.refl _) (.move rfl) ?_)
   refine .m rfl rfl rfl rfl (.refl _) (.idx sl_29_Hk (by assumption) (by omega) rfl rfl (by omega) (by omega) rfl) ?_
   refine .m rfl rfl rfl rfl (.refl _) (.loadM ag_42_Hl rfl (by assumption)) ?_
   refine .m rfl rfl rfl rfl (.refl _) (.loadM ag_42_Hl rfl ⟨rfl, Mem.of_get at5⟩) ?_
   refine .call0 rfl rfl rfl rfl rfl @Try.call51 rfl (l12Maps_c (m := C i) (m' := m) hin hin1 hm hI0 (hcs i (by omega)) hcm) ?_
   rintro _ H20 ⟨le20, g20, rfl, at20, ge20⟩
   have nx_H20 := le20.1
   replace hle := hle.trans le20
   replace lst1 := lst1.le le20
   replace at3 := le20.2 _ _ at3
   replace at5 := le20.2 _ _ at5
   have lt_at20 := GHeap.lt_of_get at20
   replace hin := base_hin.mono hle
   replace hm := base_hm.mono hle
   replace hsl := base_hsl.mono hle
   clear hb3 fs3 ft3 c103 c113 j13 j23 hm3 hi3 hms3 his3 hmt3 hit3
   have hb3 : Fun.At _ g3 0 d p := ⟨Mem.of_get at3, hin⟩
   obtain ⟨fs3, ft3, c103, c113, j13, j23⟩ := hb3.get
   have hm3 : MemN _ _ _ _ _ := ⟨rfl, hb3.1⟩
   have hi3 := hb3.2
   have hms3 : MemN _ _ _ _ _ := ⟨rfl, fs3.1⟩
   have his3 := fs3.2
   have hmt3 : MemN _ _ _ _ _ := ⟨rfl, ft3.1⟩
   have hit3 := ft3.2
   clear hb5 c05 c15 i15 hm5 hi5
   have hb5 : Con.At _ g5 0 m q := ⟨Mem.of_get at5, hm⟩
   obtain ⟨c05, c15, i15⟩ := hb5.get
   have hm5 : MemN _ _ _ _ _ := ⟨rfl, hb5.1⟩
   have hi5 := hb5.2
   clear hm1 hin1
   have hm1 : MemN _ _ _ _ _ := ⟨(hmem i (by omega)).1, (hmem i (by omega)).2.mono hle⟩
   have hin1 := (hins i (by omega)).mono hle
   have i20 := Ints.of_get at20
   refine .m rfl rfl rfl rfl (.refl _) (.len sl_22_A rfl) (.m rfl rfl rfl rfl (.refl _) (.cmp rfl rfl rfl) ?_)
   refine .done ?_
   refine hK7 _ _ ?_
   refine .cond rfl (fun h22 => ?_) (fun h22 => ?_)
   ·
    simp only [sps] at h22
    refine .seq (fun K8 hK8 => ?_)
    refine .region (.m rfl rfl rfl (.assign rfl) (.nil ?_))
    refine hK8 _ _ ?_
    refine .ret ?_
    refine hret _ _ ?_
    refine ⟨_, rfl, ?_⟩
    exact ⟨by rw [B_false fun hh => h22 (by have := hh i (by omega); omega)], hle⟩
   simp only [sps] at h22
   refine .skip ?_
   refine hK6 _ _ ?_
   refine .region (.m rfl rfl rfl (.move rfl) ?_)
   refine .m rfl rfl rfl (.add rfl rfl rfl (by omega) (by omega)) ?_
   refine .m rfl rfl rfl (.assign rfl) (.nil ?_)
   refine hKL1 (i + 1) _ _ ?_ ?_ ⟨rfl, rfl, rfl, rfl, trivial⟩
   ·
    refine ⟨lst1, ?_⟩
    refine ⟨by omega, fun j hj => ?_⟩
    by_cases e : j < i
    · exact ha j e
    · obtain rfl : j = i := by omega
      omega
   omega
  try simp only [sps] at h11
  refine .exit ?_
  refine hK2 _ _ ?_
  refine .seq (fun K9 hK9 => ?_)
  refine .region (.m rfl rfl rfl (.assign rfl) (.nil ?_))
  refine hK9 _ _ ?_
  refine .ret ?_
  refine hret _ _ ?_
  refine ⟨_, rfl, ?_⟩
  exact ⟨by rw [B_true fun j hj => ha j (by omega)], hle⟩
set_option maxHeartbeats 4000000 in
theorem isUniversal_c {g o k n : Nat} {d : Fun} {p : FunP} {m : Con} {q : ConP} {C : Nat → Con} {P : Nat → ConP} {f : Nat → Value} {H : GHeap} (h : Fun.At H g o d p) (hI : d.Is) (hm : m.In H q) (hcm : d.Cone m) (hn : n ≤ 1000) (hsl : SlA H (some ⟨k, 0, none⟩) (n * 2) f)
    (hmem : ∀ i, i < n → MemN H k (0 + (i : Int).toNat * 2) 2 ((C i).cells (P i))) (hins : ∀ i, i < n → (C i).In H (P i)) (hcs : ∀ i, i < n → d.Cone (C i)) :
    GCalls Try.prog 74 [.pointer (some ⟨g, o, none⟩), .slice (some ⟨k, 0, none⟩) n n, .agg (m.cells q).toArray] H (Ret (.bool (B (∀ i, i < n → (d.coneMaps (C i) m).length = 1))) H) := by
  refine GCalls.ret rfl ?_
  have hI0 := hI
  refine GCalls.body (N := 22) (rs := [.tmp 6]) Try.func74 rfl rfl rfl rfl (fun Qx hret hend => ?_)
  refine .forget (fr' := [(0, some _), (1, some _), (2, some _)]) ⟨rfl, rfl, rfl, trivial⟩ ?_
  have hle := GHeap.Le.refl H
  have base_h := h
  have base_hm := hm
  have base_hsl := hsl
  refine .seq (fun K1 hK1 => ?_)
  refine .region ?_
  refine .r rfl rfl rfl (.boxR rfl sz_42_U rfl) ?_
  rintro _ H5 ⟨g5, rfl, le5, ge5, at5⟩
  have nx_H5 := le5.1
  replace hle := hle.trans le5
  have lt_at5 := GHeap.lt_of_get at5
  replace h := base_h.mono hle
  replace hm := base_hm.mono hle
  replace hsl := base_hsl.mono hle
  have hb5 : Con.At _ g5 0 m q := ⟨Mem.of_get at5, hm⟩
  obtain ⟨c05, c15, i15⟩ := hb5.get
  have hm5 : MemN _ _ _ _ _ := ⟨rfl, hb5.1⟩
  have hi5 := hb5.2
  refine .m rfl rfl rfl (.assign rfl) (.nil ?_)
  refine hK1 _ _ ?_
  refine .seq (fun K2 hK2 => ?_)
  refine .seq (fun K3 hK3 => ?_)
  refine .region (.m rfl rfl rfl (.move rfl) (.m rfl rfl rfl (.len sl_29_Hk rfl) (.m rfl rfl rfl (.move rfl) ?_)))
  refine .nil ?_
  refine hK3 _ _ ?_
  refine .block ?_
  refine .loopR (σ := Nat) [(0, some _), (5, some _), (9, some _), (10, some _)] (fun i => [(11, some (.int .i64 (i : Int)))]) (fun i H' => St [] H5 H' ∧ i ≤ n ∧ ∀ j, j < i → (d.coneMaps (C j) m).length = 1) (fun i => n - i) (0) ⟨rfl, rfl, rfl, rfl, trivial⟩ ⟨rfl, trivial⟩ ?_ ?_
  ·
   refine ⟨.refl _ _, ?_⟩
   exact ⟨by omega, fun j hj => by omega⟩
  rintro i HL1 ⟨lst1, hI⟩ KL1 hKL1
  refine .forget (fr' := [(11, some (.int .i64 (i : Int))), (0, some _), (5, some _), (9, some _), (10, some _)]) ⟨rfl, rfl, rfl, rfl, rfl, trivial⟩ ?_
  have nx_HL1 := lst1.nx
  replace hle := hle.st lst1 (fun k hk => trivial)
  replace at5 := lst1.same _ _ trivial at5
  replace h := base_h.mono hle
  replace hm := base_hm.mono hle
  replace hsl := base_hsl.mono hle
  clear hb5 c05 c15 i15 hm5 hi5
  have hb5 : Con.At _ g5 0 m q := ⟨Mem.of_get at5, hm⟩
  obtain ⟨c05, c15, i15⟩ := hb5.get
  have hm5 : MemN _ _ _ _ _ := ⟨rfl, hb5.1⟩
  have hi5 := hb5.2
  obtain ⟨hi, ha⟩ := hI
  refine .seq (fun K4 hK4 => ?_)
  refine .region (.m rfl rfl rfl (.cmp rfl rfl rfl) (.nil ?_))
  refine hK4 _ _ ?_
  refine .seq (fun K5 hK5 => ?_)
  refine .cond rfl (fun h12 => ?_) (fun h12 => ?_)
  ·
   simp only [sps] at h12
   have hm1 : MemN _ _ _ _ _ := ⟨(hmem i (by omega)).1, (hmem i (by omega)).2.mono hle⟩
   have hin1 := (hins i (by omega)).mono hle
   refine .skip ?_
   refine hK5 _ _ ?_
   refine .seq (fun K6 hK6 => ?_)
   refine .block ?_
   refine .seq (fun K7 hK7 => ?_)
   refine .region ?_
   refine .m rfl rfl rfl (.idx sl_29_Hk (by assumption) (by omega) rfl rfl (by omega) (by omega) rfl) ?_
   refine .m rfl rfl rfl (.loadM ag_42_Hl rfl (by assumption)) ?_
   refine .r rfl rfl rfl (.allocR rfl ze_42_Hk rfl) ?_
   rintro _ H8 ⟨g8, rfl, le8, ge8, at8⟩
   have nx_H8 := le8.1
   replace hle := hle.trans le8
   replace lst1 := lst1.le le8
   replace at5 := le8.2 _ _ at5
   have lt_at8 := GHeap.lt_of_get at8
   replace h := base_h.mono hle
   replace hm := base_hm.mono hle
   replace hsl := base_hsl.mono hle
   clear hb5 c05 c15 i15 hm5 hi5
   have hb5 : Con.At _ g5 0 m q := ⟨Mem.of_get at5, hm⟩
   obtain ⟨c05, c15, i15⟩ := hb5.get
   have hm5 : MemN _ _ _ _ _ := ⟨rfl, hb5.1⟩
   have hi5 := hb5.2
   clear hm1 hin1
   have hm1 : MemN _ _ _ _ _ := ⟨(hmem i (by omega)).1, (hmem i (by omega)).2.mono hle⟩
   have hin1 := (hins i (by omega)).mono hle
   refine .r0 rfl rfl (.fillR rfl sz_42_U rfl rfl rfl rfl (by assumption) (by first | rfl | exact Nat.le_of_ble_eq_true rfl | simp)) ?_
   rintro _ H3003 ⟨rfl, st3003, at3003⟩
   have nx_H3003 := st3003.nx
   replace hle := hle.st st3003 (fun k hk => ⟨by omega, trivial⟩)
   replace lst1 := lst1.st st3003 (fun k hk ho => by simp only [out, and_true] at ho ⊢ <;> omega)
   replace at5 := st3003.same _ _ ⟨by omega, trivial⟩ at5
   have lt_at3003 := GHeap.lt_of_get at3003
   replace h := base_h.mono hle
   replace hm := base_hm.mono hle
   replace hsl := base_hsl.mono hle
   clear hb5 c05 c15 i15 hm5 hi5
   have hb5 : Con.At _ g5 0 m q := ⟨Mem.of_get at5, hm⟩
   obtain ⟨c05, c15, i15⟩ := hb5.get
   have hm5 : MemN _ _ _ _ _ := ⟨rfl, hb5.1⟩
   have hi5 := hb5.2
   clear hm1 hin1
   have hm1 : MemN _ _ _ _ _ := ⟨(hmem i (by omega)).1, (hmem i (by omega)).2.mono hle⟩
   have hin1 := (hins i (by omega)).mono hle
   have mm3003 : MemN _ _ _ _ _ := ⟨rfl, Mem.of_get at3003⟩
   have hb8 : Con.At _ g8 0 (C i) (P i) := ⟨Mem.of_get at3003, hin1⟩
   obtain ⟨c08, c18, i18⟩ := hb8.get
   have hm8 : MemN _ _ _ _ _ := ⟨rfl, hb8.1⟩
   have hi8 := hb8.2
   refine .nil ?_
   refine hK7 _ _ ?_
   refine .seq (fun K8 hK8 => ?_)
   refine .region (.m rfl rfl rfl (.move rfl) ?_)
   refine .m rfl rfl rfl (.loadM ag_42_Hl rfl ⟨rfl, Mem.of_get at3003⟩) ?_
   refine .m rfl rfl rfl (.loadM ag_42_Hl rfl ⟨rfl, Mem.of_get at5⟩) ?_
   refine .call rfl rfl rfl rfl @Try.call57 rfl (coneMaps_c (m := C i) (m' := m) h hin1 hm hI0 (hcs i (by omega)) hcm) ?_
   rintro _ H18 ⟨le18, g18, rfl, at18, ge18⟩
   have nx_H18 := le18.1
   replace hle := hle.trans le18
   replace lst1 := lst1.le le18
   replace at5 := le18.2 _ _ at5
   replace at3003 := le18.2 _ _ at3003
   have lt_at18 := GHeap.lt_of_get at18
   replace h := base_h.mono hle
   replace hm := base_hm.mono hle
   replace hsl := base_hsl.mono hle
   clear hb5 c05 c15 i15 hm5 hi5
   have hb5 : Con.At _ g5 0 m q := ⟨Mem.of_get at5, hm⟩
   obtain ⟨c05, c15, i15⟩ := hb5.get
   have hm5 : MemN _ _ _ _ _ := ⟨rfl, hb5.1⟩
   have hi5 := hb5.2
   clear hm1 hin1
   have hm1 : MemN _ _ _ _ _ := ⟨(hmem i (by omega)).1, (hmem i (by omega)).2.mono hle⟩
   have hin1 := (hins i (by omega)).mono hle
   clear mm3003
   have mm3003 : MemN _ _ _ _ _ := ⟨rfl, Mem.of_get at3003⟩
   clear hb8 c08 c18 i18 hm8 hi8
   have hb8 : Con.At _ g8 0 (C i) (P i) := ⟨Mem.of_get at3003, hin1⟩
   obtain ⟨c08, c18, i18⟩ := hb8.get
   have hm8 : MemN _ _ _ _ _ := ⟨rfl, hb8.1⟩
   have hi8 := hb8.2
   have i18 := Ints.of_get at18
   refine .m rfl rfl rfl (.len sl_22_A rfl) (.m rfl rfl rfl (.cmp rfl rfl rfl) (.nil ?_))
   refine hK8 _ _ ?_
   refine .cond rfl (fun h20 => ?_) (fun h20 => ?_)
   ·
    simp only [sps] at h20
    refine .seq (fun K9 hK9 => ?_)
    refine .region (.m rfl rfl rfl (.assign rfl) (.nil ?_))
    refine hK9 _ _ ?_
    refine .ret ?_
    refine hret _ _ ?_
    refine ⟨_, rfl, ?_⟩
    exact ⟨by rw [B_false fun hh => h20 (by have := hh i (by omega); omega)], hle⟩
   simp only [sps] at h20
   refine .skip ?_
   refine hK6 _ _ ?_
   refine .region ?_
   refine .m rfl rfl rfl (.add rfl rfl rfl (by omega) (by omega)) ?_
   refine .m rfl rfl rfl (.move rfl) (.nil ?_)
   refine hKL1 (i + 1) _ _ ?_ ?_ ⟨rfl, rfl, rfl, rfl, rfl, trivial⟩
   ·
    refine ⟨lst1, ?_⟩
    refine ⟨by omega, fun j hj => ?_⟩
    by_cases e : j < i
    · exact ha j e
    · obtain rfl : j = i := by omega
      omega
   omega
  try simp only [sps] at h12
  refine .exit ?_
  refine hK2 _ _ ?_
  refine .seq (fun K10 hK10 => ?_)
  refine .region (.m rfl rfl rfl (.assign rfl) (.nil ?_))
  refine hK10 _ _ ?_
  refine .ret ?_
  refine hret _ _ ?_
  refine ⟨_, rfl, ?_⟩
  exact ⟨by rw [B_true fun j hj => ha j (by omega)], hle⟩
end Go.Proofs.Ytpmjlhbglcaokaa
/- Limits. No condition but those of each statement. -/
namespace Go.Proofs.Ytpmjlhbglcaokaa
open Go Go.GL Go.RowKit Go.Proofs
set_option maxHeartbeats 4000000 in
theorem l12List0_c {d : Fun} {p : FunP} {H : GHeap} (hin : d.In H p) (hs : d.Small) (hI : d.Is) (hb : (d.coneL d.t.obj.toNat).length ≤ 400) :
    GCalls Try.prog 36 [.agg (d.cells p).toArray] H (fun v H' => H.Le H' ∧ ∃ g r, v = .tuple #[.slice (some ⟨g, 0, none⟩) (d.coneL d.t.obj.toNat).length (d.coneL d.t.obj.toNat).length, .int .i64 0] ∧ ConsIn 42 H.next H' g r (d.coneL d.t.obj.toNat)) := by
  have htk : (d.coneL d.t.obj.toNat).take 401 = d.coneL d.t.obj.toNat := List.take_of_length_le (by omega)
  have hlt : ((d.coneL d.t.obj.toNat).take 401).length = (d.coneL d.t.obj.toNat).length := by rw [htk]
  refine GCalls.body (N := 11) (rs := [.tmp 2, .tmp 3]) Try.func36 rfl rfl rfl rfl (fun Qx hret hend => ?_)
  refine .forget (fr' := [(0, some _)]) ⟨rfl, trivial⟩ ?_
  have hle := GHeap.Le.refl H
  have base_hin := hin
  refine .seq (fun K1 hK1 => ?_)
  refine .region ?_
  refine .r rfl rfl rfl (.boxR rfl sz_34_E rfl) ?_
  rintro _ H1 ⟨g1, rfl, le1, ge1, at1⟩
  have nx_H1 := le1.1
  replace hle := hle.trans le1
  have lt_at1 := GHeap.lt_of_get at1
  replace hin := base_hin.mono hle
  have hb1 : Fun.At _ g1 0 d p := ⟨Mem.of_get at1, hin⟩
  obtain ⟨fs1, ft1, c101, c111, j11, j21⟩ := hb1.get
  have hm1 : MemN _ _ _ _ _ := ⟨rfl, hb1.1⟩
  have hi1 := hb1.2
  have hms1 : MemN _ _ _ _ _ := ⟨rfl, fs1.1⟩
  have his1 := fs1.2
  have hmt1 : MemN _ _ _ _ _ := ⟨rfl, ft1.1⟩
  have hit1 := ft1.2
  refine .m rfl rfl rfl (.assign rfl) (.m rfl rfl rfl (.assign rfl) (.nil ?_))
  refine hK1 _ _ ?_
  refine .seq (fun K2 hK2 => ?_)
  refine .region ?_
  refine .m rfl rfl rfl (.loadM ag_34_E rfl ⟨rfl, Mem.of_get at1⟩) ?_
  refine .call rfl rfl rfl rfl @Try.call69 rfl (l12Cones_c hin hs hI) ?_
  rintro _ H6 ⟨le6, g6, r6, rfl, v6⟩
  have nx_H6 := le6.1
  replace hle := hle.trans le6
  replace at1 := le6.2 _ _ at1
  have bs_v6 := v6
  have lv_v6 : Keep H1.next H6 H6 := fun _ _ _ h => h
  replace hin := base_hin.mono hle
  clear hb1 fs1 ft1 c101 c111 j11 j21 hm1 hi1 hms1 his1 hmt1 hit1
  have hb1 : Fun.At _ g1 0 d p := ⟨Mem.of_get at1, hin⟩
  obtain ⟨fs1, ft1, c101, c111, j11, j21⟩ := hb1.get
  have hm1 : MemN _ _ _ _ _ := ⟨rfl, hb1.1⟩
  have hi1 := hb1.2
  have hms1 : MemN _ _ _ _ _ := ⟨rfl, fs1.1⟩
  have his1 := fs1.2
  have hmt1 : MemN _ _ _ _ _ := ⟨rfl, ft1.1⟩
  have hit1 := ft1.2
  refine .m rfl rfl rfl (.assign rfl) (.nil ?_)
  refine hK2 _ _ ?_
  refine .seq (fun K3 hK3 => ?_)
  refine .seq (fun K4 hK4 => ?_)
  refine .region (.m rfl rfl rfl (.move rfl) (.m rfl rfl rfl (.len sl_29_Hk rfl) (.m rfl rfl rfl (.cmp rfl rfl rfl) ?_)))
  refine .nil ?_
  refine hK4 _ _ ?_
  refine .cond rfl (fun h9 => ?_) (fun h9 => ?_)
  ·
   simp only [sps] at h9; omega
  try simp only [sps] at h9
  refine .skip ?_
  refine hK3 _ _ ?_
  refine .seq (fun K5 hK5 => ?_)
  refine .region (.m rfl rfl rfl (.move rfl) (.m rfl rfl rfl (.assign rfl) (.m rfl rfl rfl (.assign rfl) ?_)))
  refine .nil ?_
  refine hK5 _ _ ?_
  refine .ret ?_
  refine hret _ _ ?_
  refine ⟨_, _, rfl, rfl, ?_⟩
  rw [htk] at v6
  exact ⟨hle, g6, r6, by rw [htk], v6.keep (.of_le (.refl _)) (by omega)⟩
set_option maxHeartbeats 4000000 in
theorem l12List1_c {d : Fun} {p : FunP} {H : GHeap} (hin : d.In H p) (hs : d.Small) (hI : d.Is) (hb : ¬ (d.coneL d.t.obj.toNat).length ≤ 400) :
    GCalls Try.prog 36 [.agg (d.cells p).toArray] H (Ret (.tuple #[.slice none 0 0, .int .i64 3]) H) := by
  refine GCalls.ret rfl ?_
  have hlt : 400 < ((d.coneL d.t.obj.toNat).take 401).length := by rw [List.length_take]; omega
  refine GCalls.body (N := 11) (rs := [.tmp 2, .tmp 3]) Try.func36 rfl rfl rfl rfl (fun Qx hret hend => ?_)
  refine .forget (fr' := [(0, some _)]) ⟨rfl, trivial⟩ ?_
  have hle := GHeap.Le.refl H
  have base_hin := hin
  refine .seq (fun K1 hK1 => ?_)
  refine .region ?_
  refine .r rfl rfl rfl (.boxR rfl sz_34_E rfl) ?_
  rintro _ H1 ⟨g1, rfl, le1, ge1, at1⟩
  have nx_H1 := le1.1
  replace hle := hle.trans le1
  have lt_at1 := GHeap.lt_of_get at1
  replace hin := base_hin.mono hle
  have hb1 : Fun.At _ g1 0 d p := ⟨Mem.of_get at1, hin⟩
  obtain ⟨fs1, ft1, c101, c111, j11, j21⟩ := hb1.get
  have hm1 : MemN _ _ _ _ _ := ⟨rfl, hb1.1⟩
  have hi1 := hb1.2
  have hms1 : MemN _ _ _ _ _ := ⟨rfl, fs1.1⟩
  have his1 := fs1.2
  have hmt1 : MemN _ _ _ _ _ := ⟨rfl, ft1.1⟩
  have hit1 := ft1.2
  refine .m rfl rfl rfl (.assign rfl) (.m rfl rfl rfl (.assign rfl) (.nil ?_))
  refine hK1 _ _ ?_
  refine .seq (fun K2 hK2 => ?_)
  refine .region ?_
  refine .m rfl rfl rfl (.loadM ag_34_E rfl ⟨rfl, Mem.of_get at1⟩) ?_
  refine .call rfl rfl rfl rfl @Try.call69 rfl (l12Cones_c hin hs hI) ?_
  rintro _ H6 ⟨le6, g6, r6, rfl, v6⟩
  have nx_H6 := le6.1
  replace hle := hle.trans le6
  replace at1 := le6.2 _ _ at1
  have bs_v6 := v6
  have lv_v6 : Keep H1.next H6 H6 := fun _ _ _ h => h
  replace hin := base_hin.mono hle
  clear hb1 fs1 ft1 c101 c111 j11 j21 hm1 hi1 hms1 his1 hmt1 hit1
  have hb1 : Fun.At _ g1 0 d p := ⟨Mem.of_get at1, hin⟩
  obtain ⟨fs1, ft1, c101, c111, j11, j21⟩ := hb1.get
  have hm1 : MemN _ _ _ _ _ := ⟨rfl, hb1.1⟩
  have hi1 := hb1.2
  have hms1 : MemN _ _ _ _ _ := ⟨rfl, fs1.1⟩
  have his1 := fs1.2
  have hmt1 : MemN _ _ _ _ _ := ⟨rfl, ft1.1⟩
  have hit1 := ft1.2
  refine .m rfl rfl rfl (.assign rfl) (.nil ?_)
  refine hK2 _ _ ?_
  refine .seq (fun K3 hK3 => ?_)
  refine .seq (fun K4 hK4 => ?_)
  refine .region (.m rfl rfl rfl (.move rfl) (.m rfl rfl rfl (.len sl_29_Hk rfl) (.m rfl rfl rfl (.cmp rfl rfl rfl) ?_)))
  refine .nil ?_
  refine hK4 _ _ ?_
  refine .cond rfl (fun h9 => ?_) (fun h9 => ?_)
  ·
   try simp only [sps] at h9
   refine .seq (fun K5 hK5 => ?_)
   refine .region (.m rfl rfl rfl (.assign rfl) (.m rfl rfl rfl (.assign rfl) (.nil ?_)))
   refine hK5 _ _ ?_
   refine .ret ?_
   refine hret _ _ ?_
   refine ⟨_, _, rfl, rfl, ?_⟩
   exact ⟨rfl, hle⟩
  simp only [sps] at h9; omega
theorem allCones1b_c {g o : Nat} {d : Fun} {p : FunP} {H : GHeap} (h : Fun.At H g o d p) (hP : d.Is) (hb : ¬ (d.coneL d.t.obj.toNat).length ≤ 400) :
    GCalls Try.prog 56 [.pointer (some ⟨g, o, none⟩)] H (fun v H' => H.Le H' ∧ v = .tuple #[.slice none 0 0, .bool false]) :=
  (allCones_c h hP).mono fun v H' ⟨h1, h2⟩ => by
    rcases h2 with ⟨_, h4⟩ | ⟨h3, _⟩
    · exact ⟨h1, h4⟩
    · omega
end Go.Proofs.Ytpmjlhbglcaokaa
/- Universal cones and the arrows to them. No condition. -/
namespace Go.GL
end Go.GL
/- Lists of cones that are handed back, and marks on them. No condition. -/
namespace Go.GL
/-- A list of cones that is read only. -/
def ConsV (T : TypeId) (H : GHeap) (a : Option Addr) (r : Nat → Option Addr) (cs : List Con) : Prop := cs = [] ∨ ∃ g, a = some ⟨g, 0, none⟩ ∧ H.get g = some (.row (conV r cs) T true) ∧ ∀ i, i < cs.length → Ints H (r i) (cs.getD i .z).lg
theorem ConsV.mono {T : TypeId} {H H' : GHeap} {a : Option Addr} {r : Nat → Option Addr} {cs : List Con} (h : ConsV T H a r cs) (s : H.Le H') : ConsV T H' a r cs := h.imp id fun ⟨g, h1, h2, h3⟩ => ⟨g, h1, s.2 _ _ h2, fun i hi => (h3 i hi).mono s⟩
/-- A list of cones that is handed back: its own rows, no two alike. -/
def ConsR (T e : TypeId) (b : Nat) (H : GHeap) (a : Option Addr) (r : Nat → Option Addr) (cs : List Con) : Prop := (cs = [] ∧ a = none) ∨ ∃ g, a = some ⟨g, 0, none⟩ ∧ b ≤ g ∧ ConsAt T e b H g r cs
theorem getD_lg {cs : List Con} {i : Nat} : (cs.map Con.lg).getD i [] = (cs.getD i .z).lg := by
  rw [List.getD_eq_getElem?_getD, List.getD_eq_getElem?_getD, List.getElem?_map]
  cases cs[i]? <;> rfl
theorem OwnL.keepK {b b' : Nat} {H H' : GHeap} {e : TypeId} {r : Nat → Option Addr} {xss : List (List Int)} (h : OwnL b H e r xss) (k : Keep b' H H') (hb : b' ≤ b) : OwnL b' H' e r xss := ⟨fun i hi => by
  obtain ⟨g, h1, h2, h3⟩ := h.row i hi
  exact ⟨g, h1, by omega, k g _ (by omega) h3⟩, h.inj⟩
theorem ConsR.keep {T e : TypeId} {b b' : Nat} {H H' : GHeap} {a : Option Addr} {r : Nat → Option Addr} {cs : List Con} (h : ConsR T e b H a r cs) (k : Keep b' H H') (hb : b' ≤ b) : ConsR T e b' H' a r cs := h.imp id fun ⟨g, h1, h2, h3⟩ => ⟨g, h1, by omega, ⟨k g _ (by omega) h3.hd, h3.rows.keepK k hb⟩⟩
/-- A list of cones that is handed back, to be read only. -/
def ConsS (T : TypeId) (b : Nat) (H : GHeap) (a : Option Addr) (r : Nat → Option Addr) (cs : List Con) : Prop := (cs = [] ∧ a = none) ∨ ∃ g, a = some ⟨g, 0, none⟩ ∧ ConsIn T b H g r cs
theorem ConsS.keep {T : TypeId} {b b' : Nat} {H H' : GHeap} {a : Option Addr} {r : Nat → Option Addr} {cs : List Con} (h : ConsS T b H a r cs) (k : Keep b' H H') (hb : b' ≤ b) : ConsS T b' H' a r cs := h.imp id fun ⟨g, h1, h2⟩ => ⟨g, h1, h2.keep k hb⟩
/-- Only blocks among lo .. hi - 1 have turned. -/
structure StK (lo hi : Nat) (H H' : GHeap) : Prop where
  nx : H.next ≤ H'.next
  same : ∀ k o, ¬ (lo ≤ k ∧ k < hi) → H.get k = some o → H'.get k = some o
theorem StK.refl (lo hi : Nat) (H : GHeap) : StK lo hi H H := ⟨Nat.le_refl _, fun _ _ _ h => h⟩
theorem StK.st {lo hi g : Nat} {A B C : GHeap} (h : StK lo hi A B) (s : St [g] B C) (h1 : lo ≤ g) (h2 : g < hi) : StK lo hi A C := ⟨Nat.le_trans h.nx s.nx, fun k o hk ho => s.same k o ⟨fun e => hk (by subst e; exact ⟨h1, h2⟩), trivial⟩ (h.same k o hk ho)⟩
theorem StK.le_left {lo hi : Nat} {A B C : GHeap} (h : A.Le B) (k : StK lo hi B C) (hA : A.next ≤ lo) : A.Le C :=
  ⟨Nat.le_trans h.1 k.nx, fun g o ho => k.same g o (by have := GHeap.lt_of_get ho; omega) (h.2 g o ho)⟩
/-- All of a list of cones lies below hi. -/
def ConsW (T e : TypeId) (lo hi : Nat) (H : GHeap) (a : Option Addr) (r : Nat → Option Addr) (cs : List Con) : Prop := (cs = [] ∧ a = none) ∨ ∃ g, a = some ⟨g, 0, none⟩ ∧ lo ≤ g ∧ g < hi ∧ ConsAt T e lo H g r cs ∧ ∀ i, i < cs.length → ∀ x, r i = some ⟨x, 0, none⟩ → x < hi
theorem ConsW.of_r {T e : TypeId} {b : Nat} {H0 H : GHeap} {a : Option Addr} {r : Nat → Option Addr} {cs : List Con} (h : ConsR T e b H0 a r cs) (k : Keep b H0 H) : ConsW T e b H0.next H a r cs := h.imp id fun ⟨g, h1, h2, h3⟩ => ⟨g, h1, h2, GHeap.lt_of_get h3.hd, ⟨k g _ h2 h3.hd, h3.rows.keepK k (Nat.le_refl _)⟩, h3.rows.side⟩
def conTot (cs : List Con) (j : Nat) : Nat := j + sumL ((cs.map Con.lg).take j)
def markC (cs : List Con) (k : Int) : List Con := (List.range cs.length).map fun j => (⟨k + conTot cs j, seqL (k + conTot cs j + 1) (cs.getD j .z).lg.length⟩ : Con)
@[simp] theorem length_markC (cs : List Con) (k : Int) : (markC cs k).length = cs.length := by simp [markC]
theorem Fun.Cone.small {d : Fun} {c : Con} (h : d.Is) (hc : d.Cone c) : c.Small ∧ c.lg.length ≤ 8 := by
  have b1 := h.2.1.1.obj
  have b2 := h.1.1.obj
  have b3 := h.2.2.ol
  have b4 := hc.ll
  have b5 := hc.ap
  exact ⟨⟨⟨by omega, by omega⟩, by omega⟩, by omega⟩
/-- Cones that are cones of d, at most 400. -/
structure ConsOk (cs : List Con) : Prop where
  len : cs.length ≤ 400
  sm : ∀ i, i < cs.length → (cs.getD i .z).Small
  tot : conTot cs cs.length ≤ 3600
theorem ConsOk.of {cs : List Con} (h : cs.length ≤ 400) (hs : ∀ c ∈ cs, c.Small ∧ c.lg.length ≤ 8) : ConsOk cs := by
  refine ⟨h, fun i hi => (hs _ (getD_mem_list hi)).1, ?_⟩
  have := sumL_le (m := 8) (xss := cs.map Con.lg) (fun i => by
    rw [getD_lg]
    by_cases hi : i < cs.length
    · exact (hs _ (getD_mem_list hi)).2
    · rw [List.getD_eq_getElem?_getD, List.getElem?_eq_none (by omega)]; simp [Con.z])
  rw [List.length_map] at this
  unfold conTot
  rw [List.take_of_length_le (by rw [List.length_map]; omega)]
  omega
theorem ConsOk.nil : ConsOk [] := .of (by simp) (fun c hc => by simp at hc)
end Go.GL
/- All cones. No condition but those of each statement. -/
namespace Go.Proofs.Ytpmjlhbglcaokaa
open Go Go.GL Go.RowKit Go.Proofs
end Go.Proofs.Ytpmjlhbglcaokaa
/- The limits among all cones. No condition. -/
namespace Go.GL
/-- The first m numbers below i that p takes. -/
def selL (p : Nat → Bool) (m i : Nat) : List Nat := ((List.range i).filter p).take m
theorem selL_zero (p : Nat → Bool) (m : Nat) : selL p m 0 = [] := by simp [selL]
theorem selL_cap (p : Nat → Bool) (m i : Nat) : (selL p m i).length ≤ m := by
  unfold selL
  rw [List.length_take]; omega
theorem selL_T {p : Nat → Bool} {m i : Nat} (h : (selL p m i).length < m) (hp : p i = true) : selL p m (i + 1) = selL p m i ++ [i] := by
  unfold selL at h ⊢
  rw [List.length_take] at h
  rw [List.range_succ, List.filter_append, List.filter_cons_of_pos hp, List.filter_nil, List.take_of_length_le (by rw [List.length_append, List.length_singleton]; omega), List.take_of_length_le (by omega)]
theorem selL_F {p : Nat → Bool} {m i : Nat} (hp : p i = false) : selL p m (i + 1) = selL p m i := by
  unfold selL
  rw [List.range_succ, List.filter_append, List.filter_cons_of_neg (by rw [hp]; simp), List.filter_nil, List.append_nil]
theorem selL_full {p : Nat → Bool} {m i : Nat} (h : ¬ (selL p m i).length < m) : selL p m (i + 1) = selL p m i := by
  unfold selL at h ⊢
  rw [List.length_take] at h
  rw [List.range_succ, List.filter_append, List.take_append_of_le_length (by omega)]
theorem selL_mem {p : Nat → Bool} {m i j : Nat} (h : j ∈ selL p m i) : j < i ∧ p j = true := by
  have := List.mem_filter.1 (List.mem_of_mem_take h)
  exact ⟨List.mem_range.1 this.1, this.2⟩
theorem selL_nodup (p : Nat → Bool) (m i : Nat) : (selL p m i).Nodup := List.nodup_range.sublist ((List.take_sublist _ _).trans List.filter_sublist)
theorem selL_none {p : Nat → Bool} {m i : Nat} (h : ∀ j, j < i → p j = false) : selL p m i = [] := by
  unfold selL
  rw [List.filter_eq_nil_iff.2 fun j hj => by rw [h j (List.mem_range.1 hj)]; simp]; simp
theorem selL_first {p : Nat → Bool} {i n : Nat} (hi : i < n) (h : ∀ j, j < i → p j = false) (hp : p i = true) : selL p 1 n = [i] := by
  have e : selL p 1 (i + 1) = [i] := by rw [selL_T (by rw [selL_none h]; simp) hp, selL_none h]; rfl
  obtain ⟨k, rfl⟩ := Nat.le.dest (Nat.succ_le_of_lt hi)
  clear hi
  induction k with
  | zero => exact e
  | succ k ih => rw [← Nat.add_assoc, selL_full (by rw [ih]; simp), ih]
def selV (r : Nat → Option Addr) (cs : List Con) (l : List Nat) : List Value := l.flatMap fun j => (cs.getD j .z).cells ⟨r j⟩
theorem selV_snoc {r : Nat → Option Addr} {cs : List Con} {l : List Nat} {i : Nat} : selV r cs (l ++ [i]) = selV r cs l ++ (cs.getD i .z).cells ⟨r i⟩ := by simp [selV]
@[simp] theorem length_selV (r : Nat → Option Addr) (cs : List Con) (l : List Nat) : (selV r cs l).length = l.length * 2 := by
  unfold selV
  induction l with
  | nil => rfl
  | cons x l ih => rw [List.flatMap_cons, List.length_append, ih]; simp [Con.cells]; omega
theorem range_getD (l : List Nat) : (List.range l.length).map (fun i => l.getD i 0) = l := by
  apply List.ext_getElem (by simp)
  intro i h1 h2
  simp [List.getD_eq_getElem?_getD, h2]
theorem selV_eq (r : Nat → Option Addr) (cs : List Con) (l : List Nat) : conV (fun k => r (l.getD k 0)) (l.map fun j => cs.getD j .z) = selV r cs l := by
  unfold conV selV
  conv => rhs; rw [← range_getD l]
  rw [List.flatMap_map, List.length_map]
  refine flatMap_congr' fun i hi => ?_
  have := List.mem_range.1 hi
  simp [List.getD_eq_getElem?_getD, this]
theorem OwnL.sel {b : Nat} {H : GHeap} {e : TypeId} {r : Nat → Option Addr} {cs : List Con} {l : List Nat} (h : OwnL b H e r (cs.map Con.lg)) (hn : l.Nodup) (hl : ∀ j ∈ l, j < cs.length) : OwnL b H e (fun k => r (l.getD k 0)) ((l.map fun j => cs.getD j .z).map Con.lg) := by
  have hm : ∀ k, k < ((l.map fun j => cs.getD j .z).map Con.lg).length → ∃ hk : k < l.length, l.getD k 0 = l[k] ∧ l[k] < cs.length := fun k hk => by
    rw [List.length_map, List.length_map] at hk
    exact ⟨hk, by simp [List.getD_eq_getElem?_getD, hk], hl _ (List.getElem_mem hk)⟩
  refine ⟨fun k hk => ?_, fun j k hj hk e => ?_⟩
  · obtain ⟨h1, h2, h3⟩ := hm k hk
    obtain ⟨g, g1, g2, g3⟩ := h.row l[k] (by rw [List.length_map]; exact h3)
    refine ⟨g, by rw [h2]; exact g1, g2, ?_⟩
    rw [getD_lg] at g3
    rw [getD_lg, g3, List.getD_eq_getElem?_getD (l := l.map _), List.getElem?_map, List.getElem?_eq_getElem h1]; rfl
  · obtain ⟨h1, h2, h3⟩ := hm j hj
    obtain ⟨k1, k2, k3⟩ := hm k hk
    have := h.inj l[j] l[k] (by rw [List.length_map]; exact h3) (by rw [List.length_map]; exact k3) (by rw [← h2, ← k2]; exact e)
    exact (List.getElem_inj hn).1 this
/-- A list of cones in rows of its own from b on. -/
structure ConsB (T e : TypeId) (b : Nat) (H : GHeap) (g : Nat) (r : Nat → Option Addr) (cs : List Con) : Prop where
  ge : b ≤ g
  a : ConsAt T e b H g r cs
theorem ConsB.keep {T e : TypeId} {b b' g : Nat} {H H' : GHeap} {r : Nat → Option Addr} {cs : List Con} (h : ConsB T e b H g r cs) (k : Keep b' H H') (hb : b' ≤ b) : ConsB T e b' H' g r cs := ⟨by have := h.ge; omega, k g _ (by have := h.ge; omega) h.a.hd, h.a.rows.keepK k hb⟩
theorem ConsB.c {T e : TypeId} {b g : Nat} {H : GHeap} {r : Nat → Option Addr} {cs : List Con} (h : ConsB T e b H g r cs) : ConsIn T b H g r cs := h.a.cin h.ge
theorem ConsB.sl {T e : TypeId} {b g : Nat} {H : GHeap} {r : Nat → Option Addr} {cs : List Con} (h : ConsB T e b H g r cs) : SlA H (some ⟨g, 0, none⟩) (cs.length * 2) (fun i => (conV r cs).getD i (.bool false)) := h.c.sl
theorem ConsR.at0 {T e : TypeId} {b g : Nat} {H : GHeap} {r : Nat → Option Addr} {cs : List Con} (h : ConsR T e b H (some ⟨g, 0, none⟩) r cs) (hl : 0 < cs.length) : SlA H (some ⟨g, 0, none⟩) (cs.length * 2) (fun i => (conV r cs).getD i (.bool false)) ∧ MemN H g (0 + (0 : Int).toNat * 2) 2 ((cs.getD 0 .z).cells ⟨r 0⟩) ∧ IntsAt b H (r 0) (cs.getD 0 .z).lg := by
  rcases h with ⟨rfl, _⟩ | ⟨g', e1, h1, h2⟩
  · simp at hl
  · cases e1
    have hc := h2.cin h1
    exact ⟨hc.sl, hc.mem 0 hl, hc.2.2 0 hl⟩
noncomputable def Fun.limP (d : Fun) (j : Nat) : Bool := d.univ ((d.coneL d.t.obj.toNat).getD j .z)
noncomputable def Fun.selc (d : Fun) (m : Nat) : List Con := (selL d.limP m (d.coneL d.t.obj.toNat).length).map fun j => (d.coneL d.t.obj.toNat).getD j .z
theorem Fun.selc_len (d : Fun) (m : Nat) : (d.selc m).length = (selL d.limP m (d.coneL d.t.obj.toNat).length).length := by unfold selc; rw [List.length_map]
noncomputable def Fun.liR (d : Fun) : Con := bif B (d.Is ∧ (d.coneL d.t.obj.toNat).length ≤ 400 ∧ d.selc 1 ≠ []) then (d.selc 1).getD 0 .z else Con.zero
noncomputable def Fun.liC (d : Fun) : Int := bif B d.Is then (bif decide ((d.coneL d.t.obj.toNat).length ≤ 400) then (bif B (d.selc 1 ≠ []) then 0 else 4) else 3) else 1
theorem Fun.li_1 {d : Fun} (h : ¬ d.Is) : d.liR = Con.zero ∧ d.liC = 1 := by unfold liR liC; rw [B_false h, B_false fun hh => h hh.1]; exact ⟨rfl, rfl⟩
theorem Fun.li_2 {d : Fun} (h : d.Is) (hb : ¬ (d.coneL d.t.obj.toNat).length ≤ 400) : d.liR = Con.zero ∧ d.liC = 3 := by unfold liR liC; rw [B_true h, decide_eq_false hb, B_false fun hh => hb hh.2.1]; exact ⟨rfl, rfl⟩
theorem Fun.li_3 {d : Fun} (h : d.Is) (hb : (d.coneL d.t.obj.toNat).length ≤ 400) (hn : d.selc 1 = []) : d.liR = Con.zero ∧ d.liC = 4 := by unfold liR liC; rw [B_true h, decide_eq_true hb, B_false fun hh => hh.2.2 hn, B_false fun hh => hh hn]; exact ⟨rfl, rfl⟩
theorem Fun.li_4 {d : Fun} (h : d.Is) (hb : (d.coneL d.t.obj.toNat).length ≤ 400) (hn : d.selc 1 ≠ []) : d.liR = (d.selc 1).getD 0 .z ∧ d.liC = 0 := by unfold liR liC; rw [B_true h, decide_eq_true hb, B_true ⟨h, hb, hn⟩, B_true hn]; exact ⟨rfl, rfl⟩
theorem Fun.liR_small (d : Fun) : d.liR.Small ∧ d.liR.lg.length ≤ 8 := by
  have z : Con.zero.Small ∧ Con.zero.lg.length ≤ 8 := ⟨⟨⟨by simp [Con.zero], by simp [Con.zero]⟩, by simp [Con.zero]⟩, by simp [Con.zero]⟩
  by_cases h : d.Is
  · by_cases hb : (d.coneL d.t.obj.toNat).length ≤ 400
    · by_cases hn : d.selc 1 = []
      · rw [(Fun.li_3 h hb hn).1]; exact z
      · rw [(Fun.li_4 h hb hn).1]
        have hl : 0 < (d.selc 1).length := List.length_pos_iff.2 hn
        obtain ⟨j, hj, e⟩ := List.mem_map.1 (getD_mem_list (d := Con.z) hl)
        have e2 : (d.coneL d.t.obj.toNat).getD j .z = (d.selc 1).getD 0 .z := e
        rw [← e2]
        exact (Fun.coneL_cone h (by have := h.2.1.1.obj; omega) _ (getD_mem_list (selL_mem hj).1)).small h
    · rw [(Fun.li_2 h hb).1]; exact z
  · rw [(Fun.li_1 h).1]; exact z
theorem Fun.selc_first {d : Fun} {i : Nat} (hi : i < (d.coneL d.t.obj.toNat).length) (h : ∀ j, j < i → d.limP j = false) (hp : d.limP i = true) : d.selc 1 = [(d.coneL d.t.obj.toNat).getD i .z] := by unfold selc; rw [selL_first hi h hp]; rfl
theorem Fun.selc_none {d : Fun} (h : ∀ j, j < (d.coneL d.t.obj.toNat).length → d.limP j = false) : d.selc 1 = [] := by unfold selc; rw [selL_none h]; rfl
end Go.GL
/- Limits among all cones. No condition but those of each statement. -/
namespace Go.Proofs.Ytpmjlhbglcaokaa
open Go Go.GL Go.RowKit Go.Proofs
theorem allCones0r_c {g o : Nat} {d : Fun} {p : FunP} {H : GHeap} (h : Fun.At H g o d p) (hP : d.Is) (hb : (d.coneL d.t.obj.toNat).length ≤ 400) :
    GCalls Try.prog 56 [.pointer (some ⟨g, o, none⟩)] H (fun v H' => H.Le H' ∧ ∃ gL r, v = .tuple #[.slice (some ⟨gL, 0, none⟩) (d.coneL d.t.obj.toNat).length (d.coneL d.t.obj.toNat).length, .bool true] ∧ ConsB 42 2 H.next H' gL r (d.coneL d.t.obj.toNat)) :=
  (allCones_c h hP).mono fun v H' ⟨h1, h2⟩ => by
    rcases h2 with ⟨h3, _⟩ | ⟨_, gL, r, h4, h5, h6⟩
    · omega
    · exact ⟨h1, gL, r, h4, h5, h6⟩
set_option maxHeartbeats 4000000 in
theorem limits_c {g o most : Nat} {d : Fun} {p : FunP} {H : GHeap} (h : Fun.At H g o d p) (hI : d.Is) (hb : (d.coneL d.t.obj.toNat).length ≤ 400) (hm : most ≤ 400) :
    GCalls Try.prog 48 [.pointer (some ⟨g, o, none⟩), .int .i64 (most : Int)] H (fun v H' => H.Le H' ∧ ∃ gL r, v = .tuple #[.slice (some ⟨gL, 0, none⟩) (d.selc most).length (d.selc most).length, .bool true] ∧ ConsR 42 2 H.next H' (some ⟨gL, 0, none⟩) r (d.selc most)) := by
  have hI0 := hI
  have hob := hI.2.1.1.obj
  refine GCalls.body (N := 41) (rs := [.tmp 4, .tmp 5]) Try.func48 rfl rfl rfl rfl (fun Qx hret hend => ?_)
  refine .forget (fr' := [(0, some _), (1, some _)]) ⟨rfl, rfl, trivial⟩ ?_
  have hle := GHeap.Le.refl H
  have base_h := h
  refine .seq (fun K1 hK1 => ?_)
  refine .region (.m rfl rfl rfl (.assign rfl) (.m rfl rfl rfl (.assign rfl) (.nil ?_)))
  refine hK1 _ _ ?_
  refine .seq (fun K2 hK2 => ?_)
  refine .region (.m rfl rfl rfl (.move rfl) ?_)
  refine .call rfl rfl rfl rfl @Try.call56 rfl (allCones0r_c h hI0 hb) ?_
  rintro _ H13 ⟨le13, g13, r13, rfl, v13⟩
  have nx_H13 := le13.1
  replace hle := hle.trans le13
  have bs_v13 := v13
  have lv_v13 : Keep H.next H13 H13 := fun _ _ _ h => h
  replace h := base_h.mono hle
  have sl13 := v13.sl
  refine .m rfl rfl rfl (.move rfl) (.m rfl rfl rfl (.extract rfl rfl) (.m rfl rfl rfl (.extract rfl rfl) (.m rfl rfl rfl (.assign rfl) ?_)))
  refine .m rfl rfl rfl (.assign rfl) (.nil ?_)
  refine hK2 _ _ ?_
  refine .seq (fun K3 hK3 => ?_)
  refine .seq (fun K4 hK4 => ?_)
  refine .region (.m rfl rfl rfl (.move rfl) (.m rfl rfl rfl (.not rfl) (.nil ?_)))
  refine hK4 _ _ ?_
  refine .cond rfl (fun h17 => ?_) (fun h17 => ?_)
  ·
   simp at h17
  try simp only [sps] at h17
  refine .skip ?_
  refine hK3 _ _ ?_
  refine .seq (fun K5 hK5 => ?_)
  refine .region ?_
  refine .r rfl rfl rfl (.litR rfl sl_29_Hk ze_42_Hk rfl rfl (by omega) (by omega) rfl rfl) ?_
  rintro _ H18 ⟨g18, rfl, le18, ge18, at18⟩
  have nx_H18 := le18.1
  replace hle := hle.trans le18
  replace lv_v13 := Keep.le lv_v13 le18
  replace v13 := bs_v13.keep lv_v13 (Nat.le_refl _)
  have lt_at18 := GHeap.lt_of_get at18
  replace h := base_h.mono hle
  clear sl13
  have sl13 := v13.sl
  refine .m rfl rfl rfl (.assign rfl) (.nil ?_)
  refine hK5 _ _ ?_
  refine .seq (fun K6 hK6 => ?_)
  refine .seq (fun K7 hK7 => ?_)
  refine .region (.m rfl rfl rfl (.move rfl) (.m rfl rfl rfl (.len sl_29_Hk rfl) (.m rfl rfl rfl (.move rfl) ?_)))
  refine .nil ?_
  refine hK7 _ _ ?_
  refine .block ?_
  have hz : (selL d.limP most 0).length = 0 := by rw [selL_zero]; rfl
  refine .loopR (σ := Nat × Nat × Nat) [(0, some _), (1, some _), (6, some _), (19, some _), (20, some _)] (fun (i, gL8, nL8) => [(21, some (.int .i64 (i : Int))), (8, some (.slice (some ⟨gL8, 0, none⟩) nL8 nL8))]) (fun (i, gL8, nL8) H' => St [g18] H18 H' ∧ H'.get gL8 = some (.row (selV r13 (d.coneL d.t.obj.toNat) (selL d.limP most i)) 42 true) ∧ (gL8 = g18 ∨ H18.next ≤ gL8) ∧ nL8 = (selL d.limP most i).length ∧ i ≤ (d.coneL d.t.obj.toNat).length) (fun (i, gL8, nL8) => (d.coneL d.t.obj.toNat).length - i) ((0, _, _)) ⟨rfl, rfl, rfl, rfl, rfl, trivial⟩ ⟨rfl, rfl, trivial⟩ ?_ ?_
  ·
   refine ⟨.refl _ _, by (rw [selL_zero]; first | exact at18 | simpa [selV] using at18), .inl rfl, by first | rfl | assumption | simp | omega, ?_⟩
   omega
  rintro ⟨i, gL8, nL8⟩ HL1 ⟨lst1, at_L8, pl_L8, ln_L8, hI⟩ KL1 hKL1
  refine .forget (fr' := [(21, some (.int .i64 (i : Int))), (8, some (.slice (some ⟨gL8, 0, none⟩) nL8 nL8)), (0, some _), (1, some _), (6, some _), (19, some _), (20, some _)]) ⟨rfl, rfl, rfl, rfl, rfl, rfl, rfl, trivial⟩ ?_
  have ge_L8 : H.next ≤ gL8 := by omega
  have nx_HL1 := lst1.nx
  replace hle := hle.st lst1 (fun k hk => ⟨by omega, trivial⟩)
  replace lv_v13 := Keep.st lv_v13 lst1 (fun k hb hk => ⟨by omega, trivial⟩)
  replace v13 := bs_v13.keep lv_v13 (Nat.le_refl _)
  have lt_at_L8 := GHeap.lt_of_get at_L8
  replace h := base_h.mono hle
  clear sl13
  have sl13 := v13.sl
  have hsv := length_selV r13 (d.coneL d.t.obj.toNat) (selL d.limP most i)
  have hcap := selL_cap d.limP most i
  refine .seq (fun K8 hK8 => ?_)
  refine .region (.m rfl rfl rfl (.cmp rfl rfl rfl) (.nil ?_))
  refine hK8 _ _ ?_
  refine .seq (fun K9 hK9 => ?_)
  refine .cond rfl (fun h22 => ?_) (fun h22 => ?_)
  ·
   simp only [sps] at h22
   have hci := Fun.coneL_cone hI0 (n := d.t.obj.toNat) (by omega) _ (getD_mem_list (d := Con.z) (i := i) (by omega))
   have hm1 := v13.c.mem i (by omega)
   have hin1 := v13.c.inn i (by omega)
   refine .skip ?_
   refine hK9 _ _ ?_
   refine .seq (fun K10 hK10 => ?_)
   refine .block ?_
   refine .seq (fun K11 hK11 => ?_)
   refine .region ?_
   refine .m rfl rfl rfl (.idx sl_29_Hk sl13 (by omega) rfl rfl (by omega) (by omega) rfl) ?_
   refine .m rfl rfl rfl (.loadM ag_42_Hl rfl hm1) ?_
   refine .r rfl rfl rfl (.allocR rfl ze_42_Hk rfl) ?_
   rintro _ H10 ⟨g10, rfl, le10, ge10, at10⟩
   have nx_H10 := le10.1
   replace hle := hle.trans le10
   replace lst1 := lst1.le le10
   replace at_L8 := le10.2 _ _ at_L8
   replace lv_v13 := Keep.le lv_v13 le10
   replace v13 := bs_v13.keep lv_v13 (Nat.le_refl _)
   have lt_at10 := GHeap.lt_of_get at10
   replace h := base_h.mono hle
   clear sl13
   have sl13 := v13.sl
   clear hm1 hin1
   have hm1 := v13.c.mem i (by omega)
   have hin1 := v13.c.inn i (by omega)
   refine .r0 rfl rfl (.fillR rfl sz_42_U rfl rfl rfl rfl (by assumption) (by first | rfl | exact Nat.le_of_ble_eq_true rfl | simp)) ?_
   rintro _ H7003 ⟨rfl, st7003, at7003⟩
   have nx_H7003 := st7003.nx
   replace hle := hle.st st7003 (fun k hk => ⟨by omega, trivial⟩)
   replace lst1 := lst1.st st7003 (fun k hk ho => by simp only [out, and_true] at ho ⊢ <;> omega)
   replace at_L8 := st7003.same _ _ ⟨by omega, trivial⟩ at_L8
   replace lv_v13 := Keep.st lv_v13 st7003 (fun k hb hk => ⟨by omega, trivial⟩)
   replace v13 := bs_v13.keep lv_v13 (Nat.le_refl _)
   have lt_at7003 := GHeap.lt_of_get at7003
   replace h := base_h.mono hle
   clear sl13
   have sl13 := v13.sl
   clear hm1 hin1
   have hm1 := v13.c.mem i (by omega)
   have hin1 := v13.c.inn i (by omega)
   have mm7003 : MemN _ _ _ _ _ := ⟨rfl, Mem.of_get at7003⟩
   have hb10 : Con.At _ g10 0 ((d.coneL d.t.obj.toNat).getD i .z) ⟨r13 i⟩ := ⟨Mem.of_get at7003, hin1⟩
   obtain ⟨c010, c110, i110⟩ := hb10.get
   have hm10 : MemN _ _ _ _ _ := ⟨rfl, hb10.1⟩
   have hi10 := hb10.2
   refine .nil ?_
   refine hK11 _ _ ?_
   refine .seq (fun K12 hK12 => ?_)
   refine .region (.m rfl rfl rfl (.move rfl) (.m rfl rfl rfl (.len sl_29_Hk rfl) (.m rfl rfl rfl (.move rfl) ?_)))
   refine .m rfl rfl rfl (.cmp rfl rfl rfl) (.m rfl rfl rfl (.move rfl) ?_)
   refine .split (fun h29 => ?_) (fun h29 => ?_)
   ·
    simp only [sps] at h29
    refine .mg rfl rfl rfl rfl rfl (.move rfl) (.mg rfl rfl rfl rfl rfl (.move rfl) ?_)
    refine .mg rfl rfl rfl rfl rfl (.loadM ag_42_Hl rfl ⟨rfl, Mem.of_get at7003⟩) ?_
    refine .callQg rfl rfl rfl rfl rfl rfl @Try.call74 rfl (isUniversal_c (C := fun i => (d.coneL d.t.obj.toNat).getD i .z) (P := fun i => ⟨r13 i⟩) h hI0 hin1 hci (by omega) v13.c.sl v13.c.mem v13.c.inn (fun i hi => Fun.coneL_cone hI0 (by omega) _ (getD_mem_list hi))) ?_
    refine .m rfl rfl rfl (.pickT rfl rfl) (.nil ?_)
    refine hK12 _ _ ?_
    refine .cond rfl (fun h34 => ?_) (fun h34 => ?_)
    ·
     have hE : selL d.limP most (i + 1) = selL d.limP most i ++ [i] := selL_T (by omega) h34
     refine .region (.m rfl rfl rfl (.move rfl) ?_)
     refine .m rfl rfl rfl (.loadM ag_42_Hl rfl ⟨rfl, Mem.of_get at7003⟩) ?_
     refine .r rfl rfl rfl (.litR rfl sl_29_Hk ze_42_Hk rfl rfl (by omega) (by omega) rfl rfl) ?_
     rintro _ H37 ⟨g37, rfl, le37, ge37, at37⟩
     have nx_H37 := le37.1
     replace hle := hle.trans le37
     replace lst1 := lst1.le le37
     replace at_L8 := le37.2 _ _ at_L8
     replace at7003 := le37.2 _ _ at7003
     replace lv_v13 := Keep.le lv_v13 le37
     replace v13 := bs_v13.keep lv_v13 (Nat.le_refl _)
     have lt_at37 := GHeap.lt_of_get at37
     replace h := base_h.mono hle
     clear sl13
     have sl13 := v13.sl
     clear hm1 hin1
     have hm1 := v13.c.mem i (by omega)
     have hin1 := v13.c.inn i (by omega)
     clear mm7003
     have mm7003 : MemN _ _ _ _ _ := ⟨rfl, Mem.of_get at7003⟩
     clear hb10 c010 c110 i110 hm10 hi10
     have hb10 : Con.At _ g10 0 ((d.coneL d.t.obj.toNat).getD i .z) ⟨r13 i⟩ := ⟨Mem.of_get at7003, hin1⟩
     obtain ⟨c010, c110, i110⟩ := hb10.get
     have hm10 : MemN _ _ _ _ _ := ⟨rfl, hb10.1⟩
     have hi10 := hb10.2
     refine .r rfl rfl rfl (.appendV rfl sl_29_Hk ze_42_Hk rfl by_42_Hk sl_29_Hk rfl rfl (by assumption) (by assumption) (by first | omega | (simp <;> omega)) rfl rfl (by omega) (by omega)) ?_
     rintro _ H38 ⟨g38, rfl, st38, ge38, at38⟩
     have nx_H38 := st38.nx
     replace hle := hle.st st38 (fun k hk => ⟨by omega, trivial⟩)
     replace lst1 := lst1.st st38 (fun k hk ho => by simp only [out, and_true] at ho ⊢ <;> omega)
     replace at7003 := st38.same _ _ ⟨by omega, trivial⟩ at7003
     replace at37 := st38.same _ _ ⟨by omega, trivial⟩ at37
     replace lv_v13 := Keep.st lv_v13 st38 (fun k hb hk => ⟨by omega, trivial⟩)
     replace v13 := bs_v13.keep lv_v13 (Nat.le_refl _)
     have lt_at38 := GHeap.lt_of_get at38
     replace h := base_h.mono hle
     clear sl13
     have sl13 := v13.sl
     clear hm1 hin1
     have hm1 := v13.c.mem i (by omega)
     have hin1 := v13.c.inn i (by omega)
     clear mm7003
     have mm7003 : MemN _ _ _ _ _ := ⟨rfl, Mem.of_get at7003⟩
     clear hb10 c010 c110 i110 hm10 hi10
     have hb10 : Con.At _ g10 0 ((d.coneL d.t.obj.toNat).getD i .z) ⟨r13 i⟩ := ⟨Mem.of_get at7003, hin1⟩
     obtain ⟨c010, c110, i110⟩ := hb10.get
     have hm10 : MemN _ _ _ _ _ := ⟨rfl, hb10.1⟩
     have hi10 := hb10.2
     refine .m rfl rfl rfl (.assign rfl) (.nil ?_)
     refine hK10 _ _ ?_
     refine .region ?_
     refine .m rfl rfl rfl (.add rfl rfl rfl (by omega) (by omega)) ?_
     refine .m rfl rfl rfl (.move rfl) (.nil ?_)
     refine hKL1 ((i + 1, _, _)) _ _ ?_ ?_ ⟨rfl, rfl, rfl, rfl, rfl, rfl, rfl, trivial⟩
     ·
      refine ⟨lst1, by first | assumption | (rw [hE, selV_snoc]; assumption) | (rw [hE]; assumption), by omega, by first | omega | (simp only [List.length_append, List.length_cons, List.length_nil] <;> omega) | (rw [hE, selV_snoc] <;> (first | omega | (simp only [List.length_append, List.length_cons, List.length_nil] <;> omega))) | (rw [hE] <;> (first | omega | (simp only [List.length_append, List.length_cons, List.length_nil] <;> omega))), ?_⟩
      omega
     (dsimp only; omega)
    have hE : selL d.limP most (i + 1) = selL d.limP most i := selL_F h34
    refine .skip ?_
    refine hK10 _ _ ?_
    refine .region ?_
    refine .m rfl rfl rfl (.add rfl rfl rfl (by omega) (by omega)) ?_
    refine .m rfl rfl rfl (.move rfl) (.nil ?_)
    refine hKL1 ((i + 1, _, _)) _ _ ?_ ?_ ⟨rfl, rfl, rfl, rfl, rfl, rfl, rfl, trivial⟩
    ·
     refine ⟨lst1, by first | assumption | (rw [hE, selV_snoc]; assumption) | (rw [hE]; assumption), by omega, by first | omega | (simp only [List.length_append, List.length_cons, List.length_nil] <;> omega) | (rw [hE, selV_snoc] <;> (first | omega | (simp only [List.length_append, List.length_cons, List.length_nil] <;> omega))) | (rw [hE] <;> (first | omega | (simp only [List.length_append, List.length_cons, List.length_nil] <;> omega))), ?_⟩
     omega
    (dsimp only; omega)
   simp only [sps] at h29
   have hE : selL d.limP most (i + 1) = selL d.limP most i := selL_full (by omega)
   refine .sg rfl rfl rfl rfl rfl (.sg rfl rfl rfl rfl rfl (.sg rfl rfl rfl rfl rfl (.sg rfl rfl rfl rfl rfl ?_)))
   refine .m rfl rfl rfl (.pickF rfl rfl) (.nil ?_)
   refine hK12 _ _ ?_
   refine .condF rfl ?_
   refine .skip ?_
   refine hK10 _ _ ?_
   refine .region ?_
   refine .m rfl rfl rfl (.add rfl rfl rfl (by omega) (by omega)) ?_
   refine .m rfl rfl rfl (.move rfl) (.nil ?_)
   refine hKL1 ((i + 1, _, _)) _ _ ?_ ?_ ⟨rfl, rfl, rfl, rfl, rfl, rfl, rfl, trivial⟩
   ·
    refine ⟨lst1, by first | assumption | (rw [hE, selV_snoc]; assumption) | (rw [hE]; assumption), by omega, by first | omega | (simp only [List.length_append, List.length_cons, List.length_nil] <;> omega) | (rw [hE, selV_snoc] <;> (first | omega | (simp only [List.length_append, List.length_cons, List.length_nil] <;> omega))) | (rw [hE] <;> (first | omega | (simp only [List.length_append, List.length_cons, List.length_nil] <;> omega))), ?_⟩
    omega
   (dsimp only; omega)
  try simp only [sps] at h22
  refine .exit ?_
  refine hK6 _ _ ?_
  refine .seq (fun K13 hK13 => ?_)
  refine .region (.m rfl rfl rfl (.move rfl) (.m rfl rfl rfl (.assign rfl) (.m rfl rfl rfl (.assign rfl) ?_)))
  refine .nil ?_
  refine hK13 _ _ ?_
  refine .ret ?_
  refine hret _ _ ?_
  refine ⟨_, _, rfl, rfl, ?_⟩
  obtain rfl : i = (d.coneL d.t.obj.toNat).length := by omega
  refine ⟨hle, gL8, fun k => r13 ((selL d.limP most (d.coneL d.t.obj.toNat).length).getD k 0), by rw [ln_L8, Fun.selc_len], .inr ⟨gL8, rfl, by omega, ?_, ?_⟩⟩
  · rw [show d.selc most = _ from rfl, Fun.selc, selV_eq]; exact at_L8
  · exact (v13.a.rows.sel (selL_nodup _ _ _) fun j hj => (selL_mem hj).1).keepK (.of_le (.refl _)) (by omega)
set_option maxHeartbeats 4000000 in
theorem limits1_c {g o most : Nat} {d : Fun} {p : FunP} {H : GHeap} (h : Fun.At H g o d p) (hI : d.Is) (hb : ¬ (d.coneL d.t.obj.toNat).length ≤ 400) :
    GCalls Try.prog 48 [.pointer (some ⟨g, o, none⟩), .int .i64 (most : Int)] H (Ret (.tuple #[.slice none 0 0, .bool false]) H) := by
  refine GCalls.ret rfl ?_
  refine GCalls.body (N := 41) (rs := [.tmp 4, .tmp 5]) Try.func48 rfl rfl rfl rfl (fun Qx hret hend => ?_)
  refine .forget (fr' := [(0, some _), (1, some _)]) ⟨rfl, rfl, trivial⟩ ?_
  have hle := GHeap.Le.refl H
  have base_h := h
  refine .seq (fun K1 hK1 => ?_)
  refine .region (.m rfl rfl rfl (.assign rfl) (.m rfl rfl rfl (.assign rfl) (.nil ?_)))
  refine hK1 _ _ ?_
  refine .seq (fun K2 hK2 => ?_)
  refine .region (.m rfl rfl rfl (.move rfl) ?_)
  refine .call rfl rfl rfl rfl @Try.call56 rfl (allCones1b_c h hI hb) ?_
  rintro _ H13 ⟨le13, rfl⟩
  have nx_H13 := le13.1
  replace hle := hle.trans le13
  replace h := base_h.mono hle
  refine .m rfl rfl rfl (.move rfl) (.m rfl rfl rfl (.extract rfl rfl) (.m rfl rfl rfl (.extract rfl rfl) (.m rfl rfl rfl (.assign rfl) ?_)))
  refine .m rfl rfl rfl (.assign rfl) (.nil ?_)
  refine hK2 _ _ ?_
  refine .seq (fun K3 hK3 => ?_)
  refine .seq (fun K4 hK4 => ?_)
  refine .region (.m rfl rfl rfl (.move rfl) (.m rfl rfl rfl (.not rfl) (.nil ?_)))
  refine hK4 _ _ ?_
  refine .cond rfl (fun h17 => ?_) (fun h17 => ?_)
  ·
   try simp only [sps] at h17
   refine .seq (fun K5 hK5 => ?_)
   refine .region (.m rfl rfl rfl (.assign rfl) (.m rfl rfl rfl (.assign rfl) (.nil ?_)))
   refine hK5 _ _ ?_
   refine .ret ?_
   refine hret _ _ ?_
   refine ⟨_, _, rfl, rfl, ?_⟩
   exact ⟨rfl, hle⟩
  simp at h17
end Go.Proofs.Ytpmjlhbglcaokaa
/- The first limit. No condition but those of each statement. -/
namespace Go.Proofs.Ytpmjlhbglcaokaa
open Go Go.GL Go.RowKit Go.Proofs
set_option maxHeartbeats 4000000 in
theorem l12Limit_c {d : Fun} {p : FunP} {H : GHeap} (hin : d.In H p) (hs : d.Small) (hI : d.Is) :
    GCalls Try.prog 45 [.agg (d.cells p).toArray] H (fun v H' => H.Le H' ∧ ∃ r, v = .tuple #[.agg (d.liR.cells r).toArray, .int .i64 d.liC] ∧ ConR H.next H' d.liR r) := by
  have hI0 := hI
  have hob := hI.2.1.1.obj
  by_cases hb : (d.coneL d.t.obj.toNat).length ≤ 400
  refine GCalls.body (N := 34) (rs := [.cell 2 42, .tmp 3]) Try.func45 rfl rfl rfl rfl (fun Qx hret hend => ?_)
  refine .forget (fr' := [(0, some _)]) ⟨rfl, trivial⟩ ?_
  have hle := GHeap.Le.refl H
  have base_hin := hin
  refine .seq (fun K1 hK1 => ?_)
  refine .region ?_
  refine .r rfl rfl rfl (.boxR rfl sz_34_E rfl) ?_
  rintro _ H1 ⟨g1, rfl, le1, ge1, at1⟩
  have nx_H1 := le1.1
  replace hle := hle.trans le1
  have lt_at1 := GHeap.lt_of_get at1
  replace hin := base_hin.mono hle
  have hb1 : Fun.At _ g1 0 d p := ⟨Mem.of_get at1, hin⟩
  obtain ⟨fs1, ft1, c101, c111, j11, j21⟩ := hb1.get
  have hm1 : MemN _ _ _ _ _ := ⟨rfl, hb1.1⟩
  have hi1 := hb1.2
  have hms1 : MemN _ _ _ _ _ := ⟨rfl, fs1.1⟩
  have his1 := fs1.2
  have hmt1 : MemN _ _ _ _ _ := ⟨rfl, ft1.1⟩
  have hit1 := ft1.2
  refine .r rfl rfl rfl (.allocR rfl ze_42_Hk rfl) ?_
  rintro _ H2 ⟨g2, rfl, le2, ge2, at2⟩
  have nx_H2 := le2.1
  replace hle := hle.trans le2
  replace at1 := le2.2 _ _ at1
  have lt_at2 := GHeap.lt_of_get at2
  replace hin := base_hin.mono hle
  clear hb1 fs1 ft1 c101 c111 j11 j21 hm1 hi1 hms1 his1 hmt1 hit1
  have hb1 : Fun.At _ g1 0 d p := ⟨Mem.of_get at1, hin⟩
  obtain ⟨fs1, ft1, c101, c111, j11, j21⟩ := hb1.get
  have hm1 : MemN _ _ _ _ _ := ⟨rfl, hb1.1⟩
  have hi1 := hb1.2
  have hms1 : MemN _ _ _ _ _ := ⟨rfl, fs1.1⟩
  have his1 := fs1.2
  have hmt1 : MemN _ _ _ _ _ := ⟨rfl, ft1.1⟩
  have hit1 := ft1.2
  refine .m rfl rfl rfl (.assign rfl) (.nil ?_)
  refine hK1 _ _ ?_
  refine .seq (fun K2 hK2 => ?_)
  refine .region ?_
  refine .m rfl rfl rfl (.loadM ag_34_E rfl ⟨rfl, Mem.of_get at1⟩) ?_
  refine .call rfl rfl rfl rfl @Try.call36 rfl (l12List0_c hin hs hI0 hb) ?_
  rintro _ H9 ⟨le9, g9, r9, rfl, v9⟩
  have nx_H9 := le9.1
  replace hle := hle.trans le9
  replace at1 := le9.2 _ _ at1
  replace at2 := le9.2 _ _ at2
  have bs_v9 := v9
  have lv_v9 : Keep H2.next H9 H9 := fun _ _ _ h => h
  replace hin := base_hin.mono hle
  clear hb1 fs1 ft1 c101 c111 j11 j21 hm1 hi1 hms1 his1 hmt1 hit1
  have hb1 : Fun.At _ g1 0 d p := ⟨Mem.of_get at1, hin⟩
  obtain ⟨fs1, ft1, c101, c111, j11, j21⟩ := hb1.get
  have hm1 : MemN _ _ _ _ _ := ⟨rfl, hb1.1⟩
  have hi1 := hb1.2
  have hms1 : MemN _ _ _ _ _ := ⟨rfl, fs1.1⟩
  have his1 := fs1.2
  have hmt1 : MemN _ _ _ _ _ := ⟨rfl, ft1.1⟩
  have hit1 := ft1.2
  have sl9 := v9.sl
  refine .m rfl rfl rfl (.move rfl) (.m rfl rfl rfl (.extract rfl rfl) (.m rfl rfl rfl (.extract rfl rfl) (.m rfl rfl rfl (.assign rfl) ?_)))
  refine .m rfl rfl rfl (.assign rfl) (.nil ?_)
  refine hK2 _ _ ?_
  refine .seq (fun K3 hK3 => ?_)
  refine .seq (fun K4 hK4 => ?_)
  refine .region (.m rfl rfl rfl (.move rfl) (.m rfl rfl rfl (.cmp rfl rfl rfl) (.nil ?_)))
  refine hK4 _ _ ?_
  refine .cond rfl (fun h13 => ?_) (fun h13 => ?_)
  ·
   simp at h13
  ·
   try simp only [sps] at h13
   refine .skip ?_
   refine hK3 _ _ ?_
   refine .seq (fun K5 hK5 => ?_)
   refine .seq (fun K6 hK6 => ?_)
   refine .region (.m rfl rfl rfl (.assign rfl) (.nil ?_))
   refine hK6 _ _ ?_
   refine .block ?_
   refine .loopR (σ := Nat) [(1, some _), (2, some _), (4, some _)] (fun i => [(6, some (.int .i64 (i : Int)))]) (fun i H' => St [] H9 H' ∧ i ≤ (d.coneL d.t.obj.toNat).length ∧ ∀ j, j < i → d.limP j = false) (fun i => (d.coneL d.t.obj.toNat).length - i) (0) ⟨rfl, rfl, rfl, trivial⟩ ⟨rfl, trivial⟩ ?_ ?_
   ·
    refine ⟨.refl _ _, ?_⟩
    exact ⟨by omega, fun _ _ => by omega⟩
   rintro i HL1 ⟨lst1, hI⟩ KL1 hKL1
   refine .forget (fr' := [(6, some (.int .i64 (i : Int))), (1, some _), (2, some _), (4, some _)]) ⟨rfl, rfl, rfl, rfl, trivial⟩ ?_
   have nx_HL1 := lst1.nx
   replace hle := hle.st lst1 (fun k hk => trivial)
   replace at1 := lst1.same _ _ trivial at1
   replace at2 := lst1.same _ _ trivial at2
   replace lv_v9 := Keep.st lv_v9 lst1 (fun k hb hk => trivial)
   replace v9 := bs_v9.keep lv_v9 (Nat.le_refl _)
   replace hin := base_hin.mono hle
   clear hb1 fs1 ft1 c101 c111 j11 j21 hm1 hi1 hms1 his1 hmt1 hit1
   have hb1 : Fun.At _ g1 0 d p := ⟨Mem.of_get at1, hin⟩
   obtain ⟨fs1, ft1, c101, c111, j11, j21⟩ := hb1.get
   have hm1 : MemN _ _ _ _ _ := ⟨rfl, hb1.1⟩
   have hi1 := hb1.2
   have hms1 : MemN _ _ _ _ _ := ⟨rfl, fs1.1⟩
   have his1 := fs1.2
   have hmt1 : MemN _ _ _ _ _ := ⟨rfl, ft1.1⟩
   have hit1 := ft1.2
   clear sl9
   have sl9 := v9.sl
   obtain ⟨hi, ha⟩ := hI
   refine .seq (fun K7 hK7 => ?_)
   refine .seq (fun K8 hK8 => ?_)
   refine .region (.m rfl rfl rfl (.move rfl) (.m rfl rfl rfl (.move rfl) (.m rfl rfl rfl (.len sl_29_Hk rfl) ?_)))
   refine .m rfl rfl rfl (.cmp rfl rfl rfl) (.nil ?_)
   refine hK8 _ _ ?_
   refine .cond rfl (fun h19 => ?_) (fun h19 => ?_)
   ·
    simp only [sps] at h19
    have hci := Fun.coneL_cone hI0 (n := d.t.obj.toNat) (by omega) _ (getD_mem_list (d := Con.z) (i := i) (by omega))
    have hm1 := v9.mem i (by omega)
    have hin1 := v9.inn i (by omega)
    refine .skip ?_
    refine hK7 _ _ ?_
    refine .seq (fun K9 hK9 => ?_)
    refine .block ?_
    refine .seq (fun K10 hK10 => ?_)
    refine .regionD mixed_orders_B (.q 0 (.q 1 (.q 2 (.q 3 (.q 4 (.q 5 (.c 6 0 (.done)))))))) (by kernel_rfl) ?_
    refine .m rfl rfl rfl rfl (.refl _) (.loadM ag_34_E rfl ⟨rfl, Mem.of_get at1⟩) ?_
    refine .m rfl rfl rfl rfl (.refl _) (.move rfl) (.m rfl rfl rfl rfl (.refl _) (.move rfl) (.m rfl rfl rfl rfl (.refl _) (.move rfl) ?_))
    refine .m rfl rfl rfl rfl (.refl _) (.idx sl_29_Hk sl9 (by omega) rfl rfl (by omega) (by omega) rfl) ?_
    refine .m rfl rfl rfl rfl (.refl _) (.loadM ag_42_Hl rfl hm1) ?_
    refine .callQ0 rfl rfl rfl rfl rfl @Try.call73 rfl (l12Universal_c (C := fun i => (d.coneL d.t.obj.toNat).getD i .z) (P := fun i => ⟨r9 i⟩) hin hI0 hin1 hci (by omega) v9.sl v9.mem v9.inn (fun i hi => Fun.coneL_cone hI0 (by omega) _ (getD_mem_list hi))) ?_
    refine .done ?_
    refine hK10 _ _ ?_
    refine .cond rfl (fun h28 => ?_) (fun h28 => ?_)
    ·
     refine .seq (fun K11 hK11 => ?_)
     refine .region (.m rfl rfl rfl (.move rfl) (.m rfl rfl rfl (.move rfl) ?_))
     refine .m rfl rfl rfl (.idx sl_29_Hk sl9 (by omega) rfl rfl (by omega) (by omega) rfl) ?_
     refine .m rfl rfl rfl (.loadM ag_42_Hl rfl hm1) ?_
     refine .r0 rfl rfl (.fillR rfl sz_42_U rfl rfl rfl rfl (by assumption) (by first | rfl | exact Nat.le_of_ble_eq_true rfl | simp)) ?_
     rintro _ H8004 ⟨rfl, st8004, at8004⟩
     have nx_H8004 := st8004.nx
     replace hle := hle.st st8004 (fun k hk => ⟨by omega, trivial⟩)
     replace at1 := st8004.same _ _ ⟨by omega, trivial⟩ at1
     replace lv_v9 := Keep.st lv_v9 st8004 (fun k hb hk => ⟨by omega, trivial⟩)
     replace v9 := bs_v9.keep lv_v9 (Nat.le_refl _)
     have lt_at8004 := GHeap.lt_of_get at8004
     replace hin := base_hin.mono hle
     clear hb1 fs1 ft1 c101 c111 j11 j21 hm1 hi1 hms1 his1 hmt1 hit1
     have hb1 : Fun.At _ g1 0 d p := ⟨Mem.of_get at1, hin⟩
     obtain ⟨fs1, ft1, c101, c111, j11, j21⟩ := hb1.get
     have hm1 : MemN _ _ _ _ _ := ⟨rfl, hb1.1⟩
     have hi1 := hb1.2
     have hms1 : MemN _ _ _ _ _ := ⟨rfl, fs1.1⟩
     have his1 := fs1.2
     have hmt1 : MemN _ _ _ _ _ := ⟨rfl, ft1.1⟩
     have hit1 := ft1.2
     clear sl9
     have sl9 := v9.sl
     clear hm1 hin1
     have hm1 := v9.mem i (by omega)
     have hin1 := v9.inn i (by omega)
     have mm8004 : MemN _ _ _ _ _ := ⟨rfl, Mem.of_get at8004⟩
     refine .m rfl rfl rfl (.assign rfl) (.nil ?_)
     refine hK11 _ _ ?_
     refine .ret ?_
     refine hret _ _ ?_
     refine ⟨_, _, _, _, _, rfl, ag_42_Hl, (by rfl), (Mem.of_get at8004), rfl, ?_⟩
     have e0 := Fun.selc_first (by omega) ha h28
     obtain ⟨e1, e2⟩ := Fun.li_4 hI0 hb (by rw [e0]; simp)
     rw [e1, e2, e0]
     exact ⟨hle, ⟨r9 i⟩, rfl, .inr ((v9.2.2 i (by omega)).keep (.of_le (.refl _)) (by omega))⟩
    refine .skip ?_
    refine hK9 _ _ ?_
    refine .region (.m rfl rfl rfl (.move rfl) ?_)
    refine .m rfl rfl rfl (.add rfl rfl rfl (by omega) (by omega)) ?_
    refine .m rfl rfl rfl (.assign rfl) (.nil ?_)
    refine hKL1 (i + 1) _ _ ?_ ?_ ⟨rfl, rfl, rfl, rfl, trivial⟩
    ·
     refine ⟨lst1, ?_⟩
     refine ⟨by omega, fun j hj => ?_⟩
     by_cases e : j < i
     · exact ha j e
     · obtain rfl : j = i := by omega
       exact h28
    omega
   try simp only [sps] at h19
   refine .exit ?_
   refine hK5 _ _ ?_
   refine .seq (fun K12 hK12 => ?_)
   refine .region (.m rfl rfl rfl (.build bt_42_Hk rfl rfl rfl) ?_)
   refine .r0 rfl rfl (.fillR rfl sz_42_U rfl rfl rfl rfl (by assumption) (by first | rfl | exact Nat.le_of_ble_eq_true rfl | simp)) ?_
   rintro _ H9001 ⟨rfl, st9001, at9001⟩
   have nx_H9001 := st9001.nx
   replace hle := hle.st st9001 (fun k hk => ⟨by omega, trivial⟩)
   replace at1 := st9001.same _ _ ⟨by omega, trivial⟩ at1
   replace lv_v9 := Keep.st lv_v9 st9001 (fun k hb hk => ⟨by omega, trivial⟩)
   replace v9 := bs_v9.keep lv_v9 (Nat.le_refl _)
   have lt_at9001 := GHeap.lt_of_get at9001
   replace hin := base_hin.mono hle
   clear hb1 fs1 ft1 c101 c111 j11 j21 hm1 hi1 hms1 his1 hmt1 hit1
   have hb1 : Fun.At _ g1 0 d p := ⟨Mem.of_get at1, hin⟩
   obtain ⟨fs1, ft1, c101, c111, j11, j21⟩ := hb1.get
   have hm1 : MemN _ _ _ _ _ := ⟨rfl, hb1.1⟩
   have hi1 := hb1.2
   have hms1 : MemN _ _ _ _ _ := ⟨rfl, fs1.1⟩
   have his1 := fs1.2
   have hmt1 : MemN _ _ _ _ _ := ⟨rfl, ft1.1⟩
   have hit1 := ft1.2
   clear sl9
   have sl9 := v9.sl
   have mm9001 : MemN _ _ _ _ _ := ⟨rfl, Mem.of_get at9001⟩
   refine .m rfl rfl rfl (.assign rfl) (.nil ?_)
   refine hK12 _ _ ?_
   refine .ret ?_
   refine hret _ _ ?_
   refine ⟨_, _, _, _, _, rfl, ag_42_Hl, (by rfl), (Mem.of_get at9001), rfl, ?_⟩
   obtain rfl : i = (d.coneL d.t.obj.toNat).length := by omega
   obtain ⟨e1, e2⟩ := Fun.li_3 hI0 hb (Fun.selc_none ha)
   rw [e1, e2]
   exact ⟨hle, ⟨none⟩, rfl, .inl ⟨rfl, rfl⟩⟩
  refine GCalls.body (N := 34) (rs := [.cell 2 42, .tmp 3]) Try.func45 rfl rfl rfl rfl (fun Qx hret hend => ?_)
  refine .forget (fr' := [(0, some _)]) ⟨rfl, trivial⟩ ?_
  have hle := GHeap.Le.refl H
  have base_hin := hin
  refine .seq (fun K1 hK1 => ?_)
  refine .region ?_
  refine .r rfl rfl rfl (.boxR rfl sz_34_E rfl) ?_
  rintro _ H1 ⟨g1, rfl, le1, ge1, at1⟩
  have nx_H1 := le1.1
  replace hle := hle.trans le1
  have lt_at1 := GHeap.lt_of_get at1
  replace hin := base_hin.mono hle
  have hb1 : Fun.At _ g1 0 d p := ⟨Mem.of_get at1, hin⟩
  obtain ⟨fs1, ft1, c101, c111, j11, j21⟩ := hb1.get
  have hm1 : MemN _ _ _ _ _ := ⟨rfl, hb1.1⟩
  have hi1 := hb1.2
  have hms1 : MemN _ _ _ _ _ := ⟨rfl, fs1.1⟩
  have his1 := fs1.2
  have hmt1 : MemN _ _ _ _ _ := ⟨rfl, ft1.1⟩
  have hit1 := ft1.2
  refine .r rfl rfl rfl (.allocR rfl ze_42_Hk rfl) ?_
  rintro _ H2 ⟨g2, rfl, le2, ge2, at2⟩
  have nx_H2 := le2.1
  replace hle := hle.trans le2
  replace at1 := le2.2 _ _ at1
  have lt_at2 := GHeap.lt_of_get at2
  replace hin := base_hin.mono hle
  clear hb1 fs1 ft1 c101 c111 j11 j21 hm1 hi1 hms1 his1 hmt1 hit1
  have hb1 : Fun.At _ g1 0 d p := ⟨Mem.of_get at1, hin⟩
  obtain ⟨fs1, ft1, c101, c111, j11, j21⟩ := hb1.get
  have hm1 : MemN _ _ _ _ _ := ⟨rfl, hb1.1⟩
  have hi1 := hb1.2
  have hms1 : MemN _ _ _ _ _ := ⟨rfl, fs1.1⟩
  have his1 := fs1.2
  have hmt1 : MemN _ _ _ _ _ := ⟨rfl, ft1.1⟩
  have hit1 := ft1.2
  refine .m rfl rfl rfl (.assign rfl) (.nil ?_)
  refine hK1 _ _ ?_
  refine .seq (fun K2 hK2 => ?_)
  refine .region ?_
  refine .m rfl rfl rfl (.loadM ag_34_E rfl ⟨rfl, Mem.of_get at1⟩) ?_
  refine .callQ rfl rfl rfl rfl @Try.call36 rfl (l12List1_c hin hs hI0 hb) ?_
  refine .m rfl rfl rfl (.move rfl) (.m rfl rfl rfl (.extract rfl rfl) (.m rfl rfl rfl (.extract rfl rfl) (.m rfl rfl rfl (.assign rfl) ?_)))
  refine .m rfl rfl rfl (.assign rfl) (.nil ?_)
  refine hK2 _ _ ?_
  refine .seq (fun K3 hK3 => ?_)
  refine .seq (fun K4 hK4 => ?_)
  refine .region (.m rfl rfl rfl (.move rfl) (.m rfl rfl rfl (.cmp rfl rfl rfl) (.nil ?_)))
  refine hK4 _ _ ?_
  refine .cond rfl (fun h13 => ?_) (fun h13 => ?_)
  ·
   try simp only [sps] at h13
   refine .seq (fun K5 hK5 => ?_)
   refine .region (.m rfl rfl rfl (.build bt_42_Hk rfl rfl rfl) (.m rfl rfl rfl (.move rfl) ?_))
   refine .r0 rfl rfl (.fillR rfl sz_42_U rfl rfl rfl rfl (by assumption) (by first | rfl | exact Nat.le_of_ble_eq_true rfl | simp)) ?_
   rintro _ H3002 ⟨rfl, st3002, at3002⟩
   have nx_H3002 := st3002.nx
   replace hle := hle.st st3002 (fun k hk => ⟨by omega, trivial⟩)
   replace at1 := st3002.same _ _ ⟨by omega, trivial⟩ at1
   have lt_at3002 := GHeap.lt_of_get at3002
   replace hin := base_hin.mono hle
   clear hb1 fs1 ft1 c101 c111 j11 j21 hm1 hi1 hms1 his1 hmt1 hit1
   have hb1 : Fun.At _ g1 0 d p := ⟨Mem.of_get at1, hin⟩
   obtain ⟨fs1, ft1, c101, c111, j11, j21⟩ := hb1.get
   have hm1 : MemN _ _ _ _ _ := ⟨rfl, hb1.1⟩
   have hi1 := hb1.2
   have hms1 : MemN _ _ _ _ _ := ⟨rfl, fs1.1⟩
   have his1 := fs1.2
   have hmt1 : MemN _ _ _ _ _ := ⟨rfl, ft1.1⟩
   have hit1 := ft1.2
   have mm3002 : MemN _ _ _ _ _ := ⟨rfl, Mem.of_get at3002⟩
   refine .m rfl rfl rfl (.assign rfl) (.nil ?_)
   refine hK5 _ _ ?_
   refine .ret ?_
   refine hret _ _ ?_
   refine ⟨_, _, _, _, _, rfl, ag_42_Hl, (by rfl), (Mem.of_get at3002), rfl, ?_⟩
   obtain ⟨e1, e2⟩ := Fun.li_2 hI0 hb
   rw [e1, e2]
   exact ⟨hle, ⟨none⟩, rfl, .inl ⟨rfl, rfl⟩⟩
  simp at h13
set_option maxHeartbeats 4000000 in
theorem specLimitOf_c {d : Fun} {p : FunP} {H : GHeap} (hin : d.In H p := by assumption) (hs : d.Small := by assumption) :
    GCalls Try.prog 17 [.agg (d.cells p).toArray] H (fun v H' => H.Le H' ∧ ∃ r, v = .tuple #[.agg (d.liR.cells r).toArray, .int .i64 d.liC] ∧ ConR H.next H' d.liR r) := by
  refine GCalls.body (N := 12) (rs := [.cell 2 42, .tmp 3]) Try.func17 rfl rfl rfl rfl (fun Qx hret hend => ?_)
  refine .forget (fr' := [(0, some _)]) ⟨rfl, trivial⟩ ?_
  have hle := GHeap.Le.refl H
  have base_hin := hin
  refine .seq (fun K1 hK1 => ?_)
  refine .region ?_
  refine .r rfl rfl rfl (.boxR rfl sz_34_E rfl) ?_
  rintro _ H1 ⟨g1, rfl, le1, ge1, at1⟩
  have nx_H1 := le1.1
  replace hle := hle.trans le1
  have lt_at1 := GHeap.lt_of_get at1
  replace hin := base_hin.mono hle
  have hb1 : Fun.At _ g1 0 d p := ⟨Mem.of_get at1, hin⟩
  obtain ⟨fs1, ft1, c101, c111, j11, j21⟩ := hb1.get
  have hm1 : MemN _ _ _ _ _ := ⟨rfl, hb1.1⟩
  have hi1 := hb1.2
  have hms1 : MemN _ _ _ _ _ := ⟨rfl, fs1.1⟩
  have his1 := fs1.2
  have hmt1 : MemN _ _ _ _ _ := ⟨rfl, ft1.1⟩
  have hit1 := ft1.2
  refine .r rfl rfl rfl (.allocR rfl ze_42_Hk rfl) ?_
  rintro _ H2 ⟨g2, rfl, le2, ge2, at2⟩
  have nx_H2 := le2.1
  replace hle := hle.trans le2
  replace at1 := le2.2 _ _ at1
  have lt_at2 := GHeap.lt_of_get at2
  replace hin := base_hin.mono hle
  clear hb1 fs1 ft1 c101 c111 j11 j21 hm1 hi1 hms1 his1 hmt1 hit1
  have hb1 : Fun.At _ g1 0 d p := ⟨Mem.of_get at1, hin⟩
  obtain ⟨fs1, ft1, c101, c111, j11, j21⟩ := hb1.get
  have hm1 : MemN _ _ _ _ _ := ⟨rfl, hb1.1⟩
  have hi1 := hb1.2
  have hms1 : MemN _ _ _ _ _ := ⟨rfl, fs1.1⟩
  have his1 := fs1.2
  have hmt1 : MemN _ _ _ _ _ := ⟨rfl, ft1.1⟩
  have hit1 := ft1.2
  refine .m rfl rfl rfl (.assign rfl) (.nil ?_)
  refine hK1 _ _ ?_
  refine .seq (fun K2 hK2 => ?_)
  refine .seq (fun K3 hK3 => ?_)
  refine .region ?_
  refine .m rfl rfl rfl (.loadM ag_34_E rfl ⟨rfl, Mem.of_get at1⟩) ?_
  refine .callQ rfl rfl rfl rfl @Try.call35 rfl (l06Is_c) ?_
  refine .m rfl rfl rfl (.not rfl) (.nil ?_)
  refine hK3 _ _ ?_
  refine .cond rfl (fun h6 => ?_) (fun h6 => ?_)
  ·
   simp only [sps] at h6
   refine .seq (fun K4 hK4 => ?_)
   refine .region (.m rfl rfl rfl (.build bt_42_Hk rfl rfl rfl) ?_)
   refine .r0 rfl rfl (.fillR rfl sz_42_U rfl rfl rfl rfl (by assumption) (by first | rfl | exact Nat.le_of_ble_eq_true rfl | simp)) ?_
   rintro _ H2001 ⟨rfl, st2001, at2001⟩
   have nx_H2001 := st2001.nx
   replace hle := hle.st st2001 (fun k hk => ⟨by omega, trivial⟩)
   replace at1 := st2001.same _ _ ⟨by omega, trivial⟩ at1
   have lt_at2001 := GHeap.lt_of_get at2001
   replace hin := base_hin.mono hle
   clear hb1 fs1 ft1 c101 c111 j11 j21 hm1 hi1 hms1 his1 hmt1 hit1
   have hb1 : Fun.At _ g1 0 d p := ⟨Mem.of_get at1, hin⟩
   obtain ⟨fs1, ft1, c101, c111, j11, j21⟩ := hb1.get
   have hm1 : MemN _ _ _ _ _ := ⟨rfl, hb1.1⟩
   have hi1 := hb1.2
   have hms1 : MemN _ _ _ _ _ := ⟨rfl, fs1.1⟩
   have his1 := fs1.2
   have hmt1 : MemN _ _ _ _ _ := ⟨rfl, ft1.1⟩
   have hit1 := ft1.2
   have mm2001 : MemN _ _ _ _ _ := ⟨rfl, Mem.of_get at2001⟩
   refine .m rfl rfl rfl (.assign rfl) (.nil ?_)
   refine hK4 _ _ ?_
   refine .ret ?_
   refine hret _ _ ?_
   refine ⟨_, _, _, _, _, rfl, ag_42_Hl, (by rfl), (Mem.of_get at2001), rfl, ?_⟩
   obtain ⟨e1, e2⟩ := Fun.li_1 h6
   rw [e1, e2]
   exact ⟨hle, ⟨none⟩, rfl, .inl ⟨rfl, rfl⟩⟩
  simp only [sps] at h6
  refine .skip ?_
  refine hK2 _ _ ?_
  refine .seq (fun K5 hK5 => ?_)
  refine .region ?_
  refine .m rfl rfl rfl (.loadM ag_34_E rfl ⟨rfl, Mem.of_get at1⟩) ?_
  refine .call rfl rfl rfl rfl @Try.call45 rfl (l12Limit_c hin hs (by assumption)) ?_
  rintro _ H9 ⟨le9, p9, rfl, v9⟩
  have nx_H9 := le9.1
  replace hle := hle.trans le9
  replace at1 := le9.2 _ _ at1
  replace at2 := le9.2 _ _ at2
  have bs_v9 := v9
  have lv_v9 : Keep H2.next H9 H9 := fun _ _ _ h => h
  replace hin := base_hin.mono hle
  clear hb1 fs1 ft1 c101 c111 j11 j21 hm1 hi1 hms1 his1 hmt1 hit1
  have hb1 : Fun.At _ g1 0 d p := ⟨Mem.of_get at1, hin⟩
  obtain ⟨fs1, ft1, c101, c111, j11, j21⟩ := hb1.get
  have hm1 : MemN _ _ _ _ _ := ⟨rfl, hb1.1⟩
  have hi1 := hb1.2
  have hms1 : MemN _ _ _ _ _ := ⟨rfl, fs1.1⟩
  have his1 := fs1.2
  have hmt1 : MemN _ _ _ _ _ := ⟨rfl, ft1.1⟩
  have hit1 := ft1.2
  have i9 := v9.inn
  refine .m rfl rfl rfl (.extract rfl rfl) (.m rfl rfl rfl (.extract rfl rfl) ?_)
  refine .r0 rfl rfl (.fillR rfl sz_42_U rfl rfl rfl rfl (by assumption) (by first | rfl | exact Nat.le_of_ble_eq_true rfl | simp)) ?_
  rintro _ H3004 ⟨rfl, st3004, at3004⟩
  have nx_H3004 := st3004.nx
  replace hle := hle.st st3004 (fun k hk => ⟨by omega, trivial⟩)
  replace at1 := st3004.same _ _ ⟨by omega, trivial⟩ at1
  replace lv_v9 := Keep.st lv_v9 st3004 (fun k hb hk => ⟨by omega, trivial⟩)
  replace v9 := bs_v9.keep lv_v9 (Nat.le_refl _)
  have lt_at3004 := GHeap.lt_of_get at3004
  replace hin := base_hin.mono hle
  clear hb1 fs1 ft1 c101 c111 j11 j21 hm1 hi1 hms1 his1 hmt1 hit1
  have hb1 : Fun.At _ g1 0 d p := ⟨Mem.of_get at1, hin⟩
  obtain ⟨fs1, ft1, c101, c111, j11, j21⟩ := hb1.get
  have hm1 : MemN _ _ _ _ _ := ⟨rfl, hb1.1⟩
  have hi1 := hb1.2
  have hms1 : MemN _ _ _ _ _ := ⟨rfl, fs1.1⟩
  have his1 := fs1.2
  have hmt1 : MemN _ _ _ _ _ := ⟨rfl, ft1.1⟩
  have hit1 := ft1.2
  clear i9
  have i9 := v9.inn
  have mm3004 : MemN _ _ _ _ _ := ⟨rfl, Mem.of_get at3004⟩
  refine .m rfl rfl rfl (.assign rfl) (.nil ?_)
  refine hK5 _ _ ?_
  refine .ret ?_
  refine hret _ _ ?_
  refine ⟨_, _, _, _, _, rfl, ag_42_Hl, (by rfl), (Mem.of_get at3004), rfl, ?_⟩
  exact ⟨hle, _, rfl, v9.keep (.of_le (.refl _)) (by omega)⟩
set_option maxHeartbeats 4000000 in
theorem limit_c {g o : Nat} {d : Fun} {p : FunP} {H : GHeap} (h : Fun.At H g o d p) (hI : d.Is) :
    GCalls Try.prog 46 [.pointer (some ⟨g, o, none⟩)] H (fun v H' => H.Le H' ∧ ∃ r, v = .tuple #[.agg (d.liR.cells r).toArray, .int .i64 d.liC] ∧ ConR H.next H' d.liR r) := by
  have hI0 := hI
  have hob := hI.2.1.1.obj
  by_cases hb : (d.coneL d.t.obj.toNat).length ≤ 400
  refine GCalls.body (N := 23) (rs := [.cell 2 42, .tmp 3]) Try.func46 rfl rfl rfl rfl (fun Qx hret hend => ?_)
  refine .forget (fr' := [(0, some _)]) ⟨rfl, trivial⟩ ?_
  have hle := GHeap.Le.refl H
  have base_h := h
  refine .seq (fun K1 hK1 => ?_)
  refine .region ?_
  refine .r rfl rfl rfl (.allocR rfl ze_42_Hk rfl) ?_
  rintro _ H2 ⟨g2, rfl, le2, ge2, at2⟩
  have nx_H2 := le2.1
  replace hle := hle.trans le2
  have lt_at2 := GHeap.lt_of_get at2
  replace h := base_h.mono hle
  refine .m rfl rfl rfl (.assign rfl) (.nil ?_)
  refine hK1 _ _ ?_
  refine .seq (fun K2 hK2 => ?_)
  refine .region (.m rfl rfl rfl (.move rfl) ?_)
  refine .call rfl rfl rfl rfl @Try.call48 rfl ((limits_c (most := 1) h hI0 hb (by omega))) ?_
  rintro _ H8 ⟨le8, g8, r8, rfl, v8⟩
  have nx_H8 := le8.1
  replace hle := hle.trans le8
  replace at2 := le8.2 _ _ at2
  have bs_v8 := v8
  have lv_v8 : Keep H2.next H8 H8 := fun _ _ _ h => h
  replace h := base_h.mono hle
  refine .m rfl rfl rfl (.move rfl) (.m rfl rfl rfl (.extract rfl rfl) (.m rfl rfl rfl (.extract rfl rfl) (.m rfl rfl rfl (.assign rfl) ?_)))
  refine .m rfl rfl rfl (.assign rfl) (.nil ?_)
  refine hK2 _ _ ?_
  refine .seq (fun K3 hK3 => ?_)
  refine .block ?_
  refine .seq (fun K4 hK4 => ?_)
  refine .region (.m rfl rfl rfl (.move rfl) (.m rfl rfl rfl (.not rfl) (.m rfl rfl rfl (.assign rfl) ?_)))
  refine .nil ?_
  refine hK4 _ _ ?_
  refine .cond rfl (fun h11 => ?_) (fun h11 => ?_)
  ·
   simp at h11
  ·
   try simp only [sps] at h11
   refine .seq (fun K5 hK5 => ?_)
   refine .region (.m rfl rfl rfl (.move rfl) (.m rfl rfl rfl (.len sl_29_Hk rfl) (.m rfl rfl rfl (.cmp rfl rfl rfl) ?_)))
   refine .m rfl rfl rfl (.assign rfl) (.nil ?_)
   refine hK5 _ _ ?_
   refine .cond rfl (fun h15 => ?_) (fun h15 => ?_)
   ·
    simp only [sps] at h15
    refine .seq (fun K6 hK6 => ?_)
    refine .region (.m rfl rfl rfl (.build bt_42_Hk rfl rfl rfl) ?_)
    refine .r0 rfl rfl (.fillR rfl sz_42_U rfl rfl rfl rfl (by assumption) (by first | rfl | exact Nat.le_of_ble_eq_true rfl | simp)) ?_
    rintro _ H5001 ⟨rfl, st5001, at5001⟩
    have nx_H5001 := st5001.nx
    replace hle := hle.st st5001 (fun k hk => ⟨by omega, trivial⟩)
    replace lv_v8 := Keep.st lv_v8 st5001 (fun k hb hk => ⟨by omega, trivial⟩)
    replace v8 := bs_v8.keep lv_v8 (Nat.le_refl _)
    have lt_at5001 := GHeap.lt_of_get at5001
    replace h := base_h.mono hle
    have mm5001 : MemN _ _ _ _ _ := ⟨rfl, Mem.of_get at5001⟩
    refine .m rfl rfl rfl (.assign rfl) (.nil ?_)
    refine hK6 _ _ ?_
    refine .ret ?_
    refine hret _ _ ?_
    refine ⟨_, _, _, _, _, rfl, ag_42_Hl, (by rfl), (Mem.of_get at5001), rfl, ?_⟩
    obtain ⟨e1, e2⟩ := Fun.li_3 hI0 hb (List.eq_nil_of_length_eq_zero (by omega))
    rw [e1, e2]
    exact ⟨hle, ⟨none⟩, rfl, .inl ⟨rfl, rfl⟩⟩
   simp only [sps] at h15
   have hlp : 0 < (d.selc 1).length := by omega
   obtain ⟨hc8, hm8, hn8⟩ := ConsR.at0 v8 hlp
   refine .skip ?_
   refine hK3 _ _ ?_
   refine .seq (fun K7 hK7 => ?_)
   refine .region (.m rfl rfl rfl (.move rfl) ?_)
   refine .m rfl rfl rfl (.idx sl_29_Hk hc8 (by omega) rfl rfl (by omega) (by omega) rfl) ?_
   refine .m rfl rfl rfl (.loadM ag_42_Hl rfl hm8) ?_
   refine .r0 rfl rfl (.fillR rfl sz_42_U rfl rfl rfl rfl (by assumption) (by first | rfl | exact Nat.le_of_ble_eq_true rfl | simp)) ?_
   rintro _ H6003 ⟨rfl, st6003, at6003⟩
   have nx_H6003 := st6003.nx
   replace hle := hle.st st6003 (fun k hk => ⟨by omega, trivial⟩)
   replace lv_v8 := Keep.st lv_v8 st6003 (fun k hb hk => ⟨by omega, trivial⟩)
   replace v8 := bs_v8.keep lv_v8 (Nat.le_refl _)
   have lt_at6003 := GHeap.lt_of_get at6003
   replace h := base_h.mono hle
   have mm6003 : MemN _ _ _ _ _ := ⟨rfl, Mem.of_get at6003⟩
   refine .m rfl rfl rfl (.assign rfl) (.nil ?_)
   refine hK7 _ _ ?_
   refine .ret ?_
   refine hret _ _ ?_
   refine ⟨_, _, _, _, _, rfl, ag_42_Hl, (by rfl), (Mem.of_get at6003), rfl, ?_⟩
   obtain ⟨e1, e2⟩ := Fun.li_4 hI0 hb (List.length_pos_iff.1 hlp)
   obtain ⟨_, _, hn8⟩ := ConsR.at0 v8 hlp
   rw [e1, e2]
   exact ⟨hle, ⟨r8 0⟩, rfl, .inr (IntsAt.keep hn8 (.of_le (.refl _)) (by omega))⟩
  refine GCalls.body (N := 23) (rs := [.cell 2 42, .tmp 3]) Try.func46 rfl rfl rfl rfl (fun Qx hret hend => ?_)
  refine .forget (fr' := [(0, some _)]) ⟨rfl, trivial⟩ ?_
  have hle := GHeap.Le.refl H
  have base_h := h
  refine .seq (fun K1 hK1 => ?_)
  refine .region ?_
  refine .r rfl rfl rfl (.allocR rfl ze_42_Hk rfl) ?_
  rintro _ H2 ⟨g2, rfl, le2, ge2, at2⟩
  have nx_H2 := le2.1
  replace hle := hle.trans le2
  have lt_at2 := GHeap.lt_of_get at2
  replace h := base_h.mono hle
  refine .m rfl rfl rfl (.assign rfl) (.nil ?_)
  refine hK1 _ _ ?_
  refine .seq (fun K2 hK2 => ?_)
  refine .region (.m rfl rfl rfl (.move rfl) ?_)
  refine .callQ rfl rfl rfl rfl @Try.call48 rfl ((limits1_c (most := 1) h hI0 hb)) ?_
  refine .m rfl rfl rfl (.move rfl) (.m rfl rfl rfl (.extract rfl rfl) (.m rfl rfl rfl (.extract rfl rfl) (.m rfl rfl rfl (.assign rfl) ?_)))
  refine .m rfl rfl rfl (.assign rfl) (.nil ?_)
  refine hK2 _ _ ?_
  refine .seq (fun K3 hK3 => ?_)
  refine .block ?_
  refine .seq (fun K4 hK4 => ?_)
  refine .region (.m rfl rfl rfl (.move rfl) (.m rfl rfl rfl (.not rfl) (.m rfl rfl rfl (.assign rfl) ?_)))
  refine .nil ?_
  refine hK4 _ _ ?_
  refine .cond rfl (fun h11 => ?_) (fun h11 => ?_)
  ·
   try simp only [sps] at h11
   refine .seq (fun K5 hK5 => ?_)
   refine .region (.m rfl rfl rfl (.build bt_42_Hk rfl rfl rfl) ?_)
   refine .r0 rfl rfl (.fillR rfl sz_42_U rfl rfl rfl rfl (by assumption) (by first | rfl | exact Nat.le_of_ble_eq_true rfl | simp)) ?_
   rintro _ H3001 ⟨rfl, st3001, at3001⟩
   have nx_H3001 := st3001.nx
   replace hle := hle.st st3001 (fun k hk => ⟨by omega, trivial⟩)
   have lt_at3001 := GHeap.lt_of_get at3001
   replace h := base_h.mono hle
   have mm3001 : MemN _ _ _ _ _ := ⟨rfl, Mem.of_get at3001⟩
   refine .m rfl rfl rfl (.assign rfl) (.nil ?_)
   refine hK5 _ _ ?_
   refine .ret ?_
   refine hret _ _ ?_
   refine ⟨_, _, _, _, _, rfl, ag_42_Hl, (by rfl), (Mem.of_get at3001), rfl, ?_⟩
   obtain ⟨e1, e2⟩ := Fun.li_2 hI0 hb
   rw [e1, e2]
   exact ⟨hle, ⟨none⟩, rfl, .inl ⟨rfl, rfl⟩⟩
  simp at h11
set_option maxHeartbeats 4000000 in
theorem implLimitOf_c {d : Fun} {p : FunP} {H : GHeap} (hin : d.In H p := by assumption) (hs : d.Small := by assumption) :
    GCalls Try.prog 18 [.agg (d.cells p).toArray] H (fun v H' => H.Le H' ∧ ∃ r, v = .tuple #[.agg (d.liR.cells r).toArray, .int .i64 d.liC] ∧ ConR H.next H' d.liR r) := by
  refine GCalls.body (N := 10) (rs := [.cell 2 42, .tmp 3]) Try.func18 rfl rfl rfl rfl (fun Qx hret hend => ?_)
  refine .forget (fr' := [(0, some _)]) ⟨rfl, trivial⟩ ?_
  have hle := GHeap.Le.refl H
  have base_hin := hin
  refine .seq (fun K1 hK1 => ?_)
  refine .region ?_
  refine .r rfl rfl rfl (.boxR rfl sz_34_E rfl) ?_
  rintro _ H1 ⟨g1, rfl, le1, ge1, at1⟩
  have nx_H1 := le1.1
  replace hle := hle.trans le1
  have lt_at1 := GHeap.lt_of_get at1
  replace hin := base_hin.mono hle
  have hb1 : Fun.At _ g1 0 d p := ⟨Mem.of_get at1, hin⟩
  obtain ⟨fs1, ft1, c101, c111, j11, j21⟩ := hb1.get
  have hm1 : MemN _ _ _ _ _ := ⟨rfl, hb1.1⟩
  have hi1 := hb1.2
  have hms1 : MemN _ _ _ _ _ := ⟨rfl, fs1.1⟩
  have his1 := fs1.2
  have hmt1 : MemN _ _ _ _ _ := ⟨rfl, ft1.1⟩
  have hit1 := ft1.2
  refine .r rfl rfl rfl (.allocR rfl ze_42_Hk rfl) ?_
  rintro _ H2 ⟨g2, rfl, le2, ge2, at2⟩
  have nx_H2 := le2.1
  replace hle := hle.trans le2
  replace at1 := le2.2 _ _ at1
  have lt_at2 := GHeap.lt_of_get at2
  replace hin := base_hin.mono hle
  clear hb1 fs1 ft1 c101 c111 j11 j21 hm1 hi1 hms1 his1 hmt1 hit1
  have hb1 : Fun.At _ g1 0 d p := ⟨Mem.of_get at1, hin⟩
  obtain ⟨fs1, ft1, c101, c111, j11, j21⟩ := hb1.get
  have hm1 : MemN _ _ _ _ _ := ⟨rfl, hb1.1⟩
  have hi1 := hb1.2
  have hms1 : MemN _ _ _ _ _ := ⟨rfl, fs1.1⟩
  have his1 := fs1.2
  have hmt1 : MemN _ _ _ _ _ := ⟨rfl, ft1.1⟩
  have hit1 := ft1.2
  refine .m rfl rfl rfl (.assign rfl) (.nil ?_)
  refine hK1 _ _ ?_
  refine .seq (fun K2 hK2 => ?_)
  refine .seq (fun K3 hK3 => ?_)
  refine .region ?_
  refine .callQ rfl rfl rfl rfl @Try.call39 rfl (isFunctor_c) ?_
  refine .m rfl rfl rfl (.not rfl) (.nil ?_)
  refine hK3 _ _ ?_
  refine .cond rfl (fun h5 => ?_) (fun h5 => ?_)
  ·
   simp only [sps] at h5
   refine .seq (fun K4 hK4 => ?_)
   refine .region (.m rfl rfl rfl (.build bt_42_Hk rfl rfl rfl) ?_)
   refine .r0 rfl rfl (.fillR rfl sz_42_U rfl rfl rfl rfl (by assumption) (by first | rfl | exact Nat.le_of_ble_eq_true rfl | simp)) ?_
   rintro _ H2001 ⟨rfl, st2001, at2001⟩
   have nx_H2001 := st2001.nx
   replace hle := hle.st st2001 (fun k hk => ⟨by omega, trivial⟩)
   replace at1 := st2001.same _ _ ⟨by omega, trivial⟩ at1
   have lt_at2001 := GHeap.lt_of_get at2001
   replace hin := base_hin.mono hle
   clear hb1 fs1 ft1 c101 c111 j11 j21 hm1 hi1 hms1 his1 hmt1 hit1
   have hb1 : Fun.At _ g1 0 d p := ⟨Mem.of_get at1, hin⟩
   obtain ⟨fs1, ft1, c101, c111, j11, j21⟩ := hb1.get
   have hm1 : MemN _ _ _ _ _ := ⟨rfl, hb1.1⟩
   have hi1 := hb1.2
   have hms1 : MemN _ _ _ _ _ := ⟨rfl, fs1.1⟩
   have his1 := fs1.2
   have hmt1 : MemN _ _ _ _ _ := ⟨rfl, ft1.1⟩
   have hit1 := ft1.2
   have mm2001 : MemN _ _ _ _ _ := ⟨rfl, Mem.of_get at2001⟩
   refine .m rfl rfl rfl (.assign rfl) (.nil ?_)
   refine hK4 _ _ ?_
   refine .ret ?_
   refine hret _ _ ?_
   refine ⟨_, _, _, _, _, rfl, ag_42_Hl, (by rfl), (Mem.of_get at2001), rfl, ?_⟩
   obtain ⟨e1, e2⟩ := Fun.li_1 h5
   rw [e1, e2]
   exact ⟨hle, ⟨none⟩, rfl, .inl ⟨rfl, rfl⟩⟩
  simp only [sps] at h5
  refine .skip ?_
  refine hK2 _ _ ?_
  refine .seq (fun K5 hK5 => ?_)
  refine .region ?_
  refine .call rfl rfl rfl rfl @Try.call46 rfl (limit_c hb1 (by assumption)) ?_
  rintro _ H7 ⟨le7, p7, rfl, v7⟩
  have nx_H7 := le7.1
  replace hle := hle.trans le7
  replace at1 := le7.2 _ _ at1
  replace at2 := le7.2 _ _ at2
  have bs_v7 := v7
  have lv_v7 : Keep H2.next H7 H7 := fun _ _ _ h => h
  replace hin := base_hin.mono hle
  clear hb1 fs1 ft1 c101 c111 j11 j21 hm1 hi1 hms1 his1 hmt1 hit1
  have hb1 : Fun.At _ g1 0 d p := ⟨Mem.of_get at1, hin⟩
  obtain ⟨fs1, ft1, c101, c111, j11, j21⟩ := hb1.get
  have hm1 : MemN _ _ _ _ _ := ⟨rfl, hb1.1⟩
  have hi1 := hb1.2
  have hms1 : MemN _ _ _ _ _ := ⟨rfl, fs1.1⟩
  have his1 := fs1.2
  have hmt1 : MemN _ _ _ _ _ := ⟨rfl, ft1.1⟩
  have hit1 := ft1.2
  have i7 := v7.inn
  refine .m rfl rfl rfl (.extract rfl rfl) (.m rfl rfl rfl (.extract rfl rfl) ?_)
  refine .r0 rfl rfl (.fillR rfl sz_42_U rfl rfl rfl rfl (by assumption) (by first | rfl | exact Nat.le_of_ble_eq_true rfl | simp)) ?_
  rintro _ H3003 ⟨rfl, st3003, at3003⟩
  have nx_H3003 := st3003.nx
  replace hle := hle.st st3003 (fun k hk => ⟨by omega, trivial⟩)
  replace at1 := st3003.same _ _ ⟨by omega, trivial⟩ at1
  replace lv_v7 := Keep.st lv_v7 st3003 (fun k hb hk => ⟨by omega, trivial⟩)
  replace v7 := bs_v7.keep lv_v7 (Nat.le_refl _)
  have lt_at3003 := GHeap.lt_of_get at3003
  replace hin := base_hin.mono hle
  clear hb1 fs1 ft1 c101 c111 j11 j21 hm1 hi1 hms1 his1 hmt1 hit1
  have hb1 : Fun.At _ g1 0 d p := ⟨Mem.of_get at1, hin⟩
  obtain ⟨fs1, ft1, c101, c111, j11, j21⟩ := hb1.get
  have hm1 : MemN _ _ _ _ _ := ⟨rfl, hb1.1⟩
  have hi1 := hb1.2
  have hms1 : MemN _ _ _ _ _ := ⟨rfl, fs1.1⟩
  have his1 := fs1.2
  have hmt1 : MemN _ _ _ _ _ := ⟨rfl, ft1.1⟩
  have hit1 := ft1.2
  clear i7
  have i7 := v7.inn
  have mm3003 : MemN _ _ _ _ _ := ⟨rfl, Mem.of_get at3003⟩
  refine .m rfl rfl rfl (.assign rfl) (.nil ?_)
  refine hK5 _ _ ?_
  refine .ret ?_
  refine hret _ _ ?_
  refine ⟨_, _, _, _, _, rfl, ag_42_Hl, (by rfl), (Mem.of_get at3003), rfl, ?_⟩
  exact ⟨hle, _, rfl, v7.keep (.of_le (.refl _)) (by omega)⟩
end Go.Proofs.Ytpmjlhbglcaokaa
/- The law of LimitOf. No condition but those of each statement. -/
namespace Go.Proofs.Ytpmjlhbglcaokaa
open Go Go.GL Go.RowKit Go.Proofs
theorem ag_27_LLimitOf : aggT Try.prog 27 = some 12 := by kernel_rfl
set_option maxHeartbeats 40000000 in
theorem lawLimitOf_c {d : Fun} {p : FunP} {H : GHeap} (h0 : d.In H p) (w0 : d.Wide) :
    GCalls Try.prog 4 [.agg (d.cells p).toArray] H (fun v _ => v = .bool true) := by
  refine GCalls.body (N := 96) (rs := [.tmp 2]) Try.func4 rfl rfl rfl rfl (fun Qx hret hend => ?_)
  refine .forget (fr' := [(0, some _)]) ⟨rfl, trivial⟩ ?_
  have hle := GHeap.Le.refl H
  have base_h0 := h0
  refine .seq (fun K1 hK1 => ?_)
  refine .region ?_
  refine .r rfl rfl rfl (.boxR rfl sz_27_E rfl) ?_
  rintro _ H1 ⟨g1, rfl, le1, ge1, at1⟩
  have nx_H1 := le1.1
  replace hle := hle.trans le1
  have lt_at1 := GHeap.lt_of_get at1
  replace h0 := base_h0.mono hle
  have hb1 : Fun.At _ g1 0 d p := ⟨Mem.of_get at1, h0⟩
  obtain ⟨fs1, ft1, c101, c111, j11, j21⟩ := hb1.get
  have hm1 : MemN _ _ _ _ _ := ⟨rfl, hb1.1⟩
  have hi1 := hb1.2
  have hms1 : MemN _ _ _ _ _ := ⟨rfl, fs1.1⟩
  have his1 := fs1.2
  have hmt1 : MemN _ _ _ _ _ := ⟨rfl, ft1.1⟩
  have hit1 := ft1.2
  refine .m rfl rfl rfl (.assign rfl) (.nil ?_)
  refine hK1 _ _ ?_
  refine .seq (fun K2 hK2 => ?_)
  refine .region (.m rfl rfl rfl (.assign rfl) (.nil ?_))
  refine hK2 _ _ ?_
  refine .seq (fun K3 hK3 => ?_)
  refine .region ?_
  refine .m rfl rfl rfl (.loadM ag_27_LLimitOf rfl ⟨rfl, Mem.of_get at1⟩) ?_
  refine .m rfl rfl rfl (.move rfl) ?_
  refine .call rfl rfl rfl rfl @Try.call8 rfl (szFunctor_c) ?_
  rintro _ _ ⟨heq, lf16, rfl, z116, z216, z316⟩
  obtain rfl := heq.symm
  refine .m rfl rfl rfl (.assign rfl) (.nil ?_)
  refine hK3 _ _ ?_
  refine .seq (fun K4 hK4 => ?_)
  refine .seq (fun K5 hK5 => ?_)
  refine .region (.m rfl rfl rfl (.move rfl) (.m rfl rfl rfl (.cmp rfl rfl rfl) (.nil ?_)))
  refine hK5 _ _ ?_
  refine .cond rfl (fun h18 => ?_) (fun h18 => ?_)
  ·
   try simp only [sps] at h18
   refine .seq (fun K6 hK6 => ?_)
   refine .region (.m rfl rfl rfl (.assign rfl) (.nil ?_))
   refine hK6 _ _ ?_
   refine .ret ?_
   refine hret _ _ ?_
   refine ⟨_, rfl, ?_⟩
   first
   | exact rfl
   | exact absurd trivial (by assumption)
   | contradiction
   | (exfalso; omega)
  simp only [sps] at h18
  obtain ⟨hsR, hlR⟩ := d.liR_small
  have htR := hsR.tot
  have hsm16 := z316 (by omega)
  have tb16 := hsm16.tot
  refine .skip ?_
  refine hK4 _ _ ?_
  refine .seq (fun K7 hK7 => ?_)
  refine .region ?_
  refine .m rfl rfl rfl (.loadM ag_27_LLimitOf rfl ⟨rfl, Mem.of_get at1⟩) ?_
  refine .call rfl rfl rfl rfl @Try.call10 rfl (toFunctor_c) ?_
  rintro _ H21 ⟨le21, p21, rfl, v21⟩
  have nx_H21 := le21.1
  replace hle := hle.trans le21
  replace at1 := le21.2 _ _ at1
  have bs_v21 := v21
  have lv_v21 : Keep H1.next H21 H21 := fun _ _ _ h => h
  replace h0 := base_h0.mono hle
  clear hb1 fs1 ft1 c101 c111 j11 j21 hm1 hi1 hms1 his1 hmt1 hit1
  have hb1 : Fun.At _ g1 0 d p := ⟨Mem.of_get at1, h0⟩
  obtain ⟨fs1, ft1, c101, c111, j11, j21⟩ := hb1.get
  have hm1 : MemN _ _ _ _ _ := ⟨rfl, hb1.1⟩
  have hi1 := hb1.2
  have hms1 : MemN _ _ _ _ _ := ⟨rfl, fs1.1⟩
  have his1 := fs1.2
  have hmt1 : MemN _ _ _ _ _ := ⟨rfl, ft1.1⟩
  have hit1 := ft1.2
  have i21 := v21.inn
  refine .call rfl rfl rfl rfl @Try.call17 rfl (specLimitOf_c) ?_
  rintro _ H22 ⟨le22, p22, rfl, v22⟩
  have nx_H22 := le22.1
  replace hle := hle.trans le22
  replace at1 := le22.2 _ _ at1
  replace lv_v21 := Keep.le lv_v21 le22
  replace v21 := bs_v21.keep lv_v21 (Nat.le_refl _)
  have bs_v22 := v22
  have lv_v22 : Keep H21.next H22 H22 := fun _ _ _ h => h
  replace h0 := base_h0.mono hle
  clear hb1 fs1 ft1 c101 c111 j11 j21 hm1 hi1 hms1 his1 hmt1 hit1
  have hb1 : Fun.At _ g1 0 d p := ⟨Mem.of_get at1, h0⟩
  obtain ⟨fs1, ft1, c101, c111, j11, j21⟩ := hb1.get
  have hm1 : MemN _ _ _ _ _ := ⟨rfl, hb1.1⟩
  have hi1 := hb1.2
  have hms1 : MemN _ _ _ _ _ := ⟨rfl, fs1.1⟩
  have his1 := fs1.2
  have hmt1 : MemN _ _ _ _ _ := ⟨rfl, ft1.1⟩
  have hit1 := ft1.2
  clear i21
  have i21 := v21.inn
  have i22 := v22.inn
  refine .m rfl rfl rfl (.move rfl) (.m rfl rfl rfl (.extract rfl rfl) (.m rfl rfl rfl (.extract rfl rfl) ?_))
  refine .r rfl rfl rfl (.allocR rfl ze_42_Hk rfl) ?_
  rintro _ H4 ⟨g4, rfl, le4, ge4, at4⟩
  have nx_H4 := le4.1
  replace hle := hle.trans le4
  replace at1 := le4.2 _ _ at1
  replace lv_v21 := Keep.le lv_v21 le4
  replace v21 := bs_v21.keep lv_v21 (Nat.le_refl _)
  replace lv_v22 := Keep.le lv_v22 le4
  replace v22 := bs_v22.keep lv_v22 (Nat.le_refl _)
  have lt_at4 := GHeap.lt_of_get at4
  replace h0 := base_h0.mono hle
  clear hb1 fs1 ft1 c101 c111 j11 j21 hm1 hi1 hms1 his1 hmt1 hit1
  have hb1 : Fun.At _ g1 0 d p := ⟨Mem.of_get at1, h0⟩
  obtain ⟨fs1, ft1, c101, c111, j11, j21⟩ := hb1.get
  have hm1 : MemN _ _ _ _ _ := ⟨rfl, hb1.1⟩
  have hi1 := hb1.2
  have hms1 : MemN _ _ _ _ _ := ⟨rfl, fs1.1⟩
  have his1 := fs1.2
  have hmt1 : MemN _ _ _ _ _ := ⟨rfl, ft1.1⟩
  have hit1 := ft1.2
  clear i21
  have i21 := v21.inn
  clear i22
  have i22 := v22.inn
  refine .r0 rfl rfl (.fillR rfl sz_42_U rfl rfl rfl rfl (by assumption) (by first | rfl | exact Nat.le_of_ble_eq_true rfl | simp)) ?_
  rintro _ H5007 ⟨rfl, st5007, at5007⟩
  have nx_H5007 := st5007.nx
  replace hle := hle.st st5007 (fun k hk => ⟨by omega, trivial⟩)
  replace at1 := st5007.same _ _ ⟨by omega, trivial⟩ at1
  replace lv_v21 := Keep.st lv_v21 st5007 (fun k hb hk => ⟨by omega, trivial⟩)
  replace v21 := bs_v21.keep lv_v21 (Nat.le_refl _)
  replace lv_v22 := Keep.st lv_v22 st5007 (fun k hb hk => ⟨by omega, trivial⟩)
  replace v22 := bs_v22.keep lv_v22 (Nat.le_refl _)
  have lt_at5007 := GHeap.lt_of_get at5007
  replace h0 := base_h0.mono hle
  clear hb1 fs1 ft1 c101 c111 j11 j21 hm1 hi1 hms1 his1 hmt1 hit1
  have hb1 : Fun.At _ g1 0 d p := ⟨Mem.of_get at1, h0⟩
  obtain ⟨fs1, ft1, c101, c111, j11, j21⟩ := hb1.get
  have hm1 : MemN _ _ _ _ _ := ⟨rfl, hb1.1⟩
  have hi1 := hb1.2
  have hms1 : MemN _ _ _ _ _ := ⟨rfl, fs1.1⟩
  have his1 := fs1.2
  have hmt1 : MemN _ _ _ _ _ := ⟨rfl, ft1.1⟩
  have hit1 := ft1.2
  clear i21
  have i21 := v21.inn
  clear i22
  have i22 := v22.inn
  have mm5007 : MemN _ _ _ _ _ := ⟨rfl, Mem.of_get at5007⟩
  refine .m rfl rfl rfl (.assign rfl) (.nil ?_)
  refine hK7 _ _ ?_
  refine .seq (fun K8 hK8 => ?_)
  refine .region ?_
  refine .m rfl rfl rfl (.loadM ag_27_LLimitOf rfl ⟨rfl, Mem.of_get at1⟩) ?_
  refine .call rfl rfl rfl rfl @Try.call10 rfl (toFunctor_c) ?_
  rintro _ H26 ⟨le26, p26, rfl, v26⟩
  have nx_H26 := le26.1
  replace hle := hle.trans le26
  replace at1 := le26.2 _ _ at1
  replace at5007 := le26.2 _ _ at5007
  replace lv_v21 := Keep.le lv_v21 le26
  replace v21 := bs_v21.keep lv_v21 (Nat.le_refl _)
  replace lv_v22 := Keep.le lv_v22 le26
  replace v22 := bs_v22.keep lv_v22 (Nat.le_refl _)
  have bs_v26 := v26
  have lv_v26 : Keep H5007.next H26 H26 := fun _ _ _ h => h
  replace h0 := base_h0.mono hle
  clear hb1 fs1 ft1 c101 c111 j11 j21 hm1 hi1 hms1 his1 hmt1 hit1
  have hb1 : Fun.At _ g1 0 d p := ⟨Mem.of_get at1, h0⟩
  obtain ⟨fs1, ft1, c101, c111, j11, j21⟩ := hb1.get
  have hm1 : MemN _ _ _ _ _ := ⟨rfl, hb1.1⟩
  have hi1 := hb1.2
  have hms1 : MemN _ _ _ _ _ := ⟨rfl, fs1.1⟩
  have his1 := fs1.2
  have hmt1 : MemN _ _ _ _ _ := ⟨rfl, ft1.1⟩
  have hit1 := ft1.2
  clear i21
  have i21 := v21.inn
  clear i22
  have i22 := v22.inn
  clear mm5007
  have mm5007 : MemN _ _ _ _ _ := ⟨rfl, Mem.of_get at5007⟩
  have i26 := v26.inn
  refine .r rfl rfl rfl (.allocR rfl ze_34_E rfl) ?_
  rintro _ H6 ⟨g6, rfl, le6, ge6, at6⟩
  have nx_H6 := le6.1
  replace hle := hle.trans le6
  replace at1 := le6.2 _ _ at1
  replace at5007 := le6.2 _ _ at5007
  replace lv_v21 := Keep.le lv_v21 le6
  replace v21 := bs_v21.keep lv_v21 (Nat.le_refl _)
  replace lv_v22 := Keep.le lv_v22 le6
  replace v22 := bs_v22.keep lv_v22 (Nat.le_refl _)
  replace lv_v26 := Keep.le lv_v26 le6
  replace v26 := bs_v26.keep lv_v26 (Nat.le_refl _)
  have lt_at6 := GHeap.lt_of_get at6
  replace h0 := base_h0.mono hle
  clear hb1 fs1 ft1 c101 c111 j11 j21 hm1 hi1 hms1 his1 hmt1 hit1
  have hb1 : Fun.At _ g1 0 d p := ⟨Mem.of_get at1, h0⟩
  obtain ⟨fs1, ft1, c101, c111, j11, j21⟩ := hb1.get
  have hm1 : MemN _ _ _ _ _ := ⟨rfl, hb1.1⟩
  have hi1 := hb1.2
  have hms1 : MemN _ _ _ _ _ := ⟨rfl, fs1.1⟩
  have his1 := fs1.2
  have hmt1 : MemN _ _ _ _ _ := ⟨rfl, ft1.1⟩
  have hit1 := ft1.2
  clear i21
  have i21 := v21.inn
  clear i22
  have i22 := v22.inn
  clear mm5007
  have mm5007 : MemN _ _ _ _ _ := ⟨rfl, Mem.of_get at5007⟩
  clear i26
  have i26 := v26.inn
  refine .r0 rfl rfl (.fillR rfl sz_34_E rfl rfl rfl rfl (by assumption) (by first | rfl | exact Nat.le_of_ble_eq_true rfl | simp)) ?_
  rintro _ H6003 ⟨rfl, st6003, at6003⟩
  have nx_H6003 := st6003.nx
  replace hle := hle.st st6003 (fun k hk => ⟨by omega, trivial⟩)
  replace at1 := st6003.same _ _ ⟨by omega, trivial⟩ at1
  replace at5007 := st6003.same _ _ ⟨by omega, trivial⟩ at5007
  replace lv_v21 := Keep.st lv_v21 st6003 (fun k hb hk => ⟨by omega, trivial⟩)
  replace v21 := bs_v21.keep lv_v21 (Nat.le_refl _)
  replace lv_v22 := Keep.st lv_v22 st6003 (fun k hb hk => ⟨by omega, trivial⟩)
  replace v22 := bs_v22.keep lv_v22 (Nat.le_refl _)
  replace lv_v26 := Keep.st lv_v26 st6003 (fun k hb hk => ⟨by omega, trivial⟩)
  replace v26 := bs_v26.keep lv_v26 (Nat.le_refl _)
  have lt_at6003 := GHeap.lt_of_get at6003
  replace h0 := base_h0.mono hle
  clear hb1 fs1 ft1 c101 c111 j11 j21 hm1 hi1 hms1 his1 hmt1 hit1
  have hb1 : Fun.At _ g1 0 d p := ⟨Mem.of_get at1, h0⟩
  obtain ⟨fs1, ft1, c101, c111, j11, j21⟩ := hb1.get
  have hm1 : MemN _ _ _ _ _ := ⟨rfl, hb1.1⟩
  have hi1 := hb1.2
  have hms1 : MemN _ _ _ _ _ := ⟨rfl, fs1.1⟩
  have his1 := fs1.2
  have hmt1 : MemN _ _ _ _ _ := ⟨rfl, ft1.1⟩
  have hit1 := ft1.2
  clear i21
  have i21 := v21.inn
  clear i22
  have i22 := v22.inn
  clear mm5007
  have mm5007 : MemN _ _ _ _ _ := ⟨rfl, Mem.of_get at5007⟩
  clear i26
  have i26 := v26.inn
  have mm6003 : MemN _ _ _ _ _ := ⟨rfl, Mem.of_get at6003⟩
  refine .nil ?_
  refine hK8 _ _ ?_
  refine .seq (fun K9 hK9 => ?_)
  refine .region ?_
  refine .m rfl rfl rfl (.loadM ag_34_E rfl ⟨rfl, Mem.of_get at6003⟩) ?_
  refine .call rfl rfl rfl rfl @Try.call18 rfl (implLimitOf_c) ?_
  rintro _ H29 ⟨le29, p29, rfl, v29⟩
  have nx_H29 := le29.1
  replace hle := hle.trans le29
  replace at1 := le29.2 _ _ at1
  replace at5007 := le29.2 _ _ at5007
  replace at6003 := le29.2 _ _ at6003
  replace lv_v21 := Keep.le lv_v21 le29
  replace v21 := bs_v21.keep lv_v21 (Nat.le_refl _)
  replace lv_v22 := Keep.le lv_v22 le29
  replace v22 := bs_v22.keep lv_v22 (Nat.le_refl _)
  replace lv_v26 := Keep.le lv_v26 le29
  replace v26 := bs_v26.keep lv_v26 (Nat.le_refl _)
  have bs_v29 := v29
  have lv_v29 : Keep H6003.next H29 H29 := fun _ _ _ h => h
  replace h0 := base_h0.mono hle
  clear hb1 fs1 ft1 c101 c111 j11 j21 hm1 hi1 hms1 his1 hmt1 hit1
  have hb1 : Fun.At _ g1 0 d p := ⟨Mem.of_get at1, h0⟩
  obtain ⟨fs1, ft1, c101, c111, j11, j21⟩ := hb1.get
  have hm1 : MemN _ _ _ _ _ := ⟨rfl, hb1.1⟩
  have hi1 := hb1.2
  have hms1 : MemN _ _ _ _ _ := ⟨rfl, fs1.1⟩
  have his1 := fs1.2
  have hmt1 : MemN _ _ _ _ _ := ⟨rfl, ft1.1⟩
  have hit1 := ft1.2
  clear i21
  have i21 := v21.inn
  clear i22
  have i22 := v22.inn
  clear mm5007
  have mm5007 : MemN _ _ _ _ _ := ⟨rfl, Mem.of_get at5007⟩
  clear i26
  have i26 := v26.inn
  clear mm6003
  have mm6003 : MemN _ _ _ _ _ := ⟨rfl, Mem.of_get at6003⟩
  have i29 := v29.inn
  refine .m rfl rfl rfl (.move rfl) (.m rfl rfl rfl (.extract rfl rfl) (.m rfl rfl rfl (.extract rfl rfl) ?_))
  refine .r rfl rfl rfl (.allocR rfl ze_42_Hk rfl) ?_
  rintro _ H7 ⟨g7, rfl, le7, ge7, at7⟩
  have nx_H7 := le7.1
  replace hle := hle.trans le7
  replace at1 := le7.2 _ _ at1
  replace at5007 := le7.2 _ _ at5007
  replace at6003 := le7.2 _ _ at6003
  replace lv_v21 := Keep.le lv_v21 le7
  replace v21 := bs_v21.keep lv_v21 (Nat.le_refl _)
  replace lv_v22 := Keep.le lv_v22 le7
  replace v22 := bs_v22.keep lv_v22 (Nat.le_refl _)
  replace lv_v26 := Keep.le lv_v26 le7
  replace v26 := bs_v26.keep lv_v26 (Nat.le_refl _)
  replace lv_v29 := Keep.le lv_v29 le7
  replace v29 := bs_v29.keep lv_v29 (Nat.le_refl _)
  have lt_at7 := GHeap.lt_of_get at7
  replace h0 := base_h0.mono hle
  clear hb1 fs1 ft1 c101 c111 j11 j21 hm1 hi1 hms1 his1 hmt1 hit1
  have hb1 : Fun.At _ g1 0 d p := ⟨Mem.of_get at1, h0⟩
  obtain ⟨fs1, ft1, c101, c111, j11, j21⟩ := hb1.get
  have hm1 : MemN _ _ _ _ _ := ⟨rfl, hb1.1⟩
  have hi1 := hb1.2
  have hms1 : MemN _ _ _ _ _ := ⟨rfl, fs1.1⟩
  have his1 := fs1.2
  have hmt1 : MemN _ _ _ _ _ := ⟨rfl, ft1.1⟩
  have hit1 := ft1.2
  clear i21
  have i21 := v21.inn
  clear i22
  have i22 := v22.inn
  clear mm5007
  have mm5007 : MemN _ _ _ _ _ := ⟨rfl, Mem.of_get at5007⟩
  clear i26
  have i26 := v26.inn
  clear mm6003
  have mm6003 : MemN _ _ _ _ _ := ⟨rfl, Mem.of_get at6003⟩
  clear i29
  have i29 := v29.inn
  refine .r0 rfl rfl (.fillR rfl sz_42_U rfl rfl rfl rfl (by assumption) (by first | rfl | exact Nat.le_of_ble_eq_true rfl | simp)) ?_
  rintro _ H7006 ⟨rfl, st7006, at7006⟩
  have nx_H7006 := st7006.nx
  replace hle := hle.st st7006 (fun k hk => ⟨by omega, trivial⟩)
  replace at1 := st7006.same _ _ ⟨by omega, trivial⟩ at1
  replace at5007 := st7006.same _ _ ⟨by omega, trivial⟩ at5007
  replace at6003 := st7006.same _ _ ⟨by omega, trivial⟩ at6003
  replace lv_v21 := Keep.st lv_v21 st7006 (fun k hb hk => ⟨by omega, trivial⟩)
  replace v21 := bs_v21.keep lv_v21 (Nat.le_refl _)
  replace lv_v22 := Keep.st lv_v22 st7006 (fun k hb hk => ⟨by omega, trivial⟩)
  replace v22 := bs_v22.keep lv_v22 (Nat.le_refl _)
  replace lv_v26 := Keep.st lv_v26 st7006 (fun k hb hk => ⟨by omega, trivial⟩)
  replace v26 := bs_v26.keep lv_v26 (Nat.le_refl _)
  replace lv_v29 := Keep.st lv_v29 st7006 (fun k hb hk => ⟨by omega, trivial⟩)
  replace v29 := bs_v29.keep lv_v29 (Nat.le_refl _)
  have lt_at7006 := GHeap.lt_of_get at7006
  replace h0 := base_h0.mono hle
  clear hb1 fs1 ft1 c101 c111 j11 j21 hm1 hi1 hms1 his1 hmt1 hit1
  have hb1 : Fun.At _ g1 0 d p := ⟨Mem.of_get at1, h0⟩
  obtain ⟨fs1, ft1, c101, c111, j11, j21⟩ := hb1.get
  have hm1 : MemN _ _ _ _ _ := ⟨rfl, hb1.1⟩
  have hi1 := hb1.2
  have hms1 : MemN _ _ _ _ _ := ⟨rfl, fs1.1⟩
  have his1 := fs1.2
  have hmt1 : MemN _ _ _ _ _ := ⟨rfl, ft1.1⟩
  have hit1 := ft1.2
  clear i21
  have i21 := v21.inn
  clear i22
  have i22 := v22.inn
  clear mm5007
  have mm5007 : MemN _ _ _ _ _ := ⟨rfl, Mem.of_get at5007⟩
  clear i26
  have i26 := v26.inn
  clear mm6003
  have mm6003 : MemN _ _ _ _ _ := ⟨rfl, Mem.of_get at6003⟩
  clear i29
  have i29 := v29.inn
  have mm7006 : MemN _ _ _ _ _ := ⟨rfl, Mem.of_get at7006⟩
  refine .m rfl rfl rfl (.assign rfl) (.nil ?_)
  refine hK9 _ _ ?_
  refine .seq (fun K10 hK10 => ?_)
  refine .seq (fun K11 hK11 => ?_)
  refine .region ?_
  refine .m rfl rfl rfl (.loadM ag_42_Hl rfl ⟨rfl, Mem.of_get at7006⟩) ?_
  refine .m rfl rfl rfl (.loadM ag_42_Hl rfl ⟨rfl, Mem.of_get at5007⟩) ?_
  refine .callQ rfl rfl rfl rfl @Try.call19 rfl (eqCone_c) ?_
  refine .m rfl rfl rfl (.not rfl) (.m rfl rfl rfl (.move rfl) ?_)
  refine .split (fun h36 => ?_) (fun h36 => ?_)
  ·
   try simp only [sps] at h36
   refine .sg rfl rfl rfl rfl rfl (.sg rfl rfl rfl rfl rfl (.sg rfl rfl rfl rfl rfl (.m rfl rfl rfl (.pickT rfl rfl) ?_)))
   refine .nil ?_
   refine hK11 _ _ ?_
   refine .condT rfl ?_
   refine .seq (fun K12 hK12 => ?_)
   refine .region (.m rfl rfl rfl (.assign rfl) (.nil ?_))
   refine hK12 _ _ ?_
   refine .ret ?_
   refine hret _ _ ?_
   refine ⟨_, rfl, ?_⟩
   first
   | exact rfl
   | exact absurd trivial (by assumption)
   | contradiction
   | (exfalso; omega)
  try simp only [sps] at h36
  refine .mg rfl rfl rfl rfl rfl (.move rfl) (.mg rfl rfl rfl rfl rfl (.move rfl) (.mg rfl rfl rfl rfl rfl (.cmp rfl rfl rfl) (.m rfl rfl rfl (.pickF rfl rfl) ?_)))
  refine .nil ?_
  refine hK11 _ _ ?_
  refine .cond rfl (fun h40 => ?_) (fun h40 => ?_)
  ·
   try simp only [sps] at h40
   refine .seq (fun K13 hK13 => ?_)
   refine .region (.m rfl rfl rfl (.assign rfl) (.nil ?_))
   refine hK13 _ _ ?_
   refine .ret ?_
   refine hret _ _ ?_
   refine ⟨_, rfl, ?_⟩
   first
   | exact rfl
   | exact absurd trivial (by assumption)
   | contradiction
   | (exfalso; omega)
  try simp only [sps] at h40
  refine .skip ?_
  refine hK10 _ _ ?_
  refine .seq (fun K14 hK14 => ?_)
  refine .seq (fun K15 hK15 => ?_)
  refine .regionD mixed_orders_B (.q 0 (.q 1 (.c 2 1 (.c 3 0 (.q 4 (.done)))))) (by kernel_rfl) ?_
  refine .m rfl rfl rfl rfl (.refl _) (.loadM ag_34_E rfl ⟨rfl, Mem.of_get at6003⟩) ?_
  refine .m rfl rfl rfl rfl (.refl _) (.loadM ag_27_LLimitOf rfl ⟨rfl, Mem.of_get at1⟩) ?_
  refine .call1 rfl rfl rfl rfl rfl @Try.call10 rfl (toFunctor_c) ?_
  rintro _ H43 ⟨le43, p43, rfl, v43⟩
  have hbl := le43
  refine ⟨hbl, ?_⟩
  have nx_H43 := le43.1
  replace hle := hle.trans le43
  replace at1 := le43.2 _ _ at1
  replace at5007 := le43.2 _ _ at5007
  replace at6003 := le43.2 _ _ at6003
  replace at7006 := le43.2 _ _ at7006
  replace lv_v21 := Keep.le lv_v21 le43
  replace v21 := bs_v21.keep lv_v21 (Nat.le_refl _)
  replace lv_v22 := Keep.le lv_v22 le43
  replace v22 := bs_v22.keep lv_v22 (Nat.le_refl _)
  replace lv_v26 := Keep.le lv_v26 le43
  replace v26 := bs_v26.keep lv_v26 (Nat.le_refl _)
  replace lv_v29 := Keep.le lv_v29 le43
  replace v29 := bs_v29.keep lv_v29 (Nat.le_refl _)
  have bs_v43 := v43
  have lv_v43 : Keep H7006.next H43 H43 := fun _ _ _ h => h
  replace h0 := base_h0.mono hle
  clear hb1 fs1 ft1 c101 c111 j11 j21 hm1 hi1 hms1 his1 hmt1 hit1
  have hb1 : Fun.At _ g1 0 d p := ⟨Mem.of_get at1, h0⟩
  obtain ⟨fs1, ft1, c101, c111, j11, j21⟩ := hb1.get
  have hm1 : MemN _ _ _ _ _ := ⟨rfl, hb1.1⟩
  have hi1 := hb1.2
  have hms1 : MemN _ _ _ _ _ := ⟨rfl, fs1.1⟩
  have his1 := fs1.2
  have hmt1 : MemN _ _ _ _ _ := ⟨rfl, ft1.1⟩
  have hit1 := ft1.2
  clear i21
  have i21 := v21.inn
  clear i22
  have i22 := v22.inn
  clear mm5007
  have mm5007 : MemN _ _ _ _ _ := ⟨rfl, Mem.of_get at5007⟩
  clear i26
  have i26 := v26.inn
  clear mm6003
  have mm6003 : MemN _ _ _ _ _ := ⟨rfl, Mem.of_get at6003⟩
  clear i29
  have i29 := v29.inn
  clear mm7006
  have mm7006 : MemN _ _ _ _ _ := ⟨rfl, Mem.of_get at7006⟩
  have i43 := v43.inn
  refine .callQ0 rfl rfl rfl rfl rfl @Try.call13 rfl (eqFunctor_c) ?_
  refine .m rfl rfl rfl rfl (.refl _) (.not rfl) ?_
  refine .done ?_
  refine hK15 _ _ ?_
  refine .cond rfl (fun h45 => ?_) (fun h45 => ?_)
  ·
   try simp only [sps] at h45
   refine .seq (fun K16 hK16 => ?_)
   refine .region (.m rfl rfl rfl (.assign rfl) (.nil ?_))
   refine hK16 _ _ ?_
   refine .ret ?_
   refine hret _ _ ?_
   refine ⟨_, rfl, ?_⟩
   first
   | exact rfl
   | exact absurd trivial (by assumption)
   | contradiction
   | (exfalso; omega)
  try simp only [sps] at h45
  refine .skip ?_
  refine hK14 _ _ ?_
  refine .seq (fun K17 hK17 => ?_)
  refine .region (.m rfl rfl rfl (.assign rfl) (.nil ?_))
  refine hK17 _ _ ?_
  refine .seq (fun K18 hK18 => ?_)
  refine .region ?_
  refine .m rfl rfl rfl (.loadM ag_34_E rfl ⟨rfl, Mem.of_get at6003⟩) ?_
  refine .m rfl rfl rfl (.move rfl) ?_
  have w_v26 := FunW.of_at bs_v26 lv_v26
  refine .call rfl rfl rfl rfl @Try.call14 rfl (markFunctor_c) ?_
  rintro _ H48 ⟨rfl, mk48⟩
  have sm48 := mk48.stm
  have nx_H48 := sm48.nx
  replace hle := StM.le_left hle sm48 (by omega)
  replace at1 := sm48.same _ _ (by omega) at1
  replace at5007 := sm48.same _ _ (by omega) at5007
  replace at6003 := sm48.same _ _ (by omega) at6003
  replace at7006 := sm48.same _ _ (by omega) at7006
  replace lv_v21 := Keep.stM lv_v21 sm48 (fun k hb hk => by omega)
  replace v21 := bs_v21.keep lv_v21 (Nat.le_refl _)
  replace lv_v22 := Keep.stM lv_v22 sm48 (fun k hb hk => by omega)
  replace v22 := bs_v22.keep lv_v22 (Nat.le_refl _)
  replace lv_v29 := Keep.stM lv_v29 sm48 (fun k hb hk => by omega)
  replace v29 := bs_v29.keep lv_v29 (Nat.le_refl _)
  replace lv_v43 := Keep.stM lv_v43 sm48 (fun k hb hk => by omega)
  replace v43 := bs_v43.keep lv_v43 (Nat.le_refl _)
  replace h0 := base_h0.mono hle
  clear hb1 fs1 ft1 c101 c111 j11 j21 hm1 hi1 hms1 his1 hmt1 hit1
  have hb1 : Fun.At _ g1 0 d p := ⟨Mem.of_get at1, h0⟩
  obtain ⟨fs1, ft1, c101, c111, j11, j21⟩ := hb1.get
  have hm1 : MemN _ _ _ _ _ := ⟨rfl, hb1.1⟩
  have hi1 := hb1.2
  have hms1 : MemN _ _ _ _ _ := ⟨rfl, fs1.1⟩
  have his1 := fs1.2
  have hmt1 : MemN _ _ _ _ _ := ⟨rfl, ft1.1⟩
  have hit1 := ft1.2
  clear i21
  have i21 := v21.inn
  clear i22
  have i22 := v22.inn
  clear mm5007
  have mm5007 : MemN _ _ _ _ _ := ⟨rfl, Mem.of_get at5007⟩
  clear mm6003
  have mm6003 : MemN _ _ _ _ _ := ⟨rfl, Mem.of_get at6003⟩
  clear i29
  have i29 := v29.inn
  clear mm7006
  have mm7006 : MemN _ _ _ _ _ := ⟨rfl, Mem.of_get at7006⟩
  clear i43
  have i43 := v43.inn
  refine .m rfl rfl rfl (.assign rfl) (.nil ?_)
  refine hK18 _ _ ?_
  refine .seq (fun K19 hK19 => ?_)
  refine .seq (fun K20 hK20 => ?_)
  refine .region (.m rfl rfl rfl (.move rfl) (.m rfl rfl rfl (.cmp rfl rfl rfl) (.m rfl rfl rfl (.move rfl) ?_)))
  refine .split (fun h51 => ?_) (fun h51 => ?_)
  ·
   try simp only [sps] at h51
   refine .sg rfl rfl rfl rfl rfl (.sg rfl rfl rfl rfl rfl (.sg rfl rfl rfl rfl rfl (.sg rfl rfl rfl rfl rfl ?_)))
   refine .m rfl rfl rfl (.pickT rfl rfl) (.m rfl rfl rfl (.move rfl) (.sg rfl rfl rfl rfl rfl (.sg rfl rfl rfl rfl rfl ?_)))
   refine .sg rfl rfl rfl rfl rfl (.m rfl rfl rfl (.pickT rfl rfl) (.nil ?_))
   refine hK20 _ _ ?_
   refine .condT rfl ?_
   refine .seq (fun K21 hK21 => ?_)
   refine .region (.m rfl rfl rfl (.assign rfl) (.nil ?_))
   refine hK21 _ _ ?_
   refine .ret ?_
   refine hret _ _ ?_
   refine ⟨_, rfl, ?_⟩
   first
   | exact rfl
   | exact absurd trivial (by assumption)
   | contradiction
   | (exfalso; omega)
  try simp only [sps] at h51
  refine .mg rfl rfl rfl rfl rfl (.loadM ag_42_Hl rfl ⟨rfl, Mem.of_get at7006⟩) ?_
  refine .mg rfl rfl rfl rfl rfl (.loadM ag_42_Hl rfl ⟨rfl, Mem.of_get at5007⟩) ?_
  refine .callQg rfl rfl rfl rfl rfl rfl @Try.call19 rfl (eqCone_c) ?_
  refine .mg rfl rfl rfl rfl rfl (.not rfl) (.m rfl rfl rfl (.pickF rfl rfl) (.m rfl rfl rfl (.move rfl) ?_))
  refine .split (fun h57 => ?_) (fun h57 => ?_)
  ·
   try simp only [sps] at h57
   refine .sg rfl rfl rfl rfl rfl (.sg rfl rfl rfl rfl rfl (.sg rfl rfl rfl rfl rfl (.m rfl rfl rfl (.pickT rfl rfl) ?_)))
   refine .nil ?_
   refine hK20 _ _ ?_
   refine .condT rfl ?_
   refine .seq (fun K22 hK22 => ?_)
   refine .region (.m rfl rfl rfl (.assign rfl) (.nil ?_))
   refine hK22 _ _ ?_
   refine .ret ?_
   refine hret _ _ ?_
   refine ⟨_, rfl, ?_⟩
   first
   | exact rfl
   | exact absurd trivial (by assumption)
   | contradiction
   | (exfalso; omega)
  try simp only [sps] at h57
  refine .mg rfl rfl rfl rfl rfl (.move rfl) (.mg rfl rfl rfl rfl rfl (.move rfl) (.mg rfl rfl rfl rfl rfl (.cmp rfl rfl rfl) (.m rfl rfl rfl (.pickF rfl rfl) ?_)))
  refine .nil ?_
  refine hK20 _ _ ?_
  refine .cond rfl (fun h61 => ?_) (fun h61 => ?_)
  ·
   try simp only [sps] at h61
   refine .seq (fun K23 hK23 => ?_)
   refine .region (.m rfl rfl rfl (.assign rfl) (.nil ?_))
   refine hK23 _ _ ?_
   refine .ret ?_
   refine hret _ _ ?_
   refine ⟨_, rfl, ?_⟩
   first
   | exact rfl
   | exact absurd trivial (by assumption)
   | contradiction
   | (exfalso; omega)
  try simp only [sps] at h61
  refine .skip ?_
  refine hK19 _ _ ?_
  refine .seq (fun K24 hK24 => ?_)
  refine .region (.m rfl rfl rfl (.assign rfl) (.nil ?_))
  refine hK24 _ _ ?_
  refine .seq (fun K25 hK25 => ?_)
  refine .region ?_
  refine .m rfl rfl rfl (.loadM ag_42_Hl rfl ⟨rfl, Mem.of_get at7006⟩) ?_
  refine .m rfl rfl rfl (.move rfl) ?_
  have w_v29 := ConW.of_r bs_v29 lv_v29
  refine .call rfl rfl rfl rfl @Try.call20 rfl (markCone_c) ?_
  rintro _ H64 ⟨rfl, mk64⟩
  have sm64 := mk64.stm
  have nx_H64 := sm64.nx
  replace hle := StM.le_left hle sm64 (by omega)
  replace at1 := sm64.same _ _ (by omega) at1
  replace at5007 := sm64.same _ _ (by omega) at5007
  replace at6003 := sm64.same _ _ (by omega) at6003
  replace at7006 := sm64.same _ _ (by omega) at7006
  replace lv_v21 := Keep.stM lv_v21 sm64 (fun k hb hk => by omega)
  replace v21 := bs_v21.keep lv_v21 (Nat.le_refl _)
  replace lv_v22 := Keep.stM lv_v22 sm64 (fun k hb hk => by omega)
  replace v22 := bs_v22.keep lv_v22 (Nat.le_refl _)
  replace lv_v43 := Keep.stM lv_v43 sm64 (fun k hb hk => by omega)
  replace v43 := bs_v43.keep lv_v43 (Nat.le_refl _)
  replace h0 := base_h0.mono hle
  clear hb1 fs1 ft1 c101 c111 j11 j21 hm1 hi1 hms1 his1 hmt1 hit1
  have hb1 : Fun.At _ g1 0 d p := ⟨Mem.of_get at1, h0⟩
  obtain ⟨fs1, ft1, c101, c111, j11, j21⟩ := hb1.get
  have hm1 : MemN _ _ _ _ _ := ⟨rfl, hb1.1⟩
  have hi1 := hb1.2
  have hms1 : MemN _ _ _ _ _ := ⟨rfl, fs1.1⟩
  have his1 := fs1.2
  have hmt1 : MemN _ _ _ _ _ := ⟨rfl, ft1.1⟩
  have hit1 := ft1.2
  clear i21
  have i21 := v21.inn
  clear i22
  have i22 := v22.inn
  clear mm5007
  have mm5007 : MemN _ _ _ _ _ := ⟨rfl, Mem.of_get at5007⟩
  clear mm6003
  have mm6003 : MemN _ _ _ _ _ := ⟨rfl, Mem.of_get at6003⟩
  clear mm7006
  have mm7006 : MemN _ _ _ _ _ := ⟨rfl, Mem.of_get at7006⟩
  clear i43
  have i43 := v43.inn
  have hd64 := mk64.held (Con.nodup _ _)
  have wd64 := w_v29.stm sm64
  have bs_hd64 := hd64
  have lv_hd64 : Keep H6003.next H64 H64 := fun _ _ _ h => h
  have bs_wd64 := wd64
  have lv_wd64 : Keep H6003.next H64 H64 := fun _ _ _ h => h
  refine .m rfl rfl rfl (.assign rfl) (.nil ?_)
  refine hK25 _ _ ?_
  refine .seq (fun K26 hK26 => ?_)
  refine .region (.m rfl rfl rfl (.assign rfl) (.nil ?_))
  refine hK26 _ _ ?_
  refine .seq (fun K27 hK27 => ?_)
  refine .region ?_
  refine .m rfl rfl rfl (.loadM ag_42_Hl rfl ⟨rfl, Mem.of_get at7006⟩) ?_
  refine .m rfl rfl rfl (.move rfl) ?_
  refine .callQ rfl rfl rfl rfl @Try.call21 rfl (heldCone_c) ?_
  refine .m rfl rfl rfl (.assign rfl) (.nil ?_)
  refine hK27 _ _ ?_
  refine .seq (fun K28 hK28 => ?_)
  refine .seq (fun K29 hK29 => ?_)
  refine .region (.m rfl rfl rfl (.move rfl) (.m rfl rfl rfl (.cmp rfl rfl rfl) (.nil ?_)))
  refine hK29 _ _ ?_
  refine .cond rfl (fun h69 => ?_) (fun h69 => ?_)
  ·
   try simp only [sps] at h69
   refine .seq (fun K30 hK30 => ?_)
   refine .region (.m rfl rfl rfl (.assign rfl) (.nil ?_))
   refine hK30 _ _ ?_
   refine .ret ?_
   refine hret _ _ ?_
   refine ⟨_, rfl, ?_⟩
   first
   | exact rfl
   | exact absurd trivial (by assumption)
   | contradiction
   | (exfalso; omega)
  try simp only [sps] at h69
  refine .skip ?_
  refine hK28 _ _ ?_
  refine .seq (fun K31 hK31 => ?_)
  refine .seq (fun K32 hK32 => ?_)
  refine .region (.m rfl rfl rfl (.move rfl) (.m rfl rfl rfl (.move rfl) (.m rfl rfl rfl (.cmp rfl rfl rfl) ?_)))
  refine .nil ?_
  refine hK32 _ _ ?_
  refine .cond rfl (fun h72 => ?_) (fun h72 => ?_)
  ·
   try simp only [sps] at h72
   refine .seq (fun K33 hK33 => ?_)
   refine .region (.m rfl rfl rfl (.assign rfl) (.nil ?_))
   refine hK33 _ _ ?_
   refine .ret ?_
   refine hret _ _ ?_
   refine ⟨_, rfl, ?_⟩
   first
   | exact rfl
   | exact absurd trivial (by assumption)
   | contradiction
   | (exfalso; omega)
  try simp only [sps] at h72
  refine .skip ?_
  refine hK31 _ _ ?_
  refine .seq (fun K34 hK34 => ?_)
  refine .region ?_
  refine .m rfl rfl rfl (.loadM ag_27_LLimitOf rfl ⟨rfl, Mem.of_get at1⟩) ?_
  refine .call rfl rfl rfl rfl @Try.call10 rfl (toFunctor_c) ?_
  rintro _ H75 ⟨le75, p75, rfl, v75⟩
  have nx_H75 := le75.1
  replace hle := hle.trans le75
  replace at1 := le75.2 _ _ at1
  replace at5007 := le75.2 _ _ at5007
  replace at6003 := le75.2 _ _ at6003
  replace at7006 := le75.2 _ _ at7006
  replace lv_v21 := Keep.le lv_v21 le75
  replace v21 := bs_v21.keep lv_v21 (Nat.le_refl _)
  replace lv_v22 := Keep.le lv_v22 le75
  replace v22 := bs_v22.keep lv_v22 (Nat.le_refl _)
  replace lv_v43 := Keep.le lv_v43 le75
  replace v43 := bs_v43.keep lv_v43 (Nat.le_refl _)
  replace lv_hd64 := Keep.le lv_hd64 le75
  replace hd64 := bs_hd64.keep lv_hd64 (Nat.le_refl _)
  replace lv_wd64 := Keep.le lv_wd64 le75
  replace wd64 := bs_wd64.keep lv_wd64 (Nat.le_refl _)
  have bs_v75 := v75
  have lv_v75 : Keep H64.next H75 H75 := fun _ _ _ h => h
  replace h0 := base_h0.mono hle
  clear hb1 fs1 ft1 c101 c111 j11 j21 hm1 hi1 hms1 his1 hmt1 hit1
  have hb1 : Fun.At _ g1 0 d p := ⟨Mem.of_get at1, h0⟩
  obtain ⟨fs1, ft1, c101, c111, j11, j21⟩ := hb1.get
  have hm1 : MemN _ _ _ _ _ := ⟨rfl, hb1.1⟩
  have hi1 := hb1.2
  have hms1 : MemN _ _ _ _ _ := ⟨rfl, fs1.1⟩
  have his1 := fs1.2
  have hmt1 : MemN _ _ _ _ _ := ⟨rfl, ft1.1⟩
  have hit1 := ft1.2
  clear i21
  have i21 := v21.inn
  clear i22
  have i22 := v22.inn
  clear mm5007
  have mm5007 : MemN _ _ _ _ _ := ⟨rfl, Mem.of_get at5007⟩
  clear mm6003
  have mm6003 : MemN _ _ _ _ _ := ⟨rfl, Mem.of_get at6003⟩
  clear mm7006
  have mm7006 : MemN _ _ _ _ _ := ⟨rfl, Mem.of_get at7006⟩
  clear i43
  have i43 := v43.inn
  have i75 := v75.inn
  refine .call rfl rfl rfl rfl @Try.call18 rfl (implLimitOf_c) ?_
  rintro _ H76 ⟨le76, p76, rfl, v76⟩
  have nx_H76 := le76.1
  replace hle := hle.trans le76
  replace at1 := le76.2 _ _ at1
  replace at5007 := le76.2 _ _ at5007
  replace at6003 := le76.2 _ _ at6003
  replace at7006 := le76.2 _ _ at7006
  replace lv_v21 := Keep.le lv_v21 le76
  replace v21 := bs_v21.keep lv_v21 (Nat.le_refl _)
  replace lv_v22 := Keep.le lv_v22 le76
  replace v22 := bs_v22.keep lv_v22 (Nat.le_refl _)
  replace lv_v43 := Keep.le lv_v43 le76
  replace v43 := bs_v43.keep lv_v43 (Nat.le_refl _)
  replace lv_hd64 := Keep.le lv_hd64 le76
  replace hd64 := bs_hd64.keep lv_hd64 (Nat.le_refl _)
  replace lv_wd64 := Keep.le lv_wd64 le76
  replace wd64 := bs_wd64.keep lv_wd64 (Nat.le_refl _)
  replace lv_v75 := Keep.le lv_v75 le76
  replace v75 := bs_v75.keep lv_v75 (Nat.le_refl _)
  have bs_v76 := v76
  have lv_v76 : Keep H75.next H76 H76 := fun _ _ _ h => h
  replace h0 := base_h0.mono hle
  clear hb1 fs1 ft1 c101 c111 j11 j21 hm1 hi1 hms1 his1 hmt1 hit1
  have hb1 : Fun.At _ g1 0 d p := ⟨Mem.of_get at1, h0⟩
  obtain ⟨fs1, ft1, c101, c111, j11, j21⟩ := hb1.get
  have hm1 : MemN _ _ _ _ _ := ⟨rfl, hb1.1⟩
  have hi1 := hb1.2
  have hms1 : MemN _ _ _ _ _ := ⟨rfl, fs1.1⟩
  have his1 := fs1.2
  have hmt1 : MemN _ _ _ _ _ := ⟨rfl, ft1.1⟩
  have hit1 := ft1.2
  clear i21
  have i21 := v21.inn
  clear i22
  have i22 := v22.inn
  clear mm5007
  have mm5007 : MemN _ _ _ _ _ := ⟨rfl, Mem.of_get at5007⟩
  clear mm6003
  have mm6003 : MemN _ _ _ _ _ := ⟨rfl, Mem.of_get at6003⟩
  clear mm7006
  have mm7006 : MemN _ _ _ _ _ := ⟨rfl, Mem.of_get at7006⟩
  clear i43
  have i43 := v43.inn
  clear i75
  have i75 := v75.inn
  have i76 := v76.inn
  refine .m rfl rfl rfl (.move rfl) (.m rfl rfl rfl (.extract rfl rfl) (.m rfl rfl rfl (.extract rfl rfl) ?_))
  refine .r rfl rfl rfl (.allocR rfl ze_42_Hk rfl) ?_
  rintro _ H12 ⟨g12, rfl, le12, ge12, at12⟩
  have nx_H12 := le12.1
  replace hle := hle.trans le12
  replace at1 := le12.2 _ _ at1
  replace at5007 := le12.2 _ _ at5007
  replace at6003 := le12.2 _ _ at6003
  replace at7006 := le12.2 _ _ at7006
  replace lv_v21 := Keep.le lv_v21 le12
  replace v21 := bs_v21.keep lv_v21 (Nat.le_refl _)
  replace lv_v22 := Keep.le lv_v22 le12
  replace v22 := bs_v22.keep lv_v22 (Nat.le_refl _)
  replace lv_v43 := Keep.le lv_v43 le12
  replace v43 := bs_v43.keep lv_v43 (Nat.le_refl _)
  replace lv_hd64 := Keep.le lv_hd64 le12
  replace hd64 := bs_hd64.keep lv_hd64 (Nat.le_refl _)
  replace lv_wd64 := Keep.le lv_wd64 le12
  replace wd64 := bs_wd64.keep lv_wd64 (Nat.le_refl _)
  replace lv_v75 := Keep.le lv_v75 le12
  replace v75 := bs_v75.keep lv_v75 (Nat.le_refl _)
  replace lv_v76 := Keep.le lv_v76 le12
  replace v76 := bs_v76.keep lv_v76 (Nat.le_refl _)
  have lt_at12 := GHeap.lt_of_get at12
  replace h0 := base_h0.mono hle
  clear hb1 fs1 ft1 c101 c111 j11 j21 hm1 hi1 hms1 his1 hmt1 hit1
  have hb1 : Fun.At _ g1 0 d p := ⟨Mem.of_get at1, h0⟩
  obtain ⟨fs1, ft1, c101, c111, j11, j21⟩ := hb1.get
  have hm1 : MemN _ _ _ _ _ := ⟨rfl, hb1.1⟩
  have hi1 := hb1.2
  have hms1 : MemN _ _ _ _ _ := ⟨rfl, fs1.1⟩
  have his1 := fs1.2
  have hmt1 : MemN _ _ _ _ _ := ⟨rfl, ft1.1⟩
  have hit1 := ft1.2
  clear i21
  have i21 := v21.inn
  clear i22
  have i22 := v22.inn
  clear mm5007
  have mm5007 : MemN _ _ _ _ _ := ⟨rfl, Mem.of_get at5007⟩
  clear mm6003
  have mm6003 : MemN _ _ _ _ _ := ⟨rfl, Mem.of_get at6003⟩
  clear mm7006
  have mm7006 : MemN _ _ _ _ _ := ⟨rfl, Mem.of_get at7006⟩
  clear i43
  have i43 := v43.inn
  clear i75
  have i75 := v75.inn
  clear i76
  have i76 := v76.inn
  refine .r0 rfl rfl (.fillR rfl sz_42_U rfl rfl rfl rfl (by assumption) (by first | rfl | exact Nat.le_of_ble_eq_true rfl | simp)) ?_
  rintro _ H24007 ⟨rfl, st24007, at24007⟩
  have nx_H24007 := st24007.nx
  replace hle := hle.st st24007 (fun k hk => ⟨by omega, trivial⟩)
  replace at1 := st24007.same _ _ ⟨by omega, trivial⟩ at1
  replace at5007 := st24007.same _ _ ⟨by omega, trivial⟩ at5007
  replace at6003 := st24007.same _ _ ⟨by omega, trivial⟩ at6003
  replace at7006 := st24007.same _ _ ⟨by omega, trivial⟩ at7006
  replace lv_v21 := Keep.st lv_v21 st24007 (fun k hb hk => ⟨by omega, trivial⟩)
  replace v21 := bs_v21.keep lv_v21 (Nat.le_refl _)
  replace lv_v22 := Keep.st lv_v22 st24007 (fun k hb hk => ⟨by omega, trivial⟩)
  replace v22 := bs_v22.keep lv_v22 (Nat.le_refl _)
  replace lv_v43 := Keep.st lv_v43 st24007 (fun k hb hk => ⟨by omega, trivial⟩)
  replace v43 := bs_v43.keep lv_v43 (Nat.le_refl _)
  replace lv_hd64 := Keep.st lv_hd64 st24007 (fun k hb hk => ⟨by omega, trivial⟩)
  replace hd64 := bs_hd64.keep lv_hd64 (Nat.le_refl _)
  replace lv_wd64 := Keep.st lv_wd64 st24007 (fun k hb hk => ⟨by omega, trivial⟩)
  replace wd64 := bs_wd64.keep lv_wd64 (Nat.le_refl _)
  replace lv_v75 := Keep.st lv_v75 st24007 (fun k hb hk => ⟨by omega, trivial⟩)
  replace v75 := bs_v75.keep lv_v75 (Nat.le_refl _)
  replace lv_v76 := Keep.st lv_v76 st24007 (fun k hb hk => ⟨by omega, trivial⟩)
  replace v76 := bs_v76.keep lv_v76 (Nat.le_refl _)
  have lt_at24007 := GHeap.lt_of_get at24007
  replace h0 := base_h0.mono hle
  clear hb1 fs1 ft1 c101 c111 j11 j21 hm1 hi1 hms1 his1 hmt1 hit1
  have hb1 : Fun.At _ g1 0 d p := ⟨Mem.of_get at1, h0⟩
  obtain ⟨fs1, ft1, c101, c111, j11, j21⟩ := hb1.get
  have hm1 : MemN _ _ _ _ _ := ⟨rfl, hb1.1⟩
  have hi1 := hb1.2
  have hms1 : MemN _ _ _ _ _ := ⟨rfl, fs1.1⟩
  have his1 := fs1.2
  have hmt1 : MemN _ _ _ _ _ := ⟨rfl, ft1.1⟩
  have hit1 := ft1.2
  clear i21
  have i21 := v21.inn
  clear i22
  have i22 := v22.inn
  clear mm5007
  have mm5007 : MemN _ _ _ _ _ := ⟨rfl, Mem.of_get at5007⟩
  clear mm6003
  have mm6003 : MemN _ _ _ _ _ := ⟨rfl, Mem.of_get at6003⟩
  clear mm7006
  have mm7006 : MemN _ _ _ _ _ := ⟨rfl, Mem.of_get at7006⟩
  clear i43
  have i43 := v43.inn
  clear i75
  have i75 := v75.inn
  clear i76
  have i76 := v76.inn
  have mm24007 : MemN _ _ _ _ _ := ⟨rfl, Mem.of_get at24007⟩
  refine .m rfl rfl rfl (.assign rfl) (.nil ?_)
  refine hK34 _ _ ?_
  refine .seq (fun K35 hK35 => ?_)
  refine .seq (fun K36 hK36 => ?_)
  refine .region ?_
  refine .m rfl rfl rfl (.loadM ag_42_Hl rfl ⟨rfl, Mem.of_get at24007⟩) ?_
  refine .m rfl rfl rfl (.loadM ag_42_Hl rfl ⟨rfl, Mem.of_get at5007⟩) ?_
  refine .callQ rfl rfl rfl rfl @Try.call19 rfl (eqCone_c) ?_
  refine .m rfl rfl rfl (.not rfl) (.m rfl rfl rfl (.move rfl) ?_)
  refine .split (fun h83 => ?_) (fun h83 => ?_)
  ·
   try simp only [sps] at h83
   refine .sg rfl rfl rfl rfl rfl (.sg rfl rfl rfl rfl rfl (.sg rfl rfl rfl rfl rfl (.m rfl rfl rfl (.pickT rfl rfl) ?_)))
   refine .nil ?_
   refine hK36 _ _ ?_
   refine .condT rfl ?_
   refine .seq (fun K37 hK37 => ?_)
   refine .region (.m rfl rfl rfl (.assign rfl) (.nil ?_))
   refine hK37 _ _ ?_
   refine .ret ?_
   refine hret _ _ ?_
   refine ⟨_, rfl, ?_⟩
   first
   | exact rfl
   | exact absurd trivial (by assumption)
   | contradiction
   | (exfalso; omega)
  try simp only [sps] at h83
  refine .mg rfl rfl rfl rfl rfl (.move rfl) (.mg rfl rfl rfl rfl rfl (.move rfl) (.mg rfl rfl rfl rfl rfl (.cmp rfl rfl rfl) (.m rfl rfl rfl (.pickF rfl rfl) ?_)))
  refine .nil ?_
  refine hK36 _ _ ?_
  refine .cond rfl (fun h87 => ?_) (fun h87 => ?_)
  ·
   try simp only [sps] at h87
   refine .seq (fun K38 hK38 => ?_)
   refine .region (.m rfl rfl rfl (.assign rfl) (.nil ?_))
   refine hK38 _ _ ?_
   refine .ret ?_
   refine hret _ _ ?_
   refine ⟨_, rfl, ?_⟩
   first
   | exact rfl
   | exact absurd trivial (by assumption)
   | contradiction
   | (exfalso; omega)
  try simp only [sps] at h87
  refine .skip ?_
  refine hK35 _ _ ?_
  refine .seq (fun K39 hK39 => ?_)
  refine .region (.m rfl rfl rfl (.assign rfl) (.nil ?_))
  refine hK39 _ _ ?_
  refine .seq (fun K40 hK40 => ?_)
  refine .region ?_
  refine .m rfl rfl rfl (.loadM ag_42_Hl rfl ⟨rfl, Mem.of_get at7006⟩) ?_
  refine .m rfl rfl rfl (.move rfl) ?_
  refine .callQ rfl rfl rfl rfl @Try.call21 rfl (heldCone_c) ?_
  refine .m rfl rfl rfl (.assign rfl) (.nil ?_)
  refine hK40 _ _ ?_
  refine .seq (fun K41 hK41 => ?_)
  refine .seq (fun K42 hK42 => ?_)
  refine .region (.m rfl rfl rfl (.move rfl) (.m rfl rfl rfl (.cmp rfl rfl rfl) (.nil ?_)))
  refine hK42 _ _ ?_
  refine .cond rfl (fun h92 => ?_) (fun h92 => ?_)
  ·
   try simp only [sps] at h92
   refine .seq (fun K43 hK43 => ?_)
   refine .region (.m rfl rfl rfl (.assign rfl) (.nil ?_))
   refine hK43 _ _ ?_
   refine .ret ?_
   refine hret _ _ ?_
   refine ⟨_, rfl, ?_⟩
   first
   | exact rfl
   | exact absurd trivial (by assumption)
   | contradiction
   | (exfalso; omega)
  try simp only [sps] at h92
  refine .skip ?_
  refine hK41 _ _ ?_
  refine .seq (fun K44 hK44 => ?_)
  refine .seq (fun K45 hK45 => ?_)
  refine .region (.m rfl rfl rfl (.move rfl) (.m rfl rfl rfl (.move rfl) (.m rfl rfl rfl (.cmp rfl rfl rfl) ?_)))
  refine .nil ?_
  refine hK45 _ _ ?_
  refine .cond rfl (fun h95 => ?_) (fun h95 => ?_)
  ·
   try simp only [sps] at h95
   refine .seq (fun K46 hK46 => ?_)
   refine .region (.m rfl rfl rfl (.assign rfl) (.nil ?_))
   refine hK46 _ _ ?_
   refine .ret ?_
   refine hret _ _ ?_
   refine ⟨_, rfl, ?_⟩
   first
   | exact rfl
   | exact absurd trivial (by assumption)
   | contradiction
   | (exfalso; omega)
  try simp only [sps] at h95
  refine .skip ?_
  refine hK44 _ _ ?_
  refine .seq (fun K47 hK47 => ?_)
  refine .region (.m rfl rfl rfl (.assign rfl) (.nil ?_))
  refine hK47 _ _ ?_
  refine .ret ?_
  refine hret _ _ ?_
  refine ⟨_, rfl, ?_⟩
  first
  | exact rfl
  | exact absurd trivial (by assumption)
  | contradiction
  | (exfalso; omega)
end Go.Proofs.Ytpmjlhbglcaokaa
/- The call of a law, whatever it takes: the arguments brought in one by one. No condition. -/
namespace Go.GL
open Go.RowKit Go.WideShapes Go.ChangeShapes Go.Deep

/-- An argument of type t may be brought in so that R holds of what stands for it. -/
structure Imp1 (P : Program) (t : TypeId) (R : GHeap → Value → Prop) : Prop where
  mono : ∀ {H H' : GHeap} {g : Value}, H.Le H' → R H g → R H' g
  imp : ∀ {T : Type} {enc : TypeId × Value → T} {B : Nat} {w0 : World} {ρ : Place} {H : GHeap} {w : World} {held : Bool} {base fuel : Nat} {v : Value} {x : DataW T × List MemPlace}, Sim P B w0 ρ H w → w.heap.size ≤ B →
    DataW.trod enc P w 0 (fun _ => true) held fuel t v.cells.toList = some x → Value.okWide P w .any base t v → ∃ ρ' H' g, Sim P B w0 ρ' H' w ∧ Ext ρ ρ' ∧ H.Le H' ∧ VRel ρ' g v ∧ R H' g

def structT (P : Program) (t : TypeId) : Bool := match P.underlying t with | some (.struct _) => true | _ => false
theorem imp1_struct {P : Program} {t : TypeId} {α β : Type} {cells : α → β → List Value} {I : GHeap → α → β → Prop} {W : α → Prop} (hm : ∀ {H H' : GHeap} {c : α} {p : β}, I H c p → H.Le H' → I H' c p)
    (hI : Imports P t (fun ρ H cs => ∃ (c : α) (p : β), LRel ρ (cells c p) cs ∧ I H c p ∧ W c)) (hst : structT P t = true) : Imp1 P t (fun H g => ∃ (c : α) (p : β), g = .agg (cells c p).toArray ∧ I H c p ∧ W c) where
  mono h := fun ⟨c, p, h1, h2, h3⟩ => ⟨c, p, h1, hm h2 h, h3⟩
  imp := by
    intro T enc B w0 ρ H w held base fuel v x hs hB h hv
    have hagg : ∃ cs, v = .agg cs := by
      unfold Value.okWide at hv
      unfold structT at hst
      split at hst
      · rename_i fs hu
        rw [hu] at hv
        obtain ⟨cs, h, _⟩ := hv
        exact ⟨cs, h⟩
      · cases hst
    obtain ⟨cs, rfl⟩ := hagg
    obtain ⟨ρ', H', h1, h2, h3, c, p, h4, h5, h6⟩ := hI hs hB h
    exact ⟨ρ', H', _, h1, h2, h3, by have := VRel.agg_of h4; simpa [Value.cells] using this, c, p, rfl, h5, h6⟩
/-- Arguments of types ts may be brought in so that R holds of what stands for them. -/
structure ImpAll (P : Program) (ts : List TypeId) (R : GHeap → List Value → Prop) : Prop where
  imp : ∀ {T : Type} {enc : TypeId × Value → T} {B : Nat} {w0 : World} {ρ : Place} {H : GHeap} {w : World} {base : Nat} {vs : List Value} {ds : List (DataW T)} {ps : List MemPlace}, Sim P B w0 ρ H w → w.heap.size ≤ B →
    DataW.TrodAll enc P w 0 (fun _ => true) true ts vs ds ps → (∀ (j : Nat) t v, ts[j]? = some t → vs[j]? = some v → Value.okWide P w .any base t v) → ds.length = ts.length ∧ ∃ ρ' H' gs, Sim P B w0 ρ' H' w ∧ Ext ρ ρ' ∧ H.Le H' ∧ LRel ρ' gs vs ∧ R H' gs
theorem ImpAll.nil {P : Program} : ImpAll P [] (fun _ gs => gs = []) where
  imp := by
    intro T enc B w0 ρ H w base vs ds ps hs hB h hv
    obtain ⟨rfl, rfl, rfl⟩ := trodAll_nil h
    exact ⟨rfl, ρ, H, [], hs, .refl ρ, .refl H, .nil ρ, rfl⟩
theorem ImpAll.cons {P : Program} {t : TypeId} {ts : List TypeId} {R1 : GHeap → Value → Prop} {R : GHeap → List Value → Prop} (h1 : Imp1 P t R1) (h2 : ImpAll P ts R) : ImpAll P (t :: ts) (fun H gs => ∃ g r, gs = g :: r ∧ R1 H g ∧ R H r) where
  imp := by
    intro T enc B w0 ρ H w base vs ds ps hs hB h hv
    obtain ⟨v, vs, d, ds, p, q, rfl, rfl, rfl, ⟨fuel, k1⟩, k2⟩ := trodAll_cons h
    obtain ⟨ρ1, H1, g, s1, e1, l1, v1, r1⟩ := h1.imp hs hB k1 (hv 0 t v rfl rfl)
    obtain ⟨hl, ρ2, H2, gs, s2, e2, l2, v2, r2⟩ := h2.imp s1 hB k2 (fun j t v ht hj => hv (j + 1) t v (by simpa using ht) (by simpa using hj))
    exact ⟨by simp [hl], ρ2, H2, g :: gs, s2, e1.trans e2, l1.trans l2, .cons (v1.mono e2) v2, g, gs, rfl, h1.mono l2 r1, r2⟩

/-- The call of a law. -/
theorem law_calls {P : Program} {f : FuncId} {fn : Func} {ts : List TypeId} {tb : TypeId} {R : GHeap → List Value → Prop} (hI : ImpAll P ts R) (hp : fn.params = ts.toArray)
    (hc : ∀ H gs, R H gs → GCalls P f gs H fun v _ => v = .bool true)
    {T : Type} {enc : TypeId × Value → T} {W : World} {base : Nat} {args : Array Value} {s : ChangeSpec} {apart fresh handsOn again : Bool} {ds gs : List (DataW T)} {before : List MemPlace}
    (hval : ∀ (j : Nat) t v, fn.params[j]? = some t → args[j]? = some v → Value.okWide P W .any base t v)
    (hW : DataW.Whole enc P fn.params.toList s.vars apart W args.toList ds gs before)
    (hl : laidOutB P = true) (hr : readB P fn.params.toList = true) (hv : s.vars = []) (hrt : fn.resultTypes = #[tb]) (htb : P.underlying tb = some .bool)
    (hs : ∀ ds : List (DataW T), ds.length = ts.length → (s.fn T ds).results = [.lit (.bool true)] ∧ (s.fn T ds).args = ds ∧ (s.fn T ds).vars = []) :
    Calls P f args W fun e W' => ∃ v, e = .returned v ∧ s.post enc P fn apart fresh handsOn again W args v W' := by
  have hWW := hW
  obtain ⟨p, q, hA, _⟩ := hW
  rw [hp] at hA
  obtain ⟨hlen, ρ, H, gs', hs', _, _, hrel, hR⟩ := hI.imp (base := base) (Sim.start P W) (Nat.le_refl _) (by simpa using hA) (fun j t v ht hj => hval j t v (by rw [hp]; simpa using ht) (by simpa using hj))
  have := (hc H gs' hR) _ _ ρ args.toList W hs' hrel
  rw [Array.toArray_toList] at this
  refine this.mono fun e W' ⟨v, c, ρ', H', he, hv', _, hsim, hrv⟩ => ?_
  subst hv'
  cases hrv
  exact ⟨_, he, law_post hl hr hv hrt htb hWW (hs ds hlen).1 (hs ds hlen).2.1 (hs ds hlen).2.2 hsim.below⟩
end Go.GL
