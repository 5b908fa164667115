/- Calls of methods through interface values, in regions. No condition. -/
import Derived.Test.YtbdaddkbkdiglaaZ7
namespace Go.GL
section
variable {P : Program} {N : Nat} {ops : Array Oper} {Q : Slots → GHeap → Prop} {L : List (Oper × Nat)} {fr : Slots} {H Hb : GHeap} {o : Oper} {i : Nat} {t : Tree}
theorem GRun.callM {d : Tmp} {f : FuncId} {x : Operand} {name : String} {ty : TypeId} {u : Value} {args : Array Operand} {ts : Array TypeId} {vs : List Value} {R : Value → GHeap → Prop} (hd : o.dst = some d) (hN : Nat.blt d N = true) (hg : o.guard = none)
    (ho : o.op = .call { callee := .invoke x name, args := args, argTypes := ts }) (hx : ev fr x = some (.iface ty u)) (hm : methodT P ty name = some f)
    (hcall : ∀ (av : Array Value) (w : World), (callFunc f av).run P w = .ok (.enter f av) w) (hv : evs fr args.toList = some vs) (hc : GCalls P f (u :: vs) H R) (h : ∀ v H', R v H' → GRun P N ops Q L ((d, some v) :: fr) H') : GRun P N ops Q ((o, 0) :: L) fr H :=
  .r hd hN hg (R := fun ov X => ∃ v, ov = some v ∧ R v X) (.callM ho hx hm hcall hv hc fun v H' h => ⟨v, rfl, h⟩) fun _ H' ⟨v, h1, h2⟩ => by subst h1; exact h v H' h2
theorem GTree.callM0 {d : Tmp} {f : FuncId} {x : Operand} {name : String} {ty : TypeId} {u : Value} {args : Array Operand} {ts : Array TypeId} {vs : List Value} {R : Value → GHeap → Prop} (hi : ops[i]? = some o) (hd : o.dst = some d) (hN : Nat.blt d N = true) (hg : o.guard = none)
    (ho : o.op = .call { callee := .invoke x name, args := args, argTypes := ts }) (hx : ev fr x = some (.iface ty u)) (hm : methodT P ty name = some f)
    (hcall : ∀ (av : Array Value) (w : World), (callFunc f av).run P w = .ok (.enter f av) w) (hv : evs fr args.toList = some vs) (hc : GCalls P f (u :: vs) H R) (h : ∀ v H', R v H' → GTree P N ops Q t ((d, some v) :: fr) H' H') : GTree P N ops Q (.c i 0 t) fr Hb H :=
  .c0 hi hd hN hg (R := fun ov X => ∃ v, ov = some v ∧ R v X) (.callM ho hx hm hcall hv hc fun v H' h => ⟨v, rfl, h⟩) fun _ H' ⟨v, h1, h2⟩ => by subst h1; exact h v H' h2
theorem GTree.callM1 {d : Tmp} {f : FuncId} {x : Operand} {name : String} {ty : TypeId} {u : Value} {args : Array Operand} {ts : Array TypeId} {vs : List Value} {R : Value → GHeap → Prop} (hi : ops[i]? = some o) (hd : o.dst = some d) (hN : Nat.blt d N = true) (hg : o.guard = none)
    (ho : o.op = .call { callee := .invoke x name, args := args, argTypes := ts }) (hx : ev fr x = some (.iface ty u)) (hm : methodT P ty name = some f)
    (hcall : ∀ (av : Array Value) (w : World), (callFunc f av).run P w = .ok (.enter f av) w) (hv : evs fr args.toList = some vs) (hc : GCalls P f (u :: vs) H R) (h : ∀ v H', R v H' → Hb.Le H' ∧ GTree P N ops Q t ((d, some v) :: fr) Hb H') : GTree P N ops Q (.c i 1 t) fr Hb H :=
  .c1 hi hd hN hg (R := fun ov X => ∃ v, ov = some v ∧ R v X) (.callM ho hx hm hcall hv hc fun v H' h => ⟨v, rfl, h⟩) fun _ H' ⟨v, h1, h2⟩ => by subst h1; exact h v H' h2
end
end Go.GL
/- Maps between cones. No condition. -/
namespace Go.GL
theorem allN_succ (n : Nat) (p : Nat → Bool) : allN (n + 1) p = (allN n p && p n) := by simp [allN, List.range_succ, List.all_append]
theorem allN_zero (p : Nat → Bool) : allN 0 p = true := rfl
theorem allN_early {n k : Nat} {p : Nat → Bool} (h : allN k p = false) (hk : k ≤ n) : allN n p = false := by
  rw [← Bool.not_eq_true, allN_iff] at h ⊢
  exact fun hh => h fun i hi => hh i (by omega)
theorem filtTake_T {xs : List Int} {P : Int → Bool} {i : Nat} (hi : i < xs.length) (h : P (xs.getD i 0) = true) : (xs.take (i + 1)).filter P = (xs.take i).filter P ++ [xs.getD i 0] := by
  rw [List.take_add_one, List.getElem?_eq_getElem hi, List.filter_append]
  have e : xs.getD i 0 = xs[i] := by rw [List.getD_eq_getElem?_getD, List.getElem?_eq_getElem hi]; rfl
  rw [e] at h ⊢
  simp [h]
theorem filtTake_F {xs : List Int} {P : Int → Bool} {i : Nat} (hi : i < xs.length) (h : P (xs.getD i 0) = false) : (xs.take (i + 1)).filter P = (xs.take i).filter P := by
  rw [List.take_add_one, List.getElem?_eq_getElem hi, List.filter_append]
  have e : xs.getD i 0 = xs[i] := by rw [List.getD_eq_getElem?_getD, List.getElem?_eq_getElem hi]; rfl
  rw [e] at h
  simp [h]
theorem filtTake_le {xs : List Int} {P : Int → Bool} {i : Nat} : ((xs.take i).filter P).length ≤ xs.length := Nat.le_trans (List.length_filter_le _ _) (by simp; omega)
/-- u is a map from cone p to cone q. -/
def Fun.coneFit (d : Fun) (p q : Con) (u : Int) : Bool := allN p.lg.length fun j => d.t.th u (q.lg.getD j 0) == p.lg.getD j 0
def Fun.coneMaps (d : Fun) (p q : Con) : List Int := (d.t.hom p.ap q.ap).filter (d.coneFit p q)
noncomputable def Fun.cmR (d : Fun) (p q : Con) : List Int := bif B d.Is then (bif B (d.Cone p ∧ d.Cone q) then d.coneMaps p q else []) else []
noncomputable def Fun.cmC (d : Fun) (p q : Con) : Int := bif B d.Is then (bif B (d.Cone p ∧ d.Cone q) then 0 else 5) else 1
theorem Fun.cm_1 {d : Fun} {p q : Con} (h : ¬ d.Is) : d.cmR p q = [] ∧ d.cmC p q = 1 := by unfold Fun.cmR Fun.cmC; rw [B_false h]; exact ⟨rfl, rfl⟩
theorem Fun.cm_2 {d : Fun} {p q : Con} (h : d.Is) (h' : ¬ (d.Cone p ∧ d.Cone q)) : d.cmR p q = [] ∧ d.cmC p q = 5 := by unfold Fun.cmR Fun.cmC; rw [B_true h, B_false h']; exact ⟨rfl, rfl⟩
theorem Fun.cm_3 {d : Fun} {p q : Con} (h : d.Is) (h' : d.Cone p ∧ d.Cone q) : d.cmR p q = d.coneMaps p q ∧ d.cmC p q = 0 := by unfold Fun.cmR Fun.cmC; rw [B_true h, B_true h']; exact ⟨rfl, rfl⟩
theorem Fun.coneMaps_len (d : Fun) (p q : Con) : (d.coneMaps p q).length ≤ d.t.src.length := Nat.le_trans (List.length_filter_le _ _) (Cat.hom_le _ _ _)
theorem Fun.cmR_len (d : Fun) (p q : Con) : (d.cmR p q).length ≤ 40 := by
  by_cases h : d.Is
  · by_cases h' : d.Cone p ∧ d.Cone q
    · rw [(Fun.cm_3 h h').1]
      exact Nat.le_trans (Fun.coneMaps_len _ _ _) h.2.1.1.n40
    · rw [(Fun.cm_2 h h').1]; simp
  · rw [(Fun.cm_1 h).1]; simp
end Go.GL
/- Maps between cones. No condition but those of each statement. -/
namespace Go.Proofs.Ytbdaddkbkdiglaa
open Go Go.GL Go.RowKit Go.Proofs
theorem bt_119_Cm : buildT Try.prog 119 = some ([.pointer none], [(0, 1)]) := by kernel_rfl
theorem ni_119_Cm : noIfaceT Try.prog 119 = true := by kernel_rfl
theorem sz_119_Cm : (Try.prog.info? 119).map (·.size) = some 1 := by kernel_rfl
theorem fo_119_0_Cm : fieldOff Try.prog 119 0 = some 0 := by kernel_rfl
theorem on_87_Cm : oneT Try.prog 87 = true := by kernel_rfl
theorem sl_148_Cm : sliceT Try.prog 148 = some (38, 2) := by kernel_rfl
theorem l12Two_c {d : Fun} {p : FunP} {m m' : Con} {q q' : ConP} {H : GHeap} (hin : d.In H p := by assumption) (hin1 : m.In H q := by assumption) (hin2 : m'.In H q' := by assumption) (hI : d.Is := by assumption) (hs1 : m.Small := by assumption) (hs2 : m'.Small := by assumption) :
    GCalls Try.prog 45 [.agg (d.cells p).toArray, .agg (m.cells q).toArray, .agg (m'.cells q').toArray] H (Ret (.int .i64 (bif B (d.Cone m ∧ d.Cone m') then 0 else 5)) H) := by
  refine GCalls.ret rfl ?_
  refine GCalls.body (N := 17) (rs := [.tmp 6]) Try.func45 rfl rfl rfl rfl (fun Qx hret hend => ?_)
  refine .forget (fr' := [(0, some _), (1, some _), (2, some _)]) ⟨rfl, rfl, rfl, trivial⟩ ?_
  have hle := GHeap.Le.refl H
  have base_hin := hin
  have base_hin1 := hin1
  have base_hin2 := hin2
  refine .seq (fun K1 hK1 => ?_)
  refine .region ?_
  refine .r rfl rfl rfl (.boxR rfl sz_36_E rfl) ?_
  rintro _ H3 ⟨g3, rfl, le3, ge3, at3⟩
  have nx_H3 := le3.1
  replace hle := hle.trans le3
  have lt_at3 := GHeap.lt_of_get at3
  replace hin := base_hin.mono hle
  replace hin1 := base_hin1.mono hle
  replace hin2 := base_hin2.mono hle
  have hb3 : Fun.At _ g3 0 d p := ⟨Mem.of_get at3, hin⟩
  obtain ⟨fs3, ft3, c103, c113, j13, j23⟩ := hb3.get
  have hm3 : MemN _ _ _ _ _ := ⟨rfl, hb3.1⟩
  have hi3 := hb3.2
  have hms3 : MemN _ _ _ _ _ := ⟨rfl, fs3.1⟩
  have his3 := fs3.2
  have hmt3 : MemN _ _ _ _ _ := ⟨rfl, ft3.1⟩
  have hit3 := ft3.2
  refine .r rfl rfl rfl (.boxR rfl sz_38_U rfl) ?_
  rintro _ H4 ⟨g4, rfl, le4, ge4, at4⟩
  have nx_H4 := le4.1
  replace hle := hle.trans le4
  replace at3 := le4.2 _ _ at3
  have lt_at4 := GHeap.lt_of_get at4
  replace hin := base_hin.mono hle
  replace hin1 := base_hin1.mono hle
  replace hin2 := base_hin2.mono hle
  clear hb3 fs3 ft3 c103 c113 j13 j23 hm3 hi3 hms3 his3 hmt3 hit3
  have hb3 : Fun.At _ g3 0 d p := ⟨Mem.of_get at3, hin⟩
  obtain ⟨fs3, ft3, c103, c113, j13, j23⟩ := hb3.get
  have hm3 : MemN _ _ _ _ _ := ⟨rfl, hb3.1⟩
  have hi3 := hb3.2
  have hms3 : MemN _ _ _ _ _ := ⟨rfl, fs3.1⟩
  have his3 := fs3.2
  have hmt3 : MemN _ _ _ _ _ := ⟨rfl, ft3.1⟩
  have hit3 := ft3.2
  have hb4 : Con.At _ g4 0 m q := ⟨Mem.of_get at4, hin1⟩
  obtain ⟨c04, c14, i14⟩ := hb4.get
  have hm4 : MemN _ _ _ _ _ := ⟨rfl, hb4.1⟩
  have hi4 := hb4.2
  refine .r rfl rfl rfl (.boxR rfl sz_38_U rfl) ?_
  rintro _ H5 ⟨g5, rfl, le5, ge5, at5⟩
  have nx_H5 := le5.1
  replace hle := hle.trans le5
  replace at3 := le5.2 _ _ at3
  replace at4 := le5.2 _ _ at4
  have lt_at5 := GHeap.lt_of_get at5
  replace hin := base_hin.mono hle
  replace hin1 := base_hin1.mono hle
  replace hin2 := base_hin2.mono hle
  clear hb3 fs3 ft3 c103 c113 j13 j23 hm3 hi3 hms3 his3 hmt3 hit3
  have hb3 : Fun.At _ g3 0 d p := ⟨Mem.of_get at3, hin⟩
  obtain ⟨fs3, ft3, c103, c113, j13, j23⟩ := hb3.get
  have hm3 : MemN _ _ _ _ _ := ⟨rfl, hb3.1⟩
  have hi3 := hb3.2
  have hms3 : MemN _ _ _ _ _ := ⟨rfl, fs3.1⟩
  have his3 := fs3.2
  have hmt3 : MemN _ _ _ _ _ := ⟨rfl, ft3.1⟩
  have hit3 := ft3.2
  clear hb4 c04 c14 i14 hm4 hi4
  have hb4 : Con.At _ g4 0 m q := ⟨Mem.of_get at4, hin1⟩
  obtain ⟨c04, c14, i14⟩ := hb4.get
  have hm4 : MemN _ _ _ _ _ := ⟨rfl, hb4.1⟩
  have hi4 := hb4.2
  have hb5 : Con.At _ g5 0 m' q' := ⟨Mem.of_get at5, hin2⟩
  obtain ⟨c05, c15, i15⟩ := hb5.get
  have hm5 : MemN _ _ _ _ _ := ⟨rfl, hb5.1⟩
  have hi5 := hb5.2
  refine .m rfl rfl rfl (.assign rfl) ?_
  refine .nil ?_
  refine hK1 _ _ ?_
  refine .seq (fun K2 hK2 => ?_)
  refine .seq (fun K3 hK3 => ?_)
  refine .region ?_
  refine .m rfl rfl rfl (.loadM ag_36_E rfl ⟨rfl, Mem.of_get at3⟩) ?_
  refine .m rfl rfl rfl (.loadM ag_38_VCon rfl ⟨rfl, Mem.of_get at4⟩) ?_
  refine .callQ rfl rfl rfl rfl @Try.call70 rfl (l12Cone_c) ?_
  refine .m rfl rfl rfl (.not rfl) ?_
  refine .m rfl rfl rfl (.move rfl) ?_
  refine .split (fun h11 => ?_) (fun h11 => ?_)
  ·
   simp only [sps] at h11
   refine .sg rfl rfl rfl rfl rfl ?_
   refine .sg rfl rfl rfl rfl rfl ?_
   refine .sg rfl rfl rfl rfl rfl ?_
   refine .sg rfl rfl rfl rfl rfl ?_
   refine .m rfl rfl rfl (.pickT rfl rfl) ?_
   refine .nil ?_
   refine hK3 _ _ ?_
   refine .condT rfl ?_
   refine .seq (fun K4 hK4 => ?_)
   refine .region ?_
   refine .m rfl rfl rfl (.assign rfl) ?_
   refine .nil ?_
   refine hK4 _ _ ?_
   refine .ret ?_
   -- leaf e1
   refine hret _ _ ?_
   refine ⟨_, rfl, ?_⟩
   first
   | exact ⟨by rw [B_true ⟨by assumption, by assumption⟩]; rfl, hle⟩
   | exact ⟨by rw [B_false fun hh => absurd hh.1 (by assumption)]; rfl, hle⟩
   | exact ⟨by rw [B_false fun hh => absurd hh.2 (by assumption)]; rfl, hle⟩
  ·
   simp only [sps] at h11
   refine .mg rfl rfl rfl rfl rfl (.loadM ag_36_E rfl ⟨rfl, Mem.of_get at3⟩) ?_
   refine .mg rfl rfl rfl rfl rfl (.loadM ag_38_VCon rfl ⟨rfl, Mem.of_get at5⟩) ?_
   refine .callQg rfl rfl rfl rfl rfl rfl @Try.call70 rfl (l12Cone_c) ?_
   refine .mg rfl rfl rfl rfl rfl (.not rfl) ?_
   refine .m rfl rfl rfl (.pickF rfl rfl) ?_
   refine .nil ?_
   refine hK3 _ _ ?_
   refine .cond rfl (fun h16 => ?_) (fun h16 => ?_)
   ·
    simp only [sps] at h16
    refine .seq (fun K5 hK5 => ?_)
    refine .region ?_
    refine .m rfl rfl rfl (.assign rfl) ?_
    refine .nil ?_
    refine hK5 _ _ ?_
    refine .ret ?_
    -- leaf e2
    refine hret _ _ ?_
    refine ⟨_, rfl, ?_⟩
    first
    | exact ⟨by rw [B_true ⟨by assumption, by assumption⟩]; rfl, hle⟩
    | exact ⟨by rw [B_false fun hh => absurd hh.1 (by assumption)]; rfl, hle⟩
    | exact ⟨by rw [B_false fun hh => absurd hh.2 (by assumption)]; rfl, hle⟩
   ·
    simp only [sps] at h16
    refine .skip ?_
    refine hK2 _ _ ?_
    refine .seq (fun K6 hK6 => ?_)
    refine .region ?_
    refine .m rfl rfl rfl (.assign rfl) ?_
    refine .nil ?_
    refine hK6 _ _ ?_
    refine .ret ?_
    -- leaf e3
    refine hret _ _ ?_
    refine ⟨_, rfl, ?_⟩
    first
    | exact ⟨by rw [B_true ⟨by assumption, by assumption⟩]; rfl, hle⟩
    | exact ⟨by rw [B_false fun hh => absurd hh.1 (by assumption)]; rfl, hle⟩
    | exact ⟨by rw [B_false fun hh => absurd hh.2 (by assumption)]; rfl, hle⟩
set_option maxHeartbeats 4000000 in
theorem l12Maps_c {d : Fun} {p : FunP} {m m' : Con} {q q' : ConP} {H : GHeap} (hin : d.In H p := by assumption) (hin1 : m.In H q := by assumption) (hin2 : m'.In H q' := by assumption) (hI : d.Is := by assumption) (hc : d.Cone m := by assumption) (hc' : d.Cone m' := by assumption) :
    GCalls Try.prog 46 [.agg (d.cells p).toArray, .agg (m.cells q).toArray, .agg (m'.cells q').toArray] H (NewInts 2 H (d.coneMaps m m')) := by
  have hS := hI.2.1.1
  have b1 := hS.n40
  have b2 := hc.ll
  have b3 := hc'.ll
  have b4 := hI.2.2.ol
  have b5 := hI.1.1.obj
  have hlh := d.t.hom_le m.ap m'.ap
  refine GCalls.body (N := 63) (rs := [.tmp 6]) Try.func46 rfl rfl rfl rfl (fun Qx hret hend => ?_)
  refine .forget (fr' := [(0, some _), (1, some _), (2, some _)]) ⟨rfl, rfl, rfl, trivial⟩ ?_
  have hle := GHeap.Le.refl H
  have base_hin := hin
  have base_hin1 := hin1
  have base_hin2 := hin2
  refine .seq (fun K1 hK1 => ?_)
  refine .region ?_
  refine .r rfl rfl rfl (.boxR rfl sz_36_E rfl) ?_
  rintro _ H3 ⟨g3, rfl, le3, ge3, at3⟩
  have nx_H3 := le3.1
  replace hle := hle.trans le3
  have lt_at3 := GHeap.lt_of_get at3
  replace hin := base_hin.mono hle
  replace hin1 := base_hin1.mono hle
  replace hin2 := base_hin2.mono hle
  have hb3 : Fun.At _ g3 0 d p := ⟨Mem.of_get at3, hin⟩
  obtain ⟨fs3, ft3, c103, c113, j13, j23⟩ := hb3.get
  have hm3 : MemN _ _ _ _ _ := ⟨rfl, hb3.1⟩
  have hi3 := hb3.2
  have hms3 : MemN _ _ _ _ _ := ⟨rfl, fs3.1⟩
  have his3 := fs3.2
  have hmt3 : MemN _ _ _ _ _ := ⟨rfl, ft3.1⟩
  have hit3 := ft3.2
  refine .r rfl rfl rfl (.boxR rfl sz_38_U rfl) ?_
  rintro _ H4 ⟨g4, rfl, le4, ge4, at4⟩
  have nx_H4 := le4.1
  replace hle := hle.trans le4
  replace at3 := le4.2 _ _ at3
  have lt_at4 := GHeap.lt_of_get at4
  replace hin := base_hin.mono hle
  replace hin1 := base_hin1.mono hle
  replace hin2 := base_hin2.mono hle
  clear hb3 fs3 ft3 c103 c113 j13 j23 hm3 hi3 hms3 his3 hmt3 hit3
  have hb3 : Fun.At _ g3 0 d p := ⟨Mem.of_get at3, hin⟩
  obtain ⟨fs3, ft3, c103, c113, j13, j23⟩ := hb3.get
  have hm3 : MemN _ _ _ _ _ := ⟨rfl, hb3.1⟩
  have hi3 := hb3.2
  have hms3 : MemN _ _ _ _ _ := ⟨rfl, fs3.1⟩
  have his3 := fs3.2
  have hmt3 : MemN _ _ _ _ _ := ⟨rfl, ft3.1⟩
  have hit3 := ft3.2
  have hb4 : Con.At _ g4 0 m q := ⟨Mem.of_get at4, hin1⟩
  obtain ⟨c04, c14, i14⟩ := hb4.get
  have hm4 : MemN _ _ _ _ _ := ⟨rfl, hb4.1⟩
  have hi4 := hb4.2
  refine .r rfl rfl rfl (.boxR rfl sz_38_U rfl) ?_
  rintro _ H5 ⟨g5, rfl, le5, ge5, at5⟩
  have nx_H5 := le5.1
  replace hle := hle.trans le5
  replace at3 := le5.2 _ _ at3
  replace at4 := le5.2 _ _ at4
  have lt_at5 := GHeap.lt_of_get at5
  replace hin := base_hin.mono hle
  replace hin1 := base_hin1.mono hle
  replace hin2 := base_hin2.mono hle
  clear hb3 fs3 ft3 c103 c113 j13 j23 hm3 hi3 hms3 his3 hmt3 hit3
  have hb3 : Fun.At _ g3 0 d p := ⟨Mem.of_get at3, hin⟩
  obtain ⟨fs3, ft3, c103, c113, j13, j23⟩ := hb3.get
  have hm3 : MemN _ _ _ _ _ := ⟨rfl, hb3.1⟩
  have hi3 := hb3.2
  have hms3 : MemN _ _ _ _ _ := ⟨rfl, fs3.1⟩
  have his3 := fs3.2
  have hmt3 : MemN _ _ _ _ _ := ⟨rfl, ft3.1⟩
  have hit3 := ft3.2
  clear hb4 c04 c14 i14 hm4 hi4
  have hb4 : Con.At _ g4 0 m q := ⟨Mem.of_get at4, hin1⟩
  obtain ⟨c04, c14, i14⟩ := hb4.get
  have hm4 : MemN _ _ _ _ _ := ⟨rfl, hb4.1⟩
  have hi4 := hb4.2
  have hb5 : Con.At _ g5 0 m' q' := ⟨Mem.of_get at5, hin2⟩
  obtain ⟨c05, c15, i15⟩ := hb5.get
  have hm5 : MemN _ _ _ _ _ := ⟨rfl, hb5.1⟩
  have hi5 := hb5.2
  refine .m rfl rfl rfl (.assign rfl) ?_
  refine .nil ?_
  refine hK1 _ _ ?_
  refine .seq (fun K2 hK2 => ?_)
  refine .region ?_
  refine .m rfl rfl rfl (.fieldAddr fo_36_1_E rfl) ?_
  refine .m rfl rfl rfl (.loadM ag_34_D rfl (by assumption)) ?_
  refine .m rfl rfl rfl (.fieldAddr fo_38_0_VCon rfl) ?_
  refine .m rfl rfl rfl (.load on_2_A rfl (by assumption)) ?_
  refine .m rfl rfl rfl (.fieldAddr fo_38_0_VCon rfl) ?_
  refine .m rfl rfl rfl (.load on_2_A rfl (by assumption)) ?_
  refine .call rfl rfl rfl rfl @Try.call71 rfl (l02Hom_c) ?_
  rintro _ H18 ⟨le18, g18, rfl, at18, ge18⟩
  have nx_H18 := le18.1
  replace hle := hle.trans le18
  replace at3 := le18.2 _ _ at3
  replace at4 := le18.2 _ _ at4
  replace at5 := le18.2 _ _ at5
  have lt_at18 := GHeap.lt_of_get at18
  replace hin := base_hin.mono hle
  replace hin1 := base_hin1.mono hle
  replace hin2 := base_hin2.mono hle
  clear hb3 fs3 ft3 c103 c113 j13 j23 hm3 hi3 hms3 his3 hmt3 hit3
  have hb3 : Fun.At _ g3 0 d p := ⟨Mem.of_get at3, hin⟩
  obtain ⟨fs3, ft3, c103, c113, j13, j23⟩ := hb3.get
  have hm3 : MemN _ _ _ _ _ := ⟨rfl, hb3.1⟩
  have hi3 := hb3.2
  have hms3 : MemN _ _ _ _ _ := ⟨rfl, fs3.1⟩
  have his3 := fs3.2
  have hmt3 : MemN _ _ _ _ _ := ⟨rfl, ft3.1⟩
  have hit3 := ft3.2
  clear hb4 c04 c14 i14 hm4 hi4
  have hb4 : Con.At _ g4 0 m q := ⟨Mem.of_get at4, hin1⟩
  obtain ⟨c04, c14, i14⟩ := hb4.get
  have hm4 : MemN _ _ _ _ _ := ⟨rfl, hb4.1⟩
  have hi4 := hb4.2
  clear hb5 c05 c15 i15 hm5 hi5
  have hb5 : Con.At _ g5 0 m' q' := ⟨Mem.of_get at5, hin2⟩
  obtain ⟨c05, c15, i15⟩ := hb5.get
  have hm5 : MemN _ _ _ _ _ := ⟨rfl, hb5.1⟩
  have hi5 := hb5.2
  have i18 := Ints.of_get at18
  refine .m rfl rfl rfl (.assign rfl) ?_
  refine .nil ?_
  refine hK2 _ _ ?_
  refine .seq (fun K3 hK3 => ?_)
  refine .region ?_
  refine .r rfl rfl rfl (.litR rfl sl_22_A ze_2_E rfl rfl (by omega) (by omega) rfl rfl) ?_
  rintro _ H19 ⟨g19, rfl, le19, ge19, at19⟩
  have nx_H19 := le19.1
  replace hle := hle.trans le19
  replace at3 := le19.2 _ _ at3
  replace at4 := le19.2 _ _ at4
  replace at5 := le19.2 _ _ at5
  replace at18 := le19.2 _ _ at18
  have lt_at19 := GHeap.lt_of_get at19
  replace hin := base_hin.mono hle
  replace hin1 := base_hin1.mono hle
  replace hin2 := base_hin2.mono hle
  clear hb3 fs3 ft3 c103 c113 j13 j23 hm3 hi3 hms3 his3 hmt3 hit3
  have hb3 : Fun.At _ g3 0 d p := ⟨Mem.of_get at3, hin⟩
  obtain ⟨fs3, ft3, c103, c113, j13, j23⟩ := hb3.get
  have hm3 : MemN _ _ _ _ _ := ⟨rfl, hb3.1⟩
  have hi3 := hb3.2
  have hms3 : MemN _ _ _ _ _ := ⟨rfl, fs3.1⟩
  have his3 := fs3.2
  have hmt3 : MemN _ _ _ _ _ := ⟨rfl, ft3.1⟩
  have hit3 := ft3.2
  clear hb4 c04 c14 i14 hm4 hi4
  have hb4 : Con.At _ g4 0 m q := ⟨Mem.of_get at4, hin1⟩
  obtain ⟨c04, c14, i14⟩ := hb4.get
  have hm4 : MemN _ _ _ _ _ := ⟨rfl, hb4.1⟩
  have hi4 := hb4.2
  clear hb5 c05 c15 i15 hm5 hi5
  have hb5 : Con.At _ g5 0 m' q' := ⟨Mem.of_get at5, hin2⟩
  obtain ⟨c05, c15, i15⟩ := hb5.get
  have hm5 : MemN _ _ _ _ _ := ⟨rfl, hb5.1⟩
  have hi5 := hb5.2
  clear i18
  have i18 := Ints.of_get at18
  replace at19 : GHeap.get H19 g19 = some (.row (ints []) 2 true) := at19
  refine .m rfl rfl rfl (.assign rfl) ?_
  refine .nil ?_
  refine hK3 _ _ ?_
  refine .seq (fun K4 hK4 => ?_)
  refine .seq (fun K5 hK5 => ?_)
  refine .region ?_
  refine .m rfl rfl rfl (.assign rfl) ?_
  refine .nil ?_
  refine hK5 _ _ ?_
  refine .block ?_
  refine .loopR (σ := Nat × Nat × Nat) [(3, some _), (4, some _), (5, some _), (7, some _)] (fun (i, gL8, nL8) => [(9, some (.int .i64 (i : Int))), (8, some (.slice (some ⟨gL8, 0, none⟩) nL8 nL8))]) (fun (i, gL8, nL8) H' => St [g19] H19 H' ∧ H'.get gL8 = some (.row (ints (((d.t.hom m.ap m'.ap).take i).filter (d.coneFit m m'))) 2 true) ∧ (gL8 = g19 ∨ H19.next ≤ gL8) ∧ nL8 = (((d.t.hom m.ap m'.ap).take i).filter (d.coneFit m m')).length ∧ i ≤ (d.t.hom m.ap m'.ap).length) (fun (i, gL8, nL8) => (d.t.hom m.ap m'.ap).length - i) ((0, _, _)) ⟨rfl, rfl, rfl, rfl, trivial⟩ ⟨rfl, rfl, trivial⟩ ?_ ?_
  ·
   refine ⟨.refl _ _, by first | assumption | exact at19 | simpa using at19, .inl rfl, by first | rfl | assumption | simp | omega, ?_⟩
   omega
  ·
   rintro ⟨i, gL8, nL8⟩ HL1 ⟨lst1, at_L8, pl_L8, ln_L8, hI⟩ KL1 hKL1
   refine .forget (fr' := [(9, some (.int .i64 (i : Int))), (8, some (.slice (some ⟨gL8, 0, none⟩) nL8 nL8)), (3, some _), (4, some _), (5, some _), (7, some _)]) ⟨rfl, rfl, rfl, rfl, rfl, rfl, trivial⟩ ?_
   have ge_L8 : H.next ≤ gL8 := by omega
   have nx_HL1 := lst1.nx
   replace hle := hle.st lst1 (fun k hk => ⟨by omega, trivial⟩)
   replace at3 := lst1.same _ _ ⟨by omega, trivial⟩ at3
   replace at4 := lst1.same _ _ ⟨by omega, trivial⟩ at4
   replace at5 := lst1.same _ _ ⟨by omega, trivial⟩ at5
   replace at18 := lst1.same _ _ ⟨by omega, trivial⟩ at18
   have lt_at_L8 := GHeap.lt_of_get at_L8
   replace hin := base_hin.mono hle
   replace hin1 := base_hin1.mono hle
   replace hin2 := base_hin2.mono hle
   clear hb3 fs3 ft3 c103 c113 j13 j23 hm3 hi3 hms3 his3 hmt3 hit3
   have hb3 : Fun.At _ g3 0 d p := ⟨Mem.of_get at3, hin⟩
   obtain ⟨fs3, ft3, c103, c113, j13, j23⟩ := hb3.get
   have hm3 : MemN _ _ _ _ _ := ⟨rfl, hb3.1⟩
   have hi3 := hb3.2
   have hms3 : MemN _ _ _ _ _ := ⟨rfl, fs3.1⟩
   have his3 := fs3.2
   have hmt3 : MemN _ _ _ _ _ := ⟨rfl, ft3.1⟩
   have hit3 := ft3.2
   clear hb4 c04 c14 i14 hm4 hi4
   have hb4 : Con.At _ g4 0 m q := ⟨Mem.of_get at4, hin1⟩
   obtain ⟨c04, c14, i14⟩ := hb4.get
   have hm4 : MemN _ _ _ _ _ := ⟨rfl, hb4.1⟩
   have hi4 := hb4.2
   clear hb5 c05 c15 i15 hm5 hi5
   have hb5 : Con.At _ g5 0 m' q' := ⟨Mem.of_get at5, hin2⟩
   obtain ⟨c05, c15, i15⟩ := hb5.get
   have hm5 : MemN _ _ _ _ _ := ⟨rfl, hb5.1⟩
   have hi5 := hb5.2
   clear i18
   have i18 := Ints.of_get at18
   have hfl := filtTake_le (xs := d.t.hom m.ap m'.ap) (P := d.coneFit m m') (i := i)
   refine .seq (fun K6 hK6 => ?_)
   refine .seq (fun K7 hK7 => ?_)
   refine .region ?_
   refine .m rfl rfl rfl (.move rfl) ?_
   refine .m rfl rfl rfl (.move rfl) ?_
   refine .m rfl rfl rfl (.len sl_22_A rfl) ?_
   refine .m rfl rfl rfl (.cmp rfl rfl rfl) ?_
   refine .nil ?_
   refine hK7 _ _ ?_
   refine .cond rfl (fun h23 => ?_) (fun h23 => ?_)
   ·
    simp only [sps] at h23
    obtain ⟨f, hf1, hf2, hf3, hf4⟩ := Cat.hom_get (c := d.t) (x := m.ap) (y := m'.ap) (i := i) (by omega)
    refine .skip ?_
    refine hK6 _ _ ?_
    refine .seq (fun K8 hK8 => ?_)
    refine .block ?_
    refine .seq (fun K9 hK9 => ?_)
    refine .region ?_
    refine .m rfl rfl rfl (.assign rfl) ?_
    refine .nil ?_
    refine hK9 _ _ ?_
    refine .seq (fun K10 hK10 => ?_)
    refine .seq (fun K11 hK11 => ?_)
    refine .region ?_
    refine .m rfl rfl rfl (.assign rfl) ?_
    refine .nil ?_
    refine hK11 _ _ ?_
    refine .block ?_
    refine .loopR (σ := Nat × Bool) [(3, some _), (4, some _), (5, some _), (7, some _), (8, some _), (9, some _)] (fun (j, b) => [(11, some (.int .i64 (j : Int))), (10, some (.bool b))]) (fun (j, b) H' => HL1 = H' ∧ j ≤ m.lg.length ∧ b = allN j fun j => d.t.th ((d.t.hom m.ap m'.ap).getD i 0) (m'.lg.getD j 0) == m.lg.getD j 0) (fun (j, b) => m.lg.length - j) ((0, true)) ⟨rfl, rfl, rfl, rfl, rfl, rfl, trivial⟩ ⟨rfl, rfl, trivial⟩ ?_ ?_
    ·
     refine ⟨rfl, ?_⟩
     exact ⟨by omega, rfl⟩
    ·
     rintro ⟨j, b⟩ _ ⟨rfl, hI⟩ KL2 hKL2
     refine .forget (fr' := [(11, some (.int .i64 (j : Int))), (10, some (.bool b)), (3, some _), (4, some _), (5, some _), (7, some _), (8, some _), (9, some _)]) ⟨rfl, rfl, rfl, rfl, rfl, rfl, rfl, rfl, trivial⟩ ?_
     obtain ⟨hj, hb⟩ := hI
     refine .seq (fun K12 hK12 => ?_)
     refine .seq (fun K13 hK13 => ?_)
     refine .region ?_
     refine .m rfl rfl rfl (.move rfl) ?_
     refine .m rfl rfl rfl (.fieldAddr fo_38_1_U rfl) ?_
     refine .m rfl rfl rfl (.load on_22_B rfl (by assumption)) ?_
     refine .m rfl rfl rfl (.len sl_22_A rfl) ?_
     refine .m rfl rfl rfl (.cmp rfl rfl rfl) ?_
     refine .m rfl rfl rfl (.move rfl) ?_
     refine .split (fun h31 => ?_) (fun h31 => ?_)
     ·
      simp only [sps] at h31
      have w1 := hc'.lg j (by omega)
      have w2 := hc.lg j (by omega)
      refine .mg rfl rfl rfl rfl rfl (.move rfl) ?_
      refine .m rfl rfl rfl (.pickT rfl rfl) ?_
      refine .nil ?_
      refine hK13 _ _ ?_
      refine .cond rfl (fun h33 => ?_) (fun h33 => ?_)
      ·
       try simp only [sps] at h33
       refine .skip ?_
       refine hK12 _ _ ?_
       refine .seq (fun K14 hK14 => ?_)
       refine .block ?_
       refine .regionD mixed_orders_B (.q 0 (.q 1 (.q 2 (.q 3 (.q 4 (.q 5 (.q 6 (.q 7 (.q 8 (.q 9 (.q 10 (.q 12 (.q 13 (.q 14 (.q 15 (.q 16 (.c 11 1 (.q 17 (.q 18 (.done)))))))))))))))))))) (by kernel_rfl) ?_
       refine .m rfl rfl rfl rfl (.refl _) (.fieldAddr fo_36_1_E rfl) ?_
       refine .m rfl rfl rfl rfl (.refl _) (.loadM ag_34_D rfl (by assumption)) ?_
       refine .m rfl rfl rfl rfl (.refl _) (.move rfl) ?_
       refine .m rfl rfl rfl rfl (.refl _) (.move rfl) ?_
       refine .m rfl rfl rfl rfl (.refl _) (.idxN sl_22_A (by assumption) rfl rfl (by omega)) ?_
       refine .m rfl rfl rfl rfl (.refl _) (.loadI on_2_A (by assumption) rfl (by omega)) ?_
       refine .m rfl rfl rfl rfl (.refl _) (.fieldAddr fo_38_1_U rfl) ?_
       refine .m rfl rfl rfl rfl (.refl _) (.load on_22_B rfl (by assumption)) ?_
       refine .m rfl rfl rfl rfl (.refl _) (.move rfl) ?_
       refine .m rfl rfl rfl rfl (.refl _) (.idxN sl_22_A (by assumption) rfl rfl (by omega)) ?_
       refine .m rfl rfl rfl rfl (.refl _) (.loadI on_2_A (by assumption) rfl (by omega)) ?_
       refine .m rfl rfl rfl rfl (.refl _) (.fieldAddr fo_38_1_U rfl) ?_
       refine .m rfl rfl rfl rfl (.refl _) (.load on_22_B rfl (by assumption)) ?_
       refine .m rfl rfl rfl rfl (.refl _) (.move rfl) ?_
       refine .m rfl rfl rfl rfl (.refl _) (.idxN sl_22_A (by assumption) rfl rfl (by omega)) ?_
       refine .m rfl rfl rfl rfl (.refl _) (.loadI on_2_A (by assumption) rfl (by omega)) ?_
       refine .callQ1 rfl rfl rfl rfl rfl @Try.call72 rfl (l02Then_c) (.refl _) ?_
       refine .m rfl rfl rfl rfl (.refl _) (.cmp rfl rfl rfl) ?_
       refine .m rfl rfl rfl rfl (.refl _) (.assign rfl) ?_
       refine .done ?_
       refine hK14 _ _ ?_
       refine .region ?_
       refine .m rfl rfl rfl (.move rfl) ?_
       refine .m rfl rfl rfl (.add rfl rfl rfl (by omega) (by omega)) ?_
       refine .m rfl rfl rfl (.assign rfl) ?_
       refine .nil ?_
       refine hKL2 ((j + 1, d.t.th ((d.t.hom m.ap m'.ap).getD i 0) (m'.lg.getD j 0) == m.lg.getD j 0)) _ _ ?_ ?_ ⟨rfl, rfl, rfl, rfl, rfl, rfl, rfl, rfl, trivial⟩
       ·
        refine ⟨rfl, ?_⟩
        exact ⟨by omega, by rw [allN_succ, ← hb, h33]; rfl⟩
       ·
        (dsimp only; omega)
      ·
       try simp only [sps] at h33
       refine .exit ?_
       refine hK10 _ _ ?_
       refine .seq (fun K15 hK15 => ?_)
       refine .region ?_
       have hfit0 : b = d.coneFit m m' ((d.t.hom m.ap m'.ap).getD i 0) := by
         first
         | (have h33' : b = false := h33
            subst h33'
            unfold Fun.coneFit
            exact (allN_early (n := m.lg.length) hb.symm (by omega)).symm)
         | (obtain rfl : j = m.lg.length := by omega
            exact hb)
       refine .m rfl rfl rfl (.move rfl) ?_
       refine .nil ?_
       refine hK15 _ _ ?_
       refine .cond rfl (fun h54 => ?_) (fun h54 => ?_)
       ·
        have hfit : d.coneFit m m' ((d.t.hom m.ap m'.ap).getD i 0) = true := by rw [← hfit0]; exact h54
        refine .region ?_
        refine .m rfl rfl rfl (.move rfl) ?_
        refine .m rfl rfl rfl (.move rfl) ?_
        refine .m rfl rfl rfl (.move rfl) ?_
        refine .m rfl rfl rfl (.idxN sl_22_A (by assumption) rfl rfl (by omega)) ?_
        refine .m rfl rfl rfl (.loadI on_2_A (by assumption) rfl (by omega)) ?_
        refine .r rfl rfl rfl (.litR rfl sl_22_A ze_2_E rfl rfl (by omega) (by omega) rfl rfl) ?_
        rintro _ H60 ⟨g60, rfl, le60, ge60, at60⟩
        have nx_H60 := le60.1
        replace hle := hle.trans le60
        replace lst1 := lst1.le le60
        replace at3 := le60.2 _ _ at3
        replace at4 := le60.2 _ _ at4
        replace at5 := le60.2 _ _ at5
        replace at18 := le60.2 _ _ at18
        replace at_L8 := le60.2 _ _ at_L8
        have lt_at60 := GHeap.lt_of_get at60
        replace hin := base_hin.mono hle
        replace hin1 := base_hin1.mono hle
        replace hin2 := base_hin2.mono hle
        clear hb3 fs3 ft3 c103 c113 j13 j23 hm3 hi3 hms3 his3 hmt3 hit3
        have hb3 : Fun.At _ g3 0 d p := ⟨Mem.of_get at3, hin⟩
        obtain ⟨fs3, ft3, c103, c113, j13, j23⟩ := hb3.get
        have hm3 : MemN _ _ _ _ _ := ⟨rfl, hb3.1⟩
        have hi3 := hb3.2
        have hms3 : MemN _ _ _ _ _ := ⟨rfl, fs3.1⟩
        have his3 := fs3.2
        have hmt3 : MemN _ _ _ _ _ := ⟨rfl, ft3.1⟩
        have hit3 := ft3.2
        clear hb4 c04 c14 i14 hm4 hi4
        have hb4 : Con.At _ g4 0 m q := ⟨Mem.of_get at4, hin1⟩
        obtain ⟨c04, c14, i14⟩ := hb4.get
        have hm4 : MemN _ _ _ _ _ := ⟨rfl, hb4.1⟩
        have hi4 := hb4.2
        clear hb5 c05 c15 i15 hm5 hi5
        have hb5 : Con.At _ g5 0 m' q' := ⟨Mem.of_get at5, hin2⟩
        obtain ⟨c05, c15, i15⟩ := hb5.get
        have hm5 : MemN _ _ _ _ _ := ⟨rfl, hb5.1⟩
        have hi5 := hb5.2
        clear i18
        have i18 := Ints.of_get at18
        refine .r rfl rfl rfl (.appendI rfl sl_22_A ze_2_E rfl by_2_E sl_22_A rfl rfl (by assumption) (by assumption) (by first | omega | (simp <;> omega)) (by omega) (by omega)) ?_
        rintro _ H61 ⟨g61, rfl, st61, ge61, at61⟩
        have nx_H61 := st61.nx
        replace hle := hle.st st61 (fun k hk => ⟨by omega, trivial⟩)
        replace lst1 := lst1.st st61 (fun k hk ho => by simp only [out, and_true] at ho ⊢ <;> omega)
        replace at3 := st61.same _ _ ⟨by omega, trivial⟩ at3
        replace at4 := st61.same _ _ ⟨by omega, trivial⟩ at4
        replace at5 := st61.same _ _ ⟨by omega, trivial⟩ at5
        replace at18 := st61.same _ _ ⟨by omega, trivial⟩ at18
        replace at60 := st61.same _ _ ⟨by omega, trivial⟩ at60
        have lt_at61 := GHeap.lt_of_get at61
        replace hin := base_hin.mono hle
        replace hin1 := base_hin1.mono hle
        replace hin2 := base_hin2.mono hle
        clear hb3 fs3 ft3 c103 c113 j13 j23 hm3 hi3 hms3 his3 hmt3 hit3
        have hb3 : Fun.At _ g3 0 d p := ⟨Mem.of_get at3, hin⟩
        obtain ⟨fs3, ft3, c103, c113, j13, j23⟩ := hb3.get
        have hm3 : MemN _ _ _ _ _ := ⟨rfl, hb3.1⟩
        have hi3 := hb3.2
        have hms3 : MemN _ _ _ _ _ := ⟨rfl, fs3.1⟩
        have his3 := fs3.2
        have hmt3 : MemN _ _ _ _ _ := ⟨rfl, ft3.1⟩
        have hit3 := ft3.2
        clear hb4 c04 c14 i14 hm4 hi4
        have hb4 : Con.At _ g4 0 m q := ⟨Mem.of_get at4, hin1⟩
        obtain ⟨c04, c14, i14⟩ := hb4.get
        have hm4 : MemN _ _ _ _ _ := ⟨rfl, hb4.1⟩
        have hi4 := hb4.2
        clear hb5 c05 c15 i15 hm5 hi5
        have hb5 : Con.At _ g5 0 m' q' := ⟨Mem.of_get at5, hin2⟩
        obtain ⟨c05, c15, i15⟩ := hb5.get
        have hm5 : MemN _ _ _ _ _ := ⟨rfl, hb5.1⟩
        have hi5 := hb5.2
        clear i18
        have i18 := Ints.of_get at18
        refine .m rfl rfl rfl (.assign rfl) ?_
        refine .nil ?_
        refine hK8 _ _ ?_
        refine .region ?_
        refine .m rfl rfl rfl (.move rfl) ?_
        refine .m rfl rfl rfl (.add rfl rfl rfl (by omega) (by omega)) ?_
        refine .m rfl rfl rfl (.assign rfl) ?_
        refine .nil ?_
        refine hKL1 ((i + 1, _, _)) _ _ ?_ ?_ ⟨rfl, rfl, rfl, rfl, rfl, rfl, trivial⟩
        ·
         refine ⟨lst1, by first | assumption | (rw [filtTake_T (by omega) hfit]; assumption) | (rw [filtTake_F (by omega) hfit]; assumption), by omega, by first | omega | (simp only [List.length_append, List.length_cons, List.length_nil] <;> omega) | (rw [filtTake_T (by omega) hfit] <;> (first | omega | (simp only [List.length_append, List.length_cons, List.length_nil] <;> omega))) | (rw [filtTake_F (by omega) hfit] <;> (first | omega | (simp only [List.length_append, List.length_cons, List.length_nil] <;> omega))), ?_⟩
         omega
        ·
         (dsimp only; omega)
       ·
        have hfit : d.coneFit m m' ((d.t.hom m.ap m'.ap).getD i 0) = false := by rw [← hfit0]; exact h54
        refine .skip ?_
        refine hK8 _ _ ?_
        refine .region ?_
        refine .m rfl rfl rfl (.move rfl) ?_
        refine .m rfl rfl rfl (.add rfl rfl rfl (by omega) (by omega)) ?_
        refine .m rfl rfl rfl (.assign rfl) ?_
        refine .nil ?_
        refine hKL1 ((i + 1, _, _)) _ _ ?_ ?_ ⟨rfl, rfl, rfl, rfl, rfl, rfl, trivial⟩
        ·
         refine ⟨lst1, by first | assumption | (rw [filtTake_T (by omega) hfit]; assumption) | (rw [filtTake_F (by omega) hfit]; assumption), by omega, by first | omega | (simp only [List.length_append, List.length_cons, List.length_nil] <;> omega) | (rw [filtTake_T (by omega) hfit] <;> (first | omega | (simp only [List.length_append, List.length_cons, List.length_nil] <;> omega))) | (rw [filtTake_F (by omega) hfit] <;> (first | omega | (simp only [List.length_append, List.length_cons, List.length_nil] <;> omega))), ?_⟩
         omega
        ·
         (dsimp only; omega)
     ·
      simp only [sps] at h31
      refine .sg rfl rfl rfl rfl rfl ?_
      refine .m rfl rfl rfl (.pickF rfl rfl) ?_
      refine .nil ?_
      refine hK13 _ _ ?_
      refine .condF rfl ?_
      refine .exit ?_
      refine hK10 _ _ ?_
      refine .seq (fun K16 hK16 => ?_)
      refine .region ?_
      have hfit0 : b = d.coneFit m m' ((d.t.hom m.ap m'.ap).getD i 0) := by
        first
        | (have h33' : b = false := h33
           subst h33'
           unfold Fun.coneFit
           exact (allN_early (n := m.lg.length) hb.symm (by omega)).symm)
        | (obtain rfl : j = m.lg.length := by omega
           exact hb)
      refine .m rfl rfl rfl (.move rfl) ?_
      refine .nil ?_
      refine hK16 _ _ ?_
      refine .cond rfl (fun h54 => ?_) (fun h54 => ?_)
      ·
       have hfit : d.coneFit m m' ((d.t.hom m.ap m'.ap).getD i 0) = true := by rw [← hfit0]; exact h54
       refine .region ?_
       refine .m rfl rfl rfl (.move rfl) ?_
       refine .m rfl rfl rfl (.move rfl) ?_
       refine .m rfl rfl rfl (.move rfl) ?_
       refine .m rfl rfl rfl (.idxN sl_22_A (by assumption) rfl rfl (by omega)) ?_
       refine .m rfl rfl rfl (.loadI on_2_A (by assumption) rfl (by omega)) ?_
       refine .r rfl rfl rfl (.litR rfl sl_22_A ze_2_E rfl rfl (by omega) (by omega) rfl rfl) ?_
       rintro _ H60x2 ⟨g60x2, rfl, le60x2, ge60x2, at60x2⟩
       have nx_H60x2 := le60x2.1
       replace hle := hle.trans le60x2
       replace lst1 := lst1.le le60x2
       replace at3 := le60x2.2 _ _ at3
       replace at4 := le60x2.2 _ _ at4
       replace at5 := le60x2.2 _ _ at5
       replace at18 := le60x2.2 _ _ at18
       replace at_L8 := le60x2.2 _ _ at_L8
       have lt_at60x2 := GHeap.lt_of_get at60x2
       replace hin := base_hin.mono hle
       replace hin1 := base_hin1.mono hle
       replace hin2 := base_hin2.mono hle
       clear hb3 fs3 ft3 c103 c113 j13 j23 hm3 hi3 hms3 his3 hmt3 hit3
       have hb3 : Fun.At _ g3 0 d p := ⟨Mem.of_get at3, hin⟩
       obtain ⟨fs3, ft3, c103, c113, j13, j23⟩ := hb3.get
       have hm3 : MemN _ _ _ _ _ := ⟨rfl, hb3.1⟩
       have hi3 := hb3.2
       have hms3 : MemN _ _ _ _ _ := ⟨rfl, fs3.1⟩
       have his3 := fs3.2
       have hmt3 : MemN _ _ _ _ _ := ⟨rfl, ft3.1⟩
       have hit3 := ft3.2
       clear hb4 c04 c14 i14 hm4 hi4
       have hb4 : Con.At _ g4 0 m q := ⟨Mem.of_get at4, hin1⟩
       obtain ⟨c04, c14, i14⟩ := hb4.get
       have hm4 : MemN _ _ _ _ _ := ⟨rfl, hb4.1⟩
       have hi4 := hb4.2
       clear hb5 c05 c15 i15 hm5 hi5
       have hb5 : Con.At _ g5 0 m' q' := ⟨Mem.of_get at5, hin2⟩
       obtain ⟨c05, c15, i15⟩ := hb5.get
       have hm5 : MemN _ _ _ _ _ := ⟨rfl, hb5.1⟩
       have hi5 := hb5.2
       clear i18
       have i18 := Ints.of_get at18
       refine .r rfl rfl rfl (.appendI rfl sl_22_A ze_2_E rfl by_2_E sl_22_A rfl rfl (by assumption) (by assumption) (by first | omega | (simp <;> omega)) (by omega) (by omega)) ?_
       rintro _ H61x2 ⟨g61x2, rfl, st61x2, ge61x2, at61x2⟩
       have nx_H61x2 := st61x2.nx
       replace hle := hle.st st61x2 (fun k hk => ⟨by omega, trivial⟩)
       replace lst1 := lst1.st st61x2 (fun k hk ho => by simp only [out, and_true] at ho ⊢ <;> omega)
       replace at3 := st61x2.same _ _ ⟨by omega, trivial⟩ at3
       replace at4 := st61x2.same _ _ ⟨by omega, trivial⟩ at4
       replace at5 := st61x2.same _ _ ⟨by omega, trivial⟩ at5
       replace at18 := st61x2.same _ _ ⟨by omega, trivial⟩ at18
       replace at60x2 := st61x2.same _ _ ⟨by omega, trivial⟩ at60x2
       have lt_at61x2 := GHeap.lt_of_get at61x2
       replace hin := base_hin.mono hle
       replace hin1 := base_hin1.mono hle
       replace hin2 := base_hin2.mono hle
       clear hb3 fs3 ft3 c103 c113 j13 j23 hm3 hi3 hms3 his3 hmt3 hit3
       have hb3 : Fun.At _ g3 0 d p := ⟨Mem.of_get at3, hin⟩
       obtain ⟨fs3, ft3, c103, c113, j13, j23⟩ := hb3.get
       have hm3 : MemN _ _ _ _ _ := ⟨rfl, hb3.1⟩
       have hi3 := hb3.2
       have hms3 : MemN _ _ _ _ _ := ⟨rfl, fs3.1⟩
       have his3 := fs3.2
       have hmt3 : MemN _ _ _ _ _ := ⟨rfl, ft3.1⟩
       have hit3 := ft3.2
       clear hb4 c04 c14 i14 hm4 hi4
       have hb4 : Con.At _ g4 0 m q := ⟨Mem.of_get at4, hin1⟩
       obtain ⟨c04, c14, i14⟩ := hb4.get
       have hm4 : MemN _ _ _ _ _ := ⟨rfl, hb4.1⟩
       have hi4 := hb4.2
       clear hb5 c05 c15 i15 hm5 hi5
       have hb5 : Con.At _ g5 0 m' q' := ⟨Mem.of_get at5, hin2⟩
       obtain ⟨c05, c15, i15⟩ := hb5.get
       have hm5 : MemN _ _ _ _ _ := ⟨rfl, hb5.1⟩
       have hi5 := hb5.2
       clear i18
       have i18 := Ints.of_get at18
       refine .m rfl rfl rfl (.assign rfl) ?_
       refine .nil ?_
       refine hK8 _ _ ?_
       refine .region ?_
       refine .m rfl rfl rfl (.move rfl) ?_
       refine .m rfl rfl rfl (.add rfl rfl rfl (by omega) (by omega)) ?_
       refine .m rfl rfl rfl (.assign rfl) ?_
       refine .nil ?_
       refine hKL1 ((i + 1, _, _)) _ _ ?_ ?_ ⟨rfl, rfl, rfl, rfl, rfl, rfl, trivial⟩
       ·
        refine ⟨lst1, by first | assumption | (rw [filtTake_T (by omega) hfit]; assumption) | (rw [filtTake_F (by omega) hfit]; assumption), by omega, by first | omega | (simp only [List.length_append, List.length_cons, List.length_nil] <;> omega) | (rw [filtTake_T (by omega) hfit] <;> (first | omega | (simp only [List.length_append, List.length_cons, List.length_nil] <;> omega))) | (rw [filtTake_F (by omega) hfit] <;> (first | omega | (simp only [List.length_append, List.length_cons, List.length_nil] <;> omega))), ?_⟩
        omega
       ·
        (dsimp only; omega)
      ·
       have hfit : d.coneFit m m' ((d.t.hom m.ap m'.ap).getD i 0) = false := by rw [← hfit0]; exact h54
       refine .skip ?_
       refine hK8 _ _ ?_
       refine .region ?_
       refine .m rfl rfl rfl (.move rfl) ?_
       refine .m rfl rfl rfl (.add rfl rfl rfl (by omega) (by omega)) ?_
       refine .m rfl rfl rfl (.assign rfl) ?_
       refine .nil ?_
       refine hKL1 ((i + 1, _, _)) _ _ ?_ ?_ ⟨rfl, rfl, rfl, rfl, rfl, rfl, trivial⟩
       ·
        refine ⟨lst1, by first | assumption | (rw [filtTake_T (by omega) hfit]; assumption) | (rw [filtTake_F (by omega) hfit]; assumption), by omega, by first | omega | (simp only [List.length_append, List.length_cons, List.length_nil] <;> omega) | (rw [filtTake_T (by omega) hfit] <;> (first | omega | (simp only [List.length_append, List.length_cons, List.length_nil] <;> omega))) | (rw [filtTake_F (by omega) hfit] <;> (first | omega | (simp only [List.length_append, List.length_cons, List.length_nil] <;> omega))), ?_⟩
        omega
       ·
        (dsimp only; omega)
   ·
    try simp only [sps] at h23
    refine .exit ?_
    refine hK4 _ _ ?_
    refine .seq (fun K17 hK17 => ?_)
    refine .region ?_
    refine .m rfl rfl rfl (.move rfl) ?_
    refine .m rfl rfl rfl (.assign rfl) ?_
    refine .nil ?_
    refine hK17 _ _ ?_
    refine .ret ?_
    -- leaf e1
    refine hret _ _ ?_
    refine ⟨_, rfl, ?_⟩
    obtain rfl : i = (d.t.hom m.ap m'.ap).length := by omega
    rw [List.take_length] at at_L8 ln_L8
    exact ⟨hle, _, by rw [ln_L8]; rfl, at_L8, by omega⟩
theorem specConeMaps_c {d : Fun} {p : FunP} {m m' : Con} {q q' : ConP} {H : GHeap} (hin : d.In H p := by assumption) (hin1 : m.In H q := by assumption) (hin2 : m'.In H q' := by assumption) (hs : d.Small := by assumption) (hs1 : m.Small := by assumption) (hs2 : m'.Small := by assumption) :
    GCalls Try.prog 9 [.agg (d.cells p).toArray, .agg (m.cells q).toArray, .agg (m'.cells q').toArray] H (fun v H' => H.Le H' ∧ ∃ a, v = .tuple #[.slice a (d.cmR m m').length (d.cmR m m').length, .int .i64 (d.cmC m m')] ∧ IntsR H.next H' a (d.cmR m m')) := by
  refine GCalls.body (N := 23) (rs := [.tmp 6, .tmp 7]) Try.func9 rfl rfl rfl rfl (fun Qx hret hend => ?_)
  refine .forget (fr' := [(0, some _), (1, some _), (2, some _)]) ⟨rfl, rfl, rfl, trivial⟩ ?_
  have hle := GHeap.Le.refl H
  have base_hin := hin
  have base_hin1 := hin1
  have base_hin2 := hin2
  refine .seq (fun K1 hK1 => ?_)
  refine .region ?_
  refine .r rfl rfl rfl (.boxR rfl sz_36_E rfl) ?_
  rintro _ H3 ⟨g3, rfl, le3, ge3, at3⟩
  have nx_H3 := le3.1
  replace hle := hle.trans le3
  have lt_at3 := GHeap.lt_of_get at3
  replace hin := base_hin.mono hle
  replace hin1 := base_hin1.mono hle
  replace hin2 := base_hin2.mono hle
  have hb3 : Fun.At _ g3 0 d p := ⟨Mem.of_get at3, hin⟩
  obtain ⟨fs3, ft3, c103, c113, j13, j23⟩ := hb3.get
  have hm3 : MemN _ _ _ _ _ := ⟨rfl, hb3.1⟩
  have hi3 := hb3.2
  have hms3 : MemN _ _ _ _ _ := ⟨rfl, fs3.1⟩
  have his3 := fs3.2
  have hmt3 : MemN _ _ _ _ _ := ⟨rfl, ft3.1⟩
  have hit3 := ft3.2
  refine .r rfl rfl rfl (.boxR rfl sz_38_U rfl) ?_
  rintro _ H4 ⟨g4, rfl, le4, ge4, at4⟩
  have nx_H4 := le4.1
  replace hle := hle.trans le4
  replace at3 := le4.2 _ _ at3
  have lt_at4 := GHeap.lt_of_get at4
  replace hin := base_hin.mono hle
  replace hin1 := base_hin1.mono hle
  replace hin2 := base_hin2.mono hle
  clear hb3 fs3 ft3 c103 c113 j13 j23 hm3 hi3 hms3 his3 hmt3 hit3
  have hb3 : Fun.At _ g3 0 d p := ⟨Mem.of_get at3, hin⟩
  obtain ⟨fs3, ft3, c103, c113, j13, j23⟩ := hb3.get
  have hm3 : MemN _ _ _ _ _ := ⟨rfl, hb3.1⟩
  have hi3 := hb3.2
  have hms3 : MemN _ _ _ _ _ := ⟨rfl, fs3.1⟩
  have his3 := fs3.2
  have hmt3 : MemN _ _ _ _ _ := ⟨rfl, ft3.1⟩
  have hit3 := ft3.2
  have hb4 : Con.At _ g4 0 m q := ⟨Mem.of_get at4, hin1⟩
  obtain ⟨c04, c14, i14⟩ := hb4.get
  have hm4 : MemN _ _ _ _ _ := ⟨rfl, hb4.1⟩
  have hi4 := hb4.2
  refine .r rfl rfl rfl (.boxR rfl sz_38_U rfl) ?_
  rintro _ H5 ⟨g5, rfl, le5, ge5, at5⟩
  have nx_H5 := le5.1
  replace hle := hle.trans le5
  replace at3 := le5.2 _ _ at3
  replace at4 := le5.2 _ _ at4
  have lt_at5 := GHeap.lt_of_get at5
  replace hin := base_hin.mono hle
  replace hin1 := base_hin1.mono hle
  replace hin2 := base_hin2.mono hle
  clear hb3 fs3 ft3 c103 c113 j13 j23 hm3 hi3 hms3 his3 hmt3 hit3
  have hb3 : Fun.At _ g3 0 d p := ⟨Mem.of_get at3, hin⟩
  obtain ⟨fs3, ft3, c103, c113, j13, j23⟩ := hb3.get
  have hm3 : MemN _ _ _ _ _ := ⟨rfl, hb3.1⟩
  have hi3 := hb3.2
  have hms3 : MemN _ _ _ _ _ := ⟨rfl, fs3.1⟩
  have his3 := fs3.2
  have hmt3 : MemN _ _ _ _ _ := ⟨rfl, ft3.1⟩
  have hit3 := ft3.2
  clear hb4 c04 c14 i14 hm4 hi4
  have hb4 : Con.At _ g4 0 m q := ⟨Mem.of_get at4, hin1⟩
  obtain ⟨c04, c14, i14⟩ := hb4.get
  have hm4 : MemN _ _ _ _ _ := ⟨rfl, hb4.1⟩
  have hi4 := hb4.2
  have hb5 : Con.At _ g5 0 m' q' := ⟨Mem.of_get at5, hin2⟩
  obtain ⟨c05, c15, i15⟩ := hb5.get
  have hm5 : MemN _ _ _ _ _ := ⟨rfl, hb5.1⟩
  have hi5 := hb5.2
  refine .m rfl rfl rfl (.assign rfl) ?_
  refine .m rfl rfl rfl (.assign rfl) ?_
  refine .nil ?_
  refine hK1 _ _ ?_
  refine .seq (fun K2 hK2 => ?_)
  refine .seq (fun K3 hK3 => ?_)
  refine .region ?_
  refine .m rfl rfl rfl (.loadM ag_36_E rfl ⟨rfl, Mem.of_get at3⟩) ?_
  refine .callQ rfl rfl rfl rfl @Try.call44 rfl (l06Is_c) ?_
  refine .m rfl rfl rfl (.not rfl) ?_
  refine .nil ?_
  refine hK3 _ _ ?_
  refine .cond rfl (fun h11 => ?_) (fun h11 => ?_)
  ·
   simp only [sps] at h11
   refine .seq (fun K4 hK4 => ?_)
   refine .region ?_
   refine .m rfl rfl rfl (.assign rfl) ?_
   refine .m rfl rfl rfl (.assign rfl) ?_
   refine .nil ?_
   refine hK4 _ _ ?_
   refine .ret ?_
   -- leaf e1
   refine hret _ _ ?_
   refine ⟨_, _, rfl, rfl, ?_⟩
   obtain ⟨e1, e2⟩ := Fun.cm_1 (p := m) (q := m') h11
   rw [e1, e2]
   exact ⟨hle, none, rfl, .inl ⟨rfl, rfl⟩⟩
  ·
   simp only [sps] at h11
   refine .skip ?_
   refine hK2 _ _ ?_
   refine .seq (fun K5 hK5 => ?_)
   refine .seq (fun K6 hK6 => ?_)
   refine .region ?_
   refine .m rfl rfl rfl (.loadM ag_36_E rfl ⟨rfl, Mem.of_get at3⟩) ?_
   refine .m rfl rfl rfl (.loadM ag_38_VCon rfl ⟨rfl, Mem.of_get at4⟩) ?_
   refine .m rfl rfl rfl (.loadM ag_38_VCon rfl ⟨rfl, Mem.of_get at5⟩) ?_
   refine .callQ rfl rfl rfl rfl @Try.call45 rfl (l12Two_c) ?_
   refine .m rfl rfl rfl (.assign rfl) ?_
   refine .nil ?_
   refine hK6 _ _ ?_
   refine .seq (fun K7 hK7 => ?_)
   refine .region ?_
   refine .m rfl rfl rfl (.move rfl) ?_
   refine .m rfl rfl rfl (.cmp rfl rfl rfl) ?_
   refine .nil ?_
   refine hK7 _ _ ?_
   refine .cond rfl (fun h17 => ?_) (fun h17 => ?_)
   ·
    have hcc : ¬ (d.Cone m ∧ d.Cone m') := fun hh => by rw [B_true hh] at h17; simp at h17
    refine .seq (fun K8 hK8 => ?_)
    refine .region ?_
    refine .m rfl rfl rfl (.move rfl) ?_
    refine .m rfl rfl rfl (.assign rfl) ?_
    refine .m rfl rfl rfl (.assign rfl) ?_
    refine .nil ?_
    refine hK8 _ _ ?_
    refine .ret ?_
    -- leaf e2
    refine hret _ _ ?_
    refine ⟨_, _, rfl, rfl, ?_⟩
    obtain ⟨e1, e2⟩ := Fun.cm_2 h11 hcc
    rw [e1, e2, B_false hcc]
    exact ⟨hle, none, rfl, .inl ⟨rfl, rfl⟩⟩
   ·
    have hcc : d.Cone m ∧ d.Cone m' := Classical.byContradiction fun hh => by rw [B_false hh] at h17; simp at h17
    obtain ⟨hc, hc'⟩ := id hcc
    refine .skip ?_
    refine hK5 _ _ ?_
    refine .seq (fun K9 hK9 => ?_)
    refine .region ?_
    refine .m rfl rfl rfl (.loadM ag_36_E rfl ⟨rfl, Mem.of_get at3⟩) ?_
    refine .m rfl rfl rfl (.loadM ag_38_VCon rfl ⟨rfl, Mem.of_get at4⟩) ?_
    refine .m rfl rfl rfl (.loadM ag_38_VCon rfl ⟨rfl, Mem.of_get at5⟩) ?_
    refine .call rfl rfl rfl rfl @Try.call46 rfl (l12Maps_c) ?_
    rintro _ H22 ⟨le22, g22, rfl, at22, ge22⟩
    have nx_H22 := le22.1
    replace hle := hle.trans le22
    replace at3 := le22.2 _ _ at3
    replace at4 := le22.2 _ _ at4
    replace at5 := le22.2 _ _ at5
    have lt_at22 := GHeap.lt_of_get at22
    replace hin := base_hin.mono hle
    replace hin1 := base_hin1.mono hle
    replace hin2 := base_hin2.mono hle
    clear hb3 fs3 ft3 c103 c113 j13 j23 hm3 hi3 hms3 his3 hmt3 hit3
    have hb3 : Fun.At _ g3 0 d p := ⟨Mem.of_get at3, hin⟩
    obtain ⟨fs3, ft3, c103, c113, j13, j23⟩ := hb3.get
    have hm3 : MemN _ _ _ _ _ := ⟨rfl, hb3.1⟩
    have hi3 := hb3.2
    have hms3 : MemN _ _ _ _ _ := ⟨rfl, fs3.1⟩
    have his3 := fs3.2
    have hmt3 : MemN _ _ _ _ _ := ⟨rfl, ft3.1⟩
    have hit3 := ft3.2
    clear hb4 c04 c14 i14 hm4 hi4
    have hb4 : Con.At _ g4 0 m q := ⟨Mem.of_get at4, hin1⟩
    obtain ⟨c04, c14, i14⟩ := hb4.get
    have hm4 : MemN _ _ _ _ _ := ⟨rfl, hb4.1⟩
    have hi4 := hb4.2
    clear hb5 c05 c15 i15 hm5 hi5
    have hb5 : Con.At _ g5 0 m' q' := ⟨Mem.of_get at5, hin2⟩
    obtain ⟨c05, c15, i15⟩ := hb5.get
    have hm5 : MemN _ _ _ _ _ := ⟨rfl, hb5.1⟩
    have hi5 := hb5.2
    have i22 := Ints.of_get at22
    refine .m rfl rfl rfl (.assign rfl) ?_
    refine .m rfl rfl rfl (.assign rfl) ?_
    refine .nil ?_
    refine hK9 _ _ ?_
    refine .ret ?_
    -- leaf e3
    refine hret _ _ ?_
    refine ⟨_, _, rfl, rfl, ?_⟩
    obtain ⟨e1, e2⟩ := Fun.cm_3 h11 hcc
    rw [e1, e2]
    exact ⟨hle, _, rfl, IntsR.of_at at22 (by omega)⟩
theorem conesOf_c {g o : Nat} {H : GHeap} : GCalls Try.prog 49 [.pointer (some ⟨g, o, none⟩)] H (Ret (.iface 119 (.agg #[.pointer (some ⟨g, o, none⟩)])) H) := by
  refine GCalls.body (N := 6) (rs := [.tmp 2]) Try.func49 rfl rfl rfl rfl (fun Qx hret hend => ?_)
  refine .forget (fr' := [(0, some _)]) ⟨rfl, trivial⟩ ?_
  refine .seq (fun K1 hK1 => ?_)
  refine .region ?_
  refine .m rfl rfl rfl (.assign rfl) ?_
  refine .nil ?_
  refine hK1 _ _ ?_
  refine .seq (fun K2 hK2 => ?_)
  refine .region ?_
  refine .m rfl rfl rfl (.move rfl) ?_
  refine .m rfl rfl rfl (.build bt_119_Cm rfl rfl rfl) ?_
  refine .m rfl rfl rfl (.mkIface ni_119_Cm rfl) ?_
  refine .m rfl rfl rfl (.assign rfl) ?_
  refine .nil ?_
  refine hK2 _ _ ?_
  refine .ret ?_
  -- leaf e1
  refine hret _ _ ?_
  refine ⟨_, rfl, ?_⟩
  exact .of rfl
theorem diagram_c {g o : Nat} {H : GHeap} : GCalls Try.prog 146 [.agg #[.pointer (some ⟨g, o, none⟩)]] H (fun v H' => v = .pointer (some ⟨g, o, none⟩) ∧ H.Le H') := by
  refine GCalls.body (N := 5) (rs := [.tmp 2]) Try.func146 rfl rfl rfl rfl (fun Qx hret hend => ?_)
  refine .forget (fr' := [(0, some _)]) ⟨rfl, trivial⟩ ?_
  have hle := GHeap.Le.refl H
  refine .seq (fun K1 hK1 => ?_)
  refine .region ?_
  refine .r rfl rfl rfl (.boxR rfl sz_119_Cm rfl) ?_
  rintro _ H1 ⟨g1, rfl, le1, ge1, at1⟩
  have nx_H1 := le1.1
  replace hle := hle.trans le1
  have lt_at1 := GHeap.lt_of_get at1
  have mm1 : MemN _ _ _ _ _ := ⟨rfl, Mem.of_get at1⟩
  refine .m rfl rfl rfl (.assign rfl) ?_
  refine .nil ?_
  refine hK1 _ _ ?_
  refine .seq (fun K2 hK2 => ?_)
  refine .region ?_
  have k1 : GHeap.cell H1 g1 (0 + 0) = some (.pointer (some ⟨g, o, none⟩)) := by rw [GHeap.cell_of at1]; rfl
  refine .m rfl rfl rfl (.fieldAddr fo_119_0_Cm rfl) ?_
  refine .m rfl rfl rfl (.load on_87_Cm rfl (by assumption)) ?_
  refine .m rfl rfl rfl (.assign rfl) ?_
  refine .nil ?_
  refine hK2 _ _ ?_
  refine .ret ?_
  -- leaf e1
  refine hret _ _ ?_
  refine ⟨_, rfl, ?_⟩
  exact ⟨rfl, hle⟩
set_option maxHeartbeats 4000000 in
theorem coneCode_c {g o k n : Nat} {d : Fun} {p : FunP} {C : Nat → Con} {P : Nat → ConP} {f : Nat → Value} {H : GHeap} (h : Fun.At H g o d p) (hI : d.Is) (hn : n ≤ 1000) (hsl : SlA H (some ⟨k, 0, none⟩) (n * 2) f)
    (hmem : ∀ i, i < n → MemN H k (0 + (i : Int).toNat * 2) 2 ((C i).cells (P i))) (hins : ∀ i, i < n → (C i).In H (P i)) (hs : ∀ i, i < n → (C i).Small) :
    GCalls Try.prog 75 [.iface 119 (.agg #[.pointer (some ⟨g, o, none⟩)]), .slice (some ⟨k, 0, none⟩) n n] H (Ret (.int .i64 (bif B (∀ i, i < n → d.Cone (C i)) then 0 else 5)) H) := by
  refine GCalls.ret (by cases B (∀ i, i < n → d.Cone (C i)) <;> rfl) ?_
  refine GCalls.body (N := 19) (rs := [.tmp 4]) Try.func75 rfl rfl rfl rfl (fun Qx hret hend => ?_)
  refine .forget (fr' := [(0, some _), (1, some _)]) ⟨rfl, rfl, trivial⟩ ?_
  have hle := GHeap.Le.refl H
  have base_h := h
  have base_hsl := hsl
  refine .seq (fun K1 hK1 => ?_)
  refine .region ?_
  refine .m rfl rfl rfl (.assign rfl) ?_
  refine .nil ?_
  refine hK1 _ _ ?_
  refine .seq (fun K2 hK2 => ?_)
  refine .seq (fun K3 hK3 => ?_)
  refine .region ?_
  refine .m rfl rfl rfl (.move rfl) ?_
  refine .m rfl rfl rfl (.len sl_148_Cm rfl) ?_
  refine .m rfl rfl rfl (.move rfl) ?_
  refine .nil ?_
  refine hK3 _ _ ?_
  refine .block ?_
  refine .loopR (σ := Nat) [(0, some _), (7, some _), (8, some _)] (fun i => [(9, some (.int .i64 (i : Int)))]) (fun i H' => St [] H H' ∧ i ≤ n ∧ ∀ j, j < i → d.Cone (C j)) (fun i => n - i) (0) ⟨rfl, rfl, rfl, trivial⟩ ⟨rfl, trivial⟩ ?_ ?_
  ·
   refine ⟨.refl _ _, ?_⟩
   exact ⟨by omega, fun j hj => by omega⟩
  ·
   rintro i HL1 ⟨lst1, hI⟩ KL1 hKL1
   refine .forget (fr' := [(9, some (.int .i64 (i : Int))), (0, some _), (7, some _), (8, some _)]) ⟨rfl, rfl, rfl, rfl, trivial⟩ ?_
   have nx_HL1 := lst1.nx
   replace hle := hle.st lst1 (fun k hk => trivial)
   replace h := base_h.mono hle
   replace hsl := base_hsl.mono hle
   obtain ⟨hi, ha⟩ := hI
   refine .seq (fun K4 hK4 => ?_)
   refine .region ?_
   refine .m rfl rfl rfl (.cmp rfl rfl rfl) ?_
   refine .nil ?_
   refine hK4 _ _ ?_
   refine .seq (fun K5 hK5 => ?_)
   refine .cond rfl (fun h10 => ?_) (fun h10 => ?_)
   ·
    simp only [sps] at h10
    have hs1 := hs i (by omega)
    have hm1 : MemN _ _ _ _ _ := ⟨(hmem i (by omega)).1, (hmem i (by omega)).2.mono hle⟩
    have hin1 := (hins i (by omega)).mono hle
    refine .skip ?_
    refine hK5 _ _ ?_
    refine .seq (fun K6 hK6 => ?_)
    refine .block ?_
    refine .seq (fun K7 hK7 => ?_)
    refine .region ?_
    refine .m rfl rfl rfl (.idx sl_148_Cm (by assumption) (by omega) rfl rfl (by omega) (by omega) rfl) ?_
    refine .m rfl rfl rfl (.loadM ag_38_VCon rfl (by assumption)) ?_
    refine .r rfl rfl rfl (.allocR rfl ze_38_VCon rfl) ?_
    rintro _ H6 ⟨g6, rfl, le6, ge6, at6⟩
    have nx_H6 := le6.1
    replace hle := hle.trans le6
    replace lst1 := lst1.le le6
    have lt_at6 := GHeap.lt_of_get at6
    replace h := base_h.mono hle
    replace hsl := base_hsl.mono hle
    clear hm1 hin1
    have hm1 : MemN _ _ _ _ _ := ⟨(hmem i (by omega)).1, (hmem i (by omega)).2.mono hle⟩
    have hin1 := (hins i (by omega)).mono hle
    refine .r0 rfl rfl (.fillR rfl sz_38_U rfl rfl rfl rfl (by assumption) (by first | rfl | exact Nat.le_of_ble_eq_true rfl | simp)) ?_
    rintro _ H3003 ⟨rfl, st3003, at3003⟩
    have nx_H3003 := st3003.nx
    replace hle := hle.st st3003 (fun k hk => ⟨by omega, trivial⟩)
    replace lst1 := lst1.st st3003 (fun k hk ho => by simp only [out, and_true] at ho ⊢ <;> omega)
    have lt_at3003 := GHeap.lt_of_get at3003
    replace h := base_h.mono hle
    replace hsl := base_hsl.mono hle
    clear hm1 hin1
    have hm1 : MemN _ _ _ _ _ := ⟨(hmem i (by omega)).1, (hmem i (by omega)).2.mono hle⟩
    have hin1 := (hins i (by omega)).mono hle
    have mm3003 : MemN _ _ _ _ _ := ⟨rfl, Mem.of_get at3003⟩
    have hb6 : Con.At _ g6 0 (C i) (P i) := ⟨Mem.of_get at3003, hin1⟩
    obtain ⟨c06, c16, i16⟩ := hb6.get
    have hm6 : MemN _ _ _ _ _ := ⟨rfl, hb6.1⟩
    have hi6 := hb6.2
    refine .nil ?_
    refine hK7 _ _ ?_
    refine .seq (fun K8 hK8 => ?_)
    refine .regionD mixed_orders_B (.q 0 (.q 2 (.c 1 1 (.c 3 0 (.q 4 (.done)))))) (by kernel_rfl) ?_
    refine .m rfl rfl rfl rfl (.refl _) (.move rfl) ?_
    refine .m rfl rfl rfl rfl (.refl _) (.loadM ag_38_VCon rfl ⟨rfl, Mem.of_get at3003⟩) ?_
    refine .callM1 rfl rfl rfl rfl rfl rfl (by kernel_rfl) @Try.call146 rfl (diagram_c) ?_
    rintro _ H14 ⟨rfl, le14⟩
    have hbl := le14
    refine ⟨hbl, ?_⟩
    have nx_H14 := le14.1
    replace hle := hle.trans le14
    replace lst1 := lst1.le le14
    replace at3003 := le14.2 _ _ at3003
    replace h := base_h.mono hle
    replace hsl := base_hsl.mono hle
    clear hm1 hin1
    have hm1 : MemN _ _ _ _ _ := ⟨(hmem i (by omega)).1, (hmem i (by omega)).2.mono hle⟩
    have hin1 := (hins i (by omega)).mono hle
    clear mm3003
    have mm3003 : MemN _ _ _ _ _ := ⟨rfl, Mem.of_get at3003⟩
    clear hb6 c06 c16 i16 hm6 hi6
    have hb6 : Con.At _ g6 0 (C i) (P i) := ⟨Mem.of_get at3003, hin1⟩
    obtain ⟨c06, c16, i16⟩ := hb6.get
    have hm6 : MemN _ _ _ _ _ := ⟨rfl, hb6.1⟩
    have hi6 := hb6.2
    refine .callQ0 rfl rfl rfl rfl rfl @Try.call107 rfl (isCone_c) ?_
    refine .m rfl rfl rfl rfl (.refl _) (.not rfl) ?_
    refine .done ?_
    refine hK8 _ _ ?_
    refine .cond rfl (fun h17 => ?_) (fun h17 => ?_)
    ·
     simp only [sps] at h17
     refine .seq (fun K9 hK9 => ?_)
     refine .region ?_
     refine .m rfl rfl rfl (.assign rfl) ?_
     refine .nil ?_
     refine hK9 _ _ ?_
     refine .ret ?_
     -- leaf e1
     refine hret _ _ ?_
     refine ⟨_, rfl, ?_⟩
     exact ⟨by rw [B_false fun hh => h17 (hh i (by omega))]; rfl, hle⟩
    ·
     simp only [sps] at h17
     refine .skip ?_
     refine hK6 _ _ ?_
     refine .region ?_
     refine .m rfl rfl rfl (.add rfl rfl rfl (by omega) (by omega)) ?_
     refine .m rfl rfl rfl (.move rfl) ?_
     refine .nil ?_
     refine hKL1 (i + 1) _ _ ?_ ?_ ⟨rfl, rfl, rfl, rfl, trivial⟩
     ·
      refine ⟨lst1, ?_⟩
      refine ⟨by omega, fun j hj => ?_⟩
      by_cases e : j < i
      · exact ha j e
      · obtain rfl : j = i := by omega
        exact h17
     ·
      omega
   ·
    try simp only [sps] at h10
    refine .exit ?_
    refine hK2 _ _ ?_
    refine .seq (fun K10 hK10 => ?_)
    refine .region ?_
    refine .m rfl rfl rfl (.assign rfl) ?_
    refine .nil ?_
    refine hK10 _ _ ?_
    refine .ret ?_
    -- leaf e2
    refine hret _ _ ?_
    refine ⟨_, rfl, ?_⟩
    exact ⟨by rw [B_true fun j hj => ha j (by omega)]; rfl, hle⟩
theorem coneCode2_c {g o k : Nat} {e : TypeId} {d : Fun} {p : FunP} {m m' : Con} {q q' : ConP} {H : GHeap} (h : Fun.At H g o d p := by assumption) (hr : H.get k = some (.row (m.cells q ++ m'.cells q') e true) := by assumption)
    (hin : m.In H q := by assumption) (hin' : m'.In H q' := by assumption) (hI : d.Is := by assumption) (hs1 : m.Small := by assumption) (hs2 : m'.Small := by assumption) :
    GCalls Try.prog 75 [.iface 119 (.agg #[.pointer (some ⟨g, o, none⟩)]), .slice (some ⟨k, 0, none⟩) 2 2] H (Ret (.int .i64 (bif B (d.Cone m ∧ d.Cone m') then 0 else 5)) H) := by
  have hm : Mem H k 0 (m.cells q ++ m'.cells q') := Mem.of_get hr
  have hsl : SlA H (some ⟨k, 0, none⟩) (2 * 2) (fun i => (m.cells q ++ m'.cells q').getD i undef) := .inr ⟨k, 0, rfl, fun i hi => by
    refine hm i _ ?_
    have hl : (m.cells q ++ m'.cells q').length = 4 := rfl
    show _ = some ((m.cells q ++ m'.cells q').getD i undef)
    rw [List.getD_eq_getElem?_getD, List.getElem?_eq_getElem (by omega)]; rfl⟩
  have := coneCode_c h hI (n := 2) (by omega) (C := fun i => if i = 0 then m else m') (P := fun i => if i = 0 then q else q') hsl
    (fun i hi => by match i, hi with | 0, _ => exact ⟨rfl, hm.left⟩ | 1, _ => exact ⟨rfl, hm.right (n := 2) rfl⟩) (fun i hi => by match i, hi with | 0, _ => exact hin | 1, _ => exact hin') (fun i hi => by match i, hi with | 0, _ => exact hs1 | 1, _ => exact hs2)
  rw [B_congr (q := d.Cone m ∧ d.Cone m')] at this
  · exact this
  · exact ⟨fun h => ⟨h 0 (by omega), h 1 (by omega)⟩, fun h i hi => by match i, hi with | 0, _ => exact h.1 | 1, _ => exact h.2⟩
set_option maxHeartbeats 4000000 in
theorem coneMaps_c {g o : Nat} {d : Fun} {p : FunP} {m m' : Con} {q q' : ConP} {H : GHeap} (h : Fun.At H g o d p := by assumption) (hin1 : m.In H q := by assumption) (hin2 : m'.In H q' := by assumption) (hI : d.Is := by assumption) (hc : d.Cone m := by assumption) (hc' : d.Cone m' := by assumption) :
    GCalls Try.prog 148 [.pointer (some ⟨g, o, none⟩), .agg (m.cells q).toArray, .agg (m'.cells q').toArray] H (NewInts 2 H (d.coneMaps m m')) := by
  have hS := hI.2.1.1
  have b1 := hS.n40
  have b2 := hc.ll
  have b3 := hc'.ll
  have b4 := hI.2.2.ol
  have b5 := hI.1.1.obj
  have hlh := d.t.hom_le m.ap m'.ap
  refine GCalls.body (N := 53) (rs := [.tmp 6]) Try.func148 rfl rfl rfl rfl (fun Qx hret hend => ?_)
  refine .forget (fr' := [(0, some _), (1, some _), (2, some _)]) ⟨rfl, rfl, rfl, trivial⟩ ?_
  have hle := GHeap.Le.refl H
  have base_h := h
  have base_hin1 := hin1
  have base_hin2 := hin2
  obtain ⟨fs, ft, c10, c11, j1, j2⟩ := h.get
  have hm : MemN _ _ _ _ _ := ⟨rfl, h.1⟩
  have hi := h.2
  have hms : MemN _ _ _ _ _ := ⟨rfl, fs.1⟩
  have his := fs.2
  have hmt : MemN _ _ _ _ _ := ⟨rfl, ft.1⟩
  have hit := ft.2
  refine .seq (fun K1 hK1 => ?_)
  refine .region ?_
  refine .r rfl rfl rfl (.boxR rfl sz_38_U rfl) ?_
  rintro _ H4 ⟨g4, rfl, le4, ge4, at4⟩
  have nx_H4 := le4.1
  replace hle := hle.trans le4
  have lt_at4 := GHeap.lt_of_get at4
  replace h := base_h.mono hle
  replace hin1 := base_hin1.mono hle
  replace hin2 := base_hin2.mono hle
  clear fs ft c10 c11 j1 j2 hm hi hms his hmt hit
  obtain ⟨fs, ft, c10, c11, j1, j2⟩ := h.get
  have hm : MemN _ _ _ _ _ := ⟨rfl, h.1⟩
  have hi := h.2
  have hms : MemN _ _ _ _ _ := ⟨rfl, fs.1⟩
  have his := fs.2
  have hmt : MemN _ _ _ _ _ := ⟨rfl, ft.1⟩
  have hit := ft.2
  have hb4 : Con.At _ g4 0 m q := ⟨Mem.of_get at4, hin1⟩
  obtain ⟨c04, c14, i14⟩ := hb4.get
  have hm4 : MemN _ _ _ _ _ := ⟨rfl, hb4.1⟩
  have hi4 := hb4.2
  refine .r rfl rfl rfl (.boxR rfl sz_38_U rfl) ?_
  rintro _ H5 ⟨g5, rfl, le5, ge5, at5⟩
  have nx_H5 := le5.1
  replace hle := hle.trans le5
  replace at4 := le5.2 _ _ at4
  have lt_at5 := GHeap.lt_of_get at5
  replace h := base_h.mono hle
  replace hin1 := base_hin1.mono hle
  replace hin2 := base_hin2.mono hle
  clear fs ft c10 c11 j1 j2 hm hi hms his hmt hit
  obtain ⟨fs, ft, c10, c11, j1, j2⟩ := h.get
  have hm : MemN _ _ _ _ _ := ⟨rfl, h.1⟩
  have hi := h.2
  have hms : MemN _ _ _ _ _ := ⟨rfl, fs.1⟩
  have his := fs.2
  have hmt : MemN _ _ _ _ _ := ⟨rfl, ft.1⟩
  have hit := ft.2
  clear hb4 c04 c14 i14 hm4 hi4
  have hb4 : Con.At _ g4 0 m q := ⟨Mem.of_get at4, hin1⟩
  obtain ⟨c04, c14, i14⟩ := hb4.get
  have hm4 : MemN _ _ _ _ _ := ⟨rfl, hb4.1⟩
  have hi4 := hb4.2
  have hb5 : Con.At _ g5 0 m' q' := ⟨Mem.of_get at5, hin2⟩
  obtain ⟨c05, c15, i15⟩ := hb5.get
  have hm5 : MemN _ _ _ _ _ := ⟨rfl, hb5.1⟩
  have hi5 := hb5.2
  refine .m rfl rfl rfl (.assign rfl) ?_
  refine .nil ?_
  refine hK1 _ _ ?_
  refine .scope ?_
  refine .seq (fun K2 hK2 => ?_)
  refine .region ?_
  refine .m rfl rfl rfl (.move rfl) ?_
  refine .m rfl rfl rfl (.nilCheck rfl) ?_
  refine .m rfl rfl rfl (.fieldAddr fo_36_1_E rfl) ?_
  refine .m rfl rfl rfl (.assign rfl) ?_
  refine .nil ?_
  refine hK2 _ _ ?_
  refine .seq (fun K3 hK3 => ?_)
  refine .region ?_
  refine .r rfl rfl rfl (.litR rfl sl_22_A ze_2_E rfl rfl (by omega) (by omega) rfl rfl) ?_
  rintro _ H16 ⟨g16, rfl, le16, ge16, at16⟩
  have nx_H16 := le16.1
  replace hle := hle.trans le16
  replace at4 := le16.2 _ _ at4
  replace at5 := le16.2 _ _ at5
  have lt_at16 := GHeap.lt_of_get at16
  replace h := base_h.mono hle
  replace hin1 := base_hin1.mono hle
  replace hin2 := base_hin2.mono hle
  clear fs ft c10 c11 j1 j2 hm hi hms his hmt hit
  obtain ⟨fs, ft, c10, c11, j1, j2⟩ := h.get
  have hm : MemN _ _ _ _ _ := ⟨rfl, h.1⟩
  have hi := h.2
  have hms : MemN _ _ _ _ _ := ⟨rfl, fs.1⟩
  have his := fs.2
  have hmt : MemN _ _ _ _ _ := ⟨rfl, ft.1⟩
  have hit := ft.2
  clear hb4 c04 c14 i14 hm4 hi4
  have hb4 : Con.At _ g4 0 m q := ⟨Mem.of_get at4, hin1⟩
  obtain ⟨c04, c14, i14⟩ := hb4.get
  have hm4 : MemN _ _ _ _ _ := ⟨rfl, hb4.1⟩
  have hi4 := hb4.2
  clear hb5 c05 c15 i15 hm5 hi5
  have hb5 : Con.At _ g5 0 m' q' := ⟨Mem.of_get at5, hin2⟩
  obtain ⟨c05, c15, i15⟩ := hb5.get
  have hm5 : MemN _ _ _ _ _ := ⟨rfl, hb5.1⟩
  have hi5 := hb5.2
  replace at16 : GHeap.get H16 g16 = some (.row (ints []) 2 true) := at16
  refine .m rfl rfl rfl (.assign rfl) ?_
  refine .nil ?_
  refine hK3 _ _ ?_
  refine .seq (fun K4 hK4 => ?_)
  refine .label ?_
  refine hK4 _ _ ?_
  refine .seq (fun K5 hK5 => ?_)
  refine .seq (fun K6 hK6 => ?_)
  refine .region ?_
  refine .m rfl rfl rfl (.move rfl) ?_
  refine .m rfl rfl rfl (.fieldAddr fo_38_0_VCon rfl) ?_
  refine .m rfl rfl rfl (.load on_2_A rfl (by assumption)) ?_
  refine .m rfl rfl rfl (.fieldAddr fo_38_0_VCon rfl) ?_
  refine .m rfl rfl rfl (.load on_2_A rfl (by assumption)) ?_
  refine .call rfl rfl rfl rfl @Try.call87 rfl (hom_c) ?_
  rintro _ H22 ⟨le22, g22, rfl, at22, ge22⟩
  have nx_H22 := le22.1
  replace hle := hle.trans le22
  replace at4 := le22.2 _ _ at4
  replace at5 := le22.2 _ _ at5
  replace at16 := le22.2 _ _ at16
  have lt_at22 := GHeap.lt_of_get at22
  replace h := base_h.mono hle
  replace hin1 := base_hin1.mono hle
  replace hin2 := base_hin2.mono hle
  clear fs ft c10 c11 j1 j2 hm hi hms his hmt hit
  obtain ⟨fs, ft, c10, c11, j1, j2⟩ := h.get
  have hm : MemN _ _ _ _ _ := ⟨rfl, h.1⟩
  have hi := h.2
  have hms : MemN _ _ _ _ _ := ⟨rfl, fs.1⟩
  have his := fs.2
  have hmt : MemN _ _ _ _ _ := ⟨rfl, ft.1⟩
  have hit := ft.2
  clear hb4 c04 c14 i14 hm4 hi4
  have hb4 : Con.At _ g4 0 m q := ⟨Mem.of_get at4, hin1⟩
  obtain ⟨c04, c14, i14⟩ := hb4.get
  have hm4 : MemN _ _ _ _ _ := ⟨rfl, hb4.1⟩
  have hi4 := hb4.2
  clear hb5 c05 c15 i15 hm5 hi5
  have hb5 : Con.At _ g5 0 m' q' := ⟨Mem.of_get at5, hin2⟩
  obtain ⟨c05, c15, i15⟩ := hb5.get
  have hm5 : MemN _ _ _ _ _ := ⟨rfl, hb5.1⟩
  have hi5 := hb5.2
  have i22 := Ints.of_get at22
  refine .m rfl rfl rfl (.len sl_22_A rfl) ?_
  refine .m rfl rfl rfl (.move rfl) ?_
  refine .nil ?_
  refine hK6 _ _ ?_
  refine .block ?_
  refine .loopR (σ := Nat × Nat × Nat) [(4, some _), (5, some _), (7, some _), (22, some _), (23, some _)] (fun (i, gL8, nL8) => [(24, some (.int .i64 (i : Int))), (8, some (.slice (some ⟨gL8, 0, none⟩) nL8 nL8))]) (fun (i, gL8, nL8) H' => St [g16] H22 H' ∧ H'.get gL8 = some (.row (ints (((d.t.hom m.ap m'.ap).take i).filter (d.coneFit m m'))) 2 true) ∧ (gL8 = g16 ∨ H22.next ≤ gL8) ∧ nL8 = (((d.t.hom m.ap m'.ap).take i).filter (d.coneFit m m')).length ∧ i ≤ (d.t.hom m.ap m'.ap).length) (fun (i, gL8, nL8) => (d.t.hom m.ap m'.ap).length - i) ((0, _, _)) ⟨rfl, rfl, rfl, rfl, rfl, trivial⟩ ⟨rfl, rfl, trivial⟩ ?_ ?_
  ·
   refine ⟨.refl _ _, by first | assumption | exact at16 | simpa using at16, .inl rfl, by first | rfl | assumption | simp | omega, ?_⟩
   omega
  ·
   rintro ⟨i, gL8, nL8⟩ HL1 ⟨lst1, at_L8, pl_L8, ln_L8, hI⟩ KL1 hKL1
   refine .forget (fr' := [(24, some (.int .i64 (i : Int))), (8, some (.slice (some ⟨gL8, 0, none⟩) nL8 nL8)), (4, some _), (5, some _), (7, some _), (22, some _), (23, some _)]) ⟨rfl, rfl, rfl, rfl, rfl, rfl, rfl, trivial⟩ ?_
   have ge_L8 : H.next ≤ gL8 := by omega
   have nx_HL1 := lst1.nx
   replace hle := hle.st lst1 (fun k hk => ⟨by omega, trivial⟩)
   replace at4 := lst1.same _ _ ⟨by omega, trivial⟩ at4
   replace at5 := lst1.same _ _ ⟨by omega, trivial⟩ at5
   replace at22 := lst1.same _ _ ⟨by omega, trivial⟩ at22
   have lt_at_L8 := GHeap.lt_of_get at_L8
   replace h := base_h.mono hle
   replace hin1 := base_hin1.mono hle
   replace hin2 := base_hin2.mono hle
   clear fs ft c10 c11 j1 j2 hm hi hms his hmt hit
   obtain ⟨fs, ft, c10, c11, j1, j2⟩ := h.get
   have hm : MemN _ _ _ _ _ := ⟨rfl, h.1⟩
   have hi := h.2
   have hms : MemN _ _ _ _ _ := ⟨rfl, fs.1⟩
   have his := fs.2
   have hmt : MemN _ _ _ _ _ := ⟨rfl, ft.1⟩
   have hit := ft.2
   clear hb4 c04 c14 i14 hm4 hi4
   have hb4 : Con.At _ g4 0 m q := ⟨Mem.of_get at4, hin1⟩
   obtain ⟨c04, c14, i14⟩ := hb4.get
   have hm4 : MemN _ _ _ _ _ := ⟨rfl, hb4.1⟩
   have hi4 := hb4.2
   clear hb5 c05 c15 i15 hm5 hi5
   have hb5 : Con.At _ g5 0 m' q' := ⟨Mem.of_get at5, hin2⟩
   obtain ⟨c05, c15, i15⟩ := hb5.get
   have hm5 : MemN _ _ _ _ _ := ⟨rfl, hb5.1⟩
   have hi5 := hb5.2
   clear i22
   have i22 := Ints.of_get at22
   have hfl := filtTake_le (xs := d.t.hom m.ap m'.ap) (P := d.coneFit m m') (i := i)
   refine .seq (fun K7 hK7 => ?_)
   refine .region ?_
   refine .m rfl rfl rfl (.cmp rfl rfl rfl) ?_
   refine .nil ?_
   refine hK7 _ _ ?_
   refine .seq (fun K8 hK8 => ?_)
   refine .cond rfl (fun h25 => ?_) (fun h25 => ?_)
   ·
    simp only [sps] at h25
    obtain ⟨f, hf1, hf2, hf3, hf4⟩ := Cat.hom_get (c := d.t) (x := m.ap) (y := m'.ap) (i := i) (by omega)
    refine .skip ?_
    refine hK8 _ _ ?_
    refine .seq (fun K9 hK9 => ?_)
    refine .block ?_
    refine .seq (fun K10 hK10 => ?_)
    refine .region ?_
    refine .m rfl rfl rfl (.idxN sl_22_A (by assumption) rfl rfl (by omega)) ?_
    refine .m rfl rfl rfl (.loadI on_2_A (by assumption) rfl (by omega)) ?_
    refine .m rfl rfl rfl (.assign rfl) ?_
    refine .nil ?_
    refine hK10 _ _ ?_
    refine .seq (fun K11 hK11 => ?_)
    refine .seq (fun K12 hK12 => ?_)
    refine .region ?_
    refine .m rfl rfl rfl (.fieldAddr fo_38_1_U rfl) ?_
    refine .m rfl rfl rfl (.load on_22_B rfl (by assumption)) ?_
    refine .m rfl rfl rfl (.len sl_22_A rfl) ?_
    refine .m rfl rfl rfl (.move rfl) ?_
    refine .nil ?_
    refine hK12 _ _ ?_
    refine .block ?_
    refine .loopR (σ := Nat) [(4, some _), (5, some _), (7, some _), (8, some _), (10, some _), (22, some _), (23, some _), (24, some _), (29, some _), (30, some _)] (fun j => [(31, some (.int .i64 (j : Int)))]) (fun j H' => HL1 = H' ∧ j ≤ m'.lg.length ∧ allN j (fun j => d.t.th ((d.t.hom m.ap m'.ap).getD i 0) (m'.lg.getD j 0) == m.lg.getD j 0) = true) (fun j => m'.lg.length - j) (0) ⟨rfl, rfl, rfl, rfl, rfl, rfl, rfl, rfl, rfl, rfl, trivial⟩ ⟨rfl, trivial⟩ ?_ ?_
    ·
     refine ⟨rfl, ?_⟩
     exact ⟨by omega, rfl⟩
    ·
     rintro j _ ⟨rfl, hI⟩ KL2 hKL2
     refine .forget (fr' := [(31, some (.int .i64 (j : Int))), (4, some _), (5, some _), (7, some _), (8, some _), (10, some _), (22, some _), (23, some _), (24, some _), (29, some _), (30, some _)]) ⟨rfl, rfl, rfl, rfl, rfl, rfl, rfl, rfl, rfl, rfl, rfl, trivial⟩ ?_
     obtain ⟨hj, hb⟩ := hI
     refine .seq (fun K13 hK13 => ?_)
     refine .region ?_
     refine .m rfl rfl rfl (.cmp rfl rfl rfl) ?_
     refine .nil ?_
     refine hK13 _ _ ?_
     refine .seq (fun K14 hK14 => ?_)
     refine .cond rfl (fun h32 => ?_) (fun h32 => ?_)
     ·
      simp only [sps] at h32
      have w1 := hc'.lg j (by omega)
      have w2 := hc.lg j (by omega)
      refine .skip ?_
      refine hK14 _ _ ?_
      refine .seq (fun K15 hK15 => ?_)
      refine .block ?_
      refine .seq (fun K16 hK16 => ?_)
      refine .region ?_
      refine .m rfl rfl rfl (.move rfl) ?_
      refine .m rfl rfl rfl (.idxN sl_22_A (by assumption) rfl rfl (by omega)) ?_
      refine .m rfl rfl rfl (.loadI on_2_A (by assumption) rfl (by omega)) ?_
      refine .m rfl rfl rfl (.assign rfl) ?_
      refine .m rfl rfl rfl (.assign rfl) ?_
      refine .nil ?_
      refine hK16 _ _ ?_
      refine .seq (fun K17 hK17 => ?_)
      refine .regionD mixed_orders_B (.q 0 (.q 1 (.q 2 (.q 4 (.q 5 (.q 6 (.q 7 (.q 8 (.c 3 1 (.q 9 (.done))))))))))) (by kernel_rfl) ?_
      refine .m rfl rfl rfl rfl (.refl _) (.move rfl) ?_
      refine .m rfl rfl rfl rfl (.refl _) (.move rfl) ?_
      refine .m rfl rfl rfl rfl (.refl _) (.move rfl) ?_
      refine .m rfl rfl rfl rfl (.refl _) (.fieldAddr fo_38_1_U rfl) ?_
      refine .m rfl rfl rfl rfl (.refl _) (.load on_22_B rfl (by assumption)) ?_
      refine .m rfl rfl rfl rfl (.refl _) (.move rfl) ?_
      refine .m rfl rfl rfl rfl (.refl _) (.idxN sl_22_A (by assumption) rfl rfl (by omega)) ?_
      refine .m rfl rfl rfl rfl (.refl _) (.loadI on_2_A (by assumption) rfl (by omega)) ?_
      refine .callQ1 rfl rfl rfl rfl rfl @Try.call101 rfl (then_s) (.refl _) ?_
      refine .m rfl rfl rfl rfl (.refl _) (.cmp rfl rfl rfl) ?_
      refine .done ?_
      refine hK17 _ _ ?_
      refine .cond rfl (fun h45 => ?_) (fun h45 => ?_)
      ·
       simp only [sps] at h45
       have hfit : d.coneFit m m' ((d.t.hom m.ap m'.ap).getD i 0) = false := by
         unfold Fun.coneFit
         refine allN_early (k := j + 1) ?_ (by omega)
         rw [allN_succ, hb]
         simpa using h45
       refine .exit ?_
       refine hK9 _ _ ?_
       refine .region ?_
       refine .m rfl rfl rfl (.add rfl rfl rfl (by omega) (by omega)) ?_
       refine .m rfl rfl rfl (.move rfl) ?_
       refine .nil ?_
       refine hKL1 ((i + 1, _, _)) _ _ ?_ ?_ ⟨rfl, rfl, rfl, rfl, rfl, rfl, rfl, trivial⟩
       ·
        refine ⟨lst1, by first | assumption | (rw [filtTake_T (by omega) hfit]; assumption) | (rw [filtTake_F (by omega) hfit]; assumption), by omega, by first | omega | (simp only [List.length_append, List.length_cons, List.length_nil] <;> omega) | (rw [filtTake_T (by omega) hfit] <;> (first | omega | (simp only [List.length_append, List.length_cons, List.length_nil] <;> omega))) | (rw [filtTake_F (by omega) hfit] <;> (first | omega | (simp only [List.length_append, List.length_cons, List.length_nil] <;> omega))), ?_⟩
        omega
       ·
        (dsimp only; omega)
      ·
       simp only [sps] at h45
       refine .skip ?_
       refine hK15 _ _ ?_
       refine .region ?_
       refine .m rfl rfl rfl (.add rfl rfl rfl (by omega) (by omega)) ?_
       refine .m rfl rfl rfl (.move rfl) ?_
       refine .nil ?_
       refine hKL2 (j + 1) _ _ ?_ ?_ ⟨rfl, rfl, rfl, rfl, rfl, rfl, rfl, rfl, rfl, rfl, rfl, trivial⟩
       ·
        refine ⟨rfl, ?_⟩
        exact ⟨by omega, by rw [allN_succ, hb]; simpa using h45⟩
       ·
        omega
     ·
      try simp only [sps] at h32
      refine .exit ?_
      refine hK11 _ _ ?_
      refine .region ?_
      have hfit : d.coneFit m m' ((d.t.hom m.ap m'.ap).getD i 0) = true := by
        unfold Fun.coneFit
        rw [show m.lg.length = j by omega]
        exact hb
      refine .m rfl rfl rfl (.move rfl) ?_
      refine .m rfl rfl rfl (.move rfl) ?_
      refine .r rfl rfl rfl (.litR rfl sl_22_A ze_2_E rfl rfl (by omega) (by omega) rfl rfl) ?_
      rintro _ H49 ⟨g49, rfl, le49, ge49, at49⟩
      have nx_H49 := le49.1
      replace hle := hle.trans le49
      replace lst1 := lst1.le le49
      replace at4 := le49.2 _ _ at4
      replace at5 := le49.2 _ _ at5
      replace at22 := le49.2 _ _ at22
      replace at_L8 := le49.2 _ _ at_L8
      have lt_at49 := GHeap.lt_of_get at49
      replace h := base_h.mono hle
      replace hin1 := base_hin1.mono hle
      replace hin2 := base_hin2.mono hle
      clear fs ft c10 c11 j1 j2 hm hi hms his hmt hit
      obtain ⟨fs, ft, c10, c11, j1, j2⟩ := h.get
      have hm : MemN _ _ _ _ _ := ⟨rfl, h.1⟩
      have hi := h.2
      have hms : MemN _ _ _ _ _ := ⟨rfl, fs.1⟩
      have his := fs.2
      have hmt : MemN _ _ _ _ _ := ⟨rfl, ft.1⟩
      have hit := ft.2
      clear hb4 c04 c14 i14 hm4 hi4
      have hb4 : Con.At _ g4 0 m q := ⟨Mem.of_get at4, hin1⟩
      obtain ⟨c04, c14, i14⟩ := hb4.get
      have hm4 : MemN _ _ _ _ _ := ⟨rfl, hb4.1⟩
      have hi4 := hb4.2
      clear hb5 c05 c15 i15 hm5 hi5
      have hb5 : Con.At _ g5 0 m' q' := ⟨Mem.of_get at5, hin2⟩
      obtain ⟨c05, c15, i15⟩ := hb5.get
      have hm5 : MemN _ _ _ _ _ := ⟨rfl, hb5.1⟩
      have hi5 := hb5.2
      clear i22
      have i22 := Ints.of_get at22
      refine .r rfl rfl rfl (.appendI rfl sl_22_A ze_2_E rfl by_2_E sl_22_A rfl rfl (by assumption) (by assumption) (by first | omega | (simp <;> omega)) (by omega) (by omega)) ?_
      rintro _ H50 ⟨g50, rfl, st50, ge50, at50⟩
      have nx_H50 := st50.nx
      replace hle := hle.st st50 (fun k hk => ⟨by omega, trivial⟩)
      replace lst1 := lst1.st st50 (fun k hk ho => by simp only [out, and_true] at ho ⊢ <;> omega)
      replace at4 := st50.same _ _ ⟨by omega, trivial⟩ at4
      replace at5 := st50.same _ _ ⟨by omega, trivial⟩ at5
      replace at22 := st50.same _ _ ⟨by omega, trivial⟩ at22
      replace at49 := st50.same _ _ ⟨by omega, trivial⟩ at49
      have lt_at50 := GHeap.lt_of_get at50
      replace h := base_h.mono hle
      replace hin1 := base_hin1.mono hle
      replace hin2 := base_hin2.mono hle
      clear fs ft c10 c11 j1 j2 hm hi hms his hmt hit
      obtain ⟨fs, ft, c10, c11, j1, j2⟩ := h.get
      have hm : MemN _ _ _ _ _ := ⟨rfl, h.1⟩
      have hi := h.2
      have hms : MemN _ _ _ _ _ := ⟨rfl, fs.1⟩
      have his := fs.2
      have hmt : MemN _ _ _ _ _ := ⟨rfl, ft.1⟩
      have hit := ft.2
      clear hb4 c04 c14 i14 hm4 hi4
      have hb4 : Con.At _ g4 0 m q := ⟨Mem.of_get at4, hin1⟩
      obtain ⟨c04, c14, i14⟩ := hb4.get
      have hm4 : MemN _ _ _ _ _ := ⟨rfl, hb4.1⟩
      have hi4 := hb4.2
      clear hb5 c05 c15 i15 hm5 hi5
      have hb5 : Con.At _ g5 0 m' q' := ⟨Mem.of_get at5, hin2⟩
      obtain ⟨c05, c15, i15⟩ := hb5.get
      have hm5 : MemN _ _ _ _ _ := ⟨rfl, hb5.1⟩
      have hi5 := hb5.2
      clear i22
      have i22 := Ints.of_get at22
      refine .m rfl rfl rfl (.assign rfl) ?_
      refine .nil ?_
      refine hK9 _ _ ?_
      refine .region ?_
      refine .m rfl rfl rfl (.add rfl rfl rfl (by omega) (by omega)) ?_
      refine .m rfl rfl rfl (.move rfl) ?_
      refine .nil ?_
      refine hKL1 ((i + 1, _, _)) _ _ ?_ ?_ ⟨rfl, rfl, rfl, rfl, rfl, rfl, rfl, trivial⟩
      ·
       refine ⟨lst1, by first | assumption | (rw [filtTake_T (by omega) hfit]; assumption) | (rw [filtTake_F (by omega) hfit]; assumption), by omega, by first | omega | (simp only [List.length_append, List.length_cons, List.length_nil] <;> omega) | (rw [filtTake_T (by omega) hfit] <;> (first | omega | (simp only [List.length_append, List.length_cons, List.length_nil] <;> omega))) | (rw [filtTake_F (by omega) hfit] <;> (first | omega | (simp only [List.length_append, List.length_cons, List.length_nil] <;> omega))), ?_⟩
       omega
      ·
       (dsimp only; omega)
   ·
    try simp only [sps] at h25
    refine .exit ?_
    refine hK5 _ _ ?_
    refine .seq (fun K18 hK18 => ?_)
    refine .region ?_
    refine .m rfl rfl rfl (.move rfl) ?_
    refine .m rfl rfl rfl (.assign rfl) ?_
    refine .nil ?_
    refine hK18 _ _ ?_
    refine .ret ?_
    -- leaf e1
    refine hret _ _ ?_
    refine ⟨_, rfl, ?_⟩
    obtain rfl : i = (d.t.hom m.ap m'.ap).length := by omega
    rw [List.take_length] at at_L8 ln_L8
    exact ⟨hle, _, by rw [ln_L8]; rfl, at_L8, by omega⟩
theorem conesMaps_c {g o : Nat} {d : Fun} {p : FunP} {m m' : Con} {q q' : ConP} {H : GHeap} (h : Fun.At H g o d p := by assumption) (hin1 : m.In H q := by assumption) (hin2 : m'.In H q' := by assumption) (hI : d.Is := by assumption) (hc : d.Cone m := by assumption) (hc' : d.Cone m' := by assumption) :
    GCalls Try.prog 147 [.agg #[.pointer (some ⟨g, o, none⟩)], .agg (m.cells q).toArray, .agg (m'.cells q').toArray] H (NewInts 2 H (d.coneMaps m m')) := by
  refine GCalls.body (N := 12) (rs := [.tmp 6]) Try.func147 rfl rfl rfl rfl (fun Qx hret hend => ?_)
  refine .forget (fr' := [(0, some _), (1, some _), (2, some _)]) ⟨rfl, rfl, rfl, trivial⟩ ?_
  have hle := GHeap.Le.refl H
  have base_h := h
  have base_hin1 := hin1
  have base_hin2 := hin2
  refine .seq (fun K1 hK1 => ?_)
  refine .region ?_
  refine .r rfl rfl rfl (.boxR rfl sz_119_Cm rfl) ?_
  rintro _ H3 ⟨g3, rfl, le3, ge3, at3⟩
  have nx_H3 := le3.1
  replace hle := hle.trans le3
  have lt_at3 := GHeap.lt_of_get at3
  replace h := base_h.mono hle
  replace hin1 := base_hin1.mono hle
  replace hin2 := base_hin2.mono hle
  have mm3 : MemN _ _ _ _ _ := ⟨rfl, Mem.of_get at3⟩
  refine .r rfl rfl rfl (.boxR rfl sz_38_U rfl) ?_
  rintro _ H4 ⟨g4, rfl, le4, ge4, at4⟩
  have nx_H4 := le4.1
  replace hle := hle.trans le4
  replace at3 := le4.2 _ _ at3
  have lt_at4 := GHeap.lt_of_get at4
  replace h := base_h.mono hle
  replace hin1 := base_hin1.mono hle
  replace hin2 := base_hin2.mono hle
  clear mm3
  have mm3 : MemN _ _ _ _ _ := ⟨rfl, Mem.of_get at3⟩
  have hb4 : Con.At _ g4 0 m q := ⟨Mem.of_get at4, hin1⟩
  obtain ⟨c04, c14, i14⟩ := hb4.get
  have hm4 : MemN _ _ _ _ _ := ⟨rfl, hb4.1⟩
  have hi4 := hb4.2
  refine .r rfl rfl rfl (.boxR rfl sz_38_U rfl) ?_
  rintro _ H5 ⟨g5, rfl, le5, ge5, at5⟩
  have nx_H5 := le5.1
  replace hle := hle.trans le5
  replace at3 := le5.2 _ _ at3
  replace at4 := le5.2 _ _ at4
  have lt_at5 := GHeap.lt_of_get at5
  replace h := base_h.mono hle
  replace hin1 := base_hin1.mono hle
  replace hin2 := base_hin2.mono hle
  clear mm3
  have mm3 : MemN _ _ _ _ _ := ⟨rfl, Mem.of_get at3⟩
  clear hb4 c04 c14 i14 hm4 hi4
  have hb4 : Con.At _ g4 0 m q := ⟨Mem.of_get at4, hin1⟩
  obtain ⟨c04, c14, i14⟩ := hb4.get
  have hm4 : MemN _ _ _ _ _ := ⟨rfl, hb4.1⟩
  have hi4 := hb4.2
  have hb5 : Con.At _ g5 0 m' q' := ⟨Mem.of_get at5, hin2⟩
  obtain ⟨c05, c15, i15⟩ := hb5.get
  have hm5 : MemN _ _ _ _ _ := ⟨rfl, hb5.1⟩
  have hi5 := hb5.2
  refine .m rfl rfl rfl (.assign rfl) ?_
  refine .nil ?_
  refine hK1 _ _ ?_
  refine .seq (fun K2 hK2 => ?_)
  refine .region ?_
  have k1 : GHeap.cell H5 g3 (0 + 0) = some (.pointer (some ⟨g, o, none⟩)) := by rw [GHeap.cell_of at3]; rfl
  refine .m rfl rfl rfl (.fieldAddr fo_119_0_Cm rfl) ?_
  refine .m rfl rfl rfl (.load on_87_Cm rfl (by assumption)) ?_
  refine .m rfl rfl rfl (.loadM ag_38_VCon rfl ⟨rfl, Mem.of_get at4⟩) ?_
  refine .m rfl rfl rfl (.loadM ag_38_VCon rfl ⟨rfl, Mem.of_get at5⟩) ?_
  refine .call rfl rfl rfl rfl @Try.call148 rfl (coneMaps_c) ?_
  rintro _ H11 ⟨le11, g11, rfl, at11, ge11⟩
  have nx_H11 := le11.1
  replace hle := hle.trans le11
  replace at3 := le11.2 _ _ at3
  replace at4 := le11.2 _ _ at4
  replace at5 := le11.2 _ _ at5
  have lt_at11 := GHeap.lt_of_get at11
  replace h := base_h.mono hle
  replace hin1 := base_hin1.mono hle
  replace hin2 := base_hin2.mono hle
  clear mm3
  have mm3 : MemN _ _ _ _ _ := ⟨rfl, Mem.of_get at3⟩
  clear hb4 c04 c14 i14 hm4 hi4
  have hb4 : Con.At _ g4 0 m q := ⟨Mem.of_get at4, hin1⟩
  obtain ⟨c04, c14, i14⟩ := hb4.get
  have hm4 : MemN _ _ _ _ _ := ⟨rfl, hb4.1⟩
  have hi4 := hb4.2
  clear hb5 c05 c15 i15 hm5 hi5
  have hb5 : Con.At _ g5 0 m' q' := ⟨Mem.of_get at5, hin2⟩
  obtain ⟨c05, c15, i15⟩ := hb5.get
  have hm5 : MemN _ _ _ _ _ := ⟨rfl, hb5.1⟩
  have hi5 := hb5.2
  have i11 := Ints.of_get at11
  refine .m rfl rfl rfl (.assign rfl) ?_
  refine .nil ?_
  refine hK2 _ _ ?_
  refine .ret ?_
  -- leaf e1
  refine hret _ _ ?_
  refine ⟨_, rfl, ?_⟩
  exact ⟨hle, g11, rfl, at11, by omega⟩
theorem mapsBetween_c {g o : Nat} {d : Fun} {p : FunP} {m m' : Con} {q q' : ConP} {H : GHeap} (h : Fun.At H g o d p := by assumption) (hin1 : m.In H q := by assumption) (hin2 : m'.In H q' := by assumption) (hI : d.Is := by assumption) (hs1 : m.Small := by assumption) (hs2 : m'.Small := by assumption) :
    GCalls Try.prog 48 [.iface 119 (.agg #[.pointer (some ⟨g, o, none⟩)]), .agg (m.cells q).toArray, .agg (m'.cells q').toArray] H (fun v H' => H.Le H' ∧ ∃ a, v = .tuple #[.slice a (d.cmR m m').length (d.cmR m m').length, .int .i64 (d.cmC m m')] ∧ IntsR H.next H' a (d.cmR m m')) := by
  refine GCalls.body (N := 21) (rs := [.tmp 6, .tmp 7]) Try.func48 rfl rfl rfl rfl (fun Qx hret hend => ?_)
  refine .forget (fr' := [(0, some _), (1, some _), (2, some _)]) ⟨rfl, rfl, rfl, trivial⟩ ?_
  have hle := GHeap.Le.refl H
  have base_h := h
  have base_hin1 := hin1
  have base_hin2 := hin2
  refine .seq (fun K1 hK1 => ?_)
  refine .region ?_
  refine .r rfl rfl rfl (.boxR rfl sz_38_U rfl) ?_
  rintro _ H4 ⟨g4, rfl, le4, ge4, at4⟩
  have nx_H4 := le4.1
  replace hle := hle.trans le4
  have lt_at4 := GHeap.lt_of_get at4
  replace h := base_h.mono hle
  replace hin1 := base_hin1.mono hle
  replace hin2 := base_hin2.mono hle
  have hb4 : Con.At _ g4 0 m q := ⟨Mem.of_get at4, hin1⟩
  obtain ⟨c04, c14, i14⟩ := hb4.get
  have hm4 : MemN _ _ _ _ _ := ⟨rfl, hb4.1⟩
  have hi4 := hb4.2
  refine .r rfl rfl rfl (.boxR rfl sz_38_U rfl) ?_
  rintro _ H5 ⟨g5, rfl, le5, ge5, at5⟩
  have nx_H5 := le5.1
  replace hle := hle.trans le5
  replace at4 := le5.2 _ _ at4
  have lt_at5 := GHeap.lt_of_get at5
  replace h := base_h.mono hle
  replace hin1 := base_hin1.mono hle
  replace hin2 := base_hin2.mono hle
  clear hb4 c04 c14 i14 hm4 hi4
  have hb4 : Con.At _ g4 0 m q := ⟨Mem.of_get at4, hin1⟩
  obtain ⟨c04, c14, i14⟩ := hb4.get
  have hm4 : MemN _ _ _ _ _ := ⟨rfl, hb4.1⟩
  have hi4 := hb4.2
  have hb5 : Con.At _ g5 0 m' q' := ⟨Mem.of_get at5, hin2⟩
  obtain ⟨c05, c15, i15⟩ := hb5.get
  have hm5 : MemN _ _ _ _ _ := ⟨rfl, hb5.1⟩
  have hi5 := hb5.2
  refine .m rfl rfl rfl (.assign rfl) ?_
  refine .m rfl rfl rfl (.assign rfl) ?_
  refine .nil ?_
  refine hK1 _ _ ?_
  refine .seq (fun K2 hK2 => ?_)
  refine .seq (fun K3 hK3 => ?_)
  refine .region ?_
  refine .m rfl rfl rfl (.move rfl) ?_
  refine .m rfl rfl rfl (.loadM ag_38_VCon rfl ⟨rfl, Mem.of_get at4⟩) ?_
  refine .m rfl rfl rfl (.loadM ag_38_VCon rfl ⟨rfl, Mem.of_get at5⟩) ?_
  refine .r rfl rfl rfl (.litR rfl sl_148_Cm ze_38_VCon rfl rfl (by omega) (by omega) rfl rfl) ?_
  rintro _ H12 ⟨g12, rfl, le12, ge12, at12⟩
  have nx_H12 := le12.1
  replace hle := hle.trans le12
  replace at4 := le12.2 _ _ at4
  replace at5 := le12.2 _ _ at5
  have lt_at12 := GHeap.lt_of_get at12
  replace h := base_h.mono hle
  replace hin1 := base_hin1.mono hle
  replace hin2 := base_hin2.mono hle
  clear hb4 c04 c14 i14 hm4 hi4
  have hb4 : Con.At _ g4 0 m q := ⟨Mem.of_get at4, hin1⟩
  obtain ⟨c04, c14, i14⟩ := hb4.get
  have hm4 : MemN _ _ _ _ _ := ⟨rfl, hb4.1⟩
  have hi4 := hb4.2
  clear hb5 c05 c15 i15 hm5 hi5
  have hb5 : Con.At _ g5 0 m' q' := ⟨Mem.of_get at5, hin2⟩
  obtain ⟨c05, c15, i15⟩ := hb5.get
  have hm5 : MemN _ _ _ _ _ := ⟨rfl, hb5.1⟩
  have hi5 := hb5.2
  refine .callQ rfl rfl rfl rfl @Try.call75 rfl (coneCode2_c) ?_
  refine .m rfl rfl rfl (.assign rfl) ?_
  refine .nil ?_
  refine hK3 _ _ ?_
  refine .seq (fun K4 hK4 => ?_)
  refine .region ?_
  refine .m rfl rfl rfl (.move rfl) ?_
  refine .m rfl rfl rfl (.cmp rfl rfl rfl) ?_
  refine .nil ?_
  refine hK4 _ _ ?_
  refine .cond rfl (fun h15 => ?_) (fun h15 => ?_)
  ·
   have hcc : ¬ (d.Cone m ∧ d.Cone m') := fun hh => by rw [B_true hh] at h15; simp at h15
   refine .seq (fun K5 hK5 => ?_)
   refine .region ?_
   refine .m rfl rfl rfl (.move rfl) ?_
   refine .m rfl rfl rfl (.assign rfl) ?_
   refine .m rfl rfl rfl (.assign rfl) ?_
   refine .nil ?_
   refine hK5 _ _ ?_
   refine .ret ?_
   -- leaf e1
   refine hret _ _ ?_
   refine ⟨_, _, rfl, rfl, ?_⟩
   obtain ⟨e1, e2⟩ := Fun.cm_2 hI hcc
   rw [e1, e2, B_false hcc]
   exact ⟨hle, none, rfl, .inl ⟨rfl, rfl⟩⟩
  ·
   have hcc : d.Cone m ∧ d.Cone m' := Classical.byContradiction fun hh => by rw [B_false hh] at h15; simp at h15
   obtain ⟨hc, hc'⟩ := id hcc
   refine .skip ?_
   refine hK2 _ _ ?_
   refine .seq (fun K6 hK6 => ?_)
   refine .region ?_
   refine .m rfl rfl rfl (.move rfl) ?_
   refine .m rfl rfl rfl (.loadM ag_38_VCon rfl ⟨rfl, Mem.of_get at4⟩) ?_
   refine .m rfl rfl rfl (.loadM ag_38_VCon rfl ⟨rfl, Mem.of_get at5⟩) ?_
   refine .callM rfl rfl rfl rfl rfl (by kernel_rfl) @Try.call147 rfl (conesMaps_c) ?_
   rintro _ H20 ⟨le20, g20, rfl, at20, ge20⟩
   have nx_H20 := le20.1
   replace hle := hle.trans le20
   replace at4 := le20.2 _ _ at4
   replace at5 := le20.2 _ _ at5
   replace at12 := le20.2 _ _ at12
   have lt_at20 := GHeap.lt_of_get at20
   replace h := base_h.mono hle
   replace hin1 := base_hin1.mono hle
   replace hin2 := base_hin2.mono hle
   clear hb4 c04 c14 i14 hm4 hi4
   have hb4 : Con.At _ g4 0 m q := ⟨Mem.of_get at4, hin1⟩
   obtain ⟨c04, c14, i14⟩ := hb4.get
   have hm4 : MemN _ _ _ _ _ := ⟨rfl, hb4.1⟩
   have hi4 := hb4.2
   clear hb5 c05 c15 i15 hm5 hi5
   have hb5 : Con.At _ g5 0 m' q' := ⟨Mem.of_get at5, hin2⟩
   obtain ⟨c05, c15, i15⟩ := hb5.get
   have hm5 : MemN _ _ _ _ _ := ⟨rfl, hb5.1⟩
   have hi5 := hb5.2
   have i20 := Ints.of_get at20
   refine .m rfl rfl rfl (.assign rfl) ?_
   refine .m rfl rfl rfl (.assign rfl) ?_
   refine .nil ?_
   refine hK6 _ _ ?_
   refine .ret ?_
   -- leaf e2
   refine hret _ _ ?_
   refine ⟨_, _, rfl, rfl, ?_⟩
   obtain ⟨e1, e2⟩ := Fun.cm_3 hI hcc
   rw [e1, e2]
   exact ⟨hle, _, rfl, IntsR.of_at at20 (by omega)⟩
theorem implConeMaps_c {d : Fun} {p : FunP} {m m' : Con} {q q' : ConP} {H : GHeap} (hin : d.In H p := by assumption) (hin1 : m.In H q := by assumption) (hin2 : m'.In H q' := by assumption) (hs : d.Small := by assumption) (hs1 : m.Small := by assumption) (hs2 : m'.Small := by assumption) :
    GCalls Try.prog 12 [.agg (d.cells p).toArray, .agg (m.cells q).toArray, .agg (m'.cells q').toArray] H (fun v H' => H.Le H' ∧ ∃ a, v = .tuple #[.slice a (d.cmR m m').length (d.cmR m m').length, .int .i64 (d.cmC m m')] ∧ IntsR H.next H' a (d.cmR m m')) := by
  refine GCalls.body (N := 16) (rs := [.tmp 6, .tmp 7]) Try.func12 rfl rfl rfl rfl (fun Qx hret hend => ?_)
  refine .forget (fr' := [(0, some _), (1, some _), (2, some _)]) ⟨rfl, rfl, rfl, trivial⟩ ?_
  have hle := GHeap.Le.refl H
  have base_hin := hin
  have base_hin1 := hin1
  have base_hin2 := hin2
  refine .seq (fun K1 hK1 => ?_)
  refine .region ?_
  refine .r rfl rfl rfl (.boxR rfl sz_36_E rfl) ?_
  rintro _ H3 ⟨g3, rfl, le3, ge3, at3⟩
  have nx_H3 := le3.1
  replace hle := hle.trans le3
  have lt_at3 := GHeap.lt_of_get at3
  replace hin := base_hin.mono hle
  replace hin1 := base_hin1.mono hle
  replace hin2 := base_hin2.mono hle
  have hb3 : Fun.At _ g3 0 d p := ⟨Mem.of_get at3, hin⟩
  obtain ⟨fs3, ft3, c103, c113, j13, j23⟩ := hb3.get
  have hm3 : MemN _ _ _ _ _ := ⟨rfl, hb3.1⟩
  have hi3 := hb3.2
  have hms3 : MemN _ _ _ _ _ := ⟨rfl, fs3.1⟩
  have his3 := fs3.2
  have hmt3 : MemN _ _ _ _ _ := ⟨rfl, ft3.1⟩
  have hit3 := ft3.2
  refine .r rfl rfl rfl (.boxR rfl sz_38_U rfl) ?_
  rintro _ H4 ⟨g4, rfl, le4, ge4, at4⟩
  have nx_H4 := le4.1
  replace hle := hle.trans le4
  replace at3 := le4.2 _ _ at3
  have lt_at4 := GHeap.lt_of_get at4
  replace hin := base_hin.mono hle
  replace hin1 := base_hin1.mono hle
  replace hin2 := base_hin2.mono hle
  clear hb3 fs3 ft3 c103 c113 j13 j23 hm3 hi3 hms3 his3 hmt3 hit3
  have hb3 : Fun.At _ g3 0 d p := ⟨Mem.of_get at3, hin⟩
  obtain ⟨fs3, ft3, c103, c113, j13, j23⟩ := hb3.get
  have hm3 : MemN _ _ _ _ _ := ⟨rfl, hb3.1⟩
  have hi3 := hb3.2
  have hms3 : MemN _ _ _ _ _ := ⟨rfl, fs3.1⟩
  have his3 := fs3.2
  have hmt3 : MemN _ _ _ _ _ := ⟨rfl, ft3.1⟩
  have hit3 := ft3.2
  have hb4 : Con.At _ g4 0 m q := ⟨Mem.of_get at4, hin1⟩
  obtain ⟨c04, c14, i14⟩ := hb4.get
  have hm4 : MemN _ _ _ _ _ := ⟨rfl, hb4.1⟩
  have hi4 := hb4.2
  refine .r rfl rfl rfl (.boxR rfl sz_38_U rfl) ?_
  rintro _ H5 ⟨g5, rfl, le5, ge5, at5⟩
  have nx_H5 := le5.1
  replace hle := hle.trans le5
  replace at3 := le5.2 _ _ at3
  replace at4 := le5.2 _ _ at4
  have lt_at5 := GHeap.lt_of_get at5
  replace hin := base_hin.mono hle
  replace hin1 := base_hin1.mono hle
  replace hin2 := base_hin2.mono hle
  clear hb3 fs3 ft3 c103 c113 j13 j23 hm3 hi3 hms3 his3 hmt3 hit3
  have hb3 : Fun.At _ g3 0 d p := ⟨Mem.of_get at3, hin⟩
  obtain ⟨fs3, ft3, c103, c113, j13, j23⟩ := hb3.get
  have hm3 : MemN _ _ _ _ _ := ⟨rfl, hb3.1⟩
  have hi3 := hb3.2
  have hms3 : MemN _ _ _ _ _ := ⟨rfl, fs3.1⟩
  have his3 := fs3.2
  have hmt3 : MemN _ _ _ _ _ := ⟨rfl, ft3.1⟩
  have hit3 := ft3.2
  clear hb4 c04 c14 i14 hm4 hi4
  have hb4 : Con.At _ g4 0 m q := ⟨Mem.of_get at4, hin1⟩
  obtain ⟨c04, c14, i14⟩ := hb4.get
  have hm4 : MemN _ _ _ _ _ := ⟨rfl, hb4.1⟩
  have hi4 := hb4.2
  have hb5 : Con.At _ g5 0 m' q' := ⟨Mem.of_get at5, hin2⟩
  obtain ⟨c05, c15, i15⟩ := hb5.get
  have hm5 : MemN _ _ _ _ _ := ⟨rfl, hb5.1⟩
  have hi5 := hb5.2
  refine .m rfl rfl rfl (.assign rfl) ?_
  refine .m rfl rfl rfl (.assign rfl) ?_
  refine .nil ?_
  refine hK1 _ _ ?_
  refine .seq (fun K2 hK2 => ?_)
  refine .seq (fun K3 hK3 => ?_)
  refine .region ?_
  refine .callQ rfl rfl rfl rfl @Try.call47 rfl (isFunctor_c) ?_
  refine .m rfl rfl rfl (.not rfl) ?_
  refine .nil ?_
  refine hK3 _ _ ?_
  refine .cond rfl (fun h9 => ?_) (fun h9 => ?_)
  ·
   simp only [sps] at h9
   refine .seq (fun K4 hK4 => ?_)
   refine .region ?_
   refine .m rfl rfl rfl (.assign rfl) ?_
   refine .m rfl rfl rfl (.assign rfl) ?_
   refine .nil ?_
   refine hK4 _ _ ?_
   refine .ret ?_
   -- leaf e1
   refine hret _ _ ?_
   refine ⟨_, _, rfl, rfl, ?_⟩
   obtain ⟨e1, e2⟩ := Fun.cm_1 (p := m) (q := m') h9
   rw [e1, e2]
   exact ⟨hle, none, rfl, .inl ⟨rfl, rfl⟩⟩
  ·
   simp only [sps] at h9
   refine .skip ?_
   refine hK2 _ _ ?_
   refine .seq (fun K5 hK5 => ?_)
   refine .regionD mixed_orders_B (.q 1 (.q 2 (.c 0 1 (.c 3 0 (.q 4 (.q 5 (.q 6 (.q 7 (.done))))))))) (by kernel_rfl) ?_
   refine .m rfl rfl rfl rfl (.refl _) (.loadM ag_38_VCon rfl ⟨rfl, Mem.of_get at4⟩) ?_
   refine .m rfl rfl rfl rfl (.refl _) (.loadM ag_38_VCon rfl ⟨rfl, Mem.of_get at5⟩) ?_
   refine .callQ1 rfl rfl rfl rfl rfl @Try.call49 rfl (conesOf_c) (.refl _) ?_
   refine .call0 rfl rfl rfl rfl rfl @Try.call48 rfl (mapsBetween_c) ?_
   rintro _ H13 ⟨le13, a13, rfl, v13⟩
   have nx_H13 := le13.1
   replace hle := hle.trans le13
   replace at3 := le13.2 _ _ at3
   replace at4 := le13.2 _ _ at4
   replace at5 := le13.2 _ _ at5
   have bs_v13 := v13
   have lv_v13 : Keep H5.next H13 H13 := fun _ _ _ h => h
   replace hin := base_hin.mono hle
   replace hin1 := base_hin1.mono hle
   replace hin2 := base_hin2.mono hle
   clear hb3 fs3 ft3 c103 c113 j13 j23 hm3 hi3 hms3 his3 hmt3 hit3
   have hb3 : Fun.At _ g3 0 d p := ⟨Mem.of_get at3, hin⟩
   obtain ⟨fs3, ft3, c103, c113, j13, j23⟩ := hb3.get
   have hm3 : MemN _ _ _ _ _ := ⟨rfl, hb3.1⟩
   have hi3 := hb3.2
   have hms3 : MemN _ _ _ _ _ := ⟨rfl, fs3.1⟩
   have his3 := fs3.2
   have hmt3 : MemN _ _ _ _ _ := ⟨rfl, ft3.1⟩
   have hit3 := ft3.2
   clear hb4 c04 c14 i14 hm4 hi4
   have hb4 : Con.At _ g4 0 m q := ⟨Mem.of_get at4, hin1⟩
   obtain ⟨c04, c14, i14⟩ := hb4.get
   have hm4 : MemN _ _ _ _ _ := ⟨rfl, hb4.1⟩
   have hi4 := hb4.2
   clear hb5 c05 c15 i15 hm5 hi5
   have hb5 : Con.At _ g5 0 m' q' := ⟨Mem.of_get at5, hin2⟩
   obtain ⟨c05, c15, i15⟩ := hb5.get
   have hm5 : MemN _ _ _ _ _ := ⟨rfl, hb5.1⟩
   have hi5 := hb5.2
   have i13 := v13.ints
   refine .m rfl rfl rfl rfl (.refl _) (.extract rfl rfl) ?_
   refine .m rfl rfl rfl rfl (.refl _) (.extract rfl rfl) ?_
   refine .m rfl rfl rfl rfl (.refl _) (.assign rfl) ?_
   refine .m rfl rfl rfl rfl (.refl _) (.assign rfl) ?_
   refine .done ?_
   refine hK5 _ _ ?_
   refine .ret ?_
   -- leaf e2
   refine hret _ _ ?_
   refine ⟨_, _, rfl, rfl, ?_⟩
   exact ⟨hle, a13, rfl, v13.keep (.of_le (.refl _)) (by omega)⟩
end Go.Proofs.Ytbdaddkbkdiglaa
/- The law of ConeMaps. No condition but those of each statement. -/
namespace Go.Proofs.Ytbdaddkbkdiglaa
open Go Go.GL Go.RowKit Go.Proofs
theorem ag_27_LConeMaps : aggT Try.prog 27 = some 12 := by kernel_rfl
theorem ag_29_LConeMaps : aggT Try.prog 29 = some 2 := by kernel_rfl
set_option maxHeartbeats 40000000 in
theorem lawConeMaps_c {d : Fun} {p : FunP} {m : Con} {q : ConP} {m' : Con} {q' : ConP} {H : GHeap} (h0 : d.In H p) (w0 : d.Wide) (h1 : m.In H q) (w1 : m.Wide) (h2 : m'.In H q') (w2 : m'.Wide) :
    GCalls Try.prog 3 [.agg (d.cells p).toArray, .agg (m.cells q).toArray, .agg (m'.cells q').toArray] H (fun v _ => v = .bool true) := by
  refine GCalls.body (N := 142) (rs := [.tmp 6]) Try.func3 rfl rfl rfl rfl (fun Qx hret hend => ?_)
  refine .forget (fr' := [(0, some _), (1, some _), (2, some _)]) ⟨rfl, rfl, rfl, trivial⟩ ?_
  have hle := GHeap.Le.refl H
  have base_h0 := h0
  have base_h1 := h1
  have base_h2 := h2
  refine .seq (fun K1 hK1 => ?_)
  refine .region ?_
  refine .r rfl rfl rfl (.boxR rfl sz_27_E rfl) ?_
  rintro _ H3 ⟨g3, rfl, le3, ge3, at3⟩
  have nx_H3 := le3.1
  replace hle := hle.trans le3
  have lt_at3 := GHeap.lt_of_get at3
  replace h0 := base_h0.mono hle
  replace h1 := base_h1.mono hle
  replace h2 := base_h2.mono hle
  have hb3 : Fun.At _ g3 0 d p := ⟨Mem.of_get at3, h0⟩
  obtain ⟨fs3, ft3, c103, c113, j13, j23⟩ := hb3.get
  have hm3 : MemN _ _ _ _ _ := ⟨rfl, hb3.1⟩
  have hi3 := hb3.2
  have hms3 : MemN _ _ _ _ _ := ⟨rfl, fs3.1⟩
  have his3 := fs3.2
  have hmt3 : MemN _ _ _ _ _ := ⟨rfl, ft3.1⟩
  have hit3 := ft3.2
  refine .r rfl rfl rfl (.boxR rfl sz_29_VCon rfl) ?_
  rintro _ H4 ⟨g4, rfl, le4, ge4, at4⟩
  have nx_H4 := le4.1
  replace hle := hle.trans le4
  replace at3 := le4.2 _ _ at3
  have lt_at4 := GHeap.lt_of_get at4
  replace h0 := base_h0.mono hle
  replace h1 := base_h1.mono hle
  replace h2 := base_h2.mono hle
  clear hb3 fs3 ft3 c103 c113 j13 j23 hm3 hi3 hms3 his3 hmt3 hit3
  have hb3 : Fun.At _ g3 0 d p := ⟨Mem.of_get at3, h0⟩
  obtain ⟨fs3, ft3, c103, c113, j13, j23⟩ := hb3.get
  have hm3 : MemN _ _ _ _ _ := ⟨rfl, hb3.1⟩
  have hi3 := hb3.2
  have hms3 : MemN _ _ _ _ _ := ⟨rfl, fs3.1⟩
  have his3 := fs3.2
  have hmt3 : MemN _ _ _ _ _ := ⟨rfl, ft3.1⟩
  have hit3 := ft3.2
  have hb4 : Con.At _ g4 0 m q := ⟨Mem.of_get at4, h1⟩
  obtain ⟨c04, c14, i14⟩ := hb4.get
  have hm4 : MemN _ _ _ _ _ := ⟨rfl, hb4.1⟩
  have hi4 := hb4.2
  refine .r rfl rfl rfl (.boxR rfl sz_29_VCon rfl) ?_
  rintro _ H5 ⟨g5, rfl, le5, ge5, at5⟩
  have nx_H5 := le5.1
  replace hle := hle.trans le5
  replace at3 := le5.2 _ _ at3
  replace at4 := le5.2 _ _ at4
  have lt_at5 := GHeap.lt_of_get at5
  replace h0 := base_h0.mono hle
  replace h1 := base_h1.mono hle
  replace h2 := base_h2.mono hle
  clear hb3 fs3 ft3 c103 c113 j13 j23 hm3 hi3 hms3 his3 hmt3 hit3
  have hb3 : Fun.At _ g3 0 d p := ⟨Mem.of_get at3, h0⟩
  obtain ⟨fs3, ft3, c103, c113, j13, j23⟩ := hb3.get
  have hm3 : MemN _ _ _ _ _ := ⟨rfl, hb3.1⟩
  have hi3 := hb3.2
  have hms3 : MemN _ _ _ _ _ := ⟨rfl, fs3.1⟩
  have his3 := fs3.2
  have hmt3 : MemN _ _ _ _ _ := ⟨rfl, ft3.1⟩
  have hit3 := ft3.2
  clear hb4 c04 c14 i14 hm4 hi4
  have hb4 : Con.At _ g4 0 m q := ⟨Mem.of_get at4, h1⟩
  obtain ⟨c04, c14, i14⟩ := hb4.get
  have hm4 : MemN _ _ _ _ _ := ⟨rfl, hb4.1⟩
  have hi4 := hb4.2
  have hb5 : Con.At _ g5 0 m' q' := ⟨Mem.of_get at5, h2⟩
  obtain ⟨c05, c15, i15⟩ := hb5.get
  have hm5 : MemN _ _ _ _ _ := ⟨rfl, hb5.1⟩
  have hi5 := hb5.2
  refine .m rfl rfl rfl (.assign rfl) ?_
  refine .nil ?_
  refine hK1 _ _ ?_
  refine .seq (fun K2 hK2 => ?_)
  refine .region ?_
  refine .m rfl rfl rfl (.assign rfl) ?_
  refine .nil ?_
  refine hK2 _ _ ?_
  refine .seq (fun K3 hK3 => ?_)
  refine .region ?_
  refine .m rfl rfl rfl (.loadM ag_27_LConeMaps rfl ⟨rfl, Mem.of_get at3⟩) ?_
  refine .m rfl rfl rfl (.move rfl) ?_
  refine .call rfl rfl rfl rfl @Try.call7 rfl (szFunctor_c) ?_
  rintro _ _ ⟨heq, lf22, rfl, z122, z222, z322⟩
  obtain rfl := heq.symm
  refine .m rfl rfl rfl (.assign rfl) ?_
  refine .nil ?_
  refine hK3 _ _ ?_
  refine .seq (fun K4 hK4 => ?_)
  refine .seq (fun K5 hK5 => ?_)
  refine .region ?_
  refine .m rfl rfl rfl (.move rfl) ?_
  refine .m rfl rfl rfl (.cmp rfl rfl rfl) ?_
  refine .nil ?_
  refine hK5 _ _ ?_
  refine .cond rfl (fun h24 => ?_) (fun h24 => ?_)
  ·
   try simp only [sps] at h24
   refine .seq (fun K6 hK6 => ?_)
   refine .region ?_
   refine .m rfl rfl rfl (.assign rfl) ?_
   refine .nil ?_
   refine hK6 _ _ ?_
   refine .ret ?_
   -- leaf e1
   refine hret _ _ ?_
   refine ⟨_, rfl, ?_⟩
   first
   | exact rfl
   | exact absurd trivial (by assumption)
   | contradiction
   | (exfalso; omega)
  ·
   try simp only [sps] at h24
   have hsm22 := z322 (by omega)
   have tb22 := hsm22.tot
   refine .skip ?_
   refine hK4 _ _ ?_
   refine .seq (fun K7 hK7 => ?_)
   refine .region ?_
   refine .m rfl rfl rfl (.loadM ag_29_LConeMaps rfl ⟨rfl, Mem.of_get at4⟩) ?_
   refine .m rfl rfl rfl (.move rfl) ?_
   refine .call rfl rfl rfl rfl @Try.call8 rfl (szCone_c) ?_
   rintro _ _ ⟨heq, lf27, rfl, z127, z227, z327⟩
   obtain rfl := heq.symm
   refine .m rfl rfl rfl (.assign rfl) ?_
   refine .nil ?_
   refine hK7 _ _ ?_
   refine .seq (fun K8 hK8 => ?_)
   refine .seq (fun K9 hK9 => ?_)
   refine .region ?_
   refine .m rfl rfl rfl (.move rfl) ?_
   refine .m rfl rfl rfl (.cmp rfl rfl rfl) ?_
   refine .nil ?_
   refine hK9 _ _ ?_
   refine .cond rfl (fun h29 => ?_) (fun h29 => ?_)
   ·
    try simp only [sps] at h29
    refine .seq (fun K10 hK10 => ?_)
    refine .region ?_
    refine .m rfl rfl rfl (.assign rfl) ?_
    refine .nil ?_
    refine hK10 _ _ ?_
    refine .ret ?_
    -- leaf e2
    refine hret _ _ ?_
    refine ⟨_, rfl, ?_⟩
    first
    | exact rfl
    | exact absurd trivial (by assumption)
    | contradiction
    | (exfalso; omega)
   ·
    try simp only [sps] at h29
    have hsm27 := z327 (by omega)
    have tb27 := hsm27.tot
    refine .skip ?_
    refine hK8 _ _ ?_
    refine .seq (fun K11 hK11 => ?_)
    refine .region ?_
    refine .m rfl rfl rfl (.loadM ag_29_LConeMaps rfl ⟨rfl, Mem.of_get at5⟩) ?_
    refine .m rfl rfl rfl (.move rfl) ?_
    refine .call rfl rfl rfl rfl @Try.call8 rfl (szCone_c) ?_
    rintro _ _ ⟨heq, lf32, rfl, z132, z232, z332⟩
    obtain rfl := heq.symm
    refine .m rfl rfl rfl (.assign rfl) ?_
    refine .nil ?_
    refine hK11 _ _ ?_
    refine .seq (fun K12 hK12 => ?_)
    refine .seq (fun K13 hK13 => ?_)
    refine .region ?_
    refine .m rfl rfl rfl (.move rfl) ?_
    refine .m rfl rfl rfl (.cmp rfl rfl rfl) ?_
    refine .nil ?_
    refine hK13 _ _ ?_
    refine .cond rfl (fun h34 => ?_) (fun h34 => ?_)
    ·
     try simp only [sps] at h34
     refine .seq (fun K14 hK14 => ?_)
     refine .region ?_
     refine .m rfl rfl rfl (.assign rfl) ?_
     refine .nil ?_
     refine hK14 _ _ ?_
     refine .ret ?_
     -- leaf e3
     refine hret _ _ ?_
     refine ⟨_, rfl, ?_⟩
     first
     | exact rfl
     | exact absurd trivial (by assumption)
     | contradiction
     | (exfalso; omega)
    ·
     simp only [sps] at h34
     have hcl := d.cmR_len m m'
     have hsm32 := z332 (by omega)
     have tb32 := hsm32.tot
     refine .skip ?_
     refine hK12 _ _ ?_
     refine .seq (fun K15 hK15 => ?_)
     refine .regionD mixed_orders_B (.q 0 (.q 2 (.q 4 (.c 1 1 (.c 3 1 (.c 5 0 (.c 6 0 (.q 7 (.q 8 (.q 9 (.q 10 (.q 11 (.done))))))))))))) (by kernel_rfl) ?_
     refine .m rfl rfl rfl rfl (.refl _) (.loadM ag_27_LConeMaps rfl ⟨rfl, Mem.of_get at3⟩) ?_
     refine .m rfl rfl rfl rfl (.refl _) (.loadM ag_29_LConeMaps rfl ⟨rfl, Mem.of_get at4⟩) ?_
     refine .m rfl rfl rfl rfl (.refl _) (.loadM ag_29_LConeMaps rfl ⟨rfl, Mem.of_get at5⟩) ?_
     refine .call1 rfl rfl rfl rfl rfl @Try.call10 rfl (toFunctor_c) ?_
     rintro _ H37 ⟨le37, p37, rfl, v37⟩
     have hbl := le37
     refine ⟨hbl, ?_⟩
     have nx_H37 := le37.1
     replace hle := hle.trans le37
     replace at3 := le37.2 _ _ at3
     replace at4 := le37.2 _ _ at4
     replace at5 := le37.2 _ _ at5
     have bs_v37 := v37
     have lv_v37 : Keep H5.next H37 H37 := fun _ _ _ h => h
     replace h0 := base_h0.mono hle
     replace h1 := base_h1.mono hle
     replace h2 := base_h2.mono hle
     clear hb3 fs3 ft3 c103 c113 j13 j23 hm3 hi3 hms3 his3 hmt3 hit3
     have hb3 : Fun.At _ g3 0 d p := ⟨Mem.of_get at3, h0⟩
     obtain ⟨fs3, ft3, c103, c113, j13, j23⟩ := hb3.get
     have hm3 : MemN _ _ _ _ _ := ⟨rfl, hb3.1⟩
     have hi3 := hb3.2
     have hms3 : MemN _ _ _ _ _ := ⟨rfl, fs3.1⟩
     have his3 := fs3.2
     have hmt3 : MemN _ _ _ _ _ := ⟨rfl, ft3.1⟩
     have hit3 := ft3.2
     clear hb4 c04 c14 i14 hm4 hi4
     have hb4 : Con.At _ g4 0 m q := ⟨Mem.of_get at4, h1⟩
     obtain ⟨c04, c14, i14⟩ := hb4.get
     have hm4 : MemN _ _ _ _ _ := ⟨rfl, hb4.1⟩
     have hi4 := hb4.2
     clear hb5 c05 c15 i15 hm5 hi5
     have hb5 : Con.At _ g5 0 m' q' := ⟨Mem.of_get at5, h2⟩
     obtain ⟨c05, c15, i15⟩ := hb5.get
     have hm5 : MemN _ _ _ _ _ := ⟨rfl, hb5.1⟩
     have hi5 := hb5.2
     have i37 := v37.inn
     refine .call1 rfl rfl rfl rfl rfl @Try.call11 rfl (toCone_c) ?_
     rintro _ H39 ⟨le39, p39, rfl, v39⟩
     replace hbl := hbl.trans le39
     refine ⟨hbl, ?_⟩
     have nx_H39 := le39.1
     replace hle := hle.trans le39
     replace at3 := le39.2 _ _ at3
     replace at4 := le39.2 _ _ at4
     replace at5 := le39.2 _ _ at5
     replace lv_v37 := Keep.le lv_v37 le39
     replace v37 := bs_v37.keep lv_v37 (Nat.le_refl _)
     have bs_v39 := v39
     have lv_v39 : Keep H37.next H39 H39 := fun _ _ _ h => h
     replace h0 := base_h0.mono hle
     replace h1 := base_h1.mono hle
     replace h2 := base_h2.mono hle
     clear hb3 fs3 ft3 c103 c113 j13 j23 hm3 hi3 hms3 his3 hmt3 hit3
     have hb3 : Fun.At _ g3 0 d p := ⟨Mem.of_get at3, h0⟩
     obtain ⟨fs3, ft3, c103, c113, j13, j23⟩ := hb3.get
     have hm3 : MemN _ _ _ _ _ := ⟨rfl, hb3.1⟩
     have hi3 := hb3.2
     have hms3 : MemN _ _ _ _ _ := ⟨rfl, fs3.1⟩
     have his3 := fs3.2
     have hmt3 : MemN _ _ _ _ _ := ⟨rfl, ft3.1⟩
     have hit3 := ft3.2
     clear hb4 c04 c14 i14 hm4 hi4
     have hb4 : Con.At _ g4 0 m q := ⟨Mem.of_get at4, h1⟩
     obtain ⟨c04, c14, i14⟩ := hb4.get
     have hm4 : MemN _ _ _ _ _ := ⟨rfl, hb4.1⟩
     have hi4 := hb4.2
     clear hb5 c05 c15 i15 hm5 hi5
     have hb5 : Con.At _ g5 0 m' q' := ⟨Mem.of_get at5, h2⟩
     obtain ⟨c05, c15, i15⟩ := hb5.get
     have hm5 : MemN _ _ _ _ _ := ⟨rfl, hb5.1⟩
     have hi5 := hb5.2
     clear i37
     have i37 := v37.inn
     have i39 := v39.inn
     refine .call0 rfl rfl rfl rfl rfl @Try.call11 rfl (toCone_c) ?_
     rintro _ H41 ⟨le41, p41, rfl, v41⟩
     have nx_H41 := le41.1
     replace hle := hle.trans le41
     replace at3 := le41.2 _ _ at3
     replace at4 := le41.2 _ _ at4
     replace at5 := le41.2 _ _ at5
     replace lv_v37 := Keep.le lv_v37 le41
     replace v37 := bs_v37.keep lv_v37 (Nat.le_refl _)
     replace lv_v39 := Keep.le lv_v39 le41
     replace v39 := bs_v39.keep lv_v39 (Nat.le_refl _)
     have bs_v41 := v41
     have lv_v41 : Keep H39.next H41 H41 := fun _ _ _ h => h
     replace h0 := base_h0.mono hle
     replace h1 := base_h1.mono hle
     replace h2 := base_h2.mono hle
     clear hb3 fs3 ft3 c103 c113 j13 j23 hm3 hi3 hms3 his3 hmt3 hit3
     have hb3 : Fun.At _ g3 0 d p := ⟨Mem.of_get at3, h0⟩
     obtain ⟨fs3, ft3, c103, c113, j13, j23⟩ := hb3.get
     have hm3 : MemN _ _ _ _ _ := ⟨rfl, hb3.1⟩
     have hi3 := hb3.2
     have hms3 : MemN _ _ _ _ _ := ⟨rfl, fs3.1⟩
     have his3 := fs3.2
     have hmt3 : MemN _ _ _ _ _ := ⟨rfl, ft3.1⟩
     have hit3 := ft3.2
     clear hb4 c04 c14 i14 hm4 hi4
     have hb4 : Con.At _ g4 0 m q := ⟨Mem.of_get at4, h1⟩
     obtain ⟨c04, c14, i14⟩ := hb4.get
     have hm4 : MemN _ _ _ _ _ := ⟨rfl, hb4.1⟩
     have hi4 := hb4.2
     clear hb5 c05 c15 i15 hm5 hi5
     have hb5 : Con.At _ g5 0 m' q' := ⟨Mem.of_get at5, h2⟩
     obtain ⟨c05, c15, i15⟩ := hb5.get
     have hm5 : MemN _ _ _ _ _ := ⟨rfl, hb5.1⟩
     have hi5 := hb5.2
     clear i37
     have i37 := v37.inn
     clear i39
     have i39 := v39.inn
     have i41 := v41.inn
     refine .call0 rfl rfl rfl rfl rfl @Try.call9 rfl (specConeMaps_c) ?_
     rintro _ H42 ⟨le42, a42, rfl, v42⟩
     have nx_H42 := le42.1
     replace hle := hle.trans le42
     replace at3 := le42.2 _ _ at3
     replace at4 := le42.2 _ _ at4
     replace at5 := le42.2 _ _ at5
     replace lv_v37 := Keep.le lv_v37 le42
     replace v37 := bs_v37.keep lv_v37 (Nat.le_refl _)
     replace lv_v39 := Keep.le lv_v39 le42
     replace v39 := bs_v39.keep lv_v39 (Nat.le_refl _)
     replace lv_v41 := Keep.le lv_v41 le42
     replace v41 := bs_v41.keep lv_v41 (Nat.le_refl _)
     have bs_v42 := v42
     have lv_v42 : Keep H41.next H42 H42 := fun _ _ _ h => h
     replace h0 := base_h0.mono hle
     replace h1 := base_h1.mono hle
     replace h2 := base_h2.mono hle
     clear hb3 fs3 ft3 c103 c113 j13 j23 hm3 hi3 hms3 his3 hmt3 hit3
     have hb3 : Fun.At _ g3 0 d p := ⟨Mem.of_get at3, h0⟩
     obtain ⟨fs3, ft3, c103, c113, j13, j23⟩ := hb3.get
     have hm3 : MemN _ _ _ _ _ := ⟨rfl, hb3.1⟩
     have hi3 := hb3.2
     have hms3 : MemN _ _ _ _ _ := ⟨rfl, fs3.1⟩
     have his3 := fs3.2
     have hmt3 : MemN _ _ _ _ _ := ⟨rfl, ft3.1⟩
     have hit3 := ft3.2
     clear hb4 c04 c14 i14 hm4 hi4
     have hb4 : Con.At _ g4 0 m q := ⟨Mem.of_get at4, h1⟩
     obtain ⟨c04, c14, i14⟩ := hb4.get
     have hm4 : MemN _ _ _ _ _ := ⟨rfl, hb4.1⟩
     have hi4 := hb4.2
     clear hb5 c05 c15 i15 hm5 hi5
     have hb5 : Con.At _ g5 0 m' q' := ⟨Mem.of_get at5, h2⟩
     obtain ⟨c05, c15, i15⟩ := hb5.get
     have hm5 : MemN _ _ _ _ _ := ⟨rfl, hb5.1⟩
     have hi5 := hb5.2
     clear i37
     have i37 := v37.inn
     clear i39
     have i39 := v39.inn
     clear i41
     have i41 := v41.inn
     have i42 := v42.ints
     refine .m rfl rfl rfl rfl (.refl _) (.move rfl) ?_
     refine .m rfl rfl rfl rfl (.refl _) (.extract rfl rfl) ?_
     refine .m rfl rfl rfl rfl (.refl _) (.extract rfl rfl) ?_
     refine .m rfl rfl rfl rfl (.refl _) (.assign rfl) ?_
     refine .m rfl rfl rfl rfl (.refl _) (.assign rfl) ?_
     refine .done ?_
     refine hK15 _ _ ?_
     refine .seq (fun K16 hK16 => ?_)
     refine .region ?_
     refine .m rfl rfl rfl (.loadM ag_27_LConeMaps rfl ⟨rfl, Mem.of_get at3⟩) ?_
     refine .call rfl rfl rfl rfl @Try.call10 rfl (toFunctor_c) ?_
     rintro _ H46 ⟨le46, p46, rfl, v46⟩
     have nx_H46 := le46.1
     replace hle := hle.trans le46
     replace at3 := le46.2 _ _ at3
     replace at4 := le46.2 _ _ at4
     replace at5 := le46.2 _ _ at5
     replace lv_v37 := Keep.le lv_v37 le46
     replace v37 := bs_v37.keep lv_v37 (Nat.le_refl _)
     replace lv_v39 := Keep.le lv_v39 le46
     replace v39 := bs_v39.keep lv_v39 (Nat.le_refl _)
     replace lv_v41 := Keep.le lv_v41 le46
     replace v41 := bs_v41.keep lv_v41 (Nat.le_refl _)
     replace lv_v42 := Keep.le lv_v42 le46
     replace v42 := bs_v42.keep lv_v42 (Nat.le_refl _)
     have bs_v46 := v46
     have lv_v46 : Keep H42.next H46 H46 := fun _ _ _ h => h
     replace h0 := base_h0.mono hle
     replace h1 := base_h1.mono hle
     replace h2 := base_h2.mono hle
     clear hb3 fs3 ft3 c103 c113 j13 j23 hm3 hi3 hms3 his3 hmt3 hit3
     have hb3 : Fun.At _ g3 0 d p := ⟨Mem.of_get at3, h0⟩
     obtain ⟨fs3, ft3, c103, c113, j13, j23⟩ := hb3.get
     have hm3 : MemN _ _ _ _ _ := ⟨rfl, hb3.1⟩
     have hi3 := hb3.2
     have hms3 : MemN _ _ _ _ _ := ⟨rfl, fs3.1⟩
     have his3 := fs3.2
     have hmt3 : MemN _ _ _ _ _ := ⟨rfl, ft3.1⟩
     have hit3 := ft3.2
     clear hb4 c04 c14 i14 hm4 hi4
     have hb4 : Con.At _ g4 0 m q := ⟨Mem.of_get at4, h1⟩
     obtain ⟨c04, c14, i14⟩ := hb4.get
     have hm4 : MemN _ _ _ _ _ := ⟨rfl, hb4.1⟩
     have hi4 := hb4.2
     clear hb5 c05 c15 i15 hm5 hi5
     have hb5 : Con.At _ g5 0 m' q' := ⟨Mem.of_get at5, h2⟩
     obtain ⟨c05, c15, i15⟩ := hb5.get
     have hm5 : MemN _ _ _ _ _ := ⟨rfl, hb5.1⟩
     have hi5 := hb5.2
     clear i37
     have i37 := v37.inn
     clear i39
     have i39 := v39.inn
     clear i41
     have i41 := v41.inn
     clear i42
     have i42 := v42.ints
     have i46 := v46.inn
     refine .r rfl rfl rfl (.allocR rfl ze_36_E rfl) ?_
     rintro _ H10 ⟨g10, rfl, le10, ge10, at10⟩
     have nx_H10 := le10.1
     replace hle := hle.trans le10
     replace at3 := le10.2 _ _ at3
     replace at4 := le10.2 _ _ at4
     replace at5 := le10.2 _ _ at5
     replace lv_v37 := Keep.le lv_v37 le10
     replace v37 := bs_v37.keep lv_v37 (Nat.le_refl _)
     replace lv_v39 := Keep.le lv_v39 le10
     replace v39 := bs_v39.keep lv_v39 (Nat.le_refl _)
     replace lv_v41 := Keep.le lv_v41 le10
     replace v41 := bs_v41.keep lv_v41 (Nat.le_refl _)
     replace lv_v42 := Keep.le lv_v42 le10
     replace v42 := bs_v42.keep lv_v42 (Nat.le_refl _)
     replace lv_v46 := Keep.le lv_v46 le10
     replace v46 := bs_v46.keep lv_v46 (Nat.le_refl _)
     have lt_at10 := GHeap.lt_of_get at10
     replace h0 := base_h0.mono hle
     replace h1 := base_h1.mono hle
     replace h2 := base_h2.mono hle
     clear hb3 fs3 ft3 c103 c113 j13 j23 hm3 hi3 hms3 his3 hmt3 hit3
     have hb3 : Fun.At _ g3 0 d p := ⟨Mem.of_get at3, h0⟩
     obtain ⟨fs3, ft3, c103, c113, j13, j23⟩ := hb3.get
     have hm3 : MemN _ _ _ _ _ := ⟨rfl, hb3.1⟩
     have hi3 := hb3.2
     have hms3 : MemN _ _ _ _ _ := ⟨rfl, fs3.1⟩
     have his3 := fs3.2
     have hmt3 : MemN _ _ _ _ _ := ⟨rfl, ft3.1⟩
     have hit3 := ft3.2
     clear hb4 c04 c14 i14 hm4 hi4
     have hb4 : Con.At _ g4 0 m q := ⟨Mem.of_get at4, h1⟩
     obtain ⟨c04, c14, i14⟩ := hb4.get
     have hm4 : MemN _ _ _ _ _ := ⟨rfl, hb4.1⟩
     have hi4 := hb4.2
     clear hb5 c05 c15 i15 hm5 hi5
     have hb5 : Con.At _ g5 0 m' q' := ⟨Mem.of_get at5, h2⟩
     obtain ⟨c05, c15, i15⟩ := hb5.get
     have hm5 : MemN _ _ _ _ _ := ⟨rfl, hb5.1⟩
     have hi5 := hb5.2
     clear i37
     have i37 := v37.inn
     clear i39
     have i39 := v39.inn
     clear i41
     have i41 := v41.inn
     clear i42
     have i42 := v42.ints
     clear i46
     have i46 := v46.inn
     refine .r0 rfl rfl (.fillR rfl sz_36_E rfl rfl rfl rfl (by assumption) (by first | rfl | exact Nat.le_of_ble_eq_true rfl | simp)) ?_
     rintro _ H12003 ⟨rfl, st12003, at12003⟩
     have nx_H12003 := st12003.nx
     replace hle := hle.st st12003 (fun k hk => ⟨by omega, trivial⟩)
     replace at3 := st12003.same _ _ ⟨by omega, trivial⟩ at3
     replace at4 := st12003.same _ _ ⟨by omega, trivial⟩ at4
     replace at5 := st12003.same _ _ ⟨by omega, trivial⟩ at5
     replace lv_v37 := Keep.st lv_v37 st12003 (fun k hb hk => ⟨by omega, trivial⟩)
     replace v37 := bs_v37.keep lv_v37 (Nat.le_refl _)
     replace lv_v39 := Keep.st lv_v39 st12003 (fun k hb hk => ⟨by omega, trivial⟩)
     replace v39 := bs_v39.keep lv_v39 (Nat.le_refl _)
     replace lv_v41 := Keep.st lv_v41 st12003 (fun k hb hk => ⟨by omega, trivial⟩)
     replace v41 := bs_v41.keep lv_v41 (Nat.le_refl _)
     replace lv_v42 := Keep.st lv_v42 st12003 (fun k hb hk => ⟨by omega, trivial⟩)
     replace v42 := bs_v42.keep lv_v42 (Nat.le_refl _)
     replace lv_v46 := Keep.st lv_v46 st12003 (fun k hb hk => ⟨by omega, trivial⟩)
     replace v46 := bs_v46.keep lv_v46 (Nat.le_refl _)
     have lt_at12003 := GHeap.lt_of_get at12003
     replace h0 := base_h0.mono hle
     replace h1 := base_h1.mono hle
     replace h2 := base_h2.mono hle
     clear hb3 fs3 ft3 c103 c113 j13 j23 hm3 hi3 hms3 his3 hmt3 hit3
     have hb3 : Fun.At _ g3 0 d p := ⟨Mem.of_get at3, h0⟩
     obtain ⟨fs3, ft3, c103, c113, j13, j23⟩ := hb3.get
     have hm3 : MemN _ _ _ _ _ := ⟨rfl, hb3.1⟩
     have hi3 := hb3.2
     have hms3 : MemN _ _ _ _ _ := ⟨rfl, fs3.1⟩
     have his3 := fs3.2
     have hmt3 : MemN _ _ _ _ _ := ⟨rfl, ft3.1⟩
     have hit3 := ft3.2
     clear hb4 c04 c14 i14 hm4 hi4
     have hb4 : Con.At _ g4 0 m q := ⟨Mem.of_get at4, h1⟩
     obtain ⟨c04, c14, i14⟩ := hb4.get
     have hm4 : MemN _ _ _ _ _ := ⟨rfl, hb4.1⟩
     have hi4 := hb4.2
     clear hb5 c05 c15 i15 hm5 hi5
     have hb5 : Con.At _ g5 0 m' q' := ⟨Mem.of_get at5, h2⟩
     obtain ⟨c05, c15, i15⟩ := hb5.get
     have hm5 : MemN _ _ _ _ _ := ⟨rfl, hb5.1⟩
     have hi5 := hb5.2
     clear i37
     have i37 := v37.inn
     clear i39
     have i39 := v39.inn
     clear i41
     have i41 := v41.inn
     clear i42
     have i42 := v42.ints
     clear i46
     have i46 := v46.inn
     have mm12003 : MemN _ _ _ _ _ := ⟨rfl, Mem.of_get at12003⟩
     refine .nil ?_
     refine hK16 _ _ ?_
     refine .seq (fun K17 hK17 => ?_)
     refine .region ?_
     refine .m rfl rfl rfl (.loadM ag_29_LConeMaps rfl ⟨rfl, Mem.of_get at4⟩) ?_
     refine .call rfl rfl rfl rfl @Try.call11 rfl (toCone_c) ?_
     rintro _ H48 ⟨le48, p48, rfl, v48⟩
     have nx_H48 := le48.1
     replace hle := hle.trans le48
     replace at3 := le48.2 _ _ at3
     replace at4 := le48.2 _ _ at4
     replace at5 := le48.2 _ _ at5
     replace at12003 := le48.2 _ _ at12003
     replace lv_v37 := Keep.le lv_v37 le48
     replace v37 := bs_v37.keep lv_v37 (Nat.le_refl _)
     replace lv_v39 := Keep.le lv_v39 le48
     replace v39 := bs_v39.keep lv_v39 (Nat.le_refl _)
     replace lv_v41 := Keep.le lv_v41 le48
     replace v41 := bs_v41.keep lv_v41 (Nat.le_refl _)
     replace lv_v42 := Keep.le lv_v42 le48
     replace v42 := bs_v42.keep lv_v42 (Nat.le_refl _)
     replace lv_v46 := Keep.le lv_v46 le48
     replace v46 := bs_v46.keep lv_v46 (Nat.le_refl _)
     have bs_v48 := v48
     have lv_v48 : Keep H12003.next H48 H48 := fun _ _ _ h => h
     replace h0 := base_h0.mono hle
     replace h1 := base_h1.mono hle
     replace h2 := base_h2.mono hle
     clear hb3 fs3 ft3 c103 c113 j13 j23 hm3 hi3 hms3 his3 hmt3 hit3
     have hb3 : Fun.At _ g3 0 d p := ⟨Mem.of_get at3, h0⟩
     obtain ⟨fs3, ft3, c103, c113, j13, j23⟩ := hb3.get
     have hm3 : MemN _ _ _ _ _ := ⟨rfl, hb3.1⟩
     have hi3 := hb3.2
     have hms3 : MemN _ _ _ _ _ := ⟨rfl, fs3.1⟩
     have his3 := fs3.2
     have hmt3 : MemN _ _ _ _ _ := ⟨rfl, ft3.1⟩
     have hit3 := ft3.2
     clear hb4 c04 c14 i14 hm4 hi4
     have hb4 : Con.At _ g4 0 m q := ⟨Mem.of_get at4, h1⟩
     obtain ⟨c04, c14, i14⟩ := hb4.get
     have hm4 : MemN _ _ _ _ _ := ⟨rfl, hb4.1⟩
     have hi4 := hb4.2
     clear hb5 c05 c15 i15 hm5 hi5
     have hb5 : Con.At _ g5 0 m' q' := ⟨Mem.of_get at5, h2⟩
     obtain ⟨c05, c15, i15⟩ := hb5.get
     have hm5 : MemN _ _ _ _ _ := ⟨rfl, hb5.1⟩
     have hi5 := hb5.2
     clear i37
     have i37 := v37.inn
     clear i39
     have i39 := v39.inn
     clear i41
     have i41 := v41.inn
     clear i42
     have i42 := v42.ints
     clear i46
     have i46 := v46.inn
     clear mm12003
     have mm12003 : MemN _ _ _ _ _ := ⟨rfl, Mem.of_get at12003⟩
     have i48 := v48.inn
     refine .r rfl rfl rfl (.allocR rfl ze_38_VCon rfl) ?_
     rintro _ H11 ⟨g11, rfl, le11, ge11, at11⟩
     have nx_H11 := le11.1
     replace hle := hle.trans le11
     replace at3 := le11.2 _ _ at3
     replace at4 := le11.2 _ _ at4
     replace at5 := le11.2 _ _ at5
     replace at12003 := le11.2 _ _ at12003
     replace lv_v37 := Keep.le lv_v37 le11
     replace v37 := bs_v37.keep lv_v37 (Nat.le_refl _)
     replace lv_v39 := Keep.le lv_v39 le11
     replace v39 := bs_v39.keep lv_v39 (Nat.le_refl _)
     replace lv_v41 := Keep.le lv_v41 le11
     replace v41 := bs_v41.keep lv_v41 (Nat.le_refl _)
     replace lv_v42 := Keep.le lv_v42 le11
     replace v42 := bs_v42.keep lv_v42 (Nat.le_refl _)
     replace lv_v46 := Keep.le lv_v46 le11
     replace v46 := bs_v46.keep lv_v46 (Nat.le_refl _)
     replace lv_v48 := Keep.le lv_v48 le11
     replace v48 := bs_v48.keep lv_v48 (Nat.le_refl _)
     have lt_at11 := GHeap.lt_of_get at11
     replace h0 := base_h0.mono hle
     replace h1 := base_h1.mono hle
     replace h2 := base_h2.mono hle
     clear hb3 fs3 ft3 c103 c113 j13 j23 hm3 hi3 hms3 his3 hmt3 hit3
     have hb3 : Fun.At _ g3 0 d p := ⟨Mem.of_get at3, h0⟩
     obtain ⟨fs3, ft3, c103, c113, j13, j23⟩ := hb3.get
     have hm3 : MemN _ _ _ _ _ := ⟨rfl, hb3.1⟩
     have hi3 := hb3.2
     have hms3 : MemN _ _ _ _ _ := ⟨rfl, fs3.1⟩
     have his3 := fs3.2
     have hmt3 : MemN _ _ _ _ _ := ⟨rfl, ft3.1⟩
     have hit3 := ft3.2
     clear hb4 c04 c14 i14 hm4 hi4
     have hb4 : Con.At _ g4 0 m q := ⟨Mem.of_get at4, h1⟩
     obtain ⟨c04, c14, i14⟩ := hb4.get
     have hm4 : MemN _ _ _ _ _ := ⟨rfl, hb4.1⟩
     have hi4 := hb4.2
     clear hb5 c05 c15 i15 hm5 hi5
     have hb5 : Con.At _ g5 0 m' q' := ⟨Mem.of_get at5, h2⟩
     obtain ⟨c05, c15, i15⟩ := hb5.get
     have hm5 : MemN _ _ _ _ _ := ⟨rfl, hb5.1⟩
     have hi5 := hb5.2
     clear i37
     have i37 := v37.inn
     clear i39
     have i39 := v39.inn
     clear i41
     have i41 := v41.inn
     clear i42
     have i42 := v42.ints
     clear i46
     have i46 := v46.inn
     clear mm12003
     have mm12003 : MemN _ _ _ _ _ := ⟨rfl, Mem.of_get at12003⟩
     clear i48
     have i48 := v48.inn
     refine .r0 rfl rfl (.fillR rfl sz_38_U rfl rfl rfl rfl (by assumption) (by first | rfl | exact Nat.le_of_ble_eq_true rfl | simp)) ?_
     rintro _ H13003 ⟨rfl, st13003, at13003⟩
     have nx_H13003 := st13003.nx
     replace hle := hle.st st13003 (fun k hk => ⟨by omega, trivial⟩)
     replace at3 := st13003.same _ _ ⟨by omega, trivial⟩ at3
     replace at4 := st13003.same _ _ ⟨by omega, trivial⟩ at4
     replace at5 := st13003.same _ _ ⟨by omega, trivial⟩ at5
     replace at12003 := st13003.same _ _ ⟨by omega, trivial⟩ at12003
     replace lv_v37 := Keep.st lv_v37 st13003 (fun k hb hk => ⟨by omega, trivial⟩)
     replace v37 := bs_v37.keep lv_v37 (Nat.le_refl _)
     replace lv_v39 := Keep.st lv_v39 st13003 (fun k hb hk => ⟨by omega, trivial⟩)
     replace v39 := bs_v39.keep lv_v39 (Nat.le_refl _)
     replace lv_v41 := Keep.st lv_v41 st13003 (fun k hb hk => ⟨by omega, trivial⟩)
     replace v41 := bs_v41.keep lv_v41 (Nat.le_refl _)
     replace lv_v42 := Keep.st lv_v42 st13003 (fun k hb hk => ⟨by omega, trivial⟩)
     replace v42 := bs_v42.keep lv_v42 (Nat.le_refl _)
     replace lv_v46 := Keep.st lv_v46 st13003 (fun k hb hk => ⟨by omega, trivial⟩)
     replace v46 := bs_v46.keep lv_v46 (Nat.le_refl _)
     replace lv_v48 := Keep.st lv_v48 st13003 (fun k hb hk => ⟨by omega, trivial⟩)
     replace v48 := bs_v48.keep lv_v48 (Nat.le_refl _)
     have lt_at13003 := GHeap.lt_of_get at13003
     replace h0 := base_h0.mono hle
     replace h1 := base_h1.mono hle
     replace h2 := base_h2.mono hle
     clear hb3 fs3 ft3 c103 c113 j13 j23 hm3 hi3 hms3 his3 hmt3 hit3
     have hb3 : Fun.At _ g3 0 d p := ⟨Mem.of_get at3, h0⟩
     obtain ⟨fs3, ft3, c103, c113, j13, j23⟩ := hb3.get
     have hm3 : MemN _ _ _ _ _ := ⟨rfl, hb3.1⟩
     have hi3 := hb3.2
     have hms3 : MemN _ _ _ _ _ := ⟨rfl, fs3.1⟩
     have his3 := fs3.2
     have hmt3 : MemN _ _ _ _ _ := ⟨rfl, ft3.1⟩
     have hit3 := ft3.2
     clear hb4 c04 c14 i14 hm4 hi4
     have hb4 : Con.At _ g4 0 m q := ⟨Mem.of_get at4, h1⟩
     obtain ⟨c04, c14, i14⟩ := hb4.get
     have hm4 : MemN _ _ _ _ _ := ⟨rfl, hb4.1⟩
     have hi4 := hb4.2
     clear hb5 c05 c15 i15 hm5 hi5
     have hb5 : Con.At _ g5 0 m' q' := ⟨Mem.of_get at5, h2⟩
     obtain ⟨c05, c15, i15⟩ := hb5.get
     have hm5 : MemN _ _ _ _ _ := ⟨rfl, hb5.1⟩
     have hi5 := hb5.2
     clear i37
     have i37 := v37.inn
     clear i39
     have i39 := v39.inn
     clear i41
     have i41 := v41.inn
     clear i42
     have i42 := v42.ints
     clear i46
     have i46 := v46.inn
     clear mm12003
     have mm12003 : MemN _ _ _ _ _ := ⟨rfl, Mem.of_get at12003⟩
     clear i48
     have i48 := v48.inn
     have mm13003 : MemN _ _ _ _ _ := ⟨rfl, Mem.of_get at13003⟩
     refine .nil ?_
     refine hK17 _ _ ?_
     refine .seq (fun K18 hK18 => ?_)
     refine .region ?_
     refine .m rfl rfl rfl (.loadM ag_29_LConeMaps rfl ⟨rfl, Mem.of_get at5⟩) ?_
     refine .call rfl rfl rfl rfl @Try.call11 rfl (toCone_c) ?_
     rintro _ H50 ⟨le50, p50, rfl, v50⟩
     have nx_H50 := le50.1
     replace hle := hle.trans le50
     replace at3 := le50.2 _ _ at3
     replace at4 := le50.2 _ _ at4
     replace at5 := le50.2 _ _ at5
     replace at12003 := le50.2 _ _ at12003
     replace at13003 := le50.2 _ _ at13003
     replace lv_v37 := Keep.le lv_v37 le50
     replace v37 := bs_v37.keep lv_v37 (Nat.le_refl _)
     replace lv_v39 := Keep.le lv_v39 le50
     replace v39 := bs_v39.keep lv_v39 (Nat.le_refl _)
     replace lv_v41 := Keep.le lv_v41 le50
     replace v41 := bs_v41.keep lv_v41 (Nat.le_refl _)
     replace lv_v42 := Keep.le lv_v42 le50
     replace v42 := bs_v42.keep lv_v42 (Nat.le_refl _)
     replace lv_v46 := Keep.le lv_v46 le50
     replace v46 := bs_v46.keep lv_v46 (Nat.le_refl _)
     replace lv_v48 := Keep.le lv_v48 le50
     replace v48 := bs_v48.keep lv_v48 (Nat.le_refl _)
     have bs_v50 := v50
     have lv_v50 : Keep H13003.next H50 H50 := fun _ _ _ h => h
     replace h0 := base_h0.mono hle
     replace h1 := base_h1.mono hle
     replace h2 := base_h2.mono hle
     clear hb3 fs3 ft3 c103 c113 j13 j23 hm3 hi3 hms3 his3 hmt3 hit3
     have hb3 : Fun.At _ g3 0 d p := ⟨Mem.of_get at3, h0⟩
     obtain ⟨fs3, ft3, c103, c113, j13, j23⟩ := hb3.get
     have hm3 : MemN _ _ _ _ _ := ⟨rfl, hb3.1⟩
     have hi3 := hb3.2
     have hms3 : MemN _ _ _ _ _ := ⟨rfl, fs3.1⟩
     have his3 := fs3.2
     have hmt3 : MemN _ _ _ _ _ := ⟨rfl, ft3.1⟩
     have hit3 := ft3.2
     clear hb4 c04 c14 i14 hm4 hi4
     have hb4 : Con.At _ g4 0 m q := ⟨Mem.of_get at4, h1⟩
     obtain ⟨c04, c14, i14⟩ := hb4.get
     have hm4 : MemN _ _ _ _ _ := ⟨rfl, hb4.1⟩
     have hi4 := hb4.2
     clear hb5 c05 c15 i15 hm5 hi5
     have hb5 : Con.At _ g5 0 m' q' := ⟨Mem.of_get at5, h2⟩
     obtain ⟨c05, c15, i15⟩ := hb5.get
     have hm5 : MemN _ _ _ _ _ := ⟨rfl, hb5.1⟩
     have hi5 := hb5.2
     clear i37
     have i37 := v37.inn
     clear i39
     have i39 := v39.inn
     clear i41
     have i41 := v41.inn
     clear i42
     have i42 := v42.ints
     clear i46
     have i46 := v46.inn
     clear mm12003
     have mm12003 : MemN _ _ _ _ _ := ⟨rfl, Mem.of_get at12003⟩
     clear i48
     have i48 := v48.inn
     clear mm13003
     have mm13003 : MemN _ _ _ _ _ := ⟨rfl, Mem.of_get at13003⟩
     have i50 := v50.inn
     refine .r rfl rfl rfl (.allocR rfl ze_38_VCon rfl) ?_
     rintro _ H12 ⟨g12, rfl, le12, ge12, at12⟩
     have nx_H12 := le12.1
     replace hle := hle.trans le12
     replace at3 := le12.2 _ _ at3
     replace at4 := le12.2 _ _ at4
     replace at5 := le12.2 _ _ at5
     replace at12003 := le12.2 _ _ at12003
     replace at13003 := le12.2 _ _ at13003
     replace lv_v37 := Keep.le lv_v37 le12
     replace v37 := bs_v37.keep lv_v37 (Nat.le_refl _)
     replace lv_v39 := Keep.le lv_v39 le12
     replace v39 := bs_v39.keep lv_v39 (Nat.le_refl _)
     replace lv_v41 := Keep.le lv_v41 le12
     replace v41 := bs_v41.keep lv_v41 (Nat.le_refl _)
     replace lv_v42 := Keep.le lv_v42 le12
     replace v42 := bs_v42.keep lv_v42 (Nat.le_refl _)
     replace lv_v46 := Keep.le lv_v46 le12
     replace v46 := bs_v46.keep lv_v46 (Nat.le_refl _)
     replace lv_v48 := Keep.le lv_v48 le12
     replace v48 := bs_v48.keep lv_v48 (Nat.le_refl _)
     replace lv_v50 := Keep.le lv_v50 le12
     replace v50 := bs_v50.keep lv_v50 (Nat.le_refl _)
     have lt_at12 := GHeap.lt_of_get at12
     replace h0 := base_h0.mono hle
     replace h1 := base_h1.mono hle
     replace h2 := base_h2.mono hle
     clear hb3 fs3 ft3 c103 c113 j13 j23 hm3 hi3 hms3 his3 hmt3 hit3
     have hb3 : Fun.At _ g3 0 d p := ⟨Mem.of_get at3, h0⟩
     obtain ⟨fs3, ft3, c103, c113, j13, j23⟩ := hb3.get
     have hm3 : MemN _ _ _ _ _ := ⟨rfl, hb3.1⟩
     have hi3 := hb3.2
     have hms3 : MemN _ _ _ _ _ := ⟨rfl, fs3.1⟩
     have his3 := fs3.2
     have hmt3 : MemN _ _ _ _ _ := ⟨rfl, ft3.1⟩
     have hit3 := ft3.2
     clear hb4 c04 c14 i14 hm4 hi4
     have hb4 : Con.At _ g4 0 m q := ⟨Mem.of_get at4, h1⟩
     obtain ⟨c04, c14, i14⟩ := hb4.get
     have hm4 : MemN _ _ _ _ _ := ⟨rfl, hb4.1⟩
     have hi4 := hb4.2
     clear hb5 c05 c15 i15 hm5 hi5
     have hb5 : Con.At _ g5 0 m' q' := ⟨Mem.of_get at5, h2⟩
     obtain ⟨c05, c15, i15⟩ := hb5.get
     have hm5 : MemN _ _ _ _ _ := ⟨rfl, hb5.1⟩
     have hi5 := hb5.2
     clear i37
     have i37 := v37.inn
     clear i39
     have i39 := v39.inn
     clear i41
     have i41 := v41.inn
     clear i42
     have i42 := v42.ints
     clear i46
     have i46 := v46.inn
     clear mm12003
     have mm12003 : MemN _ _ _ _ _ := ⟨rfl, Mem.of_get at12003⟩
     clear i48
     have i48 := v48.inn
     clear mm13003
     have mm13003 : MemN _ _ _ _ _ := ⟨rfl, Mem.of_get at13003⟩
     clear i50
     have i50 := v50.inn
     refine .r0 rfl rfl (.fillR rfl sz_38_U rfl rfl rfl rfl (by assumption) (by first | rfl | exact Nat.le_of_ble_eq_true rfl | simp)) ?_
     rintro _ H14003 ⟨rfl, st14003, at14003⟩
     have nx_H14003 := st14003.nx
     replace hle := hle.st st14003 (fun k hk => ⟨by omega, trivial⟩)
     replace at3 := st14003.same _ _ ⟨by omega, trivial⟩ at3
     replace at4 := st14003.same _ _ ⟨by omega, trivial⟩ at4
     replace at5 := st14003.same _ _ ⟨by omega, trivial⟩ at5
     replace at12003 := st14003.same _ _ ⟨by omega, trivial⟩ at12003
     replace at13003 := st14003.same _ _ ⟨by omega, trivial⟩ at13003
     replace lv_v37 := Keep.st lv_v37 st14003 (fun k hb hk => ⟨by omega, trivial⟩)
     replace v37 := bs_v37.keep lv_v37 (Nat.le_refl _)
     replace lv_v39 := Keep.st lv_v39 st14003 (fun k hb hk => ⟨by omega, trivial⟩)
     replace v39 := bs_v39.keep lv_v39 (Nat.le_refl _)
     replace lv_v41 := Keep.st lv_v41 st14003 (fun k hb hk => ⟨by omega, trivial⟩)
     replace v41 := bs_v41.keep lv_v41 (Nat.le_refl _)
     replace lv_v42 := Keep.st lv_v42 st14003 (fun k hb hk => ⟨by omega, trivial⟩)
     replace v42 := bs_v42.keep lv_v42 (Nat.le_refl _)
     replace lv_v46 := Keep.st lv_v46 st14003 (fun k hb hk => ⟨by omega, trivial⟩)
     replace v46 := bs_v46.keep lv_v46 (Nat.le_refl _)
     replace lv_v48 := Keep.st lv_v48 st14003 (fun k hb hk => ⟨by omega, trivial⟩)
     replace v48 := bs_v48.keep lv_v48 (Nat.le_refl _)
     replace lv_v50 := Keep.st lv_v50 st14003 (fun k hb hk => ⟨by omega, trivial⟩)
     replace v50 := bs_v50.keep lv_v50 (Nat.le_refl _)
     have lt_at14003 := GHeap.lt_of_get at14003
     replace h0 := base_h0.mono hle
     replace h1 := base_h1.mono hle
     replace h2 := base_h2.mono hle
     clear hb3 fs3 ft3 c103 c113 j13 j23 hm3 hi3 hms3 his3 hmt3 hit3
     have hb3 : Fun.At _ g3 0 d p := ⟨Mem.of_get at3, h0⟩
     obtain ⟨fs3, ft3, c103, c113, j13, j23⟩ := hb3.get
     have hm3 : MemN _ _ _ _ _ := ⟨rfl, hb3.1⟩
     have hi3 := hb3.2
     have hms3 : MemN _ _ _ _ _ := ⟨rfl, fs3.1⟩
     have his3 := fs3.2
     have hmt3 : MemN _ _ _ _ _ := ⟨rfl, ft3.1⟩
     have hit3 := ft3.2
     clear hb4 c04 c14 i14 hm4 hi4
     have hb4 : Con.At _ g4 0 m q := ⟨Mem.of_get at4, h1⟩
     obtain ⟨c04, c14, i14⟩ := hb4.get
     have hm4 : MemN _ _ _ _ _ := ⟨rfl, hb4.1⟩
     have hi4 := hb4.2
     clear hb5 c05 c15 i15 hm5 hi5
     have hb5 : Con.At _ g5 0 m' q' := ⟨Mem.of_get at5, h2⟩
     obtain ⟨c05, c15, i15⟩ := hb5.get
     have hm5 : MemN _ _ _ _ _ := ⟨rfl, hb5.1⟩
     have hi5 := hb5.2
     clear i37
     have i37 := v37.inn
     clear i39
     have i39 := v39.inn
     clear i41
     have i41 := v41.inn
     clear i42
     have i42 := v42.ints
     clear i46
     have i46 := v46.inn
     clear mm12003
     have mm12003 : MemN _ _ _ _ _ := ⟨rfl, Mem.of_get at12003⟩
     clear i48
     have i48 := v48.inn
     clear mm13003
     have mm13003 : MemN _ _ _ _ _ := ⟨rfl, Mem.of_get at13003⟩
     clear i50
     have i50 := v50.inn
     have mm14003 : MemN _ _ _ _ _ := ⟨rfl, Mem.of_get at14003⟩
     refine .nil ?_
     refine hK18 _ _ ?_
     refine .seq (fun K19 hK19 => ?_)
     refine .region ?_
     refine .m rfl rfl rfl (.loadM ag_36_E rfl ⟨rfl, Mem.of_get at12003⟩) ?_
     refine .m rfl rfl rfl (.loadM ag_38_VCon rfl ⟨rfl, Mem.of_get at13003⟩) ?_
     refine .m rfl rfl rfl (.loadM ag_38_VCon rfl ⟨rfl, Mem.of_get at14003⟩) ?_
     refine .call rfl rfl rfl rfl @Try.call12 rfl (implConeMaps_c) ?_
     rintro _ H55 ⟨le55, a55, rfl, v55⟩
     have nx_H55 := le55.1
     replace hle := hle.trans le55
     replace at3 := le55.2 _ _ at3
     replace at4 := le55.2 _ _ at4
     replace at5 := le55.2 _ _ at5
     replace at12003 := le55.2 _ _ at12003
     replace at13003 := le55.2 _ _ at13003
     replace at14003 := le55.2 _ _ at14003
     replace lv_v37 := Keep.le lv_v37 le55
     replace v37 := bs_v37.keep lv_v37 (Nat.le_refl _)
     replace lv_v39 := Keep.le lv_v39 le55
     replace v39 := bs_v39.keep lv_v39 (Nat.le_refl _)
     replace lv_v41 := Keep.le lv_v41 le55
     replace v41 := bs_v41.keep lv_v41 (Nat.le_refl _)
     replace lv_v42 := Keep.le lv_v42 le55
     replace v42 := bs_v42.keep lv_v42 (Nat.le_refl _)
     replace lv_v46 := Keep.le lv_v46 le55
     replace v46 := bs_v46.keep lv_v46 (Nat.le_refl _)
     replace lv_v48 := Keep.le lv_v48 le55
     replace v48 := bs_v48.keep lv_v48 (Nat.le_refl _)
     replace lv_v50 := Keep.le lv_v50 le55
     replace v50 := bs_v50.keep lv_v50 (Nat.le_refl _)
     have bs_v55 := v55
     have lv_v55 : Keep H14003.next H55 H55 := fun _ _ _ h => h
     replace h0 := base_h0.mono hle
     replace h1 := base_h1.mono hle
     replace h2 := base_h2.mono hle
     clear hb3 fs3 ft3 c103 c113 j13 j23 hm3 hi3 hms3 his3 hmt3 hit3
     have hb3 : Fun.At _ g3 0 d p := ⟨Mem.of_get at3, h0⟩
     obtain ⟨fs3, ft3, c103, c113, j13, j23⟩ := hb3.get
     have hm3 : MemN _ _ _ _ _ := ⟨rfl, hb3.1⟩
     have hi3 := hb3.2
     have hms3 : MemN _ _ _ _ _ := ⟨rfl, fs3.1⟩
     have his3 := fs3.2
     have hmt3 : MemN _ _ _ _ _ := ⟨rfl, ft3.1⟩
     have hit3 := ft3.2
     clear hb4 c04 c14 i14 hm4 hi4
     have hb4 : Con.At _ g4 0 m q := ⟨Mem.of_get at4, h1⟩
     obtain ⟨c04, c14, i14⟩ := hb4.get
     have hm4 : MemN _ _ _ _ _ := ⟨rfl, hb4.1⟩
     have hi4 := hb4.2
     clear hb5 c05 c15 i15 hm5 hi5
     have hb5 : Con.At _ g5 0 m' q' := ⟨Mem.of_get at5, h2⟩
     obtain ⟨c05, c15, i15⟩ := hb5.get
     have hm5 : MemN _ _ _ _ _ := ⟨rfl, hb5.1⟩
     have hi5 := hb5.2
     clear i37
     have i37 := v37.inn
     clear i39
     have i39 := v39.inn
     clear i41
     have i41 := v41.inn
     clear i42
     have i42 := v42.ints
     clear i46
     have i46 := v46.inn
     clear mm12003
     have mm12003 : MemN _ _ _ _ _ := ⟨rfl, Mem.of_get at12003⟩
     clear i48
     have i48 := v48.inn
     clear mm13003
     have mm13003 : MemN _ _ _ _ _ := ⟨rfl, Mem.of_get at13003⟩
     clear i50
     have i50 := v50.inn
     clear mm14003
     have mm14003 : MemN _ _ _ _ _ := ⟨rfl, Mem.of_get at14003⟩
     have i55 := v55.ints
     refine .m rfl rfl rfl (.move rfl) ?_
     refine .m rfl rfl rfl (.extract rfl rfl) ?_
     refine .m rfl rfl rfl (.extract rfl rfl) ?_
     refine .m rfl rfl rfl (.assign rfl) ?_
     refine .m rfl rfl rfl (.assign rfl) ?_
     refine .nil ?_
     refine hK19 _ _ ?_
     refine .seq (fun K20 hK20 => ?_)
     refine .seq (fun K21 hK21 => ?_)
     refine .region ?_
     refine .m rfl rfl rfl (.move rfl) ?_
     refine .m rfl rfl rfl (.move rfl) ?_
     refine .callQ rfl rfl rfl rfl @Try.call13 rfl (eqInt64S_c) ?_
     refine .m rfl rfl rfl (.not rfl) ?_
     refine .m rfl rfl rfl (.move rfl) ?_
     refine .split (fun h62 => ?_) (fun h62 => ?_)
     ·
      try simp only [sps] at h62
      refine .sg rfl rfl rfl rfl rfl ?_
      refine .sg rfl rfl rfl rfl rfl ?_
      refine .sg rfl rfl rfl rfl rfl ?_
      refine .m rfl rfl rfl (.pickT rfl rfl) ?_
      refine .nil ?_
      refine hK21 _ _ ?_
      refine .condT rfl ?_
      refine .seq (fun K22 hK22 => ?_)
      refine .region ?_
      refine .m rfl rfl rfl (.assign rfl) ?_
      refine .nil ?_
      refine hK22 _ _ ?_
      refine .ret ?_
      -- leaf e4
      refine hret _ _ ?_
      refine ⟨_, rfl, ?_⟩
      first
      | exact rfl
      | exact absurd trivial (by assumption)
      | contradiction
      | (exfalso; omega)
     ·
      try simp only [sps] at h62
      refine .mg rfl rfl rfl rfl rfl (.move rfl) ?_
      refine .mg rfl rfl rfl rfl rfl (.move rfl) ?_
      refine .mg rfl rfl rfl rfl rfl (.cmp rfl rfl rfl) ?_
      refine .m rfl rfl rfl (.pickF rfl rfl) ?_
      refine .nil ?_
      refine hK21 _ _ ?_
      refine .cond rfl (fun h66 => ?_) (fun h66 => ?_)
      ·
       try simp only [sps] at h66
       refine .seq (fun K23 hK23 => ?_)
       refine .region ?_
       refine .m rfl rfl rfl (.assign rfl) ?_
       refine .nil ?_
       refine hK23 _ _ ?_
       refine .ret ?_
       -- leaf e5
       refine hret _ _ ?_
       refine ⟨_, rfl, ?_⟩
       first
       | exact rfl
       | exact absurd trivial (by assumption)
       | contradiction
       | (exfalso; omega)
      ·
       try simp only [sps] at h66
       refine .skip ?_
       refine hK20 _ _ ?_
       refine .seq (fun K24 hK24 => ?_)
       refine .seq (fun K25 hK25 => ?_)
       refine .regionD mixed_orders_B (.q 0 (.q 1 (.c 2 1 (.c 3 0 (.q 4 (.done)))))) (by kernel_rfl) ?_
       refine .m rfl rfl rfl rfl (.refl _) (.loadM ag_36_E rfl ⟨rfl, Mem.of_get at12003⟩) ?_
       refine .m rfl rfl rfl rfl (.refl _) (.loadM ag_27_LConeMaps rfl ⟨rfl, Mem.of_get at3⟩) ?_
       refine .call1 rfl rfl rfl rfl rfl @Try.call10 rfl (toFunctor_c) ?_
       rintro _ H69 ⟨le69, p69, rfl, v69⟩
       have hbl := le69
       refine ⟨hbl, ?_⟩
       have nx_H69 := le69.1
       replace hle := hle.trans le69
       replace at3 := le69.2 _ _ at3
       replace at4 := le69.2 _ _ at4
       replace at5 := le69.2 _ _ at5
       replace at12003 := le69.2 _ _ at12003
       replace at13003 := le69.2 _ _ at13003
       replace at14003 := le69.2 _ _ at14003
       replace lv_v37 := Keep.le lv_v37 le69
       replace v37 := bs_v37.keep lv_v37 (Nat.le_refl _)
       replace lv_v39 := Keep.le lv_v39 le69
       replace v39 := bs_v39.keep lv_v39 (Nat.le_refl _)
       replace lv_v41 := Keep.le lv_v41 le69
       replace v41 := bs_v41.keep lv_v41 (Nat.le_refl _)
       replace lv_v42 := Keep.le lv_v42 le69
       replace v42 := bs_v42.keep lv_v42 (Nat.le_refl _)
       replace lv_v46 := Keep.le lv_v46 le69
       replace v46 := bs_v46.keep lv_v46 (Nat.le_refl _)
       replace lv_v48 := Keep.le lv_v48 le69
       replace v48 := bs_v48.keep lv_v48 (Nat.le_refl _)
       replace lv_v50 := Keep.le lv_v50 le69
       replace v50 := bs_v50.keep lv_v50 (Nat.le_refl _)
       replace lv_v55 := Keep.le lv_v55 le69
       replace v55 := bs_v55.keep lv_v55 (Nat.le_refl _)
       have bs_v69 := v69
       have lv_v69 : Keep H55.next H69 H69 := fun _ _ _ h => h
       replace h0 := base_h0.mono hle
       replace h1 := base_h1.mono hle
       replace h2 := base_h2.mono hle
       clear hb3 fs3 ft3 c103 c113 j13 j23 hm3 hi3 hms3 his3 hmt3 hit3
       have hb3 : Fun.At _ g3 0 d p := ⟨Mem.of_get at3, h0⟩
       obtain ⟨fs3, ft3, c103, c113, j13, j23⟩ := hb3.get
       have hm3 : MemN _ _ _ _ _ := ⟨rfl, hb3.1⟩
       have hi3 := hb3.2
       have hms3 : MemN _ _ _ _ _ := ⟨rfl, fs3.1⟩
       have his3 := fs3.2
       have hmt3 : MemN _ _ _ _ _ := ⟨rfl, ft3.1⟩
       have hit3 := ft3.2
       clear hb4 c04 c14 i14 hm4 hi4
       have hb4 : Con.At _ g4 0 m q := ⟨Mem.of_get at4, h1⟩
       obtain ⟨c04, c14, i14⟩ := hb4.get
       have hm4 : MemN _ _ _ _ _ := ⟨rfl, hb4.1⟩
       have hi4 := hb4.2
       clear hb5 c05 c15 i15 hm5 hi5
       have hb5 : Con.At _ g5 0 m' q' := ⟨Mem.of_get at5, h2⟩
       obtain ⟨c05, c15, i15⟩ := hb5.get
       have hm5 : MemN _ _ _ _ _ := ⟨rfl, hb5.1⟩
       have hi5 := hb5.2
       clear i37
       have i37 := v37.inn
       clear i39
       have i39 := v39.inn
       clear i41
       have i41 := v41.inn
       clear i42
       have i42 := v42.ints
       clear i46
       have i46 := v46.inn
       clear mm12003
       have mm12003 : MemN _ _ _ _ _ := ⟨rfl, Mem.of_get at12003⟩
       clear i48
       have i48 := v48.inn
       clear mm13003
       have mm13003 : MemN _ _ _ _ _ := ⟨rfl, Mem.of_get at13003⟩
       clear i50
       have i50 := v50.inn
       clear mm14003
       have mm14003 : MemN _ _ _ _ _ := ⟨rfl, Mem.of_get at14003⟩
       clear i55
       have i55 := v55.ints
       have i69 := v69.inn
       refine .callQ0 rfl rfl rfl rfl rfl @Try.call14 rfl (eqFunctor_c) ?_
       refine .m rfl rfl rfl rfl (.refl _) (.not rfl) ?_
       refine .done ?_
       refine hK25 _ _ ?_
       refine .cond rfl (fun h71 => ?_) (fun h71 => ?_)
       ·
        try simp only [sps] at h71
        refine .seq (fun K26 hK26 => ?_)
        refine .region ?_
        refine .m rfl rfl rfl (.assign rfl) ?_
        refine .nil ?_
        refine hK26 _ _ ?_
        refine .ret ?_
        -- leaf e6
        refine hret _ _ ?_
        refine ⟨_, rfl, ?_⟩
        first
        | exact rfl
        | exact absurd trivial (by assumption)
        | contradiction
        | (exfalso; omega)
       ·
        try simp only [sps] at h71
        refine .skip ?_
        refine hK24 _ _ ?_
        refine .seq (fun K27 hK27 => ?_)
        refine .seq (fun K28 hK28 => ?_)
        refine .regionD mixed_orders_B (.q 0 (.q 1 (.c 2 1 (.c 3 0 (.q 4 (.done)))))) (by kernel_rfl) ?_
        refine .m rfl rfl rfl rfl (.refl _) (.loadM ag_38_VCon rfl ⟨rfl, Mem.of_get at13003⟩) ?_
        refine .m rfl rfl rfl rfl (.refl _) (.loadM ag_29_LConeMaps rfl ⟨rfl, Mem.of_get at4⟩) ?_
        refine .call1 rfl rfl rfl rfl rfl @Try.call11 rfl (toCone_c) ?_
        rintro _ H74 ⟨le74, p74, rfl, v74⟩
        have hbl := le74
        refine ⟨hbl, ?_⟩
        have nx_H74 := le74.1
        replace hle := hle.trans le74
        replace at3 := le74.2 _ _ at3
        replace at4 := le74.2 _ _ at4
        replace at5 := le74.2 _ _ at5
        replace at12003 := le74.2 _ _ at12003
        replace at13003 := le74.2 _ _ at13003
        replace at14003 := le74.2 _ _ at14003
        replace lv_v37 := Keep.le lv_v37 le74
        replace v37 := bs_v37.keep lv_v37 (Nat.le_refl _)
        replace lv_v39 := Keep.le lv_v39 le74
        replace v39 := bs_v39.keep lv_v39 (Nat.le_refl _)
        replace lv_v41 := Keep.le lv_v41 le74
        replace v41 := bs_v41.keep lv_v41 (Nat.le_refl _)
        replace lv_v42 := Keep.le lv_v42 le74
        replace v42 := bs_v42.keep lv_v42 (Nat.le_refl _)
        replace lv_v46 := Keep.le lv_v46 le74
        replace v46 := bs_v46.keep lv_v46 (Nat.le_refl _)
        replace lv_v48 := Keep.le lv_v48 le74
        replace v48 := bs_v48.keep lv_v48 (Nat.le_refl _)
        replace lv_v50 := Keep.le lv_v50 le74
        replace v50 := bs_v50.keep lv_v50 (Nat.le_refl _)
        replace lv_v55 := Keep.le lv_v55 le74
        replace v55 := bs_v55.keep lv_v55 (Nat.le_refl _)
        replace lv_v69 := Keep.le lv_v69 le74
        replace v69 := bs_v69.keep lv_v69 (Nat.le_refl _)
        have bs_v74 := v74
        have lv_v74 : Keep H69.next H74 H74 := fun _ _ _ h => h
        replace h0 := base_h0.mono hle
        replace h1 := base_h1.mono hle
        replace h2 := base_h2.mono hle
        clear hb3 fs3 ft3 c103 c113 j13 j23 hm3 hi3 hms3 his3 hmt3 hit3
        have hb3 : Fun.At _ g3 0 d p := ⟨Mem.of_get at3, h0⟩
        obtain ⟨fs3, ft3, c103, c113, j13, j23⟩ := hb3.get
        have hm3 : MemN _ _ _ _ _ := ⟨rfl, hb3.1⟩
        have hi3 := hb3.2
        have hms3 : MemN _ _ _ _ _ := ⟨rfl, fs3.1⟩
        have his3 := fs3.2
        have hmt3 : MemN _ _ _ _ _ := ⟨rfl, ft3.1⟩
        have hit3 := ft3.2
        clear hb4 c04 c14 i14 hm4 hi4
        have hb4 : Con.At _ g4 0 m q := ⟨Mem.of_get at4, h1⟩
        obtain ⟨c04, c14, i14⟩ := hb4.get
        have hm4 : MemN _ _ _ _ _ := ⟨rfl, hb4.1⟩
        have hi4 := hb4.2
        clear hb5 c05 c15 i15 hm5 hi5
        have hb5 : Con.At _ g5 0 m' q' := ⟨Mem.of_get at5, h2⟩
        obtain ⟨c05, c15, i15⟩ := hb5.get
        have hm5 : MemN _ _ _ _ _ := ⟨rfl, hb5.1⟩
        have hi5 := hb5.2
        clear i37
        have i37 := v37.inn
        clear i39
        have i39 := v39.inn
        clear i41
        have i41 := v41.inn
        clear i42
        have i42 := v42.ints
        clear i46
        have i46 := v46.inn
        clear mm12003
        have mm12003 : MemN _ _ _ _ _ := ⟨rfl, Mem.of_get at12003⟩
        clear i48
        have i48 := v48.inn
        clear mm13003
        have mm13003 : MemN _ _ _ _ _ := ⟨rfl, Mem.of_get at13003⟩
        clear i50
        have i50 := v50.inn
        clear mm14003
        have mm14003 : MemN _ _ _ _ _ := ⟨rfl, Mem.of_get at14003⟩
        clear i55
        have i55 := v55.ints
        clear i69
        have i69 := v69.inn
        have i74 := v74.inn
        refine .callQ0 rfl rfl rfl rfl rfl @Try.call15 rfl (eqCone_c) ?_
        refine .m rfl rfl rfl rfl (.refl _) (.not rfl) ?_
        refine .done ?_
        refine hK28 _ _ ?_
        refine .cond rfl (fun h76 => ?_) (fun h76 => ?_)
        ·
         try simp only [sps] at h76
         refine .seq (fun K29 hK29 => ?_)
         refine .region ?_
         refine .m rfl rfl rfl (.assign rfl) ?_
         refine .nil ?_
         refine hK29 _ _ ?_
         refine .ret ?_
         -- leaf e7
         refine hret _ _ ?_
         refine ⟨_, rfl, ?_⟩
         first
         | exact rfl
         | exact absurd trivial (by assumption)
         | contradiction
         | (exfalso; omega)
        ·
         try simp only [sps] at h76
         refine .skip ?_
         refine hK27 _ _ ?_
         refine .seq (fun K30 hK30 => ?_)
         refine .seq (fun K31 hK31 => ?_)
         refine .regionD mixed_orders_B (.q 0 (.q 1 (.c 2 1 (.c 3 0 (.q 4 (.done)))))) (by kernel_rfl) ?_
         refine .m rfl rfl rfl rfl (.refl _) (.loadM ag_38_VCon rfl ⟨rfl, Mem.of_get at14003⟩) ?_
         refine .m rfl rfl rfl rfl (.refl _) (.loadM ag_29_LConeMaps rfl ⟨rfl, Mem.of_get at5⟩) ?_
         refine .call1 rfl rfl rfl rfl rfl @Try.call11 rfl (toCone_c) ?_
         rintro _ H79 ⟨le79, p79, rfl, v79⟩
         have hbl := le79
         refine ⟨hbl, ?_⟩
         have nx_H79 := le79.1
         replace hle := hle.trans le79
         replace at3 := le79.2 _ _ at3
         replace at4 := le79.2 _ _ at4
         replace at5 := le79.2 _ _ at5
         replace at12003 := le79.2 _ _ at12003
         replace at13003 := le79.2 _ _ at13003
         replace at14003 := le79.2 _ _ at14003
         replace lv_v37 := Keep.le lv_v37 le79
         replace v37 := bs_v37.keep lv_v37 (Nat.le_refl _)
         replace lv_v39 := Keep.le lv_v39 le79
         replace v39 := bs_v39.keep lv_v39 (Nat.le_refl _)
         replace lv_v41 := Keep.le lv_v41 le79
         replace v41 := bs_v41.keep lv_v41 (Nat.le_refl _)
         replace lv_v42 := Keep.le lv_v42 le79
         replace v42 := bs_v42.keep lv_v42 (Nat.le_refl _)
         replace lv_v46 := Keep.le lv_v46 le79
         replace v46 := bs_v46.keep lv_v46 (Nat.le_refl _)
         replace lv_v48 := Keep.le lv_v48 le79
         replace v48 := bs_v48.keep lv_v48 (Nat.le_refl _)
         replace lv_v50 := Keep.le lv_v50 le79
         replace v50 := bs_v50.keep lv_v50 (Nat.le_refl _)
         replace lv_v55 := Keep.le lv_v55 le79
         replace v55 := bs_v55.keep lv_v55 (Nat.le_refl _)
         replace lv_v69 := Keep.le lv_v69 le79
         replace v69 := bs_v69.keep lv_v69 (Nat.le_refl _)
         replace lv_v74 := Keep.le lv_v74 le79
         replace v74 := bs_v74.keep lv_v74 (Nat.le_refl _)
         have bs_v79 := v79
         have lv_v79 : Keep H74.next H79 H79 := fun _ _ _ h => h
         replace h0 := base_h0.mono hle
         replace h1 := base_h1.mono hle
         replace h2 := base_h2.mono hle
         clear hb3 fs3 ft3 c103 c113 j13 j23 hm3 hi3 hms3 his3 hmt3 hit3
         have hb3 : Fun.At _ g3 0 d p := ⟨Mem.of_get at3, h0⟩
         obtain ⟨fs3, ft3, c103, c113, j13, j23⟩ := hb3.get
         have hm3 : MemN _ _ _ _ _ := ⟨rfl, hb3.1⟩
         have hi3 := hb3.2
         have hms3 : MemN _ _ _ _ _ := ⟨rfl, fs3.1⟩
         have his3 := fs3.2
         have hmt3 : MemN _ _ _ _ _ := ⟨rfl, ft3.1⟩
         have hit3 := ft3.2
         clear hb4 c04 c14 i14 hm4 hi4
         have hb4 : Con.At _ g4 0 m q := ⟨Mem.of_get at4, h1⟩
         obtain ⟨c04, c14, i14⟩ := hb4.get
         have hm4 : MemN _ _ _ _ _ := ⟨rfl, hb4.1⟩
         have hi4 := hb4.2
         clear hb5 c05 c15 i15 hm5 hi5
         have hb5 : Con.At _ g5 0 m' q' := ⟨Mem.of_get at5, h2⟩
         obtain ⟨c05, c15, i15⟩ := hb5.get
         have hm5 : MemN _ _ _ _ _ := ⟨rfl, hb5.1⟩
         have hi5 := hb5.2
         clear i37
         have i37 := v37.inn
         clear i39
         have i39 := v39.inn
         clear i41
         have i41 := v41.inn
         clear i42
         have i42 := v42.ints
         clear i46
         have i46 := v46.inn
         clear mm12003
         have mm12003 : MemN _ _ _ _ _ := ⟨rfl, Mem.of_get at12003⟩
         clear i48
         have i48 := v48.inn
         clear mm13003
         have mm13003 : MemN _ _ _ _ _ := ⟨rfl, Mem.of_get at13003⟩
         clear i50
         have i50 := v50.inn
         clear mm14003
         have mm14003 : MemN _ _ _ _ _ := ⟨rfl, Mem.of_get at14003⟩
         clear i55
         have i55 := v55.ints
         clear i69
         have i69 := v69.inn
         clear i74
         have i74 := v74.inn
         have i79 := v79.inn
         refine .callQ0 rfl rfl rfl rfl rfl @Try.call15 rfl (eqCone_c) ?_
         refine .m rfl rfl rfl rfl (.refl _) (.not rfl) ?_
         refine .done ?_
         refine hK31 _ _ ?_
         refine .cond rfl (fun h81 => ?_) (fun h81 => ?_)
         ·
          try simp only [sps] at h81
          refine .seq (fun K32 hK32 => ?_)
          refine .region ?_
          refine .m rfl rfl rfl (.assign rfl) ?_
          refine .nil ?_
          refine hK32 _ _ ?_
          refine .ret ?_
          -- leaf e8
          refine hret _ _ ?_
          refine ⟨_, rfl, ?_⟩
          first
          | exact rfl
          | exact absurd trivial (by assumption)
          | contradiction
          | (exfalso; omega)
         ·
          try simp only [sps] at h81
          refine .skip ?_
          refine hK30 _ _ ?_
          refine .seq (fun K33 hK33 => ?_)
          refine .region ?_
          refine .m rfl rfl rfl (.assign rfl) ?_
          refine .nil ?_
          refine hK33 _ _ ?_
          refine .seq (fun K34 hK34 => ?_)
          refine .region ?_
          refine .m rfl rfl rfl (.loadM ag_36_E rfl ⟨rfl, Mem.of_get at12003⟩) ?_
          refine .m rfl rfl rfl (.move rfl) ?_
          have w_v46 := FunW.of_at bs_v46 lv_v46
          refine .call rfl rfl rfl rfl @Try.call16 rfl (markFunctor_c) ?_
          rintro _ H84 ⟨rfl, mk84⟩
          have sm84 := mk84.stm
          have nx_H84 := sm84.nx
          replace hle := StM.le_left hle sm84 (by omega)
          replace at3 := sm84.same _ _ (by omega) at3
          replace at4 := sm84.same _ _ (by omega) at4
          replace at5 := sm84.same _ _ (by omega) at5
          replace at12003 := sm84.same _ _ (by omega) at12003
          replace at13003 := sm84.same _ _ (by omega) at13003
          replace at14003 := sm84.same _ _ (by omega) at14003
          replace lv_v37 := Keep.stM lv_v37 sm84 (fun k hb hk => by omega)
          replace v37 := bs_v37.keep lv_v37 (Nat.le_refl _)
          replace lv_v39 := Keep.stM lv_v39 sm84 (fun k hb hk => by omega)
          replace v39 := bs_v39.keep lv_v39 (Nat.le_refl _)
          replace lv_v41 := Keep.stM lv_v41 sm84 (fun k hb hk => by omega)
          replace v41 := bs_v41.keep lv_v41 (Nat.le_refl _)
          replace lv_v42 := Keep.stM lv_v42 sm84 (fun k hb hk => by omega)
          replace v42 := bs_v42.keep lv_v42 (Nat.le_refl _)
          replace lv_v48 := Keep.stM lv_v48 sm84 (fun k hb hk => by omega)
          replace v48 := bs_v48.keep lv_v48 (Nat.le_refl _)
          replace lv_v50 := Keep.stM lv_v50 sm84 (fun k hb hk => by omega)
          replace v50 := bs_v50.keep lv_v50 (Nat.le_refl _)
          replace lv_v55 := Keep.stM lv_v55 sm84 (fun k hb hk => by omega)
          replace v55 := bs_v55.keep lv_v55 (Nat.le_refl _)
          replace lv_v69 := Keep.stM lv_v69 sm84 (fun k hb hk => by omega)
          replace v69 := bs_v69.keep lv_v69 (Nat.le_refl _)
          replace lv_v74 := Keep.stM lv_v74 sm84 (fun k hb hk => by omega)
          replace v74 := bs_v74.keep lv_v74 (Nat.le_refl _)
          replace lv_v79 := Keep.stM lv_v79 sm84 (fun k hb hk => by omega)
          replace v79 := bs_v79.keep lv_v79 (Nat.le_refl _)
          replace h0 := base_h0.mono hle
          replace h1 := base_h1.mono hle
          replace h2 := base_h2.mono hle
          clear hb3 fs3 ft3 c103 c113 j13 j23 hm3 hi3 hms3 his3 hmt3 hit3
          have hb3 : Fun.At _ g3 0 d p := ⟨Mem.of_get at3, h0⟩
          obtain ⟨fs3, ft3, c103, c113, j13, j23⟩ := hb3.get
          have hm3 : MemN _ _ _ _ _ := ⟨rfl, hb3.1⟩
          have hi3 := hb3.2
          have hms3 : MemN _ _ _ _ _ := ⟨rfl, fs3.1⟩
          have his3 := fs3.2
          have hmt3 : MemN _ _ _ _ _ := ⟨rfl, ft3.1⟩
          have hit3 := ft3.2
          clear hb4 c04 c14 i14 hm4 hi4
          have hb4 : Con.At _ g4 0 m q := ⟨Mem.of_get at4, h1⟩
          obtain ⟨c04, c14, i14⟩ := hb4.get
          have hm4 : MemN _ _ _ _ _ := ⟨rfl, hb4.1⟩
          have hi4 := hb4.2
          clear hb5 c05 c15 i15 hm5 hi5
          have hb5 : Con.At _ g5 0 m' q' := ⟨Mem.of_get at5, h2⟩
          obtain ⟨c05, c15, i15⟩ := hb5.get
          have hm5 : MemN _ _ _ _ _ := ⟨rfl, hb5.1⟩
          have hi5 := hb5.2
          clear i37
          have i37 := v37.inn
          clear i39
          have i39 := v39.inn
          clear i41
          have i41 := v41.inn
          clear i42
          have i42 := v42.ints
          clear mm12003
          have mm12003 : MemN _ _ _ _ _ := ⟨rfl, Mem.of_get at12003⟩
          clear i48
          have i48 := v48.inn
          clear mm13003
          have mm13003 : MemN _ _ _ _ _ := ⟨rfl, Mem.of_get at13003⟩
          clear i50
          have i50 := v50.inn
          clear mm14003
          have mm14003 : MemN _ _ _ _ _ := ⟨rfl, Mem.of_get at14003⟩
          clear i55
          have i55 := v55.ints
          clear i69
          have i69 := v69.inn
          clear i74
          have i74 := v74.inn
          clear i79
          have i79 := v79.inn
          refine .m rfl rfl rfl (.assign rfl) ?_
          refine .nil ?_
          refine hK34 _ _ ?_
          refine .seq (fun K35 hK35 => ?_)
          refine .region ?_
          refine .m rfl rfl rfl (.loadM ag_38_VCon rfl ⟨rfl, Mem.of_get at13003⟩) ?_
          refine .m rfl rfl rfl (.move rfl) ?_
          have w_v48 := ConW.of_at bs_v48 lv_v48
          refine .call rfl rfl rfl rfl @Try.call17 rfl (markCone_c) ?_
          rintro _ H87 ⟨rfl, mk87⟩
          have sm87 := mk87.stm
          have nx_H87 := sm87.nx
          replace hle := StM.le_left hle sm87 (by omega)
          replace at3 := sm87.same _ _ (by omega) at3
          replace at4 := sm87.same _ _ (by omega) at4
          replace at5 := sm87.same _ _ (by omega) at5
          replace at12003 := sm87.same _ _ (by omega) at12003
          replace at13003 := sm87.same _ _ (by omega) at13003
          replace at14003 := sm87.same _ _ (by omega) at14003
          replace lv_v37 := Keep.stM lv_v37 sm87 (fun k hb hk => by omega)
          replace v37 := bs_v37.keep lv_v37 (Nat.le_refl _)
          replace lv_v39 := Keep.stM lv_v39 sm87 (fun k hb hk => by omega)
          replace v39 := bs_v39.keep lv_v39 (Nat.le_refl _)
          replace lv_v41 := Keep.stM lv_v41 sm87 (fun k hb hk => by omega)
          replace v41 := bs_v41.keep lv_v41 (Nat.le_refl _)
          replace lv_v42 := Keep.stM lv_v42 sm87 (fun k hb hk => by omega)
          replace v42 := bs_v42.keep lv_v42 (Nat.le_refl _)
          replace lv_v50 := Keep.stM lv_v50 sm87 (fun k hb hk => by omega)
          replace v50 := bs_v50.keep lv_v50 (Nat.le_refl _)
          replace lv_v55 := Keep.stM lv_v55 sm87 (fun k hb hk => by omega)
          replace v55 := bs_v55.keep lv_v55 (Nat.le_refl _)
          replace lv_v69 := Keep.stM lv_v69 sm87 (fun k hb hk => by omega)
          replace v69 := bs_v69.keep lv_v69 (Nat.le_refl _)
          replace lv_v74 := Keep.stM lv_v74 sm87 (fun k hb hk => by omega)
          replace v74 := bs_v74.keep lv_v74 (Nat.le_refl _)
          replace lv_v79 := Keep.stM lv_v79 sm87 (fun k hb hk => by omega)
          replace v79 := bs_v79.keep lv_v79 (Nat.le_refl _)
          replace h0 := base_h0.mono hle
          replace h1 := base_h1.mono hle
          replace h2 := base_h2.mono hle
          clear hb3 fs3 ft3 c103 c113 j13 j23 hm3 hi3 hms3 his3 hmt3 hit3
          have hb3 : Fun.At _ g3 0 d p := ⟨Mem.of_get at3, h0⟩
          obtain ⟨fs3, ft3, c103, c113, j13, j23⟩ := hb3.get
          have hm3 : MemN _ _ _ _ _ := ⟨rfl, hb3.1⟩
          have hi3 := hb3.2
          have hms3 : MemN _ _ _ _ _ := ⟨rfl, fs3.1⟩
          have his3 := fs3.2
          have hmt3 : MemN _ _ _ _ _ := ⟨rfl, ft3.1⟩
          have hit3 := ft3.2
          clear hb4 c04 c14 i14 hm4 hi4
          have hb4 : Con.At _ g4 0 m q := ⟨Mem.of_get at4, h1⟩
          obtain ⟨c04, c14, i14⟩ := hb4.get
          have hm4 : MemN _ _ _ _ _ := ⟨rfl, hb4.1⟩
          have hi4 := hb4.2
          clear hb5 c05 c15 i15 hm5 hi5
          have hb5 : Con.At _ g5 0 m' q' := ⟨Mem.of_get at5, h2⟩
          obtain ⟨c05, c15, i15⟩ := hb5.get
          have hm5 : MemN _ _ _ _ _ := ⟨rfl, hb5.1⟩
          have hi5 := hb5.2
          clear i37
          have i37 := v37.inn
          clear i39
          have i39 := v39.inn
          clear i41
          have i41 := v41.inn
          clear i42
          have i42 := v42.ints
          clear mm12003
          have mm12003 : MemN _ _ _ _ _ := ⟨rfl, Mem.of_get at12003⟩
          clear mm13003
          have mm13003 : MemN _ _ _ _ _ := ⟨rfl, Mem.of_get at13003⟩
          clear i50
          have i50 := v50.inn
          clear mm14003
          have mm14003 : MemN _ _ _ _ _ := ⟨rfl, Mem.of_get at14003⟩
          clear i55
          have i55 := v55.ints
          clear i69
          have i69 := v69.inn
          clear i74
          have i74 := v74.inn
          clear i79
          have i79 := v79.inn
          refine .m rfl rfl rfl (.assign rfl) ?_
          refine .nil ?_
          refine hK35 _ _ ?_
          refine .seq (fun K36 hK36 => ?_)
          refine .region ?_
          refine .m rfl rfl rfl (.loadM ag_38_VCon rfl ⟨rfl, Mem.of_get at14003⟩) ?_
          refine .m rfl rfl rfl (.move rfl) ?_
          have w_v50 := ConW.of_at bs_v50 lv_v50
          refine .call rfl rfl rfl rfl @Try.call17 rfl (markCone_c) ?_
          rintro _ H90 ⟨rfl, mk90⟩
          have sm90 := mk90.stm
          have nx_H90 := sm90.nx
          replace hle := StM.le_left hle sm90 (by omega)
          replace at3 := sm90.same _ _ (by omega) at3
          replace at4 := sm90.same _ _ (by omega) at4
          replace at5 := sm90.same _ _ (by omega) at5
          replace at12003 := sm90.same _ _ (by omega) at12003
          replace at13003 := sm90.same _ _ (by omega) at13003
          replace at14003 := sm90.same _ _ (by omega) at14003
          replace lv_v37 := Keep.stM lv_v37 sm90 (fun k hb hk => by omega)
          replace v37 := bs_v37.keep lv_v37 (Nat.le_refl _)
          replace lv_v39 := Keep.stM lv_v39 sm90 (fun k hb hk => by omega)
          replace v39 := bs_v39.keep lv_v39 (Nat.le_refl _)
          replace lv_v41 := Keep.stM lv_v41 sm90 (fun k hb hk => by omega)
          replace v41 := bs_v41.keep lv_v41 (Nat.le_refl _)
          replace lv_v42 := Keep.stM lv_v42 sm90 (fun k hb hk => by omega)
          replace v42 := bs_v42.keep lv_v42 (Nat.le_refl _)
          replace lv_v55 := Keep.stM lv_v55 sm90 (fun k hb hk => by omega)
          replace v55 := bs_v55.keep lv_v55 (Nat.le_refl _)
          replace lv_v69 := Keep.stM lv_v69 sm90 (fun k hb hk => by omega)
          replace v69 := bs_v69.keep lv_v69 (Nat.le_refl _)
          replace lv_v74 := Keep.stM lv_v74 sm90 (fun k hb hk => by omega)
          replace v74 := bs_v74.keep lv_v74 (Nat.le_refl _)
          replace lv_v79 := Keep.stM lv_v79 sm90 (fun k hb hk => by omega)
          replace v79 := bs_v79.keep lv_v79 (Nat.le_refl _)
          replace h0 := base_h0.mono hle
          replace h1 := base_h1.mono hle
          replace h2 := base_h2.mono hle
          clear hb3 fs3 ft3 c103 c113 j13 j23 hm3 hi3 hms3 his3 hmt3 hit3
          have hb3 : Fun.At _ g3 0 d p := ⟨Mem.of_get at3, h0⟩
          obtain ⟨fs3, ft3, c103, c113, j13, j23⟩ := hb3.get
          have hm3 : MemN _ _ _ _ _ := ⟨rfl, hb3.1⟩
          have hi3 := hb3.2
          have hms3 : MemN _ _ _ _ _ := ⟨rfl, fs3.1⟩
          have his3 := fs3.2
          have hmt3 : MemN _ _ _ _ _ := ⟨rfl, ft3.1⟩
          have hit3 := ft3.2
          clear hb4 c04 c14 i14 hm4 hi4
          have hb4 : Con.At _ g4 0 m q := ⟨Mem.of_get at4, h1⟩
          obtain ⟨c04, c14, i14⟩ := hb4.get
          have hm4 : MemN _ _ _ _ _ := ⟨rfl, hb4.1⟩
          have hi4 := hb4.2
          clear hb5 c05 c15 i15 hm5 hi5
          have hb5 : Con.At _ g5 0 m' q' := ⟨Mem.of_get at5, h2⟩
          obtain ⟨c05, c15, i15⟩ := hb5.get
          have hm5 : MemN _ _ _ _ _ := ⟨rfl, hb5.1⟩
          have hi5 := hb5.2
          clear i37
          have i37 := v37.inn
          clear i39
          have i39 := v39.inn
          clear i41
          have i41 := v41.inn
          clear i42
          have i42 := v42.ints
          clear mm12003
          have mm12003 : MemN _ _ _ _ _ := ⟨rfl, Mem.of_get at12003⟩
          clear mm13003
          have mm13003 : MemN _ _ _ _ _ := ⟨rfl, Mem.of_get at13003⟩
          clear mm14003
          have mm14003 : MemN _ _ _ _ _ := ⟨rfl, Mem.of_get at14003⟩
          clear i55
          have i55 := v55.ints
          clear i69
          have i69 := v69.inn
          clear i74
          have i74 := v74.inn
          clear i79
          have i79 := v79.inn
          refine .m rfl rfl rfl (.assign rfl) ?_
          refine .nil ?_
          refine hK36 _ _ ?_
          refine .seq (fun K37 hK37 => ?_)
          refine .seq (fun K38 hK38 => ?_)
          refine .region ?_
          refine .m rfl rfl rfl (.move rfl) ?_
          refine .m rfl rfl rfl (.cmp rfl rfl rfl) ?_
          refine .m rfl rfl rfl (.move rfl) ?_
          refine .split (fun h93 => ?_) (fun h93 => ?_)
          ·
           try simp only [sps] at h93
           refine .sg rfl rfl rfl rfl rfl ?_
           refine .sg rfl rfl rfl rfl rfl ?_
           refine .sg rfl rfl rfl rfl rfl ?_
           refine .sg rfl rfl rfl rfl rfl ?_
           refine .m rfl rfl rfl (.pickT rfl rfl) ?_
           refine .m rfl rfl rfl (.move rfl) ?_
           refine .sg rfl rfl rfl rfl rfl ?_
           refine .sg rfl rfl rfl rfl rfl ?_
           refine .sg rfl rfl rfl rfl rfl ?_
           refine .m rfl rfl rfl (.pickT rfl rfl) ?_
           refine .nil ?_
           refine hK38 _ _ ?_
           refine .condT rfl ?_
           refine .seq (fun K39 hK39 => ?_)
           refine .region ?_
           refine .m rfl rfl rfl (.assign rfl) ?_
           refine .nil ?_
           refine hK39 _ _ ?_
           refine .ret ?_
           -- leaf e9
           refine hret _ _ ?_
           refine ⟨_, rfl, ?_⟩
           first
           | exact rfl
           | exact absurd trivial (by assumption)
           | contradiction
           | (exfalso; omega)
          ·
           try simp only [sps] at h93
           refine .mg rfl rfl rfl rfl rfl (.move rfl) ?_
           refine .mg rfl rfl rfl rfl rfl (.move rfl) ?_
           refine .callQg rfl rfl rfl rfl rfl rfl @Try.call13 rfl (eqInt64S_c) ?_
           refine .mg rfl rfl rfl rfl rfl (.not rfl) ?_
           refine .m rfl rfl rfl (.pickF rfl rfl) ?_
           refine .m rfl rfl rfl (.move rfl) ?_
           refine .split (fun h99 => ?_) (fun h99 => ?_)
           ·
            try simp only [sps] at h99
            refine .sg rfl rfl rfl rfl rfl ?_
            refine .sg rfl rfl rfl rfl rfl ?_
            refine .sg rfl rfl rfl rfl rfl ?_
            refine .m rfl rfl rfl (.pickT rfl rfl) ?_
            refine .nil ?_
            refine hK38 _ _ ?_
            refine .condT rfl ?_
            refine .seq (fun K40 hK40 => ?_)
            refine .region ?_
            refine .m rfl rfl rfl (.assign rfl) ?_
            refine .nil ?_
            refine hK40 _ _ ?_
            refine .ret ?_
            -- leaf e10
            refine hret _ _ ?_
            refine ⟨_, rfl, ?_⟩
            first
            | exact rfl
            | exact absurd trivial (by assumption)
            | contradiction
            | (exfalso; omega)
           ·
            try simp only [sps] at h99
            refine .mg rfl rfl rfl rfl rfl (.move rfl) ?_
            refine .mg rfl rfl rfl rfl rfl (.move rfl) ?_
            refine .mg rfl rfl rfl rfl rfl (.cmp rfl rfl rfl) ?_
            refine .m rfl rfl rfl (.pickF rfl rfl) ?_
            refine .nil ?_
            refine hK38 _ _ ?_
            refine .cond rfl (fun h103 => ?_) (fun h103 => ?_)
            ·
             try simp only [sps] at h103
             refine .seq (fun K41 hK41 => ?_)
             refine .region ?_
             refine .m rfl rfl rfl (.assign rfl) ?_
             refine .nil ?_
             refine hK41 _ _ ?_
             refine .ret ?_
             -- leaf e11
             refine hret _ _ ?_
             refine ⟨_, rfl, ?_⟩
             first
             | exact rfl
             | exact absurd trivial (by assumption)
             | contradiction
             | (exfalso; omega)
            ·
             try simp only [sps] at h103
             refine .skip ?_
             refine hK37 _ _ ?_
             refine .seq (fun K42 hK42 => ?_)
             refine .region ?_
             refine .m rfl rfl rfl (.assign rfl) ?_
             refine .nil ?_
             refine hK42 _ _ ?_
             refine .seq (fun K43 hK43 => ?_)
             refine .region ?_
             refine .m rfl rfl rfl (.move rfl) ?_
             refine .m rfl rfl rfl (.move rfl) ?_
             have w_v55 := IntsW.of_r bs_v55 lv_v55
             refine .call rfl rfl rfl rfl @Try.call18 rfl (markInt64S_c) ?_
             rintro _ H106 ⟨rfl, mk106⟩
             have sm106 := mk106.stm
             have nx_H106 := sm106.nx
             replace hle := StM.le_left hle sm106 (by omega)
             replace at3 := sm106.same _ _ (by omega) at3
             replace at4 := sm106.same _ _ (by omega) at4
             replace at5 := sm106.same _ _ (by omega) at5
             replace at12003 := sm106.same _ _ (by omega) at12003
             replace at13003 := sm106.same _ _ (by omega) at13003
             replace at14003 := sm106.same _ _ (by omega) at14003
             replace lv_v37 := Keep.stM lv_v37 sm106 (fun k hb hk => by omega)
             replace v37 := bs_v37.keep lv_v37 (Nat.le_refl _)
             replace lv_v39 := Keep.stM lv_v39 sm106 (fun k hb hk => by omega)
             replace v39 := bs_v39.keep lv_v39 (Nat.le_refl _)
             replace lv_v41 := Keep.stM lv_v41 sm106 (fun k hb hk => by omega)
             replace v41 := bs_v41.keep lv_v41 (Nat.le_refl _)
             replace lv_v42 := Keep.stM lv_v42 sm106 (fun k hb hk => by omega)
             replace v42 := bs_v42.keep lv_v42 (Nat.le_refl _)
             replace lv_v69 := Keep.stM lv_v69 sm106 (fun k hb hk => by omega)
             replace v69 := bs_v69.keep lv_v69 (Nat.le_refl _)
             replace lv_v74 := Keep.stM lv_v74 sm106 (fun k hb hk => by omega)
             replace v74 := bs_v74.keep lv_v74 (Nat.le_refl _)
             replace lv_v79 := Keep.stM lv_v79 sm106 (fun k hb hk => by omega)
             replace v79 := bs_v79.keep lv_v79 (Nat.le_refl _)
             replace h0 := base_h0.mono hle
             replace h1 := base_h1.mono hle
             replace h2 := base_h2.mono hle
             clear hb3 fs3 ft3 c103 c113 j13 j23 hm3 hi3 hms3 his3 hmt3 hit3
             have hb3 : Fun.At _ g3 0 d p := ⟨Mem.of_get at3, h0⟩
             obtain ⟨fs3, ft3, c103, c113, j13, j23⟩ := hb3.get
             have hm3 : MemN _ _ _ _ _ := ⟨rfl, hb3.1⟩
             have hi3 := hb3.2
             have hms3 : MemN _ _ _ _ _ := ⟨rfl, fs3.1⟩
             have his3 := fs3.2
             have hmt3 : MemN _ _ _ _ _ := ⟨rfl, ft3.1⟩
             have hit3 := ft3.2
             clear hb4 c04 c14 i14 hm4 hi4
             have hb4 : Con.At _ g4 0 m q := ⟨Mem.of_get at4, h1⟩
             obtain ⟨c04, c14, i14⟩ := hb4.get
             have hm4 : MemN _ _ _ _ _ := ⟨rfl, hb4.1⟩
             have hi4 := hb4.2
             clear hb5 c05 c15 i15 hm5 hi5
             have hb5 : Con.At _ g5 0 m' q' := ⟨Mem.of_get at5, h2⟩
             obtain ⟨c05, c15, i15⟩ := hb5.get
             have hm5 : MemN _ _ _ _ _ := ⟨rfl, hb5.1⟩
             have hi5 := hb5.2
             clear i37
             have i37 := v37.inn
             clear i39
             have i39 := v39.inn
             clear i41
             have i41 := v41.inn
             clear i42
             have i42 := v42.ints
             clear mm12003
             have mm12003 : MemN _ _ _ _ _ := ⟨rfl, Mem.of_get at12003⟩
             clear mm13003
             have mm13003 : MemN _ _ _ _ _ := ⟨rfl, Mem.of_get at13003⟩
             clear mm14003
             have mm14003 : MemN _ _ _ _ _ := ⟨rfl, Mem.of_get at14003⟩
             clear i69
             have i69 := v69.inn
             clear i74
             have i74 := v74.inn
             clear i79
             have i79 := v79.inn
             have hd106 := mk106.held (IntsR.nodup)
             have wd106 := w_v55.stm sm106
             have bs_hd106 := hd106
             have lv_hd106 : Keep H14003.next H106 H106 := fun _ _ _ h => h
             have bs_wd106 := wd106
             have lv_wd106 : Keep H14003.next H106 H106 := fun _ _ _ h => h
             refine .m rfl rfl rfl (.assign rfl) ?_
             refine .nil ?_
             refine hK43 _ _ ?_
             refine .seq (fun K44 hK44 => ?_)
             refine .region ?_
             refine .m rfl rfl rfl (.assign rfl) ?_
             refine .nil ?_
             refine hK44 _ _ ?_
             refine .seq (fun K45 hK45 => ?_)
             refine .region ?_
             refine .m rfl rfl rfl (.move rfl) ?_
             refine .m rfl rfl rfl (.move rfl) ?_
             refine .callQ rfl rfl rfl rfl @Try.call19 rfl (heldInt64S_c) ?_
             refine .m rfl rfl rfl (.assign rfl) ?_
             refine .nil ?_
             refine hK45 _ _ ?_
             refine .seq (fun K46 hK46 => ?_)
             refine .seq (fun K47 hK47 => ?_)
             refine .region ?_
             refine .m rfl rfl rfl (.move rfl) ?_
             refine .m rfl rfl rfl (.cmp rfl rfl rfl) ?_
             refine .nil ?_
             refine hK47 _ _ ?_
             refine .cond rfl (fun h111 => ?_) (fun h111 => ?_)
             ·
              try simp only [sps] at h111
              refine .seq (fun K48 hK48 => ?_)
              refine .region ?_
              refine .m rfl rfl rfl (.assign rfl) ?_
              refine .nil ?_
              refine hK48 _ _ ?_
              refine .ret ?_
              -- leaf e12
              refine hret _ _ ?_
              refine ⟨_, rfl, ?_⟩
              first
              | exact rfl
              | exact absurd trivial (by assumption)
              | contradiction
              | (exfalso; omega)
             ·
              try simp only [sps] at h111
              refine .skip ?_
              refine hK46 _ _ ?_
              refine .seq (fun K49 hK49 => ?_)
              refine .seq (fun K50 hK50 => ?_)
              refine .region ?_
              refine .m rfl rfl rfl (.move rfl) ?_
              refine .m rfl rfl rfl (.move rfl) ?_
              refine .m rfl rfl rfl (.cmp rfl rfl rfl) ?_
              refine .nil ?_
              refine hK50 _ _ ?_
              refine .cond rfl (fun h114 => ?_) (fun h114 => ?_)
              ·
               try simp only [sps] at h114
               refine .seq (fun K51 hK51 => ?_)
               refine .region ?_
               refine .m rfl rfl rfl (.assign rfl) ?_
               refine .nil ?_
               refine hK51 _ _ ?_
               refine .ret ?_
               -- leaf e13
               refine hret _ _ ?_
               refine ⟨_, rfl, ?_⟩
               first
               | exact rfl
               | exact absurd trivial (by assumption)
               | contradiction
               | (exfalso; omega)
              ·
               try simp only [sps] at h114
               refine .skip ?_
               refine hK49 _ _ ?_
               refine .seq (fun K52 hK52 => ?_)
               refine .regionD mixed_orders_B (.q 0 (.q 2 (.q 4 (.c 1 1 (.c 3 1 (.c 5 0 (.c 6 0 (.q 7 (.q 8 (.q 9 (.q 10 (.q 11 (.done))))))))))))) (by kernel_rfl) ?_
               refine .m rfl rfl rfl rfl (.refl _) (.loadM ag_27_LConeMaps rfl ⟨rfl, Mem.of_get at3⟩) ?_
               refine .m rfl rfl rfl rfl (.refl _) (.loadM ag_29_LConeMaps rfl ⟨rfl, Mem.of_get at4⟩) ?_
               refine .m rfl rfl rfl rfl (.refl _) (.loadM ag_29_LConeMaps rfl ⟨rfl, Mem.of_get at5⟩) ?_
               refine .call1 rfl rfl rfl rfl rfl @Try.call10 rfl (toFunctor_c) ?_
               rintro _ H117 ⟨le117, p117, rfl, v117⟩
               have hbl := le117
               refine ⟨hbl, ?_⟩
               have nx_H117 := le117.1
               replace hle := hle.trans le117
               replace at3 := le117.2 _ _ at3
               replace at4 := le117.2 _ _ at4
               replace at5 := le117.2 _ _ at5
               replace at12003 := le117.2 _ _ at12003
               replace at13003 := le117.2 _ _ at13003
               replace at14003 := le117.2 _ _ at14003
               replace lv_v37 := Keep.le lv_v37 le117
               replace v37 := bs_v37.keep lv_v37 (Nat.le_refl _)
               replace lv_v39 := Keep.le lv_v39 le117
               replace v39 := bs_v39.keep lv_v39 (Nat.le_refl _)
               replace lv_v41 := Keep.le lv_v41 le117
               replace v41 := bs_v41.keep lv_v41 (Nat.le_refl _)
               replace lv_v42 := Keep.le lv_v42 le117
               replace v42 := bs_v42.keep lv_v42 (Nat.le_refl _)
               replace lv_v69 := Keep.le lv_v69 le117
               replace v69 := bs_v69.keep lv_v69 (Nat.le_refl _)
               replace lv_v74 := Keep.le lv_v74 le117
               replace v74 := bs_v74.keep lv_v74 (Nat.le_refl _)
               replace lv_v79 := Keep.le lv_v79 le117
               replace v79 := bs_v79.keep lv_v79 (Nat.le_refl _)
               replace lv_hd106 := Keep.le lv_hd106 le117
               replace hd106 := bs_hd106.keep lv_hd106 (Nat.le_refl _)
               replace lv_wd106 := Keep.le lv_wd106 le117
               replace wd106 := bs_wd106.keep lv_wd106 (Nat.le_refl _)
               have bs_v117 := v117
               have lv_v117 : Keep H106.next H117 H117 := fun _ _ _ h => h
               replace h0 := base_h0.mono hle
               replace h1 := base_h1.mono hle
               replace h2 := base_h2.mono hle
               clear hb3 fs3 ft3 c103 c113 j13 j23 hm3 hi3 hms3 his3 hmt3 hit3
               have hb3 : Fun.At _ g3 0 d p := ⟨Mem.of_get at3, h0⟩
               obtain ⟨fs3, ft3, c103, c113, j13, j23⟩ := hb3.get
               have hm3 : MemN _ _ _ _ _ := ⟨rfl, hb3.1⟩
               have hi3 := hb3.2
               have hms3 : MemN _ _ _ _ _ := ⟨rfl, fs3.1⟩
               have his3 := fs3.2
               have hmt3 : MemN _ _ _ _ _ := ⟨rfl, ft3.1⟩
               have hit3 := ft3.2
               clear hb4 c04 c14 i14 hm4 hi4
               have hb4 : Con.At _ g4 0 m q := ⟨Mem.of_get at4, h1⟩
               obtain ⟨c04, c14, i14⟩ := hb4.get
               have hm4 : MemN _ _ _ _ _ := ⟨rfl, hb4.1⟩
               have hi4 := hb4.2
               clear hb5 c05 c15 i15 hm5 hi5
               have hb5 : Con.At _ g5 0 m' q' := ⟨Mem.of_get at5, h2⟩
               obtain ⟨c05, c15, i15⟩ := hb5.get
               have hm5 : MemN _ _ _ _ _ := ⟨rfl, hb5.1⟩
               have hi5 := hb5.2
               clear i37
               have i37 := v37.inn
               clear i39
               have i39 := v39.inn
               clear i41
               have i41 := v41.inn
               clear i42
               have i42 := v42.ints
               clear mm12003
               have mm12003 : MemN _ _ _ _ _ := ⟨rfl, Mem.of_get at12003⟩
               clear mm13003
               have mm13003 : MemN _ _ _ _ _ := ⟨rfl, Mem.of_get at13003⟩
               clear mm14003
               have mm14003 : MemN _ _ _ _ _ := ⟨rfl, Mem.of_get at14003⟩
               clear i69
               have i69 := v69.inn
               clear i74
               have i74 := v74.inn
               clear i79
               have i79 := v79.inn
               have i117 := v117.inn
               refine .call1 rfl rfl rfl rfl rfl @Try.call11 rfl (toCone_c) ?_
               rintro _ H119 ⟨le119, p119, rfl, v119⟩
               replace hbl := hbl.trans le119
               refine ⟨hbl, ?_⟩
               have nx_H119 := le119.1
               replace hle := hle.trans le119
               replace at3 := le119.2 _ _ at3
               replace at4 := le119.2 _ _ at4
               replace at5 := le119.2 _ _ at5
               replace at12003 := le119.2 _ _ at12003
               replace at13003 := le119.2 _ _ at13003
               replace at14003 := le119.2 _ _ at14003
               replace lv_v37 := Keep.le lv_v37 le119
               replace v37 := bs_v37.keep lv_v37 (Nat.le_refl _)
               replace lv_v39 := Keep.le lv_v39 le119
               replace v39 := bs_v39.keep lv_v39 (Nat.le_refl _)
               replace lv_v41 := Keep.le lv_v41 le119
               replace v41 := bs_v41.keep lv_v41 (Nat.le_refl _)
               replace lv_v42 := Keep.le lv_v42 le119
               replace v42 := bs_v42.keep lv_v42 (Nat.le_refl _)
               replace lv_v69 := Keep.le lv_v69 le119
               replace v69 := bs_v69.keep lv_v69 (Nat.le_refl _)
               replace lv_v74 := Keep.le lv_v74 le119
               replace v74 := bs_v74.keep lv_v74 (Nat.le_refl _)
               replace lv_v79 := Keep.le lv_v79 le119
               replace v79 := bs_v79.keep lv_v79 (Nat.le_refl _)
               replace lv_hd106 := Keep.le lv_hd106 le119
               replace hd106 := bs_hd106.keep lv_hd106 (Nat.le_refl _)
               replace lv_wd106 := Keep.le lv_wd106 le119
               replace wd106 := bs_wd106.keep lv_wd106 (Nat.le_refl _)
               replace lv_v117 := Keep.le lv_v117 le119
               replace v117 := bs_v117.keep lv_v117 (Nat.le_refl _)
               have bs_v119 := v119
               have lv_v119 : Keep H117.next H119 H119 := fun _ _ _ h => h
               replace h0 := base_h0.mono hle
               replace h1 := base_h1.mono hle
               replace h2 := base_h2.mono hle
               clear hb3 fs3 ft3 c103 c113 j13 j23 hm3 hi3 hms3 his3 hmt3 hit3
               have hb3 : Fun.At _ g3 0 d p := ⟨Mem.of_get at3, h0⟩
               obtain ⟨fs3, ft3, c103, c113, j13, j23⟩ := hb3.get
               have hm3 : MemN _ _ _ _ _ := ⟨rfl, hb3.1⟩
               have hi3 := hb3.2
               have hms3 : MemN _ _ _ _ _ := ⟨rfl, fs3.1⟩
               have his3 := fs3.2
               have hmt3 : MemN _ _ _ _ _ := ⟨rfl, ft3.1⟩
               have hit3 := ft3.2
               clear hb4 c04 c14 i14 hm4 hi4
               have hb4 : Con.At _ g4 0 m q := ⟨Mem.of_get at4, h1⟩
               obtain ⟨c04, c14, i14⟩ := hb4.get
               have hm4 : MemN _ _ _ _ _ := ⟨rfl, hb4.1⟩
               have hi4 := hb4.2
               clear hb5 c05 c15 i15 hm5 hi5
               have hb5 : Con.At _ g5 0 m' q' := ⟨Mem.of_get at5, h2⟩
               obtain ⟨c05, c15, i15⟩ := hb5.get
               have hm5 : MemN _ _ _ _ _ := ⟨rfl, hb5.1⟩
               have hi5 := hb5.2
               clear i37
               have i37 := v37.inn
               clear i39
               have i39 := v39.inn
               clear i41
               have i41 := v41.inn
               clear i42
               have i42 := v42.ints
               clear mm12003
               have mm12003 : MemN _ _ _ _ _ := ⟨rfl, Mem.of_get at12003⟩
               clear mm13003
               have mm13003 : MemN _ _ _ _ _ := ⟨rfl, Mem.of_get at13003⟩
               clear mm14003
               have mm14003 : MemN _ _ _ _ _ := ⟨rfl, Mem.of_get at14003⟩
               clear i69
               have i69 := v69.inn
               clear i74
               have i74 := v74.inn
               clear i79
               have i79 := v79.inn
               clear i117
               have i117 := v117.inn
               have i119 := v119.inn
               refine .call0 rfl rfl rfl rfl rfl @Try.call11 rfl (toCone_c) ?_
               rintro _ H121 ⟨le121, p121, rfl, v121⟩
               have nx_H121 := le121.1
               replace hle := hle.trans le121
               replace at3 := le121.2 _ _ at3
               replace at4 := le121.2 _ _ at4
               replace at5 := le121.2 _ _ at5
               replace at12003 := le121.2 _ _ at12003
               replace at13003 := le121.2 _ _ at13003
               replace at14003 := le121.2 _ _ at14003
               replace lv_v37 := Keep.le lv_v37 le121
               replace v37 := bs_v37.keep lv_v37 (Nat.le_refl _)
               replace lv_v39 := Keep.le lv_v39 le121
               replace v39 := bs_v39.keep lv_v39 (Nat.le_refl _)
               replace lv_v41 := Keep.le lv_v41 le121
               replace v41 := bs_v41.keep lv_v41 (Nat.le_refl _)
               replace lv_v42 := Keep.le lv_v42 le121
               replace v42 := bs_v42.keep lv_v42 (Nat.le_refl _)
               replace lv_v69 := Keep.le lv_v69 le121
               replace v69 := bs_v69.keep lv_v69 (Nat.le_refl _)
               replace lv_v74 := Keep.le lv_v74 le121
               replace v74 := bs_v74.keep lv_v74 (Nat.le_refl _)
               replace lv_v79 := Keep.le lv_v79 le121
               replace v79 := bs_v79.keep lv_v79 (Nat.le_refl _)
               replace lv_hd106 := Keep.le lv_hd106 le121
               replace hd106 := bs_hd106.keep lv_hd106 (Nat.le_refl _)
               replace lv_wd106 := Keep.le lv_wd106 le121
               replace wd106 := bs_wd106.keep lv_wd106 (Nat.le_refl _)
               replace lv_v117 := Keep.le lv_v117 le121
               replace v117 := bs_v117.keep lv_v117 (Nat.le_refl _)
               replace lv_v119 := Keep.le lv_v119 le121
               replace v119 := bs_v119.keep lv_v119 (Nat.le_refl _)
               have bs_v121 := v121
               have lv_v121 : Keep H119.next H121 H121 := fun _ _ _ h => h
               replace h0 := base_h0.mono hle
               replace h1 := base_h1.mono hle
               replace h2 := base_h2.mono hle
               clear hb3 fs3 ft3 c103 c113 j13 j23 hm3 hi3 hms3 his3 hmt3 hit3
               have hb3 : Fun.At _ g3 0 d p := ⟨Mem.of_get at3, h0⟩
               obtain ⟨fs3, ft3, c103, c113, j13, j23⟩ := hb3.get
               have hm3 : MemN _ _ _ _ _ := ⟨rfl, hb3.1⟩
               have hi3 := hb3.2
               have hms3 : MemN _ _ _ _ _ := ⟨rfl, fs3.1⟩
               have his3 := fs3.2
               have hmt3 : MemN _ _ _ _ _ := ⟨rfl, ft3.1⟩
               have hit3 := ft3.2
               clear hb4 c04 c14 i14 hm4 hi4
               have hb4 : Con.At _ g4 0 m q := ⟨Mem.of_get at4, h1⟩
               obtain ⟨c04, c14, i14⟩ := hb4.get
               have hm4 : MemN _ _ _ _ _ := ⟨rfl, hb4.1⟩
               have hi4 := hb4.2
               clear hb5 c05 c15 i15 hm5 hi5
               have hb5 : Con.At _ g5 0 m' q' := ⟨Mem.of_get at5, h2⟩
               obtain ⟨c05, c15, i15⟩ := hb5.get
               have hm5 : MemN _ _ _ _ _ := ⟨rfl, hb5.1⟩
               have hi5 := hb5.2
               clear i37
               have i37 := v37.inn
               clear i39
               have i39 := v39.inn
               clear i41
               have i41 := v41.inn
               clear i42
               have i42 := v42.ints
               clear mm12003
               have mm12003 : MemN _ _ _ _ _ := ⟨rfl, Mem.of_get at12003⟩
               clear mm13003
               have mm13003 : MemN _ _ _ _ _ := ⟨rfl, Mem.of_get at13003⟩
               clear mm14003
               have mm14003 : MemN _ _ _ _ _ := ⟨rfl, Mem.of_get at14003⟩
               clear i69
               have i69 := v69.inn
               clear i74
               have i74 := v74.inn
               clear i79
               have i79 := v79.inn
               clear i117
               have i117 := v117.inn
               clear i119
               have i119 := v119.inn
               have i121 := v121.inn
               refine .call0 rfl rfl rfl rfl rfl @Try.call12 rfl (implConeMaps_c) ?_
               rintro _ H122 ⟨le122, a122, rfl, v122⟩
               have nx_H122 := le122.1
               replace hle := hle.trans le122
               replace at3 := le122.2 _ _ at3
               replace at4 := le122.2 _ _ at4
               replace at5 := le122.2 _ _ at5
               replace at12003 := le122.2 _ _ at12003
               replace at13003 := le122.2 _ _ at13003
               replace at14003 := le122.2 _ _ at14003
               replace lv_v37 := Keep.le lv_v37 le122
               replace v37 := bs_v37.keep lv_v37 (Nat.le_refl _)
               replace lv_v39 := Keep.le lv_v39 le122
               replace v39 := bs_v39.keep lv_v39 (Nat.le_refl _)
               replace lv_v41 := Keep.le lv_v41 le122
               replace v41 := bs_v41.keep lv_v41 (Nat.le_refl _)
               replace lv_v42 := Keep.le lv_v42 le122
               replace v42 := bs_v42.keep lv_v42 (Nat.le_refl _)
               replace lv_v69 := Keep.le lv_v69 le122
               replace v69 := bs_v69.keep lv_v69 (Nat.le_refl _)
               replace lv_v74 := Keep.le lv_v74 le122
               replace v74 := bs_v74.keep lv_v74 (Nat.le_refl _)
               replace lv_v79 := Keep.le lv_v79 le122
               replace v79 := bs_v79.keep lv_v79 (Nat.le_refl _)
               replace lv_hd106 := Keep.le lv_hd106 le122
               replace hd106 := bs_hd106.keep lv_hd106 (Nat.le_refl _)
               replace lv_wd106 := Keep.le lv_wd106 le122
               replace wd106 := bs_wd106.keep lv_wd106 (Nat.le_refl _)
               replace lv_v117 := Keep.le lv_v117 le122
               replace v117 := bs_v117.keep lv_v117 (Nat.le_refl _)
               replace lv_v119 := Keep.le lv_v119 le122
               replace v119 := bs_v119.keep lv_v119 (Nat.le_refl _)
               replace lv_v121 := Keep.le lv_v121 le122
               replace v121 := bs_v121.keep lv_v121 (Nat.le_refl _)
               have bs_v122 := v122
               have lv_v122 : Keep H121.next H122 H122 := fun _ _ _ h => h
               replace h0 := base_h0.mono hle
               replace h1 := base_h1.mono hle
               replace h2 := base_h2.mono hle
               clear hb3 fs3 ft3 c103 c113 j13 j23 hm3 hi3 hms3 his3 hmt3 hit3
               have hb3 : Fun.At _ g3 0 d p := ⟨Mem.of_get at3, h0⟩
               obtain ⟨fs3, ft3, c103, c113, j13, j23⟩ := hb3.get
               have hm3 : MemN _ _ _ _ _ := ⟨rfl, hb3.1⟩
               have hi3 := hb3.2
               have hms3 : MemN _ _ _ _ _ := ⟨rfl, fs3.1⟩
               have his3 := fs3.2
               have hmt3 : MemN _ _ _ _ _ := ⟨rfl, ft3.1⟩
               have hit3 := ft3.2
               clear hb4 c04 c14 i14 hm4 hi4
               have hb4 : Con.At _ g4 0 m q := ⟨Mem.of_get at4, h1⟩
               obtain ⟨c04, c14, i14⟩ := hb4.get
               have hm4 : MemN _ _ _ _ _ := ⟨rfl, hb4.1⟩
               have hi4 := hb4.2
               clear hb5 c05 c15 i15 hm5 hi5
               have hb5 : Con.At _ g5 0 m' q' := ⟨Mem.of_get at5, h2⟩
               obtain ⟨c05, c15, i15⟩ := hb5.get
               have hm5 : MemN _ _ _ _ _ := ⟨rfl, hb5.1⟩
               have hi5 := hb5.2
               clear i37
               have i37 := v37.inn
               clear i39
               have i39 := v39.inn
               clear i41
               have i41 := v41.inn
               clear i42
               have i42 := v42.ints
               clear mm12003
               have mm12003 : MemN _ _ _ _ _ := ⟨rfl, Mem.of_get at12003⟩
               clear mm13003
               have mm13003 : MemN _ _ _ _ _ := ⟨rfl, Mem.of_get at13003⟩
               clear mm14003
               have mm14003 : MemN _ _ _ _ _ := ⟨rfl, Mem.of_get at14003⟩
               clear i69
               have i69 := v69.inn
               clear i74
               have i74 := v74.inn
               clear i79
               have i79 := v79.inn
               clear i117
               have i117 := v117.inn
               clear i119
               have i119 := v119.inn
               clear i121
               have i121 := v121.inn
               have i122 := v122.ints
               refine .m rfl rfl rfl rfl (.refl _) (.move rfl) ?_
               refine .m rfl rfl rfl rfl (.refl _) (.extract rfl rfl) ?_
               refine .m rfl rfl rfl rfl (.refl _) (.extract rfl rfl) ?_
               refine .m rfl rfl rfl rfl (.refl _) (.assign rfl) ?_
               refine .m rfl rfl rfl rfl (.refl _) (.assign rfl) ?_
               refine .done ?_
               refine hK52 _ _ ?_
               refine .seq (fun K53 hK53 => ?_)
               refine .seq (fun K54 hK54 => ?_)
               refine .region ?_
               refine .m rfl rfl rfl (.move rfl) ?_
               refine .m rfl rfl rfl (.move rfl) ?_
               refine .callQ rfl rfl rfl rfl @Try.call13 rfl (eqInt64S_c) ?_
               refine .m rfl rfl rfl (.not rfl) ?_
               refine .m rfl rfl rfl (.move rfl) ?_
               refine .split (fun h129 => ?_) (fun h129 => ?_)
               ·
                try simp only [sps] at h129
                refine .sg rfl rfl rfl rfl rfl ?_
                refine .sg rfl rfl rfl rfl rfl ?_
                refine .sg rfl rfl rfl rfl rfl ?_
                refine .m rfl rfl rfl (.pickT rfl rfl) ?_
                refine .nil ?_
                refine hK54 _ _ ?_
                refine .condT rfl ?_
                refine .seq (fun K55 hK55 => ?_)
                refine .region ?_
                refine .m rfl rfl rfl (.assign rfl) ?_
                refine .nil ?_
                refine hK55 _ _ ?_
                refine .ret ?_
                -- leaf e14
                refine hret _ _ ?_
                refine ⟨_, rfl, ?_⟩
                first
                | exact rfl
                | exact absurd trivial (by assumption)
                | contradiction
                | (exfalso; omega)
               ·
                try simp only [sps] at h129
                refine .mg rfl rfl rfl rfl rfl (.move rfl) ?_
                refine .mg rfl rfl rfl rfl rfl (.move rfl) ?_
                refine .mg rfl rfl rfl rfl rfl (.cmp rfl rfl rfl) ?_
                refine .m rfl rfl rfl (.pickF rfl rfl) ?_
                refine .nil ?_
                refine hK54 _ _ ?_
                refine .cond rfl (fun h133 => ?_) (fun h133 => ?_)
                ·
                 try simp only [sps] at h133
                 refine .seq (fun K56 hK56 => ?_)
                 refine .region ?_
                 refine .m rfl rfl rfl (.assign rfl) ?_
                 refine .nil ?_
                 refine hK56 _ _ ?_
                 refine .ret ?_
                 -- leaf e15
                 refine hret _ _ ?_
                 refine ⟨_, rfl, ?_⟩
                 first
                 | exact rfl
                 | exact absurd trivial (by assumption)
                 | contradiction
                 | (exfalso; omega)
                ·
                 try simp only [sps] at h133
                 refine .skip ?_
                 refine hK53 _ _ ?_
                 refine .seq (fun K57 hK57 => ?_)
                 refine .region ?_
                 refine .m rfl rfl rfl (.assign rfl) ?_
                 refine .nil ?_
                 refine hK57 _ _ ?_
                 refine .seq (fun K58 hK58 => ?_)
                 refine .region ?_
                 refine .m rfl rfl rfl (.move rfl) ?_
                 refine .m rfl rfl rfl (.move rfl) ?_
                 refine .callQ rfl rfl rfl rfl @Try.call19 rfl (heldInt64S_c) ?_
                 refine .m rfl rfl rfl (.assign rfl) ?_
                 refine .nil ?_
                 refine hK58 _ _ ?_
                 refine .seq (fun K59 hK59 => ?_)
                 refine .seq (fun K60 hK60 => ?_)
                 refine .region ?_
                 refine .m rfl rfl rfl (.move rfl) ?_
                 refine .m rfl rfl rfl (.cmp rfl rfl rfl) ?_
                 refine .nil ?_
                 refine hK60 _ _ ?_
                 refine .cond rfl (fun h138 => ?_) (fun h138 => ?_)
                 ·
                  try simp only [sps] at h138
                  refine .seq (fun K61 hK61 => ?_)
                  refine .region ?_
                  refine .m rfl rfl rfl (.assign rfl) ?_
                  refine .nil ?_
                  refine hK61 _ _ ?_
                  refine .ret ?_
                  -- leaf e16
                  refine hret _ _ ?_
                  refine ⟨_, rfl, ?_⟩
                  first
                  | exact rfl
                  | exact absurd trivial (by assumption)
                  | contradiction
                  | (exfalso; omega)
                 ·
                  try simp only [sps] at h138
                  refine .skip ?_
                  refine hK59 _ _ ?_
                  refine .seq (fun K62 hK62 => ?_)
                  refine .seq (fun K63 hK63 => ?_)
                  refine .region ?_
                  refine .m rfl rfl rfl (.move rfl) ?_
                  refine .m rfl rfl rfl (.move rfl) ?_
                  refine .m rfl rfl rfl (.cmp rfl rfl rfl) ?_
                  refine .nil ?_
                  refine hK63 _ _ ?_
                  refine .cond rfl (fun h141 => ?_) (fun h141 => ?_)
                  ·
                   try simp only [sps] at h141
                   refine .seq (fun K64 hK64 => ?_)
                   refine .region ?_
                   refine .m rfl rfl rfl (.assign rfl) ?_
                   refine .nil ?_
                   refine hK64 _ _ ?_
                   refine .ret ?_
                   -- leaf e17
                   refine hret _ _ ?_
                   refine ⟨_, rfl, ?_⟩
                   first
                   | exact rfl
                   | exact absurd trivial (by assumption)
                   | contradiction
                   | (exfalso; omega)
                  ·
                   try simp only [sps] at h141
                   refine .skip ?_
                   refine hK62 _ _ ?_
                   refine .seq (fun K65 hK65 => ?_)
                   refine .region ?_
                   refine .m rfl rfl rfl (.assign rfl) ?_
                   refine .nil ?_
                   refine hK65 _ _ ?_
                   refine .ret ?_
                   -- leaf e18
                   refine hret _ _ ?_
                   refine ⟨_, rfl, ?_⟩
                   first
                   | exact rfl
                   | exact absurd trivial (by assumption)
                   | contradiction
                   | (exfalso; omega)
end Go.Proofs.Ytbdaddkbkdiglaa
/- The call of a law, whatever it takes: the arguments brought in one by one. No condition. -/
namespace Go.GL
open Go.RowKit Go.WideShapes Go.ChangeShapes Go.Deep

/-- An argument of type t may be brought in so that R holds of what stands for it. -/
structure Imp1 (P : Program) (t : TypeId) (R : GHeap → Value → Prop) : Prop where
  mono : ∀ {H H' : GHeap} {g : Value}, H.Le H' → R H g → R H' g
  imp : ∀ {T : Type} {enc : TypeId × Value → T} {B : Nat} {w0 : World} {ρ : Place} {H : GHeap} {w : World} {held : Bool} {base fuel : Nat} {v : Value} {x : DataW T × List MemPlace}, Sim P B w0 ρ H w → w.heap.size ≤ B →
    DataW.trod enc P w 0 (fun _ => true) held fuel t v.cells.toList = some x → Value.okWide P w .any base t v → ∃ ρ' H' g, Sim P B w0 ρ' H' w ∧ Ext ρ ρ' ∧ H.Le H' ∧ VRel ρ' g v ∧ R H' g

def structT (P : Program) (t : TypeId) : Bool := match P.underlying t with | some (.struct _) => true | _ => false
theorem imp1_struct {P : Program} {t : TypeId} {α β : Type} {cells : α → β → List Value} {I : GHeap → α → β → Prop} {W : α → Prop} (hm : ∀ {H H' : GHeap} {c : α} {p : β}, I H c p → H.Le H' → I H' c p)
    (hI : Imports P t (fun ρ H cs => ∃ (c : α) (p : β), LRel ρ (cells c p) cs ∧ I H c p ∧ W c)) (hst : structT P t = true) : Imp1 P t (fun H g => ∃ (c : α) (p : β), g = .agg (cells c p).toArray ∧ I H c p ∧ W c) where
  mono h := fun ⟨c, p, h1, h2, h3⟩ => ⟨c, p, h1, hm h2 h, h3⟩
  imp := by
    intro T enc B w0 ρ H w held base fuel v x hs hB h hv
    have hagg : ∃ cs, v = .agg cs := by
      unfold Value.okWide at hv
      unfold structT at hst
      split at hst
      · rename_i fs hu
        rw [hu] at hv
        obtain ⟨cs, h, _⟩ := hv
        exact ⟨cs, h⟩
      · cases hst
    obtain ⟨cs, rfl⟩ := hagg
    obtain ⟨ρ', H', h1, h2, h3, c, p, h4, h5, h6⟩ := hI hs hB h
    exact ⟨ρ', H', _, h1, h2, h3, by have := VRel.agg_of h4; simpa [Value.cells] using this, c, p, rfl, h5, h6⟩
theorem imp1_int {P : Program} {t : TypeId} (ht : i64T P t = true) : Imp1 P t (fun _ g => ∃ n, g = .int .i64 n ∧ I64 n) where
  mono _ := id
  imp := by
    intro T enc B w0 ρ H w held base fuel v x hs hB h hv
    obtain ⟨n, rfl⟩ := okWide_int (i64T_run ht) hv
    obtain ⟨ρ', H', h1, h2, h3, m, h4, h5⟩ := import_int ht hs hB h
    have : n = m := by simpa [Value.cells] using h4
    subst this
    exact ⟨ρ', H', _, h1, h2, h3, .int _ _, n, rfl, h5⟩
theorem imp1_ints {P : Program} {t : TypeId} (ht : intsT P t = true) : Imp1 P t (fun H g => ∃ a xs, g = .slice a xs.length xs.length ∧ Ints H a xs ∧ I64s xs) where
  mono h := fun ⟨a, xs, h1, h2, h3⟩ => ⟨a, xs, h1, h2.mono h, h3⟩
  imp := by
    intro T enc B w0 ρ H w held base fuel v x hs hB h hv
    obtain ⟨e, hu, _⟩ := intsT_run ht
    obtain ⟨a, l, c, rfl⟩ := okWide_slice hu hv
    obtain ⟨ρ', H', h1, h2, h3, a', xs, c', h4, h5, h6, h7⟩ := import_ints ht hs hB h
    have : Value.slice a l c = c' := by simpa [Value.cells] using h4
    subst this
    exact ⟨ρ', H', _, h1, h2, h3, h5, a', xs, rfl, h6, h7⟩
theorem imp1_intss {P : Program} {t : TypeId} (ht : intssT P t = true) : Imp1 P t (fun H g => ∃ a xss r, g = .slice a xss.length xss.length ∧ Intss H a xss r ∧ xss.length ≤ 9223372036854775807 ∧ ∀ i, I64s (xss.getD i [])) where
  mono h := fun ⟨a, xs, r, h1, h2, h3⟩ => ⟨a, xs, r, h1, h2.mono h, h3⟩
  imp := by
    intro T enc B w0 ρ H w held base fuel v x hs hB h hv
    obtain ⟨e, hu, _⟩ := intssT_run ht
    obtain ⟨a, l, c, rfl⟩ := okWide_slice hu hv
    obtain ⟨ρ', H', h1, h2, h3, a', xs, r, c', h4, h5, h6, h7⟩ := import_intss ht hs hB h
    have : Value.slice a l c = c' := by simpa [Value.cells] using h4
    subst this
    exact ⟨ρ', H', _, h1, h2, h3, h5, a', xs, r, rfl, h6, h7⟩
theorem imp1_intsss {P : Program} {t : TypeId} (ht : intsssT P t = true) : Imp1 P t (fun H g => ∃ a x r s, g = .slice a x.length x.length ∧ Intsss H a x r s ∧ Wd3 x) where
  mono h := fun ⟨a, xs, r, s, h1, h2, h3⟩ => ⟨a, xs, r, s, h1, h2.mono h, h3⟩
  imp := by
    intro T enc B w0 ρ H w held base fuel v x hs hB h hv
    obtain ⟨e, hu, _⟩ := intsssT_run ht
    obtain ⟨a, l, c, rfl⟩ := okWide_slice hu hv
    obtain ⟨ρ', H', h1, h2, h3, a', xs, r, s, c', h4, h5, h6, h7⟩ := import_intsss ht hs hB h
    have : Value.slice a l c = c' := by simpa [Value.cells] using h4
    subst this
    exact ⟨ρ', H', _, h1, h2, h3, h5, a', xs, r, s, rfl, h6, h7⟩

/-- Arguments of types ts may be brought in so that R holds of what stands for them. -/
structure ImpAll (P : Program) (ts : List TypeId) (R : GHeap → List Value → Prop) : Prop where
  imp : ∀ {T : Type} {enc : TypeId × Value → T} {B : Nat} {w0 : World} {ρ : Place} {H : GHeap} {w : World} {base : Nat} {vs : List Value} {ds : List (DataW T)} {ps : List MemPlace}, Sim P B w0 ρ H w → w.heap.size ≤ B →
    DataW.TrodAll enc P w 0 (fun _ => true) true ts vs ds ps → (∀ (j : Nat) t v, ts[j]? = some t → vs[j]? = some v → Value.okWide P w .any base t v) → ds.length = ts.length ∧ ∃ ρ' H' gs, Sim P B w0 ρ' H' w ∧ Ext ρ ρ' ∧ H.Le H' ∧ LRel ρ' gs vs ∧ R H' gs
theorem ImpAll.nil {P : Program} : ImpAll P [] (fun _ gs => gs = []) where
  imp := by
    intro T enc B w0 ρ H w base vs ds ps hs hB h hv
    obtain ⟨rfl, rfl, rfl⟩ := trodAll_nil h
    exact ⟨rfl, ρ, H, [], hs, .refl ρ, .refl H, .nil ρ, rfl⟩
theorem ImpAll.cons {P : Program} {t : TypeId} {ts : List TypeId} {R1 : GHeap → Value → Prop} {R : GHeap → List Value → Prop} (h1 : Imp1 P t R1) (h2 : ImpAll P ts R) : ImpAll P (t :: ts) (fun H gs => ∃ g r, gs = g :: r ∧ R1 H g ∧ R H r) where
  imp := by
    intro T enc B w0 ρ H w base vs ds ps hs hB h hv
    obtain ⟨v, vs, d, ds, p, q, rfl, rfl, rfl, ⟨fuel, k1⟩, k2⟩ := trodAll_cons h
    obtain ⟨ρ1, H1, g, s1, e1, l1, v1, r1⟩ := h1.imp hs hB k1 (hv 0 t v rfl rfl)
    obtain ⟨hl, ρ2, H2, gs, s2, e2, l2, v2, r2⟩ := h2.imp s1 hB k2 (fun j t v ht hj => hv (j + 1) t v (by simpa using ht) (by simpa using hj))
    exact ⟨by simp [hl], ρ2, H2, g :: gs, s2, e1.trans e2, l1.trans l2, .cons (v1.mono e2) v2, g, gs, rfl, h1.mono l2 r1, r2⟩

/-- The call of a law. -/
theorem law_calls {P : Program} {f : FuncId} {fn : Func} {ts : List TypeId} {tb : TypeId} {R : GHeap → List Value → Prop} (hI : ImpAll P ts R) (hp : fn.params = ts.toArray)
    (hc : ∀ H gs, R H gs → GCalls P f gs H fun v _ => v = .bool true)
    {T : Type} {enc : TypeId × Value → T} {W : World} {base : Nat} {args : Array Value} {s : ChangeSpec} {apart fresh handsOn again : Bool} {ds gs : List (DataW T)} {before : List MemPlace}
    (hval : ∀ (j : Nat) t v, fn.params[j]? = some t → args[j]? = some v → Value.okWide P W .any base t v)
    (hW : DataW.Whole enc P fn.params.toList s.vars apart W args.toList ds gs before)
    (hl : laidOutB P = true) (hr : readB P fn.params.toList = true) (hv : s.vars = []) (hrt : fn.resultTypes = #[tb]) (htb : P.underlying tb = some .bool)
    (hs : ∀ ds : List (DataW T), ds.length = ts.length → (s.fn T ds).results = [.lit (.bool true)] ∧ (s.fn T ds).args = ds ∧ (s.fn T ds).vars = []) :
    Calls P f args W fun e W' => ∃ v, e = .returned v ∧ s.post enc P fn apart fresh handsOn again W args v W' := by
  have hWW := hW
  obtain ⟨p, q, hA, _⟩ := hW
  rw [hp] at hA
  obtain ⟨hlen, ρ, H, gs', hs', _, _, hrel, hR⟩ := hI.imp (base := base) (Sim.start P W) (Nat.le_refl _) (by simpa using hA) (fun j t v ht hj => hval j t v (by rw [hp]; simpa using ht) (by simpa using hj))
  have := (hc H gs' hR) _ _ ρ args.toList W hs' hrel
  rw [Array.toArray_toList] at this
  refine this.mono fun e W' ⟨v, c, ρ', H', he, hv', _, hsim, hrv⟩ => ?_
  subst hv'
  cases hrv
  exact ⟨_, he, law_post hl hr hv hrt htb hWW (hs ds hlen).1 (hs ds hlen).2.1 (hs ds hlen).2.2 hsim.below⟩
end Go.GL
