/- Structs of lists, as they lie in a ghost heap. No condition. -/
import Derived.Test.YtbpehbbdodahaaaGlZ
namespace Go.GL
open Go.RowKit
structure SFun where
  sh : Cat
  sz : List Int
  ac : List (List Int)
structure SFunP where
  sh : CatP
  a1 : Option Addr
  a2 : Option Addr
  r2 : Nat → Option Addr
def SFun.cells (c : SFun) (p : SFunP) : List Value := c.sh.cells p.sh ++ ([.slice p.a1 c.sz.length c.sz.length] ++ ([.slice p.a2 c.ac.length c.ac.length]))
def SFun.In (H : GHeap) (c : SFun) (p : SFunP) : Prop := c.sh.In H p.sh ∧ Ints H p.a1 c.sz ∧ Intss H p.a2 c.ac p.r2
theorem SFun.In.mono {H H' : GHeap} {c : SFun} {p : SFunP} (h : c.In H p) (hle : H.Le H') : c.In H' p := ⟨Cat.In.mono (h.1) hle, Ints.mono (h.2.1) hle, Intss.mono (h.2.2) hle⟩
def SFun.At (H : GHeap) (g o : Nat) (c : SFun) (p : SFunP) : Prop := Mem H g o (c.cells p) ∧ c.In H p
theorem SFun.At.mono {H H' : GHeap} {g o : Nat} {c : SFun} {p : SFunP} (h : SFun.At H g o c p) (hle : H.Le H') : SFun.At H' g o c p := ⟨h.1.mono hle, SFun.In.mono h.2 hle⟩
theorem SFun.At.get {H : GHeap} {g o : Nat} {c : SFun} {p : SFunP} (h : SFun.At H g o c p) : Cat.At H g (o + 0) c.sh p.sh ∧ H.cell g (o + 5) = some (.slice p.a1 c.sz.length c.sz.length) ∧ H.cell g (o + 6) = some (.slice p.a2 c.ac.length c.ac.length) ∧ Ints H p.a1 c.sz ∧ Intss H p.a2 c.ac p.r2 :=
  ⟨⟨h.1.left, h.2.1⟩, (h.1.right (n := 5) rfl).left 0 _ rfl, ((h.1.right (n := 5) rfl).right (n := 1) rfl) 0 _ rfl, h.2.2.1, h.2.2.2⟩
def SFun.Small (c : SFun) : Prop := c.sh.Small ∧ c.sz.length ≤ 1048576 ∧ (c.ac.length ≤ 1048576 ∧ ∀ i, (c.ac.getD i []).length ≤ 1048576)
def SFun.Wide (c : SFun) : Prop := c.sh.Wide ∧ I64s c.sz ∧ (c.ac.length ≤ 9223372036854775807 ∧ ∀ i, I64s (c.ac.getD i []))
def SFunAt (b : Nat) (H : GHeap) (c : SFun) (p : SFunP) : Prop := CatAt b H c.sh p.sh ∧ IntsAt b H p.a1 c.sz ∧ IntssAt b H p.a2 c.ac p.r2
theorem SFunAt.keep {b b' : Nat} {H H' : GHeap} {c : SFun} {p : SFunP} (h : SFunAt b H c p) (hk : Keep b' H H') (hb : b' ≤ b) : SFunAt b' H' c p := ⟨CatAt.keep (h.1) hk hb, IntsAt.keep (h.2.1) hk hb, IntssAt.keep (h.2.2) hk hb⟩
theorem SFunAt.inn {b : Nat} {H : GHeap} {c : SFun} {p : SFunP} (h : SFunAt b H c p) : c.In H p := ⟨CatAt.inn (h.1), IntsAt.ints (h.2.1), IntssAt.intss (h.2.2)⟩
def NewSFun (H : GHeap) (c : SFun) (v : Value) (H' : GHeap) : Prop := H.Le H' ∧ ∃ p, v = .agg (c.cells p).toArray ∧ SFunAt H.next H' c p
def sfunT (P : Program) (t : TypeId) : Bool := structIs P t 7 3 fun fs => fieldIs P fs 0 0 5 catT && fieldIs P fs 1 5 1 intsT && fieldIs P fs 2 6 1 intssT
def RSFun (ρ : Place) (H : GHeap) (cs : List Value) : Prop := ∃ (c : SFun) (p : SFunP), LRel ρ (c.cells p) cs ∧ c.In H p ∧ c.Wide
theorem import_sfun {P : Program} {t : TypeId} (ht : sfunT P t = true) : Imports P t RSFun := by
  intro T enc B w0 ρ H w held fuel cs x hs hB h
  obtain ⟨fs, g1, g2, g3, g4⟩ := structIs_run ht
  simp only [Bool.and_eq_true] at g4
  obtain ⟨⟨q0, q1⟩, q2⟩ := g4
  obtain ⟨xs, n, _, _, hl, hx, hf⟩ := DataW.trod_struct g1 h
  obtain ⟨ρ0, H0, s0, e0, l0, y0, p0, v0, i0, w0⟩ := import_field (fun _ h => import_cat h) q0 hx hf hs hB
  obtain ⟨ρ1, H1, s1, e1, l1, a1, x1, c1, z1, v1, i1, w1⟩ := import_field (fun _ h => import_ints h) q1 hx hf s0 hB
  obtain ⟨ρ2, H2, s2, e2, l2, a2, x2, r2, c2, z2, v2, i2, w2⟩ := import_field (fun _ h => import_intss h) q2 hx hf s1 hB
  refine ⟨ρ2, H2, s2, e0.trans (e1.trans (e2)), l0.trans (l1.trans (l2)), ⟨y0, x1, x2⟩, ⟨p0, a1, a2, r2⟩, ?_, ⟨Cat.In.mono i0 (l1.trans (l2)), i1.mono (l2), i2⟩, ⟨w0, w1, w2⟩⟩
  have hlen : cs.length = 7 := by rw [hl, g2]
  have e : cs = (cs.drop 0).take 5 ++ ((cs.drop 5).take 1 ++ ((cs.drop 6).take 1)) := by
    match cs, hlen with
    | [_, _, _, _, _, _, _], _ => rfl
  rw [e, z1, z2]
  exact (LRel.append (v0.mono (e1.trans (e2))) (LRel.append (.cons (v1.mono (e2)) (.nil _)) (.cons (v2) (.nil _))))
structure SMap where
  s : SFun
  t : SFun
  pa : List (List Int)
structure SMapP where
  s : SFunP
  t : SFunP
  a2 : Option Addr
  r2 : Nat → Option Addr
def SMap.cells (c : SMap) (p : SMapP) : List Value := c.s.cells p.s ++ (c.t.cells p.t ++ ([.slice p.a2 c.pa.length c.pa.length]))
def SMap.In (H : GHeap) (c : SMap) (p : SMapP) : Prop := c.s.In H p.s ∧ c.t.In H p.t ∧ Intss H p.a2 c.pa p.r2
theorem SMap.In.mono {H H' : GHeap} {c : SMap} {p : SMapP} (h : c.In H p) (hle : H.Le H') : c.In H' p := ⟨SFun.In.mono (h.1) hle, SFun.In.mono (h.2.1) hle, Intss.mono (h.2.2) hle⟩
def SMap.At (H : GHeap) (g o : Nat) (c : SMap) (p : SMapP) : Prop := Mem H g o (c.cells p) ∧ c.In H p
theorem SMap.At.mono {H H' : GHeap} {g o : Nat} {c : SMap} {p : SMapP} (h : SMap.At H g o c p) (hle : H.Le H') : SMap.At H' g o c p := ⟨h.1.mono hle, SMap.In.mono h.2 hle⟩
theorem SMap.At.get {H : GHeap} {g o : Nat} {c : SMap} {p : SMapP} (h : SMap.At H g o c p) : SFun.At H g (o + 0) c.s p.s ∧ SFun.At H g (o + 7) c.t p.t ∧ H.cell g (o + 14) = some (.slice p.a2 c.pa.length c.pa.length) ∧ Intss H p.a2 c.pa p.r2 :=
  ⟨⟨h.1.left, h.2.1⟩, ⟨(h.1.right (n := 7) rfl).left, h.2.2.1⟩, ((h.1.right (n := 7) rfl).right (n := 7) rfl) 0 _ rfl, h.2.2.2⟩
def SMap.Small (c : SMap) : Prop := c.s.Small ∧ c.t.Small ∧ (c.pa.length ≤ 1048576 ∧ ∀ i, (c.pa.getD i []).length ≤ 1048576)
def SMap.Wide (c : SMap) : Prop := c.s.Wide ∧ c.t.Wide ∧ (c.pa.length ≤ 9223372036854775807 ∧ ∀ i, I64s (c.pa.getD i []))
def SMapAt (b : Nat) (H : GHeap) (c : SMap) (p : SMapP) : Prop := SFunAt b H c.s p.s ∧ SFunAt b H c.t p.t ∧ IntssAt b H p.a2 c.pa p.r2
theorem SMapAt.keep {b b' : Nat} {H H' : GHeap} {c : SMap} {p : SMapP} (h : SMapAt b H c p) (hk : Keep b' H H') (hb : b' ≤ b) : SMapAt b' H' c p := ⟨SFunAt.keep (h.1) hk hb, SFunAt.keep (h.2.1) hk hb, IntssAt.keep (h.2.2) hk hb⟩
theorem SMapAt.inn {b : Nat} {H : GHeap} {c : SMap} {p : SMapP} (h : SMapAt b H c p) : c.In H p := ⟨SFunAt.inn (h.1), SFunAt.inn (h.2.1), IntssAt.intss (h.2.2)⟩
def NewSMap (H : GHeap) (c : SMap) (v : Value) (H' : GHeap) : Prop := H.Le H' ∧ ∃ p, v = .agg (c.cells p).toArray ∧ SMapAt H.next H' c p
def smapT (P : Program) (t : TypeId) : Bool := structIs P t 15 3 fun fs => fieldIs P fs 0 0 7 sfunT && fieldIs P fs 1 7 7 sfunT && fieldIs P fs 2 14 1 intssT
def RSMap (ρ : Place) (H : GHeap) (cs : List Value) : Prop := ∃ (c : SMap) (p : SMapP), LRel ρ (c.cells p) cs ∧ c.In H p ∧ c.Wide
theorem import_smap {P : Program} {t : TypeId} (ht : smapT P t = true) : Imports P t RSMap := by
  intro T enc B w0 ρ H w held fuel cs x hs hB h
  obtain ⟨fs, g1, g2, g3, g4⟩ := structIs_run ht
  simp only [Bool.and_eq_true] at g4
  obtain ⟨⟨q0, q1⟩, q2⟩ := g4
  obtain ⟨xs, n, _, _, hl, hx, hf⟩ := DataW.trod_struct g1 h
  obtain ⟨ρ0, H0, s0, e0, l0, y0, p0, v0, i0, w0⟩ := import_field (fun _ h => import_sfun h) q0 hx hf hs hB
  obtain ⟨ρ1, H1, s1, e1, l1, y1, p1, v1, i1, w1⟩ := import_field (fun _ h => import_sfun h) q1 hx hf s0 hB
  obtain ⟨ρ2, H2, s2, e2, l2, a2, x2, r2, c2, z2, v2, i2, w2⟩ := import_field (fun _ h => import_intss h) q2 hx hf s1 hB
  refine ⟨ρ2, H2, s2, e0.trans (e1.trans (e2)), l0.trans (l1.trans (l2)), ⟨y0, y1, x2⟩, ⟨p0, p1, a2, r2⟩, ?_, ⟨SFun.In.mono i0 (l1.trans (l2)), SFun.In.mono i1 (l2), i2⟩, ⟨w0, w1, w2⟩⟩
  have hlen : cs.length = 15 := by rw [hl, g2]
  have e : cs = (cs.drop 0).take 7 ++ ((cs.drop 7).take 7 ++ ((cs.drop 14).take 1)) := by
    match cs, hlen with
    | [_, _, _, _, _, _, _, _, _, _, _, _, _, _, _], _ => rfl
  rw [e, z2]
  exact (LRel.append (v0.mono (e1.trans (e2))) (LRel.append (v1.mono (e2)) (.cons (v2) (.nil _))))
structure Con where
  ap : Int
  lg : List Int
structure ConP where
  a1 : Option Addr
def Con.cells (c : Con) (p : ConP) : List Value := [.int .i64 c.ap] ++ ([.slice p.a1 c.lg.length c.lg.length])
def Con.In (H : GHeap) (c : Con) (p : ConP) : Prop := Ints H p.a1 c.lg
theorem Con.In.mono {H H' : GHeap} {c : Con} {p : ConP} (h : c.In H p) (hle : H.Le H') : c.In H' p := Ints.mono (h) hle
def Con.At (H : GHeap) (g o : Nat) (c : Con) (p : ConP) : Prop := Mem H g o (c.cells p) ∧ c.In H p
theorem Con.At.mono {H H' : GHeap} {g o : Nat} {c : Con} {p : ConP} (h : Con.At H g o c p) (hle : H.Le H') : Con.At H' g o c p := ⟨h.1.mono hle, Con.In.mono h.2 hle⟩
theorem Con.At.get {H : GHeap} {g o : Nat} {c : Con} {p : ConP} (h : Con.At H g o c p) : H.cell g (o + 0) = some (.int .i64 c.ap) ∧ H.cell g (o + 1) = some (.slice p.a1 c.lg.length c.lg.length) ∧ Ints H p.a1 c.lg :=
  ⟨h.1.left 0 _ rfl, (h.1.right (n := 1) rfl) 0 _ rfl, h.2⟩
def Con.Small (c : Con) : Prop := (-9223372036854775808 ≤ c.ap ∧ c.ap ≤ 9223372036854775807) ∧ c.lg.length ≤ 1048576
def Con.Wide (c : Con) : Prop := I64 c.ap ∧ I64s c.lg
def ConAt (b : Nat) (H : GHeap) (c : Con) (p : ConP) : Prop := IntsAt b H p.a1 c.lg
theorem ConAt.keep {b b' : Nat} {H H' : GHeap} {c : Con} {p : ConP} (h : ConAt b H c p) (hk : Keep b' H H') (hb : b' ≤ b) : ConAt b' H' c p := IntsAt.keep (h) hk hb
theorem ConAt.inn {b : Nat} {H : GHeap} {c : Con} {p : ConP} (h : ConAt b H c p) : c.In H p := IntsAt.ints (h)
def NewCon (H : GHeap) (c : Con) (v : Value) (H' : GHeap) : Prop := H.Le H' ∧ ∃ p, v = .agg (c.cells p).toArray ∧ ConAt H.next H' c p
def conT (P : Program) (t : TypeId) : Bool := structIs P t 2 2 fun fs => fieldIs P fs 0 0 1 i64T && fieldIs P fs 1 1 1 intsT
def RCon (ρ : Place) (H : GHeap) (cs : List Value) : Prop := ∃ (c : Con) (p : ConP), LRel ρ (c.cells p) cs ∧ c.In H p ∧ c.Wide
theorem import_con {P : Program} {t : TypeId} (ht : conT P t = true) : Imports P t RCon := by
  intro T enc B w0 ρ H w held fuel cs x hs hB h
  obtain ⟨fs, g1, g2, g3, g4⟩ := structIs_run ht
  simp only [Bool.and_eq_true] at g4
  obtain ⟨q0, q1⟩ := g4
  obtain ⟨xs, n, _, _, hl, hx, hf⟩ := DataW.trod_struct g1 h
  obtain ⟨ρ0, H0, s0, e0, l0, n0, z0, w0⟩ := import_field (fun _ h => import_int h) q0 hx hf hs hB
  obtain ⟨ρ1, H1, s1, e1, l1, a1, x1, c1, z1, v1, i1, w1⟩ := import_field (fun _ h => import_ints h) q1 hx hf s0 hB
  refine ⟨ρ1, H1, s1, e0.trans (e1), l0.trans (l1), ⟨n0, x1⟩, ⟨a1⟩, ?_, i1, ⟨w0, w1⟩⟩
  have hlen : cs.length = 2 := by rw [hl, g2]
  have e : cs = (cs.drop 0).take 1 ++ ((cs.drop 1).take 1) := by
    match cs, hlen with
    | [_, _], _ => rfl
  rw [e, z0, z1]
  exact (LRel.append (.cons (.int _ _) (.nil _)) (.cons (v1) (.nil _)))
structure Prt where
  me : List (List Int)
structure PrtP where
  a0 : Option Addr
  r0 : Nat → Option Addr
def Prt.cells (c : Prt) (p : PrtP) : List Value := [.slice p.a0 c.me.length c.me.length]
def Prt.In (H : GHeap) (c : Prt) (p : PrtP) : Prop := Intss H p.a0 c.me p.r0
theorem Prt.In.mono {H H' : GHeap} {c : Prt} {p : PrtP} (h : c.In H p) (hle : H.Le H') : c.In H' p := Intss.mono (h) hle
def Prt.At (H : GHeap) (g o : Nat) (c : Prt) (p : PrtP) : Prop := Mem H g o (c.cells p) ∧ c.In H p
theorem Prt.At.mono {H H' : GHeap} {g o : Nat} {c : Prt} {p : PrtP} (h : Prt.At H g o c p) (hle : H.Le H') : Prt.At H' g o c p := ⟨h.1.mono hle, Prt.In.mono h.2 hle⟩
theorem Prt.At.get {H : GHeap} {g o : Nat} {c : Prt} {p : PrtP} (h : Prt.At H g o c p) : H.cell g (o + 0) = some (.slice p.a0 c.me.length c.me.length) ∧ Intss H p.a0 c.me p.r0 :=
  ⟨h.1 0 _ rfl, h.2⟩
def Prt.Small (c : Prt) : Prop := (c.me.length ≤ 1048576 ∧ ∀ i, (c.me.getD i []).length ≤ 1048576)
def Prt.Wide (c : Prt) : Prop := (c.me.length ≤ 9223372036854775807 ∧ ∀ i, I64s (c.me.getD i []))
def PrtAt (b : Nat) (H : GHeap) (c : Prt) (p : PrtP) : Prop := IntssAt b H p.a0 c.me p.r0
theorem PrtAt.keep {b b' : Nat} {H H' : GHeap} {c : Prt} {p : PrtP} (h : PrtAt b H c p) (hk : Keep b' H H') (hb : b' ≤ b) : PrtAt b' H' c p := IntssAt.keep (h) hk hb
theorem PrtAt.inn {b : Nat} {H : GHeap} {c : Prt} {p : PrtP} (h : PrtAt b H c p) : c.In H p := IntssAt.intss (h)
def NewPrt (H : GHeap) (c : Prt) (v : Value) (H' : GHeap) : Prop := H.Le H' ∧ ∃ p, v = .agg (c.cells p).toArray ∧ PrtAt H.next H' c p
def prtT (P : Program) (t : TypeId) : Bool := structIs P t 1 1 fun fs => fieldIs P fs 0 0 1 intssT
def RPrt (ρ : Place) (H : GHeap) (cs : List Value) : Prop := ∃ (c : Prt) (p : PrtP), LRel ρ (c.cells p) cs ∧ c.In H p ∧ c.Wide
theorem import_prt {P : Program} {t : TypeId} (ht : prtT P t = true) : Imports P t RPrt := by
  intro T enc B w0 ρ H w held fuel cs x hs hB h
  obtain ⟨fs, g1, g2, g3, g4⟩ := structIs_run ht
  have q0 := g4
  obtain ⟨xs, n, _, _, hl, hx, hf⟩ := DataW.trod_struct g1 h
  obtain ⟨ρ0, H0, s0, e0, l0, a0, x0, r0, c0, z0, v0, i0, w0⟩ := import_field (fun _ h => import_intss h) q0 hx hf hs hB
  refine ⟨ρ0, H0, s0, e0, l0, ⟨x0⟩, ⟨a0, r0⟩, ?_, i0, w0⟩
  have hlen : cs.length = 1 := by rw [hl, g2]
  have e : cs = (cs.drop 0).take 1 := by
    match cs, hlen with
    | [_], _ => rfl
  rw [e, z0]
  exact (.cons (v0) (.nil _))
structure Prof where
  s : Cat
  t : Cat
  sz : List (List Int)
  be : List (List (List Int))
  bh : List (List (List Int))
structure ProfP where
  s : CatP
  t : CatP
  a2 : Option Addr
  r2 : Nat → Option Addr
  a3 : Option Addr
  r3 : Nat → Option Addr
  s3 : Nat → Nat → Option Addr
  a4 : Option Addr
  r4 : Nat → Option Addr
  s4 : Nat → Nat → Option Addr
def Prof.cells (c : Prof) (p : ProfP) : List Value := c.s.cells p.s ++ (c.t.cells p.t ++ ([.slice p.a2 c.sz.length c.sz.length] ++ ([.slice p.a3 c.be.length c.be.length] ++ ([.slice p.a4 c.bh.length c.bh.length]))))
def Prof.In (H : GHeap) (c : Prof) (p : ProfP) : Prop := c.s.In H p.s ∧ c.t.In H p.t ∧ Intss H p.a2 c.sz p.r2 ∧ Intsss H p.a3 c.be p.r3 p.s3 ∧ Intsss H p.a4 c.bh p.r4 p.s4
theorem Prof.In.mono {H H' : GHeap} {c : Prof} {p : ProfP} (h : c.In H p) (hle : H.Le H') : c.In H' p := ⟨Cat.In.mono (h.1) hle, Cat.In.mono (h.2.1) hle, Intss.mono (h.2.2.1) hle, Intsss.mono (h.2.2.2.1) hle, Intsss.mono (h.2.2.2.2) hle⟩
def Prof.At (H : GHeap) (g o : Nat) (c : Prof) (p : ProfP) : Prop := Mem H g o (c.cells p) ∧ c.In H p
theorem Prof.At.mono {H H' : GHeap} {g o : Nat} {c : Prof} {p : ProfP} (h : Prof.At H g o c p) (hle : H.Le H') : Prof.At H' g o c p := ⟨h.1.mono hle, Prof.In.mono h.2 hle⟩
theorem Prof.At.get {H : GHeap} {g o : Nat} {c : Prof} {p : ProfP} (h : Prof.At H g o c p) : Cat.At H g (o + 0) c.s p.s ∧ Cat.At H g (o + 5) c.t p.t ∧ H.cell g (o + 10) = some (.slice p.a2 c.sz.length c.sz.length) ∧ H.cell g (o + 11) = some (.slice p.a3 c.be.length c.be.length) ∧ H.cell g (o + 12) = some (.slice p.a4 c.bh.length c.bh.length) ∧ Intss H p.a2 c.sz p.r2 ∧ Intsss H p.a3 c.be p.r3 p.s3 ∧ Intsss H p.a4 c.bh p.r4 p.s4 :=
  ⟨⟨h.1.left, h.2.1⟩, ⟨(h.1.right (n := 5) rfl).left, h.2.2.1⟩, ((h.1.right (n := 5) rfl).right (n := 5) rfl).left 0 _ rfl, (((h.1.right (n := 5) rfl).right (n := 5) rfl).right (n := 1) rfl).left 0 _ rfl, ((((h.1.right (n := 5) rfl).right (n := 5) rfl).right (n := 1) rfl).right (n := 1) rfl) 0 _ rfl, h.2.2.2.1, h.2.2.2.2.1, h.2.2.2.2.2⟩
def Prof.Small (c : Prof) : Prop := c.s.Small ∧ c.t.Small ∧ (c.sz.length ≤ 1048576 ∧ ∀ i, (c.sz.getD i []).length ≤ 1048576) ∧ Sm3 c.be ∧ Sm3 c.bh
def Prof.Wide (c : Prof) : Prop := c.s.Wide ∧ c.t.Wide ∧ (c.sz.length ≤ 9223372036854775807 ∧ ∀ i, I64s (c.sz.getD i [])) ∧ Wd3 c.be ∧ Wd3 c.bh
def ProfAt (b : Nat) (H : GHeap) (c : Prof) (p : ProfP) : Prop := CatAt b H c.s p.s ∧ CatAt b H c.t p.t ∧ IntssAt b H p.a2 c.sz p.r2 ∧ IntsssAt b H p.a3 c.be p.r3 p.s3 ∧ IntsssAt b H p.a4 c.bh p.r4 p.s4
theorem ProfAt.keep {b b' : Nat} {H H' : GHeap} {c : Prof} {p : ProfP} (h : ProfAt b H c p) (hk : Keep b' H H') (hb : b' ≤ b) : ProfAt b' H' c p := ⟨CatAt.keep (h.1) hk hb, CatAt.keep (h.2.1) hk hb, IntssAt.keep (h.2.2.1) hk hb, IntsssAt.keep (h.2.2.2.1) hk hb, IntsssAt.keep (h.2.2.2.2) hk hb⟩
theorem ProfAt.inn {b : Nat} {H : GHeap} {c : Prof} {p : ProfP} (h : ProfAt b H c p) : c.In H p := ⟨CatAt.inn (h.1), CatAt.inn (h.2.1), IntssAt.intss (h.2.2.1), IntsssAt.intsss (h.2.2.2.1), IntsssAt.intsss (h.2.2.2.2)⟩
def NewProf (H : GHeap) (c : Prof) (v : Value) (H' : GHeap) : Prop := H.Le H' ∧ ∃ p, v = .agg (c.cells p).toArray ∧ ProfAt H.next H' c p
def profT (P : Program) (t : TypeId) : Bool := structIs P t 13 5 fun fs => fieldIs P fs 0 0 5 catT && fieldIs P fs 1 5 5 catT && fieldIs P fs 2 10 1 intssT && fieldIs P fs 3 11 1 intsssT && fieldIs P fs 4 12 1 intsssT
def RProf (ρ : Place) (H : GHeap) (cs : List Value) : Prop := ∃ (c : Prof) (p : ProfP), LRel ρ (c.cells p) cs ∧ c.In H p ∧ c.Wide
theorem import_prof {P : Program} {t : TypeId} (ht : profT P t = true) : Imports P t RProf := by
  intro T enc B w0 ρ H w held fuel cs x hs hB h
  obtain ⟨fs, g1, g2, g3, g4⟩ := structIs_run ht
  simp only [Bool.and_eq_true] at g4
  obtain ⟨⟨⟨⟨q0, q1⟩, q2⟩, q3⟩, q4⟩ := g4
  obtain ⟨xs, n, _, _, hl, hx, hf⟩ := DataW.trod_struct g1 h
  obtain ⟨ρ0, H0, s0, e0, l0, y0, p0, v0, i0, w0⟩ := import_field (fun _ h => import_cat h) q0 hx hf hs hB
  obtain ⟨ρ1, H1, s1, e1, l1, y1, p1, v1, i1, w1⟩ := import_field (fun _ h => import_cat h) q1 hx hf s0 hB
  obtain ⟨ρ2, H2, s2, e2, l2, a2, x2, r2, c2, z2, v2, i2, w2⟩ := import_field (fun _ h => import_intss h) q2 hx hf s1 hB
  obtain ⟨ρ3, H3, s3, e3, l3, a3, x3, r3, t3, c3, z3, v3, i3, w3⟩ := import_field (fun _ h => import_intsss h) q3 hx hf s2 hB
  obtain ⟨ρ4, H4, s4, e4, l4, a4, x4, r4, t4, c4, z4, v4, i4, w4⟩ := import_field (fun _ h => import_intsss h) q4 hx hf s3 hB
  refine ⟨ρ4, H4, s4, e0.trans (e1.trans (e2.trans (e3.trans (e4)))), l0.trans (l1.trans (l2.trans (l3.trans (l4)))), ⟨y0, y1, x2, x3, x4⟩, ⟨p0, p1, a2, r2, a3, r3, t3, a4, r4, t4⟩, ?_, ⟨Cat.In.mono i0 (l1.trans (l2.trans (l3.trans (l4)))), Cat.In.mono i1 (l2.trans (l3.trans (l4))), i2.mono (l3.trans (l4)), i3.mono (l4), i4⟩, ⟨w0, w1, w2, w3, w4⟩⟩
  have hlen : cs.length = 13 := by rw [hl, g2]
  have e : cs = (cs.drop 0).take 5 ++ ((cs.drop 5).take 5 ++ ((cs.drop 10).take 1 ++ ((cs.drop 11).take 1 ++ ((cs.drop 12).take 1)))) := by
    match cs, hlen with
    | [_, _, _, _, _, _, _, _, _, _, _, _, _], _ => rfl
  rw [e, z2, z3, z4]
  exact (LRel.append (v0.mono (e1.trans (e2.trans (e3.trans (e4))))) (LRel.append (v1.mono (e2.trans (e3.trans (e4)))) (LRel.append (.cons (v2.mono (e3.trans (e4))) (.nil _)) (LRel.append (.cons (v3.mono (e4)) (.nil _)) (.cons (v4) (.nil _))))))
end Go.GL
