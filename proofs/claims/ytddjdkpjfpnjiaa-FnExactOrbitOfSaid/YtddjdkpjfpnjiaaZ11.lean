/- The fibre, as the program gathers it: the goroutine and the loop that hears it. No condition but those of each statement. -/
import Derived.Test.YtddjdkpjfpnjiaaZ10
import Derived.Conc.AppendEvents3
import Derived.Conc.AppendWalk
set_option linter.unusedSectionVars false
namespace Go.Proofs.Ytddjdkpjfpnjiaa
open Go Go.GL Go.RowKit Go.Proofs Go.Conc
variable [MainFlag]

def chanZ (P : Program) (t : TypeId) : Option Value := match P.underlying t with | some (.chan _ e) => (P.info? e).bind (·.zero) | _ => none
theorem chanZ_run {P : Program} {t : TypeId} {z : Value} (h : chanZ P t = some z) : ∃ dir elem info, P.underlying t = some (.chan dir elem) ∧ P.info? elem = some info ∧ info.zero = some z := by
  unfold chanZ at h
  split at h
  · rename_i hu
    obtain ⟨i, h1, h2⟩ := Option.bind_eq_some_iff.1 h
    exact ⟨_, _, i, hu, h1, h2⟩
  · cases h

section
variable {P : Program} {main : Bool} {R : World → World → Prop} {D : World → World → Array Event → Prop} {fn : FuncId} {Q : Exit → Act → World → Prop} {a : Act} {w : World}
theorem opsC_v (T : Terms R D) {ops : Array Oper} {i : Nat} {rest : List Nat} {o : Oper} {n : Nat} {v : Value} (ho : ops[i]? = some o) (hg : o.guard = none) (hr : ∀ w₁, (execOp a.eval o).run P w₁ = .ok (.value v) w₁ ∧ (execOp a.eval o).events P w₁ #[] = #[])
    (next : ∀ w₁, R w w₁ → OpsC P main R D fn ops rest n Q (a.put o.dst v) w₁) : OpsC P main R D fn ops (i :: rest) (n + 1) Q a w := by
  have hw : Region.wanted o (yielded ops a.tmps) = true := by simp [Region.wanted, hg]
  refine opsC_cons ho hw fun w₁ h₁ => ?_
  obtain ⟨h1, h2⟩ := hr w₁
  rw [h1]
  exact ⟨by rw [listed_nil h2]; exact T.idle _, next w₁ h₁⟩
theorem run_ex {o : Oper} {x : Operand} {v u : Value} (ho : o.op = .extract x 0) (hx : a.eval x = .tuple #[v, u]) (w₁ : World) : (execOp a.eval o).run P w₁ = .ok (.value v) w₁ ∧ (execOp a.eval o).events P w₁ #[] = #[] := by
  unfold execOp
  rw [ho]
  simp [Instr.extract, hx]
end

section
variable {B : Nat} {w0 : World} {ρ : GL.Place} {H : GHeap} {D : List Deferred} {frk : Slots} {vs : List Value} {Bk m0 c : Nat}

def FibS (B : Nat) (w0 : World) (ρ : GL.Place) (H : GHeap) (Bk : Nat) (w : World) : Prop := Sim Try.prog B w0 ρ H w ∧ Bk ≤ w.heap.size
structure FibI (B : Nat) (w0 : World) (ρ : GL.Place) (H : GHeap) (D : List Deferred) (frk : Slots) (vs : List Value) (Bk m0 c : Nat) (i : Nat) (a : Act) (w : World) : Prop where
  st : FibS B w0 ρ H Bk w
  fr : FRel 48 D ρ frk a
  ch : a.eval (.tmp 32) = .chan (some c)
  row : ∃ v, a.eval (.tmp 7) = v ∧ w.ownsRow B 2 1 v i (vs.take i) ∧ v ≠ .slice none 0 0 ∧ ∀ q, v.ownBlock = some q → q = m0 ∨ Bk ≤ q

theorem frel_put {N : Nat} {fr : Slots} {a : Act} (h : FRel N D ρ fr a) {d : Nat} {u : Value} (hd : ∀ v, fr.get d ≠ some v) : FRel N D ρ fr (a.put (some d) u) := by
  refine ⟨by simp [Act.put, h.1], h.2.1, fun t v hv => ?_⟩
  have hne : d ≠ t := fun e => hd v (e ▸ hv)
  have := h.2.2 t v hv
  unfold Act.put Act.eval at *
  simpa [Array.getD_eq_getD_getElem?, Array.getElem?_setIfInBounds_ne hne] using this
theorem eval_put_eq {a : Act} {d : Nat} {u : Value} (h : d < a.tmps.size) : (a.put (some d) u).eval (.tmp d) = u := by
  unfold Act.put Act.eval
  simp [Array.getD_eq_getD_getElem?, h]

variable (hap : ∀ g x s, H.get g = some x → ρ g = some s → s.blk ≠ m0 ∧ s.blk < Bk ∧ s.blk ≠ c) (hB : B ≤ m0) (hm0 : m0 < Bk) (hc1 : c < Bk) (hc2 : c ≠ m0) (hc3 : B ≤ c)
include hap hc3 in
include hap hc3 hc1 hc2 in
include hap in
include hap hB hm0 hc1 hc2 hc3 in
end
end Go.Proofs.Ytddjdkpjfpnjiaa
set_option linter.unusedSectionVars false
namespace Go.GL
open Go.RowKit Go.Conc
variable [MainFlag]

def GObj.ro : GObj → Option GObj
  | .row cs e _ => some (.row cs e false)
  | _ => none
def GHeap.ro (H : GHeap) : GHeap := ⟨H.objs.map fun x => x.bind GObj.ro⟩
theorem GHeap.next_ro (H : GHeap) : H.ro.next = H.next := by simp [GHeap.ro, GHeap.next]
theorem GHeap.get_ro (H : GHeap) (g : Nat) : H.ro.get g = (H.get g).bind GObj.ro := by
  unfold GHeap.ro GHeap.get
  simp only [List.getElem?_map]
  cases H.objs[g]? with
  | none => rfl
  | some x => cases x <;> rfl
theorem GHeap.of_ro {H : GHeap} {g : Nat} {x : GObj} (h : H.ro.get g = some x) : ∃ cs e own, x = .row cs e false ∧ H.get g = some (.row cs e own) := by
  rw [GHeap.get_ro] at h
  cases hg : H.get g with
  | none => rw [hg] at h; cases h
  | some y =>
    rw [hg] at h
    cases y with
    | row cs e own => cases h; exact ⟨cs, e, own, rfl, rfl⟩
    | map es => cases h
    | oth => cases h
theorem GHeap.cell_ro {H : GHeap} {g o : Nat} {v : Value} (h : H.cell g o = some v) : H.ro.cell g o = some v := by
  unfold GHeap.cell at *
  split at h
  · rename_i hg
    rw [GHeap.get_ro, hg]
    exact h
  · cases h
def Cells (H H' : GHeap) : Prop := ∀ g o v, H.cell g o = some v → H'.cell g o = some v
section
variable {H H' : GHeap}
theorem Mem.cm (hc : Cells H H') {g o : Nat} {cs : List Value} (h : Mem H g o cs) : Mem H' g o cs := fun i v hv => hc _ _ _ (h i v hv)
theorem SlA.cm (hc : Cells H H') {a : Option Addr} {n : Nat} {f : Nat → Value} (h : SlA H a n f) : SlA H' a n f := h.imp id fun ⟨g, off, ha, k⟩ => ⟨g, off, ha, fun i hi => hc _ _ _ (k i hi)⟩
theorem Ints.cm (hc : Cells H H') {a : Option Addr} {xs : List Int} (h : Ints H a xs) : Ints H' a xs := SlA.cm hc h
theorem Intss.cm (hc : Cells H H') {a : Option Addr} {xss : List (List Int)} {r : Nat → Option Addr} (h : Intss H a xss r) : Intss H' a xss r := ⟨SlA.cm hc h.1, fun i hi => Ints.cm hc (h.2 i hi)⟩
end

section
variable {P : Program} {B : Nat} {w0 w : World} {ρ : Place} {H : GHeap}
theorem Sim.ro (hs : Sim P B w0 ρ H w) : Sim P w.heap.size w ρ H.ro w := by
  refine ⟨fun g hg => hs.dom g (by rw [GHeap.next_ro] at hg; exact hg), fun g x hx => ?_, fun g g' o o' s s' h1 h2 h3 => ?_, Nat.le_refl _, Below.refl _ _⟩
  · obtain ⟨cs, e, own, rfl, hg⟩ := GHeap.of_ro hx
    obtain ⟨s, C, fz, h1, h2, h3, h4, h5, _⟩ := hs.live g _ hg
    exact ⟨s, C, fz, h1, h2, h3, h4, h5, (fun h => by cases h), (fun _ => (Array.getElem?_eq_some_iff.1 h2).1), (fun h => by cases h)⟩
  · obtain ⟨cs, e, own, rfl, hg⟩ := GHeap.of_ro h1
    cases h3
theorem Sim.over {w' : World} (h : Sim P B w0 ρ H w) (hb : Below w.heap.size w w') : Sim P B w0 ρ H w' :=
  h.same (h.below.trans ⟨hb.os, hb.tape, hb.output, hb.size, fun k hk => hb.block k (Nat.lt_of_lt_of_le hk h.base)⟩) hb.size fun g x s hg hs => by
    obtain ⟨t, h1, h2⟩ := (h.live g x hg).spot
    rw [hs] at h1; cases h1
    exact hb.block _ h2
theorem Sim.adoptS (hs : Sim P B w0 ρ H w) {s : Spot} {C : Array Value} {e : TypeId} {cs : List Value} (hq : w.heap[s.blk]? = some (.cells C e (0, 0))) (hC : C.size = s.csize) (hB : B ≤ s.blk) (he : (P.info? e).map (·.size) = some s.esz) (hl : s.base + cs.length ≤ C.size)
    (hc : ∀ (i : Nat) (v : Value), cs[i]? = some v → ∃ c, C[s.base + i]? = some c ∧ VRel ρ v c) (hap : ∀ g x t, H.get g = some x → ρ g = some t → t.blk ≠ s.blk) :
    Sim P B w0 (place ρ H.next s) (H.push (.row cs e true)) w ∧ Ext ρ (place ρ H.next s) := by
  have hext : Ext ρ (place ρ H.next s) := place_ext (hs.dom _ (Nat.le_refl _))
  have old : ∀ {k : Nat} {x : GObj} {t : Spot}, (H.push (.row cs e true)).get k = some x → place ρ H.next s k = some t → k ≠ H.next → ρ k = some t ∧ H.get k = some x := by
    intro k x t hx ht hne
    have hlt : k < H.next := by have := GHeap.ltg hx; simp at this; omega
    rw [GHeap.get_push_lt hlt] at hx
    simp only [place, hne, if_false] at ht
    exact ⟨ht, hx⟩
  refine ⟨⟨fun g hg => ?_, fun g o hg => ?_, fun g g' o o' s s' h1 h2 h3 h4 h5 h6 h7 => ?_, hs.base, hs.below⟩, hext⟩
  · rw [GHeap.next_push] at hg
    simp only [place]
    rw [if_neg (by omega)]
    exact hs.dom g (by omega)
  · rcases Nat.lt_or_ge g H.next with hlt | hge
    · rw [GHeap.get_push_lt hlt] at hg
      exact (hs.live g o hg).keep hext fun _ _ => rfl
    · have hg' : g = H.next := by
        have := GHeap.ltg hg
        simp at this
        omega
      subst hg'
      rw [GHeap.get_push_new] at hg
      cases hg
      exact ⟨_, C, (0, 0), place_self, hq, hC, hl, fun i v hv => by
        obtain ⟨c, h1, h2⟩ := hc i v hv
        exact ⟨c, h1, h2.mono hext⟩, fun _ => ⟨rfl, hB⟩, fun h => (by cases h), fun _ => he⟩
  · by_cases e1 : g = H.next
    · subst e1
      obtain ⟨r1, r2⟩ := old h2 h7 (Ne.symm h5)
      rw [place_self] at h6
      cases h6
      exact (hap _ _ _ r2 r1).symm
    · obtain ⟨r1, r2⟩ := old h1 h6 e1
      by_cases e2 : g' = H.next
      · subst e2
        rw [place_self] at h7
        cases h7
        exact hap _ _ _ r2 r1
      · obtain ⟨t1, t2⟩ := old h2 h7 e2
        exact hs.apart g g' o o' s s' r2 t2 h3 h4 h5 r1 t1

theorem store_mark (hs : Sim P B w0 ρ H w) {o : Oper} {a : Act} {t : TypeId} {x y : Operand} {g off : Nat} {ys : List Bool} {e : TypeId} {sp : Spot} (ho : o.op = .store t x y) (ht : (P.info? t).map (·.size) = some 1) (hsp : ρ g = some sp)
    (hx : a.eval x = .pointer (some ⟨sp.blk, sp.base + off, none⟩)) (hy : a.eval y = .bool true) (hg : H.get g = some (.row (bools ys) e true)) (hoff : off < ys.length) :
    ∃ w', (execOp a.eval o).run P w = .ok .skip w' ∧ (∀ ev ∈ (execOp a.eval o).events P w #[], ∃ ad, ev.loc = .cell ad ∧ ad.block = sp.blk) ∧ Sim P B w0 ρ (H.set g (some (.row (bools (ys.set off true)) e true))) w' ∧
      (∀ k, k ≠ sp.blk → w'.heap[k]? = w.heap[k]?) := by
  obtain ⟨sp', C, fz, k1, k2, k3, k4, k5, k6, k7, k8⟩ := hs.live _ _ hg
  rw [hsp] at k1
  cases k1
  obtain ⟨hfz, hB⟩ := k6 rfl
  subst hfz
  have hoff' : off < (bools ys).length := by simpa using hoff
  have hlt : sp.base + off < C.size := by omega
  have hcell : w.cell? ⟨sp.blk, sp.base + off, none⟩ = some C[sp.base + off] := by simp [World.cell?, k2, hlt]
  have hfro : w.frozen? ⟨sp.blk, sp.base + off, none⟩ = false := by simp [World.frozen?, k2]
  have hheap : (w.setCell ⟨sp.blk, sp.base + off, none⟩ (.bool true)).heap[sp.blk]? = some (.cells (C.setIfInBounds (sp.base + off) (.bool true)) e (0, 0)) := by
    simp [World.setCell, Array.getElem?_modify, k2]
  have hoth : ∀ k, k ≠ sp.blk → (w.setCell ⟨sp.blk, sp.base + off, none⟩ (.bool true)).heap[k]? = w.heap[k]? := fun k hk => Below.heap_setCell _ _ _ _ hk
  have hs' := hs.update hg hsp (w' := w.setCell ⟨sp.blk, sp.base + off, none⟩ (.bool true)) (cs' := bools (ys.set off true)) hheap (by simp [k3]) (by simp at k4 ⊢; omega) (fun i u hu => by
    rw [← bools_set] at hu
    by_cases e1 : off = i
    · subst e1
      rw [List.getElem?_set_self hoff'] at hu
      cases hu
      exact ⟨.bool true, by simp [hlt], .bool _⟩
    · rw [List.getElem?_set_ne e1] at hu
      obtain ⟨c, h2, h3⟩ := k5 i u hu
      exact ⟨c, by rw [Array.getElem?_setIfInBounds_ne (by omega)]; exact h2, h3⟩) hoth (by simp [World.setCell]) rfl rfl rfl
  simp only [Option.map_eq_some_iff] at ht
  obtain ⟨inf, hinf, hsz⟩ := ht
  refine ⟨_, ?_, ?_, hs', hoth⟩
  · unfold execOp
    simp only [ho, hx, hy]
    refine u_run' ?_
    simp only [Instr.storeAt, Instr.sureAddr, storeVar, Sem.run_bind, Sem.run_pure, Result.andThen_ok, sizeOf_run hinf, hsz, oneCell_cells (v := .bool true) rfl]
    simp only [List.size_toArray, List.length_cons, List.length_nil, Nat.zero_add, ne_eq, not_true_eq_false, if_false]
    simp only [storeCells, Sem.run_bind, Addr.add, if_true]
    rw [run_store P w _ _ _ rfl, hcell]
    simp [hfro]
  · intro ev hev
    have e1 : (execOp a.eval o).events P w #[] = (storeCells ⟨sp.blk, sp.base + off, none⟩ [.bool true] 0).events P w #[] := by
      unfold execOp
      simp only [ho, hx, hy]
      simp only [Instr.storeAt, Instr.sureAddr, storeVar, Sem.events_bind, Sem.run_bind, Sem.run_pure, Sem.events_pure, Result.andThen_ok, Result.evThen_ok, sizeOf_run hinf, hsz, oneCell_cells (v := .bool true) rfl]
      have e0 : (sizeOf t).events P w #[] = #[] := by simp [sizeOf, typeInfo, hinf]
      have er : (storeCells ⟨sp.blk, sp.base + off, none⟩ [.bool true]).run P w = .ok () (w.setCell ⟨sp.blk, sp.base + off, none⟩ (.bool true)) := by
        simp only [storeCells, Sem.run_bind, Addr.add, if_true]
        rw [run_store P w _ _ _ rfl, hcell]
        simp [hfro]
      simp only [List.size_toArray, List.length_cons, List.length_nil, Nat.zero_add, ne_eq, not_true_eq_false, if_false, e0, er]
      rfl
    rw [e1] at hev
    rcases events_storeCells_at (P := P) sp.blk (sp.base + off) e [.bool true] 0 C w #[] k2 (by simp; omega) (by simp [Value.oneCell']) ev hev with h | h
    · simp at h
    · exact h
end
end Go.GL
namespace Go.Proofs.Ytddjdkpjfpnjiaa
open Go Go.GL Go.RowKit Go.Proofs Go.Conc
variable [MainFlag]
theorem sl23_Of : sliceT Try.prog 23 = some (22, 1) := by kernel_rfl
theorem sl22_Of : sliceT Try.prog 22 = some (2, 1) := by kernel_rfl
theorem on23_Of : oneT Try.prog 23 = true := by kernel_rfl
theorem on22_Of : oneT Try.prog 22 = true := by kernel_rfl
theorem on2_Of : oneT Try.prog 2 = true := by kernel_rfl
theorem foS_Of : fieldOff Try.prog 33 2 = some 6 := by kernel_rfl
theorem foC_Of : fieldOff Try.prog 33 0 = some 0 := by kernel_rfl
noncomputable def imgB : Code := Try.f36.body.getD .skip
noncomputable def imgR0 : Code := match imgB with | .seq (.seq r _) _ => r | _ => .skip
noncomputable def imgK : Code := match imgB with | .seq (.seq _ b) _ => b | _ => .skip
noncomputable def imgL : Code := match imgB with | .seq (.seq _ (.block _ (.loop c))) _ => c | _ => .skip
noncomputable def imgR : Code := match imgB with | .seq _ r => r | _ => .skip

def imgV (f : SFun) (e : Int) (hs : List Int) : List Value := hs.map fun a => .int .i64 ((f.ac.getD a.toNat []).getD e.toNat 0)
theorem imgV_drop {f : SFun} {e : Int} {hs : List Int} {k : Nat} (h : k < hs.length) : imgV f e (hs.drop k) = .int .i64 ((f.ac.getD (hs.getD k 0).toNat []).getD e.toNat 0) :: imgV f e (hs.drop (k + 1)) := by
  have e1 : hs.getD k 0 = hs[k] := by simp [List.getD_eq_getElem?_getD, h]
  rw [List.drop_eq_getElem_cons h, e1]
  rfl
def imgS (gp : Addr) (e : Int) (gc : Nat) (aL : Option Addr) (n k : Nat) : Slots := [(0, some (.pointer (some gp))), (2, some (.int .i64 e)), (4, some (.chan (some gc))), (17, some (.slice aL n n)), (18, some (.int .i64 (n : Int))), (19, some (.int .i64 (k : Int)))]

section
variable {B : Nat} {w0 : World} {ρ : GL.Place} {H : GHeap} {Mine : Loc → Prop} {c : Nat} {S : World → Prop} {aL : Option Addr} {hs : List Int} {e : Int} {gc g : Nat} {f : SFun} {p : SFunP}
set_option maxRecDepth 100000 in
set_option maxHeartbeats 1000000 in
theorem img_from (hS : ∀ w, S w → Sim Try.prog B w0 ρ H w) (hM : ∀ (g : Nat) (x : GObj) (s : Spot) (ad : Addr), H.get g = some x → ρ g = some s → ad.block = s.blk → ¬ Mine (.cell ad)) (hMc : ¬ Mine (.obj c)) (hf0 : SFun.At H g 0 f p) (hx : Ints H aL hs) (hl : hs.length ≤ 1048576) (hal : f.ac.length ≤ 1048576) (he0 : 0 ≤ e)
    (hok : ∀ k, k < hs.length → 0 ≤ hs.getD k 0 ∧ (hs.getD k 0).toNat < f.ac.length ∧ e.toNat < (f.ac.getD (hs.getD k 0).toNat []).length ∧ (f.ac.getD (hs.getD k 0).toNat []).length ≤ 1048576) {sc : Spot} (hc : ρ gc = some sc) (hcb : sc.blk = c) :
    ∀ (m k : Nat), k + m = hs.length → ∃ n, ∀ (a : Act) (w : World), FRel 36 [] ρ (imgS ⟨g, 0, none⟩ e gc aL hs.length k) a →
      Goes Try.prog false (RS S) (DB Mine) (StopB Try.prog c S Mine (imgV f e (hs.drop k))) n (G ((GL.baseD 36).at a [.code imgL, .inLoop imgL, .inBlock 0, .code imgR]) [GL.bot Try.prog]) w := by
  obtain ⟨_, _, cF, _, iF⟩ := hf0.get
  intro m
  induction m with
  | zero =>
    intro k hk
    obtain rfl : k = hs.length := by omega
    rw [List.drop_length]
    refine ⟨40, fun a w hf => ?_⟩
    unfold imgS at hf
    refine goes_c rfl (fun _ => stepG_seq) fun w => ?_
    refine goes_r (l := [0]) rfl fun w => ?_
    refine goes_q hS hM (by simp [GL.baseD]) hf rfl rfl rfl (.cmp rfl rfl rfl) ⟨_, _, rfl⟩ fun c1 w hf => ?_
    refine goes_c rfl (fun _ => stepG_region_end) fun w => ?_
    refine goes_c rfl (fun _ => stepG_seq) fun w => ?_
    refine goes_cond (t := false) hf (by simp [putS, get_cons]) fun w => ?_
    refine goes_ex (id := 0) rfl fun w => ?_
    refine goes_r (l := [0, 1]) rfl fun w => ?_
    refine goes_q hS hM (by simp [GL.baseD]) hf rfl rfl rfl (.move rfl) trivial fun c2 w hf => ?_
    obtain ⟨s2, h2, e2⟩ := (hf.2.2 35 _ rfl).chan_inv
    rw [hc] at h2
    cases h2
    rw [hcb] at e2
    exact Goes.stop fun _ _ => close_stop rfl rfl rfl rfl e2 hf.2.1 Try.func36 rfl rfl hMc
  | succ m ih =>
    intro k hk
    have hlt : k < hs.length := by omega
    obtain ⟨n, ih⟩ := ih (k + 1) (by omega)
    obtain ⟨a0, a1, a2, a3⟩ := hok k hlt
    rw [imgV_drop hlt]
    have hcell : ∃ g off, aL = some ⟨g, off, none⟩ ∧ H.cell g (off + k) = some (.int .i64 (hs.getD k 0)) := by
      rcases hx with h0 | ⟨g, off, rfl, h⟩
      · omega
      · exact ⟨g, off, rfl, h k (by omega)⟩
    obtain ⟨g0, off0, rfl, hk0⟩ := hcell
    have hrow : ∃ g1 o1, p.a2 = some ⟨g1, o1, none⟩ ∧ H.cell g1 (o1 + (hs.getD k 0).toNat) = some (.slice (p.r2 (hs.getD k 0).toNat) (f.ac.getD (hs.getD k 0).toNat []).length (f.ac.getD (hs.getD k 0).toNat []).length) := by
      rcases iF.1 with h0 | ⟨g, off, ea, h⟩
      · omega
      · exact ⟨g, off, ea, h _ a1⟩
    obtain ⟨g1, o1, ea, hk1⟩ := hrow
    rw [ea] at cF
    have hel : ∃ g2 o2, p.r2 (hs.getD k 0).toNat = some ⟨g2, o2, none⟩ ∧ H.cell g2 (o2 + e.toNat) = some (.int .i64 ((f.ac.getD (hs.getD k 0).toNat []).getD e.toNat 0)) := by
      rcases iF.2 _ a1 with h0 | ⟨g, off, ea, h⟩
      · omega
      · exact ⟨g, off, ea, h _ a2⟩
    obtain ⟨g2, o2, er, hk2⟩ := hel
    rw [er] at hk1
    have hwr : IntKind.i64.wrap ((k : Int) + 1) = ((k + 1 : Nat) : Int) := by rw [IntKind.wrap_i64]; omega
    refine ⟨n + 80, fun a w hf => ?_⟩
    unfold imgS at hf
    refine goes_c rfl (fun _ => stepG_seq) fun w => ?_
    refine goes_r (l := [0]) rfl fun w => ?_
    refine goes_q hS hM (by simp [GL.baseD]) hf rfl rfl rfl (.cmp rfl rfl rfl) ⟨_, _, rfl⟩ fun c1 w hf => ?_
    refine goes_c rfl (fun _ => stepG_region_end) fun w => ?_
    refine goes_c rfl (fun _ => stepG_seq) fun w => ?_
    refine goes_cond (t := true) hf (by simp [putS, get_cons]; omega) fun w => ?_
    refine goes_c rfl (fun _ => stepG_skip) fun w => ?_
    refine goes_c rfl (fun _ => stepG_seq) fun w => ?_
    refine goes_c rfl (fun _ => stepG_block) fun w => ?_
    refine goes_c rfl (fun _ => stepG_seq) fun w => ?_
    refine goes_r (l := [0, 1, 2]) rfl fun w => ?_
    refine goes_q hS hM (by simp [GL.baseD]) hf rfl rfl rfl (.indexAddr sl22_Of rfl rfl (by omega) (by omega)) trivial fun c3 w hf => ?_
    refine goes_q hS hM (by simp [GL.baseD]) hf rfl rfl rfl (.load (v := .int .i64 (hs.getD k 0)) on2_Of rfl (by simpa using hk0)) on2_Of fun c4 w hf => ?_
    refine goes_q hS hM (by simp [GL.baseD]) hf rfl rfl rfl (.assign rfl) trivial fun c5 w hf => ?_
    refine goes_c rfl (fun _ => stepG_region_end) fun w => ?_
    refine goes_r (l := [0, 1, 2, 3, 4, 5, 6, 7, 8, 9, 10, 11]) rfl fun w => ?_
    refine goes_q hS hM (by simp [GL.baseD]) hf rfl rfl rfl (.move rfl) trivial fun c7 w hf => ?_
    refine goes_q hS hM (by simp [GL.baseD]) hf rfl rfl rfl (.move rfl) trivial fun c8 w hf => ?_
    refine goes_q hS hM (by simp [GL.baseD]) hf rfl rfl rfl (.nilCheck rfl) trivial fun c9 w hf => ?_
    refine goes_q hS hM (by simp [GL.baseD]) hf rfl rfl rfl (.fieldAddr foS_Of rfl) trivial fun c10 w hf => ?_
    refine goes_q hS hM (by simp [GL.baseD]) hf rfl rfl rfl (.load on23_Of rfl cF) on23_Of fun c11 w hf => ?_
    refine goes_q hS hM (by simp [GL.baseD]) hf rfl rfl rfl (.move rfl) trivial fun c12 w hf => ?_
    refine goes_q hS hM (by simp [GL.baseD]) hf rfl rfl rfl (.indexAddr sl23_Of rfl rfl (by omega) (by omega)) trivial fun c13 w hf => ?_
    refine goes_q hS hM (by simp [GL.baseD]) hf rfl rfl rfl (.load (v := .slice (some ⟨g2, o2, none⟩) (f.ac.getD (hs.getD k 0).toNat []).length (f.ac.getD (hs.getD k 0).toNat []).length) on22_Of rfl (by simpa using hk1)) on22_Of fun c14 w hf => ?_
    refine goes_q hS hM (by simp [GL.baseD]) hf rfl rfl rfl (.move rfl) trivial fun c15 w hf => ?_
    refine goes_q hS hM (by simp [GL.baseD]) hf rfl rfl rfl (.indexAddr sl22_Of rfl rfl (by omega) (by omega)) trivial fun c16 w hf => ?_
    refine goes_q hS hM (by simp [GL.baseD]) hf rfl rfl rfl (.load (v := .int .i64 ((f.ac.getD (hs.getD k 0).toNat []).getD e.toNat 0)) on2_Of rfl (by simpa using hk2)) on2_Of fun c17 w hf => ?_
    obtain ⟨s2, h2, e2⟩ := (hf.2.2 23 _ rfl).chan_inv
    rw [hc] at h2
    cases h2
    rw [hcb] at e2
    have e3 := (hf.2.2 33 _ rfl).int_inv
    refine Goes.stop fun _ _ => send_stop (n := n + 10) rfl rfl rfl rfl (by simp [GL.baseD]) e2 e3 ?_
    refine goes_c rfl (fun _ => stepG_region_end) fun w => ?_
    refine goes_c rfl (fun _ => stepG_inBlock) fun w => ?_
    refine goes_r (l := [0, 1]) rfl fun w => ?_
    refine goes_q hS hM (by simp [GL.baseD]) hf rfl rfl rfl (.arith rfl rfl rfl) ⟨_, _, rfl⟩ fun c8 w hf => ?_
    refine goes_q hS hM (by simp [GL.baseD]) hf rfl rfl rfl (.move rfl) trivial fun c9 w hf => ?_
    refine goes_c rfl (fun _ => stepG_region_end) fun w => ?_
    refine goes_c rfl (fun _ => stepG_inLoop) fun w => ?_
    refine (ih _ w (hf.sub ?_)).mono (by omega)
    unfold imgS
    rw [← hwr]
    exact ⟨rfl, rfl, rfl, rfl, rfl, rfl, trivial⟩

theorem img_sends (hS : ∀ w, S w → Sim Try.prog B w0 ρ H w) (hM : ∀ (g : Nat) (x : GObj) (s : Spot) (ad : Addr), H.get g = some x → ρ g = some s → ad.block = s.blk → ¬ Mine (.cell ad)) (hMc : ¬ Mine (.obj c)) (hf0 : SFun.At H g 0 f p) (hx : Ints H aL hs) (hl : hs.length ≤ 1048576) (hal : f.ac.length ≤ 1048576) (he0 : 0 ≤ e)
    (hok : ∀ k, k < hs.length → 0 ≤ hs.getD k 0 ∧ (hs.getD k 0).toNat < f.ac.length ∧ e.toNat < (f.ac.getD (hs.getD k 0).toNat []).length ∧ (f.ac.getD (hs.getD k 0).toNat []).length ≤ 1048576) {sc : Spot} (hc : ρ gc = some sc) (hcb : sc.blk = c)
    {a : Act} (hf : FRel 36 [] ρ (imgS ⟨g, 0, none⟩ e gc aL hs.length 0) a) : Sends Try.prog c S Mine (imgV f e hs) (G ((GL.baseD 36).at a [.code imgK, .code imgR]) [GL.bot Try.prog]) := by
  obtain ⟨n, hn⟩ := img_from hS hM hMc hf0 hx hl hal he0 hok hc hcb hs.length 0 (by omega)
  refine (sends_iff _ _ _ _ _ _).2 ⟨n + 2, ?_⟩
  refine goes_c rfl (fun _ => stepG_block) fun w => ?_
  refine goes_c rfl (fun _ => stepG_loop) fun w => ?_
  exact hn a w hf
end

theorem img_first {g gc : Nat} {f : SFun} {p : SFunP} {x e y : Int} {H : GHeap} {Q : Exit → Slots → GHeap → Prop} (h : SFun.At H g 0 f p) (hS : f.Shape)
    (hQ : ∀ (H' : GHeap) (gL : Nat) (fr : Slots), H.Le H' → H.next ≤ gL → H'.get gL = some (.row (ints (f.sh.hom x y)) 2 true) → Sub (imgS ⟨g, 0, none⟩ e gc (some ⟨gL, 0, none⟩) (f.sh.hom x y).length 0) fr → Q .normal fr H') :
    GT Try.prog 36 imgR0 Q [(0, some (.pointer (some ⟨g, 0, none⟩))), (1, some (.int .i64 x)), (2, some (.int .i64 e)), (3, some (.int .i64 y)), (4, some (.chan (some gc)))] H := by
  refine .region (.mv rfl (.q rfl (.nilCheck rfl) (.q rfl (.fieldAddr foC_Of rfl) (.mv rfl (.mv rfl ?_)))))
  refine .call rfl rfl rfl rfl en48 rfl (hom_c (c := f.sh) (h := h.get.1) (hS := hS.c.1)) ?_
  rintro _ H17 ⟨le17, g17, rfl, at17, ge17⟩
  refine .q rfl (.len sl22_Of rfl) (.mv rfl (.nil ?_))
  exact hQ H17 g17 _ le17 ge17 at17 ⟨rfl, rfl, rfl, rfl, rfl, rfl, trivial⟩

set_option maxRecDepth 100000 in
theorem img_child {B : Nat} {w0 w2 : World} {ρ : GL.Place} {H : GHeap} {KA : Goroutine → World → Prop} (hKA : Steady Try.prog false (Below w2.heap.size w2) KA) (hs : Sim Try.prog B w0 ρ H w2) {g gc : Nat} {f : SFun} {p : SFunP} {x e y : Int} (hf : SFun.At H g 0 f p) (hS : f.Shape)
    {cargs : List Value} (hr : LRel ρ [.pointer (some ⟨g, 0, none⟩), .int .i64 x, .int .i64 e, .int .i64 y, .chan (some gc)] cargs) {d : Deferred} (hd : d.target = .fn (.func 36) #[]) (hda : d.args = cargs.toArray)
    (hexit : ∀ (w₁ : World) (ρ' : GL.Place) (H' : GHeap) (gL : Nat) (a : Act), Below w2.heap.size w2 w₁ → Ext ρ ρ' → Sim Try.prog w2.heap.size w2 ρ' H' w₁ → H.ro.Le H' → H.next ≤ gL → H'.get gL = some (.row (ints (f.sh.hom x y)) 2 true) →
      FRel 36 [] ρ' (imgS ⟨g, 0, none⟩ e gc (some ⟨gL, 0, none⟩) (f.sh.hom x y).length 0) a → KA (G ((GL.baseD 36).at a [.code imgK, .code imgR]) [GL.bot Try.prog]) w₁) : KA (born Try.prog d) w2 := by
  letI : MainFlag := ⟨false⟩
  have hC : Closed Try.prog false (Below w2.heap.size w2) KA := Steady.closed hKA rfl
  refine moveM hC rfl (fun w => born_enter hd Try.func36 rfl rfl w) ?_
  rw [hda]
  have hfr := frel_args (N := 36) (by simp) hr
  simp only [argSlots] at hfr
  refine moveM' hC rfl (fun w => stepG_seq) (moveM' hC rfl (fun w => stepG_seq) ?_)
  have hcm : Cells H H.ro := fun _ _ _ h => GHeap.cell_ro h
  have hf' : SFun.At H.ro g 0 f p := ⟨hf.1.cm hcm, ⟨hf.2.1.1.cm hcm, hf.2.1.2.1.cm hcm, hf.2.1.2.2.1.cm hcm, hf.2.1.2.2.2.cm hcm⟩, hf.2.2.1.cm hcm, hf.2.2.2.cm hcm⟩
  have hgt := img_first (x := x) (e := e) (y := y) (gc := gc) hf' hS (Q := fun ex fr H' => ex = .normal ∧ ∃ gL, H.ro.Le H' ∧ H.ro.next ≤ gL ∧ H'.get gL = some (.row (ints (f.sh.hom x y)) 2 true) ∧ Sub (imgS ⟨g, 0, none⟩ e gc (some ⟨gL, 0, none⟩) (f.sh.hom x y).length 0) fr)
    (fun H' gL fr h1 h2 h3 h4 => ⟨rfl, gL, h1, h2, h3, h4⟩)
  refine hgt none [] _ _ ρ _ _ hs.ro hfr false KA hC (GL.baseD 36) [.code imgK, .code imgR] [GL.bot Try.prog] (by simp [GL.baseD]) fun ex a' w' ⟨ρ', fr', H', ⟨hq, gL, h1, h2, h3, h4⟩, he, hs', hf'⟩ => ?_
  subst hq
  rw [GHeap.next_ro] at h2
  exact hexit w' ρ' H' gL a' hs'.below he hs' h1 h2 h3 (hf'.sub h4)
end Go.Proofs.Ytddjdkpjfpnjiaa
namespace Go.Proofs.Ytddjdkpjfpnjiaa
open Go Go.GL Go.RowKit Go.Proofs Go.Conc
variable [MainFlag]
theorem chan_run {o : Oper} {a : Act} {k : IntKind} {t : TypeId} {n : Nat} (ho : o.op = .makeChan t (.const (.int k 0))) (ht : chanT Try.prog t = some n) (w : World) : (execOp a.eval o).run Try.prog w = .ok (.value (.chan (some w.heap.size))) (w.alloc (.chan 0 #[] false 0 0 false)) := by
  obtain ⟨dir, e, i, h1, h2, h3⟩ := chanT_run ht
  unfold execOp
  rw [ho]
  exact v_run' (run_makeChan (P := Try.prog) (w := w) h1 h2 k 0 (by omega) (by omega))

end Go.Proofs.Ytddjdkpjfpnjiaa
namespace Go.GL
variable [MainFlag]

structure StM (lo hi : Nat) (H H' : GHeap) : Prop where
  nx : H.next ≤ H'.next
  same : ∀ k o, ¬ (lo ≤ k ∧ k < hi) → H.get k = some o → H'.get k = some o
  ins : ∀ k o, H.get k = some o → ∃ o', H'.get k = some o' ∧ (o' = o ∨ ∃ xs ys e, o = .row (ints xs) e true ∧ o' = .row (ints ys) e true ∧ ys.length = xs.length)
theorem StM.refl (lo hi : Nat) (H : GHeap) : StM lo hi H H := ⟨Nat.le_refl _, fun _ _ _ h => h, fun _ o h => ⟨o, h, .inl rfl⟩⟩
theorem StM.of_le {lo hi : Nat} {H H' : GHeap} (h : H.Le H') : StM lo hi H H' := ⟨h.1, fun k o _ ho => h.2 k o ho, fun _ o ho => ⟨o, h.2 _ _ ho, .inl rfl⟩⟩
theorem ints_inj {xs ys : List Int} (h : ints xs = ints ys) : xs = ys := by
  unfold ints at h
  exact (List.map_inj_right (fun a b hab => by cases hab; rfl)).1 h
theorem StM.trans {lo hi : Nat} {A B C : GHeap} (h : StM lo hi A B) (k : StM lo hi B C) : StM lo hi A C where
  nx := Nat.le_trans h.nx k.nx
  same g o hg ho := k.same g o hg (h.same g o hg ho)
  ins g o ho := by
    obtain ⟨o1, h1, h2⟩ := h.ins g o ho
    obtain ⟨o2, k1, k2⟩ := k.ins g o1 h1
    refine ⟨o2, k1, ?_⟩
    rcases h2 with rfl | ⟨xs, ys, e, rfl, rfl, hl⟩
    · exact k2
    · rcases k2 with rfl | ⟨us, vs, e', h3, rfl, hl'⟩
      · exact .inr ⟨xs, ys, e, rfl, rfl, hl⟩
      · injection h3 with h3 h4 h5
        have := ints_inj h3
        subst this
        subst h4
        exact .inr ⟨xs, vs, _, rfl, rfl, by rw [hl', hl]⟩
theorem StM.le_left {lo hi : Nat} {A B C : GHeap} (h : A.Le B) (k : StM lo hi B C) (hA : A.next ≤ lo) : A.Le C :=
  ⟨Nat.le_trans h.1 k.nx, fun g o ho => k.same g o (by have := GHeap.ltg ho; omega) (h.2 g o ho)⟩
theorem Keep.stM {b lo hi : Nat} {H0 H H' : GHeap} (k : Keep b H0 H) (h : StM lo hi H H') (hg : ∀ k, b ≤ k → k < H0.next → ¬ (lo ≤ k ∧ k < hi)) : Keep b H0 H' := fun g o hb h1 => h.same g o (hg g hb (GHeap.ltg h1)) (k g o hb h1)

def IntsW (lo hi : Nat) (H : GHeap) (a : Option Addr) (n : Nat) : Prop := n = 0 ∨ ∃ g e xs, a = some ⟨g, 0, none⟩ ∧ lo ≤ g ∧ g < hi ∧ H.get g = some (.row (ints xs) e true) ∧ xs.length = n
theorem IntsW.stm {lo hi : Nat} {H H' : GHeap} {a : Option Addr} {n : Nat} (h : IntsW lo hi H a n) (s : StM lo hi H H') : IntsW lo hi H' a n := by
  rcases h with h | ⟨g, e, xs, h1, h2, h3, h4, h5⟩
  · exact .inl h
  · obtain ⟨o', k1, k2⟩ := s.ins g _ h4
    rcases k2 with rfl | ⟨us, vs, e', h6, rfl, hl⟩
    · exact .inr ⟨g, e, xs, h1, h2, h3, k1, h5⟩
    · injection h6 with h6 h7 h8
      have := ints_inj h6
      subst this
      exact .inr ⟨g, e', vs, h1, h2, h3, k1, by rw [hl, h5]⟩
theorem IntsW.of_at {b : Nat} {H0 H : GHeap} {a : Option Addr} {xs : List Int} (h : IntsAt b H0 a xs) (k : Keep b H0 H) : IntsW b H0.next H a xs.length := by
  obtain ⟨g, e, h1, h2, h3⟩ := h
  exact .inr ⟨g, e, xs, h1, h2, GHeap.ltg h3, k g _ h2 h3, rfl⟩
def HdGe (b : Nat) (a : Option Addr) (n : Nat) : Prop := n = 0 ∨ ∃ g o, a = some ⟨g, o, none⟩ ∧ b ≤ g
theorem SlA.keep {b b' : Nat} {H H' : GHeap} {a : Option Addr} {n : Nat} {f : Nat → Value} (h : SlA H a n f) (hd : HdGe b a n) (k : Keep b' H H') (hb : b' ≤ b) : SlA H' a n f := by
  rcases hd with h0 | ⟨g, o, rfl, hg⟩
  · exact .inl h0
  · rcases h with h0 | ⟨g', o', e, hc⟩
    · exact .inl h0
    · cases e
      refine .inr ⟨g, o, rfl, fun i hi => ?_⟩
      have h1 := hc i hi
      unfold GHeap.cell at h1 ⊢
      cases hx : H.get g with
      | none => rw [hx] at h1; cases h1
      | some x => rw [hx] at h1; rw [k g x (by omega) hx]; exact h1
def IntssW (lo hi : Nat) (H : GHeap) (a : Option Addr) (xss : List (List Int)) (r : Nat → Option Addr) : Prop :=
  SlA H a xss.length (fun i => .slice (r i) (xss.getD i []).length (xss.getD i []).length) ∧ (∀ i, i < xss.length → IntsW lo hi H (r i) (xss.getD i []).length) ∧ HdGe lo a xss.length
theorem SlA.stm {lo hi : Nat} {H H' : GHeap} {a : Option Addr} {n : Nat} {f : Nat → Value} (h : SlA H a n f) (s : StM lo hi H H') (hf : ∀ i m, f i ≠ .int .i64 m) : SlA H' a n f := by
  rcases h with h | ⟨g, o, e, h⟩
  · exact .inl h
  · refine .inr ⟨g, o, e, fun i hi => ?_⟩
    have hc := h i hi
    unfold GHeap.cell at hc ⊢
    split at hc
    · rename_i cs el own hg
      obtain ⟨o', k1, k2⟩ := s.ins g _ hg
      rw [k1]
      rcases k2 with rfl | ⟨us, vs, e', h6, rfl, hl⟩
      · exact hc
      · injection h6 with h6 h7 h8
        subst h6
        exfalso
        simp only [ints, List.getElem?_map, Option.map_eq_some_iff] at hc
        obtain ⟨m, _, hm⟩ := hc
        exact hf i m hm.symm
    · cases hc
theorem IntssW.stm {lo hi : Nat} {H H' : GHeap} {a : Option Addr} {xss : List (List Int)} {r : Nat → Option Addr} (h : IntssW lo hi H a xss r) (s : StM lo hi H H') : IntssW lo hi H' a xss r :=
  ⟨h.1.stm s fun i m e => (by cases e), fun i hi => (h.2.1 i hi).stm s, h.2.2⟩
theorem IntssW.of_at {b : Nat} {H0 H : GHeap} {a : Option Addr} {xss : List (List Int)} {r : Nat → Option Addr} (h : IntssAt b H0 a xss r) (k : Keep b H0 H) : IntssW b H0.next H a xss r :=
  ⟨(h.keep k (Nat.le_refl _)).intss.1, fun i hi => by obtain ⟨g, e, cs, _, _, _, _, _, h6⟩ := h; exact .of_at (h6 i hi) k, by obtain ⟨g, e, cs, h1, h2, _⟩ := h; exact .inr ⟨g, 0, h1, h2⟩⟩
def sumL : List (List Int) → Nat
  | [] => 0
  | xs :: r => xs.length + sumL r
theorem sumL_take_succ {xss : List (List Int)} {k : Nat} (h : k < xss.length) : sumL (xss.take (k + 1)) = sumL (xss.take k) + (xss.getD k []).length := by
  induction xss generalizing k with
  | nil => simp at h
  | cons x r ih =>
    cases k with
    | zero => simp [sumL]
    | succ k =>
      have := ih (k := k) (by simpa using h)
      simp only [List.take_succ_cons, sumL, List.getD_cons_succ]
      omega
theorem sumL_le {m : Nat} : ∀ {xss : List (List Int)}, (∀ i, (xss.getD i []).length ≤ m) → sumL xss ≤ xss.length * m
  | [], _ => by simp [sumL]
  | x :: r, h => by
    have h0 := h 0
    have := sumL_le (xss := r) fun i => by simpa using h (i + 1)
    simp only [sumL, List.length_cons, Nat.add_mul]
    simp at h0
    omega
theorem sumL_take_le {xss : List (List Int)} {k : Nat} : sumL (xss.take k) ≤ sumL xss := by
  induction xss generalizing k with
  | nil => simp
  | cons x r ih =>
    cases k with
    | zero => simp [sumL]
    | succ k => simp only [List.take_succ_cons, sumL]; have := ih (k := k); omega
def Cat.total (c : Cat) : Nat := c.src.length + (c.tgt.length + (c.idn.length + sumL c.comp))
def CatW (lo hi : Nat) (H : GHeap) (c : Cat) (p : CatP) : Prop := IntsW lo hi H p.a1 c.src.length ∧ IntsW lo hi H p.a2 c.tgt.length ∧ IntsW lo hi H p.a3 c.idn.length ∧ IntssW lo hi H p.a4 c.comp p.r
theorem CatW.stm {lo hi : Nat} {H H' : GHeap} {c : Cat} {p : CatP} (h : CatW lo hi H c p) (s : StM lo hi H H') : CatW lo hi H' c p := ⟨h.1.stm s, h.2.1.stm s, h.2.2.1.stm s, h.2.2.2.stm s⟩
theorem CatW.of_at {b : Nat} {H0 H : GHeap} {c : Cat} {p : CatP} (h : CatAt b H0 c p) (k : Keep b H0 H) : CatW b H0.next H c p := ⟨.of_at h.1 k, .of_at h.2.1 k, .of_at h.2.2.1 k, .of_at h.2.2.2 k⟩
def Fun.total (f : Fun) : Nat := f.s.total + (f.t.total + (f.ob.length + f.ar.length))
def Con.total (c : Con) : Nat := c.lg.length
def seqL (k : Int) (n : Nat) : List Int := (List.range n).map fun (i : Nat) => k + (i : Int)
@[simp] theorem length_seqL (k : Int) (n : Nat) : (seqL k n).length = n := by simp [seqL]
theorem seqL_get {k : Int} {n i : Nat} (h : i < n) : (seqL k n).getD i 0 = k + i := by simp [seqL, List.getD_eq_getElem?_getD, h]
abbrev Leaf := Option Addr × Nat
def lvBlk : Leaf → List Nat
  | (some a, _ + 1) => [a.block]
  | _ => []
def lvBlks (ls : List Leaf) : List Nat := ls.flatMap lvBlk
def lvSum : List Leaf → Nat
  | [] => 0
  | l :: r => l.2 + lvSum r
def Live1 (b : Nat) (H : GHeap) (l : Leaf) : Prop := l.2 = 0 ∨ ∃ g e xs, l.1 = some ⟨g, 0, none⟩ ∧ b ≤ g ∧ H.get g = some (.row (ints xs) e true) ∧ xs.length = l.2
def Held (b : Nat) (H : GHeap) : List Leaf → Int → Prop
  | [], _ => True
  | l :: r, k => (l.2 = 0 ∨ ∃ g e, l.1 = some ⟨g, 0, none⟩ ∧ b ≤ g ∧ H.get g = some (.row (ints (seqL k l.2)) e true)) ∧ Held b H r (k + l.2)
theorem Held.keep0 {b : Nat} {H H' : GHeap} : ∀ {ls : List Leaf} {k : Int}, Held b H ls k → Keep b H H' → Held b H' ls k
  | [], _, _, _ => trivial
  | _ :: _, _, h, hk => ⟨h.1.imp id fun ⟨g, e, h1, h2, h3⟩ => ⟨g, e, h1, h2, hk g _ h2 h3⟩, Held.keep0 h.2 hk⟩
theorem Held.append {b : Nat} {H : GHeap} : ∀ {ls ms : List Leaf} {k : Int}, Held b H ls k → Held b H ms (k + lvSum ls) → Held b H (ls ++ ms) k
  | [], _, _, _, h => by simpa [lvSum] using h
  | l :: r, ms, k, h, h' => ⟨h.1, Held.append h.2 (by rw [show k + (l.2 : Int) + (lvSum r : Int) = k + (lvSum (l :: r) : Int) by simp [lvSum]; omega]; exact h')⟩
structure StB (bs : List Nat) (H H' : GHeap) : Prop where
  nx : H.next ≤ H'.next
  same : ∀ k o, ¬ k ∈ bs → H.get k = some o → H'.get k = some o
theorem StB.refl (bs : List Nat) (H : GHeap) : StB bs H H := ⟨Nat.le_refl _, fun _ _ _ h => h⟩
theorem StB.trans {bs cs : List Nat} {A B C : GHeap} (h : StB bs A B) (k : StB cs B C) : StB (bs ++ cs) A C :=
  ⟨Nat.le_trans h.nx k.nx, fun g o hg ho => k.same g o (fun hc => hg (List.mem_append_right _ hc)) (h.same g o (fun hc => hg (List.mem_append_left _ hc)) ho)⟩
theorem Live1.blk {b : Nat} {H : GHeap} {l : Leaf} (h : Live1 b H l) {g : Nat} {e : TypeId} {xs : List Int} (h1 : l.1 = some ⟨g, 0, none⟩) (hn : l.2 ≠ 0) : g ∈ lvBlk l := by
  obtain ⟨a, n⟩ := l
  simp only at h1 hn
  subst h1
  cases n with
  | zero => exact absurd rfl hn
  | succ n => simp [lvBlk]
theorem Held.stB {b : Nat} {H H' : GHeap} {bs : List Nat} (s : StB bs H H') : ∀ {ls : List Leaf} {k : Int}, Held b H ls k → (∀ g ∈ lvBlks ls, ¬ g ∈ bs) → Held b H' ls k
  | [], _, _, _ => trivial
  | l :: r, k, h, hd => by
    refine ⟨?_, Held.stB s h.2 fun g hg => hd g (by simp only [lvBlks, List.flatMap_cons, List.mem_append]; exact .inr hg)⟩
    by_cases hn : l.2 = 0
    · exact .inl hn
    · rcases h.1 with h0 | ⟨g, e, h1, h2, h3⟩
      · exact .inl h0
      · have hl : Live1 b H l := .inr ⟨g, e, _, h1, h2, h3, by simp⟩
        exact .inr ⟨g, e, h1, h2, s.same g _ (hd g (by simp only [lvBlks, List.flatMap_cons, List.mem_append]; exact .inl (hl.blk (e := e) (xs := seqL k l.2) h1 hn))) h3⟩
theorem lvBlks_append (ls ms : List Leaf) : lvBlks (ls ++ ms) = lvBlks ls ++ lvBlks ms := by simp [lvBlks]
theorem lvSum_append : ∀ (ls ms : List Leaf), lvSum (ls ++ ms) = lvSum ls + lvSum ms
  | [], ms => by simp [lvSum]
  | l :: r, ms => by simp only [List.cons_append, lvSum, lvSum_append r ms]; omega

def Con.leaves (c : Con) (p : ConP) : List Leaf := [(p.a1, c.lg.length)]
theorem Held.keep {b b' : Nat} {H H' : GHeap} {ls : List Leaf} {k : Int} (h : Held b H ls k) (hk : Keep b' H H') (hb : b' ≤ b) : Held b H' ls k := h.keep0 fun g o hg ho => hk g o (by omega) ho
theorem Held.app {b : Nat} {H : GHeap} : ∀ {ls ms : List Leaf} {k : Int}, Held b H (ls ++ ms) k → Held b H ls k ∧ Held b H ms (k + lvSum ls)
  | [], ms, k, h => ⟨trivial, by simpa [lvSum] using h⟩
  | l :: r, ms, k, h => by
    obtain ⟨h1, h2⟩ := Held.app (ls := r) h.2
    exact ⟨⟨h.1, h1⟩, by rw [show k + (lvSum (l :: r) : Int) = k + (l.2 : Int) + (lvSum r : Int) by simp [lvSum]; omega]; exact h2⟩
theorem Held.ints {b : Nat} {H : GHeap} {a : Option Addr} {n : Nat} {k : Int} (h : Held b H [(a, n)] k) : Ints H a (seqL k n) := by
  rcases h.1 with h0 | ⟨g, e, h1, h2, h3⟩
  · simp only at h0; subst h0; exact .inl (by simp)
  · simp only at h1 h3; subst h1; exact Ints.of_get h3

structure Marked (lo hi : Nat) (H H' : GHeap) (ls : List Leaf) (k : Int) : Prop where
  stm : StM lo hi H H'
  stb : StB (lvBlks ls) H H'
  held : (lvBlks ls).Nodup → Held lo H' ls k
theorem Marked.nil (lo hi : Nat) (H : GHeap) (k : Int) : Marked lo hi H H [] k := ⟨.refl _ _ _, .refl _ _, fun _ => trivial⟩
theorem Marked.app {lo hi : Nat} {A B C : GHeap} {ls ms : List Leaf} {k : Int} (h : Marked lo hi A B ls k) (h' : Marked lo hi B C ms (k + lvSum ls)) : Marked lo hi A C (ls ++ ms) k where
  stm := h.stm.trans h'.stm
  stb := by rw [lvBlks_append]; exact h.stb.trans h'.stb
  held := fun nd => by
    rw [lvBlks_append, List.nodup_append] at nd
    exact ((h.held nd.1).stB h'.stb fun g hg hg' => nd.2.2 g hg g hg' rfl).append (h'.held nd.2.1)
theorem Marked.le_left {lo hi : Nat} {A B C : GHeap} {ls : List Leaf} {k : Int} (h : A.Le B) (m : Marked lo hi B C ls k) : Marked lo hi A C ls k :=
  ⟨⟨Nat.le_trans h.1 m.stm.nx, fun g o hg ho => m.stm.same g o hg (h.2 g o ho), fun g o ho => m.stm.ins g o (h.2 g o ho)⟩, ⟨Nat.le_trans h.1 m.stb.nx, fun g o hg ho => m.stb.same g o hg (h.2 g o ho)⟩, m.held⟩
theorem Marked.one {lo hi g : Nat} {H H' : GHeap} {e : TypeId} {xs : List Int} {k : Int} (hlo : lo ≤ g) (hhi : g < hi) (h0 : H.get g = some (.row (ints xs) e true)) (s : St [g] H H') (h1 : H'.get g = some (.row (ints (seqL k xs.length)) e true)) (hn : xs.length ≠ 0) :
    Marked lo hi H H' [(some ⟨g, 0, none⟩, xs.length)] k where
  stm := ⟨s.nx, fun i o hi ho => s.same i o ⟨by omega, trivial⟩ ho, fun i o ho => by
    by_cases hi : i = g
    · subst hi
      rw [h0] at ho; cases ho
      exact ⟨_, h1, .inr ⟨xs, seqL k xs.length, e, rfl, rfl, by simp⟩⟩
    · exact ⟨o, s.same i o ⟨hi, trivial⟩ ho, .inl rfl⟩⟩
  stb := ⟨s.nx, fun i o hi ho => s.same i o ⟨fun e' => hi (by
    subst e'
    cases hx : xs.length with
    | zero => exact absurd hx hn
    | succ m => simp [lvBlks, lvBlk]), trivial⟩ ho⟩
  held := fun _ => ⟨.inr ⟨g, e, rfl, hlo, h1⟩, trivial⟩
def rowsL (r : Nat → Option Addr) (xss : List (List Int)) (n : Nat) : List Leaf := (List.range n).map fun i => (r i, (xss.getD i []).length)
theorem rowsL_succ (r : Nat → Option Addr) (xss : List (List Int)) (n : Nat) : rowsL r xss (n + 1) = rowsL r xss n ++ [(r n, (xss.getD n []).length)] := by simp [rowsL, List.range_succ]
theorem lvSum_rowsL (r : Nat → Option Addr) (xss : List (List Int)) : ∀ n, n ≤ xss.length → lvSum (rowsL r xss n) = sumL (xss.take n)
  | 0, _ => by simp [rowsL, lvSum, sumL]
  | n + 1, h => by rw [rowsL_succ, lvSum_append, lvSum_rowsL r xss n (by omega), sumL_take_succ (by omega)]; simp [lvSum]
def Cat.leaves (c : Cat) (p : CatP) : List Leaf := [(p.a1, c.src.length)] ++ ([(p.a2, c.tgt.length)] ++ ([(p.a3, c.idn.length)] ++ rowsL p.r c.comp c.comp.length))
theorem Cat.lvSum_leaves (c : Cat) (p : CatP) : lvSum (c.leaves p) = c.total := by
  simp only [Cat.leaves, lvSum_append, lvSum, lvSum_rowsL p.r c.comp _ (Nat.le_refl _), List.take_length, Cat.total, Nat.add_zero]
def Fun.leaves (f : Fun) (p : FunP) : List Leaf := f.s.leaves p.s ++ (f.t.leaves p.t ++ ([(p.b1, f.ob.length)] ++ [(p.b2, f.ar.length)]))
theorem Cat.total_le {c : Cat} (h : c.Small) : c.total ≤ 3 * 1048576 + 1048576 * 1048576 := by
  obtain ⟨h1, h2, h3, h4, h5, _⟩ := h
  have := sumL_le (m := 1048576) h5
  have h6 : c.comp.length * 1048576 ≤ 1048576 * 1048576 := Nat.mul_le_mul_right _ h4
  unfold Cat.total
  omega
theorem Marked.app' {lo hi : Nat} {A B C : GHeap} {ls ms : List Leaf} {k k' : Int} (h : Marked lo hi A B ls k) (h' : Marked lo hi B C ms k') (e : k' = k + lvSum ls) : Marked lo hi A C (ls ++ ms) k := by subst e; exact h.app h'
theorem IntsW.keep {lo lo' hi : Nat} {H H' : GHeap} {a : Option Addr} {n : Nat} (h : IntsW lo hi H a n) (k : Keep lo' H H') (hb : lo' ≤ lo) : IntsW lo hi H' a n := h.imp id fun ⟨g, e, xs, h1, h2, h3, h4, h5⟩ => ⟨g, e, xs, h1, h2, h3, k g _ (by omega) h4, h5⟩
theorem IntssW.keep {lo lo' hi : Nat} {H H' : GHeap} {a : Option Addr} {xss : List (List Int)} {r : Nat → Option Addr} (h : IntssW lo hi H a xss r) (k : Keep lo' H H') (hb : lo' ≤ lo) : IntssW lo hi H' a xss r := ⟨h.1.keep h.2.2 k hb, fun i hi => (h.2.1 i hi).keep k hb, h.2.2⟩
theorem Cat.Small.tot {c : Cat} (h : c.Small) : c.total ≤ 3 * 1048576 + 1048576 * 1048576 := Cat.total_le h
end Go.GL
namespace Go.GL
variable [MainFlag]

def Rising (xs : List Int) : Prop := ∀ i, 1 ≤ i → i < xs.length → xs.getD (i - 1) 0 < xs.getD i 0
structure SFun.Part (f : SFun) (me : List (List Int)) : Prop where
  pl : me.length = f.sz.length
  rs : ∀ x, x < me.length → Rising (me.getD x []) ∧ allIn (me.getD x []) (f.sz.getD x 0) = true
  cl : ∀ a, a < f.ac.length → ∀ i, i < (me.getD (f.sh.src.getD a 0).toNat []).length → (me.getD (f.sh.tgt.getD a 0).toNat []).contains ((f.ac.getD a []).getD ((me.getD (f.sh.src.getD a 0).toNat []).getD i 0).toNat 0) = true
end Go.GL
namespace Go.GL
variable [MainFlag]

def SFun.total (f : SFun) : Nat := f.sh.total + (f.sz.length + sumL f.ac)
def SFunW (lo hi : Nat) (H : GHeap) (f : SFun) (p : SFunP) : Prop := CatW lo hi H f.sh p.sh ∧ IntsW lo hi H p.a1 f.sz.length ∧ IntssW lo hi H p.a2 f.ac p.r2
theorem SFunW.of_at {b : Nat} {H0 H : GHeap} {c : SFun} {p : SFunP} (h : SFunAt b H0 c p) (k : Keep b H0 H) : SFunW b H0.next H c p := ⟨.of_at h.1 k, .of_at h.2.1 k, .of_at h.2.2 k⟩
def SFun.leaves (f : SFun) (p : SFunP) : List Leaf := f.sh.leaves p.sh ++ ([(p.a1, f.sz.length)] ++ rowsL p.r2 f.ac f.ac.length)
theorem sumL_tot {xss : List (List Int)} (h : xss.length ≤ 1048576) (h' : ∀ i, (xss.getD i []).length ≤ 1048576) : sumL xss ≤ 1048576 * 1048576 := by
  have := sumL_le (m := 1048576) h'
  have h6 : xss.length * 1048576 ≤ 1048576 * 1048576 := Nat.mul_le_mul_right _ h
  exact Nat.le_trans this h6
theorem SFun.Small.tot {c : SFun} (h : c.Small) : c.total ≤ 4 * 1048576 + 2 * 1048576 * 1048576 := by
  obtain ⟨h1, h2, h3, h4⟩ := h
  have := h1.tot
  have := sumL_tot h3 h4
  unfold SFun.total
  omega
def SMap.total (f : SMap) : Nat := f.s.total + (f.t.total + sumL f.pa)
def SMap.leaves (f : SMap) (p : SMapP) : List Leaf := f.s.leaves p.s ++ (f.t.leaves p.t ++ rowsL p.r2 f.pa f.pa.length)
def Prt.total (f : Prt) : Nat := sumL f.me
def Prt.leaves (f : Prt) (p : PrtP) : List Leaf := rowsL p.r0 f.me f.me.length
def NoTwo (xss : List (List Int)) (r : Nat → Option Addr) : Prop := (lvBlks (rowsL r xss xss.length)).Nodup
def IntssR (b : Nat) (H : GHeap) (a : Option Addr) (xss : List (List Int)) (r : Nat → Option Addr) : Prop := ((xss = [] ∧ a = none) ∨ IntssAt b H a xss r) ∧ NoTwo xss r
theorem IntssR.keep {b b' : Nat} {H H' : GHeap} {a : Option Addr} {xs : List (List Int)} {r : Nat → Option Addr} (h : IntssR b H a xs r) (k : Keep b' H H') (hb : b' ≤ b) : IntssR b' H' a xs r := ⟨h.1.imp id fun h => h.keep k hb, h.2⟩
theorem IntssR.intss {b : Nat} {H : GHeap} {a : Option Addr} {xs : List (List Int)} {r : Nat → Option Addr} (h : IntssR b H a xs r) : Intss H a xs r := by
  rcases h.1 with ⟨rfl, rfl⟩ | h
  · exact ⟨.inl rfl, fun i hi => by simp at hi⟩
  · exact h.intss
theorem IntssR.nil (b : Nat) (H : GHeap) (r : Nat → Option Addr) : IntssR b H none [] r := ⟨.inl ⟨rfl, rfl⟩, by simp [NoTwo, lvBlks, rowsL]⟩
theorem IntssW.of_r {b : Nat} {H0 H : GHeap} {a : Option Addr} {xs : List (List Int)} {r : Nat → Option Addr} (h : IntssR b H0 a xs r) (k : Keep b H0 H) : IntssW b H0.next H a xs r := by
  rcases h.1 with ⟨rfl, rfl⟩ | h
  · exact ⟨.inl rfl, fun i hi => by simp at hi, .inl rfl⟩
  · exact .of_at h k
def slsOf (r : Nat → Option Addr) (X : Nat → List Int) (k : Nat) : List Value := (List.range k).map fun i => .slice (r i) (X i).length (X i).length
@[simp] theorem length_slsOf (r : Nat → Option Addr) (X : Nat → List Int) (k : Nat) : (slsOf r X k).length = k := by simp [slsOf]
def upd (r : Nat → Option Addr) (k : Nat) (a : Option Addr) : Nat → Option Addr := fun i => if i = k then a else r i
theorem upd_eq (r : Nat → Option Addr) (k : Nat) (a : Option Addr) : upd r k a k = a := by simp [upd]
theorem upd_ne {r : Nat → Option Addr} {k i : Nat} {a : Option Addr} (h : i ≠ k) : upd r k a i = r i := by simp [upd, h]
theorem slsOf_succ {r : Nat → Option Addr} {X : Nat → List Int} {k : Nat} {a : Option Addr} : slsOf (upd r k a) X (k + 1) = slsOf r X k ++ [.slice a (X k).length (X k).length] := by
  unfold slsOf
  rw [List.range_succ, List.map_append]
  congr 1
  · refine List.map_congr_left fun i hi => ?_
    rw [upd_ne (by have := List.mem_range.1 hi; omega)]
  · simp [upd_eq]
structure OwnRows (b : Nat) (H : GHeap) (e : TypeId) (r : Nat → Option Addr) (X : Nat → List Int) (k : Nat) : Prop where
  row : ∀ i, i < k → ∃ g, r i = some ⟨g, 0, none⟩ ∧ b ≤ g ∧ H.get g = some (.row (ints (X i)) e true)
  inj : ∀ i j, i < k → j < k → r i = r j → i = j
theorem OwnRows.zero (b : Nat) (H : GHeap) (e : TypeId) (r : Nat → Option Addr) (X : Nat → List Int) : OwnRows b H e r X 0 := ⟨fun i hi => by omega, fun i j hi => by omega⟩
def Lasts (e : TypeId) (H H' : GHeap) : Prop := ∀ x xs, H.get x = some (.row (ints xs) e true) → H'.get x = some (.row (ints xs) e true)
theorem St.lasts1 {g0 : Nat} {H H' : GHeap} {e e' : TypeId} {cs : List Value} (s : St [g0] H H') (h0 : H.get g0 = some (.row cs e' true)) (hne : (e != e') = true) : Lasts e H H' := fun x xs hx => by
  simp only [bne_iff_ne, ne_eq] at hne
  refine s.same x _ ⟨fun ex => ?_, trivial⟩ hx
  subst ex
  rw [h0] at hx
  cases hx
  exact hne rfl
theorem OwnRows.succ' {b g k : Nat} {H H' : GHeap} {e : TypeId} {r : Nat → Option Addr} {X : Nat → List Int} (h : OwnRows b H e r X k) (s : Lasts e H H')
    (hg : H'.get g = some (.row (ints (X k)) e true)) (hn : H.next ≤ g) (hb : b ≤ g) : OwnRows b H' e (upd r k (some ⟨g, 0, none⟩)) X (k + 1) := by
  refine ⟨fun i hi => ?_, fun i j hi hj hij => ?_⟩
  · by_cases ek : i = k
    · subst ek; exact ⟨g, upd_eq _ _ _, hb, hg⟩
    · obtain ⟨x, h1, h2, h3⟩ := h.row i (by omega)
      exact ⟨x, by rw [upd_ne ek]; exact h1, h2, s x _ h3⟩
  · by_cases ei : i = k
    · by_cases ej : j = k
      · omega
      · subst ei
        rw [upd_eq, upd_ne ej] at hij
        obtain ⟨x, h1, _, h3⟩ := h.row j (by omega)
        rw [h1] at hij
        cases hij
        have := GHeap.ltg h3
        omega
    · by_cases ej : j = k
      · subst ej
        rw [upd_eq, upd_ne ei] at hij
        obtain ⟨x, h1, _, h3⟩ := h.row i (by omega)
        rw [h1] at hij
        cases hij
        have := GHeap.ltg h3
        omega
      · rw [upd_ne ei, upd_ne ej] at hij
        exact h.inj i j (by omega) (by omega) hij
theorem OwnRows.succ {b g g0 k : Nat} {H H' : GHeap} {e e' : TypeId} {r : Nat → Option Addr} {X : Nat → List Int} {cs : List Value} (h : OwnRows b H e r X k) (s : St [g0] H H') (h0 : H.get g0 = some (.row cs e' true)) (hne : (e != e') = true)
    (hg : H'.get g = some (.row (ints (X k)) e true)) (hn : H.next ≤ g) (hb : b ≤ g) : OwnRows b H' e (upd r k (some ⟨g, 0, none⟩)) X (k + 1) := h.succ' (s.lasts1 h0 hne) hg hn hb
theorem mem_lvBlk {g n x : Nat} (h : x ∈ lvBlk (some ⟨g, 0, none⟩, n)) : x = g := by
  cases n with
  | zero => simp [lvBlk] at h
  | succ n => simpa [lvBlk] using h
theorem lvBlks_rowsL {r : Nat → Option Addr} {xss : List (List Int)} (hr : ∀ i, i < xss.length → ∃ g, r i = some ⟨g, 0, none⟩) (hi : ∀ i j, i < xss.length → j < xss.length → r i = r j → i = j) : ∀ {n}, n ≤ xss.length →
    (lvBlks (rowsL r xss n)).Nodup ∧ ∀ g ∈ lvBlks (rowsL r xss n), ∃ i, i < n ∧ r i = some ⟨g, 0, none⟩
  | 0, _ => by simp [rowsL, lvBlks]
  | n + 1, hn => by
    obtain ⟨h1, h2⟩ := lvBlks_rowsL hr hi (n := n) (by omega)
    obtain ⟨g, hg⟩ := hr n (by omega)
    have h3 : ∀ x ∈ lvBlk (r n, (xss.getD n []).length), x = g := fun x hx => by rw [hg] at hx; exact mem_lvBlk hx
    have h4 : (lvBlk (r n, (xss.getD n []).length)).Nodup := by unfold lvBlk; split <;> simp
    have e1 : lvBlks (rowsL r xss (n + 1)) = lvBlks (rowsL r xss n) ++ lvBlk (r n, (xss.getD n []).length) := by rw [rowsL_succ, lvBlks_append]; simp [lvBlks]
    rw [e1]
    refine ⟨List.nodup_append.2 ⟨h1, h4, fun x hx y hy hxy => ?_⟩, fun x hx => ?_⟩
    · obtain ⟨i, i1, i2⟩ := h2 x hx
      have := h3 y hy
      subst hxy this
      have := hi i n (by omega) (by omega) (by rw [i2, hg])
      omega
    · rcases List.mem_append.1 hx with hx | hx
      · obtain ⟨i, i1, i2⟩ := h2 x hx
        exact ⟨i, by omega, i2⟩
      · exact ⟨n, by omega, by rw [h3 x hx]; exact hg⟩
def rowsOf (X : Nat → List Int) (n : Nat) : List (List Int) := (List.range n).map X
@[simp] theorem length_rowsOf (X : Nat → List Int) (n : Nat) : (rowsOf X n).length = n := by simp [rowsOf]
theorem rowsOf_get {X : Nat → List Int} {n i : Nat} (h : i < n) : (rowsOf X n).getD i [] = X i := by simp [rowsOf, List.getD_eq_getElem?_getD, h]
theorem OwnRows.done {b g n : Nat} {H : GHeap} {e e' : TypeId} {r : Nat → Option Addr} {X : Nat → List Int} (h : OwnRows b H e r X n) (hg : H.get g = some (.row (slsOf r X n) e' true)) (hb : b ≤ g) : IntssR b H (some ⟨g, 0, none⟩) (rowsOf X n) r := by
  refine ⟨.inr ⟨g, e', slsOf r X n, rfl, hb, hg, by simp, fun i hi => ?_, fun i hi => ?_⟩, ?_⟩
  · rw [length_rowsOf] at hi
    rw [rowsOf_get hi]
    simp [slsOf, hi]
  · rw [length_rowsOf] at hi
    rw [rowsOf_get hi]
    obtain ⟨x, h1, h2, h3⟩ := h.row i hi
    exact ⟨x, e, h1, h2, h3⟩
  · exact (lvBlks_rowsL (fun i hi => by rw [length_rowsOf] at hi; obtain ⟨x, h1, _⟩ := h.row i hi; exact ⟨x, h1⟩) (fun i j hi hj => by rw [length_rowsOf] at hi hj; exact h.inj i j hi hj) (Nat.le_refl _)).1

section
variable {P : Program} {o : Oper} {fr : Slots} {H : GHeap}
end
def SMap.backX (m : SMap) (me : List (List Int)) (x : Nat) : List Int := filtN (m.pa.getD x []).length fun e => (me.getD x []).contains ((m.pa.getD x []).getD e 0)
def SMap.backR (m : SMap) (me : List (List Int)) : List (List Int) := rowsOf (m.backX me) m.pa.length
noncomputable def SMap.back (m : SMap) (me : List (List Int)) : Prt := ⟨bif B (m.Is ∧ m.t.Part me) then m.backR me else []⟩
def SFun.pick (f : SFun) (Y : Nat → Nat → Bool) : Prt := ⟨rowsOf (fun x => filtN (f.sz.getD x 0).toNat (Y x)) f.sz.length⟩
end Go.GL
namespace Go.GL
variable [MainFlag]
def tabB (n : Nat) (p : Nat → Bool) : List Bool := (List.range n).map p
@[simp] theorem length_tabB (n : Nat) (p : Nat → Bool) : (tabB n p).length = n := by simp [tabB]
theorem tabB_get {n i : Nat} {p : Nat → Bool} (h : i < n) : (tabB n p).getD i false = p i := by simp [tabB, List.getD_eq_getElem?_getD, h]
theorem tabB_congr {n : Nat} {p q : Nat → Bool} (h : ∀ i, i < n → p i = q i) : tabB n p = tabB n q := List.map_congr_left fun i hi => h i (List.mem_range.1 hi)
theorem tabB_set (n : Nat) (p : Nat → Bool) (i : Nat) (v : Bool) : (tabB n p).set i v = tabB n (fun j => bif j == i then v else p j) := by
  apply List.ext_getElem (by simp)
  intro j h1 h2
  simp only [length_tabB] at h2
  rw [List.getElem_set]
  simp only [tabB, List.getElem_map, List.getElem_range]
  by_cases e : i = j
  · subst e; simp
  · rw [if_neg e]
    have : (j == i) = false := by simp; omega
    rw [this]; rfl
theorem tabB_false (n : Nat) : List.replicate n false = tabB n (fun _ => false) := by
  apply List.ext_getElem (by simp)
  intro j h1 h2
  simp [tabB]
def markP (xs : List Int) (e : Nat) : Nat → Bool := fun d => (xs.take e).contains (d : Int)
theorem markP_zero (xs : List Int) : markP xs 0 = fun _ => false := by funext d; simp [markP]
theorem markP_all (xs : List Int) : markP xs xs.length = fun d : Nat => xs.contains (d : Int) := by funext d; simp [markP]
theorem markP_succ {n e : Nat} {xs : List Int} (h : e < xs.length) (h0 : 0 ≤ xs.getD e 0) : tabB n (markP xs (e + 1)) = (tabB n (markP xs e)).set (xs.getD e 0).toNat true := by
  rw [tabB_set]
  refine tabB_congr fun d _ => ?_
  have e1 : xs[e]? = some (xs.getD e 0) := by simp [List.getD_eq_getElem?_getD, h]
  simp only [markP, List.take_add_one, e1, Option.toList_some, List.contains_append]
  have e2 : ([xs.getD e 0].contains (d : Int)) = (d == (xs.getD e 0).toNat) := by
    rw [Bool.eq_iff_iff]
    simp only [List.contains_cons, List.contains_nil, Bool.or_false, beq_iff_eq]
    omega
  rw [e2]
  cases (d == (xs.getD e 0).toNat) <;> simp

theorem Bools.tabS {H : GHeap} {a : Option Addr} {n : Nat} {p : Nat → Bool} (h : Bools H a (tabB n p)) : SlA H a n (fun i => .bool ((tabB n p).getD i false)) := by
  have h' : SlA H a (tabB n p).length _ := h
  rw [length_tabB] at h'
  exact h'
def slsN (r : Nat → Nat) (L : Nat → Nat) (k : Nat) : List Value := (List.range k).map fun i => .slice (some ⟨r i, 0, none⟩) (L i) (L i)
@[simp] theorem length_slsN (r : Nat → Nat) (L : Nat → Nat) (k : Nat) : (slsN r L k).length = k := by simp [slsN]
def updN (r : Nat → Nat) (k g : Nat) : Nat → Nat := fun i => if i = k then g else r i
theorem updN_eq (r : Nat → Nat) (k g : Nat) : updN r k g k = g := by simp [updN]
theorem updN_ne {r : Nat → Nat} {k i g : Nat} (h : i ≠ k) : updN r k g i = r i := by simp [updN, h]
theorem slsN_succ {r : Nat → Nat} {L : Nat → Nat} {k g : Nat} : slsN (updN r k g) L (k + 1) = slsN r L k ++ [.slice (some ⟨g, 0, none⟩) (L k) (L k)] := by
  unfold slsN
  rw [List.range_succ, List.map_append]
  congr 1
  · refine List.map_congr_left fun i hi => ?_
    rw [updN_ne (by have := List.mem_range.1 hi; omega)]
  · simp [updN_eq]
def LastsV (e : TypeId) (H H' : GHeap) : Prop := ∀ x cs, H.get x = some (.row cs e true) → H'.get x = some (.row cs e true)
theorem St.lastsV1 {g0 : Nat} {H H' : GHeap} {e e' : TypeId} {cs : List Value} (s : St [g0] H H') (h0 : H.get g0 = some (.row cs e' true)) (hne : (e != e') = true) : LastsV e H H' := fun x xs hx => by
  simp only [bne_iff_ne, ne_eq] at hne
  refine s.same x _ ⟨fun ex => ?_, trivial⟩ hx
  subst ex
  rw [h0] at hx
  cases hx
  exact hne rfl
structure OwnB (b : Nat) (H : GHeap) (e : TypeId) (r : Nat → Nat) (L : Nat → Nat) (M : Nat → Nat → Bool) (k : Nat) : Prop where
  row : ∀ i, i < k → b ≤ r i ∧ H.get (r i) = some (.row (bools (tabB (L i) (M i))) e true)
  inj : ∀ i j, i < k → j < k → r i = r j → i = j
theorem OwnB.zero (b : Nat) (H : GHeap) (e : TypeId) (r : Nat → Nat) (L : Nat → Nat) (M : Nat → Nat → Bool) : OwnB b H e r L M 0 := ⟨fun i hi => by omega, fun i j hi => by omega⟩
theorem OwnB.succ {b g k : Nat} {H H' : GHeap} {e : TypeId} {r : Nat → Nat} {L : Nat → Nat} {M : Nat → Nat → Bool} (h : OwnB b H e r L M k) (s : LastsV e H H')
    (hg : H'.get g = some (.row (bools (tabB (L k) (M k))) e true)) (hn : H.next ≤ g) (hb : b ≤ g) : OwnB b H' e (updN r k g) L M (k + 1) := by
  have lt : ∀ i, i < k → r i < g := fun i hi => Nat.lt_of_lt_of_le (GHeap.ltg (h.row i hi).2) hn
  refine ⟨fun i hi => ?_, fun i j hi hj hij => ?_⟩
  · by_cases ek : i = k
    · subst ek; rw [updN_eq]; exact ⟨hb, hg⟩
    · rw [updN_ne ek]; exact ⟨(h.row i (by omega)).1, s _ _ (h.row i (by omega)).2⟩
  · by_cases ei : i = k
    · by_cases ej : j = k
      · omega
      · subst ei
        rw [updN_eq, updN_ne ej] at hij
        have := lt j (by omega)
        omega
    · by_cases ej : j = k
      · subst ej
        rw [updN_eq, updN_ne ei] at hij
        have := lt i (by omega)
        omega
      · rw [updN_ne ei, updN_ne ej] at hij
        exact h.inj i j (by omega) (by omega) hij
theorem OwnB.put {b k i : Nat} {H H' : GHeap} {e : TypeId} {r : Nat → Nat} {L : Nat → Nat} {M M' : Nat → Nat → Bool} (h : OwnB b H e r L M k) (hi : i < k) (s : St [r i] H H') (hg : H'.get (r i) = some (.row (bools (tabB (L i) (M' i))) e true))
    (hM : ∀ j, j < k → j ≠ i → ∀ d, d < L j → M' j d = M j d) : OwnB b H' e r L M' k := ⟨fun j hj => by
  by_cases ej : j = i
  · subst ej; exact ⟨(h.row j hj).1, hg⟩
  · refine ⟨(h.row j hj).1, ?_⟩
    rw [tabB_congr (hM j hj ej)]
    exact s.same _ _ ⟨fun er => ej (h.inj j i hj hi er), trivial⟩ (h.row j hj).2, h.inj⟩
theorem OwnB.congr {b k : Nat} {H : GHeap} {e : TypeId} {r : Nat → Nat} {L : Nat → Nat} {M M' : Nat → Nat → Bool} (h : OwnB b H e r L M k) (hM : ∀ j, j < k → ∀ d, d < L j → M' j d = M j d) : OwnB b H e r L M' k :=
  ⟨fun j hj => ⟨(h.row j hj).1, by rw [tabB_congr (hM j hj)]; exact (h.row j hj).2⟩, h.inj⟩
structure BMat (b : Nat) (H : GHeap) (g : Nat) (e1 e2 : TypeId) (r : Nat → Nat) (L : Nat → Nat) (M : Nat → Nat → Bool) (n : Nat) : Prop where
  hd : H.get g = some (.row (slsN r L n) e1 true)
  gb : b ≤ g
  own : OwnB b H e2 r L M n
theorem BMat.keep {b b' n g : Nat} {H H' : GHeap} {e1 e2 : TypeId} {r : Nat → Nat} {L : Nat → Nat} {M : Nat → Nat → Bool} (h : BMat b H g e1 e2 r L M n) (k : Keep b' H H') (hb : b' ≤ b) : BMat b' H' g e1 e2 r L M n :=
  ⟨k _ _ (by have := h.gb; omega) h.hd, by have := h.gb; omega, fun i hi => ⟨by have := (h.own.row i hi).1; omega, k _ _ (by have := (h.own.row i hi).1; omega) (h.own.row i hi).2⟩, h.own.inj⟩
theorem BMat.congr {b n g : Nat} {H : GHeap} {e1 e2 : TypeId} {r : Nat → Nat} {L : Nat → Nat} {M M' : Nat → Nat → Bool} (h : BMat b H g e1 e2 r L M n) (hM : ∀ j, j < n → ∀ d, d < L j → M' j d = M j d) : BMat b H g e1 e2 r L M' n := ⟨h.hd, h.gb, h.own.congr hM⟩
theorem BMat.row {b n g i : Nat} {H : GHeap} {e1 e2 : TypeId} {r : Nat → Nat} {L : Nat → Nat} {M : Nat → Nat → Bool} (h : BMat b H g e1 e2 r L M n) (hi : i < n) : Bools H (some ⟨r i, 0, none⟩) (tabB (L i) (M i)) := Bools.of_get (h.own.row i hi).2
theorem BMat.sl {b n g : Nat} {H : GHeap} {e1 e2 : TypeId} {r : Nat → Nat} {L : Nat → Nat} {M : Nat → Nat → Bool} (h : BMat b H g e1 e2 r L M n) : SlA H (some ⟨g, 0, none⟩) n (fun i => .slice (some ⟨r i, 0, none⟩) (L i) (L i)) :=
  .inr ⟨g, 0, rfl, fun i hi => by rw [GHeap.cell_of h.hd, Nat.zero_add]; simp [slsN, hi]⟩
theorem BMat.put {b n g i : Nat} {H H' : GHeap} {e1 e2 : TypeId} {r : Nat → Nat} {L : Nat → Nat} {M M' : Nat → Nat → Bool} (h : BMat b H g e1 e2 r L M n) (hi : i < n) (s : St [r i] H H') (hg : H'.get (r i) = some (.row (bools (tabB (L i) (M' i))) e2 true))
    (hM : ∀ j, j < n → j ≠ i → ∀ d, d < L j → M' j d = M j d) (hne : (e1 != e2) = true) : BMat b H' g e1 e2 r L M' n := ⟨by
    simp only [bne_iff_ne, ne_eq] at hne
    refine s.same _ _ ⟨fun ex => ?_, trivial⟩ h.hd
    have h1 := h.hd
    rw [ex, (h.own.row i hi).2] at h1
    injection h1 with h1
    injection h1 with _ h1 _
    exact hne h1.symm, h.gb, h.own.put hi s hg hM⟩
def NewBMat (e1 e2 : TypeId) (H : GHeap) (L : Nat → Nat) (M : Nat → Nat → Bool) (n : Nat) (v : Value) (H' : GHeap) : Prop := H.Le H' ∧ ∃ g r, v = .slice (some ⟨g, 0, none⟩) n n ∧ BMat H.next H' g e1 e2 r L M n

def SMap.dirY (m : SMap) (p : List (List Int)) (x d : Nat) : Bool := (p.getD x []).any fun e => (m.pa.getD x []).getD e.toNat 0 == (d : Int)
noncomputable def SMap.dir (m : SMap) (p : List (List Int)) : Prt := bif B (m.Is ∧ m.s.Part p) then m.t.pick (m.dirY p) else ⟨[]⟩
end Go.GL
namespace Go.Proofs.Ytddjdkpjfpnjiaa
open Go Go.GL Go.RowKit Go.Proofs Go.Conc
variable [MainFlag]
theorem sl60_Og : sliceT Try.prog 60 = some (4, 1) := by kernel_rfl
theorem ze4_Og : zeroT Try.prog 4 = some ([.bool false], 1) := by kernel_rfl
theorem by4_Og : (Try.prog.info? 4).map (·.bytes) = some 1 := by kernel_rfl
theorem sz4_Og : (Try.prog.info? 4).map (·.size) = some 1 := by kernel_rfl
theorem foZ_Og : fieldOff Try.prog 33 1 = some 5 := by kernel_rfl
noncomputable def orbB : Code := Try.f8.body.getD .skip
noncomputable def orbW : Code := match orbB with | .seq _ (.seq _ (.seq _ (.seq (.seq _ (.block _ (.loop (.seq _ (.seq (.block _ b) _))))) _))) => b | _ => .skip
noncomputable def orbM : Code := match orbW with | .seq _ m => m | _ => .skip
noncomputable def orbR : Code := match orbM with | .seq _ (.seq _ (.seq _ r)) => r | _ => .skip
noncomputable def orbLoop : Code := match orbM with | .seq _ (.seq _ (.seq (.seq _ (.block _ (.loop c))) _)) => c | _ => .skip
noncomputable def orbOps : Array Oper := match orbLoop with | .seq (.region _ ops _) _ => ops | _ => #[]
noncomputable def orbBody : Code := match orbLoop with | .seq _ (.seq _ b) => b | _ => .skip
noncomputable def orbL (c : Nat) : RangeLoop Try.prog c (.int .i64 0) where
  n := 2
  idr := 12
  orv := orbOps.getD 0 default
  oex := orbOps.getD 1 default
  tr := 40
  tk := 41
  tc := 39
  ty := _
  body := orbBody
  hrv := rfl
  hrg := rfl
  hrd := rfl
  hex := rfl
  heg := rfl
  hed := rfl
  hne := by decide
  hz := chanZ_run (by kernel_rfl)
theorem frel_cons {N : Nat} {D : List Deferred} {ρ : GL.Place} {fr : Slots} {a : Act} (h : FRel N D ρ fr a) {d : Nat} {v u : Value} (hd : d < N) (hv : VRel ρ v u) : FRel N D ρ ((d, some v) :: fr) (a.put (some d) u) := by
  refine ⟨by simp [Act.put, h.1], h.2.1, fun t x hx => ?_⟩
  rw [get_cons] at hx
  split at hx
  · rename_i e
    subst e
    cases hx
    have : (a.put (some d) u).eval (.tmp d) = u := eval_put_eq (by rw [h.1]; exact hd)
    rw [this]
    exact hv
  · rename_i e
    have := h.2.2 t x hx
    unfold Act.put Act.eval at *
    simpa [Array.getD_eq_getD_getElem?, Array.getElem?_setIfInBounds_ne e] using this
theorem le_set {H0 H : GHeap} (h : H0.Le H) {g : Nat} (hg : H0.next ≤ g) (x : Option GObj) : H0.Le (H.set g x) := ⟨by simpa using h.1, fun k o hk => by
  have := GHeap.ltg hk
  rw [GHeap.get_set_ne (by omega)]
  exact h.2 k o hk⟩
theorem set_twice (H : GHeap) (g : Nat) (x y : Option GObj) : (H.set g x).set g y = H.set g y := by simp [GHeap.set]
theorem of_set {H : GHeap} {g k : Nat} {x : Option GObj} {y : GObj} (hg : g < H.next) (h : (H.set g x).get k = some y) : (k = g ∧ x = some y) ∨ (k ≠ g ∧ H.get k = some y) := by
  by_cases e : k = g
  · subst e; rw [GHeap.get_set_eq hg] at h; exact .inl ⟨rfl, h⟩
  · rw [GHeap.get_set_ne (Ne.symm e)] at h; exact .inr ⟨e, h⟩

section
variable {P : Program} {B : Nat} {w0 w : World} {ρ : GL.Place} {H : GHeap} {fr : Slots} {a : Act} {R : World → World → Prop} {D : World → World → Array Event → Prop}
theorem opsC_q0 (T : Terms R D) {N : Nat} {Dd : List Deferred} {fn : FuncId} {ops : Array Oper} {i : Nat} {rest : List Nat} {o : Oper} {n : Nat} {v : Value} {Q : Exit → Act → World → Prop} (hS : ∀ w₁, R w w₁ → Sim P B w0 ρ H w₁)
    (ho : ops[i]? = some o) (hg : o.guard = none) (hd : dstOk N o = true) (hm : MStep P fr H o.op v) (hq : ∀ w₁, R w w₁ → (execOp a.eval o).events P w₁ #[] = #[]) (hf : FRel N Dd ρ fr a)
    (next : ∀ cv w₁, R w w₁ → FRel N Dd ρ (putS fr o.dst (some v)) (a.put o.dst cv) → OpsC P true R D fn ops rest n Q (a.put o.dst cv) w₁) : OpsC P true R D fn ops (i :: rest) (n + 1) Q a w := by
  have hw : Region.wanted o (yielded ops a.tmps) = true := by simp [Region.wanted, hg]
  refine opsC_cons ho hw fun w₁ h₁ => ?_
  obtain ⟨cv, hc, hr⟩ := hm.sound (a := a) (fun t u _ hu => hf.2.2 t u hu) (hS w₁ h₁) o rfl
  rw [hc]
  exact ⟨by rw [listed_nil (hq w₁ h₁)]; exact T.idle _, next cv w₁ h₁ (hf.put hd fun x hx => by cases hx; exact hr)⟩
theorem idx_quiet {o : Oper} {t e : TypeId} {x i : Operand} {ad : Addr} {n cap sz : Nat} {k : IntKind} {j : Int} (ho : o.op = .indexAddr t x i) (ht : sliceT P t = some (e, sz)) (hx : a.eval x = .slice (some ad) n cap) (hi : a.eval i = .int k j) (h0 : 0 ≤ j) (h1 : j < n) (w₁ : World) : (execOp a.eval o).events P w₁ #[] = #[] := by
  obtain ⟨hu, inf, hinf, hsz⟩ := sliceT_run ht
  unfold execOp
  rw [ho]
  dsimp only
  rw [eventsV, hx, hi]
  simp [Instr.indexAt, asIntOf, run_underlying hu, h0, h1, sizeOf, typeInfo, hinf]
end

theorem uponK_mark {P : Program} {B : Nat} {w0 w : World} {ρ : GL.Place} {H : GHeap} (hs : Sim P B w0 ρ H w) {o : Oper} {a : Act} {t : TypeId} {x y : Operand} {g off : Nat} {ys : List Bool} {e : TypeId} {sp : Spot} {K : Act → World → Prop} (ho : o.op = .store t x y) (ht : (P.info? t).map (·.size) = some 1) (hsp : ρ g = some sp)
    (hx : a.eval x = .pointer (some ⟨sp.blk, sp.base + off, none⟩)) (hy : a.eval y = .bool true) (hg : H.get g = some (.row (bools ys) e true)) (hoff : off < ys.length)
    (h : ∀ w', (∀ ev ∈ (execOp a.eval o).events P w #[], ∃ ad, ev.loc = .cell ad ∧ ad.block = sp.blk) → Sim P B w0 ρ (H.set g (some (.row (bools (ys.set off true)) e true))) w' → (∀ k, k ≠ sp.blk → w'.heap[k]? = w.heap[k]?) → K (a.put o.dst undef) w') : uponK o a K ((execOp a.eval o).run P w) := by
  obtain ⟨w', r, v, s, k⟩ := store_mark hs ho ht hsp hx hy hg hoff
  rw [r]
  exact h w' v s k

section
variable {B : Nat} {w0 : World} {ρ : GL.Place} {H : GHeap} {D : List Deferred} {x e y : Int} {g3 gF gc n c : Nat} {v9 : Value} {vals : List Int} {sF sc : Spot} {z : List Value}

def orbF (x e y : Int) (g3 gF gc n : Nat) (v9 : Value) : Slots := [(1, some (.int .i64 x)), (2, some (.int .i64 e)), (3, some (.pointer (some ⟨g3, 0, none⟩))), (9, some v9), (10, some (.int .i64 y)), (11, some (.slice (some ⟨gF, 0, none⟩) n n)), (39, some (.chan (some gc)))]
def OrbS (B : Nat) (w0 : World) (ρ : GL.Place) (H : GHeap) (gF : Nat) (w : World) : Prop := Sim Try.prog B w0 ρ (H.set gF none) w
def OrbMine (m0 : Nat) (l : Loc) : Prop := ∃ ad, l = .cell ad ∧ ad.block = m0
structure OrbI (B : Nat) (w0 : World) (ρ : GL.Place) (H : GHeap) (D : List Deferred) (x e y : Int) (g3 gF gc n : Nat) (v9 : Value) (vals : List Int) (i : Nat) (a : Act) (w : World) : Prop where
  st : Sim Try.prog B w0 ρ (H.set gF (some (.row (bools (tabB n (markP vals i))) 4 true))) w
  fr : FRel 52 D ρ (orbF x e y g3 gF gc n v9) a
variable (hgF : H.get gF = some (.row z 4 true)) (hsF : ρ gF = some sF) (hgc : ρ gc = some sc) (hcb : sc.blk = c) (hB : B ≤ c) (hap : ∀ g x s, H.get g = some x → ρ g = some s → s.blk ≠ c)
include hgF hap in
theorem orb_far {o : Option GObj} {g : Nat} {u : GObj} {s : Spot} (h : (H.set gF o).get g = some u) (hs : ρ g = some s) : s.blk ≠ c := by
  rcases of_set (GHeap.ltg hgF) h with ⟨rfl, _⟩ | ⟨_, h⟩
  · exact hap _ _ _ hgF hs
  · exact hap _ _ _ h hs
include hgF hap hB in
theorem OrbS.aside {w w' : World} (h : OrbS B w0 ρ H gF w) (ha : Aside c w w') : OrbS B w0 ρ H gF w' := Sim.aside h hB (fun _ _ _ hg hs => orb_far hgF hap hg hs) ha
include hgF hap hB in
theorem OrbI.aside {i : Nat} {a : Act} {w w' : World} (h : OrbI B w0 ρ H D x e y g3 gF gc n v9 vals i a w) (ha : Aside c w w') : OrbI B w0 ρ H D x e y g3 gF gc n v9 vals i a w' := ⟨h.st.aside hB (fun _ _ _ hg hs => orb_far hgF hap hg hs) ha, h.fr⟩

include hgF hsF hap hB in
set_option maxRecDepth 100000 in
theorem orb_body {i : Nat} {d : Int} (hi : i < vals.length) (hd : vals.getD i 0 = d) (d0 : 0 ≤ d) (d1 : d < n) {a : Act} {w : World} (hI : OrbI B w0 ρ H D x e y g3 gF gc n v9 vals i a w) (hx : a.eval (.tmp 40) = .tuple #[.int .i64 d, .bool true]) {fnn : FuncId} :
    orbBody.wpC Try.prog true (Aside c) (Dm c (OrbS B w0 ρ H gF) (OrbMine sF.blk) false) fnn 13 (fun e' a' w' => e' = .normal ∧ OrbI B w0 ρ H D x e y g3 gF gc n v9 vals (i + 1) a' w') a w := by
  have T := dm_terms (c := c) (S := OrbS B w0 ρ H gF) (Mine := OrbMine sF.blk) (fresh := false)
  have hsz : a.tmps.size = 52 := hI.fr.1
  refine wpC_block T (wpC_seq T (n₁ := 4) (n₂ := 6) (wpC_region T ?_))
  refine opsC_v T (v := .int .i64 d) rfl rfl (run_ex rfl hx) fun w1 h1 => ?_
  have f1 := frel_cons hI.fr (d := 42) (by decide) (VRel.int .i64 d)
  show OpsC _ _ _ _ _ _ _ _ _ (a.put (some 42) (.int .i64 d)) _
  generalize a.put (some 42) (.int .i64 d) = a1 at *
  have S1 := fun w' (h : Aside c w1 w') => (hI.aside hgF hB hap (h1.trans h)).st
  refine opsC_q0 T S1 rfl rfl rfl (.assign rfl) (fun _ _ => rfl) f1 fun c2 w2 h2 f2 => ?_
  show OpsC _ _ _ _ _ _ _ _ _ (a1.put (some 13) c2) _
  change FRel 52 D ρ ((13, some (.int .i64 d)) :: (42, some (.int .i64 d)) :: orbF x e y g3 gF gc n v9) (a1.put (some 13) c2) at f2
  generalize a1.put (some 13) c2 = a2 at *
  refine opsC_nil T (wpC_region T ?_)
  have S2 := fun w' (h : Aside c w2 w') => S1 w' (h2.trans h)
  refine opsC_q0 T S2 rfl rfl rfl (.move rfl) (fun _ _ => rfl) f2 fun c3 w3 h3 f3 => ?_
  show OpsC _ _ _ _ _ _ _ _ _ (a2.put (some 43) c3) _
  change FRel 52 D ρ ((43, some (.slice (some ⟨gF, 0, none⟩) n n)) :: (13, some (.int .i64 d)) :: (42, some (.int .i64 d)) :: orbF x e y g3 gF gc n v9) (a2.put (some 43) c3) at f3
  generalize a2.put (some 43) c3 = a3 at *
  have S3 := fun w' (h : Aside c w3 w') => S2 w' (h3.trans h)
  refine opsC_q0 T S3 rfl rfl rfl (.move rfl) (fun _ _ => rfl) f3 fun c4 w4 h4 f4 => ?_
  show OpsC _ _ _ _ _ _ _ _ _ (a3.put (some 44) c4) _
  change FRel 52 D ρ ((44, some (.int .i64 d)) :: (43, some (.slice (some ⟨gF, 0, none⟩) n n)) :: (13, some (.int .i64 d)) :: (42, some (.int .i64 d)) :: orbF x e y g3 gF gc n v9) (a3.put (some 44) c4) at f4
  generalize a3.put (some 44) c4 = a4 at *
  have S4 := fun w' (h : Aside c w4 w') => S3 w' (h4.trans h)
  have e44 := (f4.2.2 44 _ rfl).int_inv
  obtain ⟨_, sp, hg, hb⟩ := (f4.2.2 43 _ rfl).slice_inv
  obtain ⟨cap, e43, _⟩ := hb.resolve_right fun h => by omega
  refine opsC_q0 T S4 rfl rfl rfl (.indexAddr sl60_Og rfl rfl d0 d1) (fun w₁ _ => idx_quiet rfl sl60_Og e43 e44 d0 d1 w₁) f4 fun c5 w5 h5 f5 => ?_
  show OpsC _ _ _ _ _ _ _ _ _ (a4.put (some 45) c5) _
  change FRel 52 D ρ ((45, some (.pointer (some ⟨gF, 0 + d.toNat * 1, none⟩))) :: (44, some (.int .i64 d)) :: (43, some (.slice (some ⟨gF, 0, none⟩) n n)) :: (13, some (.int .i64 d)) :: (42, some (.int .i64 d)) :: orbF x e y g3 gF gc n v9) (a4.put (some 45) c5) at f5
  generalize a4.put (some 45) c5 = a5 at *
  have S5 := fun w' (h : Aside c w5 w') => S4 w' (h5.trans h)
  obtain ⟨s5, hs5, e45⟩ := (f5.2.2 45 _ rfl).ptr_inv
  rw [hsF] at hs5
  cases hs5
  refine opsC_cons rfl (by simp [Region.wanted]) fun w6 h6 => ?_
  have hs6 := S5 w6 h6
  have hlt := GHeap.ltg hgF
  refine uponK_mark hs6 (off := d.toNat) (ys := tabB n (markP vals i)) rfl sz4_Og hsF (e45.trans (by simp)) rfl (GHeap.get_set_eq hlt) (by simp; omega) fun w7 v7 s7 k7 => ?_
  rw [set_twice, ← hd, ← markP_succ hi (by omega)] at s7
  refine ⟨⟨fun _ => s7.fewer (by simp) fun k u hu => ?_, k7 c (Ne.symm (hap _ _ _ hgF hsF)), fun ev he => ?_, fun h => by cases h⟩, ?_⟩
  · rcases of_set hlt hu with ⟨_, h⟩ | ⟨hne, h⟩
    · cases h
    · rw [GHeap.get_set_ne (Ne.symm hne)]; exact h
  · obtain ⟨ad', h1', h2'⟩ := v7 ev (mem_listed he)
    refine ⟨⟨by rw [h1']; simp, by rw [h1']; simp⟩, fun b hb => ?_⟩
    rw [(ofEvent_touch (fun m hm => by rw [h1'] at hm; cases hm) hb).1, h1']
    exact ⟨ad', rfl, h2'⟩
  · refine opsC_nil T ?_
    exact ⟨rfl, s7, f5.sub ⟨rfl, rfl, rfl, rfl, rfl, rfl, rfl, trivial⟩⟩
end
end Go.Proofs.Ytddjdkpjfpnjiaa
namespace Go.GL
def SFun.img (f : SFun) (x e y : Int) : List Int := (f.sh.hom x y).map fun a => (f.ac.getD a.toNat []).getD e.toNat 0
end Go.GL
namespace Go.Proofs.Ytddjdkpjfpnjiaa
open Go Go.GL Go.RowKit Go.Proofs Go.Conc
variable [MainFlag]
theorem imgV_img {f : SFun} {x e y : Int} : imgV f e (f.sh.hom x y) = ints (f.img x e y) := by simp [imgV, ints, SFun.img]
theorem img_ok {f : SFun} (hS : f.Shape) {x e y : Int} (he : 0 ≤ e) (hx : e < f.sz.getD x.toNat 0) {k : Nat} (hk : k < (f.sh.hom x y).length) :
    0 ≤ (f.sh.hom x y).getD k 0 ∧ ((f.sh.hom x y).getD k 0).toNat < f.ac.length ∧ e.toNat < (f.ac.getD ((f.sh.hom x y).getD k 0).toNat []).length ∧ 0 ≤ (f.ac.getD ((f.sh.hom x y).getD k 0).toNat []).getD e.toNat 0 ∧ (f.ac.getD ((f.sh.hom x y).getD k 0).toNat []).getD e.toNat 0 < f.sz.getD y.toNat 0 := by
  obtain ⟨a, a1, a2, a3, a4⟩ := Cat.hom_get hk
  have hal := hS.al
  obtain ⟨_, _, _, _, q5⟩ := hS.ends a1
  rw [a2] at q5
  have hlt : e.toNat < (f.ac.getD a []).length := by omega
  have q6 := hS.act (a := a) (by omega) hlt
  rw [a3] at q6
  rw [a4, Int.toNat_natCast]
  exact ⟨by omega, by omega, hlt, q6⟩
theorem img_lt {f : SFun} (hS : f.Shape) {x e y : Int} (he : 0 ≤ e) (hx : e < f.sz.getD x.toNat 0) {k : Nat} (hk : k < (f.img x e y).length) : 0 ≤ (f.img x e y).getD k 0 ∧ (f.img x e y).getD k 0 < f.sz.getD y.toNat 0 := by
  have hk' : k < (f.sh.hom x y).length := by simpa [SFun.img] using hk
  obtain ⟨_, _, _, h⟩ := img_ok (y := y) hS he hx hk'
  have e1 : (f.img x e y).getD k 0 = (f.ac.getD ((f.sh.hom x y).getD k 0).toNat []).getD e.toNat 0 := by simp [SFun.img, List.getD_eq_getElem?_getD, hk']
  rw [e1]
  exact h

section
variable {x e y : Int} {g3 gF n : Nat} {v9 : Value}
def orbE (x e y : Int) (g3 gF n : Nat) (v9 : Value) : Slots := [(1, some (.int .i64 x)), (2, some (.int .i64 e)), (3, some (.pointer (some ⟨g3, 0, none⟩))), (9, some v9), (10, some (.int .i64 y)), (11, some (.slice (some ⟨gF, 0, none⟩) n n))]

theorem img_frame {ρ1 ρ' ρ2 : GL.Place} (hx1 : Ext ρ1 ρ') (hx2 : Ext ρ1 ρ2) {g3 gc gL gN n k : Nat} {e : Int} {a : Act} {s0 s1 sL : Spot} (h3 : ρ1 g3 = some s0) (hc : ρ1 gc = some s1) (hL : ρ' gL = some sL) (hN : ρ2 gN = some sL)
    (h : FRel 36 [] ρ' (imgS ⟨g3, 0, none⟩ e gc (some ⟨gL, 0, none⟩) n k) a) : FRel 36 [] ρ2 (imgS ⟨g3, 0, none⟩ e gc (some ⟨gN, 0, none⟩) n k) a := by
  have r0 : VRel ρ2 (.pointer (some ⟨g3, 0, none⟩)) (a.eval (.tmp 0)) := by
    obtain ⟨s, h1, h2⟩ := (h.2.2 0 _ rfl).ptr_inv
    rw [hx1 _ _ h3] at h1
    cases h1
    rw [h2]
    exact .ptr (hx2 _ _ h3)
  have r2 : VRel ρ2 (.int .i64 e) (a.eval (.tmp 2)) := by rw [(h.2.2 2 _ rfl).int_inv]; exact .int _ _
  have r4 : VRel ρ2 (.chan (some gc)) (a.eval (.tmp 4)) := by
    obtain ⟨s, h1, h2⟩ := (h.2.2 4 _ rfl).chan_inv
    rw [hx1 _ _ hc] at h1
    cases h1
    rw [h2]
    exact .chan (hx2 _ _ hc)
  have r17 : VRel ρ2 (.slice (some ⟨gN, 0, none⟩) n n) (a.eval (.tmp 17)) := by
    have h17 := h.2.2 17 _ rfl
    revert h17
    generalize a.eval (.tmp 17) = cv
    intro h17
    cases h17 with
    | slice h hn hcap hm => rw [hL] at h; cases h; exact .slice hN hn hcap hm
    | empty h => exact .empty hN
  have r18 : VRel ρ2 (.int .i64 (n : Int)) (a.eval (.tmp 18)) := by rw [(h.2.2 18 _ rfl).int_inv]; exact .int _ _
  have r19 : VRel ρ2 (.int .i64 (k : Int)) (a.eval (.tmp 19)) := by rw [(h.2.2 19 _ rfl).int_inv]; exact .int _ _
  refine ⟨h.1, h.2.1, fun t v hv => ?_⟩
  simp only [imgS, get_cons] at hv
  split at hv
  · rename_i e; subst e; cases hv; exact r0
  split at hv
  · rename_i e; subst e; cases hv; exact r2
  split at hv
  · rename_i e; subst e; cases hv; exact r4
  split at hv
  · rename_i e; subst e; cases hv; exact r17
  split at hv
  · rename_i e; subst e; cases hv; exact r18
  split at hv
  · rename_i e; subst e; cases hv; exact r19
  · cases hv

set_option maxRecDepth 100000 in
set_option maxHeartbeats 1000000 in
theorem orbit_core {fr : Slots} {H H0 : GHeap} {Q : Exit → Slots → GHeap → Prop} {f : SFun} {p : SFunP} (hm : MainFlag.main = true) (hsub : Sub (orbE x e y g3 gF n v9) fr) (hf : SFun.At H0 g3 0 f p) (h0 : H0.Le H) (hF0 : H0.next ≤ gF)
    (hF : H.get gF = some (.row (bools (List.replicate n false)) 4 true)) (hS : f.Shape) (hsm : f.Small) (he : 0 ≤ e) (hx : e < f.sz.getD x.toNat 0) (hn : (n : Int) = f.sz.getD y.toNat 0)
    (hrest : ∀ H' : GHeap, H0.Le H' → H'.get gF = some (.row (bools (tabB n fun d => (f.img x e y).contains (d : Int))) 4 true) → GT Try.prog 52 orbR Q (orbE x e y g3 gF n v9) H') : GT Try.prog 52 orbM Q fr H := fun l D B w0 ρ a w hs hfr main K hC b k cs hb hK => by
  have hId : ∀ w d, Below B w0 w → Below B w0 (w.at d) := fun w d h => ⟨h.os, h.tape, h.output, h.size, h.block⟩
  have f0 : FRel 52 D ρ (orbE x e y g3 gF n v9) a := hfr.sub hsub
  have hltF := GHeap.ltg hF
  refine moveM' hC rfl (fun w => stepG_seq) (moveM' hC rfl (fun w => stepG_region) ?_)
  obtain ⟨s2, hext⟩ := hs.allocO (R := fun _ _ x => x = .chan 0 #[] false 0 0 false) (m := fun _ _ _ _ _ h => h) (b := fun _ _ _ _ _ _ h _ => h) (x := .chan 0 #[] false 0 0 false) rfl
  refine opM_v hC (v := .chan (some w.heap.size)) (w' := w.alloc (.chan 0 #[] false 0 0 false)) s2.below hb rfl rfl (by unfold execOp; exact calm_value calm_makeChan) (fun d => chan_run (n := 8) rfl (by kernel_rfl) _) hId ?_
  generalize hcdef : w.heap.size = c at *
  generalize hw2 : w.alloc (.chan 0 #[] false 0 0 false) = w2 at *
  have hz2 : w2.heap.size = c + 1 := by rw [← hw2, ← hcdef]; simp
  have hc2 : w2.heap[c]? = some (.chan 0 #[] false 0 0 false) := by rw [← hw2, ← hcdef]; exact heap_alloc_new w _
  have hBc : B ≤ c := by have := hs.base; omega
  generalize hρ : GL.place ρ H.next ⟨c, 0, 0, 0⟩ = ρ1 at *
  have hgc : ρ1 H.next = some ⟨c, 0, 0, 0⟩ := by rw [← hρ]; exact place_self
  have f1 := frel_cons (f0.mono hext) (d := 34) (by decide) (VRel.chan (s := ⟨c, 0, 0, 0⟩) hgc)
  show K (G (b.at (a.put (some 34) (.chan (some c))) _) cs) _
  generalize a.put (some 34) (.chan (some c)) = a1 at *
  have sc := s2.fewer (H' := (H.push (.oth (fun _ _ x => x = .chan 0 #[] false 0 0 false) (fun _ _ _ _ _ h => h) (fun _ _ _ _ _ _ h _ => h))).set H.next none) (by simp) (fun k y hk => by
    by_cases ek : k = H.next
    · subst ek; rw [GHeap.get_set_eq (by simp)] at hk; cases hk
    · rw [GHeap.get_set_ne (Ne.symm ek)] at hk; exact hk)
  generalize hHc : (H.push (.oth (fun _ _ x => x = .chan 0 #[] false 0 0 false) (fun _ _ _ _ _ h => h) (fun _ _ _ _ _ _ h _ => h))).set H.next none = Hc at *
  have hle : H.Le Hc := by
    rw [← hHc]
    refine ⟨by simp, fun g o hg => ?_⟩
    have := GHeap.ltg hg
    rw [GHeap.get_set_ne (by omega)]
    exact GHeap.get_push_of hg
  have hnx : Hc.next = H.next + 1 := by rw [← hHc]; simp
  have hback : ∀ g x, Hc.get g = some x → H.get g = some x := fun g x hg => by
    rw [← hHc] at hg
    by_cases ek : g = H.next
    · subst ek; rw [GHeap.get_set_eq (by simp)] at hg; cases hg
    · rw [GHeap.get_set_ne (Ne.symm ek)] at hg
      have := GHeap.ltg hg
      simp at this
      rwa [GHeap.get_push_lt (by omega)] at hg
  have hap1 : ∀ g x s, Hc.get g = some x → ρ1 g = some s → s.blk < c := fun g x s hg hsp => by
    have hg0 := hback g x hg
    obtain ⟨s', e1, e2⟩ := (hs.live g x hg0).spot
    have := hext g s' e1
    rw [hsp] at this
    cases this
    omega
  have hI : ∀ d, Below B w0 (w2.at d) := fun d => hId _ d sc.below
  refine opM_q hC hI sc hb f1 rfl rfl rfl (.assign rfl) fun v2 r2 f2 => ?_
  show K (G (b.at (a1.put (some 12) v2) _) cs) _
  change FRel 52 D ρ1 ((12, some (.chan (some H.next))) :: (34, some (.chan (some H.next))) :: orbE x e y g3 gF n v9) (a1.put (some 12) v2) at f2
  generalize a1.put (some 12) v2 = a2 at *
  refine region_endM hC ?_
  refine moveM' hC rfl (fun w => stepG_seq) (moveM' hC rfl (fun w => stepG_region) ?_)
  show K (G (b.at a2 (.inRegion _ [0, 1, 2, 3, 4] :: _)) cs) _
  refine opM_q hC hI sc hb f2 rfl rfl rfl (.move rfl) fun v3 r3 f3 => ?_
  show K (G (b.at (a2.put (some 35) v3) _) cs) _
  change FRel 52 D ρ1 ((35, some (.int .i64 x)) :: (12, some (.chan (some H.next))) :: (34, some (.chan (some H.next))) :: orbE x e y g3 gF n v9) (a2.put (some 35) v3) at f3
  generalize a2.put (some 35) v3 = a3 at *
  refine opM_q hC hI sc hb f3 rfl rfl rfl (.move rfl) fun v4 r4 f4 => ?_
  show K (G (b.at (a3.put (some 36) v4) _) cs) _
  change FRel 52 D ρ1 ((36, some (.int .i64 e)) :: (35, some (.int .i64 x)) :: (12, some (.chan (some H.next))) :: (34, some (.chan (some H.next))) :: orbE x e y g3 gF n v9) (a3.put (some 36) v4) at f4
  generalize a3.put (some 36) v4 = a4 at *
  refine opM_q hC hI sc hb f4 rfl rfl rfl (.move rfl) fun v5 r5 f5 => ?_
  show K (G (b.at (a4.put (some 37) v5) _) cs) _
  change FRel 52 D ρ1 ((37, some (.int .i64 y)) :: (36, some (.int .i64 e)) :: (35, some (.int .i64 x)) :: (12, some (.chan (some H.next))) :: (34, some (.chan (some H.next))) :: orbE x e y g3 gF n v9) (a4.put (some 37) v5) at f5
  generalize a4.put (some 37) v5 = a5 at *
  refine opM_q hC hI sc hb f5 rfl rfl rfl (.move rfl) fun v6 r6 f6 => ?_
  show K (G (b.at (a5.put (some 38) v6) _) cs) _
  change FRel 52 D ρ1 ((38, some (.chan (some H.next))) :: (37, some (.int .i64 y)) :: (36, some (.int .i64 e)) :: (35, some (.int .i64 x)) :: (12, some (.chan (some H.next))) :: (34, some (.chan (some H.next))) :: orbE x e y g3 gF n v9) (a5.put (some 38) v6) at f6
  generalize a5.put (some 38) v6 = a6 at *
  obtain ⟨s12, e12, x12⟩ := (f6.2.2 12 _ rfl).chan_inv
  rw [hgc] at e12
  cases e12
  have hlr : LRel ρ1 [.pointer (some ⟨g3, 0, none⟩), .int .i64 x, .int .i64 e, .int .i64 y, .chan (some H.next)] [a6.eval (.tmp 3), a6.eval (.tmp 35), a6.eval (.tmp 36), a6.eval (.tmp 37), a6.eval (.tmp 38)] :=
    .cons (f6.2.2 3 _ rfl) (.cons (f6.2.2 35 _ rfl) (.cons (f6.2.2 36 _ rfl) (.cons (f6.2.2 37 _ rfl) (.cons (f6.2.2 38 _ rfl) (.nil ρ1)))))
  have hfc := hf.mono (h0.trans hle)
  have frE : FRel 52 D ρ1 (orbE x e y g3 gF n v9) a6 := f6.sub ⟨rfl, rfl, rfl, rfl, rfl, rfl, trivial⟩
  refine fork_range (I0 := Below w2.heap.size w2) hC hm (orbL c) hb rfl rfl rfl (fun _ => rfl) (fun _ => rfl) rfl rfl rfl rfl x12 (by show 39 < a6.tmps.size; rw [f6.1]; decide) (Below.refl _ _) (fun w d h => ⟨h.os, h.tape, h.output, h.size, h.block⟩) (fun w' h => ⟨false, by rw [h.block c (by omega)]; exact hc2⟩)
    (fun KA hKA hex => img_child hKA sc hfc hS hlr rfl (by simp) fun w₁ ρ' H' gL a' hb1 hx1 hs' hle' hge' hat' hfr' => ?_)
  have S1 := sc.over hb1
  obtain ⟨sL, C, fz, k1, k2, k3, k4, k5, k6, k7, k8⟩ := hs'.live _ _ hat'
  obtain ⟨hfz, hBL⟩ := k6 rfl
  subst hfz
  obtain ⟨S2, hx2⟩ := S1.adoptS (s := sL) (cs := ints (f.sh.hom x y)) k2 k3 (by omega) (k8 rfl) k4 (fun i v hv => by
    obtain ⟨cc, h1, h2⟩ := k5 i v hv
    obtain ⟨m, _, rfl⟩ := List.mem_map.1 (List.mem_of_getElem? hv)
    exact ⟨cc, h1, by rw [h2.int_inv]; exact .int _ _⟩) (fun g u t hg ht => by have := hap1 g u t hg ht; omega)
  obtain ⟨s3, e3, _⟩ := (f6.2.2 3 _ rfl).ptr_inv
  have hgL : GL.place ρ1 Hc.next sL Hc.next = some sL := place_self
  have hold : ∀ g s, GL.place ρ1 Hc.next sL g = some s → g ≠ Hc.next → ρ1 g = some s := fun g s h hne => by simpa [GL.place, hne] using h
  generalize GL.place ρ1 Hc.next sL = ρ2 at *
  have hgc2 := hx2 _ _ hgc
  have hleP : Hc.Le (Hc.push (.row (ints (f.sh.hom x y)) 2 true)) := GHeap.le_push _ _
  have hLg : (Hc.push (.row (ints (f.sh.hom x y)) 2 true)).get Hc.next = some (.row (ints (f.sh.hom x y)) 2 true) := GHeap.get_push_new _ _
  have holdH : ∀ g u, (Hc.push (.row (ints (f.sh.hom x y)) 2 true)).get g = some u → g ≠ Hc.next → Hc.get g = some u := fun g u hg hne => by
    have := GHeap.ltg hg
    rw [GHeap.get_push_lt (by simp at this; omega)] at hg
    exact hg
  generalize Hc.push (.row (ints (f.sh.hom x y)) 2 true) = H2 at *
  have hF2 : H2.get gF = some (.row (bools (tabB n (markP (f.img x e y) 0))) 4 true) := by rw [markP_zero, ← tabB_false]; exact hleP.2 _ _ (hle.2 _ _ hF)
  have hlt2 := GHeap.ltg hF2
  obtain ⟨sF, eF, _⟩ := (S2.live gF _ hF2).spot
  have hap2 : ∀ g u s, H2.get g = some u → ρ2 g = some s → s.blk ≠ c := fun g u s hg hsp => by
    by_cases eg : g = Hc.next
    · subst eg; rw [hgL] at hsp; cases hsp; omega
    · have := hap1 g u s (holdH g u hg eg) (hold g s hsp eg); omega
  have hleA : H0.Le H2 := h0.trans (hle.trans hleP)
  have hf2 := hf.mono (le_set hleA hF0 none)
  have hneL : gF ≠ Hc.next := by omega
  have hx2' : Ints (H2.set gF none) (some ⟨Hc.next, 0, none⟩) (f.sh.hom x y) := Ints.of_get (by rw [GHeap.get_set_ne hneL]; exact hLg)
  have hfr2 := img_frame hx1 hx2 e3 hgc k1 hgL hfr'
  have hlen : (imgV f e (f.sh.hom x y)).length = (f.img x e y).length := by rw [imgV_img, length_ints]
  have hhl := Cat.hom_le f.sh x y
  have hsrc := hS.c.1.n40
  refine hex _ w₁ hb1 {
    S := OrbS B w0 ρ2 H2 gF
    Mine := OrbMine sF.blk
    vs := imgV f e (f.sh.hom x y)
    Inv := OrbI B w0 ρ2 H2 D x e y g3 gF H.next n v9 (f.img x e y)
    nb := 13
    hS := S2.fewer (by simp) fun k u hu => ?_
    hSt := fun _ _ ha h => h.aside hF2 hBc hap2 ha
    sends := img_sends (fun w h => h) (fun g u s ad hg hsp had hmm => ?_) (fun h => by obtain ⟨_, h, _⟩ := h; cases h) hf2 hx2' (by omega) hsm.2.2.1 he (fun k hk => ?_) hgc2 rfl hfr2
    start := ⟨S2.fewer (by simp) fun k u hu => ?_, (frel_cons (frE.mono hx2) (d := 39) (by decide) (VRel.chan hgc2)).sub ⟨rfl, rfl, rfl, rfl, rfl, rfl, rfl, trivial⟩⟩
    inv := ?_
    body := fun i a w v hv hI h40 => ?_
    fin := ?_ }
  · rcases of_set hlt2 hu with ⟨_, h⟩ | ⟨_, h⟩
    · cases h
    · exact h
  · obtain ⟨ad', e', h'⟩ := hmm
    cases e'
    rcases of_set hlt2 hg with ⟨_, h⟩ | ⟨hne, h⟩
    · cases h
    · exact S2.far h hF2 rfl hne hsp eF (had.symm.trans h')
  · obtain ⟨q1, q2, q3, _⟩ := img_ok (y := y) hS he hx hk
    exact ⟨q1, q2, q3, hsm.2.2.2 _⟩
  · rcases of_set hlt2 hu with ⟨rfl, h⟩ | ⟨_, h⟩
    · cases h; exact hF2
    · exact h
  · intro i a w' h
    have z := h.fr.1
    obtain ⟨s9, e9, x9⟩ := (h.fr.2.2 39 _ rfl).chan_inv
    rw [hgc2] at e9
    cases e9
    refine ⟨x9, by show 40 < a.tmps.size; omega, by show 41 < a.tmps.size; omega, fun w'' ha => h.aside hF2 hBc hap2 ha, fun v t => ?_⟩
    have g1 := frel_put (d := 40) (u := .tuple #[v, .bool t]) h.fr (fun v hv => by simp [orbF, get_cons] at hv; cases hv)
    exact ⟨h.st, frel_put (d := 41) (u := .bool t) g1 (fun v hv => by simp [orbF, get_cons] at hv; cases hv)⟩
  · rw [imgV_img] at hv
    have hi : i < (f.img x e y).length := by have := (List.getElem?_eq_some_iff.1 hv).1; simpa using this
    rw [ints_get hi] at hv
    cases hv
    obtain ⟨d0, d1⟩ := img_lt (y := y) hS he hx hi
    exact orb_body hF2 eF hBc hap2 hi rfl d0 (by omega) hI h40
  · intro a w' h
    rw [hlen] at h
    have hG := hrest (H2.set gF (some (.row (bools (tabB n (markP (f.img x e y) (f.img x e y).length))) 4 true))) (le_set hleA hF0 _) (by rw [GHeap.get_set_eq hlt2, markP_all])
    exact hG l D B w0 ρ2 a w' h.st (h.fr.sub ⟨rfl, rfl, rfl, rfl, rfl, rfl, trivial⟩) main K hC b k cs hb fun ex a' w'' ⟨ρ'', fr', H'', hq', he', r⟩ => hK ex a' w'' ⟨ρ'', fr', H'', hq', (hext.trans hx2).trans he', r⟩
end
end Go.Proofs.Ytddjdkpjfpnjiaa
namespace Go.GL
variable [MainFlag]
open Go Go.RowKit
def SFun.orb (f : SFun) (x e : Int) (y : Nat) : List Int := filtN (f.sz.getD y 0).toNat fun d => (f.img x e y).contains (d : Int)
def SFun.El (f : SFun) (x e : Int) : Prop := (0 ≤ x ∧ x < f.sh.obj) ∧ 0 ≤ e ∧ e < f.sz.getD x.toNat 0
noncomputable def SFun.orR (f : SFun) (x e : Int) : List (List Int) := bif B (f.Is ∧ f.El x e) then rowsOf (f.orb x e) f.sz.length else []
noncomputable def SFun.elC (f : SFun) (x e : Int) : Int := bif B f.Is then bif B (f.El x e) then 0 else 2 else 1
theorem el_0 {f : SFun} {x e : Int} (h : f.Is) (h' : f.El x e) : f.orR x e = rowsOf (f.orb x e) f.sz.length ∧ f.elC x e = 0 := by
  unfold SFun.orR SFun.elC; rw [B_true (p := f.Is ∧ f.El x e) ⟨h, h'⟩, B_true h, B_true h']; exact ⟨rfl, rfl⟩
theorem el_1 {f : SFun} {x e : Int} (h : ¬ f.Is) : f.orR x e = [] ∧ f.elC x e = 1 := by
  unfold SFun.orR SFun.elC; rw [B_false (p := f.Is ∧ f.El x e) fun hh => h hh.1, B_false h]; exact ⟨rfl, rfl⟩
theorem el_2 {f : SFun} {x e : Int} (h : f.Is) (h' : ¬ f.El x e) : f.orR x e = [] ∧ f.elC x e = 2 := by
  unfold SFun.orR SFun.elC; rw [B_false (p := f.Is ∧ f.El x e) fun hh => h' hh.2, B_true h, B_false h']; exact ⟨rfl, rfl⟩
theorem el_ok {f : SFun} {x e : Int} (h : f.elC x e = 0) : f.Is ∧ f.El x e := by
  by_cases h1 : f.Is
  · by_cases h2 : f.El x e
    · exact ⟨h1, h2⟩
    · rw [(el_2 h1 h2).2] at h; omega
  · rw [(el_1 h1).2] at h; omega
theorem el_no {f : SFun} {x e : Int} (h : f.elC x e ≠ 0) : f.orR x e = [] := by
  by_cases h1 : f.Is
  · by_cases h2 : f.El x e
    · exact absurd (el_0 h1 h2).2 h
    · exact (el_2 h1 h2).1
  · exact (el_1 h1).1
end Go.GL
namespace Go.Proofs.Ytddjdkpjfpnjiaa
open Go Go.GL Go.RowKit Go.Proofs Go.Conc
variable [MainFlag]
theorem sl_60_Oi : sliceT Try.prog 60 = some (4, 1) := by kernel_rfl
theorem on_4_Oi : oneT Try.prog 4 = true := by kernel_rfl
theorem sz_33_Oi : (Try.prog.info? 33).map (·.size) = some 7 := by kernel_rfl
theorem elementCode_c {g o : Nat} {f : SFun} {p : SFunP} {x e : Int} {H : GHeap} (h : SFun.At H g o f p := by assumption) (hs : f.Small := by assumption) (hx : I64 x := by assumption) (he : I64 e := by assumption) :
    GCalls Try.prog 35 [.pointer (some ⟨g, o, none⟩), .int .i64 x, .int .i64 e] H (Ret (.int .i64 (f.elC x e)) H) := by
  refine GCalls.body (N := 32) (rs := [.tmp 6]) Try.func35 rfl rfl rfl rfl (fun Qx a hend => ?_)
  refine .fg [0, 1, 2] rfl ?_
  have _ := GHeap.Le.refl H
  have _ := h
  obtain ⟨fsh, _, _, i1, _⟩ := h.get
  obtain ⟨_, _, _, _, _, _, _, _, _⟩ := fsh.get
  refine .seq (fun K1 k => .region (.mv rfl (.nil (k _ _ (.seq (fun K2 m => .seq (fun K3 s => .region (.mv rfl ?_))))))))
  refine .callQ rfl rfl rfl rfl en47 rfl (isSetFunctor_c) ?_
  refine .q rfl (.not rfl) (.nil (s _ _ ?_))
  refine .cond rfl ?_ ?_ <;> intro h9
  ·
   simp only [sps] at h9
   refine .seq (fun K4 r => .region (.mv rfl (.nil (r _ _ (.ret (a _ _ (⟨_, rfl, ?_⟩)))))))
   exact .of (congrArg _ (el_1 h9).2)
  simp only [sps] at h9
  have hS := h9.1
  have _ := hS.c.1.obj
  have _ := hS.zl
  have _ := hS.c.1.n40
  refine .skip (m _ _ (.seq (fun K5 j => .seq (fun K6 d => .region (.mv rfl (.mv rfl (.q rfl (.nilCheck rfl) (.q rfl (.fieldAddr fo_33_0_P rfl) (.q rfl (.fieldAddr fo_31_0_B rfl) (.q rfl (.lA on_2_A rfl) ?_))))))))))
  refine .q rfl (.sub rfl rfl rfl (by omega) (by omega)) ?_
  refine .callQ rfl rfl rfl rfl en42 rfl (inRange_c) ?_
  refine .q rfl (.not rfl) (.mv rfl ?_)
  refine .split (fun b => ?_) (fun b => ?_)
  ·
   simp only [sps] at b
   refine .z rfl (.z rfl (.z rfl (.z rfl (.z rfl (.z rfl (.z rfl (.z rfl (.z rfl (.z rfl (.z rfl (.q rfl (.pickT rfl rfl) (.nil (d _ _ ?_)))))))))))))
   refine .condT rfl ?_
   refine .seq (fun K7 t => .region (.mv rfl (.nil (t _ _ (.ret (a _ _ (⟨_, rfl, ?_⟩)))))))
   exact .of (congrArg _ (el_2 h9 fun hh => by have := hh.1; omega).2)
  simp only [sps] at b
  have _ := hS.sz x.toNat (by omega)
  refine .qg rfl (.move rfl) (.qg rfl (.move rfl) (.qg rfl (.nilCheck rfl) (.qg rfl (.fieldAddr fo_33_1_P rfl) (.qg rfl (.lA on_22_B rfl) (.qg rfl (.move rfl) (.qg rfl (.i1 sl_22_A rfl rfl) (.qg rfl (.lI on_2_A rfl) ?_)))))))
  refine .qg rfl (.sub rfl rfl rfl (by omega) (by omega)) ?_
  refine .callQg rfl rfl rfl rfl rfl rfl en42 rfl (inRange_c) ?_
  refine .qg rfl (.not rfl) (.q rfl (.pickF rfl rfl) (.nil (d _ _ ?_)))
  refine .cond rfl ?_ ?_ <;> intro i
  ·
   simp only [sps] at i
   refine .seq (fun K8 l => .region (.mv rfl (.nil (l _ _ (.ret (a _ _ (⟨_, rfl, ?_⟩)))))))
   exact .of (congrArg _ (el_2 h9 fun hh => by have := hh.2; omega).2)
  simp only [sps] at i
  refine .skip (j _ _ (.seq (fun K9 n => .region (.mv rfl (.nil (n _ _ (.ret (a _ _ (⟨_, rfl, ?_⟩)))))))))
  exact .of (congrArg _ (el_0 h9 ⟨by omega, by omega⟩).2)
theorem marked_c {a : Option Addr} {ys : List Bool} {H : GHeap} (h : Bools H a ys) (hl : ys.length ≤ 1048576) :
    GCalls Try.prog 37 [.slice a ys.length ys.length] H (NewInts 2 H (filtN ys.length fun i => ys.getD i false)) := by
  refine GCalls.body (N := 21) (rs := [.tmp 2]) Try.func37 rfl rfl rfl rfl (fun Qx w hend => ?_)
  refine .fg [0] rfl ?_
  have e := GHeap.Le.refl H
  have b := h
  refine .seq (fun K1 a1 => .region (.mv rfl (.nil (a1 _ _ (.seq (fun K2 a2 => .region ?_))))))
  refine .R rfl (.litA rfl sl_22_A ze_2_E rfl rfl rfl rfl) ?_
  rintro _ H6 ⟨g6, rfl, y, _, u⟩
  have _ := y.1
  replace e := e.trans y
  have _ := GHeap.ltg u
  replace h := b.mono e
  replace u : GHeap.get H6 g6 = some (.row (ints []) 2 true) := u
  refine .mv rfl (.nil (a2 _ _ (.seq (fun K3 a4 => .seq (fun K4 a3 => .region (.mv rfl (.q rfl (.len sl_60_Oi rfl) (.mv rfl (.nil (a3 _ _ (.block ?_)))))))))))
  refine .loopF (σ := Nat × Nat × Nat) [7, 8] (fun (k, j, m) => [(9, some (.int .i64 (k : Int))), (3, some (.slice (some ⟨j, 0, none⟩) m m))]) (fun (k, j, m) H' => St [g6] H6 H' ∧ H'.get j = some (.row (ints (filtN k fun i => ys.getD i false)) 2 true) ∧ (j = g6 ∨ H6.next ≤ j) ∧ m = (filtN k fun i => ys.getD i false).length ∧ k ≤ ys.length) (fun (k, j, m) => ys.length - k) ((0, _, _)) rfl (.p rfl) ?_ ?_
  ·
   refine ⟨.refl _ _, by first | assumption | exact u | simpa using u, .inl rfl, by first | rfl | assumption | simp | omega, ?_⟩
   omega
  rintro ⟨k, j, m⟩ _ ⟨c, d, _, t, _⟩ _ r
  dsimp only [cA, nA]
  have o : H.next ≤ j := by omega
  have _ := c.nx
  replace e := e.st c (fun k hk => ⟨by omega, trivial⟩)
  have _ := GHeap.ltg d
  replace h := b.mono e
  have _ := filtN_le k fun i => ys.getD i false
  refine .seq (fun K5 a7 => .region (.q rfl (.cmp rfl rfl rfl) (.nil (a7 _ _ (.seq (fun K6 a5 => ?_))))))
  refine .cond rfl ?_ ?_ <;> intro a0
  ·
   try simp only [sps] at a0
   refine .skip (a5 _ _ (.seq (fun K7 z => .block (.seq (fun K8 a6 => .region (.mv rfl (.q rfl (.iN sl_60_Oi rfl rfl) ?_)))))))
   refine .q rfl (.loadB on_4_Oi (by assumption) rfl (by omega)) ?_
   refine .mv rfl (.mv rfl (.nil (a6 _ _ (.seq (fun K9 a8 => .region (.mv rfl (.nil (a8 _ _ ?_))))))))
   refine .cond rfl ?_ ?_ <;> intro n
   ·
    try simp only [sps] at n
    refine .region (.mv rfl (.mv rfl ?_))
    refine .R rfl (.litA rfl sl_22_A ze_2_E rfl rfl rfl rfl) ?_
    rintro _ _ ⟨_, rfl, g, _, l⟩
    have _ := g.1
    replace e := e.trans g
    replace c := c.le g
    replace d := g.2 _ _ d
    have _ := GHeap.ltg l
    replace h := b.mono e
    refine .R rfl (.apI rfl sl_22_A ze_2_E rfl by_2_E sl_22_A rfl rfl) ?_
    rintro _ _ ⟨_, rfl, f, _, v⟩
    have _ := f.nx
    replace e := e.st f (fun k hk => ⟨by omega, trivial⟩)
    replace c := c.sA f
    replace l := f.s l
    have _ := GHeap.ltg v
    replace h := b.mono e
    refine .mv rfl (.nil (z _ _ (.region (.q rfl (.aD rfl rfl rfl) (.mv rfl (.nil ?_))))))
    refine r ((k + 1, _, _)) _ _ ?_ ?_ (.p rfl)
    ·
     refine ⟨c, by first | assumption | (rw [filtN_T (by assumption)]; assumption) | (rw [filtN_F (by simpa using n)]; assumption), by omega, by first | omega | (simp only [List.length_append, List.length_cons, List.length_nil] <;> omega) | (rw [filtN_T (by assumption)] <;> (first | omega | (simp only [List.length_append, List.length_cons, List.length_nil] <;> omega))) | (rw [filtN_F (by simpa using n)] <;> (first | omega | (simp only [List.length_append, List.length_cons, List.length_nil] <;> omega))), ?_⟩
     omega
    (dsimp only; omega)
   try simp only [sps] at n
   refine .skip (z _ _ (.region (.q rfl (.aD rfl rfl rfl) (.mv rfl (.nil ?_)))))
   refine r ((k + 1, _, _)) _ _ ?_ ?_ (.p rfl)
   ·
    refine ⟨c, by first | assumption | (rw [filtN_T (by assumption)]; assumption) | (rw [filtN_F (by simpa using n)]; assumption), by omega, by first | omega | (simp only [List.length_append, List.length_cons, List.length_nil] <;> omega) | (rw [filtN_T (by assumption)] <;> (first | omega | (simp only [List.length_append, List.length_cons, List.length_nil] <;> omega))) | (rw [filtN_F (by simpa using n)] <;> (first | omega | (simp only [List.length_append, List.length_cons, List.length_nil] <;> omega))), ?_⟩
    omega
   (dsimp only; omega)
  try simp only [sps] at a0
  refine .exit (a4 _ _ (.seq (fun K10 x => .region (.mv rfl (.mv rfl (.nil (x _ _ (.ret (w _ _ (⟨_, rfl, ?_⟩))))))))))
  obtain rfl : k = ys.length := by omega
  exact ⟨e, _, by rw [t], d, o⟩
theorem markedN_c {a : Option Addr} {n : Nat} {p : Nat → Bool} {H : GHeap} (h : Bools H a (tabB n p)) (hl : n ≤ 1048576) : GCalls Try.prog 37 [.slice a n n] H (NewInts 2 H (filtN n p)) := by
  have k := marked_c h (by simpa using hl)
  rw [length_tabB, filtN_congr (q := p) fun i hi => tabB_get hi] at k
  exact k
theorem orbit_mid {fr : Slots} {H : GHeap} {Q : Exit → Slots → GHeap → Prop} {f : SFun} {p : SFunP} {x e y : Int} {g3 : Nat} {v9 : Value} (hm : MainFlag.main = true)
    (hsub : Sub [(1, some (.int .i64 x)), (2, some (.int .i64 e)), (3, some (.pointer (some ⟨g3, 0, none⟩))), (9, some v9), (10, some (.int .i64 y))] fr) (hf : SFun.At H g3 0 f p) (hS : f.Shape) (hsm : f.Small) (he : 0 ≤ e) (hx : e < f.sz.getD x.toNat 0) (hy0 : 0 ≤ y) (hy1 : y < f.sz.length)
    (hrest : ∀ (H' : GHeap) (gF : Nat), H.Le H' → H.next ≤ gF → H'.get gF = some (.row (bools (tabB (f.sz.getD y.toNat 0).toNat fun d => (f.img x e y).contains (d : Int))) 4 true) →
      GT Try.prog 52 orbR Q (orbE x e y g3 gF (f.sz.getD y.toNat 0).toNat v9) H') : GT Try.prog 52 orbW Q fr H := by
  refine .forget hsub ?_
  obtain ⟨_, c5, _, i1, _⟩ := hf.get
  have hz := hS.sz y.toNat (by omega)
  refine .seq (fun K1 hK1 => .region (.q rfl (.fieldAddr foZ_Og rfl) (.q rfl (.load on22_Of rfl c5) (.mv rfl (.q rfl (.idx1 sl22_Of i1 rfl rfl hy0 hy1) ?_)))))
  refine .q rfl (.loadI on2_Of i1 rfl (by omega)) ?_
  refine .R rfl (.makeB rfl sl60_Og ze4_Og by4_Og rfl rfl (by omega) (by omega) (by omega) (by omega)) ?_
  rintro _ H33 ⟨g33, rfl, le33, ge33, at33⟩
  refine .mv rfl (.nil (hK1 _ _ ?_))
  exact orbit_core hm ⟨rfl, rfl, rfl, rfl, rfl, rfl, trivial⟩ hf le33 ge33 at33 hS hsm he hx (by omega) fun H' h1 h2 => hrest H' g33 h1 ge33 h2
set_option maxHeartbeats 1000000 in
theorem implOrbitOf_c {f : SFun} {p : SFunP} {x e : Int} {H : GHeap} (hmain : MainFlag.main = true) (hin : f.In H p := by assumption) (hsm : f.Small := by assumption) (hwx : I64 x := by assumption) (hwe : I64 e := by assumption) :
    GCalls Try.prog 8 [.agg (f.cells p).toArray, .int .i64 x, .int .i64 e] H (fun v H' => H.Le H' ∧ ∃ a r, v = .tuple #[.slice a (f.orR x e).length (f.orR x e).length, .int .i64 (f.elC x e)] ∧ IntssR H.next H' a (f.orR x e) r) := by
  refine GCalls.body (N := 52) (rs := [.tmp 6, .tmp 7]) Try.func8 rfl rfl rfl rfl (fun Qx b8 hend => ?_)
  refine .fg [0, 1, 2] rfl ?_
  have o := GHeap.Le.refl H
  have g := hin
  refine .seq (fun K1 d2 => .region ?_)
  refine .R rfl (.boxR rfl sz_33_Oi rfl) ?_
  rintro _ _ ⟨g3, rfl, d1, _, t⟩
  have _ := d1.1
  replace o := o.trans d1
  have _ := GHeap.ltg t
  replace hin := g.mono o
  have j : SFun.At _ g3 0 f p := ⟨Mem.of_get t, hin⟩
  obtain ⟨b, a7, a4, a6, a3⟩ := j.get
  have a2 : MemN _ _ _ _ _ := ⟨rfl, j.1⟩
  have a5 := j.2
  have i : MemN _ _ _ _ _ := ⟨rfl, b.1⟩
  have h := b.2
  refine .mv rfl (.mv rfl (.nil (d2 _ _ (.seq (fun K2 d4 => .seq (fun K3 d6 => .region (.mv rfl (.mv rfl ?_))))))))
  refine .callQ rfl rfl rfl rfl en35 rfl (elementCode_c) ?_
  refine .mv rfl (.nil (d6 _ _ (.seq (fun K4 d5 => .region (.mv rfl (.q rfl (.cmp rfl rfl rfl) (.nil (d5 _ _ ?_))))))))
  refine .cond rfl ?_ ?_ <;> intro b7
  ·
   simp only [sps] at b7
   refine .seq (fun K5 e0 => .region (.mv rfl (.mv rfl (.mv rfl (.nil (e0 _ _ (.ret (b8 _ _ (⟨_, _, rfl, rfl, ?_⟩)))))))))
   rw [el_no b7]
   exact ⟨o, none, fun _ => none, rfl, .nil _ _ _⟩
  simp only [sps] at b7
  obtain ⟨hI, ⟨x0, x1⟩, c6, d0⟩ := el_ok b7
  have hS := hI.1
  have _ := hS.c.1.obj
  have _ := hS.zl
  have _ := hS.c.1.n40
  refine .skip (d4 _ _ (.seq (fun K6 d7 => .region ?_)))
  refine .R rfl (.litA rfl sl_23_B ze_22_E rfl rfl rfl rfl) ?_
  rintro _ c7 ⟨c8, rfl, b0, _, b4⟩
  have _ := b0.1
  replace o := o.trans b0
  replace t := b0.2 _ _ t
  have _ := GHeap.ltg b4
  replace hin := g.mono o
  clear j b a7 a4 a6 a3 a2 a5 i h
  have j : SFun.At _ g3 0 f p := ⟨Mem.of_get t, hin⟩
  obtain ⟨b, a7, a4, a6, a3⟩ := j.get
  have a2 : MemN _ _ _ _ _ := ⟨rfl, j.1⟩
  have a5 := j.2
  have i : MemN _ _ _ _ _ := ⟨rfl, b.1⟩
  have h := b.2
  refine .mv rfl (.nil (d7 _ _ (.seq (fun K7 d8 => .seq (fun K8 d9 => .region (.mv rfl (.nil (d9 _ _ (.block ?_)))))))))
  refine .loopF (σ := Nat × (Nat → Option Addr) × Nat × Nat) [1, 2, 3] (fun (y, rr, a8, b5) => [(10, some (.int .i64 (y : Int))), (9, some (.slice (some ⟨a8, 0, none⟩) b5 b5))]) (fun (y, rr, a8, b5) H' => St [c8] c7 H' ∧ H'.get a8 = some (.row ((slsOf rr (f.orb x e) y)) 22 true) ∧ (a8 = c8 ∨ c7.next ≤ a8) ∧ b5 = (slsOf rr (f.orb x e) y).length ∧ y ≤ f.sz.length ∧ OwnRows H.next H' 2 rr (f.orb x e) y) (fun (y, rr, a8, b5) => f.sz.length - y) ((0, fun _ => none, _, _)) rfl (.p rfl) ?_ ?_
  ·
   refine ⟨.refl _ _, by first | assumption | exact b4 | simpa using b4, .inl rfl, by first | rfl | assumption | simp | omega, ?_⟩
   exact ⟨by omega, .zero _ _ _ _ _⟩
  rintro ⟨y, rr, a8, b5⟩ HL1 ⟨n, l, _, b6, hI⟩ _ c1
  dsimp only [cA, nA]
  have _ : H.next ≤ a8 := by omega
  have _ := n.nx
  replace o := o.st n (fun k hk => ⟨by omega, trivial⟩)
  replace t := n.s t
  have _ := GHeap.ltg l
  replace hin := g.mono o
  clear j b a7 a4 a6 a3 a2 a5 i h
  have j : SFun.At _ g3 0 f p := ⟨Mem.of_get t, hin⟩
  obtain ⟨b, a7, a4, a6, a3⟩ := j.get
  have a2 : MemN _ _ _ _ _ := ⟨rfl, j.1⟩
  have a5 := j.2
  have i : MemN _ _ _ _ _ := ⟨rfl, b.1⟩
  have h := b.2
  have rk := St.refl [a8] HL1
  obtain ⟨_, hR⟩ := hI
  have c4 := l
  have _ : (slsOf rr (f.orb x e) y).length = y := length_slsOf _ _ _
  refine .seq (fun K9 e1 => .seq (fun K10 c3 => .region (.mv rfl (.q rfl (.fieldAddr fo_33_0_P rfl) (.q rfl (.fieldAddr fo_31_0_B rfl) ?_)))))
  refine .q rfl (.load on_2_A rfl (by first | assumption | exact Mem.of_get t 0 _ rfl)) ?_
  refine .q rfl (.cmp rfl rfl rfl) (.nil (c3 _ _ ?_))
  refine .cond rfl ?_ ?_ <;> intro c9
  ·
   try simp only [sps] at c9
   refine .skip (e1 _ _ (.seq (fun K11 c0 => .block ?_)))
   refine orbit_mid (f := f) (p := p) hmain ⟨rfl, rfl, rfl, rfl, rfl, trivial⟩ (by assumption) hS hsm c6 d0 (by omega) (by omega) ?_
   rintro _ _ u _ m
   have _ := u.1
   replace o := o.trans u
   replace n := n.le u
   replace rk := rk.le u
   replace t := u.2 _ _ t
   replace l := u.2 _ _ l
   have _ := GHeap.ltg m
   replace hin := g.mono o
   clear j b a7 a4 a6 a3 a2 a5 i h
   have j : SFun.At _ g3 0 f p := ⟨Mem.of_get t, hin⟩
   obtain ⟨b, a7, a4, a6, a3⟩ := j.get
   have a2 : MemN _ _ _ _ _ := ⟨rfl, j.1⟩
   have a5 := j.2
   have i : MemN _ _ _ _ _ := ⟨rfl, b.1⟩
   have h := b.2
   refine .region (.mv rfl (.mv rfl ?_))
   refine .call rfl rfl rfl rfl en37 rfl (markedN_c (p := fun d => (f.img x e y).contains (d : Int)) (Bools.of_get m) (by have := hS.sz y (by omega); rw [Int.toNat_natCast]; omega)) ?_
   rintro _ _ ⟨a1, d3, rfl, z, _⟩
   have _ := a1.1
   replace o := o.trans a1
   replace n := n.le a1
   replace rk := rk.le a1
   replace t := a1.2 _ _ t
   replace l := a1.2 _ _ l
   replace m := a1.2 _ _ m
   have _ := GHeap.ltg z
   replace hin := g.mono o
   clear j b a7 a4 a6 a3 a2 a5 i h
   have j : SFun.At _ g3 0 f p := ⟨Mem.of_get t, hin⟩
   obtain ⟨b, a7, a4, a6, a3⟩ := j.get
   have a2 : MemN _ _ _ _ _ := ⟨rfl, j.1⟩
   have a5 := j.2
   have i : MemN _ _ _ _ _ := ⟨rfl, b.1⟩
   have h := b.2
   have b9 := Ints.of_get z
   refine .R rfl (.litA rfl sl_23_B ze_22_E rfl rfl rfl rfl) ?_
   rintro _ _ ⟨_, rfl, a0, _, a9⟩
   have _ := a0.1
   replace o := o.trans a0
   replace n := n.le a0
   replace rk := rk.le a0
   replace t := a0.2 _ _ t
   replace l := a0.2 _ _ l
   replace m := a0.2 _ _ m
   replace z := a0.2 _ _ z
   have _ := GHeap.ltg a9
   replace hin := g.mono o
   clear j b a7 a4 a6 a3 a2 a5 i h
   have j : SFun.At _ g3 0 f p := ⟨Mem.of_get t, hin⟩
   obtain ⟨b, a7, a4, a6, a3⟩ := j.get
   have a2 : MemN _ _ _ _ _ := ⟨rfl, j.1⟩
   have a5 := j.2
   have i : MemN _ _ _ _ _ := ⟨rfl, b.1⟩
   have h := b.2
   clear b9
   have b9 := Ints.of_get z
   refine .R rfl (.appendV rfl sl_23_B ze_22_E rfl by_22_E sl_23_B rfl rfl (by assumption) (by assumption) (by first | omega | (simp <;> omega)) rfl rfl (by omega) (by omega)) ?_
   rintro _ _ ⟨_, rfl, w, _, c2⟩
   have _ := w.nx
   replace o := o.st w (fun k hk => ⟨by omega, trivial⟩)
   replace n := n.sA w
   replace rk := rk.sA w
   replace t := w.s t
   replace m := w.s m
   replace z := w.s z
   replace a9 := w.s a9
   have _ := GHeap.ltg c2
   replace hin := g.mono o
   clear j b a7 a4 a6 a3 a2 a5 i h
   have j : SFun.At _ g3 0 f p := ⟨Mem.of_get t, hin⟩
   obtain ⟨b, a7, a4, a6, a3⟩ := j.get
   have a2 : MemN _ _ _ _ _ := ⟨rfl, j.1⟩
   have a5 := j.2
   have i : MemN _ _ _ _ _ := ⟨rfl, b.1⟩
   have h := b.2
   clear b9
   have b9 := Ints.of_get z
   refine .mv rfl (.nil (c0 _ _ (.region (.mv rfl (.q rfl (.aD rfl rfl rfl) (.mv rfl (.nil ?_)))))))
   refine c1 ((y + 1, upd rr y (some ⟨d3, 0, none⟩), _, _)) _ _ ?_ ?_ (.p rfl)
   ·
    refine ⟨n, by first | assumption | (rw [slsOf_succ]; assumption), by omega, by first | omega | (simp only [List.length_append, List.length_cons, List.length_nil] <;> omega) | (rw [slsOf_succ] <;> (first | omega | (simp only [List.length_append, List.length_cons, List.length_nil] <;> omega))), ?_⟩
    exact ⟨by omega, hR.succ rk c4 rfl (by assumption) (by omega) (by omega)⟩
   (dsimp only; omega)
  try simp only [sps] at c9
  refine .exit (d8 _ _ (.seq (fun K12 c5 => .region (.mv rfl (.mv rfl (.mv rfl (.nil (c5 _ _ (.ret (b8 _ _ (⟨_, _, rfl, rfl, ?_⟩)))))))))))
  obtain rfl : y = f.sz.length := by omega
  rw [(el_0 hI ⟨⟨x0, x1⟩, c6, d0⟩).1, b7]
  exact ⟨o, _, rr, by rw [b6]; simp, hR.done l (by omega)⟩
end Go.Proofs.Ytddjdkpjfpnjiaa
namespace Go.Proofs.Ytddjdkpjfpnjiaa
open Go Go.GL Go.RowKit Go.Proofs
variable [MainFlag]
theorem szInt64S_s {a : Option Addr} {xs : List Int} {left : Int} {H : GHeap} (hx : xs.length ≤ 9223372036854775807 := by omega) (h0 : 0 ≤ left := by omega) (h1 : left ≤ 1048576 := by omega) :
    GCalls Try.prog 27 [.slice a xs.length xs.length, .int .i64 left] H (SzR left (xs.length ≤ 1048576) H) :=
  (szInt64S_c hx h0 h1).mono fun _ _ ⟨e, l, h2, h3, h4, h5⟩ => ⟨e, l, h2, h3, h4, fun h => by have := h5 h; omega⟩
theorem szInt64SS_s {a : Option Addr} {xss : List (List Int)} {r : Nat → Option Addr} {left : Int} {H : GHeap} (h : Intss H a xss r := by assumption) (hx : xss.length ≤ 9223372036854775807 := by omega) (hy : ∀ i, I64s (xss.getD i []) := by assumption) (h0 : 0 ≤ left := by omega) (h1 : left ≤ 1048576 := by omega) :
    GCalls Try.prog 28 [.slice a xss.length xss.length, .int .i64 left] H (SzR left (xss.length ≤ 1048576 ∧ ∀ i, (xss.getD i []).length ≤ 1048576) H) :=
  (szInt64SS_c h hx hy h0 h1).mono fun _ _ ⟨e, l, h2, h3, h4, h5⟩ => ⟨e, l, h2, h3, h4, fun h => ⟨by have := (h5 h).1; omega, fun i => by have := (h5 h).2 i; omega⟩⟩
end Go.Proofs.Ytddjdkpjfpnjiaa
namespace Go.Proofs.Ytddjdkpjfpnjiaa
open Go Go.GL Go.RowKit Go.Proofs
variable [MainFlag]
theorem sz_27_VSFun : (Try.prog.info? 27).map (·.size) = some 7 := by kernel_rfl
theorem fo_27_0_VSFun : fieldOff Try.prog 27 0 = some 0 := by kernel_rfl
theorem ag_25_VSFun : aggT Try.prog 25 = some 5 := by kernel_rfl
theorem fo_27_1_VSFun : fieldOff Try.prog 27 1 = some 5 := by kernel_rfl
theorem fo_27_2_VSFun : fieldOff Try.prog 27 2 = some 6 := by kernel_rfl
theorem ze_33_VSFun : zeroT Try.prog 33 = some ([.int .i64 0, .slice none 0 0, .slice none 0 0, .slice none 0 0, .slice none 0 0, .slice none 0 0, .slice none 0 0], 7) := by kernel_rfl
theorem fo_33_0_VSFun : fieldOff Try.prog 33 0 = some 0 := by kernel_rfl
theorem fo_33_1_VSFun : fieldOff Try.prog 33 1 = some 5 := by kernel_rfl
theorem fo_33_2_VSFun : fieldOff Try.prog 33 2 = some 6 := by kernel_rfl
theorem ag_33_VSFun : aggT Try.prog 33 = some 7 := by kernel_rfl
theorem sz_33_VSFun : (Try.prog.info? 33).map (·.size) = some 7 := by kernel_rfl
theorem szSetFunctor_c {c : SFun} {p : SFunP} {left : Int} {H : GHeap} (hin : c.In H p := by assumption) (hw : c.Wide := by assumption) (h0 : 0 ≤ left := by omega) (h1 : left ≤ 1048576 := by omega) :
    GCalls Try.prog 5 [.agg (c.cells p).toArray, .int .i64 left] H (SzR left c.Small H) := by
  refine SzR.of ?_
  obtain ⟨_, ⟨_, _⟩, ⟨_, _⟩⟩ := hw
  refine GCalls.body (N := 24) (rs := [.tmp 4]) Try.func5 rfl rfl rfl rfl (fun Qx d hend => ?_)
  refine .fg [0, 1] rfl ?_
  have b := GHeap.Le.refl H
  have a := hin
  refine .seq (fun K1 v => .region ?_)
  refine .R rfl (.boxR rfl sz_27_VSFun rfl) ?_
  rintro _ _ ⟨g2, rfl, r, _, f⟩
  have _ := r.1
  replace b := b.trans r
  have _ := GHeap.ltg f
  replace hin := a.mono b
  have l : SFun.At _ g2 0 c p := ⟨Mem.of_get f, hin⟩
  obtain ⟨e, _, _, _, _⟩ := l.get
  have _ : MemN _ _ _ _ _ := ⟨rfl, l.1⟩
  have _ := l.2
  have _ : MemN _ _ _ _ _ := ⟨rfl, e.1⟩
  have _ := e.2
  refine .mv rfl (.nil (v _ _ (.seq (fun K2 w => .region (.q rfl (.fieldAddr fo_27_0_VSFun rfl) ?_)))))
  refine .q rfl (.loadM ag_25_VSFun rfl (by assumption)) ?_
  refine .mv rfl ?_
  refine .call rfl rfl rfl rfl en26 rfl (szCategory_c) ?_
  rintro _ _ ⟨heq, _, rfl, _, _, x⟩
  obtain rfl := heq.symm
  refine .mv rfl (.nil (w _ _ (.seq (fun K3 z => .seq (fun K4 y => .region (.mv rfl (.q rfl (.cmp rfl rfl rfl) (.nil (y _ _ ?_)))))))))
  refine .cond rfl ?_ ?_ <;> intro t
  ·
   try simp only [sps] at t
   refine .seq (fun K5 a3 => .region (.mv rfl (.nil (a3 _ _ (.ret (d _ _ (⟨_, rfl, ?_⟩)))))))
   first
   | exact ⟨b, _, rfl, by omega, by omega, fun h => by omega⟩
   | exact ⟨b, _, rfl, by omega, by omega, fun h => ⟨by assumption, by assumption, by assumption⟩⟩
  try simp only [sps] at t
  have _ := x (by omega)
  refine .skip (z _ _ (.seq (fun K6 a1 => .region (.q rfl (.fieldAddr fo_27_1_VSFun rfl) ?_))))
  refine .q rfl (.load on_22_B rfl (by first | assumption | exact Mem.of_get f 5 _ rfl)) ?_
  refine .mv rfl ?_
  refine .call rfl rfl rfl rfl en27 rfl (szInt64S_s) ?_
  rintro _ _ ⟨heq, _, rfl, _, _, k⟩
  obtain rfl := heq.symm
  refine .mv rfl (.nil (a1 _ _ (.seq (fun K7 a0 => .seq (fun K8 a2 => .region (.mv rfl (.q rfl (.cmp rfl rfl rfl) (.nil (a2 _ _ ?_)))))))))
  refine .cond rfl ?_ ?_ <;> intro u
  ·
   try simp only [sps] at u
   refine .seq (fun K9 a4 => .region (.mv rfl (.nil (a4 _ _ (.ret (d _ _ (⟨_, rfl, ?_⟩)))))))
   first
   | exact ⟨b, _, rfl, by omega, by omega, fun h => by omega⟩
   | exact ⟨b, _, rfl, by omega, by omega, fun h => ⟨by assumption, by assumption, by assumption⟩⟩
  try simp only [sps] at u
  have _ := k (by omega)
  refine .skip (a0 _ _ (.seq (fun K10 o => .region (.q rfl (.fieldAddr fo_27_2_VSFun rfl) ?_))))
  refine .q rfl (.load on_23_B rfl (by first | assumption | exact Mem.of_get f 6 _ rfl)) ?_
  refine .mv rfl ?_
  refine .call rfl rfl rfl rfl en28 rfl (szInt64SS_s) ?_
  rintro _ _ ⟨heq, _, rfl, _, _, j⟩
  obtain rfl := heq.symm
  refine .mv rfl (.nil (o _ _ (.seq (fun K11 g => .seq (fun K12 n => .region (.mv rfl (.q rfl (.cmp rfl rfl rfl) (.nil (n _ _ ?_)))))))))
  refine .cond rfl ?_ ?_ <;> intro s
  ·
   try simp only [sps] at s
   refine .seq (fun K13 i => .region (.mv rfl (.nil (i _ _ (.ret (d _ _ (⟨_, rfl, ?_⟩)))))))
   first
   | exact ⟨b, _, rfl, by omega, by omega, fun h => by omega⟩
   | exact ⟨b, _, rfl, by omega, by omega, fun h => ⟨by assumption, by assumption, by assumption⟩⟩
  try simp only [sps] at s
  have _ := j (by omega)
  refine .skip (g _ _ (.seq (fun K14 m => .region (.mv rfl (.mv rfl (.nil (m _ _ (.ret (d _ _ (⟨_, rfl, ?_⟩))))))))))
  first
  | exact ⟨b, _, rfl, by omega, by omega, fun h => by omega⟩
  | exact ⟨b, _, rfl, by omega, by omega, fun h => ⟨by assumption, by assumption, by assumption⟩⟩
set_option maxHeartbeats 4000000 in
theorem toSetFunctor_c {c : SFun} {p : SFunP} {H : GHeap} (hin : c.In H p := by assumption) (hs : c.Small := by assumption) : GCalls Try.prog 7 [.agg (c.cells p).toArray] H (NewSFun H c) := by
  obtain ⟨_, _, ⟨_, _⟩⟩ := hs
  refine GCalls.body (N := 17) (rs := [.cell 2 33]) Try.func7 rfl rfl rfl rfl (fun Qx c0 hend => ?_)
  refine .fg [0] rfl ?_
  have n := GHeap.Le.refl H
  have d := hin
  refine .seq (fun K1 c6 => .region ?_)
  refine .R rfl (.boxR rfl sz_27_VSFun rfl) ?_
  rintro _ _ ⟨g1, rfl, c3, _, m⟩
  have _ := c3.1
  replace n := n.trans c3
  have _ := GHeap.ltg m
  replace hin := d.mono n
  have i : SFun.At _ g1 0 c p := ⟨Mem.of_get m, hin⟩
  obtain ⟨b, a6, a2, a5, a3⟩ := i.get
  have a4 : MemN _ _ _ _ _ := ⟨rfl, i.1⟩
  have a1 := i.2
  have e : MemN _ _ _ _ _ := ⟨rfl, b.1⟩
  have g := b.2
  refine .R rfl (.allocR rfl ze_33_VSFun rfl) ?_
  rintro _ _ ⟨g2, rfl, b9, _, a7⟩
  have _ := b9.1
  replace n := n.trans b9
  replace m := b9.2 _ _ m
  have _ := GHeap.ltg a7
  replace hin := d.mono n
  clear i b a6 a2 a5 a3 a4 a1 e g
  have i : SFun.At _ g1 0 c p := ⟨Mem.of_get m, hin⟩
  obtain ⟨b, a6, a2, a5, a3⟩ := i.get
  have a4 : MemN _ _ _ _ _ := ⟨rfl, i.1⟩
  have a1 := i.2
  have e : MemN _ _ _ _ _ := ⟨rfl, b.1⟩
  have g := b.2
  refine .nil (c6 _ _ (.seq (fun K2 c7 => .region ?_)))
  refine .R rfl (.allocR rfl ze_33_VSFun rfl) ?_
  rintro _ H3 ⟨g3, rfl, b8, _, c1⟩
  have _ := b8.1
  replace n := n.trans b8
  replace m := b8.2 _ _ m
  replace a7 := b8.2 _ _ a7
  have _ := GHeap.ltg c1
  replace hin := d.mono n
  clear i b a6 a2 a5 a3 a4 a1 e g
  have i : SFun.At _ g1 0 c p := ⟨Mem.of_get m, hin⟩
  obtain ⟨b, a6, a2, a5, a3⟩ := i.get
  have a4 : MemN _ _ _ _ _ := ⟨rfl, i.1⟩
  have a1 := i.2
  have e : MemN _ _ _ _ _ := ⟨rfl, b.1⟩
  have g := b.2
  refine .nil (c7 _ _ (.seq (fun K3 c9 => .region (.q rfl (.fieldAddr fo_27_0_VSFun rfl) ?_))))
  refine .q rfl (.loadM ag_25_VSFun rfl (by assumption)) ?_
  refine .call rfl rfl rfl rfl en32 rfl (toCategory_c) ?_
  rintro _ H6 ⟨b5, p6, rfl, v6⟩
  have _ := b5.1
  replace n := n.trans b5
  replace m := b5.2 _ _ m
  replace a7 := b5.2 _ _ a7
  replace c1 := b5.2 _ _ c1
  have y := v6
  have f : Keep H3.next H6 H6 := fun _ _ _ h => h
  replace hin := d.mono n
  clear i b a6 a2 a5 a3 a4 a1 e g
  have i : SFun.At _ g1 0 c p := ⟨Mem.of_get m, hin⟩
  obtain ⟨b, a6, a2, a5, a3⟩ := i.get
  have a4 : MemN _ _ _ _ _ := ⟨rfl, i.1⟩
  have a1 := i.2
  have e : MemN _ _ _ _ _ := ⟨rfl, b.1⟩
  have g := b.2
  have i6 := v6.inn
  refine .q rfl (.fieldAddr fo_33_0_VSFun rfl) ?_
  refine .r0 rfl rfl (.storeNR rfl sz_31_D rfl rfl rfl rfl (by assumption) (by first | rfl | exact Nat.le_of_ble_eq_true rfl | simp)) ?_
  rintro _ _ ⟨rfl, w, a8⟩
  have _ := w.nx
  replace n := n.st w (fun k hk => ⟨by omega, trivial⟩)
  have v : NE g1 g3 := .a
  replace m := w.s m v.ne
  have r : NE g2 g3 := .a
  replace a7 := w.s a7 r.ne
  replace f := Keep.st f w (fun k hb hk => ⟨by omega, trivial⟩)
  replace v6 := y.keep f (Nat.le_refl _)
  have _ := GHeap.ltg a8
  replace hin := d.mono n
  clear i b a6 a2 a5 a3 a4 a1 e g
  have i : SFun.At _ g1 0 c p := ⟨Mem.of_get m, hin⟩
  obtain ⟨b, a6, a2, a5, a3⟩ := i.get
  have a4 : MemN _ _ _ _ _ := ⟨rfl, i.1⟩
  have a1 := i.2
  have e : MemN _ _ _ _ _ := ⟨rfl, b.1⟩
  have g := b.2
  clear i6
  have i6 := v6.inn
  refine .nil (c9 _ _ (.seq (fun K4 c8 => .region (.q rfl (.fieldAddr fo_27_1_VSFun rfl) ?_))))
  refine .q rfl (.load on_22_B rfl (by first | assumption | exact Mem.of_get m 5 _ rfl)) ?_
  refine .call rfl rfl rfl rfl en33 rfl (toInt64S_c) ?_
  rintro _ _ ⟨b1, c2, rfl, o, _⟩
  have _ := b1.1
  replace n := n.trans b1
  replace m := b1.2 _ _ m
  replace a7 := b1.2 _ _ a7
  replace a8 := b1.2 _ _ a8
  replace f := Keep.le f b1
  replace v6 := y.keep f (Nat.le_refl _)
  have _ := GHeap.ltg o
  replace hin := d.mono n
  clear i b a6 a2 a5 a3 a4 a1 e g
  have i : SFun.At _ g1 0 c p := ⟨Mem.of_get m, hin⟩
  obtain ⟨b, a6, a2, a5, a3⟩ := i.get
  have a4 : MemN _ _ _ _ _ := ⟨rfl, i.1⟩
  have a1 := i.2
  have e : MemN _ _ _ _ _ := ⟨rfl, b.1⟩
  have g := b.2
  clear i6
  have i6 := v6.inn
  have b3 := Ints.of_get o
  refine .q rfl (.fieldAddr fo_33_1_VSFun rfl) ?_
  refine .r0 rfl rfl (.storeR rfl sz_22_E rfl rfl rfl (by assumption) (by first | exact Nat.le_of_ble_eq_true rfl | (simp; done) | (simp <;> omega))) ?_
  rintro _ b6 ⟨rfl, t, a0⟩
  have _ := t.nx
  replace n := n.st t (fun k hk => ⟨by omega, trivial⟩)
  replace m := t.s m v.ne
  replace a7 := t.s a7 r.ne
  have z : NE c2 g3 := .a
  replace o := t.s o z.ne
  replace f := Keep.st f t (fun k hb hk => ⟨by omega, trivial⟩)
  replace v6 := y.keep f (Nat.le_refl _)
  have _ := GHeap.ltg a0
  replace hin := d.mono n
  clear i b a6 a2 a5 a3 a4 a1 e g
  have i : SFun.At _ g1 0 c p := ⟨Mem.of_get m, hin⟩
  obtain ⟨b, a6, a2, a5, a3⟩ := i.get
  have a4 : MemN _ _ _ _ _ := ⟨rfl, i.1⟩
  have a1 := i.2
  have e : MemN _ _ _ _ _ := ⟨rfl, b.1⟩
  have g := b.2
  clear i6
  have i6 := v6.inn
  clear b3
  have b3 := Ints.of_get o
  try simp only [Nat.zero_add, List.set_cons_succ, List.set_cons_zero] at a0
  refine .nil (c8 _ _ (.seq (fun K5 d1 => .region (.q rfl (.fieldAddr fo_27_2_VSFun rfl) ?_))))
  refine .q rfl (.load on_23_B rfl (by first | assumption | exact Mem.of_get m 6 _ rfl)) ?_
  refine .call rfl rfl rfl rfl en34 rfl (toInt64SS_c) ?_
  rintro _ c4 ⟨b0, c5, d2, rfl, b4⟩
  have _ := b0.1
  replace n := n.trans b0
  replace m := b0.2 _ _ m
  replace a7 := b0.2 _ _ a7
  replace o := b0.2 _ _ o
  replace a0 := b0.2 _ _ a0
  replace f := Keep.le f b0
  replace v6 := y.keep f (Nat.le_refl _)
  have b2 := b4
  have u : Keep b6.next c4 c4 := fun _ _ _ h => h
  replace hin := d.mono n
  clear i b a6 a2 a5 a3 a4 a1 e g
  have i : SFun.At _ g1 0 c p := ⟨Mem.of_get m, hin⟩
  obtain ⟨b, a6, a2, a5, a3⟩ := i.get
  have a4 : MemN _ _ _ _ _ := ⟨rfl, i.1⟩
  have a1 := i.2
  have e : MemN _ _ _ _ _ := ⟨rfl, b.1⟩
  have g := b.2
  clear i6
  have i6 := v6.inn
  clear b3
  have b3 := Ints.of_get o
  have b7 := b4.intss
  refine .q rfl (.fieldAddr fo_33_2_VSFun rfl) ?_
  refine .r0 rfl rfl (.storeR rfl sz_23_E rfl rfl rfl (by assumption) (by first | exact Nat.le_of_ble_eq_true rfl | (simp; done) | (simp <;> omega))) ?_
  rintro _ _ ⟨rfl, j, x⟩
  have _ := j.nx
  replace n := n.st j (fun k hk => ⟨by omega, trivial⟩)
  replace m := j.s m v.ne
  replace a7 := j.s a7 r.ne
  replace o := j.s o z.ne
  replace f := Keep.st f j (fun k hb hk => ⟨by omega, trivial⟩)
  replace v6 := y.keep f (Nat.le_refl _)
  replace u := Keep.st u j (fun k hb hk => ⟨by omega, trivial⟩)
  replace b4 := b2.keep u (Nat.le_refl _)
  have _ := GHeap.ltg x
  replace hin := d.mono n
  clear i b a6 a2 a5 a3 a4 a1 e g
  have i : SFun.At _ g1 0 c p := ⟨Mem.of_get m, hin⟩
  obtain ⟨b, a6, a2, a5, a3⟩ := i.get
  have a4 : MemN _ _ _ _ _ := ⟨rfl, i.1⟩
  have a1 := i.2
  have e : MemN _ _ _ _ _ := ⟨rfl, b.1⟩
  have g := b.2
  clear i6
  have i6 := v6.inn
  clear b3
  have b3 := Ints.of_get o
  clear b7
  have b7 := b4.intss
  try simp only [Nat.zero_add, List.set_cons_succ, List.set_cons_zero] at x
  refine .nil (d1 _ _ (.seq (fun K6 d0 => .region ?_)))
  refine .q rfl (.loadM ag_33_VSFun rfl ⟨rfl, Mem.of_get x⟩) ?_
  refine .r0 rfl rfl (.fillA rfl sz_33_VSFun rfl rfl rfl rfl) ?_
  rintro _ _ ⟨rfl, l, a9⟩
  have _ := l.nx
  replace n := n.st l (fun k hk => ⟨by omega, trivial⟩)
  replace m := l.s m
  replace o := l.s o
  replace x := l.s x (Ne.symm r.ne)
  replace f := Keep.st f l (fun k hb hk => ⟨by omega, trivial⟩)
  replace v6 := y.keep f (Nat.le_refl _)
  replace u := Keep.st u l (fun k hb hk => ⟨by omega, trivial⟩)
  replace b4 := b2.keep u (Nat.le_refl _)
  have _ := GHeap.ltg a9
  replace hin := d.mono n
  clear i b a6 a2 a5 a3 a4 a1 e g
  have i : SFun.At _ g1 0 c p := ⟨Mem.of_get m, hin⟩
  obtain ⟨b, a6, a2, a5, a3⟩ := i.get
  have a4 : MemN _ _ _ _ _ := ⟨rfl, i.1⟩
  have a1 := i.2
  have e : MemN _ _ _ _ _ := ⟨rfl, b.1⟩
  have g := b.2
  clear i6
  have i6 := v6.inn
  clear b3
  have b3 := Ints.of_get o
  clear b7
  have b7 := b4.intss
  have _ : MemN _ _ _ _ _ := ⟨rfl, Mem.of_get a9⟩
  refine .nil (d0 _ _ (.ret (c0 _ _ (⟨_, _, _, _, rfl, ag_33_VSFun, (by rfl), (Mem.of_get a9), ?_⟩))))
  exact ⟨n, ⟨p6, some ⟨c2, 0, none⟩, c5, d2⟩, rfl, ⟨v6.keep (.of_le (.refl _)) (by omega), ⟨c2, _, rfl, by omega, o⟩, b4.keep (.of_le (.refl _)) (by omega)⟩⟩
set_option maxHeartbeats 4000000 in
theorem eqSetFunctor_c {c : SFun} {p p' : SFunP} {H : GHeap} (hin : c.In H p := by assumption) (hin' : c.In H p' := by assumption) (hs : c.Small := by assumption) : GCalls Try.prog 10 [.agg (c.cells p).toArray, .agg (c.cells p').toArray] H (Ret (.bool true) H) := by
  refine GCalls.ret rfl ?_
  obtain ⟨_, _, ⟨_, _⟩⟩ := hs
  refine GCalls.body (N := 23) (rs := [.tmp 4]) Try.func10 rfl rfl rfl rfl (fun Qx f hend => ?_)
  refine .fg [0, 1] rfl ?_
  have e := GHeap.Le.refl H
  have b := hin
  have a := hin'
  refine .seq (fun K1 a2 => .region ?_)
  refine .R rfl (.boxR rfl sz_33_VSFun rfl) ?_
  rintro _ _ ⟨g2, rfl, t, _, j⟩
  have _ := t.1
  replace e := e.trans t
  have _ := GHeap.ltg j
  replace hin := b.mono e
  replace hin' := a.mono e
  have h : SFun.At _ g2 0 c p := ⟨Mem.of_get j, hin⟩
  obtain ⟨d, s, w, u, a0⟩ := h.get
  have v : MemN _ _ _ _ _ := ⟨rfl, h.1⟩
  have y := h.2
  have i : MemN _ _ _ _ _ := ⟨rfl, d.1⟩
  have g := d.2
  refine .R rfl (.boxR rfl sz_33_VSFun rfl) ?_
  rintro _ _ ⟨g3, rfl, r, _, l⟩
  have _ := r.1
  replace e := e.trans r
  replace j := r.2 _ _ j
  have _ := GHeap.ltg l
  replace hin := b.mono e
  replace hin' := a.mono e
  clear h d s w u a0 v y i g
  have h : SFun.At _ g2 0 c p := ⟨Mem.of_get j, hin⟩
  obtain ⟨d, s, w, u, a0⟩ := h.get
  have v : MemN _ _ _ _ _ := ⟨rfl, h.1⟩
  have y := h.2
  have i : MemN _ _ _ _ _ := ⟨rfl, d.1⟩
  have g := d.2
  have n : SFun.At _ g3 0 c p' := ⟨Mem.of_get l, hin'⟩
  obtain ⟨k, _, _, _, _⟩ := n.get
  have _ : MemN _ _ _ _ _ := ⟨rfl, n.1⟩
  have _ := n.2
  have _ : MemN _ _ _ _ _ := ⟨rfl, k.1⟩
  have _ := k.2
  refine .mv rfl (.nil (a2 _ _ (.seq (fun K2 a3 => .seq (fun K3 a5 => .region (.q rfl (.fieldAddr fo_33_0_VSFun rfl) ?_))))))
  refine .q rfl (.loadM ag_31_D rfl (by assumption)) ?_
  refine .q rfl (.fieldAddr fo_33_0_VSFun rfl) ?_
  refine .q rfl (.loadM ag_31_D rfl (by assumption)) ?_
  refine .callQ rfl rfl rfl rfl en18 rfl (eqCategory_c) ?_
  refine .q rfl (.not rfl) (.nil (a5 _ _ ?_))
  refine .cond rfl ?_ ?_ <;> intro z
  ·
   try simp only [sps] at z
   refine .seq (fun K4 a4 => .region (.mv rfl (.nil (a4 _ _ (.ret (f _ _ (⟨_, rfl, ?_⟩)))))))
   first
   | exact ⟨rfl, e⟩
   | exact absurd trivial (by assumption)
   | contradiction
   | (exfalso; omega)
   | (exfalso; simp_all)
  try simp only [sps] at z
  refine .skip (a3 _ _ (.seq (fun K5 a9 => .seq (fun K6 a6 => .region (.q rfl (.fieldAddr fo_33_1_VSFun rfl) ?_)))))
  refine .q rfl (.load on_22_B rfl (by first | assumption | exact Mem.of_get j 5 _ rfl)) ?_
  refine .q rfl (.fieldAddr fo_33_1_VSFun rfl) ?_
  refine .q rfl (.load on_22_B rfl (by first | assumption | exact Mem.of_get l 5 _ rfl)) ?_
  refine .callQ rfl rfl rfl rfl en19 rfl (eqInt64S_c) ?_
  refine .q rfl (.not rfl) (.nil (a6 _ _ ?_))
  refine .cond rfl ?_ ?_ <;> intro a1
  ·
   try simp only [sps] at a1
   refine .seq (fun K7 a7 => .region (.mv rfl (.nil (a7 _ _ (.ret (f _ _ (⟨_, rfl, ?_⟩)))))))
   first
   | exact ⟨rfl, e⟩
   | exact absurd trivial (by assumption)
   | contradiction
   | (exfalso; omega)
   | (exfalso; simp_all)
  try simp only [sps] at a1
  refine .skip (a9 _ _ (.seq (fun K8 a8 => .seq (fun K9 b0 => .region (.q rfl (.fieldAddr fo_33_2_VSFun rfl) ?_)))))
  refine .q rfl (.load on_23_B rfl (by first | assumption | exact Mem.of_get j 6 _ rfl)) ?_
  refine .q rfl (.fieldAddr fo_33_2_VSFun rfl) ?_
  refine .q rfl (.load on_23_B rfl (by first | assumption | exact Mem.of_get l 6 _ rfl)) ?_
  refine .callQ rfl rfl rfl rfl en9 rfl (eqInt64SS_c) ?_
  refine .q rfl (.not rfl) (.nil (b0 _ _ ?_))
  refine .cond rfl ?_ ?_ <;> intro x
  ·
   try simp only [sps] at x
   refine .seq (fun K10 o => .region (.mv rfl (.nil (o _ _ (.ret (f _ _ (⟨_, rfl, ?_⟩)))))))
   first
   | exact ⟨rfl, e⟩
   | exact absurd trivial (by assumption)
   | contradiction
   | (exfalso; omega)
   | (exfalso; simp_all)
  try simp only [sps] at x
  refine .skip (a8 _ _ (.seq (fun K11 m => .region (.mv rfl (.nil (m _ _ (.ret (f _ _ (⟨_, rfl, ?_⟩)))))))))
  first
  | exact ⟨rfl, e⟩
  | exact absurd trivial (by assumption)
  | contradiction
  | (exfalso; omega)
  | (exfalso; simp_all)
end Go.Proofs.Ytddjdkpjfpnjiaa
namespace Go.Proofs.Ytddjdkpjfpnjiaa
open Go Go.GL Go.RowKit Go.Proofs
variable [MainFlag]
end Go.Proofs.Ytddjdkpjfpnjiaa
namespace Go.Proofs.Ytddjdkpjfpnjiaa
open Go Go.GL Go.RowKit Go.Proofs
variable [MainFlag]
theorem l19Shape_c {f : SFun} {p : SFunP} {H : GHeap} (hin : f.In H p := by assumption) (hs : f.Small := by assumption) : GCalls Try.prog 45 [.agg (f.cells p).toArray] H (Ret (.bool (B f.Shape)) H) := by
  refine GCalls.ret rfl ?_
  refine GCalls.body (N := 85) (rs := [.tmp 2]) Try.func45 rfl rfl rfl rfl (fun Qx d hend => ?_)
  refine .fg [0] rfl ?_
  have g := GHeap.Le.refl H
  have e := hin
  obtain ⟨_, _, _, s4⟩ := hs
  refine .seq (fun K1 b5 => .region ?_)
  refine .R rfl (.boxR rfl sz_33_VSFun rfl) ?_
  rintro _ H1 ⟨g1, rfl, a9, _, b⟩
  have _ := a9.1
  replace g := g.trans a9
  have _ := GHeap.ltg b
  replace hin := e.mono g
  have a3 : SFun.At _ g1 0 f p := ⟨Mem.of_get b, hin⟩
  obtain ⟨h, _, _, _, c7⟩ := a3.get
  have _ : MemN _ _ _ _ _ := ⟨rfl, a3.1⟩
  have _ := a3.2
  have _ : MemN _ _ _ _ _ := ⟨rfl, h.1⟩
  have _ := h.2
  refine .mv rfl (.nil (b5 _ _ (.seq (fun K2 b6 => .seq (fun K3 t => .region ?_)))))
  obtain ⟨_, _, _, _, _, _, _, _, _⟩ := h.get
  refine .q rfl (.fieldAddr fo_33_0_P rfl) ?_
  refine .q rfl (.loadM ag_31_D rfl (by assumption)) ?_
  refine .callQ rfl rfl rfl rfl en49 rfl (l02Is_c) ?_
  refine .q rfl (.not rfl) (.mv rfl ?_)
  refine .split (fun h9 => ?_) (fun h9 => ?_)
  ·
   try simp only [sps] at h9
   refine .z rfl (.z rfl (.z rfl (.z rfl (.z rfl (.z rfl (.z rfl (.q rfl (.pickT rfl rfl) (.mv rfl (.z rfl (.z rfl (.z rfl (.z rfl (.z rfl (.z rfl (.z rfl ?_)))))))))))))))
   refine .z rfl (.q rfl (.pickT rfl rfl) (.nil (t _ _ ?_)))
   refine .condT rfl ?_
   refine .seq (fun K4 b7 => .region (.mv rfl (.nil (b7 _ _ (.ret (d _ _ (⟨_, rfl, ?_⟩)))))))
   exact ⟨congrArg _ (B_false fun hh => h9 hh.c), g⟩
  try simp only [sps] at h9
  refine .qg rfl (.fieldAddr fo_33_1_P rfl) ?_
  refine .qg rfl (.load on_22_B rfl (by first | assumption | exact Mem.of_get b 5 _ rfl)) ?_
  refine .qg rfl (.len sl_22_A rfl) (.qg rfl (.fieldAddr fo_33_0_P rfl) (.qg rfl (.fieldAddr fo_31_0_B rfl) ?_))
  refine .qg rfl (.load on_2_A rfl (by first | assumption | exact Mem.of_get b 0 _ rfl)) ?_
  refine .qg rfl (.cmp rfl rfl rfl) (.q rfl (.pickF rfl rfl) (.mv rfl ?_))
  refine .split (fun n => ?_) (fun n => ?_)
  ·
   try simp only [sps] at n
   refine .z rfl (.z rfl (.z rfl (.z rfl (.z rfl (.z rfl (.z rfl (.z rfl (.q rfl (.pickT rfl rfl) (.nil (t _ _ ?_))))))))))
   refine .condT rfl ?_
   refine .seq (fun K5 c6 => .region (.mv rfl (.nil (c6 _ _ (.ret (d _ _ (⟨_, rfl, ?_⟩)))))))
   exact ⟨congrArg _ (B_false fun hh => n hh.zl), g⟩
  try simp only [sps] at n
  refine .qg rfl (.fieldAddr fo_33_2_P rfl) ?_
  refine .qg rfl (.load on_23_B rfl (by first | assumption | exact Mem.of_get b 6 _ rfl)) ?_
  refine .qg rfl (.len sl_23_B rfl) (.qg rfl (.fieldAddr fo_33_0_P rfl) (.qg rfl (.fieldAddr fo_31_1_B rfl) ?_))
  refine .qg rfl (.load on_22_B rfl (by first | assumption | exact Mem.of_get b 1 _ rfl)) ?_
  refine .qg rfl (.len sl_22_A rfl) (.qg rfl (.cmp rfl rfl rfl) (.q rfl (.pickF rfl rfl) (.nil (t _ _ ?_))))
  refine .cond rfl ?_ ?_ <;> intro b2
  ·
   try simp only [sps] at b2
   refine .seq (fun K6 b8 => .region (.mv rfl (.nil (b8 _ _ (.ret (d _ _ (⟨_, rfl, ?_⟩)))))))
   exact ⟨congrArg _ (B_false fun hh => by have := hh.al; omega), g⟩
  try simp only [sps] at b2
  refine .skip (b6 _ _ (.seq (fun K7 b9 => .seq (fun K8 c5 => .region (.mv rfl (.nil (c5 _ _ (.block ?_))))))))
  have hC := h9
  have hS := hC.1
  have _ := hS.tl
  have _ := hS.obj
  refine .loopF (σ := Nat) [1] (fun j => [(3, some (.int .i64 (j : Int)))]) (fun j H' => H1 = H' ∧ (j : Int) ≤ f.sz.length ∧ ∀ i, i < j → 0 ≤ f.sz.getD i 0 ∧ f.sz.getD i 0 ≤ 16) (fun j => (f.sz.length - j : Int).toNat) (0) rfl (.p rfl) ?_ ?_
  ·
   refine ⟨rfl, ?_⟩
   exact ⟨by omega, fun _ _ => by omega⟩
  rintro j _ ⟨rfl, hI⟩ _ w
  dsimp only [cA, nA]
  obtain ⟨_, b0⟩ := hI
  refine .seq (fun K9 c8 => .seq (fun K10 a2 => .region (.mv rfl (.q rfl (.fieldAddr fo_33_1_P rfl) ?_))))
  refine .q rfl (.load on_22_B rfl (by first | assumption | exact Mem.of_get b 5 _ rfl)) ?_
  refine .q rfl (.len sl_22_A rfl) (.q rfl (.cmp rfl rfl rfl) (.nil (a2 _ _ ?_)))
  refine .cond rfl ?_ ?_ <;> intro b4
  ·
   try simp only [sps] at b4
   refine .skip (c8 _ _ (.seq (fun K11 r => .block (.seq (fun K12 a5 => .region (.q rfl (.fieldAddr fo_33_1_P rfl) ?_))))))
   refine .q rfl (.load on_22_B rfl (by first | assumption | exact Mem.of_get b 5 _ rfl)) ?_
   refine .mv rfl (.q rfl (.iN sl_22_A rfl rfl) (.q rfl (.lI on_2_A rfl) ?_))
   refine .callQ rfl rfl rfl rfl en58 rfl (l01In_c) ?_
   refine .q rfl (.not rfl) (.nil (a5 _ _ ?_))
   refine .cond rfl ?_ ?_ <;> intro y
   ·
    try simp only [sps] at y
    refine .seq (fun K13 u => .region (.mv rfl (.nil (u _ _ (.ret (d _ _ (⟨_, rfl, ?_⟩)))))))
    exact ⟨congrArg _ (B_false fun hh => by have := hh.sz j (by omega); omega), g⟩
   try simp only [sps] at y
   refine .skip (r _ _ (.region (.mv rfl (.q rfl (.aD rfl rfl rfl) (.mv rfl (.nil ?_))))))
   refine w (j + 1) _ _ ?_ ?_ (.p rfl)
   ·
    refine ⟨rfl, ?_⟩
    refine ⟨by omega, fun i hx => ?_⟩
    by_cases hltq : i < j
    · exact b0 i hltq
    · obtain rfl : i = j := by omega
      exact y
   omega
  try simp only [sps] at b4
  refine .exit (b9 _ _ (.seq (fun K14 a4 => .seq (fun K15 v => .region (.mv rfl (.nil (v _ _ (.block ?_))))))))
  refine .loopF (σ := Nat) [1] (fun k => [(4, some (.int .i64 (k : Int)))]) (fun k H' => H1 = H' ∧ (k : Int) ≤ f.ac.length ∧ ∀ a, a < k → f.AcOk a) (fun k => (f.ac.length - k : Int).toNat) (0) rfl (.p rfl) ?_ ?_
  ·
   refine ⟨rfl, ?_⟩
   exact ⟨by omega, fun _ _ => by omega⟩
  rintro k _ ⟨rfl, hI⟩ _ a6
  dsimp only [cA, nA]
  obtain ⟨_, b1⟩ := hI
  refine .seq (fun K16 a1 => .seq (fun K17 a8 => .region (.mv rfl (.q rfl (.fieldAddr fo_33_2_P rfl) ?_))))
  refine .q rfl (.load on_23_B rfl (by first | assumption | exact Mem.of_get b 6 _ rfl)) ?_
  refine .q rfl (.len sl_23_B rfl) (.q rfl (.cmp rfl rfl rfl) (.nil (a8 _ _ ?_)))
  refine .cond rfl ?_ ?_ <;> intro b3
  ·
   simp only [sps] at b3
   have _ := hS.src k (by omega)
   have _ := hS.tgt k (by omega)
   have _ := c7.2 k (by omega)
   have _ := s4 k
   refine .skip (a1 _ _ (.seq (fun K18 s => .block (.seq (fun K19 l => ?_)))))
   refine .regionD mo_B (.qs [0, 1, 2, 3, 4, 5, 6, 7, 8, 9, 10, 11, 12, 13, 14, 15, 16, 17, 18, 19, 20, 21, 22, 23, 24, 25, 26, 27, 28, 29, 30, 31, 32] (.c 33 0 (.q 34 (.q 35 (.done))))) (by kernel_rfl) ?_
   refine .q rfl (.fieldAddr fo_33_2_P rfl) ?_
   refine .q rfl (.load on_23_B rfl (by first | assumption | exact Mem.of_get b 6 _ rfl)) ?_
   refine .mv rfl rfl ?_
   refine .q rfl (.idxN sl_23_B (Intss.sl (by assumption)) rfl rfl (by omega)) ?_
   refine .q rfl (.loadR on_22_B (by assumption) rfl (by omega)) ?_
   refine .q rfl (.len sl_22_A rfl) (.q rfl (.fieldAddr fo_33_1_P rfl) ?_)
   refine .q rfl (.load on_22_B rfl (by first | assumption | exact Mem.of_get b 5 _ rfl)) ?_
   refine .q rfl (.fieldAddr fo_33_0_P rfl) (.q rfl (.fieldAddr fo_31_1_B rfl) ?_)
   refine .q rfl (.load on_22_B rfl (by first | assumption | exact Mem.of_get b 1 _ rfl)) ?_
   refine .mv rfl rfl (.q rfl (.iN sl_22_A rfl rfl) (.q rfl (.lI on_2_A rfl) (.q rfl (.i1 sl_22_A rfl rfl) (.q rfl (.lI on_2_A rfl) (.q rfl (.cmp rfl rfl rfl) (.mv rfl rfl ?_))))))
   refine .split (fun o => ?_) (fun o => ?_)
   ·
    try simp only [sps] at o
    refine .z rfl (.z rfl (.z rfl (.z rfl (.z rfl (.z rfl (.z rfl (.z rfl (.z rfl (.z rfl (.z rfl (.z rfl (.z rfl (.z rfl (.z rfl (.sgc rfl rfl rfl rfl rfl rfl ?_)))))))))))))))
    refine .z rfl (.q rfl (.pickT rfl rfl) (.done (l _ _ ?_)))
    refine .condT rfl ?_
    refine .seq (fun K20 x => .region (.mv rfl (.nil (x _ _ (.ret (d _ _ (⟨_, rfl, ?_⟩)))))))
    exact ⟨congrArg _ (B_false fun hh => o (hh.ac k (by omega)).1), g⟩
   try simp only [sps] at o
   refine .qg rfl (.fieldAddr fo_33_1_P rfl) ?_
   refine .qg rfl (.load on_22_B rfl (by first | assumption | exact Mem.of_get b 5 _ rfl)) ?_
   refine .qg rfl (.fieldAddr fo_33_0_P rfl) (.qg rfl (.fieldAddr fo_31_2_B rfl) ?_)
   refine .qg rfl (.load on_22_B rfl (by first | assumption | exact Mem.of_get b 2 _ rfl)) ?_
   refine .qg rfl (.move rfl) (.qg rfl (.iN sl_22_A rfl rfl) (.qg rfl (.lI on_2_A rfl) (.qg rfl (.i1 sl_22_A rfl rfl) (.qg rfl (.lI on_2_A rfl) (.qg rfl (.fieldAddr fo_33_2_P rfl) ?_)))))
   refine .qg rfl (.load on_23_B rfl (by first | assumption | exact Mem.of_get b 6 _ rfl)) ?_
   refine .qg rfl (.move rfl) ?_
   refine .qg rfl (.idxN sl_23_B (Intss.sl (by assumption)) rfl rfl (by omega)) ?_
   refine .qg rfl (.loadR on_22_B (by assumption) rfl (by omega)) ?_
   refine .callQ0g rfl rfl rfl rfl rfl rfl rfl en50 rfl (l01Map_c) ?_
   refine .qg rfl (.not rfl) (.q rfl (.pickF rfl rfl) (.done (l _ _ ?_)))
   refine .cond rfl ?_ ?_ <;> intro m
   ·
    simp only [B_iff, B_not, Bool.not_eq_true', Bool.not_eq_false'] at m
    refine .seq (fun K21 a7 => .region (.mv rfl (.nil (a7 _ _ (.ret (d _ _ (⟨_, rfl, ?_⟩)))))))
    exact ⟨congrArg _ (B_false fun hh => by rw [(hh.ac k (by omega)).2] at m; cases m), g⟩
   simp only [B_iff, B_not, Bool.not_eq_true', Bool.not_eq_false'] at m
   refine .skip (s _ _ (.region (.mv rfl (.q rfl (.aD rfl rfl rfl) (.mv rfl (.nil ?_))))))
   refine a6 (k + 1) _ _ ?_ ?_ (.p rfl)
   ·
    refine ⟨rfl, ?_⟩
    refine ⟨by omega, fun a hx => ?_⟩
    by_cases hltq : a < k
    · exact b1 a hltq
    · obtain rfl : a = k := by omega
      exact ⟨by omega, m⟩
   omega
  try simp only [sps] at b3
  refine .exit (a4 _ _ (.seq (fun K22 a0 => .region (.mv rfl (.nil (a0 _ _ (.ret (d _ _ (⟨_, rfl, ?_⟩)))))))))
  exact ⟨congrArg _ (B_true ⟨hC, by omega, fun i hi => b0 i (by omega), by omega, fun a ha => b1 a (by omega)⟩), g⟩
theorem l19Fault_c {f : SFun} {p : SFunP} {H : GHeap} (hin : f.In H p := by assumption) (hS : f.Shape := by assumption) :
    GCalls Try.prog 46 [.agg (f.cells p).toArray] H (fun v H' => ((∃ k x y z, v = .tuple #[.int .i64 k, .int .i64 x, .int .i64 y, .int .i64 z] ∧ (k = 0 ↔ f.Laws)) ∧ flat v = true) ∧ H' = H) := by
  refine (GCalls.quiet (φ := fun v => (∃ k x y z, v = .tuple #[.int .i64 k, .int .i64 x, .int .i64 y, .int .i64 z] ∧ (k = 0 ↔ f.Laws)) ∧ flat v = true) ?_)
  refine GCalls.body (N := 117) (rs := [.tmp 2, .tmp 3, .tmp 4, .tmp 5]) Try.func46 rfl rfl rfl rfl (fun Qx a0 hend => ?_)
  refine .fg [0] rfl ?_
  have t := GHeap.Le.refl H
  have g := hin
  have hC := hS.c.1
  have _ := hC.tl
  have _ := hC.obj
  have _ := hC.n40
  have _ := hC.cl
  have _ := hC.il
  have _ := hS.al
  have _ := hS.zl
  refine .seq (fun K1 e8 => .region ?_)
  refine .R rfl (.boxR rfl sz_33_VSFun rfl) ?_
  rintro _ _ ⟨g1, rfl, e0, _, o⟩
  have _ := e0.1
  replace t := t.trans e0
  have _ := GHeap.ltg o
  replace hin := g.mono t
  have r : SFun.At _ g1 0 f p := ⟨Mem.of_get o, hin⟩
  obtain ⟨h, a9, a5, a8, w⟩ := r.get
  have a7 : MemN _ _ _ _ _ := ⟨rfl, r.1⟩
  have a4 := r.2
  have n : MemN _ _ _ _ _ := ⟨rfl, h.1⟩
  have j := h.2
  refine .mv rfl (.mv rfl (.mv rfl (.mv rfl (.nil (e8 _ _ (.seq (fun K2 e9 => .region (.q rfl (.fieldAddr fo_33_0_P rfl) ?_))))))))
  refine .q rfl (.loadM ag_31_D rfl (by assumption)) ?_
  refine .R rfl (.allocR rfl ze_31_E rfl) ?_
  rintro _ _ ⟨g6, rfl, b0, _, f7⟩
  have _ := b0.1
  replace t := t.trans b0
  replace o := b0.2 _ _ o
  have _ := GHeap.ltg f7
  replace hin := g.mono t
  clear r h a9 a5 a8 w a7 a4 n j
  have r : SFun.At _ g1 0 f p := ⟨Mem.of_get o, hin⟩
  obtain ⟨h, a9, a5, a8, w⟩ := r.get
  have a7 : MemN _ _ _ _ _ := ⟨rfl, r.1⟩
  have a4 := r.2
  have n : MemN _ _ _ _ _ := ⟨rfl, h.1⟩
  have j := h.2
  refine .r0 rfl rfl (.fillA rfl sz_31_D rfl rfl rfl rfl) ?_
  rintro _ i ⟨rfl, m, d⟩
  have _ := m.nx
  replace t := t.st m (fun k hk => ⟨by omega, trivial⟩)
  replace o := m.s o
  have _ := GHeap.ltg d
  replace hin := g.mono t
  clear r h a9 a5 a8 w a7 a4 n j
  have r : SFun.At _ g1 0 f p := ⟨Mem.of_get o, hin⟩
  obtain ⟨h, a9, a5, a8, w⟩ := r.get
  have a7 : MemN _ _ _ _ _ := ⟨rfl, r.1⟩
  have a4 := r.2
  have n : MemN _ _ _ _ _ := ⟨rfl, h.1⟩
  have j := h.2
  have _ : MemN _ _ _ _ _ := ⟨rfl, Mem.of_get d⟩
  have d5 : Cat.At _ g6 0 f.sh p.sh := ⟨Mem.of_get d, j⟩
  obtain ⟨_, _, _, _, _, _, _, _, f6⟩ := d5.get
  have _ : MemN _ _ _ _ _ := ⟨rfl, d5.1⟩
  have _ := d5.2
  refine .nil (e9 _ _ (.seq (fun K3 f1 => .seq (fun K4 f0 => .region (.mv rfl (.nil (f0 _ _ (.block ?_))))))))
  refine .loopF (σ := Nat) [1, 6] (fun k => [(7, some (.int .i64 (k : Int)))]) (fun k H' => i = H' ∧ (k : Int) ≤ f.sh.obj ∧ ∀ x, x < k → ∀ e : Nat, e < (f.ac.getD (f.sh.idn.getD x 0).toNat []).length → (f.ac.getD (f.sh.idn.getD x 0).toNat []).getD e 0 = e) (fun k => (f.sh.obj - k : Int).toNat) (0) rfl (.p rfl) ?_ ?_
  ·
   refine ⟨rfl, ?_⟩
   exact ⟨by omega, fun _ _ => by omega⟩
  rintro k _ ⟨rfl, hI⟩ _ c7
  dsimp only [cA, nA]
  obtain ⟨_, e1⟩ := hI
  refine .seq (fun K5 f5 => .seq (fun K6 f2 => .region (.mv rfl (.q rfl (.fieldAddr fo_31_0_B rfl) ?_))))
  refine .q rfl (.load on_2_A rfl (by first | assumption | exact Mem.of_get d 0 _ rfl)) ?_
  refine .q rfl (.cmp rfl rfl rfl) (.nil (f2 _ _ ?_))
  refine .cond rfl ?_ ?_ <;> intro e7
  ·
   simp only [sps] at e7
   have r1 := hC.idn k (by omega)
   have r2 := w.2 (f.sh.idn.getD k 0).toNat (by omega)
   have r3 := hS.ends (a := (f.sh.idn.getD k 0).toNat) (by omega)
   rw [(hC.ids k (by omega)).1] at r3
   have r4 := hS.sz k (by omega)
   have r5 : ((k : Int)).toNat = k := Int.toNat_natCast k
   rw [r5] at r3
   refine .skip (f5 _ _ (.seq (fun K7 f3 => .block (.seq (fun K8 f4 => .region (.mv rfl (.nil (f4 _ _ (.block ?_)))))))))
   refine .loopF (σ := Nat) [1, 6, 7] (fun l => [(8, some (.int .i64 (l : Int)))]) (fun l H' => i = H' ∧ (l : Int) ≤ (f.ac.getD (f.sh.idn.getD k 0).toNat []).length ∧ ∀ e, e < l → (f.ac.getD (f.sh.idn.getD k 0).toNat []).getD e 0 = e) (fun l => ((f.ac.getD (f.sh.idn.getD k 0).toNat []).length - l : Int).toNat) (0) rfl (.p rfl) ?_ ?_
   ·
    refine ⟨rfl, ?_⟩
    exact ⟨by omega, fun _ _ => by omega⟩
   rintro l _ ⟨rfl, hI⟩ _ d4
   dsimp only [cA, nA]
   obtain ⟨_, e6⟩ := hI
   refine .seq (fun K9 f8 => .seq (fun K10 d1 => .region (.mv rfl (.q rfl (.fieldAddr fo_33_1_P rfl) ?_))))
   refine .q rfl (.load on_22_B rfl (by first | assumption | exact Mem.of_get o 5 _ rfl)) ?_
   refine .mv rfl (.q rfl (.iN sl_22_A rfl rfl) (.q rfl (.lI on_2_A rfl) (.q rfl (.cmp rfl rfl rfl) (.nil (d1 _ _ ?_)))))
   refine .cond rfl ?_ ?_ <;> intro d9
   ·
    try simp only [sps] at d9
    refine .skip (f8 _ _ (.seq (fun K11 b6 => .block (.seq (fun K12 d3 => ?_)))))
    refine .regionD mo_B (.qs [0, 1, 2, 3, 4, 5, 6, 7, 8, 9, 10, 11, 12, 13] (.done)) (by kernel_rfl) ?_
    refine .q rfl (.fieldAddr fo_33_2_P rfl) ?_
    refine .q rfl (.load on_23_B rfl (by first | assumption | exact Mem.of_get o 6 _ rfl)) ?_
    refine .q rfl (.fieldAddr fo_31_3_B rfl) ?_
    refine .q rfl (.load on_22_B rfl (by first | assumption | exact Mem.of_get d 3 _ rfl)) ?_
    refine .mv rfl rfl (.q rfl (.iN sl_22_A rfl rfl) (.q rfl (.lI on_2_A rfl) ?_))
    refine .q rfl (.idx1 sl_23_B (Intss.sl (by assumption)) rfl rfl (by omega) (by omega)) ?_
    refine .q rfl (.loadR on_22_B (by assumption) rfl (by omega)) ?_
    refine .mv rfl rfl (.q rfl (.iN sl_22_A rfl rfl) (.q rfl (.lI on_2_A rfl) (.mv rfl rfl (.q rfl (.cmp rfl rfl rfl) (.done (d3 _ _ ?_))))))
    refine .cond rfl ?_ ?_ <;> intro a6
    ·
     try simp only [sps] at a6
     refine .seq (fun K13 b9 => .region (.mv rfl (.mv rfl (.mv rfl (.mv rfl (.mv rfl (.mv rfl (.nil (b9 _ _ (.ret (a0 _ _ (⟨_, _, _, _, rfl, rfl, rfl, rfl, ?_⟩))))))))))))
     exact ⟨⟨⟨_, _, _, _, rfl, ⟨fun hh => absurd hh (by decide), fun hL => absurd (hL.ids k (by omega) l (by omega)) a6⟩⟩, rfl⟩, rfl, t⟩
    try simp only [sps] at a6
    refine .skip (b6 _ _ (.region (.mv rfl (.q rfl (.aD rfl rfl rfl) (.mv rfl (.nil ?_))))))
    refine d4 (l + 1) _ _ ?_ ?_ (.p rfl)
    ·
     refine ⟨rfl, ?_⟩
     refine ⟨by omega, fun e hx => ?_⟩
     by_cases hltq : e < l
     · exact e6 e hltq
     · obtain rfl : e = l := by omega
       exact a6
    omega
   try simp only [sps] at d9
   refine .exit (f3 _ _ (.region (.mv rfl (.q rfl (.aD rfl rfl rfl) (.mv rfl (.nil ?_))))))
   refine c7 (k + 1) _ _ ?_ ?_ (.p rfl)
   ·
    refine ⟨rfl, ?_⟩
    refine ⟨by omega, fun x hx => ?_⟩
    by_cases hltq : x < k
    · exact e1 x hltq
    · obtain rfl : x = k := by omega
      exact fun e he => e6 e (by omega)
   omega
  try simp only [sps] at e7
  refine .exit (f1 _ _ (.seq (fun K14 d2 => .seq (fun K15 c5 => .region (.mv rfl (.nil (c5 _ _ (.block ?_))))))))
  refine .loopF (σ := Nat) [1, 6] (fun a => [(9, some (.int .i64 (a : Int)))]) (fun a H' => i = H' ∧ (a : Int) ≤ f.sh.src.length ∧ ∀ a', a' < a → ∀ b : Nat, b < f.sh.src.length → f.sh.tgt.getD a' 0 = f.sh.src.getD b 0 → ∀ e : Nat, e < (f.ac.getD a' []).length → (f.ac.getD ((f.sh.comp.getD a' []).getD b 0).toNat []).getD e 0 = (f.ac.getD b []).getD ((f.ac.getD a' []).getD e 0).toNat 0) (fun a => (f.sh.src.length - a : Int).toNat) (0) rfl (.p rfl) ?_ ?_
  ·
   refine ⟨rfl, ?_⟩
   exact ⟨by omega, fun _ _ => by omega⟩
  rintro a _ ⟨rfl, hI⟩ _ c8
  dsimp only [cA, nA]
  obtain ⟨_, e3⟩ := hI
  refine .seq (fun K16 d0 => .seq (fun K17 d8 => .region (.mv rfl (.q rfl (.fieldAddr fo_31_1_B rfl) ?_))))
  refine .q rfl (.load on_22_B rfl (by first | assumption | exact Mem.of_get d 1 _ rfl)) ?_
  refine .q rfl (.len sl_22_A rfl) (.q rfl (.cmp rfl rfl rfl) (.nil (d8 _ _ ?_)))
  refine .cond rfl ?_ ?_ <;> intro e5
  ·
   simp only [sps] at e5
   have r1 := hC.row a (by omega)
   have r2 := f6.2 a (by omega)
   have r3 := w.2 a (by omega)
   have r4 := hS.ends (a := a) (by omega)
   have r5 := hS.sz (f.sh.src.getD a 0).toNat (by omega)
   refine .skip (d0 _ _ (.seq (fun K18 b7 => .block (.seq (fun K19 b8 => .region (.mv rfl (.nil (b8 _ _ (.block ?_)))))))))
   refine .loopF (σ := Nat) [1, 6, 9] (fun b => [(10, some (.int .i64 (b : Int)))]) (fun b H' => i = H' ∧ (b : Int) ≤ f.sh.src.length ∧ ∀ b', b' < b → f.sh.tgt.getD a 0 = f.sh.src.getD b' 0 → ∀ e : Nat, e < (f.ac.getD a []).length → (f.ac.getD ((f.sh.comp.getD a []).getD b' 0).toNat []).getD e 0 = (f.ac.getD b' []).getD ((f.ac.getD a []).getD e 0).toNat 0) (fun b => (f.sh.src.length - b : Int).toNat) (0) rfl (.p rfl) ?_ ?_
   ·
    refine ⟨rfl, ?_⟩
    exact ⟨by omega, fun _ _ => by omega⟩
   rintro b _ ⟨rfl, hI⟩ _ a3
   dsimp only [cA, nA]
   obtain ⟨_, c1⟩ := hI
   refine .seq (fun K20 c9 => .seq (fun K21 d7 => .region (.mv rfl (.q rfl (.fieldAddr fo_31_1_B rfl) ?_))))
   refine .q rfl (.load on_22_B rfl (by first | assumption | exact Mem.of_get d 1 _ rfl)) ?_
   refine .q rfl (.len sl_22_A rfl) (.q rfl (.cmp rfl rfl rfl) (.nil (d7 _ _ ?_)))
   refine .cond rfl ?_ ?_ <;> intro e2
   ·
    simp only [sps] at e2
    have _ := w.2 b (by omega)
    have t2 := hS.ends (a := b) (by omega)
    refine .skip (c9 _ _ (.seq (fun K22 a2 => .block (.seq (fun K23 b3 => .seq (fun K24 b1 => ?_))))))
    refine .regionD mo_B (.qs [0, 1, 2, 3, 4, 5, 6, 7, 8, 9, 10] (.done)) (by kernel_rfl) ?_
    refine .q rfl (.fieldAddr fo_31_2_B rfl) ?_
    refine .q rfl (.load on_22_B rfl (by first | assumption | exact Mem.of_get d 2 _ rfl)) ?_
    refine .mv rfl rfl (.q rfl (.iN sl_22_A rfl rfl) (.q rfl (.lI on_2_A rfl) (.q rfl (.fieldAddr fo_31_1_B rfl) ?_)))
    refine .q rfl (.load on_22_B rfl (by first | assumption | exact Mem.of_get d 1 _ rfl)) ?_
    refine .mv rfl rfl (.q rfl (.iN sl_22_A rfl rfl) (.q rfl (.lI on_2_A rfl) (.q rfl (.cmp rfl rfl rfl) (.done (b1 _ _ ?_)))))
    refine .cond rfl ?_ ?_ <;> intro a1
    ·
     try simp only [sps] at a1
     refine .exit (a2 _ _ (.region (.mv rfl (.q rfl (.aD rfl rfl rfl) (.mv rfl (.nil ?_))))))
     refine a3 (b + 1) _ _ ?_ ?_ (.p rfl)
     ·
      refine ⟨rfl, ?_⟩
      refine ⟨by omega, fun b' hx => ?_⟩
      by_cases hltq : b' < b
      · exact c1 b' hltq
      · obtain rfl : b' = b := by omega
        first | exact fun _ e he => b5 e (by omega) | exact fun hn => absurd hn a1
     omega
    simp only [sps] at a1
    have u1 : f.sh.tgt.getD a 0 = f.sh.src.getD b 0 := a1
    have u2 := (Cat.Cell.pos u1).1 (hC.cell a (by omega) b (by omega))
    have _ := w.2 ((f.sh.comp.getD a []).getD b 0).toNat (by omega)
    have u4 := hS.ends (a := ((f.sh.comp.getD a []).getD b 0).toNat) (by omega)
    rw [u2.2.2.1] at u4
    have u5 := t2.2.2.2.2
    rw [← u1] at u5
    refine .skip (b3 _ _ (.seq (fun K25 c6 => .region (.mv rfl (.nil (c6 _ _ (.block ?_)))))))
    refine .loopF (σ := Nat) [1, 6, 9, 10] (fun e => [(11, some (.int .i64 (e : Int)))]) (fun e H' => i = H' ∧ (e : Int) ≤ (f.ac.getD a []).length ∧ ∀ e', e' < e → (f.ac.getD ((f.sh.comp.getD a []).getD b 0).toNat []).getD e' 0 = (f.ac.getD b []).getD ((f.ac.getD a []).getD e' 0).toNat 0) (fun e => ((f.ac.getD a []).length - e : Int).toNat) (0) rfl (.p rfl) ?_ ?_
    ·
     refine ⟨rfl, ?_⟩
     exact ⟨by omega, fun _ _ => by omega⟩
    rintro e _ ⟨rfl, hI⟩ _ c0
    dsimp only [cA, nA]
    obtain ⟨_, b5⟩ := hI
    refine .seq (fun K26 c3 => .seq (fun K27 c2 => ?_))
    refine .regionD mo_B (.qs [0, 1, 2, 3, 4, 5, 6, 7, 8, 9, 10] (.done)) (by kernel_rfl) ?_
    refine .mv rfl rfl (.q rfl (.fieldAddr fo_33_1_P rfl) ?_)
    refine .q rfl (.load on_22_B rfl (by first | assumption | exact Mem.of_get o 5 _ rfl)) ?_
    refine .q rfl (.fieldAddr fo_31_1_B rfl) ?_
    refine .q rfl (.load on_22_B rfl (by first | assumption | exact Mem.of_get d 1 _ rfl)) ?_
    refine .mv rfl rfl (.q rfl (.iN sl_22_A rfl rfl) (.q rfl (.lI on_2_A rfl) (.q rfl (.i1 sl_22_A rfl rfl) (.q rfl (.lI on_2_A rfl) (.q rfl (.cmp rfl rfl rfl) (.done (c2 _ _ ?_)))))))
    refine .cond rfl ?_ ?_ <;> intro e4
    ·
     simp only [sps] at e4
     have _ := hS.act (a := a) (by omega) (e := e) (by omega)
     refine .skip (c3 _ _ (.seq (fun K28 b4 => .block (.seq (fun K29 d6 => ?_)))))
     refine .regionD mo_B (.qs [0, 1, 2, 3, 4, 5, 6, 7, 8, 9, 10, 11, 12, 13, 14, 15, 16, 17, 18, 19, 20, 21, 22, 23, 24, 25, 26, 27, 28, 29, 30] (.done)) (by kernel_rfl) ?_
     refine .q rfl (.fieldAddr fo_33_2_P rfl) ?_
     refine .q rfl (.load on_23_B rfl (by first | assumption | exact Mem.of_get o 6 _ rfl)) ?_
     refine .q rfl (.fieldAddr fo_31_4_B rfl) ?_
     refine .q rfl (.load on_23_B rfl (by first | assumption | exact Mem.of_get d 4 _ rfl)) ?_
     refine .mv rfl rfl ?_
     refine .q rfl (.idxN sl_23_B (Intss.sl (by assumption)) rfl rfl (by omega)) ?_
     refine .q rfl (.loadR on_22_B (by assumption) rfl (by omega)) ?_
     refine .mv rfl rfl (.q rfl (.iN sl_22_A rfl rfl) (.q rfl (.lI on_2_A rfl) ?_))
     refine .q rfl (.idx1 sl_23_B (Intss.sl (by assumption)) rfl rfl (by omega) (by omega)) ?_
     refine .q rfl (.loadR on_22_B (by assumption) rfl (by omega)) ?_
     refine .mv rfl rfl (.q rfl (.iN sl_22_A rfl rfl) (.q rfl (.lI on_2_A rfl) (.q rfl (.fieldAddr fo_33_2_P rfl) ?_)))
     refine .q rfl (.load on_23_B rfl (by first | assumption | exact Mem.of_get o 6 _ rfl)) ?_
     refine .mv rfl rfl ?_
     refine .q rfl (.idxN sl_23_B (Intss.sl (by assumption)) rfl rfl (by omega)) ?_
     refine .q rfl (.loadR on_22_B (by assumption) rfl (by omega)) ?_
     refine .q rfl (.fieldAddr fo_33_2_P rfl) ?_
     refine .q rfl (.load on_23_B rfl (by first | assumption | exact Mem.of_get o 6 _ rfl)) ?_
     refine .mv rfl rfl ?_
     refine .q rfl (.idxN sl_23_B (Intss.sl (by assumption)) rfl rfl (by omega)) ?_
     refine .q rfl (.loadR on_22_B (by assumption) rfl (by omega)) ?_
     refine .mv rfl rfl (.q rfl (.iN sl_22_A rfl rfl) (.q rfl (.lI on_2_A rfl) (.q rfl (.i1 sl_22_A rfl rfl) (.q rfl (.lI on_2_A rfl) (.q rfl (.cmp rfl rfl rfl) (.done (d6 _ _ ?_)))))))
     refine .cond rfl ?_ ?_ <;> intro u
     ·
      try simp only [sps] at u
      refine .seq (fun K30 b2 => .region (.mv rfl (.mv rfl (.mv rfl (.mv rfl (.mv rfl (.mv rfl (.mv rfl (.nil (b2 _ _ (.ret (a0 _ _ (⟨_, _, _, _, rfl, rfl, rfl, rfl, ?_⟩)))))))))))))
      exact ⟨⟨⟨_, _, _, _, rfl, ⟨fun hh => absurd hh (by decide), fun hL => absurd (hL.th a (by omega) b (by omega) u1 e (by omega)) u⟩⟩, rfl⟩, rfl, t⟩
     try simp only [sps] at u
     refine .skip (b4 _ _ (.region (.mv rfl (.q rfl (.aD rfl rfl rfl) (.mv rfl (.nil ?_))))))
     refine c0 (e + 1) _ _ ?_ ?_ (.p rfl)
     ·
      refine ⟨rfl, ?_⟩
      refine ⟨by omega, fun e' hx => ?_⟩
      by_cases hltq : e' < e
      · exact b5 e' hltq
      · obtain rfl : e' = e := by omega
        exact u
     omega
    try simp only [sps] at e4
    refine .exit (a2 _ _ (.region (.mv rfl (.q rfl (.aD rfl rfl rfl) (.mv rfl (.nil ?_))))))
    refine a3 (b + 1) _ _ ?_ ?_ (.p rfl)
    ·
     refine ⟨rfl, ?_⟩
     refine ⟨by omega, fun b' hx => ?_⟩
     by_cases hltq : b' < b
     · exact c1 b' hltq
     · obtain rfl : b' = b := by omega
       first | exact fun _ e he => b5 e (by omega) | exact fun hn => absurd hn a1
    omega
   try simp only [sps] at e2
   refine .exit (b7 _ _ (.region (.mv rfl (.q rfl (.aD rfl rfl rfl) (.mv rfl (.nil ?_))))))
   refine c8 (a + 1) _ _ ?_ ?_ (.p rfl)
   ·
    refine ⟨rfl, ?_⟩
    refine ⟨by omega, fun a' hx => ?_⟩
    by_cases hltq : a' < a
    · exact e3 a' hltq
    · obtain rfl : a' = a := by omega
      exact fun b hb => c1 b (by omega)
   omega
  try simp only [sps] at e5
  refine .exit (d2 _ _ (.seq (fun K31 c4 => .region (.mv rfl (.mv rfl (.mv rfl (.mv rfl (.nil (c4 _ _ (.ret (a0 _ _ (⟨_, _, _, _, rfl, rfl, rfl, rfl, ?_⟩))))))))))))
  exact ⟨⟨⟨_, _, _, _, rfl, ⟨fun _ => ⟨fun x hx => e1 x (by omega), fun a ha => e3 a (by omega)⟩, fun _ => rfl⟩⟩, rfl⟩, rfl, t⟩
theorem l19Is_c {f : SFun} {p : SFunP} {H : GHeap} (hin : f.In H p := by assumption) (hs : f.Small := by assumption) : GCalls Try.prog 29 [.agg (f.cells p).toArray] H (Ret (.bool (B f.Is)) H) := by
  refine GCalls.ret rfl ?_
  refine GCalls.body (N := 19) (rs := [.tmp 2]) Try.func29 rfl rfl rfl rfl (fun Qx b hend => ?_)
  refine .fg [0] rfl ?_
  have c := GHeap.Le.refl H
  have a := hin
  refine .seq (fun K1 k => .region ?_)
  refine .R rfl (.boxR rfl sz_33_VSFun rfl) ?_
  rintro _ _ ⟨g1, rfl, i, _, e⟩
  have _ := i.1
  replace c := c.trans i
  have _ := GHeap.ltg e
  replace hin := a.mono c
  have h : SFun.At _ g1 0 f p := ⟨Mem.of_get e, hin⟩
  obtain ⟨d, _, _, _, _⟩ := h.get
  have _ : MemN _ _ _ _ _ := ⟨rfl, h.1⟩
  have _ := h.2
  have _ : MemN _ _ _ _ _ := ⟨rfl, d.1⟩
  have _ := d.2
  refine .mv rfl (.nil (k _ _ (.seq (fun K2 l => .seq (fun K3 n => .region ?_)))))
  refine .q rfl (.loadM ag_33_VSFun rfl ⟨rfl, Mem.of_get e⟩) ?_
  refine .callQ rfl rfl rfl rfl en45 rfl (l19Shape_c) ?_
  refine .q rfl (.not rfl) (.nil (n _ _ ?_))
  refine .cond rfl ?_ ?_ <;> intro h9
  ·
   try simp only [sps] at h9
   refine .seq (fun K4 m => .region (.mv rfl (.nil (m _ _ (.ret (b _ _ (⟨_, rfl, ?_⟩)))))))
   exact ⟨congrArg _ (B_false fun hh => h9 hh.1), c⟩
  try simp only [sps] at h9
  refine .skip (l _ _ (.seq (fun K5 j => .region ?_)))
  refine .q rfl (.loadM ag_33_VSFun rfl ⟨rfl, Mem.of_get e⟩) ?_
  refine .call rfl rfl rfl rfl en46 rfl (l19Fault_c) ?_
  rintro _ _ ⟨⟨⟨_, _, _, _, rfl, g⟩, _⟩, heq⟩
  obtain rfl := heq.symm
  refine .mv rfl (.q rfl (.extract rfl rfl) (.q rfl (.extract rfl rfl) (.q rfl (.extract rfl rfl) (.q rfl (.extract rfl rfl) (.mv rfl (.mv rfl (.mv rfl (.mv rfl (.nil (j _ _ (.seq (fun K6 o => .region (.mv rfl (.q rfl (.cmp rfl rfl rfl) (.mv rfl ?_)))))))))))))))
  refine .nil (o _ _ (.ret (b _ _ (⟨_, rfl, ?_⟩))))
  exact ⟨congrArg _ (by rw [Bool.eq_iff_iff, B_iff]; simp only [sps]; rw [g]; exact ⟨fun hh => hh.2, fun hh => ⟨h9, hh⟩⟩), c⟩
end Go.Proofs.Ytddjdkpjfpnjiaa
namespace Go.Proofs.Ytddjdkpjfpnjiaa
open Go Go.GL Go.RowKit Go.Proofs
variable [MainFlag]
end Go.Proofs.Ytddjdkpjfpnjiaa
namespace Go.Proofs.Ytddjdkpjfpnjiaa
open Go Go.GL Go.RowKit Go.Proofs
variable [MainFlag]
theorem markInt64S_own {g : Nat} {e : TypeId} {xs : List Int} {k : Int} {H : GHeap} (at0 : H.get g = some (.row (ints xs) e true)) (hk : 0 ≤ k) (hk' : k + xs.length ≤ 9223372036854775000) :
    GCalls Try.prog 23 [.slice (some ⟨g, 0, none⟩) xs.length xs.length, .int .i64 k] H (fun v H' => v = .int .i64 (k + xs.length) ∧ St [g] H H' ∧ H'.get g = some (.row (ints (seqL k xs.length)) e true)) := by
  refine GCalls.body (N := 19) (rs := [.tmp 4]) Try.func23 rfl rfl rfl rfl (fun Qx f hend => ?_)
  refine .fg [0, 1] rfl ?_
  refine .seq (fun K1 m => .region (.mv rfl (.nil (m _ _ (.seq (fun K2 o => .seq (fun K3 s => .region (.mv rfl (.nil (s _ _ (.block ?_)))))))))))
  refine .loopF (σ := Nat × Int × List Int) [0] (fun (i, q, ys) => [(5, some (.int .i64 (i : Int))), (1, some (.int .i64 q))]) (fun (i, q, ys) H' => St [g] H H' ∧ H'.get g = some (.row (ints ys) e true) ∧ i ≤ xs.length ∧ q = k + i ∧ ys.length = xs.length ∧ ∀ j, j < i → ys.getD j 0 = k + j) (fun (i, q, ys) => xs.length - i) ((0, k, xs)) rfl (.p rfl) ?_ ?_
  ·
   refine ⟨.refl _ _, by first | assumption | exact at0 | simpa using at0, ?_⟩
   exact ⟨by omega, by omega, rfl, fun _ _ => by omega⟩
  rintro ⟨i, q, ys⟩ _ ⟨c, a, hI⟩ _ h
  dsimp only [cA, nA]
  obtain ⟨_, hq, hyl, ha⟩ := hI
  have _ := SlA.of_ints a hyl
  refine .seq (fun K4 r => .seq (fun K5 l => .region (.mv rfl (.mv rfl (.q rfl (.len sl_22_A rfl) (.q rfl (.cmp rfl rfl rfl) (.nil (l _ _ ?_))))))))
  refine .cond rfl ?_ ?_ <;> intro h9
  ·
   try simp only [sps] at h9
   refine .skip (r _ _ (.seq (fun K6 u => .block (.seq (fun K7 t => .region (.mv rfl (.mv rfl (.mv rfl ?_))))))))
   refine .q rfl (.idxN sl_22_A (by first | assumption | exact SlA.of_row a (by first | rfl | (simp; done) | (simp <;> omega))) rfl rfl (by omega)) ?_
   refine .r0 rfl rfl (.storeI rfl sz_2_E rfl rfl (by assumption) (by first | omega | (simp <;> omega))) ?_
   rintro _ _ ⟨rfl, b, d⟩
   have _ := b.nx
   replace c := c.sA b
   have _ := GHeap.ltg d
   refine .nil (t _ _ (.region (.mv rfl (.q rfl (.aD rfl rfl rfl) (.mv rfl (.nil (u _ _ (.region (.mv rfl (.q rfl (.aD rfl rfl rfl) (.mv rfl (.nil ?_))))))))))))
   refine h ((i + 1, q + 1, ys.set (0 + i) q)) _ _ ?_ ?_ (.p rfl)
   ·
    refine ⟨c, by assumption, ?_⟩
    refine ⟨by omega, by omega, by simpa using hyl, fun j hj => ?_⟩
    rw [Nat.zero_add, getD_set (by omega)]
    split
    · rename_i e; rw [e]; exact hq
    · exact ha j (by omega)
   (dsimp only; omega)
  try simp only [sps] at h9
  refine .exit (o _ _ (.seq (fun K8 n => .region (.mv rfl (.mv rfl (.nil (n _ _ (.ret (f _ _ (⟨_, rfl, ?_⟩))))))))))
  obtain rfl : ys = seqL k xs.length := eq_of_getD (by rw [hyl, length_seqL]) fun j hj => by rw [length_seqL] at hj; rw [ha j (by omega), seqL_get hj]
  obtain rfl : i = xs.length := by omega
  exact ⟨by rw [hq], c, a⟩
theorem markInt64S_nil {a : Option Addr} {k : Int} {H : GHeap} (hk : 0 ≤ k) (hk' : k ≤ 9223372036854775000) :
    GCalls Try.prog 23 [.slice a 0 0, .int .i64 k] H (fun v H' => v = .int .i64 k ∧ H' = H) := by
  refine GCalls.body (N := 19) (rs := [.tmp 4]) Try.func23 rfl rfl rfl rfl (fun Qx b hend => ?_)
  refine .fg [0, 1] rfl ?_
  refine .seq (fun K1 d => .region (.mv rfl (.nil (d _ _ (.seq (fun K2 e => .seq (fun K3 f => .region (.mv rfl (.nil (f _ _ (.block ?_)))))))))))
  refine .loopF (σ := Unit) [0] (fun u => [(5, some (.int .i64 0)), (1, some (.int .i64 k))]) (fun u H' => H = H' ∧ True) (fun u => 0) (()) rfl (.p rfl) ?_ ?_
  ·
   refine ⟨rfl, ?_⟩
   exact trivial
  rintro u _ ⟨rfl, _⟩ _ _
  dsimp only [cA, nA]
  refine .seq (fun K4 hK4 => .seq (fun K5 c => .region (.mv rfl (.mv rfl (.q rfl (.len sl_22_A rfl) (.q rfl (.cmp rfl rfl rfl) (.nil (c _ _ ?_))))))))
  refine .cond rfl ?_ ?_ <;> intro h9
  ·
   exact absurd h9 (by simp)
  try simp only [sps] at h9
  refine .exit (e _ _ (.seq (fun K6 g => .region (.mv rfl (.mv rfl (.nil (g _ _ (.ret (b _ _ (⟨_, rfl, ?_⟩))))))))))
  exact ⟨rfl, rfl⟩
theorem markInt64S_c {a : Option Addr} {n lo hi : Nat} {k : Int} {H : GHeap} (h : IntsW lo hi H a n := by assumption) (hk : 0 ≤ k := by omega) (hk' : k + n ≤ 9223372036854775000 := by omega) :
    GCalls Try.prog 23 [.slice a n n, .int .i64 k] H (fun v H' => v = .int .i64 (k + n) ∧ Marked lo hi H H' [(a, n)] k) := by
  by_cases h0 : n = 0
  · subst h0
    refine (markInt64S_nil hk (by omega)).mono fun v H' ⟨h1, h2⟩ => ?_
    subst h2
    exact ⟨by rw [h1]; simp, .refl _ _ _, .refl _ _, fun _ => ⟨.inl rfl, trivial⟩⟩
  · rcases h with h | ⟨g, e, xs, rfl, h2, h3, h4, rfl⟩
    · exact absurd h h0
    · exact (markInt64S_own h4 hk hk').mono fun v H' ⟨k1, k2, k3⟩ => ⟨k1, .one h2 h3 h4 k2 k3 h0⟩
theorem heldInt64S_c {a : Option Addr} {n b : Nat} {k : Int} {H : GHeap} (h : Held b H [(a, n)] k := by assumption) (hk : 0 ≤ k := by omega) (hk' : k + n ≤ 9223372036854775000 := by omega) :
    GCalls Try.prog 25 [.slice a n n, .int .i64 k] H (Ret (.int .i64 (k + n)) H) := by
  have hi := h.ints
  have hl : (seqL k n).length = n := length_seqL k n
  have hsl : SlA H a n (fun i => .int .i64 ((seqL k n).getD i 0)) := by have hi' := hi; unfold Ints at hi'; rw [hl] at hi'; exact hi'
  refine GCalls.body (N := 21) (rs := [.tmp 4]) Try.func25 rfl rfl rfl rfl (fun Qx c hend => ?_)
  refine .fg [0, 1] rfl ?_
  refine .seq (fun K1 j => .region (.mv rfl (.nil (j _ _ (.seq (fun K2 m => .seq (fun K3 s => .region (.mv rfl (.nil (s _ _ (.block ?_)))))))))))
  refine .loopF (σ := Nat × Int) [0] (fun (i, q) => [(5, some (.int .i64 (i : Int))), (1, some (.int .i64 q))]) (fun (i, q) H' => H = H' ∧ i ≤ n ∧ q = k + i) (fun (i, q) => n - i) ((0, k)) rfl (.p rfl) ?_ ?_
  ·
   refine ⟨rfl, ?_⟩
   exact ⟨by omega, by omega⟩
  rintro ⟨i, q⟩ _ ⟨rfl, hI⟩ _ d
  dsimp only [cA, nA]
  obtain ⟨hi, hq⟩ := hI
  refine .seq (fun K4 r => .seq (fun K5 g => .region (.mv rfl (.mv rfl (.q rfl (.len sl_22_A rfl) (.q rfl (.cmp rfl rfl rfl) (.nil (g _ _ ?_))))))))
  refine .cond rfl ?_ ?_ <;> intro h9
  ·
   try simp only [sps] at h9
   refine .skip (r _ _ (.seq (fun K6 t => .block (.seq (fun K7 u => .seq (fun K8 l => .region (.mv rfl (.mv rfl ?_))))))))
   refine .q rfl (.idxN sl_22_A hsl rfl rfl (by omega)) ?_
   refine .q rfl (.loadE on_2_A hsl rfl (by omega)) ?_
   refine .mv rfl (.q rfl (.cmp rfl rfl rfl) (.nil (l _ _ ?_)))
   refine .cond rfl ?_ ?_ <;> intro e
   ·
    simp only [sps] at e
    rw [seqL_get (by omega)] at e
    refine .seq (fun K9 o => .region (.mv rfl (.nil (o _ _ (.ret (c _ _ (⟨_, rfl, ?_⟩)))))))
    exact absurd hq.symm (by omega)
   try simp only [sps] at e
   refine .skip (u _ _ (.region (.mv rfl (.q rfl (.aD rfl rfl rfl) (.mv rfl (.nil (t _ _ (.region (.mv rfl (.q rfl (.aD rfl rfl rfl) (.mv rfl (.nil ?_))))))))))))
   refine d ((i + 1, q + 1)) _ _ ?_ ?_ (.p rfl)
   ·
    refine ⟨rfl, ?_⟩
    exact ⟨by omega, by omega⟩
   (dsimp only; omega)
  try simp only [sps] at h9
  refine .exit (m _ _ (.seq (fun K10 f => .region (.mv rfl (.mv rfl (.nil (f _ _ (.ret (c _ _ (⟨_, rfl, ?_⟩))))))))))
  obtain rfl : i = n := by omega
  exact .of (by rw [hq])
theorem markInt64SS_c {a : Option Addr} {xss : List (List Int)} {r : Nat → Option Addr} {lo hi : Nat} {k : Int} {H : GHeap} (h : IntssW lo hi H a xss r := by assumption) (hk : 0 ≤ k := by omega) (hk' : k + sumL xss ≤ 9223372036854775000 := by omega) (hl : xss.length ≤ 1048576 := by omega) :
    GCalls Try.prog 12 [.slice a xss.length xss.length, .int .i64 k] H (fun v H' => v = .int .i64 (k + sumL xss) ∧ Marked lo hi H H' (rowsL r xss xss.length) k) := by
  refine GCalls.body (N := 19) (rs := [.tmp 4]) Try.func12 rfl rfl rfl rfl (fun Qx b hend => ?_)
  refine .fg [0, 1] rfl ?_
  refine .seq (fun K1 f => .region (.mv rfl (.nil (f _ _ (.seq (fun K2 g => .seq (fun K3 l => .region (.mv rfl (.nil (l _ _ (.block ?_)))))))))))
  refine .loopF (σ := Nat × Int) [0] (fun (i, q) => [(5, some (.int .i64 (i : Int))), (1, some (.int .i64 q))]) (fun (i, q) H' => i ≤ xss.length ∧ q = k + sumL (xss.take i) ∧ Marked lo hi H H' (rowsL r xss i) k) (fun (i, q) => xss.length - i) ((0, k)) rfl (.p rfl) ?_ ?_
  ·
   exact ⟨by omega, by simp [sumL], .nil _ _ _ _⟩
  rintro ⟨i, q⟩ H' hI _ c
  dsimp only [cA, nA]
  obtain ⟨_, hq, hm⟩ := hI
  have hw := h.stm hm.stm
  have hsl := hw.1
  have _ := sumL_take_le (xss := xss) (k := i + 1)
  refine .seq (fun K4 j => .seq (fun K5 e => .region (.mv rfl (.mv rfl (.q rfl (.len sl_23_B rfl) (.q rfl (.cmp rfl rfl rfl) (.nil (e _ _ ?_))))))))
  refine .cond rfl ?_ ?_ <;> intro h9
  ·
   simp only [sps] at h9
   have _ := sumL_take_succ (xss := xss) (k := i) (by omega)
   refine .skip (j _ _ (.seq (fun K6 n => .block (.region (.mv rfl (.mv rfl ?_))))))
   refine .q rfl (.idxN sl_23_B hsl rfl rfl (by omega)) ?_
   refine .q rfl (.loadE on_22_B hsl rfl (by omega)) ?_
   refine .mv rfl ?_
   refine .call rfl rfl rfl rfl en23 rfl (markInt64S_c (hw.2.1 i (by omega)) (by omega) (by omega)) ?_
   rintro _ _ ⟨rfl, d⟩
   refine .mv rfl (.nil (n _ _ (.region (.mv rfl (.q rfl (.aD rfl rfl rfl) (.mv rfl (.nil ?_)))))))
   refine c ((i + 1, _)) _ _ ?_ ?_ (.p rfl)
   ·
    exact ⟨by omega, by rw [sumL_take_succ (by omega)]; omega, by rw [rowsL_succ]; exact hm.app' d (by rw [lvSum_rowsL _ _ _ (by omega)]; omega)⟩
   (dsimp only; omega)
  try simp only [sps] at h9
  refine .exit (g _ _ (.seq (fun K7 m => .region (.mv rfl (.mv rfl (.nil (m _ _ (.ret (b _ _ (⟨_, rfl, ?_⟩))))))))))
  obtain rfl : i = xss.length := by omega
  rw [List.take_length] at hq
  exact ⟨by rw [hq], hm⟩
theorem heldRow {b : Nat} {H : GHeap} {r : Nat → Option Addr} {xss : List (List Int)} {k : Int} : ∀ {n : Nat}, n ≤ xss.length → Held b H (rowsL r xss n) k → ∀ i, i < n → Held b H [(r i, (xss.getD i []).length)] (k + sumL (xss.take i))
  | 0, _, _, i, hi => by omega
  | n + 1, hn, h, i, hi => by
    rw [rowsL_succ] at h
    obtain ⟨h1, h2⟩ := h.app
    rw [lvSum_rowsL _ _ _ (by omega)] at h2
    by_cases e : i = n
    · subst e; exact h2
    · exact heldRow (by omega) h1 i (by omega)
theorem heldInt64SS_c {a : Option Addr} {xss : List (List Int)} {r : Nat → Option Addr} {b : Nat} {k : Int} {H : GHeap} (hsl : SlA H a xss.length (fun i => .slice (r i) (xss.getD i []).length (xss.getD i []).length) := by assumption) (h : Held b H (rowsL r xss xss.length) k := by assumption) (hk : 0 ≤ k := by omega) (hk' : k + sumL xss ≤ 9223372036854775000 := by omega) (hl : xss.length ≤ 1048576 := by omega) :
    GCalls Try.prog 13 [.slice a xss.length xss.length, .int .i64 k] H (Ret (.int .i64 (k + sumL xss)) H) := by
  refine GCalls.body (N := 21) (rs := [.tmp 4]) Try.func13 rfl rfl rfl rfl (fun Qx c hend => ?_)
  refine .fg [0, 1] rfl ?_
  refine .seq (fun K1 g => .region (.mv rfl (.nil (g _ _ (.seq (fun K2 l => .seq (fun K3 o => .region (.mv rfl (.nil (o _ _ (.block ?_)))))))))))
  refine .loopF (σ := Nat × Int) [0] (fun (i, q) => [(5, some (.int .i64 (i : Int))), (1, some (.int .i64 q))]) (fun (i, q) H' => H = H' ∧ i ≤ xss.length ∧ q = k + sumL (xss.take i)) (fun (i, q) => xss.length - i) ((0, k)) rfl (.p rfl) ?_ ?_
  ·
   refine ⟨rfl, ?_⟩
   exact ⟨by omega, by simp [sumL]⟩
  rintro ⟨i, q⟩ _ ⟨rfl, hI⟩ _ d
  dsimp only [cA, nA]
  obtain ⟨_, hq⟩ := hI
  have _ := sumL_take_le (xss := xss) (k := i + 1)
  refine .seq (fun K4 n => .seq (fun K5 f => .region (.mv rfl (.mv rfl (.q rfl (.len sl_23_B rfl) (.q rfl (.cmp rfl rfl rfl) (.nil (f _ _ ?_))))))))
  refine .cond rfl ?_ ?_ <;> intro h9
  ·
   simp only [sps] at h9
   have _ := sumL_take_succ (xss := xss) (k := i) (by omega)
   have hr := heldRow (Nat.le_refl _) h i (by omega)
   rw [← hq] at hr
   refine .skip (n _ _ (.seq (fun K6 t => .block (.seq (fun K7 s => .region (.mv rfl (.mv rfl ?_)))))))
   refine .q rfl (.idxN sl_23_B hsl rfl rfl (by omega)) ?_
   refine .q rfl (.loadE on_22_B hsl rfl (by omega)) ?_
   refine .mv rfl ?_
   refine .callQ rfl rfl rfl rfl en25 rfl (heldInt64S_c) ?_
   refine .mv rfl (.nil (s _ _ (.seq (fun K8 j => .region (.mv rfl (.q rfl (.cmp rfl rfl rfl) (.nil (j _ _ ?_))))))))
   refine .cond rfl ?_ ?_ <;> intro e
   ·
    exact absurd e (by simp; omega)
   try simp only [sps] at e
   refine .skip (t _ _ (.region (.mv rfl (.q rfl (.aD rfl rfl rfl) (.mv rfl (.nil ?_))))))
   refine d ((i + 1, _)) _ _ ?_ ?_ (.p rfl)
   ·
    refine ⟨rfl, ?_⟩
    exact ⟨by omega, by rw [sumL_take_succ (by omega)]; omega⟩
   (dsimp only; omega)
  try simp only [sps] at h9
  refine .exit (l _ _ (.seq (fun K9 m => .region (.mv rfl (.mv rfl (.nil (m _ _ (.ret (c _ _ (⟨_, rfl, ?_⟩))))))))))
  obtain rfl : i = xss.length := by omega
  rw [List.take_length] at hq
  exact .of (by rw [hq])
theorem heldInt64SSw_c {a : Option Addr} {xss : List (List Int)} {r : Nat → Option Addr} {lo hi b : Nat} {k : Int} {H : GHeap} (w : IntssW lo hi H a xss r := by assumption) (h : Held b H (rowsL r xss xss.length) k := by assumption) (hk : 0 ≤ k := by omega) (hk' : k + sumL xss ≤ 9223372036854775000 := by omega) (hl : xss.length ≤ 1048576 := by omega) :
    GCalls Try.prog 13 [.slice a xss.length xss.length, .int .i64 k] H (Ret (.int .i64 (k + sumL xss)) H) := heldInt64SS_c w.1 h hk hk' hl
theorem markCategory_c {c : Cat} {p : CatP} {lo hi : Nat} {k : Int} {H : GHeap} (w : CatW lo hi H c p := by assumption) (hs : c.Small := by assumption) (hk : 0 ≤ k := by omega) (hk' : k + c.total ≤ 9223372036854775000 := by omega) (hhi : hi ≤ H.next := by omega) :
    GCalls Try.prog 22 [.agg (c.cells p).toArray, .int .i64 k] H (fun v H' => v = .int .i64 (k + c.total) ∧ Marked lo hi H H' (c.leaves p) k) := by
  obtain ⟨w1, w2, w3, w4⟩ := w
  have ht : c.total = c.src.length + (c.tgt.length + (c.idn.length + sumL c.comp)) := rfl
  obtain ⟨_, _, _, _, -, -⟩ := hs
  refine GCalls.body (N := 22) (rs := [.tmp 4]) Try.func22 rfl rfl rfl rfl (fun Qx i hend => ?_)
  refine .fg [0, 1] rfl ?_
  refine .seq (fun K1 n => .region ?_)
  refine .R rfl (.boxR rfl sz_31_D rfl) ?_
  rintro _ H2 ⟨g2, rfl, d, _, a⟩
  replace w1 := w1.stm (.of_le d)
  replace w2 := w2.stm (.of_le d)
  replace w3 := w3.stm (.of_le d)
  replace w4 := w4.stm (.of_le d)
  refine .mv rfl (.nil (n _ _ (.seq (fun K2 o => .region ?_))))
  have _ : H2.cell g2 (0 + 1) = some (.slice p.a1 c.src.length c.src.length) := Mem.of_get a 1 _ rfl
  refine .q rfl (.fieldAddr fo_31_1_B rfl) ?_
  refine .q rfl (.load on_22_B rfl (by first | assumption | exact Mem.of_get a 1 _ rfl)) ?_
  refine .mv rfl ?_
  refine .call rfl rfl rfl rfl en23 rfl (markInt64S_c) ?_
  rintro _ H8 ⟨rfl, l⟩
  have h := l.stm
  replace a := h.same _ _ (by omega) a
  replace w2 := w2.stm h
  replace w3 := w3.stm h
  replace w4 := w4.stm h
  refine .mv rfl (.nil (o _ _ (.seq (fun K3 t => .region ?_))))
  have _ : H8.cell g2 (0 + 2) = some (.slice p.a2 c.tgt.length c.tgt.length) := Mem.of_get a 2 _ rfl
  refine .q rfl (.fieldAddr fo_31_2_B rfl) ?_
  refine .q rfl (.load on_22_B rfl (by first | assumption | exact Mem.of_get a 2 _ rfl)) ?_
  refine .mv rfl ?_
  refine .call rfl rfl rfl rfl en23 rfl (markInt64S_c) ?_
  rintro _ x ⟨rfl, f⟩
  have b := f.stm
  replace a := b.same _ _ (by omega) a
  replace w3 := w3.stm b
  replace w4 := w4.stm b
  refine .mv rfl (.nil (t _ _ (.seq (fun K4 r => .region ?_))))
  have _ : x.cell g2 (0 + 3) = some (.slice p.a3 c.idn.length c.idn.length) := Mem.of_get a 3 _ rfl
  refine .q rfl (.fieldAddr fo_31_3_B rfl) ?_
  refine .q rfl (.load on_22_B rfl (by first | assumption | exact Mem.of_get a 3 _ rfl)) ?_
  refine .mv rfl ?_
  refine .call rfl rfl rfl rfl en23 rfl (markInt64S_c) ?_
  rintro _ s ⟨rfl, e⟩
  have g := e.stm
  replace a := g.same _ _ (by omega) a
  replace w4 := w4.stm g
  refine .mv rfl (.nil (r _ _ (.seq (fun K5 m => .region ?_))))
  have _ : s.cell g2 (0 + 4) = some (.slice p.a4 c.comp.length c.comp.length) := Mem.of_get a 4 _ rfl
  refine .q rfl (.fieldAddr fo_31_4_B rfl) ?_
  refine .q rfl (.load on_23_B rfl (by first | assumption | exact Mem.of_get a 4 _ rfl)) ?_
  refine .mv rfl ?_
  refine .call rfl rfl rfl rfl en12 rfl (markInt64SS_c) ?_
  rintro _ _ ⟨rfl, j⟩
  refine .mv rfl (.nil (m _ _ (.seq (fun K6 u => .region (.mv rfl (.mv rfl (.nil (u _ _ (.ret (i _ _ (⟨_, rfl, ?_⟩)))))))))))
  exact ⟨by rw [ht]; congr 1; omega, .le_left d (l.app' (f.app' (e.app' j (by simp [lvSum])) (by simp [lvSum])) (by simp [lvSum]))⟩
end Go.Proofs.Ytddjdkpjfpnjiaa
namespace Go.Proofs.Ytddjdkpjfpnjiaa
open Go Go.GL Go.RowKit Go.Proofs
variable [MainFlag]
end Go.Proofs.Ytddjdkpjfpnjiaa
namespace Go.GL
variable [MainFlag]

structure Fun.Cone (d : Fun) (p : Con) : Prop where
  ap : 0 ≤ p.ap ∧ p.ap < d.t.obj
  ll : p.lg.length = d.ob.length
  lg : ∀ j, j < p.lg.length → 0 ≤ p.lg.getD j 0 ∧ p.lg.getD j 0 < d.t.src.length
  ends : ∀ j, j < p.lg.length → d.t.src.getD (p.lg.getD j 0).toNat 0 = p.ap ∧ d.t.tgt.getD (p.lg.getD j 0).toNat 0 = d.ob.getD j 0
  tri : ∀ a, a < d.ar.length → d.t.th (p.lg.getD (d.s.src.getD a 0).toNat 0) (d.ar.getD a 0) = p.lg.getD (d.s.tgt.getD a 0).toNat 0
def Con.zero : Con := ⟨0, []⟩
end Go.GL
namespace Go.Proofs.Ytddjdkpjfpnjiaa
open Go Go.GL Go.RowKit Go.Proofs
variable [MainFlag]
theorem l02Object_c {c : Cat} {p : CatP} {x : Int} {H : GHeap} (hin : c.In H p := by assumption) : GCalls Try.prog 39 [.agg (c.cells p).toArray, .int .i64 x] H (Ret (.bool (B (0 ≤ x ∧ x < c.obj))) H) := by
  refine GCalls.ret rfl ?_
  refine GCalls.body (N := 13) (rs := [.tmp 4]) Try.func39 rfl rfl rfl rfl (fun Qx d hend => ?_)
  refine .fg [0, 1] rfl ?_
  have b := GHeap.Le.refl H
  have a := hin
  refine .seq (fun K1 i => .region ?_)
  refine .R rfl (.boxR rfl sz_31_D rfl) ?_
  rintro _ _ ⟨g2, rfl, g, _, e⟩
  have _ := g.1
  replace b := b.trans g
  have _ := GHeap.ltg e
  replace hin := a.mono b
  have f : Cat.At _ g2 0 c p := ⟨Mem.of_get e, hin⟩
  obtain ⟨_, _, _, _, _, _, _, _, _⟩ := f.get
  have _ : MemN _ _ _ _ _ := ⟨rfl, f.1⟩
  have _ := f.2
  refine .mv rfl (.nil (i _ _ (.seq (fun K2 h => .region (.mv rfl (.q rfl (.cmp rfl rfl rfl) (.mv rfl ?_)))))))
  refine .split (fun h7 => ?_) (fun h7 => ?_)
  ·
   try simp only [sps] at h7
   refine .qg rfl (.move rfl) (.qg rfl (.fieldAddr fo_31_0_B rfl) ?_)
   refine .qg rfl (.load on_2_A rfl (by first | assumption | exact Mem.of_get e 0 _ rfl)) ?_
   refine .qg rfl (.cmp rfl rfl rfl) (.q rfl (.pickT rfl rfl) (.mv rfl (.nil (h _ _ (.ret (d _ _ (⟨_, rfl, ?_⟩)))))))
   first
   | exact ⟨congrArg _ (B_false fun hh => by omega), b⟩
   | exact ⟨congrArg _ (by rw [Bool.eq_iff_iff, B_iff, decide_eq_true_eq]; omega), b⟩
  try simp only [sps] at h7
  refine .z rfl (.z rfl (.z rfl (.z rfl (.q rfl (.pickF rfl rfl) (.mv rfl (.nil (h _ _ (.ret (d _ _ (⟨_, rfl, ?_⟩))))))))))
  first
  | exact ⟨congrArg _ (B_false fun hh => by omega), b⟩
  | exact ⟨congrArg _ (by rw [Bool.eq_iff_iff, B_iff, decide_eq_true_eq]; omega), b⟩
end Go.Proofs.Ytddjdkpjfpnjiaa
