/- The fibre, as the program gathers it: the goroutine and the loop that hears it. No condition but those of each statement. -/
import Derived.Test.YtddjdkpjfpnjiaaZ10
import Derived.Conc.AppendEvents3
import Derived.Conc.AppendWalk
import Derived.Deep.Slices
import Derived.MapKept
set_option linter.unusedSectionVars false
namespace Go.Proofs.Ytddjdkpjfpnjiaa
open Go Go.GL Go.RowKit Go.Proofs Go.Conc
variable [MainFlag]

noncomputable def fibB : Code := Try.f17.body.getD .skip
noncomputable def fibM : Code := match fibB with | .seq _ (.seq _ (.seq _ m)) => m | _ => .skip
noncomputable def fibR : Code := match fibM with | .seq _ (.seq _ (.seq _ (.seq _ r))) => r | _ => .skip
noncomputable def fibLoop : Code := match fibM with | .seq _ (.seq _ (.seq _ (.seq (.seq _ (.block _ (.loop c))) _))) => c | _ => .skip
noncomputable def fibOps : Array Oper := match fibLoop with | .seq (.region _ ops _) _ => ops | _ => #[]
noncomputable def fibBody : Code := match fibLoop with | .seq _ (.seq _ b) => b | _ => .skip

def chanZ (P : Program) (t : TypeId) : Option Value := match P.underlying t with | some (.chan _ e) => (P.info? e).bind (·.zero) | _ => none
theorem chanZ_run {P : Program} {t : TypeId} {z : Value} (h : chanZ P t = some z) : ∃ dir elem info, P.underlying t = some (.chan dir elem) ∧ P.info? elem = some info ∧ info.zero = some z := by
  unfold chanZ at h
  split at h
  · rename_i hu
    obtain ⟨i, h1, h2⟩ := Option.bind_eq_some_iff.1 h
    exact ⟨_, _, i, hu, h1, h2⟩
  · cases h

noncomputable def fibL (c : Nat) : RangeLoop Try.prog c (.int .i64 0) where
  n := 0
  idr := 9
  orv := fibOps.getD 0 default
  oex := fibOps.getD 1 default
  tr := 33
  tk := 34
  tc := 32
  ty := _
  body := fibBody
  hrv := rfl
  hrg := rfl
  hrd := rfl
  hex := rfl
  heg := rfl
  hed := rfl
  hne := by decide
  hz := chanZ_run (by kernel_rfl)
section
variable {P : Program} {main : Bool} {R : World → World → Prop} {D : World → World → Array Event → Prop} {fn : FuncId} {Q : Exit → Act → World → Prop} {a : Act} {w : World}
theorem opsC_v (T : Terms R D) {ops : Array Oper} {i : Nat} {rest : List Nat} {o : Oper} {n : Nat} {v : Value} (ho : ops[i]? = some o) (hg : o.guard = none) (hr : ∀ w₁, (execOp a.eval o).run P w₁ = .ok (.value v) w₁ ∧ (execOp a.eval o).events P w₁ #[] = #[])
    (next : ∀ w₁, R w w₁ → OpsC P main R D fn ops rest n Q (a.put o.dst v) w₁) : OpsC P main R D fn ops (i :: rest) (n + 1) Q a w := by
  have hw : Region.wanted o (yielded ops a.tmps) = true := by simp [Region.wanted, hg]
  refine opsC_cons ho hw fun w₁ h₁ => ?_
  obtain ⟨h1, h2⟩ := hr w₁
  rw [h1]
  exact ⟨by rw [listed_nil h2]; exact T.idle _, next w₁ h₁⟩
theorem run_mv {o : Oper} {x : Operand} (ho : o.op = .move x ∨ o.op = .assign x) (w₁ : World) : (execOp a.eval o).run P w₁ = .ok (.value (a.eval x)) w₁ ∧ (execOp a.eval o).events P w₁ #[] = #[] := by
  rcases ho with ho | ho <;> (unfold execOp; rw [ho]; exact ⟨rfl, rfl⟩)
theorem run_ex {o : Oper} {x : Operand} {v u : Value} (ho : o.op = .extract x 0) (hx : a.eval x = .tuple #[v, u]) (w₁ : World) : (execOp a.eval o).run P w₁ = .ok (.value v) w₁ ∧ (execOp a.eval o).events P w₁ #[] = #[] := by
  unfold execOp
  rw [ho]
  simp [Instr.extract, hx]
end

section
variable {B : Nat} {w0 : World} {ρ : GL.Place} {H : GHeap} {D : List Deferred} {frk : Slots} {vs : List Value} {Bk m0 c : Nat}

def FibS (B : Nat) (w0 : World) (ρ : GL.Place) (H : GHeap) (Bk : Nat) (w : World) : Prop := Sim Try.prog B w0 ρ H w ∧ Bk ≤ w.heap.size
def FibMine (m0 Bk : Nat) (l : Loc) : Prop := ∃ ad, l = .cell ad ∧ (ad.block = m0 ∨ Bk ≤ ad.block)
structure FibI (B : Nat) (w0 : World) (ρ : GL.Place) (H : GHeap) (D : List Deferred) (frk : Slots) (vs : List Value) (Bk m0 c : Nat) (i : Nat) (a : Act) (w : World) : Prop where
  st : FibS B w0 ρ H Bk w
  fr : FRel 48 D ρ frk a
  ch : a.eval (.tmp 32) = .chan (some c)
  row : ∃ v, a.eval (.tmp 7) = v ∧ w.ownsRow B 2 1 v i (vs.take i) ∧ v ≠ .slice none 0 0 ∧ ∀ q, v.ownBlock = some q → q = m0 ∨ Bk ≤ q

def fibKeeps (frk : Slots) : Prop := ∀ t v, frk.get t = some v → t ≠ 7 ∧ t ≠ 9 ∧ t ≠ 33 ∧ t ≠ 34 ∧ t ≠ 35 ∧ t ≠ 36 ∧ t ≠ 37 ∧ t ≠ 38 ∧ t ≠ 39
theorem frel_put {N : Nat} {fr : Slots} {a : Act} (h : FRel N D ρ fr a) {d : Nat} {u : Value} (hd : ∀ v, fr.get d ≠ some v) : FRel N D ρ fr (a.put (some d) u) := by
  refine ⟨by simp [Act.put, h.1], h.2.1, fun t v hv => ?_⟩
  have hne : d ≠ t := fun e => hd v (e ▸ hv)
  have := h.2.2 t v hv
  unfold Act.put Act.eval at *
  simpa [Array.getD_eq_getD_getElem?, Array.getElem?_setIfInBounds_ne hne] using this
theorem eval_put_ne {a : Act} {d t : Nat} {u : Value} (h : d ≠ t) : (a.put (some d) u).eval (.tmp t) = a.eval (.tmp t) := by
  unfold Act.put Act.eval
  simp [Array.getD_eq_getD_getElem?, Array.getElem?_setIfInBounds_ne h]
theorem eval_put_eq {a : Act} {d : Nat} {u : Value} (h : d < a.tmps.size) : (a.put (some d) u).eval (.tmp d) = u := by
  unfold Act.put Act.eval
  simp [Array.getD_eq_getD_getElem?, h]

theorem aside_grown {w w' : World} (h : Aside c w w') : w.grownBy w' (some c) := ⟨h.os, h.tape, h.output, by rw [h.size]; exact Nat.le_refl _, fun k _ hk => h.block k (fun e => hk (by rw [e]))⟩
variable (hap : ∀ g x s, H.get g = some x → ρ g = some s → s.blk ≠ m0 ∧ s.blk < Bk ∧ s.blk ≠ c) (hB : B ≤ m0) (hm0 : m0 < Bk) (hc1 : c < Bk) (hc2 : c ≠ m0) (hc3 : B ≤ c)
include hap hc3 in
theorem FibS.aside {w w' : World} (h : FibS B w0 ρ H Bk w) (ha : Aside c w w') : FibS B w0 ρ H Bk w' := ⟨h.1.aside hc3 (fun g x s hg hs => (hap g x s hg hs).2.2) ha, by rw [ha.size]; exact h.2⟩
include hap hc3 hc1 hc2 in
theorem FibI.aside {i : Nat} {a : Act} {w w' : World} (h : FibI B w0 ρ H D frk vs Bk m0 c i a w) (ha : Aside c w w') : FibI B w0 ρ H D frk vs Bk m0 c i a w' := by
  obtain ⟨v, e1, e2, e3, e4⟩ := h.row
  refine ⟨h.st.aside hap hc3 ha, h.fr, h.ch, v, e1, e2.kept (aside_grown ha) ?_, e3, e4⟩
  cases hv : v.ownBlock with
  | none => exact .inl rfl
  | some q =>
    refine .inr fun e => ?_
    cases e
    rcases e4 c hv with h | h <;> omega
include hap in
theorem FibS.grown {w w' : World} {row : Option Nat} (h : FibS B w0 ρ H Bk w) (hg : w.grownBy w' row) (hBB : B ≤ w.heap.size) (hr : ∀ q, row = some q → (q = m0 ∨ Bk ≤ q) ∧ B ≤ q) : FibS B w0 ρ H Bk w' := by
  have hb : Below B w0 w' := h.1.below.trans ⟨hg.os, hg.tape, hg.output, hg.size, fun k hk => hg.block k (by omega) fun e => by have := (hr k e.symm).2; omega⟩
  refine ⟨h.1.same hb hg.size fun g x s hg' hs => ?_, Nat.le_trans h.2 hg.size⟩
  obtain ⟨t, h1, h2⟩ := (h.1.live g x hg').spot
  rw [hs] at h1; cases h1
  refine hg.block _ h2 fun e => ?_
  obtain ⟨k1, k2, _⟩ := hap g x s hg' hs
  rcases (hr _ e.symm).1 with h | h <;> omega

theorem ty_run : Try.prog.underlying 22 = some (.slice 2) ∧ ∃ i, Try.prog.info? 2 = some i ∧ i.size = 1 ∧ i.bytes = 8 ∧ i.zero = some (.int .i64 0) := by
  obtain ⟨h1, i, h2, h3⟩ := sliceT_run (P := Try.prog) (t := 22) (e := 2) (n := 1) (by kernel_rfl)
  have h4 : (Try.prog.info? 2).map (·.bytes) = some 8 := by kernel_rfl
  have h5 : (Try.prog.info? 2).bind (·.zero) = some (.int .i64 0) := by kernel_rfl
  rw [h2] at h4 h5
  exact ⟨h1, i, h2, h3, by simpa using h4, by simpa using h5⟩

theorem lit_run {o : Oper} {a : Act} {v : Value} {x : Operand} (ho : o.op = .buildSlice 22 1 #[(0, x)]) (hx : a.eval x = v) (h1 : ∃ n, v = .int .i64 n) (w : World) :
    (execOp a.eval o).run Try.prog w = .ok (.value (.slice (some ⟨w.heap.size, 0, none⟩) 1 1)) (w.alloc (.cells #[v] 2)) ∧ (execOp a.eval o).events Try.prog w #[] = #[] := by
  obtain ⟨hu, i, hi, hs, hb, hz⟩ := ty_run
  obtain ⟨n, rfl⟩ := h1
  have e : execOp a.eval o = (do pure (Next.value (← Instr.buildSlice 22 1 #[(0, .int .i64 n)])) : Sem Next) := by
    unfold execOp
    rw [ho]
    show (do pure (Next.value (← Instr.buildSlice 22 1 ((#[(0, x)] : Array (Nat × Operand)).map fun (i, x) => (i, a.eval x)))) : Sem Next) = _
    rw [show ((#[(0, x)] : Array (Nat × Operand)).map fun (i, x) => (i, a.eval x)) = #[(0, .int .i64 n)] by simp [hx]]
  rw [e]
  constructor
  · refine v_run' ?_
    simp [Instr.buildSlice, run_underlying hu, sizeOf, typeInfo, zeroValue, hi, hs, hz, Instr.fill, newRow, Value.cells, show Array.range 1 = #[0] from rfl]
  · rw [eventsV]
    simp [Instr.buildSlice, run_underlying hu, sizeOf, typeInfo, zeroValue, hi, hs, hz, Instr.fill, newRow, Value.cells]

theorem append_block {P : Program} {w w' : World} {t ty e : TypeId} {i : TypeInfo} {z : Value} (ht : P.underlying t = some (.slice e)) (hi : P.info? e = some i) (hz : i.zero = some z) {g n cap : Nat} {xs : List Value} {base : Nat} (hown : w.ownsRow base e i.size (.slice (some ⟨g, 0, none⟩) n cap) n xs)
    {a : Addr} {m c : Nat} {news : List Value} (hl : news.length = m * i.size) (hnews : ∀ j u, news[j]? = some u → w.cell? (a.add j) = some u) (h63 : n + m ≤ maxLen) (hbytes : (n + m) * i.bytes ≤ 140737488355328) {v' : Value}
    (hrun : (Builtin.append_ #[t, t] ty #[.slice (some ⟨g, 0, none⟩) n cap, .slice (some a) m c]).run P w = .ok v' w') : v'.ownBlock = some g ∨ v'.ownBlock = some w.heap.size := by
  have hsmall : n + m ≤ 9223372036854775807 := by simp only [maxLen] at h63; omega
  by_cases hroom : n + m ≤ cap
  · left
    have hf := run_firstCells_some (P := P) w i.size m a m c news hl hnews
    simp [Builtin.append_, run_underlying ht, sizeOf, typeInfo, hi, Builtin.lenOf, hroom, hf, Addr.add_lit] at hrun
    revert hrun
    cases (storeCells _ news).run P w with
    | ok u w2 => intro h; simp at h; rw [← h.1]; rfl
    | halt x w2 => intro h; simp at h
  · right
    have holds : ∀ j u, xs[j]? = some u → w.cell? ((⟨g, 0, none⟩ : Addr).add j) = some u := hown.cells (g := g) rfl
    have hn : ¬ (n + m ≤ cap) := hroom
    have h63' : ¬ (9223372036854775807 < ((n : Int) + (m : Int))) := by omega
    have h48' : ¬ (281474976710656 < Builtin.nextslicecap (n + m) cap * i.bytes) := by have := growslice_fits (need := n + m) (old := cap) (bytes := i.bytes) (by omega) hbytes; omega
    have hf := run_firstCells_some (P := P) w.drew i.size m a m c news hl (by simpa using hnews)
    have hfo := run_firstCells_some (P := P) w.drew i.size n ⟨g, 0, none⟩ n cap xs hown.1 (by simpa using holds)
    simp [Builtin.append_, run_underlying ht, sizeOf, typeInfo, zeroValue, hi, hz, Builtin.lenOf, hn, h63', h48', Question.forced, hf, hfo, newRow] at hrun
    rw [← hrun.1]
    rfl

theorem uponK_lit {o : Oper} {a : Act} {v : Value} {x : Operand} {K : Act → World → Prop} (ho : o.op = .buildSlice 22 1 #[(0, x)]) (hx : a.eval x = v) (h1 : ∃ n, v = .int .i64 n) {w : World} (h : K (a.put o.dst (.slice (some ⟨w.heap.size, 0, none⟩) 1 1)) (w.alloc (.cells #[v] 2))) : uponK o a K ((execOp a.eval o).run Try.prog w) := by
  rw [(lit_run ho hx h1 w).1]
  exact h

include hap hB hm0 hc1 hc2 hc3 in
set_option maxRecDepth 100000 in
theorem fib_body (h1c : ∀ v ∈ vs, ∃ n, v = .int .i64 n) (hlen : vs.length ≤ 1048576) (hk : fibKeeps frk) {i : Nat} {v : Value} (hv : vs[i]? = some v) {a : Act} {w : World} (hI : FibI B w0 ρ H D frk vs Bk m0 c i a w) (hx : a.eval (.tmp 33) = .tuple #[v, .bool true]) {fnn : FuncId} :
    fibBody.wpC Try.prog true (Aside c) (Dm c (FibS B w0 ρ H Bk) (FibMine m0 Bk) false) fnn 14 (fun e a' w' => e = .normal ∧ FibI B w0 ρ H D frk vs Bk m0 c (i + 1) a' w') a w := by
  have T := dm_terms (c := c) (S := FibS B w0 ρ H Bk) (Mine := FibMine m0 Bk) (fresh := false)
  have hsz : a.tmps.size = 48 := hI.fr.1
  have nk : ∀ t, (t = 7 ∨ t = 9 ∨ t = 35 ∨ t = 36 ∨ t = 37 ∨ t = 38 ∨ t = 39) → ∀ v, frk.get t ≠ some v := fun t ht v hv => by
    have := hk t v hv
    omega
  refine wpC_block T (wpC_seq T (n₁ := 4) (n₂ := 7) (wpC_region T ?_))
  have hI0 := hI
  obtain ⟨L, e1, e2, e3, e4⟩ := hI.row
  have f0 := hI.fr
  have c0 := hI.ch
  generalize ha0 : a = a0 at *
  have f1 := frel_put (d := 35) (u := v) f0 (nk 35 (by simp))
  have s1 : (a0.put (some 35) v).tmps.size = 48 := f1.1
  have x35 : (a0.put (some 35) v).eval (.tmp 35) = v := eval_put_eq (by omega)
  have k1_7 : (a0.put (some 35) v).eval (.tmp 7) = a0.eval (.tmp 7) := eval_put_ne (by decide)
  have k1_32 : (a0.put (some 35) v).eval (.tmp 32) = a0.eval (.tmp 32) := eval_put_ne (by decide)
  refine opsC_v T (v := v) rfl rfl (run_ex rfl hx) fun w1 h1 => ?_
  show OpsC _ _ _ _ _ _ _ _ _ (a0.put (some 35) v) _
  rw [e1] at k1_7
  rw [c0] at k1_32
  generalize a0.put (some 35) v = a1 at *
  have f2 := frel_put (d := 9) (u := v) f1 (nk 9 (by simp))
  have s2 : (a1.put (some 9) v).tmps.size = 48 := f2.1
  have x9 : (a1.put (some 9) v).eval (.tmp 9) = v := eval_put_eq (by omega)
  have k2_7 : (a1.put (some 9) v).eval (.tmp 7) = a1.eval (.tmp 7) := eval_put_ne (by decide)
  have k2_32 : (a1.put (some 9) v).eval (.tmp 32) = a1.eval (.tmp 32) := eval_put_ne (by decide)
  refine opsC_v T (v := v) rfl rfl (fun w => by rw [← x35]; exact run_mv (.inr rfl) w) fun w2 h2 => ?_
  show OpsC _ _ _ _ _ _ _ _ _ (a1.put (some 9) v) _
  rw [k1_7] at k2_7
  rw [k1_32] at k2_32
  generalize a1.put (some 9) v = a2 at *
  refine opsC_nil T ?_
  refine wpC_region T ?_
  have f3 := frel_put (d := 36) (u := L) f2 (nk 36 (by simp))
  have s3 : (a2.put (some 36) L).tmps.size = 48 := f3.1
  have x36 : (a2.put (some 36) L).eval (.tmp 36) = L := eval_put_eq (by omega)
  have k3_9 : (a2.put (some 36) L).eval (.tmp 9) = a2.eval (.tmp 9) := eval_put_ne (by decide)
  have k3_32 : (a2.put (some 36) L).eval (.tmp 32) = a2.eval (.tmp 32) := eval_put_ne (by decide)
  refine opsC_v T (v := L) rfl rfl (fun w => by rw [← k2_7]; exact run_mv (.inl rfl) w) fun w3 h3 => ?_
  show OpsC _ _ _ _ _ _ _ _ _ (a2.put (some 36) L) _
  rw [x9] at k3_9
  rw [k2_32] at k3_32
  generalize a2.put (some 36) L = a3 at *
  have f4 := frel_put (d := 37) (u := v) f3 (nk 37 (by simp))
  have s4 : (a3.put (some 37) v).tmps.size = 48 := f4.1
  have x37 : (a3.put (some 37) v).eval (.tmp 37) = v := eval_put_eq (by omega)
  have k4_36 : (a3.put (some 37) v).eval (.tmp 36) = a3.eval (.tmp 36) := eval_put_ne (by decide)
  have k4_32 : (a3.put (some 37) v).eval (.tmp 32) = a3.eval (.tmp 32) := eval_put_ne (by decide)
  refine opsC_v T (v := v) rfl rfl (fun w => by rw [← k3_9]; exact run_mv (.inl rfl) w) fun w4 h4 => ?_
  show OpsC _ _ _ _ _ _ _ _ _ (a3.put (some 37) v) _
  rw [x36] at k4_36
  rw [k3_32] at k4_32
  generalize a3.put (some 37) v = a4 at *
  have hI4 := FibI.aside (frk := frk) (vs := vs) (i := i) (a := a) hap hc1 hc2 hc3 (ha0 ▸ hI0) (h1.trans (h2.trans (h3.trans h4)))
  have hw0 : ∀ (ops : Array Oper) (o : Oper), o.guard = none → Region.wanted o (yielded ops a4.tmps) = true := fun ops o hg => by simp [Region.wanted, hg]
  have hv1 := h1c v (List.mem_of_getElem? hv)
  refine opsC_cons rfl (hw0 _ _ rfl) fun w5 h5 => ?_
  refine uponK_lit rfl x37 hv1 ⟨?_, ?_⟩
  · rw [listed_nil (lit_run (by rfl) x37 hv1 w5).2]
    have hI5 := FibI.aside (frk := frk) (vs := vs) (i := i) (a := a) hap hc1 hc2 hc3 hI4 h5
    refine ⟨fun hS => ⟨hS.1.grow _, by simpa using Nat.le_trans hS.2 (Nat.le_succ _)⟩, heap_alloc_old w5 _ (by have := hI5.st.2; omega), fun e he => by simp at he, fun h => by cases h⟩
  have hI5 := FibI.aside (frk := frk) (vs := vs) (i := i) (a := a) hap hc1 hc2 hc3 hI4 h5
  have hI5 := FibI.aside (frk := frk) (vs := vs) (i := i) (a := a) hap hc1 hc2 hc3 hI4 h5
  have f5 := frel_put (d := 38) (u := .slice (some ⟨w5.heap.size, 0, none⟩) 1 1) f4 (nk 38 (by simp))
  have s5 := f5.1
  have x38 : (a4.put (some 38) (.slice (some ⟨w5.heap.size, 0, none⟩) 1 1)).eval (.tmp 38) = .slice (some ⟨w5.heap.size, 0, none⟩) 1 1 := eval_put_eq (by omega)
  have k5_36 : (a4.put (some 38) (.slice (some ⟨w5.heap.size, 0, none⟩) 1 1)).eval (.tmp 36) = a4.eval (.tmp 36) := eval_put_ne (by decide)
  have k5_32 : (a4.put (some 38) (.slice (some ⟨w5.heap.size, 0, none⟩) 1 1)).eval (.tmp 32) = a4.eval (.tmp 32) := eval_put_ne (by decide)
  rw [k4_36] at k5_36
  rw [k4_32] at k5_32
  show OpsC _ _ _ _ _ _ _ _ _ (a4.put (some 38) (.slice (some ⟨w5.heap.size, 0, none⟩) 1 1)) _
  generalize a4.put (some 38) (.slice (some ⟨w5.heap.size, 0, none⟩) 1 1) = a5 at *
  obtain ⟨L', g1, g2, g3, g4⟩ := hI5.row
  obtain rfl : L' = L := by rw [← g1, ha0, e1]
  have hq : Bk ≤ w5.heap.size := hI5.st.2
  refine opsC_cons rfl (by simp [Region.wanted]) fun w7 h7 => ?_
  have hown : L'.ownBlock = none ∨ L'.ownBlock ≠ some c := by
    cases hv : L'.ownBlock with
    | none => exact .inl rfl
    | some q =>
      refine .inr fun e => ?_
      cases e
      rcases g4 c hv with h | h <;> omega
  have r7 := (g2.alloc (.cells #[v] 2)).kept (aside_grown h7) hown
  have q7 : w7.heap[w5.heap.size]? = some (.cells #[v] 2 (0, 0)) := by rw [h7.block _ (by omega)]; exact heap_alloc_new w5 _
  have S6 : FibS B w0 ρ H Bk (w5.alloc (.cells #[v] 2)) := ⟨hI5.st.1.grow _, by simpa using Nat.le_trans hI5.st.2 (Nat.le_succ _)⟩
  have S7 := S6.aside hap hc3 h7
  obtain ⟨hu, inf, hi, hs1, hb1, hz1⟩ := ty_run
  obtain ⟨nn, rfl⟩ := hv1
  have hcell : ∀ j u, [Value.int .i64 nn][j]? = some u → w7.cell? ((⟨w5.heap.size, 0, none⟩ : Addr).add j) = some u := fun j u hj => by
    cases j with
    | zero =>
      cases hj
      simp [Addr.add, World.cell?, q7]
    | succ j => simp at hj
  have hil : i < vs.length := (List.getElem?_eq_some_iff.1 hv).1
  have hbase : B ≤ w7.heap.size := S7.1.base
  have hlt : (vs.take i ++ [Value.int .i64 nn]) = vs.take (i + 1) := by
    rw [List.take_add_one, hv]
    rfl
  have ap := run_append_own (P := Try.prog) w7 B 22 0 2 inf (.int .i64 0) 1 8 hu hi hz1 hs1 hb1 rfl (by omega) L' i (vs.take i) r7 ⟨w5.heap.size, 0, none⟩ 1 1 [.int .i64 nn] rfl hcell (by simp [Value.oneCell']) (by unfold maxLen; omega) (by omega) hbase
  obtain ⟨v', w8, hrun, hown', hgr, hnil⟩ := ap
  rw [hlt] at hown'
  have hrow : ∀ q, L'.ownBlock = some q → (q = m0 ∨ Bk ≤ q) ∧ B ≤ q := fun q hq' => ⟨g4 q hq', (r7.lt q hq').1⟩
  have hc8 : w8.heap[c]? = w7.heap[c]? := hgr.block c (by have := S7.2; omega) fun e => by
    rcases hown with h | h
    · rw [h] at e; cases e
    · exact h e.symm
  have hev := events_append_where (P := Try.prog) w7 B 22 0 2 inf (.int .i64 0) 1 8 hu hi hz1 hs1 hb1 L' i (vs.take i) r7 ⟨w5.heap.size, 0, none⟩ 1 1 [.int .i64 nn] rfl hcell (by simp [Value.oneCell']) (by unfold maxLen; omega) (by omega)
  have hvb : ∀ q, v'.ownBlock = some q → q = m0 ∨ Bk ≤ q := fun q hq' => by
    rcases r7.2 with ⟨rfl, _⟩ | ⟨g, cap, cur, rfl, hbg, hg, _⟩
    · exact absurd rfl g3
    · rcases append_block hu hi hz1 (by rw [hs1]; exact r7) (m := 1) (news := [.int .i64 nn]) (by rw [hs1]; rfl) hcell (by unfold maxLen; omega) (by rw [hb1]; omega) hrun with h | h
      · rw [hq'] at h; cases h; exact g4 _ rfl
      · rw [hq'] at h; cases h; right; have := S7.2; omega
  refine uponK_append (.tmp 36) (.tmp 38) 22 rfl k5_36 x38 hrun ⟨⟨fun hS => hS.grown hap hgr hbase hrow, hc8, fun e he => ?_, fun h => by cases h⟩, ?_⟩
  · have he2 := mem_listed he
    rw [events_append_op (.tmp 36) (.tmp 38) 22 (by rfl) k5_36 x38] at he2
    rcases hev e he2 with ⟨ad, h1, h2⟩ | ⟨mk, h1, h2⟩
    · refine ⟨⟨by rw [h1]; simp, by rw [h1]; simp⟩, fun b hb => ?_⟩
      rw [(ofEvent_touch (fun m hm => by rw [h1] at hm; cases hm) hb).1, h1]
      refine ⟨ad, rfl, ?_⟩
      rcases h2 with ⟨_, h3⟩ | h3
      · right; rw [h3]; exact hq
      · exact g4 _ h3.symm
    · subst h1
      exact ⟨⟨fun hm => h2.ne_disable (Loc.mark.inj hm), fun hm => h2.ne_enable (Loc.mark.inj hm)⟩, fun b hb => by
        have : (MemAct.ofEvent ⟨.mark mk, false, true⟩).touch? = none := h2.touch
        rw [this] at hb; cases hb⟩
  have hd39 : ∀ u, (a5.put (some 39) u).eval (.tmp 32) = a5.eval (.tmp 32) := fun u => eval_put_ne (by decide)
  have f6 := frel_put (d := 39) (u := v') f5 (nk 39 (by simp))
  have s6 := f6.1
  have x39 : (a5.put (some 39) v').eval (.tmp 39) = v' := eval_put_eq (by omega)
  show OpsC _ _ _ _ _ _ _ _ _ (a5.put (some 39) v') _
  have k6_32 := hd39 v'
  rw [k5_32] at k6_32
  generalize a5.put (some 39) v' = a6 at *
  have f7 := frel_put (d := 7) (u := v') f6 (nk 7 (by simp))
  have x7 : (a6.put (some 7) v').eval (.tmp 7) = v' := eval_put_eq (by omega)
  have k7_32 : (a6.put (some 7) v').eval (.tmp 32) = a6.eval (.tmp 32) := eval_put_ne (by decide)
  rw [k6_32] at k7_32
  refine opsC_v T (v := v') rfl rfl (fun w => by rw [← x39]; exact run_mv (.inr rfl) w) fun w9 h9 => ?_
  show OpsC _ _ _ _ _ _ _ _ _ (a6.put (some 7) v') _
  generalize a6.put (some 7) v' = a7 at *
  refine opsC_nil T ?_
  have S8 : FibS B w0 ρ H Bk w8 := S7.grown hap hgr hbase hrow
  have I8 : FibI B w0 ρ H D frk vs Bk m0 c (i + 1) a7 w8 := ⟨S8, f7, k7_32, v', x7, hown', fun e => g3 (hnil.1 e).1, hvb⟩
  exact ⟨rfl, I8.aside hap hc1 hc2 hc3 h9⟩
end
end Go.Proofs.Ytddjdkpjfpnjiaa
namespace Go.Proofs.Ytddjdkpjfpnjiaa
open Go Go.GL Go.RowKit Go.Proofs Go.Conc
variable [MainFlag]
theorem foT_Oc : fieldOff Try.prog 46 1 = some 5 := by kernel_rfl
theorem foI_Oc : fieldOff Try.prog 31 3 = some 3 := by kernel_rfl
theorem int_of_remV {xs : List Int} {t : Int} : ∀ {m k : Nat}, ∀ v ∈ remV xs t k m, ∃ n, v = .int .i64 n
  | 0, _, v, h => by simp [remV] at h
  | m + 1, k, v, h => by
    unfold remV at h
    split at h
    · rcases List.mem_cons.1 h with rfl | h
      · exact ⟨_, rfl⟩
      · exact int_of_remV v h
    · exact int_of_remV v h
theorem len_remV {xs : List Int} {t : Int} : ∀ {m k : Nat}, (remV xs t k m).length ≤ m
  | 0, _ => by simp [remV]
  | m + 1, k => by
    unfold remV
    split
    · have := len_remV (xs := xs) (t := t) (m := m) (k := k + 1); simp; omega
    · have := len_remV (xs := xs) (t := t) (m := m) (k := k + 1); omega

theorem lit0_run {o : Oper} {a : Act} (ho : o.op = .buildSlice 22 0 #[]) (w : World) : (execOp a.eval o).run Try.prog w = .ok (.value (.slice (some ⟨w.heap.size, 0, none⟩) 0 0)) (w.alloc (.cells #[] 2)) := by
  obtain ⟨hu, i, hi, hs, hb, hz⟩ := ty_run
  unfold execOp
  rw [ho]
  refine v_run' ?_
  simp [Instr.buildSlice, run_underlying hu, sizeOf, typeInfo, zeroValue, hi, hs, hz, Instr.fill, newRow, show Array.range 0 = #[] from rfl]
theorem chan_run {o : Oper} {a : Act} {k : IntKind} {t : TypeId} {n : Nat} (ho : o.op = .makeChan t (.const (.int k 0))) (ht : chanT Try.prog t = some n) (w : World) : (execOp a.eval o).run Try.prog w = .ok (.value (.chan (some w.heap.size))) (w.alloc (.chan 0 #[] false 0 0 false)) := by
  obtain ⟨dir, e, i, h1, h2, h3⟩ := chanT_run ht
  unfold execOp
  rw [ho]
  exact v_run' (run_makeChan (P := Try.prog) (w := w) h1 h2 k 0 (by omega) (by omega))

set_option maxRecDepth 100000 in
theorem fibre_mid {fr : Slots} {H : GHeap} {Q : Exit → Slots → GHeap → Prop} {g2 g4 : Nat} {y : Int} {f : Fun} {p : FunP} (hm : MainFlag.main = true) (h1 : fr.get 1 = some (.int .i64 y)) (h2 : fr.get 2 = some (.pointer (some ⟨g2, 0, none⟩))) (h4 : fr.get 4 = some (.pointer (some ⟨g4, 0, none⟩)))
    (hf : Fun.At H g2 0 f p) (hl : f.ar.length ≤ 1048576) (hy0 : 0 ≤ y) (hy1 : y < f.t.idn.length)
    (hrest : ∀ (H' : GHeap) (gL : Nat), H.Le H' → H.next ≤ gL → H'.get gL = some (.row (remV f.ar (f.t.idn.getD y.toNat 0) 0 f.ar.length) 2 true) →
      GT Try.prog 48 fibR Q [(7, some (.slice (some ⟨gL, 0, none⟩) (remV f.ar (f.t.idn.getD y.toNat 0) 0 f.ar.length).length (remV f.ar (f.t.idn.getD y.toNat 0) 0 f.ar.length).length)), (1, some (.int .i64 y)), (2, some (.pointer (some ⟨g2, 0, none⟩))), (4, some (.pointer (some ⟨g4, 0, none⟩)))] H') :
    GT Try.prog 48 fibM Q fr H := fun l D B w0 ρ a w hs hfr main K hC b k cs hb hK => by
  have hId : ∀ w d, Below B w0 w → Below B w0 (w.at d) := fun w d h => ⟨h.os, h.tape, h.output, h.size, h.block⟩
  have f0 : FRel 48 D ρ [(1, some (.int .i64 y)), (2, some (.pointer (some ⟨g2, 0, none⟩))), (4, some (.pointer (some ⟨g4, 0, none⟩)))] a := hfr.sub ⟨h1, h2, h4, trivial⟩
  have cond : ∀ d : Nat, d ≠ 1 → d ≠ 2 → d ≠ 4 → ∀ v, Slots.get [(1, some (.int .i64 y)), (2, some (.pointer (some ⟨g2, 0, none⟩))), (4, some (.pointer (some ⟨g4, 0, none⟩)))] d ≠ some v := fun d a1 a2 a3 v hv => by
    rw [get_cons, if_neg (Ne.symm a1), get_cons, if_neg (Ne.symm a2), get_cons, if_neg (Ne.symm a3)] at hv
    cases hv
  refine moveM' hC rfl (fun w => stepG_seq) (moveM' hC rfl (fun w => stepG_region) ?_)
  have s1 : Sim Try.prog B w0 ρ H (w.alloc (.cells #[] 2)) := hs.grow _
  refine opM_v hC (v := .slice (some ⟨w.heap.size, 0, none⟩) 0 0) (w' := w.alloc (.cells #[] 2)) s1.below hb rfl rfl (by unfold execOp; exact calm_value calm_buildSlice) (fun d => lit0_run rfl _) hId ?_
  generalize hw1 : w.alloc (.cells #[] 2) = w1 at *
  have hz1 : w1.heap.size = w.heap.size + 1 := by rw [← hw1]; simp
  have hb1 : w1.heap[w.heap.size]? = some (.cells #[] 2 (0, 0)) := by rw [← hw1]; exact heap_alloc_new w _
  have f1 := frel_put (d := 23) (u := .slice (some ⟨w.heap.size, 0, none⟩) 0 0) f0 (cond 23 (by decide) (by decide) (by decide))
  have z1 := f1.1
  have x23 : (a.put (some 23) (.slice (some ⟨w.heap.size, 0, none⟩) 0 0)).eval (.tmp 23) = .slice (some ⟨w.heap.size, 0, none⟩) 0 0 := eval_put_eq (by have := hfr.1; omega)
  show K (G (b.at (a.put (some 23) (.slice (some ⟨w.heap.size, 0, none⟩) 0 0)) _) cs) _
  generalize a.put (some 23) (.slice (some ⟨w.heap.size, 0, none⟩) 0 0) = a1 at *
  refine opM_v hC (v := .slice (some ⟨w.heap.size, 0, none⟩) 0 0) (w' := w1) s1.below hb rfl rfl (by unfold execOp; exact Calm.pure) (fun d => by rw [← x23]; exact (run_mv (.inr rfl) _).1) hId ?_
  have f2 := frel_put (d := 7) (u := .slice (some ⟨w.heap.size, 0, none⟩) 0 0) f1 (cond 7 (by decide) (by decide) (by decide))
  have x7 : (a1.put (some 7) (.slice (some ⟨w.heap.size, 0, none⟩) 0 0)).eval (.tmp 7) = .slice (some ⟨w.heap.size, 0, none⟩) 0 0 := eval_put_eq (by omega)
  show K (G (b.at (a1.put (some 7) (.slice (some ⟨w.heap.size, 0, none⟩) 0 0)) _) cs) _
  generalize a1.put (some 7) (.slice (some ⟨w.heap.size, 0, none⟩) 0 0) = a2 at *
  refine region_endM hC ?_
  refine moveM' hC rfl (fun w => stepG_seq) (moveM' hC rfl (fun w => stepG_region) ?_)
  obtain ⟨s2, hext⟩ := s1.allocO (R := fun _ _ x => x = .chan 0 #[] false 0 0 false) (m := fun _ _ _ _ _ h => h) (b := fun _ _ _ _ _ _ h _ => h) (x := .chan 0 #[] false 0 0 false) rfl
  refine opM_v hC (v := .chan (some w1.heap.size)) (w' := w1.alloc (.chan 0 #[] false 0 0 false)) s2.below hb rfl rfl (by unfold execOp; exact calm_value calm_makeChan) (fun d => chan_run (n := 8) rfl (by kernel_rfl) _) hId ?_
  generalize hcdef : w1.heap.size = c at *
  generalize hw2 : w1.alloc (.chan 0 #[] false 0 0 false) = w2 at *
  have hz2 : w2.heap.size = c + 1 := by rw [← hw2, ← hcdef]; simp
  have hb2 : w2.heap[w.heap.size]? = some (.cells #[] 2 (0, 0)) := by rw [← hw2, heap_alloc_old w1 _ (by omega)]; exact hb1
  have hc2 : w2.heap[c]? = some (.chan 0 #[] false 0 0 false) := by rw [← hw2, ← hcdef]; exact heap_alloc_new w1 _
  generalize hρ : GL.place ρ H.next ⟨c, 0, 0, 0⟩ = ρ1 at *
  have hgc : ρ1 H.next = some ⟨c, 0, 0, 0⟩ := by rw [← hρ]; exact place_self
  have f3 := frel_put (d := 24) (u := .chan (some c)) (f2.mono hext) (cond 24 (by decide) (by decide) (by decide))
  have z3 := f3.1
  have x24 : (a2.put (some 24) (.chan (some c))).eval (.tmp 24) = .chan (some c) := eval_put_eq (by have := f2.1; omega)
  have y3 : (a2.put (some 24) (.chan (some c))).eval (.tmp 7) = a2.eval (.tmp 7) := eval_put_ne (by decide)
  rw [x7] at y3
  show K (G (b.at (a2.put (some 24) (.chan (some c))) _) cs) _
  generalize a2.put (some 24) (.chan (some c)) = a3 at *
  refine opM_v hC (v := .chan (some c)) (w' := w2) s2.below hb rfl rfl (by unfold execOp; exact Calm.pure) (fun d => by rw [← x24]; exact (run_mv (.inr rfl) _).1) hId ?_
  have f4 := frel_put (d := 8) (u := .chan (some c)) f3 (cond 8 (by decide) (by decide) (by decide))
  have x8 : (a3.put (some 8) (.chan (some c))).eval (.tmp 8) = .chan (some c) := eval_put_eq (by omega)
  have y4 : (a3.put (some 8) (.chan (some c))).eval (.tmp 7) = a3.eval (.tmp 7) := eval_put_ne (by decide)
  rw [y3] at y4
  show K (G (b.at (a3.put (some 8) (.chan (some c))) _) cs) _
  generalize a3.put (some 8) (.chan (some c)) = a4 at *
  refine region_endM hC ?_
  have sc := s2.fewer (H' := (H.push (.oth (fun _ _ x => x = .chan 0 #[] false 0 0 false) (fun _ _ _ _ _ h => h) (fun _ _ _ _ _ _ h _ => h))).set H.next none) (by simp) (fun k y hk => by
    by_cases ek : k = H.next
    · subst ek; rw [GHeap.get_set_eq (by simp)] at hk; cases hk
    · rw [GHeap.get_set_ne (Ne.symm ek)] at hk; exact hk)
  generalize hHc : (H.push (.oth (fun _ _ x => x = .chan 0 #[] false 0 0 false) (fun _ _ _ _ _ h => h) (fun _ _ _ _ _ _ h _ => h))).set H.next none = Hc at *
  have hle : H.Le Hc := by
    rw [← hHc]
    refine ⟨by simp, fun g o hg => ?_⟩
    have := GHeap.ltg hg
    rw [GHeap.get_set_ne (by omega)]
    exact GHeap.get_push_of hg
  have hnx : Hc.next = H.next + 1 := by rw [← hHc]; simp
  have hback : ∀ g x, Hc.get g = some x → H.get g = some x := fun g x hg => by
    rw [← hHc] at hg
    by_cases ek : g = H.next
    · subst ek; rw [GHeap.get_set_eq (by simp)] at hg; cases hg
    · rw [GHeap.get_set_ne (Ne.symm ek)] at hg
      have := GHeap.ltg hg
      simp at this
      rwa [GHeap.get_push_lt (by omega)] at hg
  have hfc := hf.mono hle
  obtain ⟨_, ft, _, _, _, _⟩ := hfc.get
  obtain ⟨_, _, _, ci, _, _, _, ii, _⟩ := ft.get
  have hcell : ∃ gi oi, p.t.a3 = some ⟨gi, oi, none⟩ ∧ Hc.cell gi (oi + y.toNat) = some (.int .i64 (f.t.idn.getD y.toNat 0)) := by
    rcases ii with h0 | ⟨g, off, e, h⟩
    · omega
    · exact ⟨g, off, e, h y.toNat (by omega)⟩
  obtain ⟨gi, oi, ei, hcell⟩ := hcell
  rw [ei] at ci
  have f0_ : FRel 48 D ρ1 ((8, some (.chan (some H.next))) :: [(1, some (.int .i64 y)), (2, some (.pointer (some ⟨g2, 0, none⟩))), (4, some (.pointer (some ⟨g4, 0, none⟩)))]) a4 := ⟨f4.1, f4.2.1, fun t v hv => by
    rw [get_cons] at hv
    split at hv
    · rename_i e; subst e; cases hv; rw [x8]; exact .chan (s := ⟨c, 0, 0, 0⟩) hgc
    · exact f4.2.2 t v hv⟩
  have y0_ := y4
  have hI : ∀ d, Below B w0 (w2.at d) := fun d => hId _ d sc.below
  refine moveM' hC rfl (fun w => stepG_seq) (moveM' hC rfl (fun w => stepG_region) ?_)
  show K (G (b.at a4 (.inRegion _ [0, 1, 2, 3, 4, 5, 6, 7] :: _)) cs) _
  refine opM_q hC hI sc hb f0_ rfl rfl rfl (.fieldAddr foT_Oc rfl) fun v1 r1 f1_ => ?_
  have y1_ : (a4.put (some 25) v1).eval (.tmp 7) = a4.eval (.tmp 7) := eval_put_ne (by decide)
  rw [y0_] at y1_
  change FRel _ _ _ _ (a4.put (some 25) v1) at f1_
  show K (G (b.at (a4.put (some 25) v1) _) cs) _
  generalize a4.put (some 25) v1 = b1 at *
  refine opM_q hC hI sc hb f1_ rfl rfl rfl (.fieldAddr foI_Oc rfl) fun v2 r2 f2_ => ?_
  have y2_ : (b1.put (some 26) v2).eval (.tmp 7) = b1.eval (.tmp 7) := eval_put_ne (by decide)
  rw [y1_] at y2_
  change FRel _ _ _ _ (b1.put (some 26) v2) at f2_
  show K (G (b.at (b1.put (some 26) v2) _) cs) _
  generalize b1.put (some 26) v2 = b2 at *
  refine opM_q hC hI sc hb f2_ rfl rfl rfl (.lA on22_Oa rfl) fun v3 r3 f3_ => ?_
  have y3_ : (b2.put (some 27) v3).eval (.tmp 7) = b2.eval (.tmp 7) := eval_put_ne (by decide)
  rw [y2_] at y3_
  change FRel _ _ _ _ (b2.put (some 27) v3) at f3_
  show K (G (b.at (b2.put (some 27) v3) _) cs) _
  generalize b2.put (some 27) v3 = b3 at *
  refine opM_q hC hI sc hb f3_ rfl rfl rfl (.move rfl) fun v4 r4 f4_ => ?_
  have y4_ : (b3.put (some 28) v4).eval (.tmp 7) = b3.eval (.tmp 7) := eval_put_ne (by decide)
  rw [y3_] at y4_
  change FRel _ _ _ _ (b3.put (some 28) v4) at f4_
  show K (G (b.at (b3.put (some 28) v4) _) cs) _
  generalize b3.put (some 28) v4 = b4 at *
  refine opM_q hC hI sc hb f4_ rfl rfl rfl (.indexAddr sl_Oa rfl rfl hy0 hy1) fun v5 r5 f5_ => ?_
  have y5_ : (b4.put (some 29) v5).eval (.tmp 7) = b4.eval (.tmp 7) := eval_put_ne (by decide)
  rw [y4_] at y5_
  change FRel _ _ _ _ (b4.put (some 29) v5) at f5_
  show K (G (b.at (b4.put (some 29) v5) _) cs) _
  generalize b4.put (some 29) v5 = b5 at *
  refine opM_q hC hI sc hb f5_ rfl rfl rfl (.load on2_Oa rfl (by simpa using hcell)) fun v6 r6 f6_ => ?_
  have y6_ : (b5.put (some 30) v6).eval (.tmp 7) = b5.eval (.tmp 7) := eval_put_ne (by decide)
  rw [y5_] at y6_
  change FRel _ _ _ _ (b5.put (some 30) v6) at f6_
  show K (G (b.at (b5.put (some 30) v6) _) cs) _
  generalize b5.put (some 30) v6 = b6 at *
  refine opM_q hC hI sc hb f6_ rfl rfl rfl (.move rfl) fun v7 r7 f7_ => ?_
  have y7_ : (b6.put (some 31) v7).eval (.tmp 7) = b6.eval (.tmp 7) := eval_put_ne (by decide)
  rw [y6_] at y7_
  change FRel _ _ _ _ (b6.put (some 31) v7) at f7_
  show K (G (b.at (b6.put (some 31) v7) _) cs) _
  generalize b6.put (some 31) v7 = b7 at *
  have m0c : c = w.heap.size + 1 := by omega
  have hap : ∀ g x s, Hc.get g = some x → ρ1 g = some s → s.blk ≠ w.heap.size ∧ s.blk < c + 1 ∧ s.blk ≠ c := fun g x s hg hsp => by
    have hg0 := hback g x hg
    obtain ⟨s', e1, e2⟩ := (hs.live g x hg0).spot
    have := hext g s' e1
    rw [hsp] at this
    cases this
    omega
  have hBm : B ≤ w.heap.size := hs.base
  have hc3 : B ≤ c := by omega
  have frk : FRel 48 D ρ1 [(1, some (.int .i64 y)), (2, some (.pointer (some ⟨g2, 0, none⟩))), (4, some (.pointer (some ⟨g4, 0, none⟩)))] b7 := f7_.sub ⟨rfl, rfl, rfl, trivial⟩
  have z7 := frk.1
  have v31 := f7_.2.2 31 _ rfl
  obtain ⟨s31, e31, x31⟩ := v31.chan_inv
  rw [hgc] at e31
  cases e31
  have v8 := f7_.2.2 8 _ rfl
  obtain ⟨s8, e8, x8'⟩ := v8.chan_inv
  rw [hgc] at e8
  cases e8
  have keeps : fibKeeps [(1, some (.int .i64 y)), (2, some (.pointer (some ⟨g2, 0, none⟩))), (4, some (.pointer (some ⟨g4, 0, none⟩)))] := fun t v hv => by
    refine ⟨?_, ?_, ?_, ?_, ?_, ?_, ?_, ?_, ?_⟩ <;> (rintro rfl; exact cond _ (by decide) (by decide) (by decide) v hv)
  refine fork_range (I0 := Below w2.heap.size w2) hC hm (fibL c) hb rfl rfl rfl (fun _ => rfl) (fun _ => rfl) rfl rfl rfl rfl x8' (by show 32 < b7.tmps.size; omega) (Below.refl _ _) (fun w d h => ⟨h.os, h.tape, h.output, h.size, h.block⟩) (fun w' h => ⟨false, by rw [h.block c (by omega)]; exact hc2⟩) (fun KA hKA hex => hex _ w2 (Below.refl _ _) ?_)
  refine {
    S := FibS B w0 ρ1 Hc (c + 1)
    Mine := FibMine w.heap.size (c + 1)
    vs := remV f.ar (f.t.idn.getD y.toNat 0) 0 f.ar.length
    Inv := FibI B w0 ρ1 Hc D [(1, some (.int .i64 y)), (2, some (.pointer (some ⟨g2, 0, none⟩))), (4, some (.pointer (some ⟨g4, 0, none⟩)))] (remV f.ar (f.t.idn.getD y.toNat 0) 0 f.ar.length) (c + 1) w.heap.size c
    nb := 14
    hS := ⟨sc, by omega⟩
    hSt := fun _ _ ha h => h.aside hap hc3 ha
    sends := ?_
    start := ?_
    inv := ?_
    body := fun i a w v hv hI hx => fib_body hap hBm (by omega) (by omega) (by omega) hc3 (fun v hv => int_of_remV v hv) (Nat.le_trans len_remV hl) keeps hv hI hx
    fin := ?_ }
  · have hlr : LRel ρ1 [.pointer (some ⟨g2, 0, none⟩), .int .i64 (f.t.idn.getD y.toNat 0), .chan (some H.next)] [b7.eval (.tmp 2), b7.eval (.tmp 30), b7.eval (.tmp 31)] := .cons (f7_.2.2 2 _ rfl) (.cons (f7_.2.2 30 _ rfl) (.cons v31 (.nil ρ1)))
    refine send_born (fun w h => h.1) (fun g x s ad hg hsp had hm => ?_) (fun h => by obtain ⟨_, h, _⟩ := h; cases h) hfc hl hgc rfl hlr rfl ?_
    · obtain ⟨ad', e, h⟩ := hm
      cases e
      obtain ⟨k1, k2, k3⟩ := hap g x s hg hsp
      rw [had] at h
      omega
    · simp
  · have fs := frel_put (d := 32) (u := .chan (some c)) frk (cond 32 (by decide) (by decide) (by decide))
    have e7 : (b7.put (some 32) (.chan (some c))).eval (.tmp 7) = b7.eval (.tmp 7) := eval_put_ne (by decide)
    rw [y7_] at e7
    refine ⟨⟨sc, by omega⟩, fs, eval_put_eq (by show 32 < b7.tmps.size; omega), _, e7, ⟨by simp, .inr ⟨w.heap.size, 0, #[], rfl, hBm, hb2, Nat.le_refl _, by simp [maxLen], by simp, by simp⟩⟩, by simp, fun q hq => ?_⟩
    left
    simp [Value.ownBlock] at hq
    exact hq.symm
  · intro i a w' h
    have z := h.fr.1
    refine ⟨h.ch, by show 33 < a.tmps.size; omega, by show 34 < a.tmps.size; omega, fun w'' ha => h.aside hap (by omega) (by omega) hc3 ha, fun v t => ?_⟩
    have g1 := frel_put (d := 33) (u := .tuple #[v, .bool t]) h.fr (cond 33 (by decide) (by decide) (by decide))
    have g2' := frel_put (d := 34) (u := .bool t) g1 (cond 34 (by decide) (by decide) (by decide))
    obtain ⟨L, e1, e2⟩ := h.row
    refine ⟨h.st, g2', ?_, L, ?_, e2⟩
    · exact (eval_put_ne (d := 34) (t := 32) (by decide)).trans ((eval_put_ne (d := 33) (t := 32) (by decide)).trans h.ch)
    · exact (eval_put_ne (d := 34) (t := 7) (by decide)).trans ((eval_put_ne (d := 33) (t := 7) (by decide)).trans e1)
  · intro a w' h
    obtain ⟨v, e7, hown, hnn, hblk⟩ := h.row
    rcases hown.2 with ⟨hnil, _⟩ | ⟨q, cap, cur, hvq, hBq, hq, hncap, hcap, hcur, htake⟩
    · exact absurd hnil hnn
    rw [hvq] at e7 hblk
    rw [List.take_length] at htake
    rw [Nat.mul_one] at htake hcur
    have hqb := hblk q rfl
    obtain ⟨s9, he9⟩ := h.st.1.adopt (q := q) (n := 1) (C := cur) (e := 2) (cs := remV f.ar (f.t.idn.getD y.toNat 0) 0 f.ar.length) hq hBq (by kernel_rfl) (by omega) (fun i u hu => by
      rw [← htake] at hu
      rw [List.getElem?_take] at hu
      split at hu
      · refine ⟨u, by simpa using hu, ?_⟩
        obtain ⟨n, rfl⟩ := int_of_remV (xs := f.ar) (t := f.t.idn.getD y.toNat 0) (m := f.ar.length) (k := 0) u (by rw [← htake]; exact List.mem_of_getElem? (i := i) (by rw [List.getElem?_take]; simp_all))
        exact .int _ _
      · cases hu) (fun g x s hg hsp e => by
      obtain ⟨k1, k2, k3⟩ := hap g x s hg hsp
      omega)
    have hG := hrest (Hc.push (.row (remV f.ar (f.t.idn.getD y.toNat 0) 0 f.ar.length) 2 true)) Hc.next (hle.trans (GHeap.le_push _ _)) (by omega) (GHeap.get_push_new _ _)
    have hcl : (remV f.ar (f.t.idn.getD y.toNat 0) 0 f.ar.length).length ≤ cap := hncap
    have hfr9 : FRel 48 D (place ρ1 Hc.next ⟨q, 0, cur.size, 1⟩) [(7, some (.slice (some ⟨Hc.next, 0, none⟩) (remV f.ar (f.t.idn.getD y.toNat 0) 0 f.ar.length).length (remV f.ar (f.t.idn.getD y.toNat 0) 0 f.ar.length).length)), (1, some (.int .i64 y)), (2, some (.pointer (some ⟨g2, 0, none⟩))), (4, some (.pointer (some ⟨g4, 0, none⟩)))] a := by
      refine ⟨h.fr.1, h.fr.2.1, fun t v hv => ?_⟩
      rw [get_cons] at hv
      split at hv
      · rename_i e
        subst e
        cases hv
        rw [e7]
        have := VRel.slice (ρ := place ρ1 Hc.next ⟨q, 0, cur.size, 1⟩) (g := Hc.next) (o := 0) (n := (remV f.ar (f.t.idn.getD y.toNat 0) 0 f.ar.length).length) (cap := cap) (s := ⟨q, 0, cur.size, 1⟩) place_self hcl (by simp only; omega) hcap
        simpa using this
      · exact (h.fr.mono he9).2.2 t v hv
    exact hG l D B w0 _ a w' s9 hfr9 main K hC b k cs hb fun e a' w'' ⟨ρ'', fr', H'', hq', he', r⟩ => hK e a' w'' ⟨ρ'', fr', H'', hq', (hext.trans he9).trans he', r⟩
end Go.Proofs.Ytddjdkpjfpnjiaa
namespace Go.Proofs.Ytddjdkpjfpnjiaa
open Go Go.GL Go.RowKit Go.Proofs
variable [MainFlag]
end Go.Proofs.Ytddjdkpjfpnjiaa
namespace Go.Proofs.Ytddjdkpjfpnjiaa
open Go Go.GL Go.RowKit Go.Proofs
variable [MainFlag]
theorem l06Is_c {f : Fun} {p : FunP} {H : GHeap} (hin : f.In H p := by assumption) (hsm : f.Small := by assumption) : GCalls Try.prog 38 [.agg (f.cells p).toArray] H (Ret (.bool (B f.Is)) H) := by
  refine GCalls.ret rfl ?_
  obtain ⟨m1, m2, _, _⟩ := hsm
  have g2 := m1
  have g0 := m2
  obtain ⟨-, _, _, -, -, -⟩ := g2
  obtain ⟨_, -, -, -, -, -⟩ := g0
  refine GCalls.body (N := 181) (rs := [.tmp 2]) Try.func38 rfl rfl rfl rfl (fun Qx h hend => ?_)
  refine .fg [0] rfl ?_
  refine .seq (fun K1 f4 => .region (.d rfl rfl rfl (.box rfl sz_46_E rfl CIs.mk) ?_))
  show GRun _ _ _ _ _ _ (H.push (.row (f.cells p) 46 true))
  have l := GHeap.le_push H (.row (f.cells p) 46 true)
  have hb : Fun.At (H.push (.row (f.cells p) 46 true)) H.next 0 f p := ⟨Mem.new _ _ _ _, hin.mono l⟩
  generalize H.push (.row (f.cells p) 46 true) = H1 at *
  generalize H.next = g at *
  obtain ⟨fs, ft, -, -, -, -⟩ := hb.get
  have _ : MemN _ _ _ _ _ := ⟨rfl, fs.1⟩
  have _ : MemN _ _ _ _ _ := ⟨rfl, ft.1⟩
  refine .mv rfl (.nil (f4 _ _ (.seq (fun K2 f9 => ?_))))
  refine .regionD mo_B (.qs [0, 1, 2, 3] (.or (.c 4 1 (.c 5 1 (.c 6 1 (.c 7 0 .done)))) (.c 5 1 (.c 4 1 (.c 6 1 (.c 7 0 .done)))))) (by kernel_rfl) ?_
  refine .q rfl (.fieldAddr fo_46_0_E rfl) ?_
  refine .q rfl (.loadM ag_31_D rfl (by assumption)) ?_
  refine .q rfl (.fieldAddr fo_46_1_E rfl) ?_
  refine .q rfl (.loadM ag_31_D rfl (by assumption)) ?_
  refine .two [(1, some _), (2, some _)] rfl rfl rfl rfl rfl rfl rfl rfl rfl rfl rfl rfl rfl rfl rfl rfl rfl rfl ze_31_E rfl sz_31_D rfl rfl rfl rfl rfl (by rfl) (by rfl) rfl rfl rfl rfl rfl ⟨rfl, rfl, trivial⟩ rfl rfl (.refl _) ?_
  intro g3 g4 H2 fr2 a2 hga hgb g5 f6 e6
  replace l := l.trans a2
  obtain ⟨fs, ft, _, _, _, _⟩ := (hb.mono a2).get
  have k3 : Cat.At H2 g3 0 f.s p.s := ⟨Mem.of_get g5, fs.2⟩
  have k4 : Cat.At H2 g4 0 f.t p.t := ⟨Mem.of_get f6, ft.2⟩
  have _ : MemN _ _ _ _ _ := ⟨rfl, k3.1⟩
  have _ : MemN _ _ _ _ _ := ⟨rfl, k4.1⟩
  have _ := k3.2
  have _ := k4.2
  obtain ⟨_, _, _, _, _, i1, _, _, i4⟩ := k3.get
  obtain ⟨_, _, _, _, _, _, _, _, y4⟩ := k4.get
  refine f9 _ _ ?_
  refine .forget e6 ?_
  refine .seq (fun K3 f3 => .seq (fun K4 a8 => .region ?_))
  refine .q rfl (.loadM ag_31_D rfl (by assumption)) ?_
  refine .callQ rfl rfl rfl rfl en49 rfl (l02Is_c) ?_
  refine .q rfl (.not rfl) (.mv rfl ?_)
  refine .split (fun v => ?_) (fun v => ?_)
  ·
   try simp only [sps] at v
   refine .z rfl (.z rfl (.z rfl (.q rfl (.pickT rfl rfl) (.mv rfl (.z rfl (.z rfl (.z rfl (.z rfl (.z rfl (.z rfl (.q rfl (.pickT rfl rfl) (.mv rfl (.z rfl (.z rfl (.z rfl ?_)))))))))))))))
   refine .z rfl (.z rfl (.z rfl (.z rfl (.q rfl (.pickT rfl rfl) (.nil (a8 _ _ ?_))))))
   refine .condT rfl ?_
   refine .seq (fun K5 f2 => .region (.mv rfl (.nil (f2 _ _ (.ret (h _ _ (⟨_, rfl, ?_⟩)))))))
   exact ⟨congrArg _ (B_false fun hI => v hI.1), l⟩
  try simp only [sps] at v
  refine .qg rfl (.loadM ag_31_D rfl (by assumption)) ?_
  refine .callQg rfl rfl rfl rfl rfl rfl en49 rfl (l02Is_c) ?_
  refine .qg rfl (.not rfl) (.q rfl (.pickF rfl rfl) (.mv rfl ?_))
  refine .split (fun u => ?_) (fun u => ?_)
  ·
   try simp only [sps] at u
   refine .z rfl (.z rfl (.z rfl (.z rfl (.z rfl (.z rfl (.q rfl (.pickT rfl rfl) (.mv rfl (.z rfl (.z rfl (.z rfl (.z rfl (.z rfl (.z rfl (.z rfl (.q rfl (.pickT rfl rfl) ?_)))))))))))))))
   refine .nil (a8 _ _ ?_)
   refine .condT rfl ?_
   refine .seq (fun K6 f7 => .region (.mv rfl (.nil (f7 _ _ (.ret (h _ _ (⟨_, rfl, ?_⟩)))))))
   exact ⟨congrArg _ (B_false fun hI => u hI.2.1), l⟩
  simp only [B_iff, Bool.not_eq_false', Bool.not_eq_true'] at u
  have hS := v.1
  have hT := u.1
  have _ := hS.tl
  have _ := hS.n40
  have _ := hS.il
  have _ := hS.obj
  have _ := hS.cl
  have _ := hT.tl
  have _ := hT.n40
  have _ := hT.il
  have _ := hT.cl
  refine .qg rfl (.fieldAddr fo_46_2_E rfl) (.qg rfl (.lA on_22_B rfl) (.qg rfl (.len sl_22_A rfl) (.qg rfl (.fieldAddr fo_31_0_B rfl) (.qg rfl (.lA on_2_A rfl) (.qg rfl (.cmp rfl rfl rfl) (.q rfl (.pickF rfl rfl) (.mv rfl ?_)))))))
  refine .split (fun d1 => ?_) (fun d1 => ?_)
  ·
   try simp only [sps] at d1
   refine .z rfl (.z rfl (.z rfl (.z rfl (.z rfl (.z rfl (.z rfl (.q rfl (.pickT rfl rfl) (.nil (a8 _ _ ?_)))))))))
   refine .condT rfl ?_
   refine .seq (fun K7 f5 => .region (.mv rfl (.nil (f5 _ _ (.ret (h _ _ (⟨_, rfl, ?_⟩)))))))
   exact ⟨congrArg _ (B_false fun hI => by have := hI.2.2.ol; omega), l⟩
  try simp only [sps] at d1
  refine .qg rfl (.fieldAddr fo_46_3_E rfl) (.qg rfl (.lA on_22_B rfl) (.qg rfl (.len sl_22_A rfl) (.qg rfl (.fieldAddr fo_31_1_B rfl) (.qg rfl (.lA on_22_B rfl) (.qg rfl (.len sl_22_A rfl) (.qg rfl (.cmp rfl rfl rfl) (.q rfl (.pickF rfl rfl) (.nil (a8 _ _ ?_)))))))))
  refine .cond rfl ?_ ?_ <;> intro e8
  ·
   try simp only [sps] at e8
   refine .seq (fun K8 f8 => .region (.mv rfl (.nil (f8 _ _ (.ret (h _ _ (⟨_, rfl, ?_⟩)))))))
   exact ⟨congrArg _ (B_false fun hI => by have := hI.2.2.al; omega), l⟩
  try simp only [sps] at e8
  refine .skip (f3 _ _ (.seq (fun K9 g1 => .seq (fun K10 a3 => .region (.q rfl (.fieldAddr fo_31_0_B rfl) (.q rfl (.lA on_2_A rfl) (.q rfl (.fieldAddr fo_46_2_E rfl) (.q rfl (.lA on_22_B rfl) ?_))))))))
  refine .callQ rfl rfl rfl rfl en50 rfl (l01Map_c) ?_
  refine .q rfl (.not rfl) (.mv rfl ?_)
  refine .split (fun r => ?_) (fun r => ?_)
  ·
   try simp only [sps] at r
   refine .z rfl (.z rfl (.z rfl (.z rfl (.z rfl (.z rfl (.z rfl (.q rfl (.pickT rfl rfl) (.nil (a3 _ _ ?_)))))))))
   refine .condT rfl ?_
   refine .seq (fun K11 d3 => .region (.mv rfl (.nil (d3 _ _ (.ret (h _ _ (⟨_, rfl, ?_⟩)))))))
   exact ⟨congrArg _ (B_false fun hI => by rw [allIn_iff.2 hI.2.2.ob] at r; cases r), l⟩
  try simp only [sps] at r
  refine .qg rfl (.fieldAddr fo_31_1_B rfl) (.qg rfl (.lA on_22_B rfl) (.qg rfl (.len sl_22_A rfl) (.qg rfl (.fieldAddr fo_46_3_E rfl) (.qg rfl (.lA on_22_B rfl) ?_))))
  refine .callQg rfl rfl rfl rfl rfl rfl en50 rfl (l01Map_c) ?_
  refine .qg rfl (.not rfl) (.q rfl (.pickF rfl rfl) (.nil (a3 _ _ ?_)))
  refine .cond rfl ?_ ?_ <;> intro o
  ·
   try simp only [sps] at o
   refine .seq (fun K12 b3 => .region (.mv rfl (.nil (b3 _ _ (.ret (h _ _ (⟨_, rfl, ?_⟩)))))))
   exact ⟨congrArg _ (B_false fun hI => by rw [allIn_iff.2 hI.2.2.ar] at o; cases o), l⟩
  try simp only [sps] at o
  refine .skip (g1 _ _ (.seq (fun K13 c7 => .seq (fun K14 c6 => .region (.mv rfl (.nil (c6 _ _ (.block ?_))))))))
  refine .loopF (σ := Nat) [1, 3, 4] (fun k => [(5, some (.int .i64 (k : Int)))]) (fun k H' => H2 = H' ∧ k ≤ f.s.src.length ∧ ∀ a, a < k → f.t.src.getD (f.ar.getD a 0).toNat 0 = f.ob.getD (f.s.src.getD a 0).toNat 0 ∧ f.t.tgt.getD (f.ar.getD a 0).toNat 0 = f.ob.getD (f.s.tgt.getD a 0).toNat 0) (fun k => f.s.src.length - k) (0) rfl (.p rfl) ?_ ?_
  ·
   refine ⟨rfl, ?_⟩
   exact ⟨by omega, fun x hx => by omega⟩
  rintro k _ ⟨rfl, hI⟩ _ b4
  dsimp only [cA, nA]
  obtain ⟨_, e9⟩ := hI
  refine .seq (fun K15 b5 => .seq (fun K16 c8 => .region (.mv rfl (.q rfl (.fieldAddr fo_31_1_B rfl) (.q rfl (.lA on_22_B rfl) (.q rfl (.len sl_22_A rfl) (.q rfl (.cmp rfl rfl rfl) (.nil (c8 _ _ ?_)))))))))
  refine .cond rfl ?_ ?_ <;> intro f0
  ·
   try simp only [sps] at f0
   refine .skip (b5 _ _ (.seq (fun K17 b1 => .block (.seq (fun K18 w => ?_)))))
   refine .regionD mo_B (.qs [0, 1, 2, 3, 4, 5, 6, 7, 8, 9, 10, 11, 12, 13, 14, 15, 16, 17, 18, 19, 20, 21, 22, 23, 24, 25, 26, 27, 28, 29, 30, 31, 32, 33, 34, 35, 36, 37, 38, 39] (.done)) (by kernel_rfl) ?_
   have q1 := o k (by omega)
   have q2 := hS.src k (by omega)
   have _ := hS.tgt k (by omega)
   refine .q rfl (.fieldAddr fo_31_1_B rfl) (.q rfl (.lA on_22_B rfl) (.q rfl (.fieldAddr fo_46_3_E rfl) (.q rfl (.lA on_22_B rfl) (.mv rfl rfl (.q rfl (.iN sl_22_A rfl rfl) (.q rfl (.lI on_2_A rfl) (.q rfl (.i1 sl_22_A rfl rfl) (.q rfl (.lI on_2_A rfl) (.q rfl (.fieldAddr fo_46_2_E rfl) (.q rfl (.lA on_22_B rfl) (.q rfl (.fieldAddr fo_31_1_B rfl) (.q rfl (.lA on_22_B rfl) (.mv rfl rfl (.q rfl (.iN sl_22_A rfl rfl) (.q rfl (.lI on_2_A rfl) ?_)))))))))))))))
   refine .q rfl (.i1 sl_22_A rfl rfl) (.q rfl (.lI on_2_A rfl) (.q rfl (.cmp rfl rfl rfl) (.mv rfl rfl ?_)))
   refine .split (fun y => ?_) (fun y => ?_)
   ·
    try simp only [sps] at y
    refine .z rfl (.z rfl (.z rfl (.z rfl (.z rfl (.z rfl (.z rfl (.z rfl (.z rfl (.z rfl (.z rfl (.z rfl (.z rfl (.z rfl (.z rfl (.z rfl ?_)))))))))))))))
    refine .z rfl (.z rfl (.z rfl (.q rfl (.pickT rfl rfl) (.done (w _ _ ?_)))))
    refine .condT rfl ?_
    refine .seq (fun K19 e0 => .region (.mv rfl (.nil (e0 _ _ (.ret (h _ _ (⟨_, rfl, ?_⟩)))))))
    exact ⟨congrArg _ (B_false fun hI => y (hI.2.2.ends k (by omega)).1), l⟩
   try simp only [sps] at y
   refine .qg rfl (.fieldAddr fo_31_2_B rfl) (.qg rfl (.lA on_22_B rfl) (.qg rfl (.fieldAddr fo_46_3_E rfl) (.qg rfl (.lA on_22_B rfl) (.qg rfl (.move rfl) (.qg rfl (.iN sl_22_A rfl rfl) (.qg rfl (.lI on_2_A rfl) (.qg rfl (.i1 sl_22_A rfl rfl) (.qg rfl (.lI on_2_A rfl) (.qg rfl (.fieldAddr fo_46_2_E rfl) (.qg rfl (.lA on_22_B rfl) (.qg rfl (.fieldAddr fo_31_2_B rfl) (.qg rfl (.lA on_22_B rfl) (.qg rfl (.move rfl) (.qg rfl (.iN sl_22_A rfl rfl) (.qg rfl (.lI on_2_A rfl) ?_)))))))))))))))
   refine .qg rfl (.i1 sl_22_A rfl rfl) (.qg rfl (.lI on_2_A rfl) (.qg rfl (.cmp rfl rfl rfl) (.q rfl (.pickF rfl rfl) (.done (w _ _ ?_)))))
   refine .cond rfl ?_ ?_ <;> intro a9
   ·
    try simp only [sps] at a9
    refine .seq (fun K20 b8 => .region (.mv rfl (.nil (b8 _ _ (.ret (h _ _ (⟨_, rfl, ?_⟩)))))))
    exact ⟨congrArg _ (B_false fun hI => a9 (hI.2.2.ends k (by omega)).2), l⟩
   try simp only [sps] at a9
   refine .skip (b1 _ _ (.region (.mv rfl (.q rfl (.aD rfl rfl rfl) (.mv rfl (.nil ?_))))))
   refine b4 (k + 1) _ _ ?_ ?_ (.p rfl)
   ·
    refine ⟨rfl, ?_⟩
    refine ⟨by omega, fun x hx => ?_⟩
    by_cases e : x < k
    · exact e9 x e
    · obtain rfl : x = k := by omega
      exact ⟨y, a9⟩
   omega
  try simp only [sps] at f0
  refine .exit (c7 _ _ (.seq (fun K21 d2 => .seq (fun K22 e3 => .region (.mv rfl (.nil (e3 _ _ (.block ?_))))))))
  refine .loopF (σ := Nat) [1, 3, 4] (fun k => [(6, some (.int .i64 (k : Int)))]) (fun k H' => H2 = H' ∧ (k : Int) ≤ f.s.obj ∧ ∀ x, x < k → f.ar.getD (f.s.idn.getD x 0).toNat 0 = f.t.idn.getD (f.ob.getD x 0).toNat 0) (fun k => f.s.idn.length - k) (0) rfl (.p rfl) ?_ ?_
  ·
   refine ⟨rfl, ?_⟩
   exact ⟨by omega, fun x hx => by omega⟩
  rintro k _ ⟨rfl, hI⟩ _ d7
  dsimp only [cA, nA]
  obtain ⟨_, e7⟩ := hI
  refine .seq (fun K23 e2 => .seq (fun K24 d4 => .region (.mv rfl (.q rfl (.fieldAddr fo_31_0_B rfl) (.q rfl (.lA on_2_A rfl) (.q rfl (.cmp rfl rfl rfl) (.nil (d4 _ _ ?_))))))))
  refine .cond rfl ?_ ?_ <;> intro a5
  ·
   try simp only [sps] at a5
   refine .skip (e2 _ _ (.seq (fun K25 e4 => .block (.seq (fun K26 c9 => ?_)))))
   refine .regionD mo_B (.qs [0, 1, 2, 3, 4, 5, 6, 7, 8, 9, 10, 11, 12, 13, 14, 15, 16, 17, 18] (.done)) (by kernel_rfl) ?_
   have q1 := hS.idn k (by omega)
   have q2 := r k (by omega)
   refine .q rfl (.fieldAddr fo_46_3_E rfl) (.q rfl (.lA on_22_B rfl) (.q rfl (.fieldAddr fo_31_3_B rfl) (.q rfl (.lA on_22_B rfl) (.mv rfl rfl (.q rfl (.iN sl_22_A rfl rfl) (.q rfl (.lI on_2_A rfl) (.q rfl (.i1 sl_22_A rfl rfl) (.q rfl (.lI on_2_A rfl) (.q rfl (.fieldAddr fo_31_3_B rfl) (.q rfl (.lA on_22_B rfl) (.q rfl (.fieldAddr fo_46_2_E rfl) (.q rfl (.lA on_22_B rfl) (.mv rfl rfl (.q rfl (.iN sl_22_A rfl rfl) (.q rfl (.lI on_2_A rfl) ?_)))))))))))))))
   refine .q rfl (.i1 sl_22_A rfl rfl) (.q rfl (.lI on_2_A rfl) (.q rfl (.cmp rfl rfl rfl) (.done (c9 _ _ ?_))))
   refine .cond rfl ?_ ?_ <;> intro n
   ·
    try simp only [sps] at n
    refine .seq (fun K27 d0 => .region (.mv rfl (.nil (d0 _ _ (.ret (h _ _ (⟨_, rfl, ?_⟩)))))))
    exact ⟨congrArg _ (B_false fun hI => n (hI.2.2.ids k (by omega))), l⟩
   try simp only [sps] at n
   refine .skip (e4 _ _ (.region (.mv rfl (.q rfl (.aD rfl rfl rfl) (.mv rfl (.nil ?_))))))
   refine d7 (k + 1) _ _ ?_ ?_ (.p rfl)
   ·
    refine ⟨rfl, ?_⟩
    refine ⟨by omega, fun x hx => ?_⟩
    by_cases e : x < k
    · exact e7 x e
    · obtain rfl : x = k := by omega
      exact n
   omega
  try simp only [sps] at a5
  refine .exit (d2 _ _ (.seq (fun K28 d6 => .seq (fun K29 b9 => .region (.mv rfl (.nil (b9 _ _ (.block ?_))))))))
  refine .loopF (σ := Nat) [1, 3, 4] (fun k => [(7, some (.int .i64 (k : Int)))]) (fun k H' => H2 = H' ∧ k ≤ f.s.src.length ∧ ∀ a, a < k → ∀ b, b < f.s.src.length → f.s.tgt.getD a 0 = f.s.src.getD b 0 → f.A (f.s.th a b) = f.t.th (f.ar.getD a 0) (f.ar.getD b 0)) (fun k => f.s.src.length - k) (0) rfl (.p rfl) ?_ ?_
  ·
   refine ⟨rfl, ?_⟩
   exact ⟨by omega, fun x hx => by omega⟩
  rintro k _ ⟨rfl, hI⟩ _ c5
  dsimp only [cA, nA]
  obtain ⟨_, f1⟩ := hI
  refine .seq (fun K30 d5 => .seq (fun K31 b2 => .region (.mv rfl (.q rfl (.fieldAddr fo_31_1_B rfl) (.q rfl (.lA on_22_B rfl) (.q rfl (.len sl_22_A rfl) (.q rfl (.cmp rfl rfl rfl) (.nil (b2 _ _ ?_)))))))))
  refine .cond rfl ?_ ?_ <;> intro a6
  ·
   try simp only [sps] at a6
   refine .skip (d5 _ _ (.seq (fun K32 d9 => .block (.seq (fun K33 e5 => .region (.mv rfl (.nil (e5 _ _ (.block ?_)))))))))
   refine .loopF (σ := Nat) [1, 3, 4, 7] (fun j => [(8, some (.int .i64 (j : Int)))]) (fun j H' => H2 = H' ∧ j ≤ f.s.src.length ∧ ∀ b, b < j → f.s.tgt.getD k 0 = f.s.src.getD b 0 → f.A (f.s.th k b) = f.t.th (f.ar.getD k 0) (f.ar.getD b 0)) (fun j => f.s.src.length - j) (0) rfl (.p rfl) ?_ ?_
   ·
    refine ⟨rfl, ?_⟩
    exact ⟨by omega, fun x hx => by omega⟩
   rintro j _ ⟨rfl, hI⟩ _ a7
   dsimp only [cA, nA]
   obtain ⟨_, b6⟩ := hI
   refine .seq (fun K34 b7 => .seq (fun K35 d8 => .region (.mv rfl (.q rfl (.fieldAddr fo_31_1_B rfl) (.q rfl (.lA on_22_B rfl) (.q rfl (.len sl_22_A rfl) (.q rfl (.cmp rfl rfl rfl) (.nil (d8 _ _ ?_)))))))))
   refine .cond rfl ?_ ?_ <;> intro a1
   ·
    try simp only [sps] at a1
    refine .skip (b7 _ _ (.seq (fun K36 a0 => .block (.seq (fun K37 a4 => ?_)))))
    refine .regionD mo_B (.qs [0, 1, 2, 3, 4, 5, 6, 7, 8, 9, 10, 11, 12, 13, 14, 15, 16, 17, 18, 19, 20, 21, 22, 23, 24, 25, 26, 27, 28, 29, 30, 31, 32, 33, 34, 35, 36, 37, 38, 39, 40, 41] (.done)) (by kernel_rfl) ?_
    have _ := i4.2 k (by omega)
    have _ := hS.row k (by omega)
    have q5 := hS.th_lt (f := k) (g := j) (by omega) (by omega)
    have q6 := hS.th_ge (f := k) (g := j) (by omega) (by omega)
    rw [Cat.th_nat] at q5 q6
    have _ := o k (by omega)
    have _ := o j (by omega)
    have _ := hT.row (f.ar.getD k 0).toNat (by omega)
    have _ := y4.2 (f.ar.getD k 0).toNat (by omega)
    refine .q rfl (.fieldAddr fo_31_2_B rfl) (.q rfl (.lA on_22_B rfl) (.mv rfl rfl (.q rfl (.iN sl_22_A rfl rfl) (.q rfl (.lI on_2_A rfl) (.q rfl (.fieldAddr fo_31_1_B rfl) (.q rfl (.lA on_22_B rfl) (.mv rfl rfl (.q rfl (.iN sl_22_A rfl rfl) (.q rfl (.lI on_2_A rfl) (.q rfl (.cmp rfl rfl rfl) (.mv rfl rfl ?_)))))))))))
    refine .split (fun i => ?_) (fun i => ?_)
    ·
     simp only [beq_iff_eq] at i
     have _ := q6.2 i
     refine .qg rfl (.fieldAddr fo_46_3_E rfl) (.qg rfl (.lA on_22_B rfl) (.qg rfl (.fieldAddr fo_31_4_B rfl) (.qg rfl (.lA on_23_B rfl) (.qg rfl (.move rfl) ?_))))
     refine .qg rfl (.idxN sl_23_B (Intss.sl (by assumption)) rfl rfl (by omega)) ?_
     refine .qg rfl (.loadR on_22_B (by assumption) rfl (by omega)) ?_
     refine .qg rfl (.move rfl) (.qg rfl (.iN sl_22_A rfl rfl) (.qg rfl (.lI on_2_A rfl) (.qg rfl (.i1 sl_22_A rfl rfl) (.qg rfl (.lI on_2_A rfl) (.qg rfl (.fieldAddr fo_31_4_B rfl) (.qg rfl (.lA on_23_B rfl) (.qg rfl (.fieldAddr fo_46_3_E rfl) (.qg rfl (.lA on_22_B rfl) (.qg rfl (.move rfl) (.qg rfl (.iN sl_22_A rfl rfl) (.qg rfl (.lI on_2_A rfl) ?_)))))))))))
     refine .qg rfl (.idx1 sl_23_B (Intss.sl (by assumption)) rfl rfl (by omega) (by omega)) ?_
     refine .qg rfl (.loadR on_22_B (by assumption) rfl (by omega)) ?_
     refine .qg rfl (.fieldAddr fo_46_3_E rfl) (.qg rfl (.lA on_22_B rfl) (.qg rfl (.move rfl) (.qg rfl (.iN sl_22_A rfl rfl) (.qg rfl (.lI on_2_A rfl) (.qg rfl (.i1 sl_22_A rfl rfl) (.qg rfl (.lI on_2_A rfl) (.qg rfl (.cmp rfl rfl rfl) (.q rfl (.pickT rfl rfl) (.done (a4 _ _ ?_))))))))))
     refine .cond rfl ?_ ?_ <;> intro m
     ·
      try simp only [sps] at m
      refine .seq (fun K38 b0 => .region (.mv rfl (.nil (b0 _ _ (.ret (h _ _ (⟨_, rfl, ?_⟩)))))))
      exact ⟨congrArg _ (B_false fun hI => m (hI.2.2.th k (by omega) j (by omega) i)), l⟩
     try simp only [sps] at m
     refine .skip (a0 _ _ (.region (.mv rfl (.q rfl (.aD rfl rfl rfl) (.mv rfl (.nil ?_))))))
     refine a7 (j + 1) _ _ ?_ ?_ (.p rfl)
     ·
      refine ⟨rfl, ?_⟩
      refine ⟨by omega, fun x hx => ?_⟩
      by_cases e : x < j
      · exact b6 x e
      · obtain rfl : x = j := by omega
        first
          | exact fun _ => m
          | exact fun e => absurd e i
     omega
    try simp only [sps] at i
    refine .z rfl (.z rfl (.z rfl (.z rfl (.z rfl (.z rfl (.z rfl (.z rfl (.z rfl (.z rfl (.z rfl (.z rfl (.z rfl (.z rfl (.z rfl (.z rfl ?_)))))))))))))))
    refine .z rfl (.z rfl (.z rfl (.z rfl (.z rfl (.z rfl (.z rfl (.z rfl (.z rfl (.z rfl (.z rfl (.z rfl (.z rfl (.q rfl (.pickF rfl rfl) (.done (a4 _ _ ?_)))))))))))))))
    refine .condF rfl ?_
    refine .skip (a0 _ _ (.region (.mv rfl (.q rfl (.aD rfl rfl rfl) (.mv rfl (.nil ?_))))))
    refine a7 (j + 1) _ _ ?_ ?_ (.p rfl)
    ·
     refine ⟨rfl, ?_⟩
     refine ⟨by omega, fun x hx => ?_⟩
     by_cases e : x < j
     · exact b6 x e
     · obtain rfl : x = j := by omega
       first
         | exact fun _ => m
         | exact fun e => absurd e i
    omega
   try simp only [sps] at a1
   refine .exit (d9 _ _ (.region (.mv rfl (.q rfl (.aD rfl rfl rfl) (.mv rfl (.nil ?_))))))
   refine c5 (k + 1) _ _ ?_ ?_ (.p rfl)
   ·
    refine ⟨rfl, ?_⟩
    refine ⟨by omega, fun x hx => ?_⟩
    by_cases e : x < k
    · exact f1 x e
    · obtain rfl : x = k := by omega
      exact fun b hb => b6 b (by omega)
   omega
  try simp only [sps] at a6
  refine .exit (d6 _ _ (.seq (fun K39 e1 => .region (.mv rfl (.nil (e1 _ _ (.ret (h _ _ (⟨_, rfl, ?_⟩)))))))))
  exact ⟨congrArg _ (B_true ⟨v, u, by omega, by omega, r, o, fun a ha => e9 a (by omega), fun x hx => e7 x (by omega), fun a ha => f1 a (by omega)⟩), l⟩
end Go.Proofs.Ytddjdkpjfpnjiaa
namespace Go.Proofs.Ytddjdkpjfpnjiaa
open Go Go.GL Go.RowKit Go.Proofs
variable [MainFlag]
theorem l01Has_c {a : Option Addr} {xs : List Int} {n : Int} {H : GHeap} (h : Ints H a xs := by assumption) (hl : xs.length ≤ 1048576 := by omega) :
    GCalls Try.prog 51 [.slice a xs.length xs.length, .int .i64 n] H (Ret (.bool (xs.contains n)) H) := by
  refine GCalls.body (N := 18) (rs := [.tmp 4]) Try.func51 rfl rfl rfl rfl (fun Qx b hend => ?_)
  refine .fg [0, 1] rfl ?_
  refine .seq (fun K1 j => .region (.mv rfl (.nil (j _ _ (.seq (fun K2 o => .seq (fun K3 s => .region (.mv rfl (.nil (s _ _ (.block ?_)))))))))))
  refine .loopF (σ := Nat) [0, 1] (fun k => [(5, some (.int .i64 (k : Int)))]) (fun k H' => H = H' ∧ (k : Int) ≤ xs.length ∧ ∀ i, i < k → ¬ xs.getD i 0 = n) (fun k => (xs.length - k : Int).toNat) (0) rfl (.p rfl) ?_ ?_
  ·
   refine ⟨rfl, ?_⟩
   exact ⟨by omega, fun _ _ => by omega⟩
  rintro k _ ⟨rfl, hI⟩ _ d
  dsimp only [cA, nA]
  obtain ⟨_, f⟩ := hI
  refine .seq (fun K4 t => .seq (fun K5 g => .region (.mv rfl (.mv rfl (.q rfl (.len sl_22_A rfl) (.q rfl (.cmp rfl rfl rfl) (.nil (g _ _ ?_))))))))
  refine .cond rfl ?_ ?_ <;> intro h9
  ·
   try simp only [sps] at h9
   refine .skip (t _ _ (.seq (fun K6 u => .block (.seq (fun K7 m => .region (.mv rfl (.mv rfl (.q rfl (.iN sl_22_A rfl rfl) (.q rfl (.lI on_2_A rfl) (.mv rfl (.q rfl (.cmp rfl rfl rfl) (.nil (m _ _ ?_)))))))))))))
   refine .cond rfl ?_ ?_ <;> intro c
   ·
    try simp only [sps] at c
    refine .seq (fun K8 l => .region (.mv rfl (.nil (l _ _ (.ret (b _ _ (⟨_, rfl, ?_⟩)))))))
    exact .of (congrArg _ (List.contains_iff_mem.2 (by rw [← c]; exact getD_mem (by omega))))
   try simp only [sps] at c
   refine .skip (u _ _ (.region (.mv rfl (.q rfl (.aD rfl rfl rfl) (.mv rfl (.nil ?_))))))
   refine d (k + 1) _ _ ?_ ?_ (.p rfl)
   ·
    refine ⟨rfl, ?_⟩
    refine ⟨by omega, fun i hx => ?_⟩
    by_cases hltq : i < k
    · exact f i hltq
    · obtain rfl : i = k := by omega
      first | assumption | omega | simp_all
   omega
  try simp only [sps] at h9
  refine .exit (o _ _ (.seq (fun K9 r => .region (.mv rfl (.nil (r _ _ (.ret (b _ _ (⟨_, rfl, ?_⟩)))))))))
  exact .of (congrArg _ (Bool.eq_false_iff.2 fun hc => by
    obtain ⟨i, _, e⟩ := mem_getD (List.contains_iff_mem.1 hc)
    exact f i (by omega) e))
end Go.Proofs.Ytddjdkpjfpnjiaa
namespace Go.GL
open Go.RowKit
variable [MainFlag]

theorem CDo.makeIN {P : Program} {H : GHeap} {fr : Slots} {o : Oper} {t e : TypeId} {x y : Operand} {k k' : IntKind} {l c bytes : Nat} (ho : o.op = .makeSlice t x y) (ht : sliceT P t = some (e, 1)) (hz : zeroT P e = some ([.int .i64 0], 1)) (hb : (P.info? e).map (·.bytes) = some bytes)
    (hx : ev fr x = some (.int k (l : Int))) (hy : ev fr y = some (.int k' (c : Int))) (hlc : l ≤ c) (hsm : bytes * c ≤ 281474976710656) (hsc : c ≤ 9223372036854775807) :
    CDo P o fr H (fun r H' => ∃ g, r = some (.slice (some ⟨g, 0, none⟩) l l) ∧ H.Le H' ∧ H.next ≤ g ∧ H'.get g = some (.row (ints (List.replicate l 0)) e true)) := by
  have := CDo.makeI (P := P) (H := H) (fr := fr) (o := o) ho ht hz hb hx hy (by omega) (by omega) (by omega) (by omega)
  simpa using this

def thenL (f g : List Int) : List Int := f.map fun y => g.getD y.toNat 0
end Go.GL
namespace Go.Proofs.Ytddjdkpjfpnjiaa
open Go Go.GL Go.RowKit Go.Proofs
variable [MainFlag]
end Go.Proofs.Ytddjdkpjfpnjiaa
namespace Go.GL
open Go.RowKit Go.WideShapes Go.ChangeShapes Go.Deep
variable [MainFlag]

def Intsss (H : GHeap) (a : Option Addr) (x : List (List (List Int))) (r : Nat → Option Addr) (s : Nat → Nat → Option Addr) : Prop :=
  SlA H a x.length (fun i => .slice (r i) (x.getD i []).length (x.getD i []).length) ∧ ∀ i, i < x.length → Intss H (r i) (x.getD i []) (s i)
def Wd2 (xss : List (List Int)) : Prop := xss.length ≤ 9223372036854775807 ∧ ∀ i, I64s (xss.getD i [])
def Wd3 (x : List (List (List Int))) : Prop := x.length ≤ 9223372036854775807 ∧ ∀ i, Wd2 (x.getD i [])
def Sm3 (x : List (List (List Int))) : Prop := x.length ≤ 1048576 ∧ ∀ i, (x.getD i []).length ≤ 1048576 ∧ ∀ j, ((x.getD i []).getD j []).length ≤ 1048576
end Go.GL
namespace Go.GL
open Go.RowKit
variable [MainFlag]
structure SFun where
  sh : Cat
  sz : List Int
  ac : List (List Int)
structure SFunP where
  sh : CatP
  a1 : Option Addr
  a2 : Option Addr
  r2 : Nat → Option Addr
def SFun.cells (c : SFun) (p : SFunP) : List Value := c.sh.cells p.sh ++ ([.slice p.a1 c.sz.length c.sz.length] ++ ([.slice p.a2 c.ac.length c.ac.length]))
def SFun.In (H : GHeap) (c : SFun) (p : SFunP) : Prop := c.sh.In H p.sh ∧ Ints H p.a1 c.sz ∧ Intss H p.a2 c.ac p.r2
def SFun.At (H : GHeap) (g o : Nat) (c : SFun) (p : SFunP) : Prop := Mem H g o (c.cells p) ∧ c.In H p
def SFun.Small (c : SFun) : Prop := c.sh.Small ∧ c.sz.length ≤ 1048576 ∧ (c.ac.length ≤ 1048576 ∧ ∀ i, (c.ac.getD i []).length ≤ 1048576)
def SFun.Wide (c : SFun) : Prop := c.sh.Wide ∧ I64s c.sz ∧ (c.ac.length ≤ 9223372036854775807 ∧ ∀ i, I64s (c.ac.getD i []))
structure SMap where
  s : SFun
  t : SFun
  pa : List (List Int)
structure SMapP where
  s : SFunP
  t : SFunP
  a2 : Option Addr
  r2 : Nat → Option Addr
def SMap.cells (c : SMap) (p : SMapP) : List Value := c.s.cells p.s ++ (c.t.cells p.t ++ ([.slice p.a2 c.pa.length c.pa.length]))
def SMap.In (H : GHeap) (c : SMap) (p : SMapP) : Prop := c.s.In H p.s ∧ c.t.In H p.t ∧ Intss H p.a2 c.pa p.r2
def SMap.At (H : GHeap) (g o : Nat) (c : SMap) (p : SMapP) : Prop := Mem H g o (c.cells p) ∧ c.In H p
def SMap.Small (c : SMap) : Prop := c.s.Small ∧ c.t.Small ∧ (c.pa.length ≤ 1048576 ∧ ∀ i, (c.pa.getD i []).length ≤ 1048576)
def SMap.Wide (c : SMap) : Prop := c.s.Wide ∧ c.t.Wide ∧ (c.pa.length ≤ 9223372036854775807 ∧ ∀ i, I64s (c.pa.getD i []))
structure Con where
  ap : Int
  lg : List Int
structure ConP where
  a1 : Option Addr
def Con.cells (c : Con) (p : ConP) : List Value := [.int .i64 c.ap] ++ ([.slice p.a1 c.lg.length c.lg.length])
def Con.In (H : GHeap) (c : Con) (p : ConP) : Prop := Ints H p.a1 c.lg
def Con.At (H : GHeap) (g o : Nat) (c : Con) (p : ConP) : Prop := Mem H g o (c.cells p) ∧ c.In H p
def Con.Small (c : Con) : Prop := (-9223372036854775808 ≤ c.ap ∧ c.ap ≤ 9223372036854775807) ∧ c.lg.length ≤ 1048576
def Con.Wide (c : Con) : Prop := I64 c.ap ∧ I64s c.lg
structure Prt where
  me : List (List Int)
structure PrtP where
  a0 : Option Addr
  r0 : Nat → Option Addr
def Prt.cells (c : Prt) (p : PrtP) : List Value := [.slice p.a0 c.me.length c.me.length]
def Prt.In (H : GHeap) (c : Prt) (p : PrtP) : Prop := Intss H p.a0 c.me p.r0
def Prt.At (H : GHeap) (g o : Nat) (c : Prt) (p : PrtP) : Prop := Mem H g o (c.cells p) ∧ c.In H p
def Prt.Small (c : Prt) : Prop := (c.me.length ≤ 1048576 ∧ ∀ i, (c.me.getD i []).length ≤ 1048576)
def Prt.Wide (c : Prt) : Prop := (c.me.length ≤ 9223372036854775807 ∧ ∀ i, I64s (c.me.getD i []))
structure Prof where
  s : Cat
  t : Cat
  sz : List (List Int)
  be : List (List (List Int))
  bh : List (List (List Int))
structure ProfP where
  s : CatP
  t : CatP
  a2 : Option Addr
  r2 : Nat → Option Addr
  a3 : Option Addr
  r3 : Nat → Option Addr
  s3 : Nat → Nat → Option Addr
  a4 : Option Addr
  r4 : Nat → Option Addr
  s4 : Nat → Nat → Option Addr
def Prof.cells (c : Prof) (p : ProfP) : List Value := c.s.cells p.s ++ (c.t.cells p.t ++ ([.slice p.a2 c.sz.length c.sz.length] ++ ([.slice p.a3 c.be.length c.be.length] ++ ([.slice p.a4 c.bh.length c.bh.length]))))
def Prof.In (H : GHeap) (c : Prof) (p : ProfP) : Prop := c.s.In H p.s ∧ c.t.In H p.t ∧ Intss H p.a2 c.sz p.r2 ∧ Intsss H p.a3 c.be p.r3 p.s3 ∧ Intsss H p.a4 c.bh p.r4 p.s4
def Prof.At (H : GHeap) (g o : Nat) (c : Prof) (p : ProfP) : Prop := Mem H g o (c.cells p) ∧ c.In H p
def Prof.Small (c : Prof) : Prop := c.s.Small ∧ c.t.Small ∧ (c.sz.length ≤ 1048576 ∧ ∀ i, (c.sz.getD i []).length ≤ 1048576) ∧ Sm3 c.be ∧ Sm3 c.bh
def Prof.Wide (c : Prof) : Prop := c.s.Wide ∧ c.t.Wide ∧ (c.sz.length ≤ 9223372036854775807 ∧ ∀ i, I64s (c.sz.getD i [])) ∧ Wd3 c.be ∧ Wd3 c.bh
end Go.GL
namespace Go.GL
variable [MainFlag]

def first2 (n : Nat) (len : Nat → Nat) (p : Nat → Nat → Bool) : Int × Int :=
  match firstN n fun a => (firstN (len a) (p a)).isSome with
  | some a => ((a : Int), (((firstN (len a) (p a)).getD 0 : Nat) : Int))
  | none => (-1, 0)
def SFun.AcOk (f : SFun) (a : Nat) : Prop :=
  ((f.ac.getD a []).length : Int) = f.sz.getD (f.sh.src.getD a 0).toNat 0 ∧ allIn (f.ac.getD a []) (f.sz.getD (f.sh.tgt.getD a 0).toNat 0) = true
structure SFun.Shape (f : SFun) : Prop where
  c : f.sh.Is
  zl : (f.sz.length : Int) = f.sh.obj
  sz : ∀ i, i < f.sz.length → 0 ≤ f.sz.getD i 0 ∧ f.sz.getD i 0 ≤ 16
  al : f.ac.length = f.sh.src.length
  ac : ∀ a, a < f.ac.length → f.AcOk a
structure SFun.Laws (f : SFun) : Prop where
  ids : ∀ x : Nat, x < f.sh.idn.length → ∀ e : Nat, e < (f.ac.getD (f.sh.idn.getD x 0).toNat []).length → (f.ac.getD (f.sh.idn.getD x 0).toNat []).getD e 0 = e
  th : ∀ a : Nat, a < f.sh.src.length → ∀ b : Nat, b < f.sh.src.length → f.sh.tgt.getD a 0 = f.sh.src.getD b 0 → ∀ e : Nat, e < (f.ac.getD a []).length →
    (f.ac.getD ((f.sh.comp.getD a []).getD b 0).toNat []).getD e 0 = (f.ac.getD b []).getD ((f.ac.getD a []).getD e 0).toNat 0
def SFun.Is (f : SFun) : Prop := f.Shape ∧ f.Laws

def SMap.PaOk (m : SMap) (x : Nat) : Prop := ((m.pa.getD x []).length : Int) = m.s.sz.getD x 0 ∧ allIn (m.pa.getD x []) (m.t.sz.getD x 0) = true
structure SMap.Fits (m : SMap) : Prop where
  pl : m.pa.length = m.s.sz.length
  pa : ∀ x, x < m.pa.length → m.PaOk x
structure SMap.Shape (m : SMap) : Prop where
  s : m.s.Is
  t : m.t.Is
  sh : m.s.sh = m.t.sh
  fits : m.Fits
def SMap.bad (m : SMap) (a e : Nat) : Bool := decide (¬ (m.pa.getD (m.s.sh.tgt.getD a 0).toNat []).getD ((m.s.ac.getD a []).getD e 0).toNat 0 = (m.t.ac.getD a []).getD ((m.pa.getD (m.s.sh.src.getD a 0).toNat []).getD e 0).toNat 0)
def SMap.first (m : SMap) : Int × Int := first2 m.s.ac.length (fun a => (m.s.ac.getD a []).length) m.bad
def SMap.Is (m : SMap) : Prop := m.Shape ∧ ∀ a, a < m.s.ac.length → ∀ e, e < (m.s.ac.getD a []).length → m.bad a e = false
end Go.GL
namespace Go.Proofs.Ytddjdkpjfpnjiaa
open Go Go.GL Go.RowKit Go.Proofs
variable [MainFlag]
end Go.Proofs.Ytddjdkpjfpnjiaa
namespace Go.Proofs.Ytddjdkpjfpnjiaa
open Go Go.GL Go.RowKit Go.Proofs
variable [MainFlag]
end Go.Proofs.Ytddjdkpjfpnjiaa
namespace Go.Proofs.Ytddjdkpjfpnjiaa
open Go Go.GL Go.RowKit Go.Proofs
variable [MainFlag]
end Go.Proofs.Ytddjdkpjfpnjiaa
namespace Go.Proofs.Ytddjdkpjfpnjiaa
open Go Go.GL Go.RowKit Go.Proofs
variable [MainFlag]
end Go.Proofs.Ytddjdkpjfpnjiaa
namespace Go.GL
variable [MainFlag]

def NoMove (xs : List Int) : Prop := ∀ i : Nat, i < xs.length → xs.getD i 0 = i
structure Prof.Sized (m : Prof) : Prop where
  sl : (m.sz.length : Int) = m.s.obj
  bl : m.be.length = m.s.src.length
  hl : m.bh.length = m.t.src.length
  row : ∀ x, x < m.sz.length → ((m.sz.getD x []).length : Int) = m.t.obj
  rng : ∀ x, x < m.sz.length → ∀ y, y < (m.sz.getD x []).length → 0 ≤ (m.sz.getD x []).getD y 0 ∧ (m.sz.getD x []).getD y 0 ≤ 64
def Prof.BeOk (m : Prof) (a y : Nat) : Prop :=
  (((m.be.getD a []).getD y []).length : Int) = (m.sz.getD (m.s.tgt.getD a 0).toNat []).getD y 0 ∧ allIn ((m.be.getD a []).getD y []) ((m.sz.getD (m.s.src.getD a 0).toNat []).getD y 0) = true
def Prof.BhOk (m : Prof) (b x : Nat) : Prop :=
  (((m.bh.getD b []).getD x []).length : Int) = (m.sz.getD x []).getD (m.t.src.getD b 0).toNat 0 ∧ allIn ((m.bh.getD b []).getD x []) ((m.sz.getD x []).getD (m.t.tgt.getD b 0).toNat 0) = true
structure Prof.Maps (m : Prof) : Prop where
  be : ∀ a, a < m.be.length → ((m.be.getD a []).length : Int) = m.t.obj ∧ ∀ y, y < (m.be.getD a []).length → m.BeOk a y
  bh : ∀ b, b < m.bh.length → ((m.bh.getD b []).length : Int) = m.s.obj ∧ ∀ x, x < (m.bh.getD b []).length → m.BhOk b x
structure Prof.Shape (m : Prof) : Prop where
  s : m.s.Is
  t : m.t.Is
  z : m.Sized
  ok : m.Maps
structure Prof.Acts (m : Prof) : Prop where
  idb : ∀ y : Nat, (y : Int) < m.t.obj → ∀ x : Nat, (x : Int) < m.s.obj → NoMove ((m.be.getD (m.s.idn.getD x 0).toNat []).getD y []) ∧ NoMove ((m.bh.getD (m.t.idn.getD y 0).toNat []).getD x [])
  thb : ∀ y : Nat, (y : Int) < m.t.obj → ∀ a : Nat, a < m.s.src.length → ∀ b : Nat, b < m.s.src.length → 0 ≤ (m.s.comp.getD a []).getD b 0 →
    (m.be.getD ((m.s.comp.getD a []).getD b 0).toNat []).getD y [] = thenL ((m.be.getD b []).getD y []) ((m.be.getD a []).getD y [])
  thh : ∀ x : Nat, (x : Int) < m.s.obj → ∀ a : Nat, a < m.t.src.length → ∀ b : Nat, b < m.t.src.length → 0 ≤ (m.t.comp.getD a []).getD b 0 →
    (m.bh.getD ((m.t.comp.getD a []).getD b 0).toNat []).getD x [] = thenL ((m.bh.getD a []).getD x []) ((m.bh.getD b []).getD x [])
def Prof.MixAt (m : Prof) (a b : Nat) : Prop :=
  thenL ((m.be.getD a []).getD (m.t.src.getD b 0).toNat []) ((m.bh.getD b []).getD (m.s.src.getD a 0).toNat []) = thenL ((m.bh.getD b []).getD (m.s.tgt.getD a 0).toNat []) ((m.be.getD a []).getD (m.t.tgt.getD b 0).toNat [])
def Prof.Mix (m : Prof) : Prop := ∀ a, a < m.s.src.length → ∀ b, b < m.t.src.length → m.MixAt a b
def Prof.Is (m : Prof) : Prop := m.Shape ∧ m.Acts ∧ m.Mix

def sumN (f : Nat → Int) : Nat → Int
  | 0 => 0
  | n + 1 => sumN f n + f n
def Prof.diag (m : Prof) (i : Nat) : Int := (m.sz.getD i []).getD i 0
noncomputable def Prof.code (m : Prof) : Int := bif B m.Is then (bif B (m.s = m.t) then 0 else 5) else 1
noncomputable def Prof.place (m : Prof) (x e : Int) : Int × Int := bif B (m.code = 0) then (bif B (0 ≤ x ∧ x < m.s.obj ∧ 0 ≤ e ∧ e < m.diag x.toNat) then (sumN m.diag x.toNat + e, 0) else (0, 2)) else (0, m.code)
abbrev L3 := List (List (List Int))
def Prof.CoOk (m n : Prof) (c : L3) (x y : Nat) : Prop := (((c.getD x []).getD y []).length : Int) = (m.sz.getD x []).getD y 0 ∧ allIn ((c.getD x []).getD y []) ((n.sz.getD x []).getD y 0) = true
structure Prof.Rows (m n : Prof) (c : L3) : Prop where
  cl : (c.length : Int) = m.s.obj
  row : ∀ x, x < c.length → ((c.getD x []).length : Int) = m.t.obj ∧ ∀ y, y < (c.getD x []).length → m.CoOk n c x y
def Prof.NatB (m n : Prof) (c : L3) (a y : Nat) : Prop :=
  thenL ((m.be.getD a []).getD y []) ((c.getD (m.s.src.getD a 0).toNat []).getD y []) = thenL ((c.getD (m.s.tgt.getD a 0).toNat []).getD y []) ((n.be.getD a []).getD y [])
def Prof.NatH (m n : Prof) (c : L3) (b x : Nat) : Prop :=
  thenL ((m.bh.getD b []).getD x []) ((c.getD x []).getD (m.t.tgt.getD b 0).toNat []) = thenL ((c.getD x []).getD (m.t.src.getD b 0).toNat []) ((n.bh.getD b []).getD x [])
structure Prof.IsMap (m n : Prof) (c : L3) : Prop where
  rows : m.Rows n c
  nb : ∀ a, a < m.s.src.length → ∀ y : Nat, (y : Int) < m.t.obj → m.NatB n c a y
  nh : ∀ b, b < m.t.src.length → ∀ x : Nat, (x : Int) < m.s.obj → m.NatH n c b x
end Go.GL
namespace Go.Proofs.Ytddjdkpjfpnjiaa
open Go Go.GL Go.RowKit Go.Proofs
variable [MainFlag]
end Go.Proofs.Ytddjdkpjfpnjiaa
namespace Go.GL
open Go.RowKit
variable [MainFlag]
section
variable {P : Program} {B : Nat} {w0 : World} {ρ : Place} {H : GHeap} {w : World} {fr : Slots} {o : Oper} {R : Option Value → GHeap → Prop}
end
end Go.GL
namespace Go.GL
variable [MainFlag]
def least (K : Nat → Nat → Bool) (i : Nat) : Nat := ((List.range i).find? fun j => K j i).getD i
def reps (K : Nat → Nat → Bool) (m : Nat) : Nat := ((List.range m).filter fun j => least K j == j).length
def clsAt (K : Nat → Nat → Bool) (i : Nat) : Int := (reps K (least K i) : Int)
def clsL (K : Nat → Nat → Bool) (n : Nat) : List Int := (List.range n).map (clsAt K)
structure Eqv (K : Nat → Nat → Bool) (n : Nat) : Prop where
  rf : ∀ a, a < n → K a a = true
  sy : ∀ a b, a < n → b < n → K a b = true → K b a = true
  tr : ∀ a b c, a < n → b < n → c < n → K a b = true → K b c = true → K a c = true
theorem find_range {p : Nat → Bool} {i : Nat} : (∃ j, (List.range i).find? p = some j ∧ j < i ∧ p j = true ∧ ∀ k, k < j → p k = false) ∨ ((List.range i).find? p = none ∧ ∀ k, k < i → p k = false) := by
  cases h : (List.range i).find? p with
  | none =>
    rw [List.find?_range_eq_none] at h
    exact .inr ⟨rfl, fun k hk => by simpa using h k hk⟩
  | some j =>
    rw [List.find?_range_eq_some] at h
    exact .inl ⟨j, rfl, List.mem_range.1 h.2.1, h.1, fun k hk => by simpa using h.2.2 k hk⟩
theorem least_le (K : Nat → Nat → Bool) (i : Nat) : least K i ≤ i := by
  unfold least
  rcases find_range (p := fun j => K j i) (i := i) with ⟨j, h, hl, _⟩ | ⟨h, _⟩
  · rw [h]; exact Nat.le_of_lt hl
  · rw [h]; exact Nat.le_refl _
theorem least_mate {K : Nat → Nat → Bool} {n i : Nat} (e : Eqv K n) (h : i < n) : K (least K i) i = true ∧ ∀ j, j < least K i → K j i = false := by
  unfold least
  rcases find_range (p := fun j => K j i) (i := i) with ⟨j, hj, hl, hp, hb⟩ | ⟨hj, hb⟩
  · rw [hj]; exact ⟨hp, hb⟩
  · rw [hj]; exact ⟨e.rf i h, hb⟩
theorem least_eq {K : Nat → Nat → Bool} {n i j : Nat} (e : Eqv K n) (hi : i < n) (hk : K j i = true) (hm : ∀ k, k < j → K k i = false) : least K i = j := by
  obtain ⟨h1, h2⟩ := least_mate e hi
  rcases Nat.lt_trichotomy (least K i) j with h | h | h
  · rw [hm _ h] at h1; cases h1
  · exact h
  · rw [h2 _ h] at hk; cases hk
theorem least_congr_mate {K : Nat → Nat → Bool} {n i j : Nat} (e : Eqv K n) (hi : i < n) (hj : j < n) : least K i = least K j ↔ K i j = true := by
  obtain ⟨h1, h2⟩ := least_mate e hi
  obtain ⟨k1, k2⟩ := least_mate e hj
  have li := least_le K i
  have lj := least_le K j
  constructor
  · intro h
    rw [← h] at k1
    exact e.tr i _ j hi (by omega) hj (e.sy _ _ (by omega) hi h1) k1
  · intro h
    refine least_eq e hi (e.tr _ j i (by omega) hj hi k1 (e.sy _ _ hi hj h)) fun k hk => ?_
    cases hh : K k i with
    | false => rfl
    | true => rw [← k2 k hk]; exact (e.tr k i j (by omega) hi hj hh h).symm
theorem least_idem {K : Nat → Nat → Bool} {n i : Nat} (e : Eqv K n) (hi : i < n) : least K (least K i) = least K i := by
  have := least_le K i
  exact (least_congr_mate e (by omega) hi).2 (least_mate e hi).1
theorem reps_succ (K : Nat → Nat → Bool) (m : Nat) : reps K (m + 1) = reps K m + (if least K m = m then 1 else 0) := by
  unfold reps
  rw [List.range_succ, List.filter_append, List.length_append]
  congr 1
  by_cases h : least K m = m <;> simp [h]
theorem reps_mono {K : Nat → Nat → Bool} {a b : Nat} (h : a ≤ b) : reps K a ≤ reps K b := by
  induction b with
  | zero => obtain rfl : a = 0 := by omega
            exact Nat.le_refl _
  | succ b ih =>
    by_cases e : a = b + 1
    · subst e; exact Nat.le_refl _
    · have := ih (by omega)
      rw [reps_succ]
      omega

def kerB (xs : List Int) (a b : Nat) : Bool := xs.getD a 0 == xs.getD b 0
theorem kerB_eqv (xs : List Int) (n : Nat) : Eqv (kerB xs) n := ⟨fun a _ => by simp [kerB], fun a b _ _ h => by simp only [kerB, beq_iff_eq] at h ⊢; exact h.symm, fun a b c _ _ _ h h' => by simp only [kerB, beq_iff_eq] at h h' ⊢; exact h.trans h'⟩
def seenL (xs : List Int) (i : Nat) : List Int := ((List.range i).filter fun j => least (kerB xs) j == j).map fun j => xs.getD j 0
@[simp] theorem length_seenL (xs : List Int) (i : Nat) : (seenL xs i).length = reps (kerB xs) i := by simp [seenL, reps]
theorem seenL_new {xs : List Int} {i : Nat} (h : least (kerB xs) i = i) : seenL xs (i + 1) = seenL xs i ++ [xs.getD i 0] := by simp [seenL, List.range_succ, List.filter_append, h]
theorem seenL_old {xs : List Int} {i : Nat} (h : least (kerB xs) i ≠ i) : seenL xs (i + 1) = seenL xs i := by simp [seenL, List.range_succ, List.filter_append, h]
theorem seenL_at {xs : List Int} {i m : Nat} (h : m < (seenL xs i).length) : ∃ j, j < i ∧ least (kerB xs) j = j ∧ reps (kerB xs) j = m ∧ (seenL xs i).getD m 0 = xs.getD j 0 := by
  induction i with
  | zero => simp [seenL] at h
  | succ i ih =>
    by_cases hi : least (kerB xs) i = i
    · rw [seenL_new hi] at h ⊢
      by_cases e : m < (seenL xs i).length
      · obtain ⟨j, h1, h2, h3, h4⟩ := ih e
        refine ⟨j, by omega, h2, h3, ?_⟩
        rw [List.getD_eq_getElem?_getD, List.getElem?_append_left e, ← List.getD_eq_getElem?_getD]
        exact h4
      · have hm : m = (seenL xs i).length := by simp at h; rw [length_seenL] at *; omega
        refine ⟨i, by omega, hi, by rw [hm, length_seenL], ?_⟩
        rw [hm, List.getD_eq_getElem?_getD, List.getElem?_append_right (Nat.le_refl _)]
        simp
    · rw [seenL_old hi] at h ⊢
      obtain ⟨j, h1, h2, h3, h4⟩ := ih h
      exact ⟨j, by omega, h2, h3, h4⟩
theorem seen_find {xs : List Int} {i m : Nat} (h : m < (seenL xs i).length) : (seenL xs i).getD m 0 = xs.getD i 0 ↔ (least (kerB xs) i < i ∧ m = reps (kerB xs) (least (kerB xs) i)) := by
  have e := kerB_eqv xs (i + 1)
  obtain ⟨j, h1, h2, h3, h4⟩ := seenL_at h
  rw [h4]
  constructor
  · intro hx
    have hl : least (kerB xs) i = j := by
      have := (least_congr_mate (j := i) e (i := j) (by omega) (by omega)).2 (by simp only [kerB, beq_iff_eq]; exact hx)
      omega
    rw [hl]; exact ⟨h1, h3.symm⟩
  · rintro ⟨hl, hm⟩
    have hli := least_idem (K := kerB xs) (i := i) e (by omega)
    have hmate := (least_mate (i := i) e (by omega)).1
    simp only [kerB, beq_iff_eq] at hmate
    have : j = least (kerB xs) i := by
      rcases Nat.lt_trichotomy j (least (kerB xs) i) with hh | hh | hh
      · have h5 := reps_mono (K := kerB xs) (a := j + 1) hh
        rw [reps_succ, if_pos h2] at h5
        omega
      · exact hh
      · have h5 := reps_mono (K := kerB xs) (a := least (kerB xs) i + 1) hh
        rw [reps_succ, if_pos hli] at h5
        omega
    rw [this, hmate]
theorem seen_none {xs : List Int} {i : Nat} : (∀ m, m < (seenL xs i).length → (seenL xs i).getD m 0 ≠ xs.getD i 0) ↔ least (kerB xs) i = i := by
  constructor
  · intro h
    have hl := least_le (kerB xs) i
    refine Classical.byContradiction fun hne => ?_
    have hli := least_idem (K := kerB xs) (i := i) (kerB_eqv xs (i + 1)) (by omega)
    have hlt : reps (kerB xs) (least (kerB xs) i) < (seenL xs i).length := by
      rw [length_seenL]
      have h5 := reps_mono (K := kerB xs) (a := least (kerB xs) i + 1) (b := i) (by omega)
      rw [reps_succ, if_pos hli] at h5
      omega
    exact h _ hlt ((seen_find hlt).2 ⟨by omega, rfl⟩)
  · intro h m hm hx
    have := ((seen_find hm).1 hx).1
    omega

def idxL (xs : List Int) (v : Int) : Int := match firstN xs.length fun i => xs.getD i 0 == v with | some i => (i : Int) | none => -1
theorem idxL_some {xs : List Int} {v : Int} {i : Nat} (hi : i < xs.length) (h : xs.getD i 0 = v) (hb : ∀ j, j < i → ¬ xs.getD j 0 = v) : idxL xs v = i := by
  unfold idxL; rw [firstN_some hi (by simpa using h) fun j hj => by simpa using hb j hj]
theorem idxL_none {xs : List Int} {v : Int} (h : ∀ j, j < xs.length → ¬ xs.getD j 0 = v) : idxL xs v = -1 := by
  unfold idxL; rw [firstN_none fun j hj => by simpa using h j hj]
structure Forest (j : List Int) : Prop where
  up : ∀ x, x < j.length → 0 ≤ j.getD x 0 ∧ j.getD x 0 ≤ (x : Int)
end Go.GL
namespace Go.Proofs.Ytddjdkpjfpnjiaa
open Go Go.GL Go.RowKit Go.Proofs
variable [MainFlag]
theorem l01Index_c {a : Option Addr} {xs : List Int} {n : Int} {H : GHeap} (h : Ints H a xs := by assumption) (hl : xs.length ≤ 16777216 := by omega) :
    GCalls Try.prog 52 [.slice a xs.length xs.length, .int .i64 n] H (Ret (.int .i64 (idxL xs n)) H) := by
  refine GCalls.body (N := 19) (rs := [.tmp 4]) Try.func52 rfl rfl rfl rfl (fun Qx b hend => ?_)
  refine .fg [0, 1] rfl ?_
  refine .seq (fun K1 g => .region (.mv rfl (.nil (g _ _ (.seq (fun K2 o => .seq (fun K3 s => .region (.mv rfl (.nil (s _ _ (.block ?_)))))))))))
  refine .loopF (σ := Nat) [0, 1] (fun k => [(5, some (.int .i64 (k : Int)))]) (fun k H' => H = H' ∧ (k : Int) ≤ xs.length ∧ ∀ i, i < k → ¬ xs.getD i 0 = n) (fun k => (xs.length - k : Int).toNat) (0) rfl (.p rfl) ?_ ?_
  ·
   refine ⟨rfl, ?_⟩
   exact ⟨by omega, fun _ _ => by omega⟩
  rintro k _ ⟨rfl, hI⟩ _ d
  dsimp only [cA, nA]
  obtain ⟨_, e⟩ := hI
  refine .seq (fun K4 t => .seq (fun K5 f => .region (.mv rfl (.mv rfl (.q rfl (.len sl_22_A rfl) (.q rfl (.cmp rfl rfl rfl) (.nil (f _ _ ?_))))))))
  refine .cond rfl ?_ ?_ <;> intro h9
  ·
   try simp only [sps] at h9
   refine .skip (t _ _ (.seq (fun K6 u => .block (.seq (fun K7 m => .region (.mv rfl (.mv rfl (.q rfl (.iN sl_22_A rfl rfl) (.q rfl (.lI on_2_A rfl) (.mv rfl (.q rfl (.cmp rfl rfl rfl) (.nil (m _ _ ?_)))))))))))))
   refine .cond rfl ?_ ?_ <;> intro c
   ·
    try simp only [sps] at c
    refine .seq (fun K8 l => .region (.mv rfl (.mv rfl (.nil (l _ _ (.ret (b _ _ (⟨_, rfl, ?_⟩))))))))
    exact .of (congrArg _ (idxL_some (by omega) c e))
   try simp only [sps] at c
   refine .skip (u _ _ (.region (.mv rfl (.q rfl (.aD rfl rfl rfl) (.mv rfl (.nil ?_))))))
   refine d (k + 1) _ _ ?_ ?_ (.p rfl)
   ·
    refine ⟨rfl, ?_⟩
    refine ⟨by omega, fun i hx => ?_⟩
    by_cases hltq : i < k
    · exact e i hltq
    · obtain rfl : i = k := by omega
      exact c
   omega
  try simp only [sps] at h9
  refine .exit (o _ _ (.seq (fun K9 r => .region (.mv rfl (.nil (r _ _ (.ret (b _ _ (⟨_, rfl, ?_⟩)))))))))
  exact .of (congrArg _ (idxL_none fun j hj => e j (by omega)))
end Go.Proofs.Ytddjdkpjfpnjiaa
namespace Go.Proofs.Ytddjdkpjfpnjiaa
open Go Go.GL Go.RowKit Go.Proofs
variable [MainFlag]
end Go.Proofs.Ytddjdkpjfpnjiaa
namespace Go.GL
variable [MainFlag]

structure StM (lo hi : Nat) (H H' : GHeap) : Prop where
  nx : H.next ≤ H'.next
  same : ∀ k o, ¬ (lo ≤ k ∧ k < hi) → H.get k = some o → H'.get k = some o
  ins : ∀ k o, H.get k = some o → ∃ o', H'.get k = some o' ∧ (o' = o ∨ ∃ xs ys e, o = .row (ints xs) e true ∧ o' = .row (ints ys) e true ∧ ys.length = xs.length)
theorem StM.refl (lo hi : Nat) (H : GHeap) : StM lo hi H H := ⟨Nat.le_refl _, fun _ _ _ h => h, fun _ o h => ⟨o, h, .inl rfl⟩⟩
theorem StM.of_le {lo hi : Nat} {H H' : GHeap} (h : H.Le H') : StM lo hi H H' := ⟨h.1, fun k o _ ho => h.2 k o ho, fun _ o ho => ⟨o, h.2 _ _ ho, .inl rfl⟩⟩
theorem ints_inj {xs ys : List Int} (h : ints xs = ints ys) : xs = ys := by
  unfold ints at h
  exact (List.map_inj_right (fun a b hab => by cases hab; rfl)).1 h
theorem StM.trans {lo hi : Nat} {A B C : GHeap} (h : StM lo hi A B) (k : StM lo hi B C) : StM lo hi A C where
  nx := Nat.le_trans h.nx k.nx
  same g o hg ho := k.same g o hg (h.same g o hg ho)
  ins g o ho := by
    obtain ⟨o1, h1, h2⟩ := h.ins g o ho
    obtain ⟨o2, k1, k2⟩ := k.ins g o1 h1
    refine ⟨o2, k1, ?_⟩
    rcases h2 with rfl | ⟨xs, ys, e, rfl, rfl, hl⟩
    · exact k2
    · rcases k2 with rfl | ⟨us, vs, e', h3, rfl, hl'⟩
      · exact .inr ⟨xs, ys, e, rfl, rfl, hl⟩
      · injection h3 with h3 h4 h5
        have := ints_inj h3
        subst this
        subst h4
        exact .inr ⟨xs, vs, _, rfl, rfl, by rw [hl', hl]⟩
theorem StM.le_left {lo hi : Nat} {A B C : GHeap} (h : A.Le B) (k : StM lo hi B C) (hA : A.next ≤ lo) : A.Le C :=
  ⟨Nat.le_trans h.1 k.nx, fun g o ho => k.same g o (by have := GHeap.ltg ho; omega) (h.2 g o ho)⟩
theorem Keep.stM {b lo hi : Nat} {H0 H H' : GHeap} (k : Keep b H0 H) (h : StM lo hi H H') (hg : ∀ k, b ≤ k → k < H0.next → ¬ (lo ≤ k ∧ k < hi)) : Keep b H0 H' := fun g o hb h1 => h.same g o (hg g hb (GHeap.ltg h1)) (k g o hb h1)

def IntsW (lo hi : Nat) (H : GHeap) (a : Option Addr) (n : Nat) : Prop := n = 0 ∨ ∃ g e xs, a = some ⟨g, 0, none⟩ ∧ lo ≤ g ∧ g < hi ∧ H.get g = some (.row (ints xs) e true) ∧ xs.length = n
theorem IntsW.stm {lo hi : Nat} {H H' : GHeap} {a : Option Addr} {n : Nat} (h : IntsW lo hi H a n) (s : StM lo hi H H') : IntsW lo hi H' a n := by
  rcases h with h | ⟨g, e, xs, h1, h2, h3, h4, h5⟩
  · exact .inl h
  · obtain ⟨o', k1, k2⟩ := s.ins g _ h4
    rcases k2 with rfl | ⟨us, vs, e', h6, rfl, hl⟩
    · exact .inr ⟨g, e, xs, h1, h2, h3, k1, h5⟩
    · injection h6 with h6 h7 h8
      have := ints_inj h6
      subst this
      exact .inr ⟨g, e', vs, h1, h2, h3, k1, by rw [hl, h5]⟩
theorem IntsW.of_at {b : Nat} {H0 H : GHeap} {a : Option Addr} {xs : List Int} (h : IntsAt b H0 a xs) (k : Keep b H0 H) : IntsW b H0.next H a xs.length := by
  obtain ⟨g, e, h1, h2, h3⟩ := h
  exact .inr ⟨g, e, xs, h1, h2, GHeap.ltg h3, k g _ h2 h3, rfl⟩
def HdGe (b : Nat) (a : Option Addr) (n : Nat) : Prop := n = 0 ∨ ∃ g o, a = some ⟨g, o, none⟩ ∧ b ≤ g
theorem SlA.keep {b b' : Nat} {H H' : GHeap} {a : Option Addr} {n : Nat} {f : Nat → Value} (h : SlA H a n f) (hd : HdGe b a n) (k : Keep b' H H') (hb : b' ≤ b) : SlA H' a n f := by
  rcases hd with h0 | ⟨g, o, rfl, hg⟩
  · exact .inl h0
  · rcases h with h0 | ⟨g', o', e, hc⟩
    · exact .inl h0
    · cases e
      refine .inr ⟨g, o, rfl, fun i hi => ?_⟩
      have h1 := hc i hi
      unfold GHeap.cell at h1 ⊢
      cases hx : H.get g with
      | none => rw [hx] at h1; cases h1
      | some x => rw [hx] at h1; rw [k g x (by omega) hx]; exact h1
def IntssW (lo hi : Nat) (H : GHeap) (a : Option Addr) (xss : List (List Int)) (r : Nat → Option Addr) : Prop :=
  SlA H a xss.length (fun i => .slice (r i) (xss.getD i []).length (xss.getD i []).length) ∧ (∀ i, i < xss.length → IntsW lo hi H (r i) (xss.getD i []).length) ∧ HdGe lo a xss.length
theorem SlA.stm {lo hi : Nat} {H H' : GHeap} {a : Option Addr} {n : Nat} {f : Nat → Value} (h : SlA H a n f) (s : StM lo hi H H') (hf : ∀ i m, f i ≠ .int .i64 m) : SlA H' a n f := by
  rcases h with h | ⟨g, o, e, h⟩
  · exact .inl h
  · refine .inr ⟨g, o, e, fun i hi => ?_⟩
    have hc := h i hi
    unfold GHeap.cell at hc ⊢
    split at hc
    · rename_i cs el own hg
      obtain ⟨o', k1, k2⟩ := s.ins g _ hg
      rw [k1]
      rcases k2 with rfl | ⟨us, vs, e', h6, rfl, hl⟩
      · exact hc
      · injection h6 with h6 h7 h8
        subst h6
        exfalso
        simp only [ints, List.getElem?_map, Option.map_eq_some_iff] at hc
        obtain ⟨m, _, hm⟩ := hc
        exact hf i m hm.symm
    · cases hc
theorem IntssW.stm {lo hi : Nat} {H H' : GHeap} {a : Option Addr} {xss : List (List Int)} {r : Nat → Option Addr} (h : IntssW lo hi H a xss r) (s : StM lo hi H H') : IntssW lo hi H' a xss r :=
  ⟨h.1.stm s fun i m e => (by cases e), fun i hi => (h.2.1 i hi).stm s, h.2.2⟩
theorem IntssW.of_at {b : Nat} {H0 H : GHeap} {a : Option Addr} {xss : List (List Int)} {r : Nat → Option Addr} (h : IntssAt b H0 a xss r) (k : Keep b H0 H) : IntssW b H0.next H a xss r :=
  ⟨(h.keep k (Nat.le_refl _)).intss.1, fun i hi => by obtain ⟨g, e, cs, _, _, _, _, _, h6⟩ := h; exact .of_at (h6 i hi) k, by obtain ⟨g, e, cs, h1, h2, _⟩ := h; exact .inr ⟨g, 0, h1, h2⟩⟩
def sumL : List (List Int) → Nat
  | [] => 0
  | xs :: r => xs.length + sumL r
theorem sumL_take_succ {xss : List (List Int)} {k : Nat} (h : k < xss.length) : sumL (xss.take (k + 1)) = sumL (xss.take k) + (xss.getD k []).length := by
  induction xss generalizing k with
  | nil => simp at h
  | cons x r ih =>
    cases k with
    | zero => simp [sumL]
    | succ k =>
      have := ih (k := k) (by simpa using h)
      simp only [List.take_succ_cons, sumL, List.getD_cons_succ]
      omega
theorem sumL_le {m : Nat} : ∀ {xss : List (List Int)}, (∀ i, (xss.getD i []).length ≤ m) → sumL xss ≤ xss.length * m
  | [], _ => by simp [sumL]
  | x :: r, h => by
    have h0 := h 0
    have := sumL_le (xss := r) fun i => by simpa using h (i + 1)
    simp only [sumL, List.length_cons, Nat.add_mul]
    simp at h0
    omega
theorem sumL_take_le {xss : List (List Int)} {k : Nat} : sumL (xss.take k) ≤ sumL xss := by
  induction xss generalizing k with
  | nil => simp
  | cons x r ih =>
    cases k with
    | zero => simp [sumL]
    | succ k => simp only [List.take_succ_cons, sumL]; have := ih (k := k); omega
def Cat.total (c : Cat) : Nat := c.src.length + (c.tgt.length + (c.idn.length + sumL c.comp))
def CatW (lo hi : Nat) (H : GHeap) (c : Cat) (p : CatP) : Prop := IntsW lo hi H p.a1 c.src.length ∧ IntsW lo hi H p.a2 c.tgt.length ∧ IntsW lo hi H p.a3 c.idn.length ∧ IntssW lo hi H p.a4 c.comp p.r
theorem CatW.stm {lo hi : Nat} {H H' : GHeap} {c : Cat} {p : CatP} (h : CatW lo hi H c p) (s : StM lo hi H H') : CatW lo hi H' c p := ⟨h.1.stm s, h.2.1.stm s, h.2.2.1.stm s, h.2.2.2.stm s⟩
theorem CatW.of_at {b : Nat} {H0 H : GHeap} {c : Cat} {p : CatP} (h : CatAt b H0 c p) (k : Keep b H0 H) : CatW b H0.next H c p := ⟨.of_at h.1 k, .of_at h.2.1 k, .of_at h.2.2.1 k, .of_at h.2.2.2 k⟩
def Fun.total (f : Fun) : Nat := f.s.total + (f.t.total + (f.ob.length + f.ar.length))
def FunW (lo hi : Nat) (H : GHeap) (f : Fun) (p : FunP) : Prop := CatW lo hi H f.s p.s ∧ CatW lo hi H f.t p.t ∧ IntsW lo hi H p.b1 f.ob.length ∧ IntsW lo hi H p.b2 f.ar.length
theorem FunW.of_at {b : Nat} {H0 H : GHeap} {c : Fun} {p : FunP} (h : FunAt b H0 c p) (k : Keep b H0 H) : FunW b H0.next H c p := ⟨.of_at h.1 k, .of_at h.2.1 k, .of_at h.2.2.1 k, .of_at h.2.2.2 k⟩
def Con.total (c : Con) : Nat := c.lg.length
def seqL (k : Int) (n : Nat) : List Int := (List.range n).map fun (i : Nat) => k + (i : Int)
@[simp] theorem length_seqL (k : Int) (n : Nat) : (seqL k n).length = n := by simp [seqL]
theorem seqL_get {k : Int} {n i : Nat} (h : i < n) : (seqL k n).getD i 0 = k + i := by simp [seqL, List.getD_eq_getElem?_getD, h]
abbrev Leaf := Option Addr × Nat
def lvBlk : Leaf → List Nat
  | (some a, _ + 1) => [a.block]
  | _ => []
def lvBlks (ls : List Leaf) : List Nat := ls.flatMap lvBlk
def lvSum : List Leaf → Nat
  | [] => 0
  | l :: r => l.2 + lvSum r
def Live1 (b : Nat) (H : GHeap) (l : Leaf) : Prop := l.2 = 0 ∨ ∃ g e xs, l.1 = some ⟨g, 0, none⟩ ∧ b ≤ g ∧ H.get g = some (.row (ints xs) e true) ∧ xs.length = l.2
def Held (b : Nat) (H : GHeap) : List Leaf → Int → Prop
  | [], _ => True
  | l :: r, k => (l.2 = 0 ∨ ∃ g e, l.1 = some ⟨g, 0, none⟩ ∧ b ≤ g ∧ H.get g = some (.row (ints (seqL k l.2)) e true)) ∧ Held b H r (k + l.2)
theorem Held.keep0 {b : Nat} {H H' : GHeap} : ∀ {ls : List Leaf} {k : Int}, Held b H ls k → Keep b H H' → Held b H' ls k
  | [], _, _, _ => trivial
  | _ :: _, _, h, hk => ⟨h.1.imp id fun ⟨g, e, h1, h2, h3⟩ => ⟨g, e, h1, h2, hk g _ h2 h3⟩, Held.keep0 h.2 hk⟩
theorem Held.append {b : Nat} {H : GHeap} : ∀ {ls ms : List Leaf} {k : Int}, Held b H ls k → Held b H ms (k + lvSum ls) → Held b H (ls ++ ms) k
  | [], _, _, _, h => by simpa [lvSum] using h
  | l :: r, ms, k, h, h' => ⟨h.1, Held.append h.2 (by rw [show k + (l.2 : Int) + (lvSum r : Int) = k + (lvSum (l :: r) : Int) by simp [lvSum]; omega]; exact h')⟩
structure StB (bs : List Nat) (H H' : GHeap) : Prop where
  nx : H.next ≤ H'.next
  same : ∀ k o, ¬ k ∈ bs → H.get k = some o → H'.get k = some o
theorem StB.refl (bs : List Nat) (H : GHeap) : StB bs H H := ⟨Nat.le_refl _, fun _ _ _ h => h⟩
theorem StB.trans {bs cs : List Nat} {A B C : GHeap} (h : StB bs A B) (k : StB cs B C) : StB (bs ++ cs) A C :=
  ⟨Nat.le_trans h.nx k.nx, fun g o hg ho => k.same g o (fun hc => hg (List.mem_append_right _ hc)) (h.same g o (fun hc => hg (List.mem_append_left _ hc)) ho)⟩
theorem Live1.blk {b : Nat} {H : GHeap} {l : Leaf} (h : Live1 b H l) {g : Nat} {e : TypeId} {xs : List Int} (h1 : l.1 = some ⟨g, 0, none⟩) (hn : l.2 ≠ 0) : g ∈ lvBlk l := by
  obtain ⟨a, n⟩ := l
  simp only at h1 hn
  subst h1
  cases n with
  | zero => exact absurd rfl hn
  | succ n => simp [lvBlk]
theorem Held.stB {b : Nat} {H H' : GHeap} {bs : List Nat} (s : StB bs H H') : ∀ {ls : List Leaf} {k : Int}, Held b H ls k → (∀ g ∈ lvBlks ls, ¬ g ∈ bs) → Held b H' ls k
  | [], _, _, _ => trivial
  | l :: r, k, h, hd => by
    refine ⟨?_, Held.stB s h.2 fun g hg => hd g (by simp only [lvBlks, List.flatMap_cons, List.mem_append]; exact .inr hg)⟩
    by_cases hn : l.2 = 0
    · exact .inl hn
    · rcases h.1 with h0 | ⟨g, e, h1, h2, h3⟩
      · exact .inl h0
      · have hl : Live1 b H l := .inr ⟨g, e, _, h1, h2, h3, by simp⟩
        exact .inr ⟨g, e, h1, h2, s.same g _ (hd g (by simp only [lvBlks, List.flatMap_cons, List.mem_append]; exact .inl (hl.blk (e := e) (xs := seqL k l.2) h1 hn))) h3⟩
theorem lvBlks_append (ls ms : List Leaf) : lvBlks (ls ++ ms) = lvBlks ls ++ lvBlks ms := by simp [lvBlks]
theorem lvSum_append : ∀ (ls ms : List Leaf), lvSum (ls ++ ms) = lvSum ls + lvSum ms
  | [], ms => by simp [lvSum]
  | l :: r, ms => by simp only [List.cons_append, lvSum, lvSum_append r ms]; omega

def IntsR (b : Nat) (H : GHeap) (a : Option Addr) (xs : List Int) : Prop := (xs = [] ∧ a = none) ∨ IntsAt b H a xs
theorem IntsR.keep {b b' : Nat} {H H' : GHeap} {a : Option Addr} {xs : List Int} (h : IntsR b H a xs) (k : Keep b' H H') (hb : b' ≤ b) : IntsR b' H' a xs := h.imp id fun h => h.keep k hb
theorem IntsR.ints {b : Nat} {H : GHeap} {a : Option Addr} {xs : List Int} (h : IntsR b H a xs) : Ints H a xs := by
  rcases h with ⟨rfl, _⟩ | h
  · exact .inl rfl
  · exact h.ints
def Con.leaves (c : Con) (p : ConP) : List Leaf := [(p.a1, c.lg.length)]
theorem Held.keep {b b' : Nat} {H H' : GHeap} {ls : List Leaf} {k : Int} (h : Held b H ls k) (hk : Keep b' H H') (hb : b' ≤ b) : Held b H' ls k := h.keep0 fun g o hg ho => hk g o (by omega) ho
theorem Held.app {b : Nat} {H : GHeap} : ∀ {ls ms : List Leaf} {k : Int}, Held b H (ls ++ ms) k → Held b H ls k ∧ Held b H ms (k + lvSum ls)
  | [], ms, k, h => ⟨trivial, by simpa [lvSum] using h⟩
  | l :: r, ms, k, h => by
    obtain ⟨h1, h2⟩ := Held.app (ls := r) h.2
    exact ⟨⟨h.1, h1⟩, by rw [show k + (lvSum (l :: r) : Int) = k + (l.2 : Int) + (lvSum r : Int) by simp [lvSum]; omega]; exact h2⟩
theorem Held.ints {b : Nat} {H : GHeap} {a : Option Addr} {n : Nat} {k : Int} (h : Held b H [(a, n)] k) : Ints H a (seqL k n) := by
  rcases h.1 with h0 | ⟨g, e, h1, h2, h3⟩
  · simp only at h0; subst h0; exact .inl (by simp)
  · simp only at h1 h3; subst h1; exact Ints.of_get h3

structure Marked (lo hi : Nat) (H H' : GHeap) (ls : List Leaf) (k : Int) : Prop where
  stm : StM lo hi H H'
  stb : StB (lvBlks ls) H H'
  held : (lvBlks ls).Nodup → Held lo H' ls k
theorem Marked.nil (lo hi : Nat) (H : GHeap) (k : Int) : Marked lo hi H H [] k := ⟨.refl _ _ _, .refl _ _, fun _ => trivial⟩
theorem Marked.app {lo hi : Nat} {A B C : GHeap} {ls ms : List Leaf} {k : Int} (h : Marked lo hi A B ls k) (h' : Marked lo hi B C ms (k + lvSum ls)) : Marked lo hi A C (ls ++ ms) k where
  stm := h.stm.trans h'.stm
  stb := by rw [lvBlks_append]; exact h.stb.trans h'.stb
  held := fun nd => by
    rw [lvBlks_append, List.nodup_append] at nd
    exact ((h.held nd.1).stB h'.stb fun g hg hg' => nd.2.2 g hg g hg' rfl).append (h'.held nd.2.1)
theorem Marked.le_left {lo hi : Nat} {A B C : GHeap} {ls : List Leaf} {k : Int} (h : A.Le B) (m : Marked lo hi B C ls k) : Marked lo hi A C ls k :=
  ⟨⟨Nat.le_trans h.1 m.stm.nx, fun g o hg ho => m.stm.same g o hg (h.2 g o ho), fun g o ho => m.stm.ins g o (h.2 g o ho)⟩, ⟨Nat.le_trans h.1 m.stb.nx, fun g o hg ho => m.stb.same g o hg (h.2 g o ho)⟩, m.held⟩
theorem Marked.one {lo hi g : Nat} {H H' : GHeap} {e : TypeId} {xs : List Int} {k : Int} (hlo : lo ≤ g) (hhi : g < hi) (h0 : H.get g = some (.row (ints xs) e true)) (s : St [g] H H') (h1 : H'.get g = some (.row (ints (seqL k xs.length)) e true)) (hn : xs.length ≠ 0) :
    Marked lo hi H H' [(some ⟨g, 0, none⟩, xs.length)] k where
  stm := ⟨s.nx, fun i o hi ho => s.same i o ⟨by omega, trivial⟩ ho, fun i o ho => by
    by_cases hi : i = g
    · subst hi
      rw [h0] at ho; cases ho
      exact ⟨_, h1, .inr ⟨xs, seqL k xs.length, e, rfl, rfl, by simp⟩⟩
    · exact ⟨o, s.same i o ⟨hi, trivial⟩ ho, .inl rfl⟩⟩
  stb := ⟨s.nx, fun i o hi ho => s.same i o ⟨fun e' => hi (by
    subst e'
    cases hx : xs.length with
    | zero => exact absurd hx hn
    | succ m => simp [lvBlks, lvBlk]), trivial⟩ ho⟩
  held := fun _ => ⟨.inr ⟨g, e, rfl, hlo, h1⟩, trivial⟩
def rowsL (r : Nat → Option Addr) (xss : List (List Int)) (n : Nat) : List Leaf := (List.range n).map fun i => (r i, (xss.getD i []).length)
theorem rowsL_succ (r : Nat → Option Addr) (xss : List (List Int)) (n : Nat) : rowsL r xss (n + 1) = rowsL r xss n ++ [(r n, (xss.getD n []).length)] := by simp [rowsL, List.range_succ]
theorem lvSum_rowsL (r : Nat → Option Addr) (xss : List (List Int)) : ∀ n, n ≤ xss.length → lvSum (rowsL r xss n) = sumL (xss.take n)
  | 0, _ => by simp [rowsL, lvSum, sumL]
  | n + 1, h => by rw [rowsL_succ, lvSum_append, lvSum_rowsL r xss n (by omega), sumL_take_succ (by omega)]; simp [lvSum]
def Cat.leaves (c : Cat) (p : CatP) : List Leaf := [(p.a1, c.src.length)] ++ ([(p.a2, c.tgt.length)] ++ ([(p.a3, c.idn.length)] ++ rowsL p.r c.comp c.comp.length))
theorem Cat.lvSum_leaves (c : Cat) (p : CatP) : lvSum (c.leaves p) = c.total := by
  simp only [Cat.leaves, lvSum_append, lvSum, lvSum_rowsL p.r c.comp _ (Nat.le_refl _), List.take_length, Cat.total, Nat.add_zero]
def Fun.leaves (f : Fun) (p : FunP) : List Leaf := f.s.leaves p.s ++ (f.t.leaves p.t ++ ([(p.b1, f.ob.length)] ++ [(p.b2, f.ar.length)]))
theorem Cat.total_le {c : Cat} (h : c.Small) : c.total ≤ 3 * 1048576 + 1048576 * 1048576 := by
  obtain ⟨h1, h2, h3, h4, h5, _⟩ := h
  have := sumL_le (m := 1048576) h5
  have h6 : c.comp.length * 1048576 ≤ 1048576 * 1048576 := Nat.mul_le_mul_right _ h4
  unfold Cat.total
  omega
theorem Marked.app' {lo hi : Nat} {A B C : GHeap} {ls ms : List Leaf} {k k' : Int} (h : Marked lo hi A B ls k) (h' : Marked lo hi B C ms k') (e : k' = k + lvSum ls) : Marked lo hi A C (ls ++ ms) k := by subst e; exact h.app h'
theorem IntsW.of_r {b : Nat} {H0 H : GHeap} {a : Option Addr} {xs : List Int} (h : IntsR b H0 a xs) (k : Keep b H0 H) : IntsW b H0.next H a xs.length := by
  rcases h with ⟨rfl, _⟩ | h
  · exact .inl rfl
  · exact .of_at h k
theorem IntsW.keep {lo lo' hi : Nat} {H H' : GHeap} {a : Option Addr} {n : Nat} (h : IntsW lo hi H a n) (k : Keep lo' H H') (hb : lo' ≤ lo) : IntsW lo hi H' a n := h.imp id fun ⟨g, e, xs, h1, h2, h3, h4, h5⟩ => ⟨g, e, xs, h1, h2, h3, k g _ (by omega) h4, h5⟩
theorem IntssW.keep {lo lo' hi : Nat} {H H' : GHeap} {a : Option Addr} {xss : List (List Int)} {r : Nat → Option Addr} (h : IntssW lo hi H a xss r) (k : Keep lo' H H') (hb : lo' ≤ lo) : IntssW lo hi H' a xss r := ⟨h.1.keep h.2.2 k hb, fun i hi => (h.2.1 i hi).keep k hb, h.2.2⟩
theorem CatW.keep {lo lo' hi : Nat} {H H' : GHeap} {c : Cat} {p : CatP} (h : CatW lo hi H c p) (k : Keep lo' H H') (hb : lo' ≤ lo) : CatW lo hi H' c p := ⟨h.1.keep k hb, h.2.1.keep k hb, h.2.2.1.keep k hb, h.2.2.2.keep k hb⟩
theorem Cat.Small.tot {c : Cat} (h : c.Small) : c.total ≤ 3 * 1048576 + 1048576 * 1048576 := Cat.total_le h
theorem Fun.Small.tot {c : Fun} (h : c.Small) : c.total ≤ 8 * 1048576 + 2 * 1048576 * 1048576 := by
  obtain ⟨h1, h2, h3, h4⟩ := h
  have := h1.tot
  have := h2.tot
  unfold Fun.total
  omega
end Go.GL
namespace Go.GL
variable [MainFlag]

def Rising (xs : List Int) : Prop := ∀ i, 1 ≤ i → i < xs.length → xs.getD (i - 1) 0 < xs.getD i 0
structure SFun.Part (f : SFun) (me : List (List Int)) : Prop where
  pl : me.length = f.sz.length
  rs : ∀ x, x < me.length → Rising (me.getD x []) ∧ allIn (me.getD x []) (f.sz.getD x 0) = true
  cl : ∀ a, a < f.ac.length → ∀ i, i < (me.getD (f.sh.src.getD a 0).toNat []).length → (me.getD (f.sh.tgt.getD a 0).toNat []).contains ((f.ac.getD a []).getD ((me.getD (f.sh.src.getD a 0).toNat []).getD i 0).toNat 0) = true
end Go.GL
namespace Go.GL
variable [MainFlag]

def SFun.total (f : SFun) : Nat := f.sh.total + (f.sz.length + sumL f.ac)
def SFun.leaves (f : SFun) (p : SFunP) : List Leaf := f.sh.leaves p.sh ++ ([(p.a1, f.sz.length)] ++ rowsL p.r2 f.ac f.ac.length)
def SMap.total (f : SMap) : Nat := f.s.total + (f.t.total + sumL f.pa)
def SMap.leaves (f : SMap) (p : SMapP) : List Leaf := f.s.leaves p.s ++ (f.t.leaves p.t ++ rowsL p.r2 f.pa f.pa.length)
def Prt.total (f : Prt) : Nat := sumL f.me
def Prt.leaves (f : Prt) (p : PrtP) : List Leaf := rowsL p.r0 f.me f.me.length
def NoTwo (xss : List (List Int)) (r : Nat → Option Addr) : Prop := (lvBlks (rowsL r xss xss.length)).Nodup
def IntssR (b : Nat) (H : GHeap) (a : Option Addr) (xss : List (List Int)) (r : Nat → Option Addr) : Prop := ((xss = [] ∧ a = none) ∨ IntssAt b H a xss r) ∧ NoTwo xss r
theorem IntssR.keep {b b' : Nat} {H H' : GHeap} {a : Option Addr} {xs : List (List Int)} {r : Nat → Option Addr} (h : IntssR b H a xs r) (k : Keep b' H H') (hb : b' ≤ b) : IntssR b' H' a xs r := ⟨h.1.imp id fun h => h.keep k hb, h.2⟩
theorem IntssR.intss {b : Nat} {H : GHeap} {a : Option Addr} {xs : List (List Int)} {r : Nat → Option Addr} (h : IntssR b H a xs r) : Intss H a xs r := by
  rcases h.1 with ⟨rfl, rfl⟩ | h
  · exact ⟨.inl rfl, fun i hi => by simp at hi⟩
  · exact h.intss
theorem IntssR.nil (b : Nat) (H : GHeap) (r : Nat → Option Addr) : IntssR b H none [] r := ⟨.inl ⟨rfl, rfl⟩, by simp [NoTwo, lvBlks, rowsL]⟩
theorem IntssW.of_r {b : Nat} {H0 H : GHeap} {a : Option Addr} {xs : List (List Int)} {r : Nat → Option Addr} (h : IntssR b H0 a xs r) (k : Keep b H0 H) : IntssW b H0.next H a xs r := by
  rcases h.1 with ⟨rfl, rfl⟩ | h
  · exact ⟨.inl rfl, fun i hi => by simp at hi, .inl rfl⟩
  · exact .of_at h k
def slsOf (r : Nat → Option Addr) (X : Nat → List Int) (k : Nat) : List Value := (List.range k).map fun i => .slice (r i) (X i).length (X i).length
@[simp] theorem length_slsOf (r : Nat → Option Addr) (X : Nat → List Int) (k : Nat) : (slsOf r X k).length = k := by simp [slsOf]
def upd (r : Nat → Option Addr) (k : Nat) (a : Option Addr) : Nat → Option Addr := fun i => if i = k then a else r i
theorem upd_eq (r : Nat → Option Addr) (k : Nat) (a : Option Addr) : upd r k a k = a := by simp [upd]
theorem upd_ne {r : Nat → Option Addr} {k i : Nat} {a : Option Addr} (h : i ≠ k) : upd r k a i = r i := by simp [upd, h]
theorem slsOf_succ {r : Nat → Option Addr} {X : Nat → List Int} {k : Nat} {a : Option Addr} : slsOf (upd r k a) X (k + 1) = slsOf r X k ++ [.slice a (X k).length (X k).length] := by
  unfold slsOf
  rw [List.range_succ, List.map_append]
  congr 1
  · refine List.map_congr_left fun i hi => ?_
    rw [upd_ne (by have := List.mem_range.1 hi; omega)]
  · simp [upd_eq]
structure OwnRows (b : Nat) (H : GHeap) (e : TypeId) (r : Nat → Option Addr) (X : Nat → List Int) (k : Nat) : Prop where
  row : ∀ i, i < k → ∃ g, r i = some ⟨g, 0, none⟩ ∧ b ≤ g ∧ H.get g = some (.row (ints (X i)) e true)
  inj : ∀ i j, i < k → j < k → r i = r j → i = j
theorem OwnRows.zero (b : Nat) (H : GHeap) (e : TypeId) (r : Nat → Option Addr) (X : Nat → List Int) : OwnRows b H e r X 0 := ⟨fun i hi => by omega, fun i j hi => by omega⟩
theorem mem_lvBlk {g n x : Nat} (h : x ∈ lvBlk (some ⟨g, 0, none⟩, n)) : x = g := by
  cases n with
  | zero => simp [lvBlk] at h
  | succ n => simpa [lvBlk] using h
theorem lvBlks_rowsL {r : Nat → Option Addr} {xss : List (List Int)} (hr : ∀ i, i < xss.length → ∃ g, r i = some ⟨g, 0, none⟩) (hi : ∀ i j, i < xss.length → j < xss.length → r i = r j → i = j) : ∀ {n}, n ≤ xss.length →
    (lvBlks (rowsL r xss n)).Nodup ∧ ∀ g ∈ lvBlks (rowsL r xss n), ∃ i, i < n ∧ r i = some ⟨g, 0, none⟩
  | 0, _ => by simp [rowsL, lvBlks]
  | n + 1, hn => by
    obtain ⟨h1, h2⟩ := lvBlks_rowsL hr hi (n := n) (by omega)
    obtain ⟨g, hg⟩ := hr n (by omega)
    have h3 : ∀ x ∈ lvBlk (r n, (xss.getD n []).length), x = g := fun x hx => by rw [hg] at hx; exact mem_lvBlk hx
    have h4 : (lvBlk (r n, (xss.getD n []).length)).Nodup := by unfold lvBlk; split <;> simp
    have e1 : lvBlks (rowsL r xss (n + 1)) = lvBlks (rowsL r xss n) ++ lvBlk (r n, (xss.getD n []).length) := by rw [rowsL_succ, lvBlks_append]; simp [lvBlks]
    rw [e1]
    refine ⟨List.nodup_append.2 ⟨h1, h4, fun x hx y hy hxy => ?_⟩, fun x hx => ?_⟩
    · obtain ⟨i, i1, i2⟩ := h2 x hx
      have := h3 y hy
      subst hxy this
      have := hi i n (by omega) (by omega) (by rw [i2, hg])
      omega
    · rcases List.mem_append.1 hx with hx | hx
      · obtain ⟨i, i1, i2⟩ := h2 x hx
        exact ⟨i, by omega, i2⟩
      · exact ⟨n, by omega, by rw [h3 x hx]; exact hg⟩
def rowsOf (X : Nat → List Int) (n : Nat) : List (List Int) := (List.range n).map X
@[simp] theorem length_rowsOf (X : Nat → List Int) (n : Nat) : (rowsOf X n).length = n := by simp [rowsOf]
theorem rowsOf_get {X : Nat → List Int} {n i : Nat} (h : i < n) : (rowsOf X n).getD i [] = X i := by simp [rowsOf, List.getD_eq_getElem?_getD, h]
theorem OwnRows.done {b g n : Nat} {H : GHeap} {e e' : TypeId} {r : Nat → Option Addr} {X : Nat → List Int} (h : OwnRows b H e r X n) (hg : H.get g = some (.row (slsOf r X n) e' true)) (hb : b ≤ g) : IntssR b H (some ⟨g, 0, none⟩) (rowsOf X n) r := by
  refine ⟨.inr ⟨g, e', slsOf r X n, rfl, hb, hg, by simp, fun i hi => ?_, fun i hi => ?_⟩, ?_⟩
  · rw [length_rowsOf] at hi
    rw [rowsOf_get hi]
    simp [slsOf, hi]
  · rw [length_rowsOf] at hi
    rw [rowsOf_get hi]
    obtain ⟨x, h1, h2, h3⟩ := h.row i hi
    exact ⟨x, e, h1, h2, h3⟩
  · exact (lvBlks_rowsL (fun i hi => by rw [length_rowsOf] at hi; obtain ⟨x, h1, _⟩ := h.row i hi; exact ⟨x, h1⟩) (fun i j hi hj => by rw [length_rowsOf] at hi hj; exact h.inj i j hi hj) (Nat.le_refl _)).1

section
variable {P : Program} {o : Oper} {fr : Slots} {H : GHeap}
end
def SMap.backX (m : SMap) (me : List (List Int)) (x : Nat) : List Int := filtN (m.pa.getD x []).length fun e => (me.getD x []).contains ((m.pa.getD x []).getD e 0)
def SMap.backR (m : SMap) (me : List (List Int)) : List (List Int) := rowsOf (m.backX me) m.pa.length
noncomputable def SMap.back (m : SMap) (me : List (List Int)) : Prt := ⟨bif B (m.Is ∧ m.t.Part me) then m.backR me else []⟩
def SFun.pick (f : SFun) (Y : Nat → Nat → Bool) : Prt := ⟨rowsOf (fun x => filtN (f.sz.getD x 0).toNat (Y x)) f.sz.length⟩
end Go.GL
namespace Go.GL
variable [MainFlag]
def slsL (r : Nat → Option Addr) (xss : List (List Int)) : List Value := slsOf r (fun i => xss.getD i []) xss.length
@[simp] theorem length_slsL (r : Nat → Option Addr) (xss : List (List Int)) : (slsL r xss).length = xss.length := by simp [slsL]
theorem slsOf_congr {r : Nat → Option Addr} {X Y : Nat → List Int} {k : Nat} (h : ∀ i, i < k → X i = Y i) : slsOf r X k = slsOf r Y k := List.map_congr_left fun i hi => by rw [h i (List.mem_range.1 hi)]
theorem getD_snoc {α : Type} {xs : List α} {x d : α} {i : Nat} : (xs ++ [x]).getD i d = if i < xs.length then xs.getD i d else if i = xs.length then x else d := by
  rw [List.getD_eq_getElem?_getD, List.getD_eq_getElem?_getD]
  by_cases h : i < xs.length
  · rw [if_pos h, List.getElem?_append_left h]
  · rw [if_neg h, List.getElem?_append_right (by omega)]
    by_cases e : i = xs.length
    · subst e; simp
    · rw [if_neg e, List.getElem?_eq_none (by simp; omega)]; rfl
theorem slsL_snoc {r : Nat → Option Addr} {xss : List (List Int)} {x : List Int} {a : Option Addr} : slsL (upd r xss.length a) (xss ++ [x]) = slsL r xss ++ [.slice a x.length x.length] := by
  unfold slsL
  rw [List.length_append, List.length_singleton]
  rw [slsOf_succ]
  congr 1
  · refine slsOf_congr fun i hi => ?_
    rw [getD_snoc, if_pos hi]
  · rw [getD_snoc, if_neg (by omega), if_pos rfl]
def OwnL (b : Nat) (H : GHeap) (e : TypeId) (r : Nat → Option Addr) (xss : List (List Int)) : Prop := OwnRows b H e r (fun i => xss.getD i []) xss.length
theorem OwnL.nil (b : Nat) (H : GHeap) (e : TypeId) (r : Nat → Option Addr) : OwnL b H e r [] := OwnRows.zero _ _ _ _ _
theorem rowsOf_self (xss : List (List Int)) : rowsOf (fun i => xss.getD i []) xss.length = xss := by
  apply List.ext_getElem (by simp)
  intro i h1 h2
  simp only [rowsOf, List.getElem_map, List.getElem_range, List.getD_eq_getElem?_getD, List.getElem?_eq_getElem h2, Option.getD_some]
theorem OwnL.done {b g : Nat} {H : GHeap} {e e' : TypeId} {r : Nat → Option Addr} {xss : List (List Int)} (h : OwnL b H e r xss) (hg : H.get g = some (.row (slsL r xss) e' true)) (hb : b ≤ g) : IntssR b H (some ⟨g, 0, none⟩) xss r := by
  have := OwnRows.done (X := fun i => xss.getD i []) h hg hb
  rwa [rowsOf_self] at this
theorem IntsR.nodup {a : Option Addr} {n : Nat} : (lvBlks [(a, n)]).Nodup := by
  simp only [lvBlks, List.flatMap_cons, List.flatMap_nil, List.append_nil]
  unfold lvBlk
  split <;> simp
theorem IntsR.of_at {b : Nat} {H : GHeap} {g : Nat} {e : TypeId} {xs : List Int} (h : H.get g = some (.row (Go.GL.ints xs) e true)) (hb : b ≤ g) : IntsR b H (some ⟨g, 0, none⟩) xs := .inr ⟨g, e, rfl, hb, h⟩

def CatR (b : Nat) (H : GHeap) (c : Cat) (p : CatP) : Prop := (IntsR b H p.a1 c.src ∧ IntsR b H p.a2 c.tgt ∧ IntsR b H p.a3 c.idn ∧ IntssR b H p.a4 c.comp p.r) ∧ (lvBlks (c.leaves p)).Nodup
theorem CatR.keep {b b' : Nat} {H H' : GHeap} {c : Cat} {p : CatP} (h : CatR b H c p) (k : Keep b' H H') (hb : b' ≤ b) : CatR b' H' c p := ⟨⟨h.1.1.keep k hb, h.1.2.1.keep k hb, h.1.2.2.1.keep k hb, h.1.2.2.2.keep k hb⟩, h.2⟩
theorem CatR.inn {b : Nat} {H : GHeap} {c : Cat} {p : CatP} (h : CatR b H c p) : c.In H p := ⟨h.1.1.ints, h.1.2.1.ints, h.1.2.2.1.ints, h.1.2.2.2.intss⟩
theorem CatW.of_r {b : Nat} {H0 H : GHeap} {c : Cat} {p : CatP} (h : CatR b H0 c p) (k : Keep b H0 H) : CatW b H0.next H c p := ⟨.of_r h.1.1 k, .of_r h.1.2.1 k, .of_r h.1.2.2.1 k, .of_r h.1.2.2.2 k⟩
def Cat.zero : Cat := ⟨0, [], [], [], []⟩
def CatP.zero : CatP := ⟨none, none, none, none, fun _ => none⟩
theorem CatR.zero (b : Nat) (H : GHeap) : CatR b H .zero .zero := ⟨⟨.inl ⟨rfl, rfl⟩, .inl ⟨rfl, rfl⟩, .inl ⟨rfl, rfl⟩, .nil _ _ _⟩, by simp [Cat.leaves, Cat.zero, CatP.zero, lvBlks, lvBlk, rowsL]⟩
theorem mem_lvBlk1 {a : Option Addr} {n x : Nat} (h : x ∈ lvBlk (a, n)) : ∃ o s, a = some ⟨x, o, s⟩ := by
  unfold lvBlk at h
  split at h
  · rename_i a' m e
    cases e
    rw [List.mem_singleton] at h
    subst h
    exact ⟨_, _, rfl⟩
  · cases h
theorem lvBlk_nodup (l : Leaf) : (lvBlk l).Nodup := by unfold lvBlk; split <;> simp
theorem CatR.mk {b : Nat} {H : GHeap} {c : Cat} {p : CatP} (h1 : IntsR b H p.a1 c.src) (h2 : IntsR b H p.a2 c.tgt) (h3 : IntsR b H p.a3 c.idn) (h4 : IntssR b H p.a4 c.comp p.r) {g1 g2 g3 : Nat} (k1 : p.a1 = none ∨ p.a1 = some ⟨g1, 0, none⟩) (k2 : p.a2 = none ∨ p.a2 = some ⟨g2, 0, none⟩) (k3 : p.a3 = none ∨ p.a3 = some ⟨g3, 0, none⟩)
    (n12 : g1 ≠ g2) (n13 : g1 ≠ g3) (n23 : g2 ≠ g3) (n4 : ∀ i, i < c.comp.length → p.r i ≠ some ⟨g1, 0, none⟩ ∧ p.r i ≠ some ⟨g2, 0, none⟩ ∧ p.r i ≠ some ⟨g3, 0, none⟩) : CatR b H c p := by
  have one : ∀ {a : Option Addr} {g n x : Nat}, (a = none ∨ a = some ⟨g, 0, none⟩) → x ∈ lvBlk (a, n) → x = g := by
    intro a g n x hk hx
    obtain ⟨o, s, e⟩ := mem_lvBlk1 hx
    rcases hk with h | h
    · rw [h] at e; cases e
    · rw [h] at e; cases e; rfl
  have rows : ∀ x ∈ lvBlks (rowsL p.r c.comp c.comp.length), x ≠ g1 ∧ x ≠ g2 ∧ x ≠ g3 := by
    intro x hx
    obtain ⟨l, hl, hxl⟩ := List.mem_flatMap.1 hx
    obtain ⟨i, hi, rfl⟩ := List.mem_map.1 hl
    have hi' := List.mem_range.1 hi
    have hlen : 0 < (c.comp.getD i []).length := by
      unfold lvBlk at hxl
      split at hxl
      · rename_i e; have := congrArg Prod.snd e; simp only at this; omega
      · cases hxl
    obtain ⟨o, s, e⟩ := mem_lvBlk1 hxl
    have hrow : ∃ g, p.r i = some ⟨g, 0, none⟩ := by
      rcases h4.1 with ⟨h, _⟩ | ⟨g, e', cs, _, _, _, _, _, h6⟩
      · rw [h] at hi'; simp at hi'
      · obtain ⟨g', _, hg', _⟩ := h6 i hi'
        exact ⟨g', hg'⟩
    obtain ⟨g, hg⟩ := hrow
    rw [hg] at e
    cases e
    obtain ⟨q1, q2, q3⟩ := n4 i hi'
    rw [hg] at q1 q2 q3
    exact ⟨fun h => q1 (by rw [h]), fun h => q2 (by rw [h]), fun h => q3 (by rw [h])⟩
  refine ⟨⟨h1, h2, h3, h4⟩, ?_⟩
  unfold Cat.leaves
  rw [lvBlks_append, lvBlks_append, lvBlks_append]
  have s1 : lvBlks [(p.a1, c.src.length)] = lvBlk (p.a1, c.src.length) := by simp [lvBlks]
  have s2 : lvBlks [(p.a2, c.tgt.length)] = lvBlk (p.a2, c.tgt.length) := by simp [lvBlks]
  have s3 : lvBlks [(p.a3, c.idn.length)] = lvBlk (p.a3, c.idn.length) := by simp [lvBlks]
  rw [s1, s2, s3]
  refine List.nodup_append.2 ⟨lvBlk_nodup _, List.nodup_append.2 ⟨lvBlk_nodup _, List.nodup_append.2 ⟨lvBlk_nodup _, h4.2, ?_⟩, ?_⟩, ?_⟩
  · intro x hx y hy hxy
    have e1 := one k3 hx
    have e2 := rows y hy
    omega
  · intro x hx y hy hxy
    have e1 := one k2 hx
    rcases List.mem_append.1 hy with hy | hy
    · have e2 := one k3 hy; omega
    · have e2 := rows y hy; omega
  · intro x hx y hy hxy
    have e1 := one k1 hx
    rcases List.mem_append.1 hy with hy | hy
    · have e2 := one k2 hy; omega
    · rcases List.mem_append.1 hy with hy | hy
      · have e2 := one k3 hy; omega
      · have e2 := rows y hy; omega
end Go.GL
namespace Go.GL
variable [MainFlag]
abbrev rep (xs : List Int) (k : Nat) : Nat := least (kerB xs) k
abbrev Cat.tn (c : Cat) (a b : Nat) : Nat := ((c.comp.getD a []).getD b 0).toNat
def Cat.ParOk (c : Cat) (xs : List Int) : Prop := ∀ k, k < c.src.length → c.src.getD (rep xs k) 0 = c.src.getD k 0 ∧ c.tgt.getD (rep xs k) 0 = c.tgt.getD k 0
def Cat.CmpOk (c : Cat) (xs : List Int) : Prop := ∀ i, i < c.src.length → ∀ j, j < c.src.length → c.tgt.getD i 0 = c.src.getD j 0 → xs.getD (c.tn i j) 0 = xs.getD (c.tn (rep xs i) (rep xs j)) 0
structure Cat.Cong (c : Cat) (xs : List Int) : Prop where
  len : xs.length = c.src.length
  nor : clsL (kerB xs) xs.length = xs
  par : c.ParOk xs
  cmp : c.CmpOk xs

end Go.GL
namespace Go.GL
variable [MainFlag]
end Go.GL
namespace Go.GL
variable [MainFlag]
def Off (r : Nat → Option Addr) (n : Nat) (gs : List Nat) : Prop := ∀ i, i < n → ∀ g, r i = some ⟨g, 0, none⟩ → out gs g
theorem Off.nil (r : Nat → Option Addr) (n : Nat) : Off r n [] := fun _ _ _ _ => trivial
theorem Off.cons {r : Nat → Option Addr} {n g : Nat} {gs : List Nat} (h : ∀ i, i < n → r i ≠ some ⟨g, 0, none⟩) (h' : Off r n gs) : Off r n (g :: gs) := fun i hi k hk => ⟨fun e => h i hi (by rw [hk, e]), h' i hi k hk⟩
theorem OwnRows.st {b k : Nat} {bs : List Nat} {H H' : GHeap} {e : TypeId} {r : Nat → Option Addr} {X : Nat → List Int} (h : OwnRows b H e r X k) (s : St bs H H') (ho : Off r k bs) : OwnRows b H' e r X k := ⟨fun i hi => by
  obtain ⟨x, h1, h2, h3⟩ := h.row i hi
  exact ⟨x, h1, h2, s.same x _ (ho i hi x h1) h3⟩, h.inj⟩
theorem OwnL.st {b : Nat} {bs : List Nat} {H H' : GHeap} {e : TypeId} {r : Nat → Option Addr} {xss : List (List Int)} (h : OwnL b H e r xss) (s : St bs H H') (ho : Off r xss.length bs) : OwnL b H' e r xss := OwnRows.st h s ho
theorem OwnL.ne {b g : Nat} {H : GHeap} {e : TypeId} {r : Nat → Option Addr} {xss : List (List Int)} (h : OwnL b H e r xss) (hg : H.next ≤ g) : ∀ i, i < xss.length → r i ≠ some ⟨g, 0, none⟩ := fun i hi e => by
  obtain ⟨x, h1, _, h3⟩ := h.row i hi
  rw [h1] at e
  cases e
  have := GHeap.ltg h3
  omega
theorem OwnL.neT {b g : Nat} {H : GHeap} {e e' : TypeId} {cs : List Value} {r : Nat → Option Addr} {xss : List (List Int)} (h : OwnL b H e r xss) (hg : H.get g = some (.row cs e' true)) (hne : (e != e') = true) : ∀ i, i < xss.length → r i ≠ some ⟨g, 0, none⟩ := fun i hi ei => by
  obtain ⟨x, h1, _, h3⟩ := h.row i hi
  rw [h1] at ei
  cases ei
  rw [hg] at h3
  cases h3
  simp at hne
theorem ne_snoc {g k : Nat} {r : Nat → Option Addr} {xss : List (List Int)} {x : List Int} (h : ∀ i, i < xss.length → r i ≠ some ⟨g, 0, none⟩) (hk : k ≠ g) : ∀ i, i < (xss ++ [x]).length → upd r xss.length (some ⟨k, 0, none⟩) i ≠ some ⟨g, 0, none⟩ := fun i hi => by
  rw [List.length_append, List.length_singleton] at hi
  by_cases e : i = xss.length
  · subst e
    rw [upd_eq]
    intro e
    cases e
    exact hk rfl
  · rw [upd_ne e]
    exact h i (by omega)
theorem OwnL.snoc2 {b g : Nat} {H : GHeap} {e : TypeId} {r : Nat → Option Addr} {xss : List (List Int)} {x : List Int} (h : OwnL b H e r xss) (hg : H.get g = some (.row (ints x) e true)) (hne : ∀ i, i < xss.length → r i ≠ some ⟨g, 0, none⟩) (hb : b ≤ g) :
    OwnL b H e (upd r xss.length (some ⟨g, 0, none⟩)) (xss ++ [x]) := by
  have key : ∀ i, i < xss.length + 1 → (i = xss.length ∧ upd r xss.length (some ⟨g, 0, none⟩) i = some ⟨g, 0, none⟩ ∧ (xss ++ [x]).getD i [] = x) ∨ (i < xss.length ∧ upd r xss.length (some ⟨g, 0, none⟩) i = r i ∧ (xss ++ [x]).getD i [] = xss.getD i []) := by
    intro i hi
    by_cases e : i = xss.length
    · subst e
      exact .inl ⟨rfl, upd_eq _ _ _, by rw [getD_snoc, if_neg (by omega), if_pos rfl]⟩
    · exact .inr ⟨by omega, upd_ne e, by rw [getD_snoc, if_pos (by omega)]⟩
  unfold OwnL
  rw [List.length_append, List.length_singleton]
  refine ⟨fun i hi => ?_, fun i j hi hj hij => ?_⟩
  · rcases key i hi with ⟨_, h2, h3⟩ | ⟨h1, h2, h3⟩
    · exact ⟨g, h2, hb, by rw [h3]; exact hg⟩
    · obtain ⟨y, y1, y2, y3⟩ := h.row i h1
      exact ⟨y, by rw [h2]; exact y1, y2, by rw [h3]; exact y3⟩
  · rcases key i hi with ⟨h1, h2, _⟩ | ⟨h1, h2, _⟩
    · rcases key j hj with ⟨k1, k2, _⟩ | ⟨k1, k2, _⟩
      · omega
      · rw [h2, k2] at hij
        exact absurd hij.symm (hne j k1)
    · rcases key j hj with ⟨k1, k2, _⟩ | ⟨k1, k2, _⟩
      · rw [h2, k2] at hij
        exact absurd hij (hne i h1)
      · rw [h2, k2] at hij
        exact h.inj i j h1 k1 hij
theorem take_map_snoc {α β : Type} {f : α → β} {l : List α} {i : Nat} {d : α} (h : i < l.length) : (l.take (i + 1)).map f = (l.take i).map f ++ [f (l.getD i d)] := by
  rw [List.take_add_one, List.getElem?_eq_getElem h, List.map_append, List.getD_eq_getElem?_getD, List.getElem?_eq_getElem h]; rfl

end Go.GL
namespace Go.GL
variable [MainFlag]
def NewCatR (H : GHeap) (c : Cat) (v : Value) (H' : GHeap) : Prop := H.Le H' ∧ ∃ p, v = .agg (c.cells p).toArray ∧ CatR H.next H' c p
end Go.GL
namespace Go.GL
variable [MainFlag]
def tabB (n : Nat) (p : Nat → Bool) : List Bool := (List.range n).map p
@[simp] theorem length_tabB (n : Nat) (p : Nat → Bool) : (tabB n p).length = n := by simp [tabB]
theorem tabB_get {n i : Nat} {p : Nat → Bool} (h : i < n) : (tabB n p).getD i false = p i := by simp [tabB, List.getD_eq_getElem?_getD, h]
theorem tabB_congr {n : Nat} {p q : Nat → Bool} (h : ∀ i, i < n → p i = q i) : tabB n p = tabB n q := List.map_congr_left fun i hi => h i (List.mem_range.1 hi)
theorem tabB_set (n : Nat) (p : Nat → Bool) (i : Nat) (v : Bool) : (tabB n p).set i v = tabB n (fun j => bif j == i then v else p j) := by
  apply List.ext_getElem (by simp)
  intro j h1 h2
  simp only [length_tabB] at h2
  rw [List.getElem_set]
  simp only [tabB, List.getElem_map, List.getElem_range]
  by_cases e : i = j
  · subst e; simp
  · rw [if_neg e]
    have : (j == i) = false := by simp; omega
    rw [this]; rfl
theorem tabB_false (n : Nat) : List.replicate n false = tabB n (fun _ => false) := by
  apply List.ext_getElem (by simp)
  intro j h1 h2
  simp [tabB]
def markP (xs : List Int) (e : Nat) : Nat → Bool := fun d => (xs.take e).contains (d : Int)
theorem markP_zero (xs : List Int) : markP xs 0 = fun _ => false := by funext d; simp [markP]
theorem markP_all (xs : List Int) : markP xs xs.length = fun d : Nat => xs.contains (d : Int) := by funext d; simp [markP]
theorem markP_succ {n e : Nat} {xs : List Int} (h : e < xs.length) (h0 : 0 ≤ xs.getD e 0) : tabB n (markP xs (e + 1)) = (tabB n (markP xs e)).set (xs.getD e 0).toNat true := by
  rw [tabB_set]
  refine tabB_congr fun d _ => ?_
  have e1 : xs[e]? = some (xs.getD e 0) := by simp [List.getD_eq_getElem?_getD, h]
  simp only [markP, List.take_add_one, e1, Option.toList_some, List.contains_append]
  have e2 : ([xs.getD e 0].contains (d : Int)) = (d == (xs.getD e 0).toNat) := by
    rw [Bool.eq_iff_iff]
    simp only [List.contains_cons, List.contains_nil, Bool.or_false, beq_iff_eq]
    omega
  rw [e2]
  cases (d == (xs.getD e 0).toNat) <;> simp

def slsN (r : Nat → Nat) (L : Nat → Nat) (k : Nat) : List Value := (List.range k).map fun i => .slice (some ⟨r i, 0, none⟩) (L i) (L i)
structure OwnB (b : Nat) (H : GHeap) (e : TypeId) (r : Nat → Nat) (L : Nat → Nat) (M : Nat → Nat → Bool) (k : Nat) : Prop where
  row : ∀ i, i < k → b ≤ r i ∧ H.get (r i) = some (.row (bools (tabB (L i) (M i))) e true)
  inj : ∀ i j, i < k → j < k → r i = r j → i = j
structure BMat (b : Nat) (H : GHeap) (g : Nat) (e1 e2 : TypeId) (r : Nat → Nat) (L : Nat → Nat) (M : Nat → Nat → Bool) (n : Nat) : Prop where
  hd : H.get g = some (.row (slsN r L n) e1 true)
  gb : b ≤ g
  own : OwnB b H e2 r L M n
def SMap.dirY (m : SMap) (p : List (List Int)) (x d : Nat) : Bool := (p.getD x []).any fun e => (m.pa.getD x []).getD e.toNat 0 == (d : Int)
noncomputable def SMap.dir (m : SMap) (p : List (List Int)) : Prt := bif B (m.Is ∧ m.s.Part p) then m.t.pick (m.dirY p) else ⟨[]⟩
end Go.GL
namespace Go.GL
variable [MainFlag]
def Cat.partO (c : Cat) (xs : List Int) : List Int := filtN c.obj.toNat fun x => xs.contains (c.idn.getD x 0)
def Cat.partR (c : Cat) (xs : List Int) (f : Int) : List Int := xs.map fun g => idxL xs (c.th f g)
def Cat.part (c : Cat) (xs : List Int) : Cat where
  obj := ((c.partO xs).length : Int)
  src := xs.map fun f => idxL (c.partO xs) (c.src.getD f.toNat 0)
  tgt := xs.map fun f => idxL (c.partO xs) (c.tgt.getD f.toNat 0)
  idn := (c.partO xs).map fun x => idxL xs (c.idn.getD x.toNat 0)
  comp := xs.map fun f => c.partR xs f
structure Cat.Closed (c : Cat) (xs : List Int) : Prop where
  filt : ∃ P, xs = filtN c.src.length P
  id : ∀ f ∈ xs, c.idn.getD (c.src.getD f.toNat 0).toNat 0 ∈ xs ∧ c.idn.getD (c.tgt.getD f.toNat 0).toNat 0 ∈ xs
  th : ∀ f ∈ xs, ∀ g ∈ xs, 0 ≤ c.th f g → c.th f g ∈ xs
theorem Cat.Closed.lt {c : Cat} {xs : List Int} (h : c.Closed xs) : ∀ f ∈ xs, 0 ≤ f ∧ f < c.src.length := fun f hf => by
  obtain ⟨P, rfl⟩ := h.filt
  obtain ⟨i, h1, _, rfl⟩ := mem_filtN.1 hf
  omega
theorem Cat.Closed.len {c : Cat} {xs : List Int} (h : c.Closed xs) : xs.length ≤ c.src.length := by
  obtain ⟨P, rfl⟩ := h.filt
  exact filtN_le _ _
end Go.GL
namespace Go.GL
open Go.RowKit
variable [MainFlag]
structure PL (g g0 n : Nat) : Prop where
  or : g = g0 ∨ n ≤ g
theorem PL.ne {g g0 n x : Nat} (h : PL g g0 n) (h0 : x ≠ g0) (hx : x < n) : x ≠ g := by
  rcases h.or with rfl | h
  · exact h0
  · omega
theorem St.sP {bs cs : List Nat} {H0 H H' : GHeap} (s : St bs H0 H) (h : St cs H H') (hg : ∀ k, k < H0.next → out bs k → out cs k := by intro k hk ho; simp only [out, and_true] at ho ⊢ <;> first | exact ho | exact ho.1 | exact ho.2 | exact ho.2.1 | exact ho.2.2 | exact ho.2.2.1 | exact ho.2.2.2 | exact PL.ne (by assumption) (by first | exact ho | exact ho.1 | exact ho.2 | exact ho.2.1 | exact ho.2.2 | exact ho.2.2.1 | exact ho.2.2.2 | omega) (by omega) | omega) : St bs H0 H' := s.st h hg
theorem PL.ne' {g g0 n x : Nat} (h : PL g g0 n) (h0 : x ≠ g0) (hx : x < n) : g ≠ x := (h.ne h0 hx).symm
theorem PL.ge {g g0 n b : Nat} (h : PL g g0 n) (h0 : b ≤ g0) (hn : b ≤ n) : b ≤ g := by
  rcases h.or with rfl | h
  · exact h0
  · omega
def nz : Nat → Nat → Option Addr
  | 0, _ => none
  | _ + 1, g => some ⟨g, 0, none⟩
theorem nz_pos {k g : Nat} (h : 0 < k) : nz k g = some ⟨g, 0, none⟩ := by
  cases k with
  | zero => omega
  | succ k => rfl
structure NO (H : GHeap) (g : Nat) (cs : List Value) (e : TypeId) (k : Nat) : Prop where
  lt : g < H.next
  or : (k = 0 ∧ cs = []) ∨ (0 < k ∧ H.get g = some (.row cs e true))
theorem NO.le {H H' : GHeap} {g k : Nat} {cs : List Value} {e : TypeId} (h : NO H g cs e k) (s : H.Le H') : NO H' g cs e k := ⟨by have := h.lt; have := s.1; omega, h.or.imp id fun h => ⟨h.1, s.2 _ _ h.2⟩⟩
theorem NO.st {H H' : GHeap} {g k : Nat} {bs : List Nat} {cs : List Value} {e : TypeId} (h : NO H g cs e k) (s : St bs H H') (ho : out bs g) : NO H' g cs e k := ⟨by have := h.lt; have := s.nx; omega, h.or.imp id fun h => ⟨h.1, s.same _ _ ho h.2⟩⟩
theorem NO.start {H : GHeap} {g k : Nat} {cs : List Value} {e : TypeId} (h : g < H.next) (hk : k = 0) (hc : cs = []) : NO H g cs e k := ⟨h, .inl ⟨hk, hc⟩⟩
theorem NO.of {H : GHeap} {g k : Nat} {cs : List Value} {e : TypeId} (h : H.get g = some (.row cs e true)) (hk : 0 < k) : NO H g cs e k := ⟨GHeap.ltg h, .inr ⟨hk, h⟩⟩
theorem NO.get {H : GHeap} {g k : Nat} {cs : List Value} {e : TypeId} (h : NO H g cs e k) (hk : 0 < k) : H.get g = some (.row cs e true) := by
  rcases h.or with ⟨h, _⟩ | ⟨_, h⟩
  · omega
  · exact h
theorem NO.isR {b : Nat} {H : GHeap} {g k : Nat} {xs : List Int} {e : TypeId} (h : NO H g (ints xs) e k) (hk : k = xs.length) (hb : b ≤ g) : IntsR b H (nz k g) xs := by
  subst hk
  by_cases h0 : xs.length = 0
  · obtain rfl := List.eq_nil_of_length_eq_zero h0
    exact .inl ⟨rfl, rfl⟩
  · rw [nz_pos (by omega)]
    exact .inr ⟨g, e, rfl, hb, h.get (by omega)⟩
theorem nz_or (k g : Nat) : nz k g = none ∨ nz k g = some ⟨g, 0, none⟩ := by
  cases k with
  | zero => exact .inl rfl
  | succ k => exact .inr rfl
theorem Sim.hold {P : Program} {B : Nat} {w0 : World} {ρ : Place} {H : GHeap} {w : World} (hs : Sim P B w0 ρ H w) : Sim P B w0 ρ ⟨H.objs ++ [none]⟩ w := by
  have hg : ∀ {g : Nat} {o : GObj}, GHeap.get ⟨H.objs ++ [none]⟩ g = some o → H.get g = some o := fun {g o} h => by
    unfold GHeap.get at h ⊢
    rcases Nat.lt_trichotomy g H.objs.length with hl | hl | hl
    · rwa [List.getElem?_append_left hl] at h
    · subst hl; simp at h
    · rw [List.getElem?_eq_none (by simp; omega)] at h; cases h
  exact ⟨fun g h => hs.dom g (by have : (GHeap.mk (H.objs ++ [none])).next = H.next + 1 := by simp [GHeap.next]
                                 omega), fun g o h => hs.live g o (hg h), fun g g' o o' s s' h1 h2 => hs.apart g g' o o' s s' (hg h1) (hg h2), hs.base, hs.below⟩
theorem GT.hold {P : Program} {N : Nat} {c : Code} {Q : Exit → Slots → GHeap → Prop} {fr : Slots} {H : GHeap} (h : ∀ H', H.Le H' → H'.next = H.next + 1 → GT P N c Q fr H') : GT P N c Q fr H := fun l D B w0 ρ a w hs hf =>
  h ⟨H.objs ++ [none]⟩ ⟨by simp [GHeap.next], fun g o hg => by
    have hl : g < H.objs.length := GHeap.ltg hg
    unfold GHeap.get at hg ⊢
    rwa [List.getElem?_append_left hl]⟩ (by simp [GHeap.next]) l D B w0 ρ a w hs.hold hf
section
variable {P : Program} {o : Oper} {fr : Slots} {H : GHeap}
theorem CDo.appendNO {t tx e e' : TypeId} {s x : Operand} {g g1 n sz bytes : Nat} {z cs vs : List Value} (ho : o.op = .call { callee := .builtin .append, args := #[s, x], argTypes := #[t, tx] }) (ht : sliceT P t = some (e, sz)) (hz : zeroT P e = some (z, sz)) (hzn : z.length = sz)
    (hb : (P.info? e).map (·.bytes) = some bytes) (htx : sliceT P tx = some (e', sz)) (hsv : ev fr s = some (.slice (nz n g) n n)) (hx : ev fr x = some (.slice (some ⟨g1, 0, none⟩) 1 1)) (hno : NO H g cs e n) (hg1 : H.get g1 = some (.row vs e' true)) (hend : n * sz = cs.length)
    (hv : vs.length = sz) (hone : vs.all (·.oneCell') = true) (hN : n + 1 ≤ 16777216) (hB : (n + 1) * bytes ≤ 140737488355328) :
    CDo P o fr H (fun r H' => ∃ g', r = some (.slice (some ⟨g', 0, none⟩) (n + 1) (n + 1)) ∧ St [g] H H' ∧ H.next ≤ g' ∧ H'.get g' = some (.row (cs ++ vs) e true)) := by
  rcases hno.or with ⟨rfl, rfl⟩ | ⟨h1, h2⟩
  · have hsrc : SrcG P fr H sz tx x 1 vs := .slice htx hx (by omega) (fun i v hv => by rw [GHeap.cell_of hg1, Nat.zero_add]; exact hv) (fun v hv => List.all_eq_true.1 hone v hv)
    exact .appendNil ho ht hz hzn hb hsv hsrc (by omega) (by unfold maxLen; omega) (by omega) ⟨_, rfl, .push (.refl _ _), Nat.le_refl _, GHeap.get_push_new _ _⟩
  · rw [nz_pos h1] at hsv
    exact .appendV ho ht hz hzn hb htx hsv hx h2 hg1 hend hv hone hN hB
theorem CDo.appendNOI {t tx e e' : TypeId} {s x : Operand} {g g1 n bytes : Nat} {z : List Value} {ys : List Int} {m : Int} (ho : o.op = .call { callee := .builtin .append, args := #[s, x], argTypes := #[t, tx] }) (ht : sliceT P t = some (e, 1)) (hz : zeroT P e = some (z, 1)) (hzn : z.length = 1)
    (hb : (P.info? e).map (·.bytes) = some bytes) (htx : sliceT P tx = some (e', 1)) (hsv : ev fr s = some (.slice (nz n g) n n)) (hx : ev fr x = some (.slice (some ⟨g1, 0, none⟩) 1 1)) (hno : NO H g (ints ys) e n) (hg1 : H.get g1 = some (.row [.int .i64 m] e' true)) (hend : n = ys.length)
    (hN : n + 1 ≤ 16777216) (hB : (n + 1) * bytes ≤ 140737488355328) :
    CDo P o fr H (fun r H' => ∃ g', r = some (.slice (some ⟨g', 0, none⟩) (n + 1) (n + 1)) ∧ St [g] H H' ∧ H.next ≤ g' ∧ H'.get g' = some (.row (ints (ys ++ [m])) e true)) := by
  have e1 : ints (ys ++ [m]) = ints ys ++ [.int .i64 m] := by simp [ints]
  rw [e1]
  exact .appendNO ho ht hz hzn hb htx hsv hx hno hg1 (by simp; omega) rfl rfl hN hB
end
end Go.GL
namespace Go.GL
variable [MainFlag]
theorem repl_getD0 {n i : Nat} {v : Int} (h : i < n) : (List.replicate n v).getD i 0 = v := by
  rw [List.getD_eq_getElem?_getD, List.getElem?_replicate, if_pos h]; rfl
theorem take_snoc {xs : List Int} {i : Nat} (h : i < xs.length) : xs.take (i + 1) = xs.take i ++ [xs.getD i 0] := by
  rw [List.take_add_one, List.getElem?_eq_getElem h, List.getD_eq_getElem?_getD, List.getElem?_eq_getElem h]; rfl
theorem filtN_split {P : Nat → Bool} {x : Nat} (hp : P x = true) : ∀ {n : Nat}, x < n → ∃ r, filtN n P = filtN x P ++ (x : Int) :: r
  | 0, h => by omega
  | n + 1, h => by
    by_cases e : x = n
    · subst e; exact ⟨[], filtN_T hp⟩
    · obtain ⟨r, hr⟩ := filtN_split hp (n := n) (by omega)
      by_cases hn : P n = true
      · exact ⟨r ++ [(n : Int)], by rw [filtN_T hn, hr]; simp⟩
      · exact ⟨r, by rw [filtN_F (by simpa using hn), hr]⟩
theorem filtN_lt {P : Nat → Bool} {n i : Nat} (h : i < (filtN n P).length) : 0 ≤ (filtN n P).getD i 0 ∧ (filtN n P).getD i 0 < n := by
  obtain ⟨j, h1, _, h3⟩ := filtN_get h
  omega
theorem idxL_filtN {P : Nat → Bool} {x n : Nat} (hp : P x = true) (h : x < n) : idxL (filtN n P) (x : Int) = ((filtN x P).length : Int) := by
  obtain ⟨r, hr⟩ := filtN_split hp h
  refine idxL_some (by rw [hr]; simp) (by rw [hr, List.getD_eq_getElem?_getD, List.getElem?_append_right (Nat.le_refl _)]; simp) fun j hj e => ?_
  rw [hr, List.getD_eq_getElem?_getD, List.getElem?_append_left hj, ← List.getD_eq_getElem?_getD] at e
  have := filtN_lt hj
  omega
theorem filtN_nodup (n : Nat) (P : Nat → Bool) : (filtN n P).Nodup := by
  unfold filtN
  exact List.pairwise_map.2 ((List.nodup_range.sublist List.filter_sublist).imp fun h e => h (by omega))
theorem nodup_getD {xs : List Int} (hn : xs.Nodup) {i j : Nat} (hi : i < xs.length) (hj : j < xs.length) (h : xs.getD i 0 = xs.getD j 0) : i = j := by
  rw [List.getD_eq_getElem?_getD, List.getD_eq_getElem?_getD, List.getElem?_eq_getElem hi, List.getElem?_eq_getElem hj] at h
  exact (List.getElem_inj hn).1 (by simpa using h)
theorem idxL_nodup {xs : List Int} (hn : xs.Nodup) {i : Nat} (hi : i < xs.length) : idxL xs (xs.getD i 0) = (i : Int) := idxL_some hi rfl fun j hj e => by
  have := nodup_getD hn (by omega) hi e
  omega
theorem Cat.Closed.nodup {c : Cat} {xs : List Int} (h : c.Closed xs) : xs.Nodup := by
  obtain ⟨P, rfl⟩ := h.filt
  exact filtN_nodup _ _
def numF (xs : List Int) (m i : Nat) : List Int := (List.range m).map fun (v : Nat) => if (v : Int) ∈ xs.take i then idxL xs v else 0
@[simp] theorem length_numF (xs : List Int) (m i : Nat) : (numF xs m i).length = m := by simp [numF]
theorem numF_get {xs : List Int} {m i v : Nat} (h : v < m) : (numF xs m i).getD v 0 = if (v : Int) ∈ xs.take i then idxL xs v else 0 := by simp [numF, List.getD_eq_getElem?_getD, h]
theorem numF_zero (xs : List Int) (m : Nat) : numF xs m 0 = List.replicate m 0 := by
  refine eq_of_getD (by simp) fun v hv => ?_
  rw [List.length_replicate] at hv
  rw [numF_get hv, repl_getD0 hv]
  simp
theorem numF_succ {xs : List Int} {m i : Nat} (hn : xs.Nodup) (hi : i < xs.length) (h0 : 0 ≤ xs.getD i 0) (hm : xs.getD i 0 < (m : Int)) : numF xs m (i + 1) = (numF xs m i).set (xs.getD i 0).toNat (i : Int) := by
  refine eq_of_getD (by simp) fun v hv => ?_
  rw [List.length_set, length_numF] at hv
  rw [numF_get hv, getD_set (by rw [length_numF]; omega), numF_get hv]
  have e1 : xs.take (i + 1) = xs.take i ++ [xs.getD i 0] := take_snoc hi
  rw [e1]
  by_cases hx : v = (xs.getD i 0).toNat
  · rw [if_pos hx, if_pos (List.mem_append.2 (.inr (List.mem_singleton.2 (by omega)))), show (v : Int) = xs.getD i 0 by omega]
    exact idxL_nodup hn hi
  · rw [if_neg hx]
    have : (v : Int) ∈ xs.take i ++ [xs.getD i 0] ↔ (v : Int) ∈ xs.take i := by
      rw [List.mem_append, List.mem_singleton]
      exact ⟨fun h => h.elim id fun h => absurd h (by omega), .inl⟩
    simp only [this]
theorem numF_all {xs : List Int} {m : Nat} {v : Int} (h0 : 0 ≤ v) (hm : v < (m : Int)) (h : v ∈ xs) : (numF xs m xs.length).getD v.toNat 0 = idxL xs v := by
  have e : ((v.toNat : Nat) : Int) = v := by omega
  rw [numF_get (by omega), List.take_length, e, if_pos h]
abbrev Cat.hasId (c : Cat) (xs : List Int) (x : Nat) : Bool := xs.contains (c.idn.getD x 0)
def Cat.plF (c : Cat) (xs : List Int) (n k : Nat) : List Int := (List.range n).map fun (x : Nat) => if x < k ∧ c.hasId xs x = true then ((filtN x (c.hasId xs)).length : Int) else 0
@[simp] theorem Cat.length_plF (c : Cat) (xs : List Int) (n k : Nat) : (c.plF xs n k).length = n := by simp [Cat.plF]
theorem Cat.plF_get {c : Cat} {xs : List Int} {n k x : Nat} (h : x < n) : (c.plF xs n k).getD x 0 = if x < k ∧ c.hasId xs x = true then ((filtN x (c.hasId xs)).length : Int) else 0 := by simp [Cat.plF, List.getD_eq_getElem?_getD, h]
theorem Cat.plF_zero (c : Cat) (xs : List Int) (n : Nat) : c.plF xs n 0 = List.replicate n 0 := by
  refine eq_of_getD (by simp) fun v hv => ?_
  rw [List.length_replicate] at hv
  rw [Cat.plF_get hv, repl_getD0 hv, if_neg (by omega)]
theorem Cat.plF_T {c : Cat} {xs : List Int} {n k : Nat} (hk : k < n) (h : c.hasId xs k = true) : c.plF xs n (k + 1) = (c.plF xs n k).set k ((filtN k (c.hasId xs)).length : Int) := by
  refine eq_of_getD (by simp) fun v hv => ?_
  rw [List.length_set, Cat.length_plF] at hv
  rw [Cat.plF_get hv, getD_set (by rw [Cat.length_plF]; omega), Cat.plF_get hv]
  by_cases e : v = k
  · subst e; rw [if_pos rfl, if_pos ⟨by omega, h⟩]
  · rw [if_neg e]
    by_cases h2 : c.hasId xs v = true
    · by_cases h3 : v < k
      · rw [if_pos ⟨by omega, h2⟩, if_pos ⟨h3, h2⟩]
      · rw [if_neg (by omega), if_neg (by omega)]
    · rw [if_neg fun hh => h2 hh.2, if_neg fun hh => h2 hh.2]
theorem Cat.plF_F {c : Cat} {xs : List Int} {n k : Nat} (h : c.hasId xs k = false) : c.plF xs n (k + 1) = c.plF xs n k := by
  unfold Cat.plF
  refine List.map_congr_left fun v _ => ?_
  by_cases e : v = k
  · subst e
    rw [if_neg (by rw [h]; simp), if_neg (by omega)]
  · by_cases h3 : v < k
    · simp only [h3, show v < k + 1 by omega]
    · simp only [h3, show ¬ v < k + 1 by omega]
theorem Cat.plF_all {c : Cat} {xs : List Int} {x : Int} (h0 : 0 ≤ x) (hx : x < c.obj) (h : c.idn.getD x.toNat 0 ∈ xs) : (c.plF xs c.obj.toNat c.obj.toNat).getD x.toNat 0 = idxL (c.partO xs) x := by
  have hh : c.hasId xs x.toNat = true := by unfold Cat.hasId; rw [List.contains_iff_mem]; exact h
  have e : ((x.toNat : Nat) : Int) = x := by omega
  rw [Cat.plF_get (by omega), if_pos ⟨by omega, hh⟩]
  have := idxL_filtN (P := c.hasId xs) (x := x.toNat) (n := c.obj.toNat) hh (by omega)
  rw [e] at this
  exact this.symm
theorem OwnL.neNO {b g k : Nat} {H : GHeap} {e e' : TypeId} {cs : List Value} {r : Nat → Option Addr} {xss : List (List Int)} (h : OwnL b H e r xss) (hg : NO H g cs e' k) (hk : k = xss.length) (hne : (e != e') = true) : ∀ i, i < xss.length → r i ≠ some ⟨g, 0, none⟩ := fun i hi => h.neT (hg.get (by omega)) hne i hi
theorem OwnL.doneNO {b g k : Nat} {H : GHeap} {e e' : TypeId} {r : Nat → Option Addr} {xss : List (List Int)} (h : OwnL b H e r xss) (hg : NO H g (slsL r xss) e' k) (hk : k = xss.length) (hb : b ≤ g) : IntssR b H (nz k g) xss r := by
  subst hk
  by_cases h0 : xss.length = 0
  · obtain rfl := List.eq_nil_of_length_eq_zero h0
    exact .nil _ _ _
  · rw [nz_pos (by omega)]
    exact h.done (hg.get (by omega)) hb
def Cat.partI (c : Cat) (xs : List Int) (k : Nat) : List Int := (filtN k (c.hasId xs)).map fun x => idxL xs (c.idn.getD x.toNat 0)
theorem Cat.partI_len (c : Cat) (xs : List Int) (k : Nat) : (c.partI xs k).length = (filtN k (c.hasId xs)).length := by unfold Cat.partI; rw [List.length_map]
theorem Cat.partI_T {c : Cat} {xs : List Int} {k : Nat} (h : c.hasId xs k = true) : c.partI xs (k + 1) = c.partI xs k ++ [idxL xs (c.idn.getD k 0)] := by unfold Cat.partI; rw [filtN_T h, List.map_append]; rfl
theorem Cat.partI_F {c : Cat} {xs : List Int} {k : Nat} (h : c.hasId xs k = false) : c.partI xs (k + 1) = c.partI xs k := by unfold Cat.partI; rw [filtN_F h]
theorem Cat.Closed.has {c : Cat} {xs : List Int} (h : c.Closed xs) {f : Int} (hf : f ∈ xs) (hS : c.Shape) : (0 ≤ c.src.getD f.toNat 0 ∧ c.src.getD f.toNat 0 < c.obj ∧ c.idn.getD (c.src.getD f.toNat 0).toNat 0 ∈ xs) ∧ 0 ≤ c.tgt.getD f.toNat 0 ∧ c.tgt.getD f.toNat 0 < c.obj ∧ c.idn.getD (c.tgt.getD f.toNat 0).toNat 0 ∈ xs := by
  have b := h.lt f hf
  have s1 := hS.src f.toNat (by omega)
  have s2 := hS.tgt f.toNat (by have := hS.tl; omega)
  have hi := h.id f hf
  exact ⟨⟨s1.1, s1.2, hi.1⟩, s2.1, s2.2, hi.2⟩
theorem Cat.Closed.num {c : Cat} {xs : List Int} (h : c.Closed xs) {f g : Int} (hf : f ∈ xs) (hg : g ∈ xs) (hS : c.Shape) : (0 ≤ c.th f g → (numF xs c.src.length xs.length).getD (c.th f g).toNat 0 = idxL xs (c.th f g)) ∧ (¬ 0 ≤ c.th f g → c.th f g = idxL xs (c.th f g)) ∧ c.th f g < c.src.length := by
  have bf := h.lt f hf
  have bg := h.lt g hg
  have e1 : ((f.toNat : Nat) : Int) = f := by omega
  have e2 : ((g.toNat : Nat) : Int) = g := by omega
  have hl := hS.th_lt (f := f.toNat) (g := g.toNat) (by omega) (by omega)
  rw [e1, e2] at hl
  refine ⟨fun h0 => numF_all h0 hl.1 (h.th f hf g hg h0), fun h0 => ?_, hl.1⟩
  have e3 : c.th f g = -1 := by omega
  rw [e3]
  refine (idxL_none fun j hj e => ?_).symm
  have := h.lt _ (getD_mem hj)
  omega
def Cat.partL (c : Cat) (xs : List Int) (i : Nat) : List (List Int) := (xs.take i).map (c.partR xs)
theorem Cat.partL_zero (c : Cat) (xs : List Int) : c.partL xs 0 = [] := by simp [Cat.partL]
theorem Cat.partL_len {c : Cat} {xs : List Int} {i : Nat} (h : i ≤ xs.length) : (c.partL xs i).length = i := by simp [Cat.partL]; omega
theorem Cat.partL_succ {c : Cat} {xs : List Int} {i : Nat} (h : i < xs.length) : c.partL xs (i + 1) = c.partL xs i ++ [c.partR xs (xs.getD i 0)] := by
  unfold Cat.partL
  rw [take_snoc h, List.map_append]; rfl
theorem Cat.partL_all (c : Cat) (xs : List Int) : c.partL xs xs.length = (c.part xs).comp := by unfold Cat.partL; rw [List.take_length]; rfl
theorem Cat.partO_len (c : Cat) (xs : List Int) : (c.partO xs).length ≤ c.obj.toNat := filtN_le _ _
theorem Cat.part_small {c : Cat} {xs : List Int} (hS : c.Shape) (hl : xs.length ≤ 40) : (c.part xs).Small := by
  have b2 := hS.obj
  have b3 := c.partO_len xs
  refine ⟨by simp [Cat.part]; omega, by simp [Cat.part]; omega, by simp [Cat.part]; omega, by simp [Cat.part]; omega, fun i => ?_, ?_⟩
  · by_cases hi : i < xs.length
    · simp [Cat.part, Cat.partR, List.getD_eq_getElem?_getD, List.getElem?_eq_getElem hi]; omega
    · simp [Cat.part, List.getD_eq_getElem?_getD, List.getElem?_eq_none (Nat.le_of_not_lt hi)]
  · show -9223372036854775808 ≤ ((c.partO xs).length : Int) ∧ ((c.partO xs).length : Int) ≤ 9223372036854775807
    omega
end Go.GL
namespace Go.Proofs.Ytddjdkpjfpnjiaa
open Go Go.GL Go.RowKit Go.Proofs
variable [MainFlag]
end Go.Proofs.Ytddjdkpjfpnjiaa
namespace Go.Proofs.Ytddjdkpjfpnjiaa
open Go Go.GL Go.RowKit Go.Proofs
variable [MainFlag]
end Go.Proofs.Ytddjdkpjfpnjiaa
