/- What a caller hands in, brought into a ghost heap; the last step of a row that says 'true, and the arguments read as they did'. No condition. -/
import Derived.Test.YtdnjnligclkkgaaDoorZ6
import Derived.Below
import Derived.ChangeSame
import Derived.ChangeSlices
import Derived.Deep.Slices
import Derived.Deep.Matrix
import Derived.WideKeyArgs
import Derived.MapKept
namespace Go.GL
open Go.RowKit Go.WideShapes Go.ChangeShapes Go.Deep

section
variable {P : Program} {B : Nat} {w0 : World} {ρ : Place} {H : GHeap} {w : World}

theorem Sim.start (P : Program) (W : World) : Sim P W.heap.size W (fun _ => none) ⟨[]⟩ W :=
  ⟨fun _ _ => rfl, fun g o h => by simp [GHeap.get] at h, fun g g' o o' s s' h => by simp [GHeap.get] at h, Nat.le_refl _, .refl _ _⟩

end

section
variable {P : Program} {T : Type} {enc : TypeId × Value → T} {B : Nat} {w0 : World} {ρ : Place} {H : GHeap} {w : World} {held : Bool} {n : Nat} {cs : List Value} {fs : Array Field} {xs : List (DataW T × List MemPlace)}
end

def readB (P : Program) (ts : List TypeId) : Bool := ts.all fun t => P.readableRec t && decide (t < P.types.size)

section
variable {T : Type} {enc : TypeId × Value → T} {P : Program}
theorem args_again (hl : laidOutB P = true) {W W' : World} (hb : Below W.heap.size W W') {sp : Nat → Bool} : ∀ {ts : List TypeId} {vs : List Value} {ds : List (DataW T)} {ps : List MemPlace}, readB P ts = true →
    DataW.TrodAll enc P W 0 (fun _ => true) true ts vs ds ps → (∀ p ∈ ps, p.block < W.heap.size) → (∀ p ∈ ps, sp p.block = true) → DataW.TrodAll enc P W' 0 sp true ts vs ds ps
  | [], _, _, _, _, h, _, _ => by
    obtain ⟨rfl, rfl, rfl⟩ := trodAll_nil h
    exact trodAll_mk0
  | t :: ts, _, _, _, hr, h, hlt, hsp => by
    obtain ⟨v, vs, d, ds, p, q, rfl, rfl, rfl, h1, h2⟩ := trodAll_cons h
    simp only [readB, List.all_cons, Bool.and_eq_true, decide_eq_true_eq] at hr
    exact ⟨p, q, WideElems.Trod_stays hl hr.1.1 hr.1.2 h1 (fun x hx => hb.same (hlt x (by simp [hx]))) (fun x hx => hsp x (by simp [hx])),
      args_again hl hb (by simpa only [readB, Bool.and_eq_true] using hr.2) h2 (fun x hx => hlt x (by simp [hx])) (fun x hx => hsp x (by simp [hx])), rfl⟩

theorem law_post {f : Func} {s : ChangeSpec} {apart fresh handsOn again : Bool} {W W' : World} {args : Array Value} {ds gs : List (DataW T)} {before : List MemPlace} {tb : TypeId}
    (hl : laidOutB P = true) (hr : readB P f.params.toList = true) (hv : s.vars = []) (hrt : f.resultTypes = #[tb]) (htb : P.underlying tb = some .bool)
    (hW : DataW.Whole enc P f.params.toList s.vars apart W args.toList ds gs before)
    (hsr : (s.fn T ds).results = [.lit (.bool true)]) (hsa : (s.fn T ds).args = ds) (hsv : (s.fn T ds).vars = []) (hb : Below W.heap.size W W') :
    s.post enc P f apart fresh handsOn again W args (.bool true) W' := by
  have hlt := hW.lt
  have hWW := hW
  obtain ⟨p, q, hA, hV, hpq, hfz, hnd⟩ := hW
  rw [hv] at hV
  obtain ⟨rfl, rfl⟩ := trodVars_none hV
  rw [List.append_nil] at hpq
  obtain rfl := hpq.symm
  have hres : ∀ (b : Nat) (sp : Nat → Bool) (hd : Bool), DataW.TrodAll enc P W' b sp hd f.resultTypes.toList ((Value.bool true).resultList f.resultTypes.size) (s.fn T (ds ++ [])).results [] := fun b sp hd => by
    rw [List.append_nil, hsr, hrt]
    exact trodAll_mk1 (shut_bool htb true)
  have hargs : ∀ sp : Nat → Bool, (∀ x ∈ p, sp x.block = true) → DataW.TrodAll enc P W' 0 sp true f.params.toList args.toList (s.fn T (ds ++ [])).args p := fun sp hsp => by
    rw [List.append_nil, hsa]
    exact args_again hl hb hr hA hlt hsp
  have hvars : ∀ sp : Nat → Bool, DataW.TrodVars enc P W' sp s.vars (s.fn T (ds ++ [])).vars [] := fun sp => by
    rw [List.append_nil, hsv, hv]
    rfl
  have hok : ∀ (j : Nat) (t : TypeId) (r : Value), f.resultTypes[j]? = some t → ((Value.bool true).resultList f.resultTypes.size)[j]? = some r → Value.okWide P W' .any 0 t r := ok_one hrt rfl (okWide_bool_mk htb true)
  refine ⟨ds, [], p, [], p, [], hWW, hres _ _ _, hargs _ fun x hx => by simpa using hlt x hx, hvars _, hb.frame _, fun _ => ⟨hok, _, _, ([] ++ p) ++ [], ⟨[] ++ p, [], trodAll_append (hargs (fun _ => true) fun _ _ => rfl) (hres _ _ _), hvars (fun _ => true), rfl, ?_, ?_⟩, ?_⟩⟩
  · intro b off hp
    have hin : MemPlace.cell b off ∈ p := by simpa using hp
    rw [hb.frozen (hlt _ hin)]
    exact hfz b off hin
  · intro ha
    simpa using hnd ha
  · intro x hx _
    simpa using hx
end

theorem eq_of_getD {xs ys : List Int} (hl : ys.length = xs.length) (h : ∀ i, i < xs.length → ys.getD i 0 = xs.getD i 0) : ys = xs := by
  apply List.ext_getElem hl
  intro i h1 h2
  have := h i h2
  simpa [List.getD_eq_getElem?_getD, h1, h2] using this
theorem ints_set (ys : List Int) (i : Nat) (v : Int) : (ints ys).set i (.int .i64 v) = ints (ys.set i v) := by simp [ints, List.map_set]
theorem getD_set {ys : List Int} {k i : Nat} {v : Int} (hk : k < ys.length) : (ys.set k v).getD i 0 = if i = k then v else ys.getD i 0 := by
  simp only [List.getD_eq_getElem?_getD, List.getElem?_set]
  by_cases e : k = i
  · subst e; simp [hk]
  · simp [e, Ne.symm e]
theorem SlA.of_ints {H : GHeap} {g : Nat} {ys : List Int} {e : TypeId} {own : Bool} {n : Nat} (h : H.get g = some (.row (ints ys) e own)) (hn : ys.length = n) : SlA H (some ⟨g, 0, none⟩) n (fun i => .int .i64 (ys.getD i 0)) := by
  subst hn; exact Ints.of_get h

theorem SlA.of_row {H : GHeap} {g n : Nat} {cs : List Value} {e : TypeId} {own : Bool} (h : H.get g = some (.row cs e own)) (hn : cs.length = n) : SlA H (some ⟨g, 0, none⟩) n (fun i => cs.getD i (.bool false)) := by
  subst hn
  exact .inr ⟨g, 0, rfl, fun i hi => by rw [GHeap.cell_of h, Nat.zero_add]; simp [List.getD_eq_getElem?_getD, hi]⟩

def Keep (b : Nat) (H H' : GHeap) : Prop := ∀ g o, b ≤ g → H.get g = some o → H'.get g = some o
def IntsAt (b : Nat) (H : GHeap) (a : Option Addr) (xs : List Int) : Prop := ∃ g e, a = some ⟨g, 0, none⟩ ∧ b ≤ g ∧ H.get g = some (.row (ints xs) e true)
theorem IntsAt.ints {b : Nat} {H : GHeap} {a : Option Addr} {xs : List Int} (h : IntsAt b H a xs) : Ints H a xs := by
  obtain ⟨g, e, rfl, _, h3⟩ := h
  exact Ints.of_get h3
structure Bld (H0 : GHeap) (b g2 g3 : Nat) (t : TypeId) (z cs : List Value) (H : GHeap) : Prop where
  le : H0.Le H
  a2 : H0.next ≤ g2
  l2 : g2 < b
  a3 : H0.next ≤ g3
  l3 : g3 < b
  ne : g2 ≠ g3
  res : H.get g2 = some (.row z t true)
  own : H.get g3 = some (.row cs t true)
  bn : b ≤ H.next
theorem setAll_gen (vs : List Value) : ∀ (pre a rest : List Value), a.length = vs.length → setAll (pre ++ (a ++ rest)) pre.length vs = pre ++ (vs ++ rest) := by
  induction vs with
  | nil => intro pre a rest h; obtain rfl := List.length_eq_zero_iff.1 (by simpa using h); rfl
  | cons v vs ih =>
    intro pre a rest h
    match a, h with
    | x :: a, h =>
      have e : (pre ++ (x :: a ++ rest)).set pre.length v = (pre ++ [v]) ++ (a ++ rest) := by simp [List.set_append]
      have := ih (pre ++ [v]) a rest (by simpa using h)
      rw [List.length_append] at this
      unfold setAll
      rw [e]
      simpa using this
theorem setAll_all (a vs : List Value) (h : a.length = vs.length) : setAll a 0 vs = vs := by
  have := setAll_gen vs [] a [] h
  simpa using this

end Go.GL
namespace Go.Proofs.YtdnjnligclkkgaaDoor
open Go Go.GL Go.RowKit Go.Proofs
theorem mo_E : Tryd.prog.follows .mixedOrders = true := by kernel_rfl
theorem eqInt64S_c {a b : Option Addr} {xs : List Int} {H : GHeap} (h : Ints H a xs := by assumption) (h' : Ints H b xs := by assumption) (hx : xs.length ≤ 1048576 := by omega) :
    GCalls Tryd.prog 27 [.slice a xs.length xs.length, .slice b xs.length xs.length] H (Ret (.bool true) H) := by
  refine GCalls.body (N := 26) (rs := [.tmp 4]) Tryd.func27 rfl rfl rfl rfl (fun Qx c hend => ?_)
  refine .fg [0, 1] rfl ?_
  refine .seq (fun K1 m => .region (.mv rfl (.nil (m _ _ (.seq (fun K2 o => .seq (fun K3 r => .region (.mv rfl (.q rfl (.len sl_36_A rfl) (.mv rfl (.q rfl (.len sl_36_A rfl) (.q rfl (.cmp rfl rfl rfl) (.nil (r _ _ ?_))))))))))))))
  refine .cond rfl ?_ ?_ <;> intro l
  ·
   try simp only [sps] at l
   refine .seq (fun K4 t => .region (.mv rfl (.nil (t _ _ (.ret (c _ _ (⟨_, rfl, ?_⟩)))))))
   (exfalso; simp_all)
  try simp only [sps] at l
  refine .skip (o _ _ (.seq (fun K5 s => .seq (fun K6 u => .region (.mv rfl (.nil (u _ _ (.block ?_))))))))
  refine .loopF (σ := Nat) [0, 1] (fun k => [(5, some (.int .i64 (k : Int)))]) (fun k H' => H = H' ∧ k ≤ xs.length) (fun k => xs.length - k) (0) rfl (.p rfl) ?_ ?_
  ·
   refine ⟨rfl, ?_⟩
   omega
  rintro k _ ⟨rfl, _⟩ _ f
  dsimp only [cA, nA]
  refine .seq (fun K7 w => .seq (fun K8 n => .region (.mv rfl (.mv rfl (.q rfl (.len sl_36_A rfl) (.q rfl (.cmp rfl rfl rfl) (.nil (n _ _ ?_))))))))
  refine .cond rfl ?_ ?_ <;> intro i
  ·
   try simp only [sps] at i
   refine .skip (w _ _ (.seq (fun K9 v => .block (.seq (fun K10 g => ?_)))))
   refine .regionD mo_E (.qs [0, 1, 2, 3, 4, 5, 6, 7, 8] (.done)) (by kernel_rfl) ?_
   refine .mv rfl rfl (.mv rfl rfl (.q rfl (.iN sl_36_A rfl rfl) (.q rfl (.lI on_2_A rfl) (.mv rfl rfl (.mv rfl rfl (.q rfl (.iN sl_36_A rfl rfl) (.q rfl (.lI on_2_A rfl) (.q rfl (.cmp rfl rfl rfl) (.done (g _ _ ?_))))))))))
   refine .cond rfl ?_ ?_ <;> intro j
   ·
    try simp only [sps] at j
    refine .seq (fun K11 d => .region (.mv rfl (.nil (d _ _ (.ret (c _ _ (⟨_, rfl, ?_⟩)))))))
    (exfalso; simp_all)
   try simp only [sps] at j
   refine .skip (v _ _ (.region (.mv rfl (.q rfl (.aD rfl rfl rfl) (.mv rfl (.nil ?_))))))
   refine f (k + 1) _ _ ?_ ?_ (.p rfl)
   ·
    refine ⟨rfl, ?_⟩
    omega
   omega
  try simp only [sps] at i
  refine .exit (s _ _ (.seq (fun K12 e => .region (.mv rfl (.nil (e _ _ (.ret (c _ _ (⟨_, rfl, ?_⟩)))))))))
  exact .of rfl
end Go.Proofs.YtdnjnligclkkgaaDoor
namespace Go.Proofs.YtdnjnligclkkgaaDoor
open Go Go.GL Go.RowKit Go.Proofs
end Go.Proofs.YtdnjnligclkkgaaDoor
namespace Go.GL

abbrev Fun.A (f : Fun) (a : Int) : Int := f.ar.getD a.toNat 0
structure Fun.Fits (f : Fun) : Prop where
  ol : (f.ob.length : Int) = f.s.obj
  al : f.ar.length = f.s.src.length
  ob : ∀ i, i < f.ob.length → 0 ≤ f.ob.getD i 0 ∧ f.ob.getD i 0 < f.t.obj
  ar : ∀ i, i < f.ar.length → 0 ≤ f.ar.getD i 0 ∧ f.ar.getD i 0 < f.t.src.length
  ends : ∀ a, a < f.ar.length → f.t.src.getD (f.ar.getD a 0).toNat 0 = f.ob.getD (f.s.src.getD a 0).toNat 0 ∧ f.t.tgt.getD (f.ar.getD a 0).toNat 0 = f.ob.getD (f.s.tgt.getD a 0).toNat 0
  ids : ∀ x, x < f.s.idn.length → f.ar.getD (f.s.idn.getD x 0).toNat 0 = f.t.idn.getD (f.ob.getD x 0).toNat 0
  th : ∀ a, a < f.s.src.length → ∀ b, b < f.s.src.length → f.s.tgt.getD a 0 = f.s.src.getD b 0 → f.A (f.s.th a b) = f.t.th (f.ar.getD a 0) (f.ar.getD b 0)
def Fun.Is (f : Fun) : Prop := f.s.Is ∧ f.t.Is ∧ f.Fits

def Tra.Sq (m : Tra) (a : Nat) : Prop := m.s.t.th (m.s.ar.getD a 0) (m.co.getD (m.s.s.tgt.getD a 0).toNat 0) = m.s.t.th (m.co.getD (m.s.s.src.getD a 0).toNat 0) (m.t.ar.getD a 0)
structure Tra.Shape (m : Tra) : Prop where
  s : m.s.Is
  t : m.t.Is
  ps : m.s.s = m.t.s
  pt : m.s.t = m.t.t
  cl : (m.co.length : Int) = m.s.s.obj
  co : ∀ i, i < m.co.length → 0 ≤ m.co.getD i 0 ∧ m.co.getD i 0 < m.s.t.src.length
  ends : ∀ x, x < m.co.length → m.s.t.src.getD (m.co.getD x 0).toNat 0 = m.s.ob.getD x 0 ∧ m.s.t.tgt.getD (m.co.getD x 0).toNat 0 = m.t.ob.getD x 0
def Tra.Is (m : Tra) : Prop := m.Shape ∧ ∀ a, a < m.s.ar.length → m.Sq a
noncomputable def Tra.first (m : Tra) : Int := match firstN m.s.ar.length (fun a => !B (m.Sq a)) with | some a => (a : Int) | none => -1
section
variable {P : Program} {N : Nat} {ops : Array Oper} {Q : Slots → GHeap → Prop} {fr : Slots} {H Hb : GHeap}
end
end Go.GL
namespace Go.Proofs.YtdnjnligclkkgaaDoor
open Go Go.GL Go.RowKit Go.Proofs
end Go.Proofs.YtdnjnligclkkgaaDoor
namespace Go.Proofs.YtdnjnligclkkgaaDoor
open Go Go.GL Go.RowKit Go.Proofs
end Go.Proofs.YtdnjnligclkkgaaDoor
namespace Go.Proofs.YtdnjnligclkkgaaDoor
open Go Go.GL Go.RowKit Go.Proofs
end Go.Proofs.YtdnjnligclkkgaaDoor
namespace Go.GL
open Go.RowKit

def out : List Nat → Nat → Prop
  | [], _ => True
  | g :: r, k => k ≠ g ∧ out r k
structure St (bs : List Nat) (H H' : GHeap) : Prop where
  nx : H.next ≤ H'.next
  same : ∀ k o, out bs k → H.get k = some o → H'.get k = some o
theorem St.refl (bs : List Nat) (H : GHeap) : St bs H H := ⟨Nat.le_refl _, fun _ _ _ h => h⟩
theorem GHeap.Le.st {H0 H H' : GHeap} {bs : List Nat} (h : H0.Le H) (s : St bs H H') (hg : ∀ k, k < H0.next → out bs k) : H0.Le H' :=
  ⟨Nat.le_trans h.1 s.nx, fun k o hk => s.same k o (hg k (GHeap.ltg hk)) (h.2 k o hk)⟩
theorem St.le {bs : List Nat} {H0 H H' : GHeap} (s : St bs H0 H) (h : H.Le H') : St bs H0 H' := ⟨Nat.le_trans s.nx h.1, fun k o hk hg => h.2 k o (s.same k o hk hg)⟩
theorem St.st {bs cs : List Nat} {H0 H H' : GHeap} (s : St bs H0 H) (h : St cs H H') (hg : ∀ k, k < H0.next → out bs k → out cs k) : St bs H0 H' :=
  ⟨Nat.le_trans s.nx h.nx, fun k o hk h1 => h.same k o (hg k (GHeap.ltg h1) hk) (s.same k o hk h1)⟩
theorem St.sA {bs cs : List Nat} {H0 H H' : GHeap} (s : St bs H0 H) (h : St cs H H') (hg : ∀ k, k < H0.next → out bs k → out cs k := by intro k hk ho; simp only [out, and_true] at ho ⊢ <;> first | exact ho | exact ho.1 | exact ho.2 | exact ho.2.1 | exact ho.2.2 | exact ho.2.2.1 | exact ho.2.2.2 | omega) : St bs H0 H' := s.st h hg
theorem St.s {g k : Nat} {H H' : GHeap} {o : GObj} (s : St [g] H H') (h : H.get k = some o) (hne : k ≠ g := by first | assumption | omega) : H'.get k = some o := s.same k o ⟨hne, trivial⟩ h
theorem Keep.le {b : Nat} {H0 H H' : GHeap} (k : Keep b H0 H) (h : H.Le H') : Keep b H0 H' := fun g o hb hg => h.2 g o (k g o hb hg)
theorem St.of_set {g : Nat} {H : GHeap} {o : Option GObj} : St [g] H (H.set g o) := ⟨by rw [GHeap.next_set]; exact Nat.le_refl _, fun k x hk h => by rw [GHeap.get_set_ne (Ne.symm hk.1)]; exact h⟩
theorem St.push {bs : List Nat} {H H' : GHeap} {o : GObj} (s : St bs H H') : St bs H (H'.push o) := ⟨by rw [GHeap.next_push]; have := s.nx; omega, fun k x hk h => GHeap.get_push_of (s.same k x hk h)⟩

section
variable {P : Program} {N : Nat} {ops : Array Oper} {Q : Slots → GHeap → Prop} {L : List (Oper × Nat)} {fr : Slots} {H Hb : GHeap} {o : Oper} {i : Nat} {t : Tree}
theorem CDo.mono {R R' : Option Value → GHeap → Prop} (h : CDo P o fr H R) (hi : ∀ v H', R v H' → R' v H') : CDo P o fr H R' :=
  .mkI fun l B w0 ρ a w hs hf next Qx hn => h.run l B w0 ρ a w hs hf next Qx fun ρ' v c H' w' hR => hn ρ' v c H' w' (hi v H' hR)
theorem GTree.mono {Q' : Slots → GHeap → Prop} (hq : ∀ fr H, Q' fr H → Q fr H) : ∀ {t : Tree} {fr : Slots} {Hb H : GHeap}, GTree P N ops Q' t fr Hb H → GTree P N ops Q t fr Hb H
  | .done, _, _, _, h => hq _ _ h
  | .q i t, fr, Hb, H, h => by
    unfold GTree at h ⊢
    obtain ⟨o, h1, h2, h3⟩ := h
    refine ⟨o, h1, h2, ?_⟩
    split
    · rename_i hg
      rw [hg] at h3
      obtain ⟨v, Hq, k1, k2, k3, k4⟩ := h3
      exact ⟨v, Hq, k1, k2, k3, GTree.mono hq k4⟩
    · rename_i j want hg
      rw [hg] at h3
      obtain ⟨s, c, k1, k2, kg, k3, k4⟩ := h3
      exact ⟨s, c, k1, k2, kg, fun e => let ⟨v, Hq, l1, l2, l3, l4⟩ := k3 e; ⟨v, Hq, l1, l2, l3, GTree.mono hq l4⟩, fun e => GTree.mono hq (k4 e)⟩
  | .c i k t, fr, Hb, H, h => by
    unfold GTree at h ⊢
    obtain ⟨o, h1, h2, h3⟩ := h
    refine ⟨o, h1, h2, ?_⟩
    split
    · rename_i hg
      rw [hg] at h3
      exact h3.mono fun v H' ⟨l1, l2⟩ => ⟨l1, GTree.mono hq l2⟩
    · rename_i j want hg
      rw [hg] at h3
      obtain ⟨s, c, k1, k2, kg, k3, k4⟩ := h3
      exact ⟨s, c, k1, k2, kg, fun e => (k3 e).mono fun v H' ⟨l1, l2⟩ => ⟨l1, GTree.mono hq l2⟩, fun e => GTree.mono hq (k4 e)⟩
  | .or s t, fr, Hb, H, h => by
    unfold GTree at h ⊢
    exact ⟨GTree.mono hq h.1, GTree.mono hq h.2⟩
theorem GTree.cut (rest : Slots) (hr : Sub rest fr) (R : Slots → Slots → GHeap → Prop) (h : GTree P N ops (R rest) t fr Hb H) (hq : ∀ fr' H', R rest fr' H' → Q fr' H') : GTree P N ops Q t fr Hb H := h.mono hq
theorem GTree.mB {d : Tmp} {v : Value} (hi : ops[i]? = some o) (hd : o.dst = some d) (hN : Nat.blt d N = true) (hg : o.guard = none) (hle : Hb.Le H) (hm : MStep P fr Hb o.op v) (h : GTree P N ops Q t ((d, some v) :: fr) Hb H) : GTree P N ops Q (.q i t) fr Hb H := by
  unfold GTree
  refine ⟨o, hi, by unfold dstOk; rw [hd]; exact hN, ?_⟩
  rw [hg]
  exact ⟨v, Hb, .refl _, hle, hm, by rw [hd]; exact h⟩
theorem GTree.qB {d : Tmp} {v : Value} (h : stpT ops i N = some (o, d)) (hle : Hb.Le H) (hm : MStep P fr Hb o.op v) (hq : GTree P N ops Q t ((d, some v) :: fr) Hb H) : GTree P N ops Q (.q i t) fr Hb H := by
  obtain ⟨h0, h4⟩ := stpT.spec h
  obtain ⟨h1, h2, h3⟩ := stpR.spec h4
  exact .mB h0 h1 h2 h3 hle hm hq
theorem GRun.r {d : Tmp} {R : Option Value → GHeap → Prop} (hd : o.dst = some d) (hN : Nat.blt d N = true) (hg : o.guard = none) (hc : CDo P o fr H R) (h : ∀ v H', R v H' → GRun P N ops Q L ((d, v) :: fr) H') : GRun P N ops Q ((o, 0) :: L) fr H :=
  .c hd hN hg (by simp) hc fun v H' hR => ⟨fun e => (by cases e), h v H' hR⟩
theorem GRun.R {d : Tmp} {R : Option Value → GHeap → Prop} (h0 : stpR o N = some d) (hc : CDo P o fr H R) (h : ∀ v H', R v H' → GRun P N ops Q L ((d, v) :: fr) H') : GRun P N ops Q ((o, 0) :: L) fr H := by
  obtain ⟨h1, h2, h3⟩ := stpR.spec h0
  exact .r h1 h2 h3 hc h
theorem GRun.r0 {R : Option Value → GHeap → Prop} (hd : o.dst = none) (hg : o.guard = none) (hc : CDo P o fr H R) (h : ∀ v H', R v H' → GRun P N ops Q L fr H') : GRun P N ops Q ((o, 0) :: L) fr H :=
  .c0 hd hg (by simp) hc fun v H' hR => ⟨fun e => (by cases e), h v H' hR⟩
theorem GTree.r0 {R : Option Value → GHeap → Prop} (hi : ops[i]? = some o) (hd : o.dst = none) (hg : o.guard = none) (hc : CDo P o fr H R) (h : ∀ v H', R v H' → GTree P N ops Q t fr H' H') : GTree P N ops Q (.c i 0 t) fr Hb H := by
  unfold GTree
  refine ⟨o, hi, by unfold dstOk; rw [hd], ?_⟩
  rw [hg]
  refine .mkI fun l B w0 ρ a w hs hf next Qx hn => ?_
  exact hc.run l B w0 ρ a w hs hf next Qx fun ρ' v c H' w' hR => hn ρ' v c H' w' ⟨fun e => (by cases e), by rw [hd, if_neg (by simp)]; exact h v H' hR⟩
end

section
variable {P : Program} {H : GHeap} {fr : Slots} {o : Oper}
theorem CDo.boxR {e : TypeId} {x : Operand} {v : Value} {n : Nat} (ho : o.op = .box e x) (he : (P.info? e).map (·.size) = some n) (hx : ev fr x = some v) :
    CDo P o fr H (fun r H' => ∃ g, r = some (.pointer (some ⟨g, 0, none⟩)) ∧ H.Le H' ∧ H.next ≤ g ∧ H'.get g = some (.row v.cells.toList e true)) :=
  .box ho he hx ⟨_, rfl, GHeap.le_push _ _, Nat.le_refl _, GHeap.get_push_new _ _⟩
theorem CDo.allocR {e : TypeId} {z : List Value} {n : Nat} (ho : o.op = .alloc e) (hz : zeroT P e = some (z, n)) (hfl : z.all flat1 = true) :
    CDo P o fr H (fun r H' => ∃ g, r = some (.pointer (some ⟨g, 0, none⟩)) ∧ H.Le H' ∧ H.next ≤ g ∧ H'.get g = some (.row z e true)) :=
  .alloc ho hz hfl ⟨_, rfl, GHeap.le_push _ _, Nat.le_refl _, GHeap.get_push_new _ _⟩
theorem CDo.litR {t e : TypeId} {len n : Nat} {parts : Array (Nat × Operand)} {z vs cs : List Value} (ho : o.op = .buildSlice t len parts) (ht : sliceT P t = some (e, n)) (hz : zeroT P e = some (z, n)) (hfl : z.all flat1 = true) (hzn : z.length = n) (h0 : 0 < n)
    (hsm : len * n ≤ 16777216) (hv : evs fr (parts.toList.map (·.2)) = some vs) (hc : fillL (fun i => some (i * n, n)) (madeL z (len * n)) ((parts.toList.map (·.1)).zip vs) = some cs) :
    CDo P o fr H (fun r H' => ∃ g, r = some (.slice (some ⟨g, 0, none⟩) len len) ∧ H.Le H' ∧ H.next ≤ g ∧ H'.get g = some (.row cs e true)) :=
  .buildSlice ho ht hz hfl hzn h0 hsm hv hc ⟨_, rfl, GHeap.le_push _ _, Nat.le_refl _, GHeap.get_push_new _ _⟩
theorem CDo.storeR {t : TypeId} {x y : Operand} {g off : Nat} {v : Value} {cs : List Value} {e : TypeId} (ho : o.op = .store t x y) (ht : (P.info? t).map (·.size) = some 1) (hx : ev fr x = some (.pointer (some ⟨g, off, none⟩))) (hy : ev fr y = some v)
    (h1 : v.oneCell' = true) (hg : H.get g = some (.row cs e true)) (hoff : off < cs.length) :
    CDo P o fr H (fun r H' => r = none ∧ St [g] H H' ∧ H'.get g = some (.row (cs.set off v) e true)) :=
  .store ho ht hx hy h1 hg hoff ⟨rfl, .of_set, GHeap.get_set_eq (GHeap.ltg hg)⟩
theorem CDo.storeI {t : TypeId} {x y : Operand} {g off : Nat} {m : Int} {ys : List Int} {e : TypeId} (ho : o.op = .store t x y) (ht : (P.info? t).map (·.size) = some 1) (hx : ev fr x = some (.pointer (some ⟨g, off, none⟩))) (hy : ev fr y = some (.int .i64 m))
    (hg : H.get g = some (.row (ints ys) e true)) (hoff : off < ys.length) :
    CDo P o fr H (fun r H' => r = none ∧ St [g] H H' ∧ H'.get g = some (.row (ints (ys.set off m)) e true)) := by
  rw [← ints_set]; exact .storeR ho ht hx hy rfl hg (by simpa using hoff)
theorem CDo.storeNR {t : TypeId} {x y : Operand} {g off n : Nat} {vs : Array Value} {cs : List Value} {e : TypeId} (ho : o.op = .store t x y) (ht : (P.info? t).map (·.size) = some n) (hx : ev fr x = some (.pointer (some ⟨g, off, none⟩))) (hy : ev fr y = some (.agg vs))
    (hn : vs.size = n) (h1 : vs.toList.all (·.oneCell') = true) (hg : H.get g = some (.row cs e true)) (hoff : off + n ≤ cs.length) :
    CDo P o fr H (fun r H' => r = none ∧ St [g] H H' ∧ H'.get g = some (.row (setAll cs off vs.toList) e true)) :=
  .storeN ho ht hx hy hn h1 hg hoff ⟨rfl, .of_set, GHeap.get_set_eq (GHeap.ltg hg)⟩
theorem CDo.fillR {t : TypeId} {x y : Operand} {g n : Nat} {vs : Array Value} {cs : List Value} {e : TypeId} (ho : o.op = .store t x y) (ht : (P.info? t).map (·.size) = some n) (hx : ev fr x = some (.pointer (some ⟨g, 0, none⟩))) (hy : ev fr y = some (.agg vs))
    (hn : vs.size = n) (h1 : vs.toList.all (·.oneCell') = true) (hg : H.get g = some (.row cs e true)) (hoff : cs.length = n) :
    CDo P o fr H (fun r H' => r = none ∧ St [g] H H' ∧ H'.get g = some (.row vs.toList e true)) := by
  have : setAll cs 0 vs.toList = vs.toList := setAll_all _ _ (by simp [hoff, hn])
  have h := CDo.storeNR (P := P) (H := H) ho ht hx hy hn h1 hg (by omega)
  rw [this] at h
  exact h
theorem CDo.litA {t e : TypeId} {len n : Nat} {parts : Array (Nat × Operand)} {z vs cs : List Value} (ho : o.op = .buildSlice t len parts) (ht : sliceT P t = some (e, n)) (hz : zeroT P e = some (z, n)) (hfl : z.all flat1 = true) (hzn : z.length = n) (hv : evs fr (parts.toList.map (·.2)) = some vs) (hc : fillL (fun i => some (i * n, n)) (madeL z (len * n)) ((parts.toList.map (·.1)).zip vs) = some cs) (h0 : 0 < n := by omega)
    (hsm : len * n ≤ 16777216 := by omega) : CDo P o fr H (fun r H' => ∃ g, r = some (.slice (some ⟨g, 0, none⟩) len len) ∧ H.Le H' ∧ H.next ≤ g ∧ H'.get g = some (.row cs e true)) := .litR ho ht hz hfl hzn h0 hsm hv hc
theorem CDo.fillA {t : TypeId} {x y : Operand} {g n : Nat} {vs : Array Value} {cs : List Value} {e : TypeId} (ho : o.op = .store t x y) (ht : (P.info? t).map (·.size) = some n) (hx : ev fr x = some (.pointer (some ⟨g, 0, none⟩))) (hy : ev fr y = some (.agg vs))
    (hn : vs.size = n) (h1 : vs.toList.all (·.oneCell') = true) (hg : H.get g = some (.row cs e true) := by assumption) (hoff : cs.length = n := by first | rfl | exact Nat.le_of_ble_eq_true rfl | simp) :
    CDo P o fr H (fun r H' => r = none ∧ St [g] H H' ∧ H'.get g = some (.row vs.toList e true)) := .fillR ho ht hx hy hn h1 hg hoff
theorem CDo.appendR {t tx e : TypeId} {s x : Operand} {g off n m sz bytes : Nat} {z cs news : List Value} (ho : o.op = .call { callee := .builtin .append, args := #[s, x], argTypes := #[t, tx] }) (ht : sliceT P t = some (e, sz)) (hz : zeroT P e = some (z, sz)) (hzn : z.length = sz)
    (hb : (P.info? e).map (·.bytes) = some bytes) (hsv : ev fr s = some (.slice (some ⟨g, off, none⟩) n n)) (hg : H.get g = some (.row cs e true)) (hend : off + n * sz = cs.length) (hsrc : SrcG P fr H sz tx x m news)
    (hN : n + m ≤ 16777216) (hB : (n + m) * bytes ≤ 140737488355328) :
    CDo P o fr H (fun r H' => ∃ g', r = some (.slice (some ⟨g', 0, none⟩) (n + m) (n + m)) ∧ St [g] H H' ∧ H.next ≤ g' ∧ H'.get g' = some (.row (cs.drop off ++ news) e true)) :=
  .append ho ht hz hzn hb hsv hg hend hsrc (by unfold maxLen; omega) hB ⟨_, rfl, .push .of_set, Nat.le_refl _, by have := GHeap.get_push_new (H.set g none) (.row (cs.drop off ++ news) e true); rwa [GHeap.next_set] at this⟩
theorem CDo.appendV {t tx e e' : TypeId} {s x : Operand} {g g1 n sz bytes : Nat} {z cs vs : List Value} (ho : o.op = .call { callee := .builtin .append, args := #[s, x], argTypes := #[t, tx] }) (ht : sliceT P t = some (e, sz)) (hz : zeroT P e = some (z, sz)) (hzn : z.length = sz)
    (hb : (P.info? e).map (·.bytes) = some bytes) (htx : sliceT P tx = some (e', sz)) (hsv : ev fr s = some (.slice (some ⟨g, 0, none⟩) n n)) (hx : ev fr x = some (.slice (some ⟨g1, 0, none⟩) 1 1)) (hg : H.get g = some (.row cs e true)) (hg1 : H.get g1 = some (.row vs e' true)) (hend : n * sz = cs.length)
    (hv : vs.length = sz) (hone : vs.all (·.oneCell') = true) (hN : n + 1 ≤ 16777216) (hB : (n + 1) * bytes ≤ 140737488355328) :
    CDo P o fr H (fun r H' => ∃ g', r = some (.slice (some ⟨g', 0, none⟩) (n + 1) (n + 1)) ∧ St [g] H H' ∧ H.next ≤ g' ∧ H'.get g' = some (.row (cs ++ vs) e true)) :=
  .appendR (cs := cs) (news := vs) ho ht hz hzn hb hsv hg (by omega) (.slice htx hx (by omega) (fun i v hv => by rw [GHeap.cell_of hg1, Nat.zero_add]; exact hv) (fun v hv => List.all_eq_true.1 hone v hv)) hN hB
theorem CDo.appendI {t tx e e' : TypeId} {s x : Operand} {g g1 n bytes : Nat} {z : List Value} {ys : List Int} {m : Int} (ho : o.op = .call { callee := .builtin .append, args := #[s, x], argTypes := #[t, tx] }) (ht : sliceT P t = some (e, 1)) (hz : zeroT P e = some (z, 1)) (hzn : z.length = 1)
    (hb : (P.info? e).map (·.bytes) = some bytes) (htx : sliceT P tx = some (e', 1)) (hsv : ev fr s = some (.slice (some ⟨g, 0, none⟩) n n)) (hx : ev fr x = some (.slice (some ⟨g1, 0, none⟩) 1 1)) (hg : H.get g = some (.row (ints ys) e true)) (hg1 : H.get g1 = some (.row [.int .i64 m] e' true)) (hend : n = ys.length)
    (hN : n + 1 ≤ 16777216) (hB : (n + 1) * bytes ≤ 140737488355328) :
    CDo P o fr H (fun r H' => ∃ g', r = some (.slice (some ⟨g', 0, none⟩) (n + 1) (n + 1)) ∧ St [g] H H' ∧ H.next ≤ g' ∧ H'.get g' = some (.row (ints (ys ++ [m])) e true)) := by
  have e1 : ints (ys ++ [m]) = ints ys ++ [.int .i64 m] := by simp [ints]
  rw [e1]
  exact .appendV ho ht hz hzn hb htx hsv hx hg hg1 (by simp; omega) rfl rfl hN hB
end

def filtN (n : Nat) (p : Nat → Bool) : List Int := ((List.range n).filter p).map fun (i : Nat) => (i : Int)
theorem getD_mem {xs : List Int} {i : Nat} (h : i < xs.length) : xs.getD i 0 ∈ xs := by
  rw [List.getD_eq_getElem?_getD, List.getElem?_eq_getElem h]; exact List.getElem_mem h
theorem mem_getD {xs : List Int} {x : Int} (h : x ∈ xs) : ∃ i, i < xs.length ∧ xs.getD i 0 = x := by
  obtain ⟨i, hi, e⟩ := List.getElem_of_mem h
  exact ⟨i, hi, by rw [List.getD_eq_getElem?_getD, List.getElem?_eq_getElem hi]; exact e⟩
def firstIn (xs : List Int) (p : Int → Bool) : Int := (xs.find? p).getD (-1)
theorem CDo.apI {P : Program} {o : Oper} {fr : Slots} {H : GHeap} {t tx e e' : TypeId} {s x : Operand} {g g1 n bytes : Nat} {z : List Value} {ys : List Int} {m : Int} (ho : o.op = .call { callee := .builtin .append, args := #[s, x], argTypes := #[t, tx] }) (ht : sliceT P t = some (e, 1)) (hz : zeroT P e = some (z, 1)) (hzn : z.length = 1)
    (hb : (P.info? e).map (·.bytes) = some bytes) (htx : sliceT P tx = some (e', 1)) (hsv : ev fr s = some (.slice (some ⟨g, 0, none⟩) n n)) (hx : ev fr x = some (.slice (some ⟨g1, 0, none⟩) 1 1)) (hg : H.get g = some (.row (ints ys) e true) := by assumption) (hg1 : H.get g1 = some (.row [.int .i64 m] e' true) := by assumption) (hend : n = ys.length := by first | omega | (simp <;> omega))
    (hN : n + 1 ≤ 16777216 := by omega) (hB : (n + 1) * bytes ≤ 140737488355328 := by omega) :
    CDo P o fr H (fun r H' => ∃ g', r = some (.slice (some ⟨g', 0, none⟩) (n + 1) (n + 1)) ∧ St [g] H H' ∧ H.next ≤ g' ∧ H'.get g' = some (.row (ints (ys ++ [m])) e true)) := .appendI ho ht hz hzn hb htx hsv hx hg hg1 hend hN hB
end Go.GL
namespace Go.GL

def Cat.hom (c : Cat) (x y : Int) : List Int := filtN c.src.length fun f => decide (c.src.getD f 0 = x) && decide (c.tgt.getD f 0 = y)
def Cat.invB (c : Cat) (f g : Int) : Bool := decide (c.th f g = c.idn.getD (c.src.getD f.toNat 0).toNat 0) && decide (c.th g f = c.idn.getD (c.tgt.getD f.toNat 0).toNat 0)
def Cat.inv (c : Cat) (f : Int) : Int := firstIn (c.hom (c.tgt.getD f.toNat 0) (c.src.getD f.toNat 0)) (c.invB f)
end Go.GL
namespace Go.Proofs.YtdnjnligclkkgaaDoor
open Go Go.GL Go.RowKit Go.Proofs
end Go.Proofs.YtdnjnligclkkgaaDoor
namespace Go.GL
open Go.RowKit Go.WideShapes Go.ChangeShapes Go.Deep

def Intsss (H : GHeap) (a : Option Addr) (x : List (List (List Int))) (r : Nat → Option Addr) (s : Nat → Nat → Option Addr) : Prop :=
  SlA H a x.length (fun i => .slice (r i) (x.getD i []).length (x.getD i []).length) ∧ ∀ i, i < x.length → Intss H (r i) (x.getD i []) (s i)
def Sm3 (x : List (List (List Int))) : Prop := x.length ≤ 1048576 ∧ ∀ i, (x.getD i []).length ≤ 1048576 ∧ ∀ j, ((x.getD i []).getD j []).length ≤ 1048576
end Go.GL
namespace Go.GL
open Go.RowKit Go.WideShapes Go.ChangeShapes Go.Deep

structure Imp1 (P : Program) (t : TypeId) (R : GHeap → Value → Prop) : Prop where
  mono : ∀ {H H' : GHeap} {g : Value}, H.Le H' → R H g → R H' g
  imp : ∀ {T : Type} {enc : TypeId × Value → T} {B : Nat} {w0 : World} {ρ : Place} {H : GHeap} {w : World} {held : Bool} {base fuel : Nat} {v : Value} {x : DataW T × List MemPlace}, Sim P B w0 ρ H w → w.heap.size ≤ B →
    DataW.trod enc P w 0 (fun _ => true) held fuel t v.cells.toList = some x → Value.okWide P w .any base t v → ∃ ρ' H' g, Sim P B w0 ρ' H' w ∧ Ext ρ ρ' ∧ H.Le H' ∧ VRel ρ' g v ∧ R H' g

structure ImpAll (P : Program) (ts : List TypeId) (R : GHeap → List Value → Prop) : Prop where
  imp : ∀ {T : Type} {enc : TypeId × Value → T} {B : Nat} {w0 : World} {ρ : Place} {H : GHeap} {w : World} {base : Nat} {vs : List Value} {ds : List (DataW T)} {ps : List MemPlace}, Sim P B w0 ρ H w → w.heap.size ≤ B →
    DataW.TrodAll enc P w 0 (fun _ => true) true ts vs ds ps → (∀ (j : Nat) t v, ts[j]? = some t → vs[j]? = some v → Value.okWide P w .any base t v) → ds.length = ts.length ∧ ∃ ρ' H' gs, Sim P B w0 ρ' H' w ∧ Ext ρ ρ' ∧ H.Le H' ∧ LRel ρ' gs vs ∧ R H' gs
theorem ImpAll.nil {P : Program} : ImpAll P [] (fun _ gs => gs = []) where
  imp := by
    intro T enc B w0 ρ H w base vs ds ps hs hB h hv
    obtain ⟨rfl, rfl, rfl⟩ := trodAll_nil h
    exact ⟨rfl, ρ, H, [], hs, .refl ρ, .refl H, .nil ρ, rfl⟩
theorem ImpAll.cons {P : Program} {t : TypeId} {ts : List TypeId} {R1 : GHeap → Value → Prop} {R : GHeap → List Value → Prop} (h1 : Imp1 P t R1) (h2 : ImpAll P ts R) : ImpAll P (t :: ts) (fun H gs => ∃ g r, gs = g :: r ∧ R1 H g ∧ R H r) where
  imp := by
    intro T enc B w0 ρ H w base vs ds ps hs hB h hv
    obtain ⟨v, vs, d, ds, p, q, rfl, rfl, rfl, ⟨fuel, k1⟩, k2⟩ := trodAll_cons h
    obtain ⟨ρ1, H1, g, s1, e1, l1, v1, r1⟩ := h1.imp hs hB k1 (hv 0 t v rfl rfl)
    obtain ⟨hl, ρ2, H2, gs, s2, e2, l2, v2, r2⟩ := h2.imp s1 hB k2 (fun j t v ht hj => hv (j + 1) t v (by simpa using ht) (by simpa using hj))
    exact ⟨by simp [hl], ρ2, H2, g :: gs, s2, e1.trans e2, l1.trans l2, .cons (v1.mono e2) v2, g, gs, rfl, h1.mono l2 r1, r2⟩

theorem law_calls {P : Program} {f : FuncId} {fn : Func} {ts : List TypeId} {tb : TypeId} {R : GHeap → List Value → Prop} (hI : ImpAll P ts R) (hp : fn.params = ts.toArray)
    (hc : ∀ H gs, R H gs → GCalls P f gs H fun v _ => v = .bool true)
    {T : Type} {enc : TypeId × Value → T} {W : World} {base : Nat} {args : Array Value} {s : ChangeSpec} {apart fresh handsOn again : Bool} {ds gs : List (DataW T)} {before : List MemPlace}
    (hval : ∀ (j : Nat) t v, fn.params[j]? = some t → args[j]? = some v → Value.okWide P W .any base t v)
    (hW : DataW.Whole enc P fn.params.toList s.vars apart W args.toList ds gs before)
    (hl : laidOutB P = true) (hr : readB P fn.params.toList = true) (hv : s.vars = []) (hrt : fn.resultTypes = #[tb]) (htb : P.underlying tb = some .bool)
    (hs : ∀ ds : List (DataW T), ds.length = ts.length → (s.fn T ds).results = [.lit (.bool true)] ∧ (s.fn T ds).args = ds ∧ (s.fn T ds).vars = []) :
    Calls P f args W fun e W' => ∃ v, e = .returned v ∧ s.post enc P fn apart fresh handsOn again W args v W' := by
  have hWW := hW
  obtain ⟨p, q, hA, _⟩ := hW
  rw [hp] at hA
  obtain ⟨hlen, ρ, H, gs', hs', _, _, hrel, hR⟩ := hI.imp (base := base) (Sim.start P W) (Nat.le_refl _) (by simpa using hA) (fun j t v ht hj => hval j t v (by rw [hp]; simpa using ht) (by simpa using hj))
  have := (hc H gs' hR) _ _ ρ args.toList W hs' hrel
  rw [Array.toArray_toList] at this
  refine this.mono fun e W' ⟨v, c, ρ', H', he, hv', _, hsim, hrv⟩ => ?_
  subst hv'
  cases hrv
  exact ⟨_, he, law_post hl hr hv hrt htb hWW (hs ds hlen).1 (hs ds hlen).2.1 (hs ds hlen).2.2 hsim.below⟩
end Go.GL
namespace Go.GL
open Go.RowKit
structure SFun where
  sh : Cat
  sz : List Int
  ac : List (List Int)
structure SFunP where
  sh : CatP
  a1 : Option Addr
  a2 : Option Addr
  r2 : Nat → Option Addr
def SFun.cells (c : SFun) (p : SFunP) : List Value := c.sh.cells p.sh ++ ([.slice p.a1 c.sz.length c.sz.length] ++ ([.slice p.a2 c.ac.length c.ac.length]))
def SFun.In (H : GHeap) (c : SFun) (p : SFunP) : Prop := c.sh.In H p.sh ∧ Ints H p.a1 c.sz ∧ Intss H p.a2 c.ac p.r2
def SFun.Small (c : SFun) : Prop := c.sh.Small ∧ c.sz.length ≤ 1048576 ∧ (c.ac.length ≤ 1048576 ∧ ∀ i, (c.ac.getD i []).length ≤ 1048576)
structure SMap where
  s : SFun
  t : SFun
  pa : List (List Int)
structure SMapP where
  s : SFunP
  t : SFunP
  a2 : Option Addr
  r2 : Nat → Option Addr
def SMap.cells (c : SMap) (p : SMapP) : List Value := c.s.cells p.s ++ (c.t.cells p.t ++ ([.slice p.a2 c.pa.length c.pa.length]))
def SMap.In (H : GHeap) (c : SMap) (p : SMapP) : Prop := c.s.In H p.s ∧ c.t.In H p.t ∧ Intss H p.a2 c.pa p.r2
def SMap.Small (c : SMap) : Prop := c.s.Small ∧ c.t.Small ∧ (c.pa.length ≤ 1048576 ∧ ∀ i, (c.pa.getD i []).length ≤ 1048576)
structure Con where
  ap : Int
  lg : List Int
structure ConP where
  a1 : Option Addr
def Con.cells (c : Con) (p : ConP) : List Value := [.int .i64 c.ap] ++ ([.slice p.a1 c.lg.length c.lg.length])
def Con.In (H : GHeap) (c : Con) (p : ConP) : Prop := Ints H p.a1 c.lg
def Con.Small (c : Con) : Prop := (-9223372036854775808 ≤ c.ap ∧ c.ap ≤ 9223372036854775807) ∧ c.lg.length ≤ 1048576
structure Prt where
  me : List (List Int)
structure PrtP where
  a0 : Option Addr
  r0 : Nat → Option Addr
def Prt.cells (c : Prt) (p : PrtP) : List Value := [.slice p.a0 c.me.length c.me.length]
def Prt.In (H : GHeap) (c : Prt) (p : PrtP) : Prop := Intss H p.a0 c.me p.r0
def Prt.Small (c : Prt) : Prop := (c.me.length ≤ 1048576 ∧ ∀ i, (c.me.getD i []).length ≤ 1048576)
structure Prof where
  s : Cat
  t : Cat
  sz : List (List Int)
  be : List (List (List Int))
  bh : List (List (List Int))
structure ProfP where
  s : CatP
  t : CatP
  a2 : Option Addr
  r2 : Nat → Option Addr
  a3 : Option Addr
  r3 : Nat → Option Addr
  s3 : Nat → Nat → Option Addr
  a4 : Option Addr
  r4 : Nat → Option Addr
  s4 : Nat → Nat → Option Addr
def Prof.cells (c : Prof) (p : ProfP) : List Value := c.s.cells p.s ++ (c.t.cells p.t ++ ([.slice p.a2 c.sz.length c.sz.length] ++ ([.slice p.a3 c.be.length c.be.length] ++ ([.slice p.a4 c.bh.length c.bh.length]))))
def Prof.In (H : GHeap) (c : Prof) (p : ProfP) : Prop := c.s.In H p.s ∧ c.t.In H p.t ∧ Intss H p.a2 c.sz p.r2 ∧ Intsss H p.a3 c.be p.r3 p.s3 ∧ Intsss H p.a4 c.bh p.r4 p.s4
def Prof.Small (c : Prof) : Prop := c.s.Small ∧ c.t.Small ∧ (c.sz.length ≤ 1048576 ∧ ∀ i, (c.sz.getD i []).length ≤ 1048576) ∧ Sm3 c.be ∧ Sm3 c.bh
end Go.GL
namespace Go.GL
open Go.RowKit

def thenL (f g : List Int) : List Int := f.map fun y => g.getD y.toNat 0
noncomputable def Cat.iso (c : Cat) (x y : Int) : Int := firstIn (c.hom x y) fun g => decide (0 ≤ c.inv g)
end Go.GL
namespace Go.GL

def first2 (n : Nat) (len : Nat → Nat) (p : Nat → Nat → Bool) : Int × Int :=
  match firstN n fun a => (firstN (len a) (p a)).isSome with
  | some a => ((a : Int), (((firstN (len a) (p a)).getD 0 : Nat) : Int))
  | none => (-1, 0)
def SFun.AcOk (f : SFun) (a : Nat) : Prop :=
  ((f.ac.getD a []).length : Int) = f.sz.getD (f.sh.src.getD a 0).toNat 0 ∧ allIn (f.ac.getD a []) (f.sz.getD (f.sh.tgt.getD a 0).toNat 0) = true
structure SFun.Shape (f : SFun) : Prop where
  c : f.sh.Is
  zl : (f.sz.length : Int) = f.sh.obj
  sz : ∀ i, i < f.sz.length → 0 ≤ f.sz.getD i 0 ∧ f.sz.getD i 0 ≤ 16
  al : f.ac.length = f.sh.src.length
  ac : ∀ a, a < f.ac.length → f.AcOk a
structure SFun.Laws (f : SFun) : Prop where
  ids : ∀ x : Nat, x < f.sh.idn.length → ∀ e : Nat, e < (f.ac.getD (f.sh.idn.getD x 0).toNat []).length → (f.ac.getD (f.sh.idn.getD x 0).toNat []).getD e 0 = e
  th : ∀ a : Nat, a < f.sh.src.length → ∀ b : Nat, b < f.sh.src.length → f.sh.tgt.getD a 0 = f.sh.src.getD b 0 → ∀ e : Nat, e < (f.ac.getD a []).length →
    (f.ac.getD ((f.sh.comp.getD a []).getD b 0).toNat []).getD e 0 = (f.ac.getD b []).getD ((f.ac.getD a []).getD e 0).toNat 0
def SFun.Is (f : SFun) : Prop := f.Shape ∧ f.Laws

def SMap.PaOk (m : SMap) (x : Nat) : Prop := ((m.pa.getD x []).length : Int) = m.s.sz.getD x 0 ∧ allIn (m.pa.getD x []) (m.t.sz.getD x 0) = true
structure SMap.Fits (m : SMap) : Prop where
  pl : m.pa.length = m.s.sz.length
  pa : ∀ x, x < m.pa.length → m.PaOk x
structure SMap.Shape (m : SMap) : Prop where
  s : m.s.Is
  t : m.t.Is
  sh : m.s.sh = m.t.sh
  fits : m.Fits
def SMap.bad (m : SMap) (a e : Nat) : Bool := decide (¬ (m.pa.getD (m.s.sh.tgt.getD a 0).toNat []).getD ((m.s.ac.getD a []).getD e 0).toNat 0 = (m.t.ac.getD a []).getD ((m.pa.getD (m.s.sh.src.getD a 0).toNat []).getD e 0).toNat 0)
def SMap.first (m : SMap) : Int × Int := first2 m.s.ac.length (fun a => (m.s.ac.getD a []).length) m.bad
def SMap.Is (m : SMap) : Prop := m.Shape ∧ ∀ a, a < m.s.ac.length → ∀ e, e < (m.s.ac.getD a []).length → m.bad a e = false
end Go.GL
namespace Go.GL

def NoMove (xs : List Int) : Prop := ∀ i : Nat, i < xs.length → xs.getD i 0 = i
structure Prof.Sized (m : Prof) : Prop where
  sl : (m.sz.length : Int) = m.s.obj
  bl : m.be.length = m.s.src.length
  hl : m.bh.length = m.t.src.length
  row : ∀ x, x < m.sz.length → ((m.sz.getD x []).length : Int) = m.t.obj
  rng : ∀ x, x < m.sz.length → ∀ y, y < (m.sz.getD x []).length → 0 ≤ (m.sz.getD x []).getD y 0 ∧ (m.sz.getD x []).getD y 0 ≤ 64
def Prof.BeOk (m : Prof) (a y : Nat) : Prop :=
  (((m.be.getD a []).getD y []).length : Int) = (m.sz.getD (m.s.tgt.getD a 0).toNat []).getD y 0 ∧ allIn ((m.be.getD a []).getD y []) ((m.sz.getD (m.s.src.getD a 0).toNat []).getD y 0) = true
def Prof.BhOk (m : Prof) (b x : Nat) : Prop :=
  (((m.bh.getD b []).getD x []).length : Int) = (m.sz.getD x []).getD (m.t.src.getD b 0).toNat 0 ∧ allIn ((m.bh.getD b []).getD x []) ((m.sz.getD x []).getD (m.t.tgt.getD b 0).toNat 0) = true
structure Prof.Maps (m : Prof) : Prop where
  be : ∀ a, a < m.be.length → ((m.be.getD a []).length : Int) = m.t.obj ∧ ∀ y, y < (m.be.getD a []).length → m.BeOk a y
  bh : ∀ b, b < m.bh.length → ((m.bh.getD b []).length : Int) = m.s.obj ∧ ∀ x, x < (m.bh.getD b []).length → m.BhOk b x
structure Prof.Shape (m : Prof) : Prop where
  s : m.s.Is
  t : m.t.Is
  z : m.Sized
  ok : m.Maps
structure Prof.Acts (m : Prof) : Prop where
  idb : ∀ y : Nat, (y : Int) < m.t.obj → ∀ x : Nat, (x : Int) < m.s.obj → NoMove ((m.be.getD (m.s.idn.getD x 0).toNat []).getD y []) ∧ NoMove ((m.bh.getD (m.t.idn.getD y 0).toNat []).getD x [])
  thb : ∀ y : Nat, (y : Int) < m.t.obj → ∀ a : Nat, a < m.s.src.length → ∀ b : Nat, b < m.s.src.length → 0 ≤ (m.s.comp.getD a []).getD b 0 →
    (m.be.getD ((m.s.comp.getD a []).getD b 0).toNat []).getD y [] = thenL ((m.be.getD b []).getD y []) ((m.be.getD a []).getD y [])
  thh : ∀ x : Nat, (x : Int) < m.s.obj → ∀ a : Nat, a < m.t.src.length → ∀ b : Nat, b < m.t.src.length → 0 ≤ (m.t.comp.getD a []).getD b 0 →
    (m.bh.getD ((m.t.comp.getD a []).getD b 0).toNat []).getD x [] = thenL ((m.bh.getD a []).getD x []) ((m.bh.getD b []).getD x [])
def Prof.MixAt (m : Prof) (a b : Nat) : Prop :=
  thenL ((m.be.getD a []).getD (m.t.src.getD b 0).toNat []) ((m.bh.getD b []).getD (m.s.src.getD a 0).toNat []) = thenL ((m.bh.getD b []).getD (m.s.tgt.getD a 0).toNat []) ((m.be.getD a []).getD (m.t.tgt.getD b 0).toNat [])
def Prof.Mix (m : Prof) : Prop := ∀ a, a < m.s.src.length → ∀ b, b < m.t.src.length → m.MixAt a b
def Prof.Is (m : Prof) : Prop := m.Shape ∧ m.Acts ∧ m.Mix

def sumN (f : Nat → Int) : Nat → Int
  | 0 => 0
  | n + 1 => sumN f n + f n
def Prof.diag (m : Prof) (i : Nat) : Int := (m.sz.getD i []).getD i 0
noncomputable def Prof.code (m : Prof) : Int := bif B m.Is then (bif B (m.s = m.t) then 0 else 5) else 1
noncomputable def Prof.place (m : Prof) (x e : Int) : Int × Int := bif B (m.code = 0) then (bif B (0 ≤ x ∧ x < m.s.obj ∧ 0 ≤ e ∧ e < m.diag x.toNat) then (sumN m.diag x.toNat + e, 0) else (0, 2)) else (0, m.code)
abbrev L3 := List (List (List Int))
def Prof.CoOk (m n : Prof) (c : L3) (x y : Nat) : Prop := (((c.getD x []).getD y []).length : Int) = (m.sz.getD x []).getD y 0 ∧ allIn ((c.getD x []).getD y []) ((n.sz.getD x []).getD y 0) = true
structure Prof.Rows (m n : Prof) (c : L3) : Prop where
  cl : (c.length : Int) = m.s.obj
  row : ∀ x, x < c.length → ((c.getD x []).length : Int) = m.t.obj ∧ ∀ y, y < (c.getD x []).length → m.CoOk n c x y
def Prof.NatB (m n : Prof) (c : L3) (a y : Nat) : Prop :=
  thenL ((m.be.getD a []).getD y []) ((c.getD (m.s.src.getD a 0).toNat []).getD y []) = thenL ((c.getD (m.s.tgt.getD a 0).toNat []).getD y []) ((n.be.getD a []).getD y [])
def Prof.NatH (m n : Prof) (c : L3) (b x : Nat) : Prop :=
  thenL ((m.bh.getD b []).getD x []) ((c.getD x []).getD (m.t.tgt.getD b 0).toNat []) = thenL ((c.getD x []).getD (m.t.src.getD b 0).toNat []) ((n.bh.getD b []).getD x [])
structure Prof.IsMap (m n : Prof) (c : L3) : Prop where
  rows : m.Rows n c
  nb : ∀ a, a < m.s.src.length → ∀ y : Nat, (y : Int) < m.t.obj → m.NatB n c a y
  nh : ∀ b, b < m.t.src.length → ∀ x : Nat, (x : Int) < m.s.obj → m.NatH n c b x
end Go.GL
namespace Go.GL

structure StM (lo hi : Nat) (H H' : GHeap) : Prop where
  nx : H.next ≤ H'.next
  same : ∀ k o, ¬ (lo ≤ k ∧ k < hi) → H.get k = some o → H'.get k = some o
  ins : ∀ k o, H.get k = some o → ∃ o', H'.get k = some o' ∧ (o' = o ∨ ∃ xs ys e, o = .row (ints xs) e true ∧ o' = .row (ints ys) e true ∧ ys.length = xs.length)
def sumL : List (List Int) → Nat
  | [] => 0
  | xs :: r => xs.length + sumL r
theorem sumL_take_succ {xss : List (List Int)} {k : Nat} (h : k < xss.length) : sumL (xss.take (k + 1)) = sumL (xss.take k) + (xss.getD k []).length := by
  induction xss generalizing k with
  | nil => simp at h
  | cons x r ih =>
    cases k with
    | zero => simp [sumL]
    | succ k =>
      have := ih (k := k) (by simpa using h)
      simp only [List.take_succ_cons, sumL, List.getD_cons_succ]
      omega
theorem sumL_le {m : Nat} : ∀ {xss : List (List Int)}, (∀ i, (xss.getD i []).length ≤ m) → sumL xss ≤ xss.length * m
  | [], _ => by simp [sumL]
  | x :: r, h => by
    have h0 := h 0
    have := sumL_le (xss := r) fun i => by simpa using h (i + 1)
    simp only [sumL, List.length_cons, Nat.add_mul]
    simp at h0
    omega
theorem sumL_take_le {xss : List (List Int)} {k : Nat} : sumL (xss.take k) ≤ sumL xss := by
  induction xss generalizing k with
  | nil => simp
  | cons x r ih =>
    cases k with
    | zero => simp [sumL]
    | succ k => simp only [List.take_succ_cons, sumL]; have := ih (k := k); omega
def seqL (k : Int) (n : Nat) : List Int := (List.range n).map fun (i : Nat) => k + (i : Int)
@[simp] theorem length_seqL (k : Int) (n : Nat) : (seqL k n).length = n := by simp [seqL]
theorem seqL_get {k : Int} {n i : Nat} (h : i < n) : (seqL k n).getD i 0 = k + i := by simp [seqL, List.getD_eq_getElem?_getD, h]
abbrev Leaf := Option Addr × Nat
def lvBlk : Leaf → List Nat
  | (some a, _ + 1) => [a.block]
  | _ => []
def lvBlks (ls : List Leaf) : List Nat := ls.flatMap lvBlk
def Held (b : Nat) (H : GHeap) : List Leaf → Int → Prop
  | [], _ => True
  | l :: r, k => (l.2 = 0 ∨ ∃ g e, l.1 = some ⟨g, 0, none⟩ ∧ b ≤ g ∧ H.get g = some (.row (ints (seqL k l.2)) e true)) ∧ Held b H r (k + l.2)
structure StB (bs : List Nat) (H H' : GHeap) : Prop where
  nx : H.next ≤ H'.next
  same : ∀ k o, ¬ k ∈ bs → H.get k = some o → H'.get k = some o
def IntsR (b : Nat) (H : GHeap) (a : Option Addr) (xs : List Int) : Prop := (xs = [] ∧ a = none) ∨ IntsAt b H a xs
theorem IntsR.ints {b : Nat} {H : GHeap} {a : Option Addr} {xs : List Int} (h : IntsR b H a xs) : Ints H a xs := by
  rcases h with ⟨rfl, _⟩ | h
  · exact .inl rfl
  · exact h.ints
def Con.leaves (c : Con) (p : ConP) : List Leaf := [(p.a1, c.lg.length)]
structure Marked (lo hi : Nat) (H H' : GHeap) (ls : List Leaf) (k : Int) : Prop where
  stm : StM lo hi H H'
  stb : StB (lvBlks ls) H H'
  held : (lvBlks ls).Nodup → Held lo H' ls k
def rowsL (r : Nat → Option Addr) (xss : List (List Int)) (n : Nat) : List Leaf := (List.range n).map fun i => (r i, (xss.getD i []).length)
def Cat.leaves (c : Cat) (p : CatP) : List Leaf := [(p.a1, c.src.length)] ++ ([(p.a2, c.tgt.length)] ++ ([(p.a3, c.idn.length)] ++ rowsL p.r c.comp c.comp.length))
def Fun.leaves (f : Fun) (p : FunP) : List Leaf := f.s.leaves p.s ++ (f.t.leaves p.t ++ ([(p.b1, f.ob.length)] ++ [(p.b2, f.ar.length)]))
end Go.GL
namespace Go.GL

structure Fun.Cone (d : Fun) (p : Con) : Prop where
  ap : 0 ≤ p.ap ∧ p.ap < d.t.obj
  ll : p.lg.length = d.ob.length
  lg : ∀ j, j < p.lg.length → 0 ≤ p.lg.getD j 0 ∧ p.lg.getD j 0 < d.t.src.length
  ends : ∀ j, j < p.lg.length → d.t.src.getD (p.lg.getD j 0).toNat 0 = p.ap ∧ d.t.tgt.getD (p.lg.getD j 0).toNat 0 = d.ob.getD j 0
  tri : ∀ a, a < d.ar.length → d.t.th (p.lg.getD (d.s.src.getD a 0).toNat 0) (d.ar.getD a 0) = p.lg.getD (d.s.tgt.getD a 0).toNat 0
def Con.zero : Con := ⟨0, []⟩
end Go.GL
namespace Go.GL

def Rising (xs : List Int) : Prop := ∀ i, 1 ≤ i → i < xs.length → xs.getD (i - 1) 0 < xs.getD i 0
structure SFun.Part (f : SFun) (me : List (List Int)) : Prop where
  pl : me.length = f.sz.length
  rs : ∀ x, x < me.length → Rising (me.getD x []) ∧ allIn (me.getD x []) (f.sz.getD x 0) = true
  cl : ∀ a, a < f.ac.length → ∀ i, i < (me.getD (f.sh.src.getD a 0).toNat []).length → (me.getD (f.sh.tgt.getD a 0).toNat []).contains ((f.ac.getD a []).getD ((me.getD (f.sh.src.getD a 0).toNat []).getD i 0).toNat 0) = true
end Go.GL
namespace Go.GL

def SFun.leaves (f : SFun) (p : SFunP) : List Leaf := f.sh.leaves p.sh ++ ([(p.a1, f.sz.length)] ++ rowsL p.r2 f.ac f.ac.length)
def SMap.leaves (f : SMap) (p : SMapP) : List Leaf := f.s.leaves p.s ++ (f.t.leaves p.t ++ rowsL p.r2 f.pa f.pa.length)
def Prt.leaves (f : Prt) (p : PrtP) : List Leaf := rowsL p.r0 f.me f.me.length
def slsOf (r : Nat → Option Addr) (X : Nat → List Int) (k : Nat) : List Value := (List.range k).map fun i => .slice (r i) (X i).length (X i).length
def upd (r : Nat → Option Addr) (k : Nat) (a : Option Addr) : Nat → Option Addr := fun i => if i = k then a else r i
theorem upd_eq (r : Nat → Option Addr) (k : Nat) (a : Option Addr) : upd r k a k = a := by simp [upd]
theorem upd_ne {r : Nat → Option Addr} {k i : Nat} {a : Option Addr} (h : i ≠ k) : upd r k a i = r i := by simp [upd, h]
structure OwnRows (b : Nat) (H : GHeap) (e : TypeId) (r : Nat → Option Addr) (X : Nat → List Int) (k : Nat) : Prop where
  row : ∀ i, i < k → ∃ g, r i = some ⟨g, 0, none⟩ ∧ b ≤ g ∧ H.get g = some (.row (ints (X i)) e true)
  inj : ∀ i j, i < k → j < k → r i = r j → i = j
def rowsOf (X : Nat → List Int) (n : Nat) : List (List Int) := (List.range n).map X
section
variable {P : Program} {o : Oper} {fr : Slots} {H : GHeap}
end
def SMap.backX (m : SMap) (me : List (List Int)) (x : Nat) : List Int := filtN (m.pa.getD x []).length fun e => (me.getD x []).contains ((m.pa.getD x []).getD e 0)
def SMap.backR (m : SMap) (me : List (List Int)) : List (List Int) := rowsOf (m.backX me) m.pa.length
noncomputable def SMap.back (m : SMap) (me : List (List Int)) : Prt := ⟨bif B (m.Is ∧ m.t.Part me) then m.backR me else []⟩
def SFun.pick (f : SFun) (Y : Nat → Nat → Bool) : Prt := ⟨rowsOf (fun x => filtN (f.sz.getD x 0).toNat (Y x)) f.sz.length⟩
end Go.GL
namespace Go.GL
def slsL (r : Nat → Option Addr) (xss : List (List Int)) : List Value := slsOf r (fun i => xss.getD i []) xss.length
def OwnL (b : Nat) (H : GHeap) (e : TypeId) (r : Nat → Option Addr) (xss : List (List Int)) : Prop := OwnRows b H e r (fun i => xss.getD i []) xss.length
def nestL {α : Type} (pr : Nat → Nat → α) (sz : Nat → Nat) (k t : Nat) : List α := (List.range k).flatMap (fun a => (List.range (sz a)).map (pr a)) ++ (List.range t).map (pr k)
theorem nestL_zero {α : Type} (pr : Nat → Nat → α) (sz : Nat → Nat) : nestL pr sz 0 0 = [] := rfl
theorem nestL_snoc {α : Type} {pr : Nat → Nat → α} {sz : Nat → Nat} {k t : Nat} : nestL pr sz k (t + 1) = nestL pr sz k t ++ [pr k t] := by
  unfold nestL
  rw [List.range_succ, List.map_append, ← List.append_assoc]
  rfl
theorem nestL_next {α : Type} {pr : Nat → Nat → α} {sz : Nat → Nat} {k : Nat} : nestL pr sz (k + 1) 0 = nestL pr sz k (sz k) := by
  unfold nestL
  rw [List.range_succ, List.flatMap_append]
  simp
theorem nestL_length {α : Type} {pr : Nat → Nat → α} {sz : Nat → Nat} {c : Nat} : ∀ {k}, (∀ a, a < k → sz a ≤ c) → (nestL pr sz k 0).length ≤ k * c
  | 0, _ => by simp [nestL]
  | k + 1, h => by
    have ih := nestL_length (pr := pr) (sz := sz) (c := c) (k := k) fun a ha => h a (by omega)
    have := h k (by omega)
    rw [nestL_next]
    simp only [nestL, List.length_append, List.length_map, List.length_range, List.range_zero, List.map_nil, List.append_nil] at ih ⊢
    rw [Nat.add_mul]
    omega
def nest3 {α : Type} (pr : Nat → Nat → Nat → α) (s1 : Nat → Nat) (s2 : Nat → Nat → Nat) (k t u : Nat) : List α := (List.range k).flatMap (fun a => nestL (pr a) (s2 a) (s1 a) 0) ++ nestL (pr k) (s2 k) t u
theorem nest3_snoc {α : Type} {pr : Nat → Nat → Nat → α} {s1 : Nat → Nat} {s2 : Nat → Nat → Nat} {k t u : Nat} : nest3 pr s1 s2 k t (u + 1) = nest3 pr s1 s2 k t u ++ [pr k t u] := by
  unfold nest3
  rw [nestL_snoc, List.append_assoc]
theorem nest3_next2 {α : Type} {pr : Nat → Nat → Nat → α} {s1 : Nat → Nat} {s2 : Nat → Nat → Nat} {k t : Nat} : nest3 pr s1 s2 k (t + 1) 0 = nest3 pr s1 s2 k t (s2 k t) := by
  unfold nest3
  rw [nestL_next]
theorem nest3_next1 {α : Type} {pr : Nat → Nat → Nat → α} {s1 : Nat → Nat} {s2 : Nat → Nat → Nat} {k : Nat} : nest3 pr s1 s2 (k + 1) 0 0 = nest3 pr s1 s2 k (s1 k) 0 := by
  unfold nest3
  rw [List.range_succ, List.flatMap_append]
  simp [nestL_zero]
theorem flatMap_len {α : Type} {f : Nat → List α} {c : Nat} : ∀ {k}, (∀ a, a < k → (f a).length ≤ c) → ((List.range k).flatMap f).length ≤ k * c
  | 0, _ => by simp
  | k + 1, h => by
    have ih := flatMap_len (f := f) (c := c) (k := k) fun a ha => h a (by omega)
    have := h k (by omega)
    rw [List.range_succ, List.flatMap_append, List.length_append, Nat.add_mul]
    simp only [List.flatMap_cons, List.flatMap_nil, List.append_nil]
    omega
theorem nest3_all {α : Type} {pr : Nat → Nat → Nat → α} {s1 : Nat → Nat} {s2 : Nat → Nat → Nat} {c d n : Nat} (h1 : ∀ a, a < n → s1 a ≤ d) (h2 : ∀ a, a < n → ∀ b, b < s1 a → s2 a b ≤ c) : (nest3 pr s1 s2 n 0 0).length ≤ n * (d * c) := by
  unfold nest3
  rw [nestL_zero, List.append_nil]
  exact flatMap_len fun a ha => by
    have r1 := nestL_length (pr := pr a) (sz := s2 a) (c := c) (k := s1 a) fun b hb => h2 a ha b hb
    exact Nat.le_trans r1 (Nat.mul_le_mul_right _ (h1 a ha))
def Cat.zero : Cat := ⟨0, [], [], [], []⟩
def CatP.zero : CatP := ⟨none, none, none, none, fun _ => none⟩
end Go.GL
namespace Go.GL
end Go.GL
namespace Go.GL
def ctPr (y e d : Nat) : List Int := [(y : Int), (e : Int), (d : Int)]
def ctL (p q : Prof) (x z : Int) (y e d : Nat) : List (List Int) := nest3 ctPr (fun y => ((p.sz.getD x.toNat []).getD y 0).toNat) (fun y _ => ((q.sz.getD y []).getD z.toNat 0).toNat) y e d
structure CtOk (p q : Prof) (x z : Int) (n : Nat) : Prop where
  n8 : n ≤ 8
  x0 : 0 ≤ x
  xl : x.toNat < p.sz.length
  z0 : 0 ≤ z
  pn : ((p.sz.getD x.toNat []).length : Int) = n
  qn : (q.sz.length : Int) = n
  pe : ∀ y, y < n → 0 ≤ (p.sz.getD x.toNat []).getD y 0 ∧ (p.sz.getD x.toNat []).getD y 0 ≤ 64
  qe : ∀ y, y < n → z.toNat < (q.sz.getD y []).length ∧ 0 ≤ (q.sz.getD y []).getD z.toNat 0 ∧ (q.sz.getD y []).getD z.toNat 0 ≤ 64
def tcells (xss : List (List Int)) : List Value := xss.flatMap ints
structure TrAt (b : Nat) (H : GHeap) (g : Nat) (xss : List (List Int)) : Prop where
  lo : b ≤ g
  three : ∀ x ∈ xss, x.length = 3
  at' : ∃ e, H.get g = some (.row (tcells xss) e true)
end Go.GL
namespace Go.GL
open Go.RowKit
theorem CDo.appendL {P : Program} {H : GHeap} {fr : Slots} {o : Oper} {t tx e e' : TypeId} {s x : Operand} {g n bytes : Nat} {a : Option Addr} {z : List Value} {ys xs : List Int} (ho : o.op = .call { callee := .builtin .append, args := #[s, x], argTypes := #[t, tx] }) (ht : sliceT P t = some (e, 1)) (hz : zeroT P e = some (z, 1)) (hzn : z.length = 1)
    (hb : (P.info? e).map (·.bytes) = some bytes) (htx : sliceT P tx = some (e', 1)) (hsv : ev fr s = some (.slice (some ⟨g, 0, none⟩) n n)) (hx : ev fr x = some (.slice a xs.length xs.length)) (hg : H.get g = some (.row (ints ys) e true)) (hxs : Ints H a xs) (hend : n = ys.length)
    (hN : n + xs.length ≤ 16777216) (hB : (n + xs.length) * bytes ≤ 140737488355328) :
    CDo P o fr H (fun r H' => ∃ g', r = some (.slice (some ⟨g', 0, none⟩) (n + xs.length) (n + xs.length)) ∧ St [g] H H' ∧ H.next ≤ g' ∧ H'.get g' = some (.row (ints (ys ++ xs)) e true)) := by
  have e1 : ints (ys ++ xs) = (ints ys).drop 0 ++ ints xs := by simp [ints]
  rw [e1]
  refine .appendR (off := 0) (cs := ints ys) (news := ints xs) ho ht hz hzn hb hsv hg (by simp; omega) ?_ hN hB
  rcases hxs with h0 | ⟨g', off, rfl, hc⟩
  · obtain rfl : xs = [] := List.eq_nil_of_length_eq_zero h0
    exact .empty htx hx
  · exact .slice htx hx (by simp) (fun i v hv => by
      have hi : i < xs.length := by have := (List.getElem?_eq_some_iff.1 hv).1; simpa using this
      rw [ints_get hi] at hv
      cases hv
      exact hc i hi) (fun v hv => by
      simp only [ints, List.mem_map] at hv
      obtain ⟨m, _, rfl⟩ := hv
      rfl)

section
variable {P : Program} {B : Nat} {w0 : World} {ρ : Place} {H : GHeap} {w : World} {fr : Slots} {o : Oper} {R : Option Value → GHeap → Prop}
end
end Go.GL
namespace Go.GL
def least (K : Nat → Nat → Bool) (i : Nat) : Nat := ((List.range i).find? fun j => K j i).getD i
def reps (K : Nat → Nat → Bool) (m : Nat) : Nat := ((List.range m).filter fun j => least K j == j).length
def clsAt (K : Nat → Nat → Bool) (i : Nat) : Int := (reps K (least K i) : Int)
def clsL (K : Nat → Nat → Bool) (n : Nat) : List Int := (List.range n).map (clsAt K)
structure Eqv (K : Nat → Nat → Bool) (n : Nat) : Prop where
  rf : ∀ a, a < n → K a a = true
  sy : ∀ a b, a < n → b < n → K a b = true → K b a = true
  tr : ∀ a b c, a < n → b < n → c < n → K a b = true → K b c = true → K a c = true
def kerB (xs : List Int) (a b : Nat) : Bool := xs.getD a 0 == xs.getD b 0
def idxL (xs : List Int) (v : Int) : Int := match firstN xs.length fun i => xs.getD i 0 == v with | some i => (i : Int) | none => -1
structure Forest (j : List Int) : Prop where
  up : ∀ x, x < j.length → 0 ≤ j.getD x 0 ∧ j.getD x 0 ≤ (x : Int)
end Go.GL
namespace Go.GL
def u8s (ns : List Int) : List Value := ns.map (Value.int .u8)
@[simp] theorem length_u8s (ns : List Int) : (u8s ns).length = ns.length := by simp [u8s]
theorem u8_cells {H : GHeap} {g : Nat} {ns : List Int} {e : TypeId} {own : Bool} (h : H.get g = some (.row (u8s ns) e own)) : ∀ i v, ns[i]? = some v → H.cell g (0 + i) = some (.int .u8 v) := fun i v hv => by
  rw [GHeap.cell_of h, Nat.zero_add]
  unfold u8s
  rw [List.getElem?_map, hv]; rfl
theorem bytesOf_data (ns : List Int) : (bytesOf ns).data.toList = ns.map fun n => UInt8.ofNat n.toNat := by
  have key : ∀ (ns : List Int) (s : ByteArray), (ns.foldl (fun r n => r.push (UInt8.ofNat n.toNat)) s).data.toList = s.data.toList ++ ns.map fun n => UInt8.ofNat n.toNat := by
    intro ns
    induction ns with
    | nil => intro s; simp
    | cons n ns ih => intro s; rw [List.foldl_cons, ih]; simp [ByteArray.push]
  unfold bytesOf
  rw [key]; simp
def idxLL (xss : List (List Int)) (t : List Int) : Int := match firstN xss.length fun i => xss.getD i [] == t with | some i => (i : Int) | none => -1
structure Keys (n : Nat) (xss : List (List Int)) : Prop where
  nd : xss.Nodup
  ok : ∀ t ∈ xss, t.length = n ∧ ∀ i, i < n → 0 ≤ t.getD i 0 ∧ t.getD i 0 ≤ 255
end Go.GL
namespace Go.GL
abbrev rep (xs : List Int) (k : Nat) : Nat := least (kerB xs) k
abbrev Cat.tn (c : Cat) (a b : Nat) : Nat := ((c.comp.getD a []).getD b 0).toNat
def Cat.ParOk (c : Cat) (xs : List Int) : Prop := ∀ k, k < c.src.length → c.src.getD (rep xs k) 0 = c.src.getD k 0 ∧ c.tgt.getD (rep xs k) 0 = c.tgt.getD k 0
def Cat.CmpOk (c : Cat) (xs : List Int) : Prop := ∀ i, i < c.src.length → ∀ j, j < c.src.length → c.tgt.getD i 0 = c.src.getD j 0 → xs.getD (c.tn i j) 0 = xs.getD (c.tn (rep xs i) (rep xs j)) 0
structure Cat.Cong (c : Cat) (xs : List Int) : Prop where
  len : xs.length = c.src.length
  nor : clsL (kerB xs) xs.length = xs
  par : c.ParOk xs
  cmp : c.CmpOk xs

end Go.GL
namespace Go.GL
end Go.GL
namespace Go.GL
end Go.GL
namespace Go.GL
end Go.GL
namespace Go.GL
def tabB (n : Nat) (p : Nat → Bool) : List Bool := (List.range n).map p
def slsN (r : Nat → Nat) (L : Nat → Nat) (k : Nat) : List Value := (List.range k).map fun i => .slice (some ⟨r i, 0, none⟩) (L i) (L i)
structure OwnB (b : Nat) (H : GHeap) (e : TypeId) (r : Nat → Nat) (L : Nat → Nat) (M : Nat → Nat → Bool) (k : Nat) : Prop where
  row : ∀ i, i < k → b ≤ r i ∧ H.get (r i) = some (.row (bools (tabB (L i) (M i))) e true)
  inj : ∀ i j, i < k → j < k → r i = r j → i = j
structure BMat (b : Nat) (H : GHeap) (g : Nat) (e1 e2 : TypeId) (r : Nat → Nat) (L : Nat → Nat) (M : Nat → Nat → Bool) (n : Nat) : Prop where
  hd : H.get g = some (.row (slsN r L n) e1 true)
  gb : b ≤ g
  own : OwnB b H e2 r L M n
def hasL (me : List (List Int)) (x e : Nat) : Bool := (me.getD x []).contains (e : Int)
def opL (op : Bool → Bool → Bool) (p q : List (List Int)) (x e : Nat) : Bool := op (hasL p x e) (hasL q x e)
def SFun.conn (f : SFun) (op : Bool → Bool → Bool) (p q : List (List Int)) : Prt := f.pick (opL op p q)
end Go.GL
namespace Go.GL
def Cat.partO (c : Cat) (xs : List Int) : List Int := filtN c.obj.toNat fun x => xs.contains (c.idn.getD x 0)
def Cat.partR (c : Cat) (xs : List Int) (f : Int) : List Int := xs.map fun g => idxL xs (c.th f g)
def Cat.part (c : Cat) (xs : List Int) : Cat where
  obj := ((c.partO xs).length : Int)
  src := xs.map fun f => idxL (c.partO xs) (c.src.getD f.toNat 0)
  tgt := xs.map fun f => idxL (c.partO xs) (c.tgt.getD f.toNat 0)
  idn := (c.partO xs).map fun x => idxL xs (c.idn.getD x.toNat 0)
  comp := xs.map fun f => c.partR xs f
structure Cat.Closed (c : Cat) (xs : List Int) : Prop where
  filt : ∃ P, xs = filtN c.src.length P
  id : ∀ f ∈ xs, c.idn.getD (c.src.getD f.toNat 0).toNat 0 ∈ xs ∧ c.idn.getD (c.tgt.getD f.toNat 0).toNat 0 ∈ xs
  th : ∀ f ∈ xs, ∀ g ∈ xs, 0 ≤ c.th f g → c.th f g ∈ xs
end Go.GL
namespace Go.GL
open Go.RowKit
structure PL (g g0 n : Nat) : Prop where
  or : g = g0 ∨ n ≤ g
def nz : Nat → Nat → Option Addr
  | 0, _ => none
  | _ + 1, g => some ⟨g, 0, none⟩
theorem nz_pos {k g : Nat} (h : 0 < k) : nz k g = some ⟨g, 0, none⟩ := by
  cases k with
  | zero => omega
  | succ k => rfl
structure NO (H : GHeap) (g : Nat) (cs : List Value) (e : TypeId) (k : Nat) : Prop where
  lt : g < H.next
  or : (k = 0 ∧ cs = []) ∨ (0 < k ∧ H.get g = some (.row cs e true))
theorem NO.le {H H' : GHeap} {g k : Nat} {cs : List Value} {e : TypeId} (h : NO H g cs e k) (s : H.Le H') : NO H' g cs e k := ⟨by have := h.lt; have := s.1; omega, h.or.imp id fun h => ⟨h.1, s.2 _ _ h.2⟩⟩
theorem NO.st {H H' : GHeap} {g k : Nat} {bs : List Nat} {cs : List Value} {e : TypeId} (h : NO H g cs e k) (s : St bs H H') (ho : out bs g) : NO H' g cs e k := ⟨by have := h.lt; have := s.nx; omega, h.or.imp id fun h => ⟨h.1, s.same _ _ ho h.2⟩⟩
theorem NO.start {H : GHeap} {g k : Nat} {cs : List Value} {e : TypeId} (h : g < H.next) (hk : k = 0) (hc : cs = []) : NO H g cs e k := ⟨h, .inl ⟨hk, hc⟩⟩
theorem NO.of {H : GHeap} {g k : Nat} {cs : List Value} {e : TypeId} (h : H.get g = some (.row cs e true)) (hk : 0 < k) : NO H g cs e k := ⟨GHeap.ltg h, .inr ⟨hk, h⟩⟩
theorem NO.get {H : GHeap} {g k : Nat} {cs : List Value} {e : TypeId} (h : NO H g cs e k) (hk : 0 < k) : H.get g = some (.row cs e true) := by
  rcases h.or with ⟨h, _⟩ | ⟨_, h⟩
  · omega
  · exact h
theorem NO.isR {b : Nat} {H : GHeap} {g k : Nat} {xs : List Int} {e : TypeId} (h : NO H g (ints xs) e k) (hk : k = xs.length) (hb : b ≤ g) : IntsR b H (nz k g) xs := by
  subst hk
  by_cases h0 : xs.length = 0
  · obtain rfl := List.eq_nil_of_length_eq_zero h0
    exact .inl ⟨rfl, rfl⟩
  · rw [nz_pos (by omega)]
    exact .inr ⟨g, e, rfl, hb, h.get (by omega)⟩
theorem NO.isV {H : GHeap} {g k : Nat} {xs : List Int} {e : TypeId} (h : NO H g (ints xs) e k) (hk : k = xs.length) : Ints H (nz k g) xs := (h.isR (b := 0) hk (Nat.zero_le _)).ints
theorem Sim.hold {P : Program} {B : Nat} {w0 : World} {ρ : Place} {H : GHeap} {w : World} (hs : Sim P B w0 ρ H w) : Sim P B w0 ρ ⟨H.objs ++ [none]⟩ w := by
  have hg : ∀ {g : Nat} {o : GObj}, GHeap.get ⟨H.objs ++ [none]⟩ g = some o → H.get g = some o := fun {g o} h => by
    unfold GHeap.get at h ⊢
    rcases Nat.lt_trichotomy g H.objs.length with hl | hl | hl
    · rwa [List.getElem?_append_left hl] at h
    · subst hl; simp at h
    · rw [List.getElem?_eq_none (by simp; omega)] at h; cases h
  exact ⟨fun g h => hs.dom g (by have : (GHeap.mk (H.objs ++ [none])).next = H.next + 1 := by simp [GHeap.next]
                                 omega), fun g o h => hs.live g o (hg h), fun g g' o o' s s' h1 h2 => hs.apart g g' o o' s s' (hg h1) (hg h2), hs.base, hs.below⟩
theorem GT.hold {P : Program} {N : Nat} {c : Code} {Q : Exit → Slots → GHeap → Prop} {fr : Slots} {H : GHeap} (h : ∀ H', H.Le H' → H'.next = H.next + 1 → GT P N c Q fr H') : GT P N c Q fr H := fun l D B w0 ρ a w hs hf =>
  h ⟨H.objs ++ [none]⟩ ⟨by simp [GHeap.next], fun g o hg => by
    have hl : g < H.objs.length := GHeap.ltg hg
    unfold GHeap.get at hg ⊢
    rwa [List.getElem?_append_left hl]⟩ (by simp [GHeap.next]) l D B w0 ρ a w hs.hold hf
section
variable {P : Program} {o : Oper} {fr : Slots} {H : GHeap}
theorem CDo.appendNO {t tx e e' : TypeId} {s x : Operand} {g g1 n sz bytes : Nat} {z cs vs : List Value} (ho : o.op = .call { callee := .builtin .append, args := #[s, x], argTypes := #[t, tx] }) (ht : sliceT P t = some (e, sz)) (hz : zeroT P e = some (z, sz)) (hzn : z.length = sz)
    (hb : (P.info? e).map (·.bytes) = some bytes) (htx : sliceT P tx = some (e', sz)) (hsv : ev fr s = some (.slice (nz n g) n n)) (hx : ev fr x = some (.slice (some ⟨g1, 0, none⟩) 1 1)) (hno : NO H g cs e n) (hg1 : H.get g1 = some (.row vs e' true)) (hend : n * sz = cs.length)
    (hv : vs.length = sz) (hone : vs.all (·.oneCell') = true) (hN : n + 1 ≤ 16777216) (hB : (n + 1) * bytes ≤ 140737488355328) :
    CDo P o fr H (fun r H' => ∃ g', r = some (.slice (some ⟨g', 0, none⟩) (n + 1) (n + 1)) ∧ St [g] H H' ∧ H.next ≤ g' ∧ H'.get g' = some (.row (cs ++ vs) e true)) := by
  rcases hno.or with ⟨rfl, rfl⟩ | ⟨h1, h2⟩
  · have hsrc : SrcG P fr H sz tx x 1 vs := .slice htx hx (by omega) (fun i v hv => by rw [GHeap.cell_of hg1, Nat.zero_add]; exact hv) (fun v hv => List.all_eq_true.1 hone v hv)
    exact .appendNil ho ht hz hzn hb hsv hsrc (by omega) (by unfold maxLen; omega) (by omega) ⟨_, rfl, .push (.refl _ _), Nat.le_refl _, GHeap.get_push_new _ _⟩
  · rw [nz_pos h1] at hsv
    exact .appendV ho ht hz hzn hb htx hsv hx h2 hg1 hend hv hone hN hB
end
end Go.GL
namespace Go.GL
end Go.GL
namespace Go.GL
structure LcOk (k : Fun) (f : SFun) : Prop where
  hk : k.Is
  hf : f.Is
  he : f.sh = k.s
structure LcA (k : Fun) (f : SFun) (y : Int) (a : Nat) : Prop where
  s0 : 0 ≤ k.s.src.getD a 0
  s1 : k.s.src.getD a 0 < k.ob.length
  t0 : 0 ≤ k.s.tgt.getD a 0
  t1 : k.s.tgt.getD a 0 < k.ob.length
  al : ((f.ac.getD a []).length : Int) = f.sz.getD (k.s.src.getD a 0).toNat 0
  zs : f.sz.getD (k.s.src.getD a 0).toNat 0 ≤ 16
  ac : ∀ e, e < (f.ac.getD a []).length → 0 ≤ (f.ac.getD a []).getD e 0 ∧ (f.ac.getD a []).getD e 0 < f.sz.getD (k.s.tgt.getD a 0).toNat 0
  r0 : 0 ≤ k.ar.getD a 0
  r1 : k.ar.getD a 0 < k.t.src.length
  th : ∀ h, h ∈ k.t.hom (k.ob.getD (k.s.tgt.getD a 0).toNat 0) y → (0 ≤ h ∧ h < k.t.src.length) ∧ k.t.th (k.ar.getD a 0) h ∈ k.t.hom (k.ob.getD (k.s.src.getD a 0).toNat 0) y
end Go.GL
namespace Go.GL
def ccF (m k : Prof) (x z : Int) (y : Nat) : Int := (m.sz.getD x.toNat []).getD y 0 * (k.sz.getD y []).getD z.toNat 0
def ccSt (m k : Prof) (x z : Int) (n : Nat) : List Int := (List.range n).map (sumN (ccF m k x z))
def ccL (m k : Prof) (x z : Int) : List (List Int) := ctL m k x z m.t.obj.toNat 0 0
def ccT (m : Prof) (x : Int) (b e d : Nat) : List Int := [m.t.tgt.getD b 0, ((m.bh.getD b []).getD x.toNat []).getD e 0, (d : Int)]
def ccU (m k : Prof) (z : Int) (b e d : Nat) : List Int := [m.t.src.getD b 0, (e : Int), ((k.be.getD b []).getD z.toNat []).getD d 0]
def ccRow (m k : Prof) (x z : Int) (b e d : Nat) : List Int := [idxLL (ccL m k x z) (ccT m x b e d), idxLL (ccL m k x z) (ccU m k z b e d)]
structure CcOk (m k : Prof) (x z : Int) : Prop where
  hm : m.Is
  hk : k.Is
  x0 : 0 ≤ x
  x1 : x < m.s.obj
  z0 : 0 ≤ z
  z1 : z < k.t.obj
  he : m.t = k.s
structure CcA (m k : Prof) (x z : Int) (b : Nat) : Prop where
  s0 : 0 ≤ m.t.src.getD b 0
  s1 : m.t.src.getD b 0 < m.t.obj
  t0 : 0 ≤ m.t.tgt.getD b 0
  t1 : m.t.tgt.getD b 0 < m.t.obj
  b1 : x.toNat < (m.bh.getD b []).length
  b2 : (((m.bh.getD b []).getD x.toNat []).length : Int) = (m.sz.getD x.toNat []).getD (m.t.src.getD b 0).toNat 0
  b3 : ∀ e, e < ((m.bh.getD b []).getD x.toNat []).length → 0 ≤ ((m.bh.getD b []).getD x.toNat []).getD e 0 ∧ ((m.bh.getD b []).getD x.toNat []).getD e 0 < (m.sz.getD x.toNat []).getD (m.t.tgt.getD b 0).toNat 0
  k1 : z.toNat < (k.be.getD b []).length
  k2 : (((k.be.getD b []).getD z.toNat []).length : Int) = (k.sz.getD (m.t.tgt.getD b 0).toNat []).getD z.toNat 0
  k3 : ∀ d, d < ((k.be.getD b []).getD z.toNat []).length → 0 ≤ ((k.be.getD b []).getD z.toNat []).getD d 0 ∧ ((k.be.getD b []).getD z.toNat []).getD d 0 < (k.sz.getD (m.t.src.getD b 0).toNat []).getD z.toNat 0
  z1 : 0 ≤ (m.sz.getD x.toNat []).getD (m.t.src.getD b 0).toNat 0 ∧ (m.sz.getD x.toNat []).getD (m.t.src.getD b 0).toNat 0 ≤ 64
  z2 : 0 ≤ (k.sz.getD (m.t.tgt.getD b 0).toNat []).getD z.toNat 0 ∧ (k.sz.getD (m.t.tgt.getD b 0).toNat []).getD z.toNat 0 ≤ 64
structure CcP (m k : Prof) (x z : Int) (b e d : Nat) : Prop where
  mT : ccT m x b e d ∈ ccL m k x z
  mU : ccU m k z b e d ∈ ccL m k x z
  iT : idxLL (ccL m k x z) (ccT m x b e d) = (ccSt m k x z m.t.obj.toNat).getD (m.t.tgt.getD b 0).toNat 0 + ((m.bh.getD b []).getD x.toNat []).getD e 0 * (k.sz.getD (m.t.tgt.getD b 0).toNat []).getD z.toNat 0 + (d : Int)
  iU : idxLL (ccL m k x z) (ccU m k z b e d) = (ccSt m k x z m.t.obj.toNat).getD (m.t.src.getD b 0).toNat 0 + (e : Int) * (k.sz.getD (m.t.src.getD b 0).toNat []).getD z.toNat 0 + ((k.be.getD b []).getD z.toNat []).getD d 0
  lT : idxLL (ccL m k x z) (ccT m x b e d) < (ccL m k x z).length
  lU : idxLL (ccL m k x z) (ccU m k z b e d) < (ccL m k x z).length
  t0 : 0 ≤ (ccSt m k x z m.t.obj.toNat).getD (m.t.tgt.getD b 0).toNat 0
  t1 : 0 ≤ ((m.bh.getD b []).getD x.toNat []).getD e 0 * (k.sz.getD (m.t.tgt.getD b 0).toNat []).getD z.toNat 0
  u0 : 0 ≤ (ccSt m k x z m.t.obj.toNat).getD (m.t.src.getD b 0).toNat 0
  u1 : 0 ≤ (e : Int) * (k.sz.getD (m.t.src.getD b 0).toNat []).getD z.toNat 0
structure CcV (m k : Prof) (x z : Int) (b e d : Nat) : Prop where
  row : ccRow m k x z b e d = [(ccSt m k x z m.t.obj.toNat).getD (m.t.tgt.getD b 0).toNat 0 + ((m.bh.getD b []).getD x.toNat []).getD e 0 * (k.sz.getD (m.t.tgt.getD b 0).toNat []).getD z.toNat 0 + (d : Int), (ccSt m k x z m.t.obj.toNat).getD (m.t.src.getD b 0).toNat 0 + (e : Int) * (k.sz.getD (m.t.src.getD b 0).toNat []).getD z.toNat 0 + ((k.be.getD b []).getD z.toNat []).getD d 0]
  lT : (ccSt m k x z m.t.obj.toNat).getD (m.t.tgt.getD b 0).toNat 0 + ((m.bh.getD b []).getD x.toNat []).getD e 0 * (k.sz.getD (m.t.tgt.getD b 0).toNat []).getD z.toNat 0 + (d : Int) < (ccL m k x z).length
  lU : (ccSt m k x z m.t.obj.toNat).getD (m.t.src.getD b 0).toNat 0 + (e : Int) * (k.sz.getD (m.t.src.getD b 0).toNat []).getD z.toNat 0 + ((k.be.getD b []).getD z.toNat []).getD d 0 < (ccL m k x z).length
end Go.GL
namespace Go.GL
def searchL (cand : Nat → List Int) (ok : Nat → List Int → Bool) : Nat → List Int → List (List Int)
  | 0, p => [p]
  | r + 1, p => (cand p.length).flatMap fun h => bif ok p.length (p ++ [h]) then searchL cand ok r (p ++ [h]) else []
structure Net where
  cand : Nat → List Int
  A : Nat
  sr : Nat → Nat
  tg : Nat → Nat
  sq : Nat → Int → Int → Bool
namespace Net
def ok (n : Net) (j : Nat) (q : List Int) : Bool := allN n.A fun a => !(max (n.sr a) (n.tg a) == j) || n.sq a (q.getD (n.sr a) 0) (q.getD (n.tg a) 0)
def fits (n : Net) (q : List Int) (x : Nat) : Bool := allN n.A fun a => (n.sr a != x && n.tg a != x) || decide (q.getD (n.sr a) 0 < 0) || decide (q.getD (n.tg a) 0 < 0) || n.sq a (q.getD (n.sr a) 0) (q.getD (n.tg a) 0)
def choices (n : Net) (c : List Int) (x : Nat) : List Int := (n.cand x).filter fun h => n.fits (c.set x h) x
def sols (n : Net) (N : Nat) : List (List Int) := searchL n.cand n.ok N []
end Net
def firstU (c : List Int) : Option Nat := firstN c.length fun i => c.getD i 0 == -1
def cntU (c : List Int) : Nat := ((List.range c.length).filter fun i => c.getD i 0 == -1).length
def Net.stuck (n : Net) (c : List Int) : Bool := (List.range c.length).any fun y => c.getD y 0 == -1 && (n.choices c y).isEmpty
def Net.goF (n : Net) : Nat → List Int → List (List Int)
  | 0, c => [c]
  | f + 1, c => match firstU c with
    | none => [c]
    | some x => bif n.stuck c then [] else (n.choices c x).flatMap fun h => n.goF f (c.set x h)
def Net.go (n : Net) (c : List Int) : List (List Int) := n.goF (cntU c) c
theorem flatMap_congr' {α β : Type} {l : List α} {f g : α → List β} (h : ∀ x ∈ l, f x = g x) : l.flatMap f = l.flatMap g := by
  induction l with
  | nil => rfl
  | cons a l ih => rw [List.flatMap_cons, List.flatMap_cons, h a (by simp), ih fun x hx => h x (by simp [hx])]
structure Net.Good (n : Net) (N : Nat) : Prop where
  pos : ∀ x, ∀ h ∈ n.cand x, 0 ≤ h
  sr : ∀ a, a < n.A → n.sr a < N
  tg : ∀ a, a < n.A → n.tg a < N
end Go.GL
namespace Go.GL
section
variable {P : Program} {N : Nat} {ops : Array Oper} {Q : Slots → GHeap → Prop} {L : List (Oper × Nat)} {fr : Slots} {H Hb : GHeap} {o : Oper} {i : Nat} {t : Tree}
end
end Go.GL
namespace Go.GL
end Go.GL
namespace Go.GL
structure Fun.Par (f g : Fun) : Prop where
  fi : f.Is
  gi : g.Is
  ps : f.s = g.s
  pt : f.t = g.t
def Fun.net (f g : Fun) (iso : Bool) : Net where
  cand x := (f.t.hom (f.ob.getD x 0) (g.ob.getD x 0)).filter fun h => !iso || decide (0 ≤ f.t.inv h)
  A := f.ar.length
  sr a := (f.s.src.getD a 0).toNat
  tg a := (f.s.tgt.getD a 0).toNat
  sq a u v := decide (f.t.th (f.ar.getD a 0) v = f.t.th u (g.ar.getD a 0))
def stCells (f : Fun) (p : FunP) (g : Fun) (q : FunP) (iso : Bool) (most : Int) (a : Option Addr) (n : Nat) : List Value := f.cells p ++ (g.cells q ++ [.bool iso, .int .i64 most, .slice a n n])
end Go.GL
namespace Go.GL
def SlO (b : Nat) (H : GHeap) (a : Option Addr) (g : Nat) (cs : List Value) (e : TypeId) (k : Nat) : Prop := (a = none ∧ k = 0 ∧ cs = []) ∨ (a = some ⟨g, 0, none⟩ ∧ b ≤ g ∧ H.get g = some (.row cs e true))
section
variable {P : Program} {o : Oper} {fr : Slots} {H : GHeap}
end
structure FoundAt (T e e' : TypeId) (b : Nat) (H : GHeap) (gs gF : Nat) (f : Fun) (p : FunP) (k : Fun) (q : FunP) (iso : Bool) (M : Nat) (fs : List (List Int)) : Prop where
  ex : ∃ a r, H.get gs = some (.row (stCells f p k q iso (M : Int) a fs.length) T true) ∧ SlO b H a gF (slsL r fs) e fs.length ∧ OwnL b H e' r fs
structure SeenU (n : Net) (co : List Int) (y : Nat) (x : Int) : Prop where
  fst : (x = -1 ∧ ∀ j, y ≤ j → j < co.length → ¬ co.getD j 0 = -1) ∨ (∃ m : Nat, x = m ∧ y ≤ m ∧ m < co.length ∧ co.getD m 0 = -1 ∧ ∀ j, y ≤ j → j < m → ¬ co.getD j 0 = -1)
  cho : ∀ j, y ≤ j → j < co.length → co.getD j 0 = -1 → n.choices co j ≠ []
theorem GT.regionDB {P : Program} {N : Nat} {Q : Exit → Slots → GHeap → Prop} {fr : Slots} {Hb H : GHeap} {id : Nat} {ops : Array Oper} (hm : P.follows .mixedOrders = true) (t : Tree) (hok : (ctxOf ops).ok [] false t = true) (hb : Hb.Le H) (h : GTree P N ops (fun fr' H' => Q .normal fr' H') t fr Hb H) :
    GT P N (.region id ops true) Q fr H := fun l D B w0 ρ a w hs hf => by
  refine wpIn_region_any hm ?_
  refine tree_sound (ρ0 := ρ) (fun ρ' fr' H' a' w' hQ he hs' hf' => ⟨ρ', fr', H', hQ, he, hs', hf'⟩) ops.size t [] fr Hb H ρ _ a _ ⟨hok, h, hb, .refl ρ, hs.drew, hf.1, hf.2.1, by simp, fun i hi => ?_, fun i hi => ?_, .nil, (fun i hi => by cases hi), (fun i hi => by cases hi), fun s v hv _ => hf.2.2 s v hv, (fun j hj => by cases hj)⟩ ?_
  · unfold lis at hi
    simp [Array.getD_eq_getD_getElem?, Array.getElem?_replicate] at hi
    split at hi <;> simp at hi
  · unfold lis at hi
    simp [Array.getD_eq_getD_getElem?, Array.getElem?_replicate] at hi
    split at hi <;> simp at hi
  · unfold left
    exact Nat.le_trans (List.length_filter_le _ _) (by simp)
theorem GHeap.get_erase {H : GHeap} {g k : Nat} {o : GObj} (h : (H.set g none).get k = some o) : k ≠ g ∧ H.get k = some o := by
  by_cases e : g = k
  · subst e
    by_cases hl : g < H.next
    · rw [GHeap.get_set_eq hl] at h; cases h
    · have := GHeap.ltg h
      rw [GHeap.next_set] at this
      exact absurd this hl
  · rw [GHeap.get_set_ne e] at h
    exact ⟨Ne.symm e, h⟩
theorem GHeap.le_erase (H : GHeap) (g : Nat) : (H.set g none).Le H := ⟨by rw [GHeap.next_set]; exact Nat.le_refl _, fun _ _ h => (GHeap.get_erase h).2⟩
theorem GHeap.Le.erase_st {H0 H1 H2 : GHeap} {g : Nat} (h : (H0.set g none).Le H1) (s : St [g] H1 H2) : (H0.set g none).Le H2 := ⟨Nat.le_trans h.1 s.nx, fun k o hk => s.same k o ⟨(GHeap.get_erase hk).1, trivial⟩ (h.2 k o hk)⟩
theorem GHeap.get_erase_of {H : GHeap} {g k : Nat} {o : GObj} (h : H.get k = some o) (hk : k ≠ g) : (H.set g none).get k = some o := by rw [GHeap.get_set_ne (Ne.symm hk)]; exact h
end Go.GL
namespace Go.GL
structure Hears (P : Program) (fn : Nat) (cap : Array Value) (e0 g1 most : Nat) (T : TypeId) (A : Nat → List (List Int) → Nat → GHeap → Prop) : Prop where
  code : ∀ (xs : Array Value) (w : World), (callFunc fn xs).run P w = .ok (.enter fn xs) w
  le : ∀ {b : Nat} {fs : List (List Int)} {gF : Nat} {H H' : GHeap}, A b fs gF H → H.Le H' → A b fs gF H'
  st : ∀ {b : Nat} {fs : List (List Int)} {gF gc : Nat} {H H' : GHeap}, A b fs gF H → e0 ≤ gc → gc < b → gc ≠ gF → St [gc] H H' → A b fs gF H'
  run : ∀ {b : Nat} {fs : List (List Int)} {gF gc : Nat} {q : List Int} {H : GHeap}, A b fs gF H → e0 ≤ gc → gc < b → gc ≠ gF → b ≤ H.next → H.get gc = some (.row (ints q) T true) → fs.length ≤ most → q.length ≤ 8 → gF < H.next →
    GCalls P fn ([.slice (some ⟨gc, 0, none⟩) q.length q.length] ++ cap.toList) H (fun v H' => v = .bool (decide (fs.length + 1 ≤ most)) ∧ ∃ gF', (gF' = gF ∨ H.next ≤ gF') ∧ gF' < H'.next ∧ St [g1, gF] H H' ∧ A b (fs ++ [q]) gF' H')
end Go.GL
namespace Go.GL
structure GathL (T1 T2 e : TypeId) (go gm most : Nat) (Tm : TypeId) (b : Nat) (fs : List (List Int)) (gF : Nat) (H : GHeap) : Prop where
  hd : H.get go = some (.row [.slice (some ⟨gF, 0, none⟩) fs.length fs.length] T1 true)
  most : H.get gm = some (.row [.int .i64 (most : Int)] Tm true)
  rows : ∃ r, H.get gF = some (.row (slsL r fs) T2 true) ∧ OwnL b H e r fs
noncomputable def Fun.atR (f k : Fun) : List (List Int) := bif B (f.Is ∧ k.Is) then (bif B (f.s = k.s ∧ f.t = k.t) then (bif decide (((f.net k false).sols f.ob.length).length ≤ 200) then (f.net k false).sols f.ob.length else []) else []) else []
noncomputable def Fun.atC (f k : Fun) : Int := bif B (f.Is ∧ k.Is) then (bif B (f.s = k.s ∧ f.t = k.t) then (bif decide (((f.net k false).sols f.ob.length).length ≤ 200) then 0 else 3) else 5) else 1
structure GathI (T e : TypeId) (go : Nat) (b : Nat) (fs : List (List Int)) (gF : Nat) (H : GHeap) : Prop where
  ex : ∃ x, (fs = [] ∧ x = [] ∨ fs = [x]) ∧ H.get go = some (.row [.slice (some ⟨gF, 0, none⟩) x.length x.length] T true) ∧ H.get gF = some (.row (ints x) e true)
end Go.GL
namespace Go.GL
theorem nest3_pre3 {α : Type} {pr : Nat → Nat → Nat → α} {s1 : Nat → Nat} {s2 : Nat → Nat → Nat} {k t u : Nat} : ∀ j, nest3 pr s1 s2 k t u <+: nest3 pr s1 s2 k t (u + j)
  | 0 => List.prefix_refl _
  | j + 1 => by rw [← Nat.add_assoc, nest3_snoc]; exact (nest3_pre3 j).trans (List.prefix_append _ _)
theorem nest3_pre2 {α : Type} {pr : Nat → Nat → Nat → α} {s1 : Nat → Nat} {s2 : Nat → Nat → Nat} {k t : Nat} : ∀ j, nest3 pr s1 s2 k t 0 <+: nest3 pr s1 s2 k (t + j) 0
  | 0 => List.prefix_refl _
  | j + 1 => by
    rw [← Nat.add_assoc, nest3_next2]
    have := nest3_pre3 (pr := pr) (s1 := s1) (s2 := s2) (k := k) (t := t + j) (u := 0) (s2 k (t + j))
    rw [Nat.zero_add] at this
    exact (nest3_pre2 j).trans this
theorem nest3_pre1 {α : Type} {pr : Nat → Nat → Nat → α} {s1 : Nat → Nat} {s2 : Nat → Nat → Nat} {k : Nat} : ∀ j, nest3 pr s1 s2 k 0 0 <+: nest3 pr s1 s2 (k + j) 0 0
  | 0 => List.prefix_refl _
  | j + 1 => by
    rw [← Nat.add_assoc, nest3_next1]
    have := nest3_pre2 (pr := pr) (s1 := s1) (s2 := s2) (k := k + j) (t := 0) (s1 (k + j))
    rw [Nat.zero_add] at this
    exact (nest3_pre1 j).trans this
theorem nest3_preR {α : Type} {pr : Nat → Nat → Nat → α} {s1 : Nat → Nat} {s2 : Nat → Nat → Nat} {n k t : Nat} (hk : k < n) (ht : t ≤ s1 k) : nest3 pr s1 s2 k t 0 <+: nest3 pr s1 s2 n 0 0 := by
  have h2 := nest3_pre2 (pr := pr) (s1 := s1) (s2 := s2) (k := k) (t := t) (s1 k - t)
  rw [show t + (s1 k - t) = s1 k by omega, ← nest3_next1] at h2
  have h3 := nest3_pre1 (pr := pr) (s1 := s1) (s2 := s2) (k := k + 1) (n - (k + 1))
  rw [show k + 1 + (n - (k + 1)) = n by omega] at h3
  exact h2.trans h3
structure OwnCat (eI eS : TypeId) (b : Nat) (H : GHeap) (c : Cat) (g1 g2 g3 g4 : Nat) (rr : Nat → Option Addr) : Prop where
  a1 : H.get g1 = some (.row (ints c.src) eI true)
  a2 : H.get g2 = some (.row (ints c.tgt) eI true)
  a3 : H.get g3 = some (.row (ints c.idn) eI true)
  a4 : H.get g4 = some (.row (slsL rr c.comp) eS true)
  b1 : b ≤ g1
  b2 : b ≤ g2
  b3 : b ≤ g3
  b4 : b ≤ g4
  n12 : g1 ≠ g2
  n13 : g1 ≠ g3
  n23 : g2 ≠ g3
  rows : OwnL b H eI rr c.comp
  r1 : ∀ i, i < c.comp.length → rr i ≠ some ⟨g1, 0, none⟩
  r2 : ∀ i, i < c.comp.length → rr i ≠ some ⟨g2, 0, none⟩
  r3 : ∀ i, i < c.comp.length → rr i ≠ some ⟨g3, 0, none⟩
structure Cat.Rect (c : Cat) (N : Nat) : Prop where
  obj : 0 ≤ c.obj ∧ c.obj ≤ N
  n : c.src.length ≤ N
  tl : c.tgt.length = c.src.length
  src : ∀ i, i < c.src.length → 0 ≤ c.src.getD i 0 ∧ c.src.getD i 0 ≤ N
  tgt : ∀ i, i < c.tgt.length → 0 ≤ c.tgt.getD i 0 ∧ c.tgt.getD i 0 ≤ N
  il : (c.idn.length : Int) = c.obj
  idn : ∀ i, i < c.idn.length → 0 ≤ c.idn.getD i 0 ∧ c.idn.getD i 0 ≤ N
  cl : c.comp.length = c.src.length
  row : ∀ f, f < c.comp.length → (c.comp.getD f []).length = c.src.length
  cell : ∀ f, f < c.comp.length → ∀ g, g < c.src.length → -(N : Int) - 1 ≤ (c.comp.getD f []).getD g 0 ∧ (c.comp.getD f []).getD g 0 ≤ N
def sumRow (n : Nat) (row : List Int) : List Int := List.replicate n (-1) ++ row.map fun h => if 0 ≤ h then h + (n : Int) else h
def Cat.sumL (c d : Cat) : List (List Int) := c.comp.map (· ++ List.replicate d.src.length (-1))
def Cat.sum (c d : Cat) : Cat where
  obj := c.obj + d.obj
  src := c.src ++ d.src.map (· + c.obj)
  tgt := c.tgt ++ d.tgt.map (· + c.obj)
  idn := c.idn ++ d.idn.map (· + (c.src.length : Int))
  comp := c.sumL d ++ d.comp.map (sumRow c.src.length)
def extL (xss : List (List Int)) (k f j : Nat) : List (List Int) := (List.range xss.length).map fun i => xss.getD i [] ++ List.replicate (if i < f then k else if i = f then j else 0) (-1)
structure SumSt (eI eS eT : TypeId) (H0 H : GHeap) (c d : Cat) (q : CatP) (gd gR gS gF gT gI gC : Nat) (zs : List Value) (rr : Nat → Option Addr) (f j : Nat) : Prop where
  hle : H0.Le H
  gc : H0.next ≤ gC
  ad : H.get gd = some (.row (d.cells q) eT true)
  aR : H.get gR = some (.row zs eT true)
  aS : H.get gS = some (.row [.int .i64 (c.obj + d.obj), .slice (some ⟨gF, 0, none⟩) c.src.length c.src.length, .slice (some ⟨gT, 0, none⟩) c.tgt.length c.tgt.length, .slice (some ⟨gI, 0, none⟩) (c.idn.length + d.obj.toNat) (c.idn.length + d.obj.toNat), .slice (some ⟨gC, 0, none⟩) c.comp.length c.comp.length] eT true)
  aF : H.get gF = some (.row (ints c.src) eI true)
  aT : H.get gT = some (.row (ints c.tgt) eI true)
  aI : H.get gI = some (.row (ints (c.sum d).idn) eI true)
  aC : H.get gC = some (.row (slsL rr (extL c.comp d.src.length f j)) eS true)
  rows : OwnL H0.next H eI rr (extL c.comp d.src.length f j)
  r1 : ∀ i, i < c.comp.length → rr i ≠ some ⟨gF, 0, none⟩
  r2 : ∀ i, i < c.comp.length → rr i ≠ some ⟨gT, 0, none⟩
  r3 : ∀ i, i < c.comp.length → rr i ≠ some ⟨gI, 0, none⟩
def colPr (x y e : Nat) : List Int := [(x : Int), (y : Int), (e : Int)]
def Prof.colS2 (m : Prof) (x y : Nat) : Nat := ((m.sz.getD x []).getD y 0).toNat
def Prof.colP (m : Prof) (x y e : Nat) : List (List Int) := nest3 colPr (fun _ => m.t.obj.toNat) m.colS2 x y e
def Prof.colL (m : Prof) : List (List Int) := m.colP m.s.obj.toNat 0 0
def Prof.colA (m : Prof) (x y : Nat) : Int := (m.colP x y 0).length
theorem Prof.Sized.at {m : Prof} (z : m.Sized) {x y : Nat} (hx : (x : Int) < m.s.obj) (hy : (y : Int) < m.t.obj) : x < m.sz.length ∧ y < (m.sz.getD x []).length ∧ 0 ≤ (m.sz.getD x []).getD y 0 ∧ (m.sz.getD x []).getD y 0 ≤ 64 := by
  have h1 := z.sl
  have h2 := z.row x (by omega)
  exact ⟨by omega, by omega, z.rng x (by omega) y (by omega)⟩
structure Prof.Cok (m : Prof) : Prop where
  z : m.Sized
  s0 : 0 ≤ m.s.obj
  s8 : m.s.obj ≤ 8
  t0 : 0 ≤ m.t.obj
  t8 : m.t.obj ≤ 8
theorem Prof.Cok.s2 {m : Prof} (h : m.Cok) {x y : Nat} (hx : (x : Int) < m.s.obj) (hy : (y : Int) < m.t.obj) : (m.colS2 x y : Int) = (m.sz.getD x []).getD y 0 ∧ m.colS2 x y ≤ 64 := by
  have := h.z.at hx hy
  unfold Prof.colS2
  omega
theorem Prof.Cok.all {m : Prof} (h : m.Cok) : m.colL.length ≤ 4096 := by
  have h1 := h.s8
  have h2 := h.t8
  have := nest3_all (pr := colPr) (s1 := fun _ => m.t.obj.toNat) (s2 := m.colS2) (c := 64) (d := 8) (n := m.s.obj.toNat) (fun a _ => by show m.t.obj.toNat ≤ 8; omega) (fun a ha b hb => (h.s2 (by omega) (by omega)).2)
  unfold Prof.colL Prof.colP
  omega
theorem Prof.Cok.leY {m : Prof} (h : m.Cok) {x y : Nat} (hx : (x : Int) < m.s.obj) (hy : (y : Int) ≤ m.t.obj) : (m.colP x y 0).length ≤ m.colL.length := by
  obtain ⟨r, hr⟩ := nest3_preR (pr := colPr) (s1 := fun _ => m.t.obj.toNat) (s2 := m.colS2) (n := m.s.obj.toNat) (k := x) (t := y) (by omega) (by omega)
  unfold Prof.colL Prof.colP
  rw [← hr, List.length_append]
  omega
def Prof.colQx (m : Prof) (x y : Nat) : List Int := (List.range y).map (m.colA x)
def Prof.colQ (m : Prof) (k : Nat) : List (List Int) := (List.range k).map fun x => m.colQx x (m.sz.getD x []).length
@[simp] theorem Prof.length_colQx (m : Prof) (x y : Nat) : (m.colQx x y).length = y := by simp [Prof.colQx]
@[simp] theorem Prof.length_colQ (m : Prof) (k : Nat) : (m.colQ k).length = k := by simp [Prof.colQ]
theorem Prof.colQx_get {m : Prof} {x y i : Nat} (h : i < y) : (m.colQx x y).getD i 0 = m.colA x i := by simp [Prof.colQx, List.getD_eq_getElem?_getD, h]
theorem Prof.colQ_get {m : Prof} {k x : Nat} (h : x < k) : (m.colQ k).getD x [] = m.colQx x (m.sz.getD x []).length := by simp [Prof.colQ, List.getD_eq_getElem?_getD, h]
theorem Prof.Cok.colA_bd {m : Prof} (h : m.Cok) {x y : Nat} (hx : (x : Int) < m.s.obj) (hy : (y : Int) ≤ m.t.obj) : 0 ≤ m.colA x y ∧ m.colA x y ≤ 4096 := by
  have h1 := h.leY hx hy
  have h2 := h.all
  unfold Prof.colA
  omega
theorem Prof.Cok.q {m : Prof} (h : m.Cok) {x y : Int} (x0 : 0 ≤ x) (x1 : x < m.s.obj) (y0 : 0 ≤ y) (y1 : y < m.t.obj) : x < (m.colQ m.sz.length).length ∧ (((m.colQ m.sz.length).getD x.toNat []).length : Int) = m.t.obj ∧ ((m.colQ m.sz.length).getD x.toNat []).getD y.toNat 0 = m.colA x.toNat y.toNat ∧ 0 ≤ m.colA x.toNat y.toNat ∧ m.colA x.toNat y.toNat ≤ 4096 := by
  have h1 := h.z.sl
  have h2 := h.z.row x.toNat (by omega)
  have h3 := h.colA_bd (x := x.toNat) (y := y.toNat) (by omega) (by omega)
  rw [Prof.length_colQ, Prof.colQ_get (by omega), Prof.length_colQx, Prof.colQx_get (by omega)]
  exact ⟨by omega, h2, rfl, h3⟩
def Prof.colN (m : Prof) : Nat := m.s.src.length + m.t.src.length
def Prof.colS (m : Prof) : List Int := (m.s.sum m.t).src ++ m.colL.map fun t => t.getD 0 0
def Prof.colT (m : Prof) : List Int := (m.s.sum m.t).tgt ++ m.colL.map fun t => m.s.obj + t.getD 1 0
def Prof.colR (m : Prof) (i : Nat) : List Int := m.colL.getD (i - m.colN) []
def Prof.colB (m : Prof) (f g : Nat) : Int := ((m.be.getD f []).getD ((m.colR g).getD 1 0).toNat []).getD ((m.colR g).getD 2 0).toNat 0
def Prof.colH (m : Prof) (f g : Nat) : Int := ((m.bh.getD (g - m.s.src.length) []).getD ((m.colR f).getD 0 0).toNat []).getD ((m.colR f).getD 2 0).toNat 0
def Prof.colK1 (m : Prof) (f g : Nat) : List Int := [m.colS.getD f 0, (m.colR g).getD 1 0, m.colB f g]
def Prof.colK2 (m : Prof) (f g : Nat) : List Int := [(m.colR f).getD 0 0, m.colT.getD g 0 - m.s.obj, m.colH f g]
structure Prof.ColB (m : Prof) (f g : Nat) : Prop where
  fM : f < m.s.src.length
  sf : m.colS.getD f 0 = m.s.src.getD f 0
  tg : m.colT.getD g 0 = m.s.obj + (m.colR g).getD 1 0
  r3 : (m.colR g).length = 3
  y0 : 0 ≤ (m.colR g).getD 1 0
  y1 : (m.colR g).getD 1 0 < m.t.obj
  e0 : 0 ≤ (m.colR g).getD 2 0
  b0 : f < m.be.length
  b1 : ((m.colR g).getD 1 0).toNat < (m.be.getD f []).length
  b2 : ((m.colR g).getD 2 0).toNat < ((m.be.getD f []).getD ((m.colR g).getD 1 0).toNat []).length
  s0 : 0 ≤ m.s.src.getD f 0
  s1 : m.s.src.getD f 0 < m.s.obj
  t0 : 0 ≤ m.s.tgt.getD f 0
  t1 : m.s.tgt.getD f 0 < m.s.obj
  ae : (g : Int) - m.colN - m.colA (m.s.tgt.getD f 0).toNat ((m.colR g).getD 1 0).toNat = (m.colR g).getD 2 0
  ix : idxLL m.colL (m.colK1 f g) = m.colA (m.s.src.getD f 0).toNat ((m.colR g).getD 1 0).toNat + m.colB f g
  lt : idxLL m.colL (m.colK1 f g) < m.colL.length
  ca : 0 ≤ m.colA (m.s.src.getD f 0).toNat ((m.colR g).getD 1 0).toNat
  bb : 0 ≤ m.colB f g
structure Prof.ColH (m : Prof) (f g : Nat) : Prop where
  gM : m.s.src.length ≤ g
  gN : g < m.colN
  sf : m.colS.getD f 0 = (m.colR f).getD 0 0
  tg : m.colT.getD g 0 - m.s.obj = m.t.tgt.getD (g - m.s.src.length) 0
  r3 : (m.colR f).length = 3
  x0 : 0 ≤ (m.colR f).getD 0 0
  x1 : (m.colR f).getD 0 0 < m.s.obj
  e0 : 0 ≤ (m.colR f).getD 2 0
  b0 : g - m.s.src.length < m.bh.length
  b1 : ((m.colR f).getD 0 0).toNat < (m.bh.getD (g - m.s.src.length) []).length
  b2 : ((m.colR f).getD 2 0).toNat < ((m.bh.getD (g - m.s.src.length) []).getD ((m.colR f).getD 0 0).toNat []).length
  s0 : 0 ≤ m.t.src.getD (g - m.s.src.length) 0
  s1 : m.t.src.getD (g - m.s.src.length) 0 < m.t.obj
  t0 : 0 ≤ m.t.tgt.getD (g - m.s.src.length) 0
  t1 : m.t.tgt.getD (g - m.s.src.length) 0 < m.t.obj
  ae : (f : Int) - m.colN - m.colA ((m.colR f).getD 0 0).toNat (m.t.src.getD (g - m.s.src.length) 0).toNat = (m.colR f).getD 2 0
  ix : idxLL m.colL (m.colK2 f g) = m.colA ((m.colR f).getD 0 0).toNat (m.t.tgt.getD (g - m.s.src.length) 0).toNat + m.colH f g
  lt : idxLL m.colL (m.colK2 f g) < m.colL.length
  ca : 0 ≤ m.colA ((m.colR f).getD 0 0).toNat (m.t.tgt.getD (g - m.s.src.length) 0).toNat
  bb : 0 ≤ m.colH f g
def Prof.colSp (m : Prof) (x y e : Nat) : List Int := (m.s.sum m.t).src ++ (m.colP x y e).map fun t => t.getD 0 0
def Prof.colTp (m : Prof) (x y e : Nat) : List Int := (m.s.sum m.t).tgt ++ (m.colP x y e).map fun t => m.s.obj + t.getD 1 0
structure ColSt (eI eS eT eP : TypeId) (H0 H : GHeap) (m : Prof) (p : ProfP) (g1 g2 g3 g4 g5 gI gC : Nat) (r0 : Nat → Option Addr) (zs : List Value) (x y e : Nat) (r1 : Nat → Option Addr) (gV gF gT : Nat) : Prop where
  hle : H0.Le H
  a1 : H.get g1 = some (.row (m.cells p) eP true)
  a2 : H.get g2 = some (.row zs eT true)
  a3 : H.get g3 = some (.row (m.s.cells p.s) eT true)
  a4 : H.get g4 = some (.row (m.t.cells p.t) eT true)
  a5 : H.get g5 = some (.row [.int .i64 (m.s.obj + m.t.obj), .slice (some ⟨gF, 0, none⟩) (m.colSp x y e).length (m.colSp x y e).length, .slice (some ⟨gT, 0, none⟩) (m.colTp x y e).length (m.colTp x y e).length, .slice (some ⟨gI, 0, none⟩) (m.s.sum m.t).idn.length (m.s.sum m.t).idn.length, .slice (some ⟨gC, 0, none⟩) (m.s.sum m.t).comp.length (m.s.sum m.t).comp.length] eT true)
  aF : H.get gF = some (.row (ints (m.colSp x y e)) eI true)
  aT : H.get gT = some (.row (ints (m.colTp x y e)) eI true)
  aI : H.get gI = some (.row (ints (m.s.sum m.t).idn) eI true)
  aC : H.get gC = some (.row (slsL r0 (m.s.sum m.t).comp) eS true)
  aV : H.get gV = some (.row (slsL r1 (m.colP x y e)) eS true)
  rows0 : OwnL H0.next H eI r0 (m.s.sum m.t).comp
  rows1 : OwnL H0.next H eI r1 (m.colP x y e)
  z1 : ∀ i, i < (m.s.sum m.t).comp.length → r0 i ≠ some ⟨gF, 0, none⟩
  z2 : ∀ i, i < (m.s.sum m.t).comp.length → r0 i ≠ some ⟨gT, 0, none⟩
  z3 : ∀ i, i < (m.s.sum m.t).comp.length → r0 i ≠ some ⟨gI, 0, none⟩
  w1 : ∀ i, i < (m.colP x y e).length → r1 i ≠ some ⟨gF, 0, none⟩
  w2 : ∀ i, i < (m.colP x y e).length → r1 i ≠ some ⟨gT, 0, none⟩
  bF : H0.next ≤ gF
  bT : H0.next ≤ gT
  bI : H0.next ≤ gI
  bC : H0.next ≤ gC
  bV : H0.next ≤ gV
  b5 : H0.next ≤ g5
  n12 : gF ≠ gT
  n13 : gF ≠ gI
  n23 : gT ≠ gI
  nV : gV ≠ gC
  n15 : g1 ≠ g5
  n25 : g2 ≠ g5
  n35 : g3 ≠ g5
  n45 : g4 ≠ g5
end Go.GL
namespace Go.GL
open Go.RowKit Go.WideShapes Go.ChangeShapes Go.Deep
def Bytes (H : GHeap) (a : Option Addr) (xs : List Int) : Prop := (SlA H a xs.length fun i => .int .u8 (xs.getD i 0)) ∧ ∀ i, 0 ≤ xs.getD i 0 ∧ xs.getD i 0 ≤ 255
section
variable {P : Program} {fr : Slots} {H : GHeap}
end
theorem cell_same {H H' : GHeap} {b i : Nat} {v : Value} (h : H.cell b i = some v) (s : ∀ o, H.get b = some o → H'.get b = some o) : H'.cell b i = some v := by
  unfold GHeap.cell at h ⊢
  cases e : H.get b with
  | none => rw [e] at h; simp at h
  | some o => rw [s o e]; rw [e] at h; exact h
theorem Bytes.st {H H' : GHeap} {a : Option Addr} {xs : List Int} {bs : List Nat} (h : Bytes H a xs) (s : St bs H H') (ho : ∀ b o t, a = some ⟨b, o, t⟩ → out bs b) : Bytes H' a xs := by
  refine ⟨h.1.imp id fun ⟨g, off, ha, hc⟩ => ⟨g, off, ha, fun i hi => cell_same (hc i hi) fun o hg => s.same g o (ho _ _ _ ha) hg⟩, h.2⟩
def DSrc (T : TypeId) (H : GHeap) (g : Nat) : Prop :=
  ∃ (a : Option Addr) (xs : List Int) (p h : Int), H.get g = some (.row [.slice a xs.length xs.length, .int .i64 p, .int .u64 h] T true) ∧ (0 ≤ p ∧ p ≤ 4096) ∧ xs.length ≤ 4096 ∧ Bytes H a xs ∧ ∀ b o t, a = some ⟨b, o, t⟩ → b < g
theorem DSrc.st {T : TypeId} {H H' : GHeap} {g : Nat} {bs : List Nat} (h : DSrc T H g) (s : St bs H H') (f : ∀ k, k < g + 1 → out [] k → out bs k) : DSrc T H' g := by
  obtain ⟨a, xs, p, hh, h1, h2, h3, h4, h5⟩ := h
  exact ⟨a, xs, p, hh, s.same _ _ (f g (by omega) trivial) h1, h2, h3, h4.st s fun b o t ha => f b (by have := h5 b o t ha; omega) trivial, h5⟩
theorem DSrc.sA {T : TypeId} {H H' : GHeap} {g : Nat} {bs : List Nat} (h : DSrc T H g) (s : St bs H H') (f : ∀ k, k < g + 1 → out [] k → out bs k := by intro k hk ho; simp only [out, and_true] at ho ⊢ <;> first | exact ho | exact ho.1 | exact ho.2 | exact ho.2.1 | exact ho.2.2 | exact ho.2.2.1 | exact ho.2.2.2 | omega) : DSrc T H' g := h.st s f
end Go.GL
namespace Go.GL
def Cat.opRow (c : Cat) (f g : Nat) : List Int := (List.range g).map fun g => (c.comp.getD g []).getD f 0
def Cat.opTab (c : Cat) (k : Nat) : List (List Int) := (List.range k).map fun f => c.opRow f c.src.length
def Cat.op (c : Cat) : Cat := ⟨c.obj, c.tgt, c.src, c.idn, c.opTab c.src.length⟩
end Go.GL
namespace Go.GL
end Go.GL
namespace Go.GL
theorem sm (a m : Nat) : (a + 1) * m = a * m + m := Nat.succ_mul a m
end Go.GL
namespace Go.GL
structure RelSt (TS eI eS : TypeId) (H H' : GHeap) (gS g5 n k : Nat) (rr : Nat → Option Addr) (T : List (List Int)) : Prop where
  st : St [gS] H H'
  a5 : H'.get g5 = some (.row (slsL rr T) eS true)
  b5 : H.next ≤ g5
  own : OwnL H.next H' eI rr T
  len : T.length = k
  row : ∀ i, i < T.length → (T.getD i []).length = n
  hs : DSrc TS H' gS
end Go.GL
namespace Go.GL
structure Pth where
  f : Int
  t : Int
  e : List Int
  g : Nat
def Pth.cs (p : Pth) : List Value := [.int .i64 p.f, .int .i64 p.t, .slice (some ⟨p.g, 0, none⟩) p.e.length p.e.length]
def PthOk (b : Nat) (eI : TypeId) (N : Int) (H : GHeap) (ps : List Pth) : Prop := ∀ p ∈ ps, (0 ≤ p.f ∧ p.f ≤ N) ∧ (0 ≤ p.t ∧ p.t ≤ N) ∧ p.e.length ≤ ps.length ∧ b ≤ p.g ∧ H.get p.g = some (.row (ints p.e) eI true)
end Go.GL
namespace Go.GL
structure PthK (b : Nat) (eI : TypeId) (N : Int) (H : GHeap) (ps : List Pth) : Prop where
  ok : PthOk b eI N H ps
structure KIn (b : Nat) (H : GHeap) (c : Cat) (p : CatP) : Prop where
  all : ∀ H', Keep b H H' → c.In H' p
end Go.GL
namespace Go.GL
noncomputable def Cat.code (c : Cat) (xs : List Int) : Int := if B c.Is = true then (if allIn xs c.src.length = true then 0 else 2) else 1
def Cat.ext (c : Cat) (f g : Int) : List Int := (c.hom (c.T g) (c.T f)).filter fun h => decide (c.th g h = f)
end Go.GL
namespace Go.Proofs.YtdnjnligclkkgaaDoor
open Go Go.GL Go.RowKit Go.Proofs
end Go.Proofs.YtdnjnligclkkgaaDoor
namespace Go.Proofs.YtdnjnligclkkgaaDoor
open Go Go.GL Go.RowKit Go.Proofs
end Go.Proofs.YtdnjnligclkkgaaDoor
namespace Go.GL
structure Nd where
  k : Int
  s : Int
  az : List Int
inductive Fm where
  | tt | ff
  | rel (s : Int) (az : List Int)
  | eql (u v : Int)
  | ex (s : Int) (p : Fm)
  | all (s : Int) (p : Fm)
  | bin (k : Int) (p q : Fm)
def Fm.nodes : Fm → List Nd
  | .tt => [⟨0, 0, []⟩]
  | .ff => [⟨1, 0, []⟩]
  | .rel s az => [⟨2, s, az⟩]
  | .eql u v => [⟨3, 0, [u, v]⟩]
  | .ex s p => ⟨7, s, []⟩ :: p.nodes
  | .all s p => ⟨8, s, []⟩ :: p.nodes
  | .bin k p q => ⟨k, 0, []⟩ :: (p.nodes ++ q.nodes)
def vtx (v : Int) : List Int := [118, 48 + v]
def ctx : List Int → List Int
  | [] => []
  | v :: az => 44 :: (vtx v ++ ctx az)
def atx : List Int → List Int
  | [] => []
  | v :: az => vtx v ++ ctx az
def sgn (k : Int) : Int := if k = 4 then 38 else if k = 5 then 124 else 62
def Fm.text : Fm → List Int
  | .tt => [84]
  | .ff => [70]
  | .rel s az => 82 :: (48 + s) :: 40 :: (atx az ++ [41])
  | .eql u v => vtx u ++ 61 :: vtx v
  | .ex s p => 69 :: (48 + s) :: 46 :: p.text
  | .all s p => 65 :: (48 + s) :: 46 :: p.text
  | .bin k p q => 40 :: (p.text ++ sgn k :: (q.text ++ [41]))
def Dg (v : Int) : Prop := 0 ≤ v ∧ v ≤ 9
def Fm.Ok : Fm → Prop
  | .tt => True
  | .ff => True
  | .rel s az => Dg s ∧ ∀ v ∈ az, Dg v
  | .eql u v => Dg u ∧ Dg v
  | .ex s p => Dg s ∧ p.Ok
  | .all s p => Dg s ∧ p.Ok
  | .bin k p q => (k = 4 ∨ k = 5 ∨ k = 6) ∧ p.Ok ∧ q.Ok
theorem Fm.nodes_pos : ∀ p : Fm, 1 ≤ p.nodes.length
  | .tt | .ff | .rel _ _ | .eql _ _ => Nat.le_refl _
  | .ex _ _ | .all _ _ | .bin _ _ _ => by simp [Fm.nodes]
structure Rd where
  u : List Int
  L : List Nd
  bad : Bool
def Rd.take (r : Rd) : Int × Rd := match r.u with
  | [] => (0, ⟨[], r.L, true⟩)
  | c :: v => (c, ⟨v, r.L, r.bad⟩)
def Rd.dig (r : Rd) : Int × Rd := if r.take.1 < 48 ∨ r.take.1 > 57 then (0, ⟨r.take.2.u, r.L, true⟩) else (r.take.1 - 48, r.take.2)
def Rd.want (r : Rd) (b : Int) : Rd := if r.take.1 = b then r.take.2 else ⟨r.take.2.u, r.L, true⟩
def Rd.put (r : Rd) (x : Nd) : Rd := if 40 ≤ r.L.length then ⟨r.u, r.L, true⟩ else ⟨r.u, r.L ++ [x], r.bad⟩
def Rd.kind (r : Rd) (at_ : Nat) (k : Int) : Rd := if at_ < r.L.length then ⟨r.u, r.L.set at_ ⟨k, 0, []⟩, r.bad⟩ else r
theorem Rd.take_L (r : Rd) : r.take.2.L = r.L := by unfold take; split <;> rfl
theorem Rd.take_u (r : Rd) : r.take.2.u = r.u.drop 1 := by unfold take; split <;> simp_all
theorem Rd.take_len (r : Rd) : r.take.2.u.length ≤ r.u.length := by rw [take_u, List.length_drop]; omega
theorem Rd.take_bad (r : Rd) (h : r.take.2.bad = false) : r.bad = false ∧ r.u = r.take.1 :: r.take.2.u := by
  unfold take at h ⊢
  split at h
  · cases h
  · rename_i c v e; rw [e]; exact ⟨h, rfl⟩
theorem Rd.dig_L (r : Rd) : r.dig.2.L = r.L := by unfold dig; split <;> first | rfl | exact r.take_L
theorem Rd.dig_len (r : Rd) : r.dig.2.u.length ≤ r.u.length := by unfold dig; split <;> exact r.take_len
theorem Rd.dig_bad (r : Rd) (h : r.dig.2.bad = false) : r.bad = false ∧ Dg r.dig.1 ∧ r.u = (48 + r.dig.1) :: r.dig.2.u := by
  unfold dig at h ⊢
  split at h
  · cases h
  · rename_i q
    rw [if_neg q]
    obtain ⟨h1, h2⟩ := r.take_bad h
    exact ⟨h1, ⟨by dsimp only; omega, by dsimp only; omega⟩, by rw [h2]; congr 1; dsimp only; omega⟩
theorem Rd.want_L (r : Rd) (b : Int) : (r.want b).L = r.L := by unfold want; split <;> first | rfl | exact r.take_L
theorem Rd.want_len (r : Rd) (b : Int) : (r.want b).u.length ≤ r.u.length := by unfold want; split <;> exact r.take_len
theorem Rd.want_bad (r : Rd) (b : Int) (h : (r.want b).bad = false) : r.bad = false ∧ r.u = b :: (r.want b).u := by
  unfold want at h ⊢
  split at h
  · rename_i q
    rw [if_pos q]
    obtain ⟨h1, h2⟩ := r.take_bad h
    exact ⟨h1, by rw [h2, q]⟩
  · cases h
theorem Rd.put_u (r : Rd) (x : Nd) : (r.put x).u = r.u := by unfold put; split <;> rfl
theorem Rd.put_bad (r : Rd) (x : Nd) (h : (r.put x).bad = false) : r.bad = false ∧ (r.put x).L = r.L ++ [x] := by
  unfold put at h ⊢
  split at h
  · cases h
  · rename_i q; rw [if_neg q]; exact ⟨h, rfl⟩
def Rd.fail (r : Rd) : Rd := ⟨r.u, r.L, true⟩
def Rd.args : Nat → Rd → List Int → Rd × List Int
  | 0, r, az => (r, az)
  | n + 1, r, az =>
    if r.bad = false ∧ r.u.head? = some 118 then
      if (r.want 118).dig.2.bad = false ∧ (r.want 118).dig.2.u.head? = some 44 then
        if ((r.want 118).dig.2.want 44).u.head? = some 118 then Rd.args n ((r.want 118).dig.2.want 44) (az ++ [(r.want 118).dig.1])
        else Rd.args n ((r.want 118).dig.2.want 44).fail (az ++ [(r.want 118).dig.1])
      else ((r.want 118).dig.2, az ++ [(r.want 118).dig.1])
    else (r, az)
theorem Rd.args_len : ∀ (n : Nat) (r : Rd) (az : List Int), az.length ≤ (r.args n az).2.length
  | 0, _, _ => Nat.le_refl _
  | n + 1, r, az => by
    unfold Rd.args
    split
    · split
      · split
        · have := Rd.args_len n ((r.want 118).dig.2.want 44) (az ++ [(r.want 118).dig.1])
          simp only [List.length_append, List.length_singleton] at this
          omega
        · have := Rd.args_len n ((r.want 118).dig.2.want 44).fail (az ++ [(r.want 118).dig.1])
          simp only [List.length_append, List.length_singleton] at this
          omega
      · simp
    · exact Nat.le_refl _
def Rd.sign (r : Rd) (at_ : Nat) : Rd := if r.take.1 = 38 then r.take.2 else if r.take.1 = 124 then r.take.2.kind at_ 5 else if r.take.1 = 62 then r.take.2.kind at_ 6 else r.take.2.fail
def Rd.rel (r : Rd) : Rd := (((r.dig.2.want 40).args (r.dig.2.want 40).u.length []).1.want 41).put ⟨2, r.dig.1, ((r.dig.2.want 40).args (r.dig.2.want 40).u.length []).2⟩
def Rd.equ (r : Rd) : Rd := ((r.dig.2.want 61).want 118).dig.2.put ⟨3, 0, [r.dig.1, ((r.dig.2.want 61).want 118).dig.1]⟩
def Rd.quan (r : Rd) (k : Int) : Rd := (r.dig.2.put ⟨k, r.dig.1, []⟩).want 46
def Rd.read : Nat → Rd → Rd
  | 0, r => r
  | n + 1, r =>
    if r.bad = true then r
    else if r.take.1 = 84 then r.take.2.put ⟨0, 0, []⟩
    else if r.take.1 = 70 then r.take.2.put ⟨1, 0, []⟩
    else if r.take.1 = 82 then r.take.2.rel
    else if r.take.1 = 118 then r.take.2.equ
    else if r.take.1 = 69 then Rd.read n (r.take.2.quan 7)
    else if r.take.1 = 65 then Rd.read n (r.take.2.quan 8)
    else if r.take.1 = 40 then (Rd.read n ((Rd.read n (r.take.2.put ⟨4, 0, []⟩)).sign r.L.length)).want 41
    else r.take.2.fail
theorem Rd.args_sound : ∀ (n : Nat) (r : Rd) (az : List Int), (r.args n az).1.bad = false → r.bad = false ∧ (r.args n az).1.L = r.L ∧ (r.u.length ≤ n → ∃ bs : List Int, (∀ v ∈ bs, Dg v) ∧ (r.args n az).2 = az ++ bs ∧ r.u = atx bs ++ (r.args n az).1.u)
  | 0, r, az, h => ⟨h, rfl, fun _ => ⟨[], by simp, by simp [Rd.args], rfl⟩⟩
  | n + 1, r, az, h => by
    unfold Rd.args at h ⊢
    split at h
    · rename_i q
      rw [if_pos q]
      have hL : (r.want 118).dig.2.L = r.L := by rw [Rd.dig_L, Rd.want_L]
      split at h
      · rename_i q2
        rw [if_pos q2]
        obtain ⟨b1, b2, b3⟩ := Rd.dig_bad _ q2.1
        obtain ⟨c1, c2⟩ := Rd.want_bad _ _ b1
        split at h
        · rename_i q3
          rw [if_pos q3]
          obtain ⟨h1, h2, h3⟩ := Rd.args_sound n _ _ h
          refine ⟨q.1, by rw [h2, Rd.want_L, hL], fun hn => ?_⟩
          have e1 := (Rd.want_bad _ _ h1).2
          obtain ⟨bs, g1, g2, g3⟩ := h3 (by rw [c2, b3, e1] at hn; simp only [List.length_cons] at hn; omega)
          refine ⟨(r.want 118).dig.1 :: bs, fun v hv => ?_, by rw [g2, List.append_assoc]; rfl, ?_⟩
          · rcases List.mem_cons.1 hv with rfl | hv
            · exact b2
            · exact g1 v hv
          · rw [c2, b3, e1]
            cases bs with
            | nil =>
              exfalso
              have g4 := g3
              rw [show atx [] = [] from rfl, List.nil_append] at g4
              cases n with
              | zero => rw [c2, b3, e1] at hn; simp only [List.length_cons] at hn; omega
              | succ m =>
                unfold Rd.args at g2
                rw [if_pos ⟨h1, q3⟩] at g2
                split at g2
                · split at g2
                  · have := Rd.args_len m ((((r.want 118).dig.2.want 44).want 118).dig.2.want 44) (az ++ [(r.want 118).dig.1] ++ [(((r.want 118).dig.2.want 44).want 118).dig.1])
                    rw [g2] at this; simp at this
                  · have := Rd.args_len m ((((r.want 118).dig.2.want 44).want 118).dig.2.want 44).fail (az ++ [(r.want 118).dig.1] ++ [(((r.want 118).dig.2.want 44).want 118).dig.1])
                    rw [g2] at this; simp at this
                · have := congrArg List.length g2; simp at this
            | cons w bs =>
              rw [g3]
              simp [atx, ctx, vtx]
        · rename_i q3
          have := (Rd.args_sound n _ _ h).1
          cases this
      · rename_i q2
        rw [if_neg q2]
        obtain ⟨b1, b2, b3⟩ := Rd.dig_bad _ h
        obtain ⟨c1, c2⟩ := Rd.want_bad _ _ b1
        exact ⟨q.1, hL, fun _ => ⟨[(r.want 118).dig.1], by simpa using b2, rfl, by rw [c2, b3]; rfl⟩⟩
    · rename_i q
      rw [if_neg q]
      exact ⟨h, rfl, fun _ => ⟨[], by simp, by simp, rfl⟩⟩
end Go.GL
namespace Go.GL
theorem Rd.kind_u (r : Rd) (a : Nat) (k : Int) : (r.kind a k).u = r.u ∧ (r.kind a k).bad = r.bad := by unfold kind; split <;> exact ⟨rfl, rfl⟩
theorem Rd.rel_sound (r : Rd) (h : r.rel.bad = false) : r.bad = false ∧ ∃ s az, Dg s ∧ (∀ v ∈ az, Dg v) ∧ r.u = (48 + s) :: 40 :: (atx az ++ 41 :: r.rel.u) ∧ r.rel.L = r.L ++ [⟨2, s, az⟩] := by
  unfold Rd.rel at h ⊢
  obtain ⟨h1, h2⟩ := Rd.put_bad _ _ h
  obtain ⟨h3, h4⟩ := Rd.want_bad _ _ h1
  obtain ⟨h5, h6, h7⟩ := Rd.args_sound _ _ _ h3
  obtain ⟨bs, g1, g2, g3⟩ := h7 (Nat.le_refl _)
  obtain ⟨h8, h9⟩ := Rd.want_bad _ _ h5
  obtain ⟨k1, k2, k3⟩ := Rd.dig_bad _ h8
  refine ⟨k1, r.dig.1, bs, k2, g1, ?_, ?_⟩
  · rw [Rd.put_u, ← h4, ← g3, ← h9, ← k3]
  · rw [h2, Rd.want_L, h6, Rd.want_L, Rd.dig_L, g2]; rfl
theorem Rd.equ_sound (r : Rd) (h : r.equ.bad = false) : r.bad = false ∧ ∃ u v, Dg u ∧ Dg v ∧ r.u = (48 + u) :: 61 :: 118 :: (48 + v) :: r.equ.u ∧ r.equ.L = r.L ++ [⟨3, 0, [u, v]⟩] := by
  unfold Rd.equ at h ⊢
  obtain ⟨h1, h2⟩ := Rd.put_bad _ _ h
  obtain ⟨h3, h4, h5⟩ := Rd.dig_bad _ h1
  obtain ⟨h6, h7⟩ := Rd.want_bad _ _ h3
  obtain ⟨h8, h9⟩ := Rd.want_bad _ _ h6
  obtain ⟨k1, k2, k3⟩ := Rd.dig_bad _ h8
  refine ⟨k1, _, _, k2, h4, ?_, ?_⟩
  · rw [Rd.put_u, ← h5, ← h7, ← h9, ← k3]
  · rw [h2, Rd.dig_L, Rd.want_L, Rd.want_L, Rd.dig_L]
theorem Rd.quan_sound (r : Rd) (k : Int) (h : (r.quan k).bad = false) : r.bad = false ∧ ∃ s, Dg s ∧ r.u = (48 + s) :: 46 :: (r.quan k).u ∧ (r.quan k).L = r.L ++ [⟨k, s, []⟩] := by
  unfold Rd.quan at h ⊢
  obtain ⟨h1, h2⟩ := Rd.want_bad _ _ h
  obtain ⟨h3, h4⟩ := Rd.put_bad _ _ h1
  obtain ⟨k1, k2, k3⟩ := Rd.dig_bad _ h3
  refine ⟨k1, _, k2, ?_, ?_⟩
  · rw [← h2, Rd.put_u, ← k3]
  · rw [Rd.want_L, h4, Rd.dig_L]
theorem Rd.sign_sound (r : Rd) (a : Nat) (h : (r.sign a).bad = false) : r.bad = false ∧ ∃ k, (k = 4 ∨ k = 5 ∨ k = 6) ∧ r.u = sgn k :: (r.sign a).u ∧ (r.sign a).L = if k = 4 then r.L else (r.kind a k).L := by
  unfold Rd.sign at h ⊢
  split at h
  · rename_i q
    rw [if_pos q]
    obtain ⟨h1, h2⟩ := Rd.take_bad _ h
    exact ⟨h1, 4, .inl rfl, by rw [h2, q]; rfl, by rw [if_pos rfl, Rd.take_L]⟩
  rename_i q1
  split at h
  · rename_i q
    rw [if_neg q1, if_pos q]
    rw [(Rd.kind_u _ _ _).2] at h
    obtain ⟨h1, h2⟩ := Rd.take_bad _ h
    refine ⟨h1, 5, .inr (.inl rfl), by rw [(Rd.kind_u _ _ _).1, h2, q]; rfl, ?_⟩
    rw [if_neg (by decide)]; unfold Rd.kind; rw [Rd.take_L]; split <;> first | rfl | exact Rd.take_L _
  rename_i q2
  split at h
  · rename_i q
    rw [if_neg q1, if_neg q2, if_pos q]
    rw [(Rd.kind_u _ _ _).2] at h
    obtain ⟨h1, h2⟩ := Rd.take_bad _ h
    refine ⟨h1, 6, .inr (.inr rfl), by rw [(Rd.kind_u _ _ _).1, h2, q]; rfl, ?_⟩
    rw [if_neg (by decide)]; unfold Rd.kind; rw [Rd.take_L]; split <;> first | rfl | exact Rd.take_L _
  · cases h
theorem set_mid {α : Type} {xs ys : List α} {a b : α} : (xs ++ a :: ys).set xs.length b = xs ++ b :: ys := by simp
theorem Rd.read_sound : ∀ (n : Nat) (r : Rd), r.u.length < n → (r.read n).bad = false → r.bad = false ∧ ∃ p : Fm, p.Ok ∧ r.u = p.text ++ (r.read n).u ∧ (r.read n).L = r.L ++ p.nodes
  | 0, r, hn, h => by omega
  | n + 1, r, hn, h => by
    unfold Rd.read at h ⊢
    split at h
    · rename_i q; rw [h] at q; cases q
    rename_i q0
    rw [if_neg q0]
    have take : ∀ {r' : Rd}, r.take.2.bad = false → r' = r.take.2 → r.bad = false ∧ r.u = r.take.1 :: r'.u ∧ r'.L = r.L := fun {r'} hb e => by
      subst e
      exact ⟨(Rd.take_bad _ hb).1, (Rd.take_bad _ hb).2, Rd.take_L _⟩
    split at h
    · rename_i q
      rw [if_pos q]
      obtain ⟨h1, h2⟩ := Rd.put_bad _ _ h
      obtain ⟨a, b, c⟩ := take h1 rfl
      exact ⟨a, .tt, trivial, by rw [Rd.put_u, b, q]; rfl, by rw [h2, c]; rfl⟩
    rename_i q1
    rw [if_neg q1]
    split at h
    · rename_i q
      rw [if_pos q]
      obtain ⟨h1, h2⟩ := Rd.put_bad _ _ h
      obtain ⟨a, b, c⟩ := take h1 rfl
      exact ⟨a, .ff, trivial, by rw [Rd.put_u, b, q]; rfl, by rw [h2, c]; rfl⟩
    rename_i q2
    rw [if_neg q2]
    split at h
    · rename_i q
      rw [if_pos q]
      obtain ⟨h1, s, az, h2, h3, h4, h5⟩ := Rd.rel_sound _ h
      obtain ⟨a, b, c⟩ := take h1 rfl
      exact ⟨a, .rel s az, ⟨h2, h3⟩, by rw [b, q, h4]; simp [Fm.text], by rw [h5, c]; rfl⟩
    rename_i q3
    rw [if_neg q3]
    split at h
    · rename_i q
      rw [if_pos q]
      obtain ⟨h1, u, v, h2, h3, h4, h5⟩ := Rd.equ_sound _ h
      obtain ⟨a, b, c⟩ := take h1 rfl
      exact ⟨a, .eql u v, ⟨h2, h3⟩, by rw [b, q, h4]; simp [Fm.text, vtx], by rw [h5, c]; rfl⟩
    rename_i q4
    rw [if_neg q4]
    have quant : ∀ k : Int, ((r.take.2.quan k).read n).bad = false → r.bad = false ∧ ∃ s p, Dg s ∧ Fm.Ok p ∧ r.u = r.take.1 :: (48 + s) :: 46 :: (p.text ++ ((r.take.2.quan k).read n).u) ∧ ((r.take.2.quan k).read n).L = r.L ++ ⟨k, s, []⟩ :: p.nodes := fun k hk => by
      have hlt : (r.take.2.quan k).u.length ≤ r.take.2.u.length := by
        unfold Rd.quan
        have h1 := Rd.want_len (r.take.2.dig.2.put ⟨k, r.take.2.dig.1, []⟩) 46
        rw [Rd.put_u] at h1
        have h2 := Rd.dig_len r.take.2
        omega
      have hbd : r.take.2.u.length < n ∨ r.take.2.bad = true := by
        unfold Rd.take
        split
        · exact .inr rfl
        · rename_i c v e; rw [e] at hn; simp only [List.length_cons] at hn; exact .inl (by dsimp only; omega)
      rcases hbd with hbd | hbd
      · obtain ⟨h1, p, h2, h3, h4⟩ := Rd.read_sound n _ (by omega) hk
        obtain ⟨h5, s, h6, h7, h8⟩ := Rd.quan_sound _ _ h1
        obtain ⟨a, b, c⟩ := take h5 rfl
        exact ⟨a, s, p, h6, h2, by rw [b, h7, h3], by rw [h4, h8, c, List.append_assoc]; rfl⟩
      · exfalso
        have hb : (r.take.2.quan k).bad = true := by
          cases e : (r.take.2.quan k).bad with
          | true => rfl
          | false => have := (Rd.quan_sound _ _ e).1; rw [this] at hbd; cases hbd
        cases n with
        | zero => rw [show ((r.take.2.quan k).read 0) = r.take.2.quan k from rfl, hb] at hk; cases hk
        | succ m => unfold Rd.read at hk; rw [if_pos hb, hb] at hk; cases hk
    split at h
    · rename_i q
      rw [if_pos q]
      obtain ⟨a, s, p, h1, h2, h3, h4⟩ := quant 7 h
      exact ⟨a, .ex s p, ⟨h1, h2⟩, by rw [h3, q]; simp [Fm.text], by rw [h4]; rfl⟩
    rename_i q5
    rw [if_neg q5]
    split at h
    · rename_i q
      rw [if_pos q]
      obtain ⟨a, s, p, h1, h2, h3, h4⟩ := quant 8 h
      exact ⟨a, .all s p, ⟨h1, h2⟩, by rw [h3, q]; simp [Fm.text], by rw [h4]; rfl⟩
    rename_i q6
    rw [if_neg q6]
    split at h
    · rename_i q
      rw [if_pos q]
      obtain ⟨h1, h2⟩ := Rd.want_bad _ _ h
      have hu : ∀ {x : Rd} {y : Nd}, (x.put y).u = x.u := fun {x y} => Rd.put_u x y
      have nb : ∀ {x : Rd}, (x.read n).bad = false → x.bad = false := fun {x} hx => by
        cases n with
        | zero => exact hx
        | succ m =>
          cases e : x.bad with
          | false => rfl
          | true => unfold Rd.read at hx; rw [if_pos e] at hx; rw [e] at hx; cases hx
      have h3 := nb h1
      obtain ⟨h4, k, hk, h5, h6⟩ := Rd.sign_sound _ _ h3
      have h7 := nb h4
      obtain ⟨h8, h9⟩ := Rd.put_bad _ _ h7
      obtain ⟨a, b, c⟩ := take h8 rfl
      have l1 : r.take.2.u.length < n := by rw [b] at hn; simp only [List.length_cons] at hn; omega
      obtain ⟨_, p, p1, p2, p3⟩ := Rd.read_sound n _ (by rw [hu]; exact l1) h4
      rw [hu] at p2
      have l2 : ((r.take.2.put ⟨4, 0, []⟩).read n).u.length ≤ r.take.2.u.length := by rw [p2, List.length_append]; omega
      obtain ⟨_, p', p4, p5, p6⟩ := Rd.read_sound n _ (by rw [h5] at l2; simp only [List.length_cons] at l2; omega) h1
      refine ⟨a, .bin k p p', ⟨hk, p1, p4⟩, ?_, ?_⟩
      · rw [b, q, p2, h5, p5, h2]; simp [Fm.text]
      · rw [Rd.want_L, p6, h6]
        have e : ((r.take.2.put ⟨4, 0, []⟩).read n).L = r.L ++ ⟨4, 0, []⟩ :: p.nodes := by rw [p3, h9, c, List.append_assoc]; rfl
        have e2 : (if k = 4 then ((r.take.2.put ⟨4, 0, []⟩).read n).L else (((r.take.2.put ⟨4, 0, []⟩).read n).kind r.L.length k).L) = r.L ++ ⟨k, 0, []⟩ :: p.nodes := by
          split
          · rename_i e4; rw [e, e4]
          · unfold Rd.kind
            rw [if_pos (by rw [e]; simp)]
            show ((r.take.2.put ⟨4, 0, []⟩).read n).L.set _ _ = _
            rw [e, set_mid]
        rw [e2]
        simp [Fm.nodes]
    · cases h
end Go.GL
namespace Go.GL
theorem Rd.take_cons (c : Int) (v : List Int) (L : List Nd) (b : Bool) : (Rd.mk (c :: v) L b).take = (c, ⟨v, L, b⟩) := rfl
theorem Rd.dig_ok {d : Int} (h : Dg d) (v : List Int) (L : List Nd) (b : Bool) : (Rd.mk ((48 + d) :: v) L b).dig = (d, ⟨v, L, b⟩) := by
  unfold Rd.dig
  rw [Rd.take_cons]
  obtain ⟨h0, h1⟩ := h
  rw [if_neg (by dsimp only; omega)]
  dsimp only
  rw [show 48 + d - 48 = d by omega]
theorem Rd.want_ok (c : Int) (v : List Int) (L : List Nd) (b : Bool) : (Rd.mk (c :: v) L b).want c = ⟨v, L, b⟩ := by
  unfold Rd.want
  rw [Rd.take_cons, if_pos rfl]
theorem Rd.put_ok {L : List Nd} (h : L.length < 40) (u : List Int) (b : Bool) (x : Nd) : (Rd.mk u L b).put x = ⟨u, L ++ [x], b⟩ := by
  unfold Rd.put
  rw [if_neg (by dsimp only; omega)]
theorem Rd.args_ok : ∀ (bs : List Int) (n : Nat) (v : List Int) (L : List Nd) (az : List Int), (∀ d ∈ bs, Dg d) → v.head? = some 41 → (atx bs ++ v).length ≤ n → (Rd.mk (atx bs ++ v) L false).args n az = (⟨v, L, false⟩, az ++ bs)
  | [], n, v, L, az, _, hv, hn => by
    cases n with
    | zero => simp [Rd.args, atx]
    | succ n =>
      unfold Rd.args
      rw [show atx [] = [] from rfl, List.nil_append, if_neg (by rw [hv]; exact fun q => by cases q.2)]
      simp
  | [d], n, v, L, az, hd, hv, hn => by
    cases n with
    | zero => simp [atx, vtx] at hn
    | succ n =>
      have e : atx [d] ++ v = 118 :: (48 + d) :: v := rfl
      unfold Rd.args
      rw [e, if_pos ⟨rfl, rfl⟩, Rd.want_ok, Rd.dig_ok (hd d (by simp)), if_neg (by rw [hv]; exact fun q => by cases q.2)]
  | d :: d' :: bs, n, v, L, az, hd, hv, hn => by
    cases n with
    | zero => simp [atx, vtx] at hn
    | succ n =>
      have e : atx (d :: d' :: bs) ++ v = 118 :: (48 + d) :: 44 :: (atx (d' :: bs) ++ v) := by simp [atx, ctx, vtx]
      have hl : (atx (d' :: bs) ++ v).length ≤ n := by rw [e] at hn; simp only [List.length_cons] at hn; omega
      unfold Rd.args
      rw [e, if_pos ⟨rfl, rfl⟩, Rd.want_ok, Rd.dig_ok (hd d (by simp)), if_pos ⟨rfl, rfl⟩, Rd.want_ok, if_pos (by rfl), Rd.args_ok (d' :: bs) n v L (az ++ [d]) (fun x hx => hd x (List.mem_cons_of_mem _ hx)) hv hl]
      simp
theorem Rd.read_ok : ∀ (p : Fm) (n : Nat) (v : List Int) (L : List Nd), p.Ok → (p.text ++ v).length < n → L.length + p.nodes.length ≤ 40 → (Rd.mk (p.text ++ v) L false).read n = ⟨v, L ++ p.nodes, false⟩
  | p, 0, v, L, _, hn, _ => by omega
  | .tt, n + 1, v, L, _, _, hl => by
    simp only [Fm.nodes, List.length_singleton] at hl
    unfold Rd.read
    rw [show Fm.tt.text ++ v = 84 :: v from rfl, Rd.take_cons, if_neg (by simp), if_pos rfl, Rd.put_ok (by omega)]
    rfl
  | .ff, n + 1, v, L, _, _, hl => by
    simp only [Fm.nodes, List.length_singleton] at hl
    unfold Rd.read
    rw [show Fm.ff.text ++ v = 70 :: v from rfl, Rd.take_cons, if_neg (by simp), if_neg (by simp), if_pos rfl, Rd.put_ok (by omega)]
    rfl
  | .rel s az, n + 1, v, L, ⟨h1, h2⟩, _, hl => by
    simp only [Fm.nodes, List.length_singleton] at hl
    unfold Rd.read
    rw [show (Fm.rel s az).text ++ v = 82 :: (48 + s) :: 40 :: (atx az ++ 41 :: v) by simp [Fm.text], Rd.take_cons, if_neg (by simp), if_neg (by simp), if_neg (by simp), if_pos rfl]
    unfold Rd.rel
    rw [Rd.dig_ok h1]
    dsimp only
    rw [Rd.want_ok]
    dsimp only
    rw [Rd.args_ok az _ (41 :: v) L [] h2 rfl (Nat.le_refl _)]
    dsimp only
    rw [Rd.want_ok, Rd.put_ok (by omega)]
    rfl
  | .eql a b, n + 1, v, L, ⟨h1, h2⟩, _, hl => by
    simp only [Fm.nodes, List.length_singleton] at hl
    unfold Rd.read
    rw [show (Fm.eql a b).text ++ v = 118 :: (48 + a) :: 61 :: 118 :: (48 + b) :: v by simp [Fm.text, vtx], Rd.take_cons, if_neg (by simp), if_neg (by simp), if_neg (by simp), if_neg (by simp), if_pos rfl]
    unfold Rd.equ
    rw [Rd.dig_ok h1]
    dsimp only
    rw [Rd.want_ok, Rd.want_ok, Rd.dig_ok h2, Rd.put_ok (by omega)]
    rfl
  | .ex s p, n + 1, v, L, ⟨h1, h2⟩, hn, hl => by
    have e : (Fm.ex s p).text ++ v = 69 :: (48 + s) :: 46 :: (p.text ++ v) := by simp [Fm.text]
    have e2 : (Fm.ex s p).nodes = ⟨7, s, []⟩ :: p.nodes := rfl
    rw [e] at hn
    rw [e2] at hl
    simp only [List.length_cons] at hn hl
    unfold Rd.read
    rw [e, Rd.take_cons, if_neg (by simp), if_neg (by simp), if_neg (by simp), if_neg (by simp), if_neg (by simp), if_pos rfl]
    unfold Rd.quan
    rw [Rd.dig_ok h1]
    dsimp only
    rw [Rd.put_ok (by omega), Rd.want_ok, Rd.read_ok p n v _ h2 (by omega) (by rw [List.length_append, List.length_singleton]; omega), e2]
    simp
  | .all s p, n + 1, v, L, ⟨h1, h2⟩, hn, hl => by
    have e : (Fm.all s p).text ++ v = 65 :: (48 + s) :: 46 :: (p.text ++ v) := by simp [Fm.text]
    have e2 : (Fm.all s p).nodes = ⟨8, s, []⟩ :: p.nodes := rfl
    rw [e] at hn
    rw [e2] at hl
    simp only [List.length_cons] at hn hl
    unfold Rd.read
    rw [e, Rd.take_cons, if_neg (by simp), if_neg (by simp), if_neg (by simp), if_neg (by simp), if_neg (by simp), if_neg (by simp), if_pos rfl]
    unfold Rd.quan
    rw [Rd.dig_ok h1]
    dsimp only
    rw [Rd.put_ok (by omega), Rd.want_ok, Rd.read_ok p n v _ h2 (by omega) (by rw [List.length_append, List.length_singleton]; omega), e2]
    simp
  | .bin k p q, n + 1, v, L, ⟨hk, h1, h2⟩, hn, hl => by
    have e : (Fm.bin k p q).text ++ v = 40 :: (p.text ++ (sgn k :: (q.text ++ 41 :: v))) := by simp [Fm.text]
    have e2 : (Fm.bin k p q).nodes = ⟨k, 0, []⟩ :: (p.nodes ++ q.nodes) := rfl
    rw [e] at hn
    rw [e2] at hl
    simp only [List.length_cons, List.length_append] at hn hl
    unfold Rd.read
    rw [e, Rd.take_cons, if_neg (by simp), if_neg (by simp), if_neg (by simp), if_neg (by simp), if_neg (by simp), if_neg (by simp), if_neg (by simp), if_pos rfl]
    dsimp only
    rw [Rd.put_ok (by omega), Rd.read_ok p n (sgn k :: (q.text ++ 41 :: v)) _ h1 (by simp only [List.length_append, List.length_cons]; omega) (by rw [List.length_append, List.length_singleton]; omega)]
    have hs : (Rd.mk (sgn k :: (q.text ++ 41 :: v)) (L ++ [⟨4, 0, []⟩] ++ p.nodes) false).sign L.length = ⟨q.text ++ 41 :: v, L ++ ⟨k, 0, []⟩ :: p.nodes, false⟩ := by
      unfold Rd.sign Rd.kind
      rw [Rd.take_cons]
      dsimp only
      have e3 : L ++ [⟨4, 0, []⟩] ++ p.nodes = L ++ (⟨4, 0, []⟩ : Nd) :: p.nodes := by simp
      have e4 : L.length < (L ++ (⟨4, 0, []⟩ : Nd) :: p.nodes).length := by simp
      rw [e3, if_pos e4, if_pos e4, set_mid, set_mid]
      rcases hk with rfl | rfl | rfl
      · rfl
      · rfl
      · rfl
    rw [hs, Rd.read_ok q n (41 :: v) _ h2 (by simp only [List.length_append, List.length_cons]; omega) (by simp only [List.length_append, List.length_cons]; omega), Rd.want_ok, e2]
    simp
end Go.GL
namespace Go.GL
def Rd.dg (r : Rd) (n : Int) : Int × Rd := if r.take.1 - 48 < 0 ∨ n ≤ r.take.1 - 48 then (0, r.take.2.fail) else (r.take.1 - 48, r.take.2)
def Rd.var (r : Rd) : Int × Rd := (r.want 118).dg 4
def Rd.vars : Nat → Rd → List Int → Rd × List Int
  | 0, r, az => (r, az)
  | n + 1, r, az =>
    if r.bad = false ∧ ∃ c, r.u.head? = some c ∧ c ≠ 41 then
      Rd.vars n (if az.length > 0 then r.want 44 else r).var.2 (az ++ [(if az.length > 0 then r.want 44 else r).var.1])
    else (r, az)
def Rd.argu (r : Rd) : Rd × List Int := ((((r.want 40).vars (r.want 40).u.length []).1.want 41), ((r.want 40).vars (r.want 40).u.length []).2)
def Rd.conn (r : Rd) : Int × Rd := if r.take.1 = 38 then (4, r.take.2) else if r.take.1 = 124 then (5, r.take.2) else if r.take.1 = 62 then (6, r.take.2) else (4, r.take.2.fail)
def Rd.fin (r : Rd) (at_ : Nat) (x : Nd) : Rd := ⟨r.u, r.L.set at_ x, r.bad⟩
def Rd.form : Nat → Rd → Rd
  | 0, r => r
  | n + 1, r =>
    if r.bad = true ∨ r.L.length = 40 then r.fail
    else
      let r1 := (Rd.mk r.u (r.L ++ [⟨0, 0, []⟩]) r.bad).take
      if r1.1 = 84 then r1.2.fin r.L.length ⟨0, 0, []⟩
      else if r1.1 = 70 then r1.2.fin r.L.length ⟨1, 0, []⟩
      else if r1.1 = 82 then (r1.2.dg 4).2.argu.1.fin r.L.length ⟨2, (r1.2.dg 4).1, (r1.2.dg 4).2.argu.2⟩
      else if r1.1 = 118 then ((r1.2.dg 4).2.want 61).var.2.fin r.L.length ⟨3, 0, [(r1.2.dg 4).1, ((r1.2.dg 4).2.want 61).var.1]⟩
      else if r1.1 = 69 then (Rd.form n ((r1.2.dg 3).2.want 46)).fin r.L.length ⟨7, (r1.2.dg 3).1, []⟩
      else if r1.1 = 65 then (Rd.form n ((r1.2.dg 3).2.want 46)).fin r.L.length ⟨8, (r1.2.dg 3).1, []⟩
      else if r1.1 = 40 then ((Rd.form n (Rd.form n r1.2).conn.2).want 41).fin r.L.length ⟨(Rd.form n r1.2).conn.1, 0, []⟩
      else r1.2.fail.fin r.L.length ⟨0, 0, []⟩
theorem Rd.dg_sound (r : Rd) (n : Int) (h : (r.dg n).2.bad = false) : r.bad = false ∧ (0 ≤ (r.dg n).1 ∧ (r.dg n).1 < n) ∧ r.u = (48 + (r.dg n).1) :: (r.dg n).2.u ∧ (r.dg n).2.L = r.L := by
  unfold dg at h ⊢
  split at h
  · cases h
  · rename_i q
    rw [if_neg q]
    obtain ⟨h1, h2⟩ := r.take_bad h
    exact ⟨h1, ⟨by dsimp only; omega, by dsimp only; omega⟩, by rw [h2]; congr 1; dsimp only; omega, r.take_L⟩
theorem Rd.var_sound (r : Rd) (h : r.var.2.bad = false) : r.bad = false ∧ (0 ≤ r.var.1 ∧ r.var.1 < 4) ∧ r.u = 118 :: (48 + r.var.1) :: r.var.2.u ∧ r.var.2.L = r.L := by
  unfold Rd.var at h ⊢
  obtain ⟨h1, h2, h3, h4⟩ := Rd.dg_sound _ _ h
  obtain ⟨h5, h6⟩ := Rd.want_bad _ _ h1
  exact ⟨h5, h2, by rw [h6, h3], by rw [h4, Rd.want_L]⟩
def Sm (v : Int) : Prop := 0 ≤ v ∧ v < 4
theorem Sm.dg {v : Int} (h : Sm v) : Dg v := ⟨h.1, by have := h.2; omega⟩
theorem Rd.vars_sound : ∀ (n : Nat) (r : Rd) (az : List Int), (r.vars n az).1.bad = false → r.bad = false ∧ (r.vars n az).1.L = r.L ∧ ∃ bs : List Int, (∀ v ∈ bs, Sm v) ∧ (r.vars n az).2 = az ++ bs ∧ (r.vars n az).1.u.length ≤ r.u.length
  | 0, r, az, h => ⟨h, rfl, [], by simp, by simp [Rd.vars], Nat.le_refl _⟩
  | n + 1, r, az, h => by
    unfold Rd.vars at h ⊢
    split at h
    · rename_i q
      rw [if_pos q]
      obtain ⟨h1, h2, bs, h3, h4, h5⟩ := Rd.vars_sound n _ _ h
      obtain ⟨k1, k2, k3, k4⟩ := Rd.var_sound _ h1
      have e : (if az.length > 0 then r.want 44 else r).L = r.L ∧ (if az.length > 0 then r.want 44 else r).u.length ≤ r.u.length := by
        split
        · exact ⟨Rd.want_L _ _, Rd.want_len _ _⟩
        · exact ⟨rfl, Nat.le_refl _⟩
      refine ⟨q.1, by rw [h2, k4, e.1], (if az.length > 0 then r.want 44 else r).var.1 :: bs, fun v hv => ?_, by rw [h4, List.append_assoc]; rfl, ?_⟩
      · rcases List.mem_cons.1 hv with rfl | hv
        · exact k2
        · exact h3 v hv
      · have := congrArg List.length k3
        simp only [List.length_cons] at this
        omega
    · rename_i q
      rw [if_neg q]
      exact ⟨h, rfl, [], by simp, by simp, Nat.le_refl _⟩
theorem Rd.argu_sound (r : Rd) (h : r.argu.1.bad = false) : r.bad = false ∧ r.argu.1.L = r.L ∧ (∀ v ∈ r.argu.2, Sm v) ∧ r.argu.1.u.length ≤ r.u.length := by
  unfold Rd.argu at h ⊢
  dsimp only at h ⊢
  obtain ⟨h1, h2⟩ := Rd.want_bad _ _ h
  obtain ⟨h3, h4, bs, h5, h6, h7⟩ := Rd.vars_sound _ _ _ h1
  obtain ⟨h8, h9⟩ := Rd.want_bad _ _ h3
  refine ⟨h8, by rw [Rd.want_L, h4, Rd.want_L], fun v hv => ?_, ?_⟩
  · rw [h6, List.nil_append] at hv
    exact h5 v hv
  · have l1 := Rd.want_len ((r.want 40).vars (r.want 40).u.length []).1 41
    have l2 := Rd.want_len r 40
    omega
theorem Rd.conn_sound (r : Rd) (h : r.conn.2.bad = false) : r.bad = false ∧ (r.conn.1 = 4 ∨ r.conn.1 = 5 ∨ r.conn.1 = 6) ∧ r.conn.2.L = r.L ∧ r.conn.2.u.length ≤ r.u.length := by
  unfold Rd.conn at h ⊢
  split at h
  · rename_i q; rw [if_pos q]; exact ⟨(Rd.take_bad _ h).1, .inl rfl, Rd.take_L _, Rd.take_len _⟩
  rename_i q1
  split at h
  · rename_i q; rw [if_neg q1, if_pos q]; exact ⟨(Rd.take_bad _ h).1, .inr (.inl rfl), Rd.take_L _, Rd.take_len _⟩
  rename_i q2
  split at h
  · rename_i q; rw [if_neg q1, if_neg q2, if_pos q]; exact ⟨(Rd.take_bad _ h).1, .inr (.inr rfl), Rd.take_L _, Rd.take_len _⟩
  · cases h
theorem Rd.form_sound : ∀ (n : Nat) (r : Rd), r.u.length < n → (r.form n).bad = false → r.bad = false ∧ (r.form n).u.length < r.u.length ∧ ∃ p : Fm, p.Ok ∧ (r.form n).L = r.L ++ p.nodes
  | 0, r, hn, h => by omega
  | n + 1, r, hn, h => by
    unfold Rd.form at h ⊢
    split at h
    · cases h
    rename_i q0
    rw [if_neg q0]
    have hb : r.bad = false := by cases e : r.bad with | false => rfl | true => exact absurd (.inl e) q0
    have tk : ∀ {r' : Rd}, r'.bad = false → r' = (Rd.mk r.u (r.L ++ [⟨0, 0, []⟩]) r.bad).take.2 → r'.u.length < r.u.length ∧ r'.L = r.L ++ [⟨0, 0, []⟩] := fun {r'} hb e => by
      subst e
      have := (Rd.take_bad _ hb).2
      have := congrArg List.length this
      simp only [List.length_cons] at this
      exact And.intro (by omega) (Rd.take_L _)
    generalize hg : (Rd.mk r.u (r.L ++ [⟨0, 0, []⟩]) r.bad).take = r1 at h tk ⊢
    dsimp only at h ⊢
    have st : ∀ x : Nd, (r.L ++ [(⟨0, 0, []⟩ : Nd)]).set r.L.length x = r.L ++ [x] := fun x => by rw [set_mid]
    split at h
    · rename_i q
      rw [if_pos q]
      obtain ⟨a, b⟩ := tk (r' := r1.2) h rfl
      exact ⟨hb, a, .tt, trivial, by show r1.2.L.set _ _ = _; rw [b, st]; rfl⟩
    rename_i q1
    rw [if_neg q1]
    split at h
    · rename_i q
      rw [if_pos q]
      obtain ⟨a, b⟩ := tk (r' := r1.2) h rfl
      exact ⟨hb, a, .ff, trivial, by show r1.2.L.set _ _ = _; rw [b, st]; rfl⟩
    rename_i q2
    rw [if_neg q2]
    split at h
    · rename_i q
      rw [if_pos q]
      obtain ⟨h1, h2, h3, h4⟩ := Rd.argu_sound _ (show (r1.2.dg 4).2.argu.1.bad = false from h)
      obtain ⟨k1, k2, k3, k4⟩ := Rd.dg_sound _ _ h1
      obtain ⟨a, b⟩ := tk (r' := r1.2) k1 rfl
      have l := congrArg List.length k3
      simp only [List.length_cons] at l
      exact ⟨hb, by show (r1.2.dg 4).2.argu.1.u.length < _; omega, .rel (r1.2.dg 4).1 (r1.2.dg 4).2.argu.2, ⟨Sm.dg k2, fun v hv => (h3 v hv).dg⟩, by show (r1.2.dg 4).2.argu.1.L.set _ _ = _; rw [h2, k4, b, st]; rfl⟩
    rename_i q3
    rw [if_neg q3]
    split at h
    · rename_i q
      rw [if_pos q]
      obtain ⟨h1, h2, h3, h4⟩ := Rd.var_sound _ (show ((r1.2.dg 4).2.want 61).var.2.bad = false from h)
      obtain ⟨h5, h6⟩ := Rd.want_bad _ _ h1
      obtain ⟨k1, k2, k3, k4⟩ := Rd.dg_sound _ _ h5
      obtain ⟨a, b⟩ := tk (r' := r1.2) k1 rfl
      have l1 := congrArg List.length k3
      have l2 := congrArg List.length h6
      have l3 := congrArg List.length h3
      simp only [List.length_cons] at l1 l2 l3
      exact ⟨hb, by show ((r1.2.dg 4).2.want 61).var.2.u.length < _; omega, .eql (r1.2.dg 4).1 ((r1.2.dg 4).2.want 61).var.1, ⟨Sm.dg k2, Sm.dg h2⟩, by show ((r1.2.dg 4).2.want 61).var.2.L.set _ _ = _; rw [h4, Rd.want_L, k4, b, st]; rfl⟩
    rename_i q4
    rw [if_neg q4]
    have nb : ∀ {x : Rd}, (x.form n).bad = false → x.bad = false := fun {x} hx => by
      cases n with
      | zero => exact hx
      | succ m =>
        cases e : x.bad with
        | false => rfl
        | true => unfold Rd.form at hx; rw [if_pos (.inl e)] at hx; cases hx
    have quan : ∀ k : Int, (((r1.2.dg 3).2.want 46).form n).bad = false → (((r1.2.dg 3).2.want 46).form n).u.length < r.u.length ∧ ∃ p : Fm, p.Ok ∧ Dg (r1.2.dg 3).1 ∧ ((((r1.2.dg 3).2.want 46).form n).fin r.L.length ⟨k, (r1.2.dg 3).1, []⟩).L = r.L ++ ⟨k, (r1.2.dg 3).1, []⟩ :: p.nodes := fun k hk => by
      obtain ⟨h1, h2⟩ := Rd.want_bad _ _ (nb hk)
      obtain ⟨k1, k2, k3, k4⟩ := Rd.dg_sound _ _ h1
      obtain ⟨a, b⟩ := tk (r' := r1.2) k1 rfl
      have l1 := congrArg List.length k3
      have l2 := congrArg List.length h2
      simp only [List.length_cons] at l1 l2
      obtain ⟨_, m1, p, m2, m3⟩ := Rd.form_sound n _ (by omega) hk
      refine ⟨by omega, p, m2, ⟨k2.1, by have := k2.2; omega⟩, ?_⟩
      show (((r1.2.dg 3).2.want 46).form n).L.set _ _ = _
      rw [m3, Rd.want_L, k4, b, show r.L ++ [⟨0, 0, []⟩] ++ p.nodes = r.L ++ (⟨0, 0, []⟩ : Nd) :: p.nodes by simp, set_mid]
    split at h
    · rename_i q
      rw [if_pos q]
      obtain ⟨a, p, h1, h2, h3⟩ := quan 7 h
      exact ⟨hb, a, .ex _ p, ⟨h2, h1⟩, h3⟩
    rename_i q5
    rw [if_neg q5]
    split at h
    · rename_i q
      rw [if_pos q]
      obtain ⟨a, p, h1, h2, h3⟩ := quan 8 h
      exact ⟨hb, a, .all _ p, ⟨h2, h1⟩, h3⟩
    rename_i q6
    rw [if_neg q6]
    split at h
    · rename_i q
      rw [if_pos q]
      obtain ⟨h1, h2⟩ := Rd.want_bad _ _ (show (((r1.2.form n).conn.2.form n).want 41).bad = false from h)
      have h3 := nb h1
      obtain ⟨h4, hk, h5, h6⟩ := Rd.conn_sound _ h3
      obtain ⟨a, b⟩ := tk (r' := r1.2) (nb h4) rfl
      obtain ⟨_, m1, p, m2, m3⟩ := Rd.form_sound n _ (by omega) h4
      obtain ⟨_, m4, p', m5, m6⟩ := Rd.form_sound n _ (by omega) h1
      have l := congrArg List.length h2
      simp only [List.length_cons] at l
      refine ⟨hb, by show (((r1.2.form n).conn.2.form n).want 41).u.length < _; omega, .bin _ p p', ⟨hk, m2, m5⟩, ?_⟩
      show (((r1.2.form n).conn.2.form n).want 41).L.set _ _ = _
      rw [Rd.want_L, m6, h5, m3, b, show r.L ++ [⟨0, 0, []⟩] ++ p.nodes ++ p'.nodes = r.L ++ (⟨0, 0, []⟩ : Nd) :: (p.nodes ++ p'.nodes) by simp, set_mid]
      rfl
    · cases h
end Go.GL
namespace Go.GL
def Fm.Lim : Fm → Prop
  | .tt => True
  | .ff => True
  | .rel s az => Sm s ∧ ∀ v ∈ az, Sm v
  | .eql u v => Sm u ∧ Sm v
  | .ex s p => (0 ≤ s ∧ s < 3) ∧ p.Lim
  | .all s p => (0 ≤ s ∧ s < 3) ∧ p.Lim
  | .bin k p q => (k = 4 ∨ k = 5 ∨ k = 6) ∧ p.Lim ∧ q.Lim
def Nd.Ok (x : Nd) : Prop := (∀ v ∈ x.az, Sm v) ∧ if x.k = 2 then (0 ≤ x.s ∧ x.s ≤ 3) ∧ x.az.length ≤ 2 else if x.k = 3 then x.s = 0 ∧ x.az.length = 2 else if x.k = 7 ∨ x.k = 8 then (0 ≤ x.s ∧ x.s ≤ 2) ∧ x.az.length = 0 else (0 ≤ x.k ∧ x.k ≤ 8) ∧ x.s = 0 ∧ x.az.length = 0
def prt (k : Int) : Nat := if k = 4 ∨ k = 5 ∨ k = 6 then 2 else if k = 7 ∨ k = 8 then 1 else 0
def eat : Nat → List Nd → Option Nat
  | 0, _ => some 0
  | _ + 1, [] => none
  | o + 1, x :: l => (eat (o + prt x.k) l).map (· + 1)
def IsF (L : List Nd) : Prop := (1 ≤ L.length ∧ L.length ≤ 40) ∧ (∀ x ∈ L, x.Ok) ∧ eat 1 L = some L.length
theorem Fm.lim : ∀ p : Fm, p.Ok → (∀ x ∈ p.nodes, x.Ok) → p.Lim
  | .tt, _, _ => trivial
  | .ff, _, _ => trivial
  | .rel s az, _, h => by
    have := h ⟨2, s, az⟩ (by simp [Fm.nodes])
    unfold Nd.Ok at this
    dsimp only at this
    rw [if_pos rfl] at this
    exact ⟨⟨this.2.1.1, by have := this.2.1.2; omega⟩, this.1⟩
  | .eql u v, _, h => by
    have := (h ⟨3, 0, [u, v]⟩ (by simp [Fm.nodes])).1
    exact ⟨this u (by simp), this v (by simp)⟩
  | .ex s p, ho, h => by
    have := h ⟨7, s, []⟩ (by simp [Fm.nodes])
    unfold Nd.Ok at this
    dsimp only at this
    rw [if_neg (by decide), if_neg (by decide), if_pos (by decide)] at this
    exact ⟨⟨this.2.1.1, by have := this.2.1.2; omega⟩, p.lim ho.2 fun x hx => h x (List.mem_cons_of_mem _ hx)⟩
  | .all s p, ho, h => by
    have := h ⟨8, s, []⟩ (by simp [Fm.nodes])
    unfold Nd.Ok at this
    dsimp only at this
    rw [if_neg (by decide), if_neg (by decide), if_pos (by decide)] at this
    exact ⟨⟨this.2.1.1, by have := this.2.1.2; omega⟩, p.lim ho.2 fun x hx => h x (List.mem_cons_of_mem _ hx)⟩
  | .bin k p q, ho, h => ⟨ho.1, p.lim ho.2.1 fun x hx => h x (List.mem_cons_of_mem _ (List.mem_append_left _ hx)), q.lim ho.2.2 fun x hx => h x (List.mem_cons_of_mem _ (List.mem_append_right _ hx))⟩
theorem Rd.dg_ok {d n : Int} (h : 0 ≤ d ∧ d < n) (v : List Int) (L : List Nd) (b : Bool) : (Rd.mk ((48 + d) :: v) L b).dg n = (d, ⟨v, L, b⟩) := by
  unfold Rd.dg
  rw [Rd.take_cons]
  obtain ⟨h0, h1⟩ := h
  rw [if_neg (by dsimp only; omega)]
  dsimp only
  rw [show 48 + d - 48 = d by omega]
theorem Rd.var_ok {d : Int} (h : Sm d) (v : List Int) (L : List Nd) (b : Bool) : (Rd.mk (118 :: (48 + d) :: v) L b).var = (d, ⟨v, L, b⟩) := by
  unfold Rd.var
  rw [Rd.want_ok, Rd.dg_ok h]
theorem Rd.vars_ok : ∀ (bs : List Int) (n : Nat) (v : List Int) (L : List Nd) (az : List Int), (∀ d ∈ bs, Sm d) → v.head? = some 41 → ((if az.length > 0 then ctx bs else atx bs) ++ v).length ≤ n → (Rd.mk ((if az.length > 0 then ctx bs else atx bs) ++ v) L false).vars n az = (⟨v, L, false⟩, az ++ bs)
  | [], n, v, L, az, _, hv, hn => by
    have e : (if az.length > 0 then ctx [] else atx []) ++ v = v := by split <;> rfl
    rw [e]
    cases n with
    | zero => simp [Rd.vars]
    | succ n =>
      unfold Rd.vars
      rw [if_neg (by rw [hv]; rintro ⟨_, c, q1, q2⟩; cases q1; exact q2 rfl)]
      simp
  | d :: bs, n, v, L, az, hd, hv, hn => by
    have hs := hd d (by simp)
    have hl : ((if (az ++ [d]).length > 0 then ctx bs else atx bs) ++ v) = ctx bs ++ v := by rw [if_pos (by simp)]
    cases n with
    | zero => exfalso; revert hn; split <;> simp [ctx, atx, vtx]
    | succ n =>
      have ih := Rd.vars_ok bs n v L (az ++ [d]) (fun x hx => hd x (List.mem_cons_of_mem _ hx)) hv
      rw [hl] at ih
      unfold Rd.vars
      by_cases ha : az.length > 0
      · rw [if_pos ha] at hn ⊢
        have e : ctx (d :: bs) ++ v = 44 :: 118 :: (48 + d) :: (ctx bs ++ v) := by simp [ctx, vtx]
        rw [e] at hn ⊢
        simp only [List.length_cons] at hn
        rw [if_pos ⟨rfl, 44, rfl, by decide⟩, if_pos ha, Rd.want_ok, Rd.var_ok hs, ih (by omega)]
        simp
      · rw [if_neg ha] at hn ⊢
        have e : atx (d :: bs) ++ v = 118 :: (48 + d) :: (ctx bs ++ v) := by simp [atx, vtx]
        rw [e] at hn ⊢
        simp only [List.length_cons] at hn
        rw [if_pos ⟨rfl, 118, rfl, by decide⟩, if_neg ha, Rd.var_ok hs, ih (by omega)]
        simp
theorem Rd.conn_ok {k : Int} (hk : k = 4 ∨ k = 5 ∨ k = 6) (v : List Int) (L : List Nd) : (Rd.mk (sgn k :: v) L false).conn = (k, ⟨v, L, false⟩) := by
  unfold Rd.conn
  rw [Rd.take_cons]
  rcases hk with rfl | rfl | rfl <;> rfl
theorem Rd.form_ok : ∀ (p : Fm) (n : Nat) (v : List Int) (L : List Nd), p.Lim → (p.text ++ v).length < n → L.length + p.nodes.length ≤ 40 → (Rd.mk (p.text ++ v) L false).form n = ⟨v, L ++ p.nodes, false⟩
  | p, 0, v, L, _, hn, _ => by omega
  | p, n + 1, v, L, hp, hn, hl => by
    have hpos := p.nodes_pos
    have st : ∀ (M : List Nd) (x : Nd), (L ++ [(⟨0, 0, []⟩ : Nd)] ++ M).set L.length x = L ++ x :: M := fun M x => by rw [List.append_assoc]; exact set_mid
    have st0 : ∀ x : Nd, (L ++ [(⟨0, 0, []⟩ : Nd)]).set L.length x = L ++ [x] := fun x => set_mid
    unfold Rd.form
    rw [if_neg (by rintro (q | q); · cases q
                   · dsimp only at q; omega)]
    dsimp only
    match p, hp, hn, hl with
    | .tt, _, _, _ =>
      rw [show Fm.tt.text ++ v = 84 :: v from rfl, Rd.take_cons, if_pos rfl]
      unfold Rd.fin
      dsimp only
      rw [st0]; rfl
    | .ff, _, _, _ =>
      rw [show Fm.ff.text ++ v = 70 :: v from rfl, Rd.take_cons, if_neg (by simp), if_pos rfl]
      unfold Rd.fin
      dsimp only
      rw [st0]; rfl
    | .rel s az, ⟨h1, h2⟩, _, _ =>
      rw [show (Fm.rel s az).text ++ v = 82 :: (48 + s) :: 40 :: (atx az ++ 41 :: v) by simp [Fm.text], Rd.take_cons, if_neg (by simp), if_neg (by simp), if_pos rfl]
      dsimp only
      rw [Rd.dg_ok h1]
      dsimp only
      have ha : (Rd.mk (40 :: (atx az ++ 41 :: v)) (L ++ [⟨0, 0, []⟩]) false).argu = (⟨v, L ++ [⟨0, 0, []⟩], false⟩, az) := by
        unfold Rd.argu
        rw [Rd.want_ok]
        dsimp only
        have := Rd.vars_ok az (atx az ++ 41 :: v).length (41 :: v) (L ++ [⟨0, 0, []⟩]) [] h2 rfl (Nat.le_refl _)
        rw [if_neg (by simp)] at this
        rw [this]
        dsimp only
        rw [Rd.want_ok]
        rfl
      rw [ha]
      unfold Rd.fin
      dsimp only
      rw [st0]; rfl
    | .eql a b, ⟨h1, h2⟩, _, _ =>
      rw [show (Fm.eql a b).text ++ v = 118 :: (48 + a) :: 61 :: 118 :: (48 + b) :: v by simp [Fm.text, vtx], Rd.take_cons, if_neg (by simp), if_neg (by simp), if_neg (by simp), if_pos rfl]
      dsimp only
      rw [Rd.dg_ok h1]
      dsimp only
      rw [Rd.want_ok, Rd.var_ok h2]
      unfold Rd.fin
      dsimp only
      rw [st0]; rfl
    | .ex s q, ⟨h1, h2⟩, hn, hl =>
      have e : (Fm.ex s q).text ++ v = 69 :: (48 + s) :: 46 :: (q.text ++ v) := by simp [Fm.text]
      have e2 : (Fm.ex s q).nodes = ⟨7, s, []⟩ :: q.nodes := rfl
      rw [e] at hn
      rw [e2] at hl
      simp only [List.length_cons] at hn hl
      rw [e, Rd.take_cons, if_neg (by simp), if_neg (by simp), if_neg (by simp), if_neg (by simp), if_pos rfl]
      dsimp only
      rw [Rd.dg_ok h1]
      dsimp only
      rw [Rd.want_ok, Rd.form_ok q n v _ h2 (by omega) (by rw [List.length_append, List.length_singleton]; omega)]
      unfold Rd.fin
      dsimp only
      rw [st]; rfl
    | .all s q, ⟨h1, h2⟩, hn, hl =>
      have e : (Fm.all s q).text ++ v = 65 :: (48 + s) :: 46 :: (q.text ++ v) := by simp [Fm.text]
      have e2 : (Fm.all s q).nodes = ⟨8, s, []⟩ :: q.nodes := rfl
      rw [e] at hn
      rw [e2] at hl
      simp only [List.length_cons] at hn hl
      rw [e, Rd.take_cons, if_neg (by simp), if_neg (by simp), if_neg (by simp), if_neg (by simp), if_neg (by simp), if_pos rfl]
      dsimp only
      rw [Rd.dg_ok h1]
      dsimp only
      rw [Rd.want_ok, Rd.form_ok q n v _ h2 (by omega) (by rw [List.length_append, List.length_singleton]; omega)]
      unfold Rd.fin
      dsimp only
      rw [st]; rfl
    | .bin k q q', ⟨hk, h1, h2⟩, hn, hl =>
      have e : (Fm.bin k q q').text ++ v = 40 :: (q.text ++ (sgn k :: (q'.text ++ 41 :: v))) := by simp [Fm.text]
      have e2 : (Fm.bin k q q').nodes = ⟨k, 0, []⟩ :: (q.nodes ++ q'.nodes) := rfl
      rw [e] at hn
      rw [e2] at hl
      simp only [List.length_cons, List.length_append] at hn hl
      rw [e, Rd.take_cons, if_neg (by simp), if_neg (by simp), if_neg (by simp), if_neg (by simp), if_neg (by simp), if_neg (by simp), if_pos rfl]
      dsimp only
      rw [Rd.form_ok q n (sgn k :: (q'.text ++ 41 :: v)) _ h1 (by simp only [List.length_append, List.length_cons]; omega) (by rw [List.length_append, List.length_singleton]; omega), Rd.conn_ok hk]
      dsimp only
      rw [Rd.form_ok q' n (41 :: v) _ h2 (by simp only [List.length_append, List.length_cons]; omega) (by simp only [List.length_append, List.length_singleton]; omega), Rd.want_ok]
      unfold Rd.fin
      dsimp only
      rw [List.append_assoc (L ++ _), st]; rfl
def Pl (c : Int) : Prop := 0 ≤ c ∧ c < 128
theorem Pl.dg {d : Int} (h : Dg d) : Pl (48 + d) := ⟨by have := h.1; omega, by have := h.2; omega⟩
theorem atx_pl : ∀ {az : List Int}, (∀ v ∈ az, Dg v) → (∀ c ∈ ctx az, Pl c) ∧ ∀ c ∈ atx az, Pl c
  | [], _ => ⟨fun c h => (by cases h), fun c h => (by cases h)⟩
  | d :: az, h => by
    have hd := Pl.dg (h d (by simp))
    have ih := (atx_pl (az := az) fun v hv => h v (List.mem_cons_of_mem _ hv)).1
    have k : ∀ c ∈ vtx d ++ ctx az, Pl c := fun c hc => by
      rcases List.mem_append.1 hc with hc | hc
      · simp only [vtx, List.mem_cons, List.not_mem_nil, or_false] at hc
        rcases hc with rfl | rfl
        · exact ⟨by decide, by decide⟩
        · exact hd
      · exact ih c hc
    refine ⟨fun c hc => ?_, k⟩
    rcases List.mem_cons.1 hc with rfl | hc
    · exact ⟨by decide, by decide⟩
    · exact k c hc
theorem Fm.plain : ∀ p : Fm, p.Ok → ∀ c ∈ p.text, Pl c
  | .tt, _, c, hc => by simp only [Fm.text, List.mem_singleton] at hc; subst hc; exact ⟨by decide, by decide⟩
  | .ff, _, c, hc => by simp only [Fm.text, List.mem_singleton] at hc; subst hc; exact ⟨by decide, by decide⟩
  | .rel s az, h, c, hc => by
    simp only [Fm.text, List.mem_cons, List.mem_append, List.not_mem_nil, or_false] at hc
    rcases hc with rfl | rfl | rfl | hc | rfl
    · exact ⟨by decide, by decide⟩
    · exact Pl.dg h.1
    · exact ⟨by decide, by decide⟩
    · exact (atx_pl h.2).2 c hc
    · exact ⟨by decide, by decide⟩
  | .eql u v, h, c, hc => by
    simp only [Fm.text, vtx, List.mem_cons, List.mem_append, List.not_mem_nil, or_false] at hc
    rcases hc with (rfl | rfl) | rfl | rfl | rfl
    · exact ⟨by decide, by decide⟩
    · exact Pl.dg h.1
    · exact ⟨by decide, by decide⟩
    · exact ⟨by decide, by decide⟩
    · exact Pl.dg h.2
  | .ex s p, h, c, hc => by
    simp only [Fm.text, List.mem_cons] at hc
    rcases hc with rfl | rfl | rfl | hc
    · exact ⟨by decide, by decide⟩
    · exact Pl.dg h.1
    · exact ⟨by decide, by decide⟩
    · exact p.plain h.2 c hc
  | .all s p, h, c, hc => by
    simp only [Fm.text, List.mem_cons] at hc
    rcases hc with rfl | rfl | rfl | hc
    · exact ⟨by decide, by decide⟩
    · exact Pl.dg h.1
    · exact ⟨by decide, by decide⟩
    · exact p.plain h.2 c hc
  | .bin k p q, h, c, hc => by
    simp only [Fm.text, List.mem_cons, List.mem_append, List.not_mem_nil, or_false] at hc
    rcases hc with rfl | hc | rfl | hc | rfl
    · exact ⟨by decide, by decide⟩
    · exact p.plain h.2.1 c hc
    · unfold sgn; split <;> (try split) <;> exact ⟨by decide, by decide⟩
    · exact q.plain h.2.2 c hc
    · exact ⟨by decide, by decide⟩
def rdS (T : List Int) : Rd := (Rd.mk T [] false).read (T.length + 1)
def rdI (W : List Int) : Rd := (Rd.mk W [] false).form (W.length + 1)
def GoodS (T : List Int) : Prop := (rdS T).bad = false ∧ (rdS T).u = [] ∧ IsF (rdS T).L
def GoodI (T W : List Int) : Prop := (rdI W).bad = false ∧ (rdI W).u = [] ∧ IsF (rdI W).L ∧ ∃ p : Fm, p.Ok ∧ p.nodes = (rdI W).L ∧ p.text = T
theorem good_si {T W : List Int} (hW : (∀ c ∈ T, Pl c) → W = T) (h : GoodS T) : GoodI T W ∧ (rdI W).L = (rdS T).L := by
  obtain ⟨h1, h2, h3⟩ := h
  obtain ⟨_, p, p1, p2, p3⟩ := Rd.read_sound (T.length + 1) ⟨T, [], false⟩ (Nat.lt_succ_self _) h1
  have e1 : T = p.text := by
    have : T = p.text ++ (rdS T).u := p2
    rw [h2, List.append_nil] at this
    exact this
  have e2 : (rdS T).L = p.nodes := p3
  have hw : W = T := hW fun c hc => p.plain p1 c (by rw [← e1]; exact hc)
  have hlim := p.lim p1 fun x hx => h3.2.1 x (by rw [e2]; exact hx)
  have hl : p.nodes.length ≤ 40 := by rw [← e2]; exact h3.1.2
  have hI : rdI W = ⟨[], p.nodes, false⟩ := by
    unfold rdI
    have := Rd.form_ok p (W.length + 1) [] [] hlim (by rw [List.append_nil, ← e1, hw]; exact Nat.lt_succ_self _) (by simpa using hl)
    rw [List.append_nil, ← e1, ← hw, List.nil_append] at this
    exact this
  refine ⟨⟨by rw [hI], by rw [hI], by rw [hI, ← e2]; exact h3, p, p1, by rw [hI], e1.symm⟩, by rw [hI, e2]⟩
theorem good_is {T W : List Int} (h : GoodI T W) : GoodS T ∧ (rdS T).L = (rdI W).L := by
  obtain ⟨h1, h2, h3, p, p1, p2, p3⟩ := h
  have hS : rdS T = ⟨[], p.nodes, false⟩ := by
    unfold rdS
    have := Rd.read_ok p (T.length + 1) [] [] p1 (by rw [List.append_nil, p3]; exact Nat.lt_succ_self _) (by rw [p2]; simpa using h3.1.2)
    rw [List.append_nil, p3, List.nil_append] at this
    exact this
  exact ⟨⟨by rw [hS], by rw [hS], by rw [hS, p2]; exact h3⟩, by rw [hS, p2]⟩
end Go.GL
namespace Go.GL
open Go.RowKit
def decB (n : Nat) : ByteArray := if n < 10 then bytesOf [48 + (n : Int)] else bytesOf [48 + ((n / 10 : Nat) : Int)] ++ bytesOf [48 + ((n % 10 : Nat) : Int)]
theorem size_bytesOf1 (a : Int) : (bytesOf [a]).size = 1 := rfl
theorem decB_size (n : Nat) : (decB n).size ≤ 2 := by
  unfold decB
  split
  · rw [size_bytesOf1]; omega
  · rw [ByteArray.size_append, size_bytesOf1, size_bytesOf1]; omega
theorem decB_lt {n : Nat} (h : n < 10) : decB n = bytesOf [48 + (n : Int)] := if_pos h
theorem decB_ge {n : Nat} (h : ¬ n < 10) : decB n = bytesOf [48 + ((n / 10 : Nat) : Int)] ++ bytesOf [48 + ((n % 10 : Nat) : Int)] := if_neg h
def digB : ByteArray := ⟨#[48, 49, 50, 51, 52, 53, 54, 55, 56, 57, 97, 98, 99, 100, 101, 102, 103, 104, 105, 106, 107, 108, 109, 110, 111, 112, 113, 114, 115, 116, 117, 118, 119, 120, 121, 122]⟩
def smlB : ByteArray := ⟨#[48, 48, 48, 49, 48, 50, 48, 51, 48, 52, 48, 53, 48, 54, 48, 55, 48, 56, 48, 57, 49, 48, 49, 49, 49, 50, 49, 51, 49, 52, 49, 53, 49, 54, 49, 55, 49, 56, 49, 57, 50, 48, 50, 49, 50, 50, 50, 51, 50, 52, 50, 53, 50, 54, 50, 55, 50, 56, 50, 57, 51, 48, 51, 49, 51, 50, 51, 51, 51, 52, 51, 53, 51, 54, 51, 55, 51, 56, 51, 57, 52, 48, 52, 49, 52, 50, 52, 51, 52, 52, 52, 53, 52, 54, 52, 55, 52, 56, 52, 57, 53, 48, 53, 49, 53, 50, 53, 51, 53, 52, 53, 53, 53, 54, 53, 55, 53, 56, 53, 57, 54, 48, 54, 49, 54, 50, 54, 51, 54, 52, 54, 53, 54, 54, 54, 55, 54, 56, 54, 57, 55, 48, 55, 49, 55, 50, 55, 51, 55, 52, 55, 53, 55, 54, 55, 55, 55, 56, 55, 57, 56, 48, 56, 49, 56, 50, 56, 51, 56, 52, 56, 53, 56, 54, 56, 55, 56, 56, 56, 57, 57, 48, 57, 49, 57, 50, 57, 51, 57, 52, 57, 53, 57, 54, 57, 55, 57, 56, 57, 57]⟩
theorem digB_size : digB.size = 36 := by decide +kernel
theorem smlB_size : smlB.size = 200 := by decide +kernel
theorem digB_fin : ∀ i : Fin 10, (digB.extract i.val (i.val + 1)).data.toList = [UInt8.ofNat (48 + i.val)] := by decide +kernel
theorem smlB_fin : ∀ i : Fin 100, (smlB.extract (i.val * 2) (i.val * 2 + 2)).data.toList = [UInt8.ofNat (48 + i.val / 10), UInt8.ofNat (48 + i.val % 10)] := by decide +kernel
theorem ba_list {a b : ByteArray} (h : a.data.toList = b.data.toList) : a = b := ByteArray.ext (Array.toList_inj.1 h)
theorem digB_ex {i : Nat} (h : i < 10) : digB.extract i (i + 1) = decB i := by
  rw [decB_lt h]
  refine ba_list ?_
  rw [digB_fin ⟨i, h⟩, bytesOf_data]
  simp only [List.map_cons, List.map_nil]
  rw [show ((48 : Int) + (i : Int)).toNat = 48 + i by omega]
theorem smlB_ex {i : Nat} (h : ¬ i < 10) (h2 : i < 100) : smlB.extract (i * 2) (i * 2 + 2) = decB i := by
  rw [decB_ge h]
  refine ba_list ?_
  rw [smlB_fin ⟨i, h2⟩, ByteArray.data_append, Array.toList_append, bytesOf_data, bytesOf_data]
  simp only [List.map_cons, List.map_nil, List.cons_append, List.nil_append]
  rw [show ((48 : Int) + ((i / 10 : Nat) : Int)).toNat = 48 + i / 10 by omega, show ((48 : Int) + ((i % 10 : Nat) : Int)).toNat = 48 + i % 10 by omega]
section
variable {P : Program} {fr : Slots} {H : GHeap}
theorem MStep.substr {t : TypeId} {x lo hi : Operand} {s : ByteArray} {k j : IntKind} {l h : Int} (ht : isStringT P t = true) (hx : ev fr x = some (.string s)) (hlo : ev fr lo = some (.int k l)) (hhi : ev fr hi = some (.int j h)) (h0 : 0 ≤ l) (h1 : l ≤ h) (h2 : h ≤ s.size) :
    MStep P fr H (.slice t x (some lo) (some hi) none) (.string (s.extract l.toNat h.toNat)) :=
  .sliceStr ht hx ⟨k, by rw [hlo, Int.toNat_of_nonneg h0]⟩ ⟨j, by rw [hhi, Int.toNat_of_nonneg (by omega)]⟩ (by omega) (by omega)
end
end Go.GL
