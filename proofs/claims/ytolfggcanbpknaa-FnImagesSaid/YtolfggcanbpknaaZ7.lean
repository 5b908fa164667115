/- What a caller hands in, brought into a ghost heap; the last step of a row that says 'true, and the arguments read as they did'. No condition. -/
import Derived.Test.YtolfggcanbpknaaZ6
import Derived.Below
import Derived.ChangeSame
import Derived.ChangeSlices
import Derived.Deep.Slices
import Derived.Deep.Matrix
import Derived.WideKeyArgs
import Derived.MapKept
namespace Go.GL
open Go.RowKit Go.WideShapes Go.ChangeShapes Go.Deep

def GHeap.gap (H : GHeap) : GHeap := ⟨H.objs ++ [none]⟩
@[simp] theorem GHeap.next_gap (H : GHeap) : H.gap.next = H.next + 1 := by simp [GHeap.next, GHeap.gap]
theorem GHeap.get_gap (H : GHeap) (g : Nat) : H.gap.get g = H.get g := by
  unfold GHeap.get GHeap.gap
  simp only
  rcases Nat.lt_or_ge g H.objs.length with hl | hl
  · rw [List.getElem?_append_left hl]
  · rw [List.getElem?_append_right hl, List.getElem?_eq_none hl]
    rcases Nat.eq_zero_or_pos (g - H.objs.length) with e | e
    · rw [e]; rfl
    · rw [List.getElem?_eq_none (by simp; omega)]
theorem GHeap.le_gap (H : GHeap) : H.Le H.gap := ⟨by simp, fun g o h => by rw [GHeap.get_gap]; exact h⟩

section
variable {P : Program} {B : Nat} {w0 : World} {ρ : Place} {H : GHeap} {w : World}

theorem Sim.start (P : Program) (W : World) : Sim P W.heap.size W (fun _ => none) ⟨[]⟩ W :=
  ⟨fun _ _ => rfl, fun g o h => by simp [GHeap.get] at h, fun g g' o o' s s' h => by simp [GHeap.get] at h, Nat.le_refl _, .refl _ _⟩

theorem Sim.gap (hs : Sim P B w0 ρ H w) (s : Spot) : Sim P B w0 (place ρ H.next s) H.gap w ∧ Ext ρ (place ρ H.next s) := by
  have hext : Ext ρ (place ρ H.next s) := place_ext (hs.dom _ (Nat.le_refl _))
  refine ⟨⟨fun g hg => ?_, fun g o hg => ?_, fun g g' o o' t t' h1 h2 h3 h4 h5 h6 h7 => ?_, hs.base, hs.below⟩, hext⟩
  · simp at hg
    unfold place
    rw [if_neg (by omega)]
    exact hs.dom g (by omega)
  · rw [GHeap.get_gap] at hg
    exact (hs.live g o hg).keep hext fun _ _ => rfl
  · rw [GHeap.get_gap] at h1 h2
    have e1 := GHeap.ltg h1
    have e2 := GHeap.ltg h2
    unfold place at h6 h7
    rw [if_neg (by omega)] at h6 h7
    exact hs.apart g g' o o' t t' h1 h2 h3 h4 h5 h6 h7

theorem Sim.look (hs : Sim P B w0 ρ H w) {b : Nat} {C : Array Value} {e : TypeId} {fz : Nat × Nat} (hb : b < B) (hw : w.heap[b]? = some (.cells C e fz)) {off k : Nat} {vs : List Value} (hl : off + vs.length ≤ C.size)
    (hv : ∀ (i : Nat) (v : Value), vs[i]? = some v → ∃ c, C[off + i]? = some c ∧ VRel ρ v c) :
    Sim P B w0 (place ρ H.next ⟨b, off, C.size, k⟩) (H.push (.row vs e false)) w ∧ Ext ρ (place ρ H.next ⟨b, off, C.size, k⟩) := by
  have hext : Ext ρ (place ρ H.next ⟨b, off, C.size, k⟩) := place_ext (hs.dom _ (Nat.le_refl _))
  refine ⟨⟨fun g hg => ?_, fun g o hg => ?_, fun g g' o o' t t' h1 h2 h3 h4 h5 h6 h7 => ?_, hs.base, hs.below⟩, hext⟩
  · simp at hg
    unfold place
    rw [if_neg (by omega)]
    exact hs.dom g (by omega)
  · rcases Nat.lt_or_ge g H.next with hlt | hge
    · rw [GHeap.get_push_lt hlt] at hg
      exact (hs.live g o hg).keep hext fun _ _ => rfl
    · have hg' : g = H.next := by have := GHeap.ltg hg; simp at this; omega
      subst hg'
      rw [GHeap.get_push_new] at hg
      cases hg
      exact ⟨_, C, fz, place_self, hw, rfl, hl, fun i v h => let ⟨c, h1, h2⟩ := hv i v h; ⟨c, h1, h2.mono hext⟩, fun h => (by cases h), fun _ => hb, fun h => (by cases h)⟩
  · have old : ∀ {k' : Nat} {x : GObj}, (H.push (.row vs e false)).get k' = some x → x.isOwn = true → k' < H.next ∧ H.get k' = some x := by
      intro k' x hx ho
      have hk := GHeap.ltg hx
      simp at hk
      rcases Nat.lt_or_ge k' H.next with hlt | hge
      · rw [GHeap.get_push_lt hlt] at hx; exact ⟨hlt, hx⟩
      · obtain rfl : k' = H.next := by omega
        rw [GHeap.get_push_new] at hx
        cases hx
        cases ho
    obtain ⟨a1, a2⟩ := old h1 h3
    obtain ⟨b1, b2⟩ := old h2 h4
    unfold place at h6 h7
    rw [if_neg (by omega)] at h6 h7
    exact hs.apart g g' o o' t t' a2 b2 h3 h4 h5 h6 h7

theorem Sim.list (hs : Sim P B w0 ρ H w) (hB : w.heap.size ≤ B) {a : Addr} {len cap : Nat} {V : Nat → Value} (hl : len ≤ cap) (hm : cap ≤ maxLen) (hcell : ∀ i, i < cap → w.cell? (a.add i) = some (V i)) {f : Nat → Value}
    (hf : ∀ i, i < len → VRel ρ (f i) (V i)) :
    ∃ a' ρ' H', Sim P B w0 ρ' H' w ∧ Ext ρ ρ' ∧ H.Le H' ∧ VRel ρ' (.slice a' len len) (.slice (some a) len cap) ∧ SlA H' a' len f := by
  rcases Nat.eq_zero_or_pos cap with e | hp
  · subst e
    obtain rfl : len = 0 := by omega
    obtain ⟨h1, h2⟩ := hs.gap ⟨0, 0, 0, 0⟩
    exact ⟨some ⟨H.next, 0, none⟩, _, _, h1, h2, H.le_gap, .empty place_self, .inl rfl⟩
  · have h0 := hcell 0 hp
    have hsp := World.cell?_spot h0
    obtain ⟨b, off, sp⟩ := a
    have hadd : ∀ i, (Addr.mk b off none).add i = ⟨b, off + i, none⟩ := fun i => by
      unfold Addr.add
      split
      · rename_i h; subst h; rfl
      · rfl
    obtain rfl : sp = none := by simpa [Addr.add] using hsp
    rw [hadd] at h0
    have hblk : ∃ C e fz, w.heap[b]? = some (.cells C e fz) := by
      unfold World.cell? at h0
      split at h0
      · exact ⟨_, _, _, by assumption⟩
      · cases h0
    obtain ⟨C, e, fz, hC⟩ := hblk
    have hc : ∀ i, i < cap → C[off + i]? = some (V i) := fun i hi => by
      have := hcell i hi
      rw [hadd] at this
      simpa [World.cell?, hC] using this
    have hsz : off + cap ≤ C.size := by
      have := (Array.getElem?_eq_some_iff.1 (hc (cap - 1) (by omega))).1
      omega
    have hbl : b < B := by
      have : b < w.heap.size := (Array.getElem?_eq_some_iff.1 hC).1
      omega
    obtain ⟨h1, h2⟩ := hs.look hbl hC (off := off) (k := 1) (vs := (List.range len).map f) (by simp; omega) (fun i v hv => by
      simp only [List.getElem?_map, Option.map_eq_some_iff] at hv
      obtain ⟨j, hj, rfl⟩ := hv
      have hj' := List.getElem?_eq_some_iff.1 hj
      simp at hj'
      obtain ⟨hi, rfl⟩ := hj'
      exact ⟨_, hc i (by omega), hf i hi⟩)
    refine ⟨some ⟨H.next, 0, none⟩, _, _, h1, h2, GHeap.le_push _ _, ?_, .inr ⟨H.next, 0, rfl, fun i hi => ?_⟩⟩
    · have := VRel.slice (ρ := place ρ H.next ⟨b, off, C.size, 1⟩) (g := H.next) (o := 0) (n := len) (cap := cap) place_self hl (by simp only; omega) hm
      simpa using this
    · rw [GHeap.cell_of (GHeap.get_push_new _ _)]
      simp [hi]
end

def Imports (P : Program) (t : TypeId) (R : Place → GHeap → List Value → Prop) : Prop :=
  ∀ {T : Type} {enc : TypeId × Value → T} {B : Nat} {w0 : World} {ρ : Place} {H : GHeap} {w : World} {held : Bool} {fuel : Nat} {cs : List Value} {x : DataW T × List MemPlace}, Sim P B w0 ρ H w → w.heap.size ≤ B →
    DataW.trod enc P w 0 (fun _ => true) held fuel t cs = some x → ∃ ρ' H', Sim P B w0 ρ' H' w ∧ Ext ρ ρ' ∧ H.Le H' ∧ R ρ' H' cs

def I64 (n : Int) : Prop := -9223372036854775808 ≤ n ∧ n ≤ 9223372036854775807
theorem I64.of_wf {n : Int} (h : (Lit.int .i64 n).wf = true) : I64 n := by
  simp [Lit.wf, IntKind.min, IntKind.max, IntKind.signed, IntKind.bits] at h
  exact ⟨by omega, by omega⟩
def I64s (xs : List Int) : Prop := xs.length ≤ 9223372036854775807 ∧ ∀ i, I64 (xs.getD i 0)

def RInts (ρ : Place) (H : GHeap) (cs : List Value) : Prop := ∃ a xs c, cs = [c] ∧ VRel ρ (.slice a xs.length xs.length) c ∧ Ints H a xs ∧ I64s xs
def RIntss (ρ : Place) (H : GHeap) (cs : List Value) : Prop := ∃ a xss r c, cs = [c] ∧ VRel ρ (.slice a xss.length xss.length) c ∧ Intss H a xss r ∧ xss.length ≤ 9223372036854775807 ∧ ∀ i, I64s (xss.getD i [])

theorem take_getD (zs : List Int) {n i : Nat} (hi : i < n) : (zs.take n).getD i 0 = zs.getD i 0 := by
  simp [List.getD_eq_getElem?_getD, List.getElem?_take, hi]
theorem I64s.take {zs : List Int} (h : ∀ n ∈ zs, (Lit.int .i64 n).wf = true) {len : Nat} (hl : (zs.take len).length ≤ 9223372036854775807) : I64s (zs.take len) := by
  refine ⟨hl, fun i => ?_⟩
  rw [List.getD_eq_getElem?_getD]
  cases e : (zs.take len)[i]? with
  | none => simp [I64]
  | some n => exact .of_wf (h n (List.mem_of_mem_take (List.mem_of_getElem? e)))

section
variable {P : Program} {T : Type} {enc : TypeId × Value → T} {B : Nat} {w0 : World} {ρ : Place} {H : GHeap} {w : World} {held : Bool} {n : Nat} {cs : List Value} {fs : Array Field} {xs : List (DataW T × List MemPlace)}
end

theorem RInts.mono {ρ ρ' : Place} {H H' : GHeap} {cs : List Value} (h : RInts ρ H cs) (he : Ext ρ ρ') (hl : H.Le H') : RInts ρ' H' cs :=
  let ⟨a, xs, c, h1, h2, h3, h4⟩ := h; ⟨a, xs, c, h1, h2.mono he, h3.mono hl, h4⟩
theorem RIntss.mono {ρ ρ' : Place} {H H' : GHeap} {cs : List Value} (h : RIntss ρ H cs) (he : Ext ρ ρ') (hl : H.Le H') : RIntss ρ' H' cs :=
  let ⟨a, xs, r, c, h1, h2, h3, h4⟩ := h; ⟨a, xs, r, c, h1, h2.mono he, h3.mono hl, h4⟩

def Cat.Wide (c : Cat) : Prop := I64 c.obj ∧ I64s c.src ∧ I64s c.tgt ∧ I64s c.idn ∧ c.comp.length ≤ 9223372036854775807 ∧ ∀ i, I64s (c.comp.getD i [])
def Fun.Wide (f : Fun) : Prop := f.s.Wide ∧ f.t.Wide ∧ I64s f.ob ∧ I64s f.ar
def Tra.Wide (m : Tra) : Prop := m.s.Wide ∧ m.t.Wide ∧ I64s m.co

def RCat (ρ : Place) (H : GHeap) (cs : List Value) : Prop := ∃ (c : Cat) (p : CatP), LRel ρ (c.cells p) cs ∧ c.In H p ∧ c.Wide
def RFun (ρ : Place) (H : GHeap) (cs : List Value) : Prop := ∃ (c : Fun) (p : FunP), LRel ρ (c.cells p) cs ∧ c.In H p ∧ c.Wide
def RTra (ρ : Place) (H : GHeap) (cs : List Value) : Prop := ∃ (c : Tra) (p : TraP), LRel ρ (c.cells p) cs ∧ c.In H p ∧ c.Wide
theorem RCat.mono {ρ ρ' : Place} {H H' : GHeap} {cs : List Value} (h : RCat ρ H cs) (he : Ext ρ ρ') (hl : H.Le H') : RCat ρ' H' cs := let ⟨c, p, h1, h2, h3⟩ := h; ⟨c, p, h1.mono he, h2.mono hl, h3⟩
theorem RFun.mono {ρ ρ' : Place} {H H' : GHeap} {cs : List Value} (h : RFun ρ H cs) (he : Ext ρ ρ') (hl : H.Le H') : RFun ρ' H' cs := let ⟨c, p, h1, h2, h3⟩ := h; ⟨c, p, h1.mono he, h2.mono hl, h3⟩
theorem RTra.mono {ρ ρ' : Place} {H H' : GHeap} {cs : List Value} (h : RTra ρ H cs) (he : Ext ρ ρ') (hl : H.Le H') : RTra ρ' H' cs := let ⟨c, p, h1, h2, h3⟩ := h; ⟨c, p, h1.mono he, h2.mono hl, h3⟩

def readB (P : Program) (ts : List TypeId) : Bool := ts.all fun t => P.readableRec t && decide (t < P.types.size)

section
variable {T : Type} {enc : TypeId × Value → T} {P : Program}
theorem args_again (hl : laidOutB P = true) {W W' : World} (hb : Below W.heap.size W W') {sp : Nat → Bool} : ∀ {ts : List TypeId} {vs : List Value} {ds : List (DataW T)} {ps : List MemPlace}, readB P ts = true →
    DataW.TrodAll enc P W 0 (fun _ => true) true ts vs ds ps → (∀ p ∈ ps, p.block < W.heap.size) → (∀ p ∈ ps, sp p.block = true) → DataW.TrodAll enc P W' 0 sp true ts vs ds ps
  | [], _, _, _, _, h, _, _ => by
    obtain ⟨rfl, rfl, rfl⟩ := trodAll_nil h
    exact trodAll_mk0
  | t :: ts, _, _, _, hr, h, hlt, hsp => by
    obtain ⟨v, vs, d, ds, p, q, rfl, rfl, rfl, h1, h2⟩ := trodAll_cons h
    simp only [readB, List.all_cons, Bool.and_eq_true, decide_eq_true_eq] at hr
    exact ⟨p, q, WideElems.Trod_stays hl hr.1.1 hr.1.2 h1 (fun x hx => hb.same (hlt x (by simp [hx]))) (fun x hx => hsp x (by simp [hx])),
      args_again hl hb (by simpa only [readB, Bool.and_eq_true] using hr.2) h2 (fun x hx => hlt x (by simp [hx])) (fun x hx => hsp x (by simp [hx])), rfl⟩

theorem law_post {f : Func} {s : ChangeSpec} {apart fresh handsOn again : Bool} {W W' : World} {args : Array Value} {ds gs : List (DataW T)} {before : List MemPlace} {tb : TypeId}
    (hl : laidOutB P = true) (hr : readB P f.params.toList = true) (hv : s.vars = []) (hrt : f.resultTypes = #[tb]) (htb : P.underlying tb = some .bool)
    (hW : DataW.Whole enc P f.params.toList s.vars apart W args.toList ds gs before)
    (hsr : (s.fn T ds).results = [.lit (.bool true)]) (hsa : (s.fn T ds).args = ds) (hsv : (s.fn T ds).vars = []) (hb : Below W.heap.size W W') :
    s.post enc P f apart fresh handsOn again W args (.bool true) W' := by
  have hlt := hW.lt
  have hWW := hW
  obtain ⟨p, q, hA, hV, hpq, hfz, hnd⟩ := hW
  rw [hv] at hV
  obtain ⟨rfl, rfl⟩ := trodVars_none hV
  rw [List.append_nil] at hpq
  obtain rfl := hpq.symm
  have hres : ∀ (b : Nat) (sp : Nat → Bool) (hd : Bool), DataW.TrodAll enc P W' b sp hd f.resultTypes.toList ((Value.bool true).resultList f.resultTypes.size) (s.fn T (ds ++ [])).results [] := fun b sp hd => by
    rw [List.append_nil, hsr, hrt]
    exact trodAll_mk1 (shut_bool htb true)
  have hargs : ∀ sp : Nat → Bool, (∀ x ∈ p, sp x.block = true) → DataW.TrodAll enc P W' 0 sp true f.params.toList args.toList (s.fn T (ds ++ [])).args p := fun sp hsp => by
    rw [List.append_nil, hsa]
    exact args_again hl hb hr hA hlt hsp
  have hvars : ∀ sp : Nat → Bool, DataW.TrodVars enc P W' sp s.vars (s.fn T (ds ++ [])).vars [] := fun sp => by
    rw [List.append_nil, hsv, hv]
    rfl
  have hok : ∀ (j : Nat) (t : TypeId) (r : Value), f.resultTypes[j]? = some t → ((Value.bool true).resultList f.resultTypes.size)[j]? = some r → Value.okWide P W' .any 0 t r := ok_one hrt rfl (okWide_bool_mk htb true)
  refine ⟨ds, [], p, [], p, [], hWW, hres _ _ _, hargs _ fun x hx => by simpa using hlt x hx, hvars _, hb.frame _, fun _ => ⟨hok, _, _, ([] ++ p) ++ [], ⟨[] ++ p, [], trodAll_append (hargs (fun _ => true) fun _ _ => rfl) (hres _ _ _), hvars (fun _ => true), rfl, ?_, ?_⟩, ?_⟩⟩
  · intro b off hp
    have hin : MemPlace.cell b off ∈ p := by simpa using hp
    rw [hb.frozen (hlt _ hin)]
    exact hfz b off hin
  · intro ha
    simpa using hnd ha
  · intro x hx _
    simpa using hx
end

def SzR (left : Int) (p : Prop) (H : GHeap) : Value → GHeap → Prop := fun v H' => H' = H ∧ ∃ l, v = .int .i64 l ∧ -1 ≤ l ∧ l ≤ left ∧ (0 ≤ l → p)
theorem SzR.of {P : Program} {f : FuncId} {args : List Value} {H : GHeap} {left : Int} {p : Prop} (h : GCalls P f args H fun v H' => H.Le H' ∧ ∃ l, v = .int .i64 l ∧ -1 ≤ l ∧ l ≤ left ∧ (0 ≤ l → p)) : GCalls P f args H (SzR left p H) :=
  (GCalls.quiet (φ := fun v => ∃ l, v = .int .i64 l ∧ -1 ≤ l ∧ l ≤ left ∧ (0 ≤ l → p)) (h.mono fun _ _ ⟨h1, l, h2, h3⟩ => ⟨⟨l, h2, h3⟩, by rw [h2]; rfl, h1⟩)).mono fun _ _ ⟨h1, h2⟩ => ⟨h2, h1⟩

theorem eq_of_getD {xs ys : List Int} (hl : ys.length = xs.length) (h : ∀ i, i < xs.length → ys.getD i 0 = xs.getD i 0) : ys = xs := by
  apply List.ext_getElem hl
  intro i h1 h2
  have := h i h2
  simpa [List.getD_eq_getElem?_getD, h1, h2] using this
theorem ints_set (ys : List Int) (i : Nat) (v : Int) : (ints ys).set i (.int .i64 v) = ints (ys.set i v) := by simp [ints, List.map_set]
theorem getD_set {ys : List Int} {k i : Nat} {v : Int} (hk : k < ys.length) : (ys.set k v).getD i 0 = if i = k then v else ys.getD i 0 := by
  simp only [List.getD_eq_getElem?_getD, List.getElem?_set]
  by_cases e : k = i
  · subst e; simp [hk]
  · simp [e, Ne.symm e]
theorem SlA.of_row {H : GHeap} {g n : Nat} {cs : List Value} {e : TypeId} {own : Bool} (h : H.get g = some (.row cs e own)) (hn : cs.length = n) : SlA H (some ⟨g, 0, none⟩) n (fun i => cs.getD i (.bool false)) := by
  subst hn
  exact .inr ⟨g, 0, rfl, fun i hi => by rw [GHeap.cell_of h, Nat.zero_add]; simp [List.getD_eq_getElem?_getD, hi]⟩

def Keep (b : Nat) (H H' : GHeap) : Prop := ∀ g o, b ≤ g → H.get g = some o → H'.get g = some o
theorem Keep.of_le {b : Nat} {H H' : GHeap} (h : H.Le H') : Keep b H H' := fun g o _ => h.2 g o
theorem Keep.set {b g : Nat} {H : GHeap} {o : Option GObj} (h : g < b) : Keep b H (H.set g o) := fun k x hk hx => by
  rw [GHeap.get_set_ne (by omega)]; exact hx
def IntsAt (b : Nat) (H : GHeap) (a : Option Addr) (xs : List Int) : Prop := ∃ g e, a = some ⟨g, 0, none⟩ ∧ b ≤ g ∧ H.get g = some (.row (ints xs) e true)
def IntssAt (b : Nat) (H : GHeap) (a : Option Addr) (xss : List (List Int)) (r : Nat → Option Addr) : Prop :=
  ∃ g e cs, a = some ⟨g, 0, none⟩ ∧ b ≤ g ∧ H.get g = some (.row cs e true) ∧ cs.length = xss.length ∧ (∀ i, i < xss.length → cs[i]? = some (.slice (r i) (xss.getD i []).length (xss.getD i []).length)) ∧ ∀ i, i < xss.length → IntsAt b H (r i) (xss.getD i [])
theorem IntsAt.keep {b b' : Nat} {H H' : GHeap} {a : Option Addr} {xs : List Int} (h : IntsAt b H a xs) (hk : Keep b' H H') (hb : b' ≤ b) : IntsAt b' H' a xs :=
  let ⟨g, e, h1, h2, h3⟩ := h; ⟨g, e, h1, by omega, hk g _ (by omega) h3⟩
theorem IntssAt.keep {b b' : Nat} {H H' : GHeap} {a : Option Addr} {xss : List (List Int)} {r : Nat → Option Addr} (h : IntssAt b H a xss r) (hk : Keep b' H H') (hb : b' ≤ b) : IntssAt b' H' a xss r :=
  let ⟨g, e, cs, h1, h2, h3, h4, h5, h6⟩ := h; ⟨g, e, cs, h1, by omega, hk g _ (by omega) h3, h4, h5, fun i hi => (h6 i hi).keep hk hb⟩
theorem IntsAt.ints {b : Nat} {H : GHeap} {a : Option Addr} {xs : List Int} (h : IntsAt b H a xs) : Ints H a xs := by
  obtain ⟨g, e, rfl, _, h3⟩ := h
  exact Ints.of_get h3
theorem IntssAt.intss {b : Nat} {H : GHeap} {a : Option Addr} {xss : List (List Int)} {r : Nat → Option Addr} (h : IntssAt b H a xss r) : Intss H a xss r := by
  obtain ⟨g, e, cs, rfl, _, h3, h4, h5, h6⟩ := h
  exact ⟨.inr ⟨g, 0, rfl, fun i hi => by rw [GHeap.cell_of h3, Nat.zero_add]; exact h5 i hi⟩, fun i hi => (h6 i hi).ints⟩
def CatAt (b : Nat) (H : GHeap) (c : Cat) (p : CatP) : Prop := IntsAt b H p.a1 c.src ∧ IntsAt b H p.a2 c.tgt ∧ IntsAt b H p.a3 c.idn ∧ IntssAt b H p.a4 c.comp p.r
theorem CatAt.keep {b b' : Nat} {H H' : GHeap} {c : Cat} {p : CatP} (h : CatAt b H c p) (hk : Keep b' H H') (hb : b' ≤ b) : CatAt b' H' c p := ⟨h.1.keep hk hb, h.2.1.keep hk hb, h.2.2.1.keep hk hb, h.2.2.2.keep hk hb⟩
theorem CatAt.inn {b : Nat} {H : GHeap} {c : Cat} {p : CatP} (h : CatAt b H c p) : c.In H p := ⟨h.1.ints, h.2.1.ints, h.2.2.1.ints, h.2.2.2.intss⟩
def FunAt (b : Nat) (H : GHeap) (f : Fun) (p : FunP) : Prop := CatAt b H f.s p.s ∧ CatAt b H f.t p.t ∧ IntsAt b H p.b1 f.ob ∧ IntsAt b H p.b2 f.ar
theorem FunAt.keep {b b' : Nat} {H H' : GHeap} {c : Fun} {p : FunP} (h : FunAt b H c p) (hk : Keep b' H H') (hb : b' ≤ b) : FunAt b' H' c p := ⟨h.1.keep hk hb, h.2.1.keep hk hb, h.2.2.1.keep hk hb, h.2.2.2.keep hk hb⟩
theorem FunAt.inn {b : Nat} {H : GHeap} {c : Fun} {p : FunP} (h : FunAt b H c p) : c.In H p := ⟨h.1.inn, h.2.1.inn, h.2.2.1.ints, h.2.2.2.ints⟩
def TraAt (b : Nat) (H : GHeap) (m : Tra) (p : TraP) : Prop := FunAt b H m.s p.s ∧ FunAt b H m.t p.t ∧ IntsAt b H p.d m.co
theorem TraAt.keep {b b' : Nat} {H H' : GHeap} {c : Tra} {p : TraP} (h : TraAt b H c p) (hk : Keep b' H H') (hb : b' ≤ b) : TraAt b' H' c p := ⟨h.1.keep hk hb, h.2.1.keep hk hb, h.2.2.keep hk hb⟩
theorem TraAt.inn {b : Nat} {H : GHeap} {c : Tra} {p : TraP} (h : TraAt b H c p) : c.In H p := ⟨h.1.inn, h.2.1.inn, h.2.2.ints⟩
structure Bld (H0 : GHeap) (b g2 g3 : Nat) (t : TypeId) (z cs : List Value) (H : GHeap) : Prop where
  le : H0.Le H
  a2 : H0.next ≤ g2
  l2 : g2 < b
  a3 : H0.next ≤ g3
  l3 : g3 < b
  ne : g2 ≠ g3
  res : H.get g2 = some (.row z t true)
  own : H.get g3 = some (.row cs t true)
  bn : b ≤ H.next
theorem Bld.start (H0 : GHeap) (t : TypeId) (z : List Value) : Bld H0 ((H0.push (.row z t true)).next + 1) H0.next (H0.push (.row z t true)).next t z z ((H0.push (.row z t true)).push (.row z t true)) where
  le := (GHeap.le_push _ _).trans (GHeap.le_push _ _)
  a2 := Nat.le_refl _
  l2 := by simp; omega
  a3 := by simp
  l3 := by omega
  ne := by simp
  res := (GHeap.le_push _ _).2 _ _ (GHeap.get_push_new _ _)
  own := GHeap.get_push_new _ _
  bn := by simp
theorem Bld.call {H0 H H' : GHeap} {b g2 g3 : Nat} {t : TypeId} {z cs : List Value} (B : Bld H0 b g2 g3 t z cs H) (h : H.Le H') : Bld H0 b g2 g3 t z cs H' :=
  ⟨B.le.trans h, B.a2, B.l2, B.a3, B.l3, B.ne, h.2 _ _ B.res, h.2 _ _ B.own, Nat.le_trans B.bn h.1⟩
theorem Bld.store {H0 H : GHeap} {b g2 g3 : Nat} {t : TypeId} {z cs : List Value} (B : Bld H0 b g2 g3 t z cs H) (cs' : List Value) : Bld H0 b g2 g3 t z cs' (H.set g3 (some (.row cs' t true))) ∧ Keep b H (H.set g3 (some (.row cs' t true))) :=
  ⟨⟨B.le.set_new B.a3, B.a2, B.l2, B.a3, B.l3, B.ne, by rw [GHeap.get_set_ne (Ne.symm B.ne)]; exact B.res, GHeap.get_set_eq (GHeap.ltg B.own), by rw [GHeap.next_set]; exact B.bn⟩, .set B.l3⟩
theorem Bld.done {H0 H : GHeap} {b g2 g3 : Nat} {t : TypeId} {z cs : List Value} (B : Bld H0 b g2 g3 t z cs H) (o : Option GObj) : H0.Le (H.set g2 o) ∧ Keep b H (H.set g2 o) := ⟨B.le.set_new B.a2, .set B.l2⟩
theorem NewInts.at {H H' : GHeap} {e : TypeId} {xs : List Int} {g : Nat} (h : H'.get g = some (.row (ints xs) e true)) (hg : H.next ≤ g) : IntsAt H.next H' (some ⟨g, 0, none⟩) xs := ⟨g, e, rfl, hg, h⟩

theorem setAll_gen (vs : List Value) : ∀ (pre a rest : List Value), a.length = vs.length → setAll (pre ++ (a ++ rest)) pre.length vs = pre ++ (vs ++ rest) := by
  induction vs with
  | nil => intro pre a rest h; obtain rfl := List.length_eq_zero_iff.1 (by simpa using h); rfl
  | cons v vs ih =>
    intro pre a rest h
    match a, h with
    | x :: a, h =>
      have e : (pre ++ (x :: a ++ rest)).set pre.length v = (pre ++ [v]) ++ (a ++ rest) := by simp [List.set_append]
      have := ih (pre ++ [v]) a rest (by simpa using h)
      rw [List.length_append] at this
      unfold setAll
      rw [e]
      simpa using this
theorem setAll_all (a vs : List Value) (h : a.length = vs.length) : setAll a 0 vs = vs := by
  have := setAll_gen vs [] a [] h
  simpa using this

end Go.GL
namespace Go.Proofs.Ytolfggcanbpknaa
open Go Go.GL Go.RowKit Go.Proofs
end Go.Proofs.Ytolfggcanbpknaa
namespace Go.Proofs.Ytolfggcanbpknaa
open Go Go.GL Go.RowKit Go.Proofs
theorem l01Same_c {a b : Option Addr} {xs ys : List Int} {H : GHeap} (h : Ints H a xs := by assumption) (h' : Ints H b ys := by assumption) (hx : xs.length ≤ 1048576 := by omega) (hy : ys.length ≤ 1048576 := by omega) :
    GCalls Try.prog 127 [.slice a xs.length xs.length, .slice b ys.length ys.length] H (Ret (.bool (decide (xs = ys))) H) := by
  refine GCalls.body (N := 26) (rs := [.tmp 4]) Try.func127 rfl rfl rfl rfl (fun Qx hret hend => ?_)
  refine .fg [0, 1] rfl ?_
  refine .seq (fun K1 hK1 => .region (.mv rfl (.nil (hK1 _ _ (.seq (fun K2 hK2 => .seq (fun K3 hK3 => .region (.mv rfl (.q rfl (.len sl_24_A rfl) (.mv rfl (.q rfl (.len sl_24_A rfl) (.q rfl (.cmp rfl rfl rfl) (.nil (hK3 _ _ ?_))))))))))))))
  refine .cond rfl (fun h10 => ?_) (fun h10 => ?_)
  ·
   try simp only [sps] at h10
   refine .seq (fun K4 hK4 => .region (.mv rfl (.nil (hK4 _ _ ?_))))
   refine .ret ?_
   refine hret _ _ ?_
   refine ⟨_, rfl, ?_⟩
   exact .of (congrArg _ (decide_eq_false fun e => by subst e; first | omega | simp_all))
  try simp only [sps] at h10
  refine .skip ?_
  refine hK2 _ _ (.seq (fun K5 hK5 => .seq (fun K6 hK6 => .region (.mv rfl (.nil (hK6 _ _ ?_))))))
  refine .block ?_
  refine .loopR (σ := Nat) [(0, some _), (1, some _)] (fun k => [(5, some (.int .i64 (k : Int)))]) (fun k H' => H = H' ∧ k ≤ xs.length ∧ ∀ i, i < k → xs.getD i 0 = ys.getD i 0) (fun k => xs.length - k) (0) ⟨rfl, rfl, trivial⟩ ⟨rfl, trivial⟩ ?_ ?_
  ·
   refine ⟨rfl, ?_⟩
   exact ⟨by omega, fun i hi => by omega⟩
  rintro k _ ⟨rfl, hI⟩ KL1 hKL1
  refine .forget (fr' := [(5, some (.int .i64 (k : Int))), (0, some _), (1, some _)]) ⟨rfl, rfl, rfl, trivial⟩ ?_
  obtain ⟨hk, hall⟩ := hI
  refine .seq (fun K7 hK7 => .seq (fun K8 hK8 => .region (.mv rfl (.mv rfl (.q rfl (.len sl_24_A rfl) (.q rfl (.cmp rfl rfl rfl) (.nil (hK8 _ _ ?_))))))))
  refine .cond rfl (fun h14 => ?_) (fun h14 => ?_)
  ·
   try simp only [sps] at h14
   refine .skip ?_
   refine hK7 _ _ (.seq (fun K9 hK9 => ?_))
   refine .block ?_
   refine .seq (fun K10 hK10 => ?_)
   refine .regionD mo_B (.q 0 (.q 1 (.q 2 (.q 3 (.q 4 (.q 5 (.q 6 (.q 7 (.q 8 (.done)))))))))) (by kernel_rfl) ?_
   refine .mv rfl rfl (.mv rfl rfl ?_)
   refine .q rfl (.idxN sl_24_A (by assumption) rfl rfl (by omega)) ?_
   refine .q rfl (.loadI on_2_A (by assumption) rfl (by omega)) ?_
   refine .mv rfl rfl (.mv rfl rfl ?_)
   refine .q rfl (.idxN sl_24_A (by assumption) rfl rfl (by omega)) ?_
   refine .q rfl (.loadI on_2_A (by assumption) rfl (by omega)) ?_
   refine .q rfl (.cmp rfl rfl rfl) ?_
   refine .done ?_
   refine hK10 _ _ ?_
   refine .cond rfl (fun h25 => ?_) (fun h25 => ?_)
   ·
    try simp only [sps] at h25
    refine .seq (fun K11 hK11 => .region (.mv rfl (.nil (hK11 _ _ ?_))))
    refine .ret ?_
    refine hret _ _ ?_
    refine ⟨_, rfl, ?_⟩
    exact .of (congrArg _ (decide_eq_false fun e => by subst e; first | omega | simp_all))
   try simp only [sps] at h25
   refine .skip ?_
   refine hK9 _ _ (.region (.mv rfl ?_))
   refine .q rfl (.add rfl rfl rfl (by omega) (by omega)) ?_
   refine .mv rfl (.nil ?_)
   refine hKL1 (k + 1) _ _ ?_ ?_ ⟨rfl, rfl, rfl, trivial⟩
   ·
    refine ⟨rfl, ?_⟩
    refine ⟨by omega, fun i hi => ?_⟩
    by_cases e : i < k
    · exact hall i e
    · obtain rfl : i = k := by omega
      assumption
   omega
  try simp only [sps] at h14
  refine .exit ?_
  refine hK5 _ _ (.seq (fun K12 hK12 => .region (.mv rfl (.nil (hK12 _ _ ?_)))))
  refine .ret ?_
  refine hret _ _ ?_
  refine ⟨_, rfl, ?_⟩
  exact .of (congrArg _ (decide_eq_true (eq_of_getD (by omega) fun i hi => hall i (by omega))))
end Go.Proofs.Ytolfggcanbpknaa
namespace Go.GL

abbrev Fun.A (f : Fun) (a : Int) : Int := f.ar.getD a.toNat 0
structure Fun.Fits (f : Fun) : Prop where
  ol : (f.ob.length : Int) = f.s.obj
  al : f.ar.length = f.s.src.length
  ob : ∀ i, i < f.ob.length → 0 ≤ f.ob.getD i 0 ∧ f.ob.getD i 0 < f.t.obj
  ar : ∀ i, i < f.ar.length → 0 ≤ f.ar.getD i 0 ∧ f.ar.getD i 0 < f.t.src.length
  ends : ∀ a, a < f.ar.length → f.t.src.getD (f.ar.getD a 0).toNat 0 = f.ob.getD (f.s.src.getD a 0).toNat 0 ∧ f.t.tgt.getD (f.ar.getD a 0).toNat 0 = f.ob.getD (f.s.tgt.getD a 0).toNat 0
  ids : ∀ x, x < f.s.idn.length → f.ar.getD (f.s.idn.getD x 0).toNat 0 = f.t.idn.getD (f.ob.getD x 0).toNat 0
  th : ∀ a, a < f.s.src.length → ∀ b, b < f.s.src.length → f.s.tgt.getD a 0 = f.s.src.getD b 0 → f.A (f.s.th a b) = f.t.th (f.ar.getD a 0) (f.ar.getD b 0)
def Fun.Is (f : Fun) : Prop := f.s.Is ∧ f.t.Is ∧ f.Fits

def Tra.Sq (m : Tra) (a : Nat) : Prop := m.s.t.th (m.s.ar.getD a 0) (m.co.getD (m.s.s.tgt.getD a 0).toNat 0) = m.s.t.th (m.co.getD (m.s.s.src.getD a 0).toNat 0) (m.t.ar.getD a 0)
structure Tra.Shape (m : Tra) : Prop where
  s : m.s.Is
  t : m.t.Is
  ps : m.s.s = m.t.s
  pt : m.s.t = m.t.t
  cl : (m.co.length : Int) = m.s.s.obj
  co : ∀ i, i < m.co.length → 0 ≤ m.co.getD i 0 ∧ m.co.getD i 0 < m.s.t.src.length
  ends : ∀ x, x < m.co.length → m.s.t.src.getD (m.co.getD x 0).toNat 0 = m.s.ob.getD x 0 ∧ m.s.t.tgt.getD (m.co.getD x 0).toNat 0 = m.t.ob.getD x 0
def Tra.Is (m : Tra) : Prop := m.Shape ∧ ∀ a, a < m.s.ar.length → m.Sq a
noncomputable def Tra.first (m : Tra) : Int := match firstN m.s.ar.length (fun a => !B (m.Sq a)) with | some a => (a : Int) | none => -1
theorem Sub.over {k : Nat} {v : Option Value} : ∀ {rest fr : Slots}, Sub rest fr → rest.all (fun p => p.1 != k) = true → Sub rest ((k, v) :: fr)
  | [], _, _, _ => trivial
  | (t, some u) :: r, fr, h, hk => by
    simp only [List.all_cons, Bool.and_eq_true, bne_iff_ne, ne_eq] at hk
    exact ⟨by rw [get_cons, if_neg (Ne.symm hk.1)]; exact h.1, h.2.over hk.2⟩
  | (t, none) :: r, fr, h, hk => by
    simp only [List.all_cons, Bool.and_eq_true] at hk
    exact Sub.over (rest := r) h hk.2

section
variable {P : Program} {N : Nat} {ops : Array Oper} {Q : Slots → GHeap → Prop} {fr : Slots} {H Hb : GHeap}
theorem GTree.two {a b s u : Nat} {oa ob os ou : Oper} {da db tx ty : Tmp} {e : TypeId} {z : List Value} {n : Nat} {vs ws : Array Value} (rest : Slots)
    (ha : ops[a]? = some oa) (hb : ops[b]? = some ob) (hs : ops[s]? = some os) (hu : ops[u]? = some ou) (hda : oa.dst = some da) (hdb : ob.dst = some db) (hNa : Nat.blt da N = true) (hNb : Nat.blt db N = true)
    (ga : oa.guard = none) (gb : ob.guard = none) (gs : os.guard = none) (gu : ou.guard = none) (hds : os.dst = none) (hdu : ou.dst = none)
    (oa' : oa.op = .alloc e) (ob' : ob.op = .alloc e) (os' : os.op = .store e (.tmp da) (.tmp tx)) (ou' : ou.op = .store e (.tmp db) (.tmp ty))
    (hz : zeroT P e = some (z, n)) (hfl : z.all flat1 = true) (hsz : (P.info? e).map (·.size) = some n) (hzl : z.length = n)
    (hx : fr.get tx = some (.agg vs)) (hy : fr.get ty = some (.agg ws)) (hvn : vs.size = n) (hwn : ws.size = n) (hv1 : vs.toList.all (·.oneCell') = true) (hw1 : ws.toList.all (·.oneCell') = true)
    (hne : (da != db) = true) (hxa : (tx != da) = true) (hxb : (tx != db) = true) (hya : (ty != da) = true) (hyb : (ty != db) = true)
    (hr : Sub rest fr) (hra : rest.all (fun p => p.1 != da) = true) (hrb : rest.all (fun p => p.1 != db) = true)
    (hle0 : Hb.Le H) (h : ∀ g g' H' fr', H.Le H' → H.next ≤ g → H.next ≤ g' → H'.get g = some (.row vs.toList e true) → H'.get g' = some (.row ws.toList e true) →
      Sub ((da, some (.pointer (some ⟨g, 0, none⟩))) :: (db, some (.pointer (some ⟨g', 0, none⟩))) :: rest) fr' → Q fr' H') :
    GTree P N ops Q (.or (.c a 1 (.c b 1 (.c s 1 (.c u 0 .done)))) (.c b 1 (.c a 1 (.c s 1 (.c u 0 .done))))) fr Hb H := by
  simp only [bne_iff_ne, ne_eq] at hne hxa hxb hya hyb
  have n1 := GHeap.next_push H (.row z e true)
  have l1 := GHeap.le_push H (.row z e true)
  have p1 := GHeap.get_push_new H (.row z e true)
  have n2 := GHeap.next_push (H.push (.row z e true)) (.row z e true)
  have l2 := GHeap.le_push (H.push (.row z e true)) (.row z e true)
  have p2 := GHeap.get_push_new (H.push (.row z e true)) (.row z e true)
  have p1' := l2.2 _ _ p1
  have sv : setAll z 0 vs.toList = vs.toList := setAll_all _ _ (by simp [hzl, hvn])
  have sw : setAll z 0 ws.toList = ws.toList := setAll_all _ _ (by simp [hzl, hwn])
  have le := l1.trans l2
  generalize hK : H.push (.row z e true) = H1 at *
  generalize hK2 : H1.push (.row z e true) = H2 at *
  have q1 := GHeap.ltg p1'
  have q2 := GHeap.ltg p2
  unfold GTree
  refine ⟨?_, ?_⟩
  · refine .d1 ha hda hNa ga (.alloc oa' hz hfl CIs.mk) (by rw [hK]; exact hle0.trans l1) ?_
    rw [hK]
    refine .d1 hb hdb hNb gb (.alloc ob' hz hfl CIs.mk) (by rw [hK2]; exact hle0.trans le) ?_
    rw [hK2]
    refine .s1 hs hds gs (.storeN (g := H.next) (off := 0) os' hsz (by show Slots.get _ da = _; rw [get_cons, if_neg (Ne.symm hne), get_cons, if_pos rfl]) (by show Slots.get _ tx = _; rw [get_cons, if_neg (Ne.symm hxb), get_cons, if_neg (Ne.symm hxa)]; exact hx) hvn hv1 p1' (by omega) CIs.mk) ((hle0.trans le).set_new hle0.1) ?_
    rw [sv]
    refine .s0 hu hdu gu (.storeN (g := H1.next) (off := 0) ou' hsz (by show Slots.get _ db = _; rw [get_cons, if_pos rfl]) (by show Slots.get _ ty = _; rw [get_cons, if_neg (Ne.symm hyb), get_cons, if_neg (Ne.symm hya)]; exact hy) hwn hw1 (by rw [GHeap.get_set_ne (by omega)]; exact p2) (by omega) CIs.mk) ?_
    rw [sw]
    refine GTree.done (h _ _ _ _ ((le.set_new (Nat.le_refl _)).set_new (by omega)) (Nat.le_refl _) (by omega) (by rw [GHeap.get_set_ne (by omega)]; exact GHeap.get_set_eq q1) (GHeap.get_set_eq (by simpa using q2)) ⟨?_, ?_, ?_⟩)
    · rw [get_cons, if_neg (Ne.symm hne), get_cons, if_pos rfl]
    · rw [get_cons, if_pos rfl]
    · exact (hr.over hra).over hrb
  · refine .d1 hb hdb hNb gb (.alloc ob' hz hfl CIs.mk) (by rw [hK]; exact hle0.trans l1) ?_
    rw [hK]
    refine .d1 ha hda hNa ga (.alloc oa' hz hfl CIs.mk) (by rw [hK2]; exact hle0.trans le) ?_
    rw [hK2]
    refine .s1 hs hds gs (.storeN (g := H1.next) (off := 0) os' hsz (by show Slots.get _ da = _; rw [get_cons, if_pos rfl]) (by show Slots.get _ tx = _; rw [get_cons, if_neg (Ne.symm hxa), get_cons, if_neg (Ne.symm hxb)]; exact hx) hvn hv1 p2 (by omega) CIs.mk) ((hle0.trans le).set_new (by have := hle0.1; omega)) ?_
    rw [sv]
    refine .s0 hu hdu gu (.storeN (g := H.next) (off := 0) ou' hsz (by show Slots.get _ db = _; rw [get_cons, if_neg hne, get_cons, if_pos rfl]) (by show Slots.get _ ty = _; rw [get_cons, if_neg (Ne.symm hya), get_cons, if_neg (Ne.symm hyb)]; exact hy) hwn hw1 (by rw [GHeap.get_set_ne (by omega)]; exact p1') (by omega) CIs.mk) ?_
    rw [sw]
    refine GTree.done (h H1.next H.next _ _ ((le.set_new (by omega)).set_new (Nat.le_refl _)) (by omega) (Nat.le_refl _) (by rw [GHeap.get_set_ne (by omega)]; exact GHeap.get_set_eq q2) (GHeap.get_set_eq (by simpa using q1)) ⟨?_, ?_, ?_⟩)
    · rw [get_cons, if_pos rfl]
    · rw [get_cons, if_neg hne, get_cons, if_pos rfl]
    · exact (hr.over hrb).over hra
end
end Go.GL
namespace Go.Proofs.Ytolfggcanbpknaa
open Go Go.GL Go.RowKit Go.Proofs
end Go.Proofs.Ytolfggcanbpknaa
namespace Go.Proofs.Ytolfggcanbpknaa
open Go Go.GL Go.RowKit Go.Proofs
end Go.Proofs.Ytolfggcanbpknaa
namespace Go.Proofs.Ytolfggcanbpknaa
open Go Go.GL Go.RowKit Go.Proofs
end Go.Proofs.Ytolfggcanbpknaa
namespace Go.GL
open Go.RowKit

def out : List Nat → Nat → Prop
  | [], _ => True
  | g :: r, k => k ≠ g ∧ out r k
structure St (bs : List Nat) (H H' : GHeap) : Prop where
  nx : H.next ≤ H'.next
  same : ∀ k o, out bs k → H.get k = some o → H'.get k = some o
theorem St.refl (bs : List Nat) (H : GHeap) : St bs H H := ⟨Nat.le_refl _, fun _ _ _ h => h⟩
theorem GHeap.Le.st {H0 H H' : GHeap} {bs : List Nat} (h : H0.Le H) (s : St bs H H') (hg : ∀ k, k < H0.next → out bs k) : H0.Le H' :=
  ⟨Nat.le_trans h.1 s.nx, fun k o hk => s.same k o (hg k (GHeap.ltg hk)) (h.2 k o hk)⟩
theorem St.le {bs : List Nat} {H0 H H' : GHeap} (s : St bs H0 H) (h : H.Le H') : St bs H0 H' := ⟨Nat.le_trans s.nx h.1, fun k o hk hg => h.2 k o (s.same k o hk hg)⟩
theorem St.st {bs cs : List Nat} {H0 H H' : GHeap} (s : St bs H0 H) (h : St cs H H') (hg : ∀ k, k < H0.next → out bs k → out cs k) : St bs H0 H' :=
  ⟨Nat.le_trans s.nx h.nx, fun k o hk h1 => h.same k o (hg k (GHeap.ltg h1) hk) (s.same k o hk h1)⟩
theorem St.sA {bs cs : List Nat} {H0 H H' : GHeap} (s : St bs H0 H) (h : St cs H H') (hg : ∀ k, k < H0.next → out bs k → out cs k := by intro k hk ho; simp only [out, and_true] at ho ⊢ <;> first | exact ho | exact ho.1 | exact ho.2 | exact ho.2.1 | exact ho.2.2 | exact ho.2.2.1 | exact ho.2.2.2 | omega) : St bs H0 H' := s.st h hg
theorem St.s {g k : Nat} {H H' : GHeap} {o : GObj} (s : St [g] H H') (h : H.get k = some o) (hne : k ≠ g := by first | assumption | omega) : H'.get k = some o := s.same k o ⟨hne, trivial⟩ h
theorem St.of_le {bs : List Nat} {H H' : GHeap} (h : H.Le H') : St bs H H' := ⟨h.1, fun k o _ hg => h.2 k o hg⟩
theorem St.keep {bs : List Nat} {b : Nat} {H H' : GHeap} (s : St bs H H') (hg : ∀ k, b ≤ k → out bs k) : Keep b H H' := fun k o hk h => s.same k o (hg k hk) h
theorem Keep.le {b : Nat} {H0 H H' : GHeap} (k : Keep b H0 H) (h : H.Le H') : Keep b H0 H' := fun g o hb hg => h.2 g o (k g o hb hg)
theorem Keep.st {bs : List Nat} {b : Nat} {H0 H H' : GHeap} (k : Keep b H0 H) (h : St bs H H') (hg : ∀ k, b ≤ k → k < H0.next → out bs k) : Keep b H0 H' := fun g o hb h1 => h.same g o (hg g hb (GHeap.ltg h1)) (k g o hb h1)
theorem St.of_set {g : Nat} {H : GHeap} {o : Option GObj} : St [g] H (H.set g o) := ⟨by rw [GHeap.next_set]; exact Nat.le_refl _, fun k x hk h => by rw [GHeap.get_set_ne (Ne.symm hk.1)]; exact h⟩
theorem St.push {bs : List Nat} {H H' : GHeap} {o : GObj} (s : St bs H H') : St bs H (H'.push o) := ⟨by rw [GHeap.next_push]; have := s.nx; omega, fun k x hk h => GHeap.get_push_of (s.same k x hk h)⟩

section
variable {P : Program} {N : Nat} {ops : Array Oper} {Q : Slots → GHeap → Prop} {L : List (Oper × Nat)} {fr : Slots} {H Hb : GHeap} {o : Oper} {i : Nat} {t : Tree}
theorem CDo.mono {R R' : Option Value → GHeap → Prop} (h : CDo P o fr H R) (hi : ∀ v H', R v H' → R' v H') : CDo P o fr H R' :=
  .mk fun B w0 ρ a w hs hf next Qx hn => h.run B w0 ρ a w hs hf next Qx fun ρ' v c H' w' hR => hn ρ' v c H' w' (hi v H' hR)
theorem GTree.mono {Q' : Slots → GHeap → Prop} (hq : ∀ fr H, Q' fr H → Q fr H) : ∀ {t : Tree} {fr : Slots} {Hb H : GHeap}, GTree P N ops Q' t fr Hb H → GTree P N ops Q t fr Hb H
  | .done, _, _, _, h => hq _ _ h
  | .q i t, fr, Hb, H, h => by
    unfold GTree at h ⊢
    obtain ⟨o, h1, h2, h3⟩ := h
    refine ⟨o, h1, h2, ?_⟩
    split
    · rename_i hg
      rw [hg] at h3
      obtain ⟨v, Hq, k1, k2, k3, k4⟩ := h3
      exact ⟨v, Hq, k1, k2, k3, GTree.mono hq k4⟩
    · rename_i j want hg
      rw [hg] at h3
      obtain ⟨s, c, k1, k2, kg, k3, k4⟩ := h3
      exact ⟨s, c, k1, k2, kg, fun e => let ⟨v, Hq, l1, l2, l3, l4⟩ := k3 e; ⟨v, Hq, l1, l2, l3, GTree.mono hq l4⟩, fun e => GTree.mono hq (k4 e)⟩
  | .c i k t, fr, Hb, H, h => by
    unfold GTree at h ⊢
    obtain ⟨o, h1, h2, h3⟩ := h
    refine ⟨o, h1, h2, ?_⟩
    split
    · rename_i hg
      rw [hg] at h3
      exact h3.mono fun v H' ⟨l1, l2⟩ => ⟨l1, GTree.mono hq l2⟩
    · rename_i j want hg
      rw [hg] at h3
      obtain ⟨s, c, k1, k2, kg, k3, k4⟩ := h3
      exact ⟨s, c, k1, k2, kg, fun e => (k3 e).mono fun v H' ⟨l1, l2⟩ => ⟨l1, GTree.mono hq l2⟩, fun e => GTree.mono hq (k4 e)⟩
  | .or s t, fr, Hb, H, h => by
    unfold GTree at h ⊢
    exact ⟨GTree.mono hq h.1, GTree.mono hq h.2⟩
theorem GTree.cut (rest : Slots) (hr : Sub rest fr) (R : Slots → Slots → GHeap → Prop) (h : GTree P N ops (R rest) t fr Hb H) (hq : ∀ fr' H', R rest fr' H' → Q fr' H') : GTree P N ops Q t fr Hb H := h.mono hq
theorem GTree.mB {d : Tmp} {v : Value} (hi : ops[i]? = some o) (hd : o.dst = some d) (hN : Nat.blt d N = true) (hg : o.guard = none) (hle : Hb.Le H) (hm : MStep P fr Hb o.op v) (h : GTree P N ops Q t ((d, some v) :: fr) Hb H) : GTree P N ops Q (.q i t) fr Hb H := by
  unfold GTree
  refine ⟨o, hi, by unfold dstOk; rw [hd]; exact hN, ?_⟩
  rw [hg]
  exact ⟨v, Hb, .refl _, hle, hm, by rw [hd]; exact h⟩
theorem GTree.qB {d : Tmp} {v : Value} (h : stpT ops i N = some (o, d)) (hle : Hb.Le H) (hm : MStep P fr Hb o.op v) (hq : GTree P N ops Q t ((d, some v) :: fr) Hb H) : GTree P N ops Q (.q i t) fr Hb H := by
  obtain ⟨h0, h4⟩ := stpT.spec h
  obtain ⟨h1, h2, h3⟩ := stpR.spec h4
  exact .mB h0 h1 h2 h3 hle hm hq
theorem GTree.orI {s : Tree} (h : GTree P N ops Q s fr Hb H) (h' : GTree P N ops Q t fr Hb H) : GTree P N ops Q (.or s t) fr Hb H := by unfold GTree; exact ⟨h, h'⟩
theorem GRun.r {d : Tmp} {R : Option Value → GHeap → Prop} (hd : o.dst = some d) (hN : Nat.blt d N = true) (hg : o.guard = none) (hc : CDo P o fr H R) (h : ∀ v H', R v H' → GRun P N ops Q L ((d, v) :: fr) H') : GRun P N ops Q ((o, 0) :: L) fr H :=
  .c hd hN hg (by simp) hc fun v H' hR => ⟨fun e => (by cases e), h v H' hR⟩
theorem GRun.R {d : Tmp} {R : Option Value → GHeap → Prop} (h0 : stpR o N = some d) (hc : CDo P o fr H R) (h : ∀ v H', R v H' → GRun P N ops Q L ((d, v) :: fr) H') : GRun P N ops Q ((o, 0) :: L) fr H := by
  obtain ⟨h1, h2, h3⟩ := stpR.spec h0
  exact .r h1 h2 h3 hc h
theorem GRun.callVg {d s : Tmp} {f : FuncId} {x : Operand} {args : Array Operand} {ts : Array TypeId} {cap : Array Value} {vs : List Value} {R : Value → GHeap → Prop} {j : Nat} {want : Bool} (hd : o.dst = some d) (hN : Nat.blt d N = true) (hg : o.guard = some (j, want)) (hs : guardSlot ops j = some s) (hb : fr.get s = some (.bool want)) (ho : o.op = .call { callee := .value x, args := args, argTypes := ts }) (hx : ev fr x = some (.func (.func f) #[] cap))
    (hcall : ∀ (ax : Array Value) (w : World), (callFunc f ax).run P w = .ok (.enter f ax) w) (hv : evs fr args.toList = some vs) (hc : GCalls P f (vs ++ cap.toList) H R) (h : ∀ v H', R v H' → GRun P N ops Q L ((d, some v) :: fr) H') : GRun P N ops Q ((o, 0) :: L) fr H :=
  .cg hd hN hg hs hb (by simp) (R := fun ov X => ∃ v, ov = some v ∧ R v X) (.callV ho hx hcall hv hc fun v H' h => ⟨v, rfl, h⟩) fun _ H' ⟨v, h1, h2⟩ => by subst h1; exact ⟨fun e => (by cases e), h v H' h2⟩
theorem GRun.r0 {R : Option Value → GHeap → Prop} (hd : o.dst = none) (hg : o.guard = none) (hc : CDo P o fr H R) (h : ∀ v H', R v H' → GRun P N ops Q L fr H') : GRun P N ops Q ((o, 0) :: L) fr H :=
  .c0 hd hg (by simp) hc fun v H' hR => ⟨fun e => (by cases e), h v H' hR⟩
theorem GTree.r0 {R : Option Value → GHeap → Prop} (hi : ops[i]? = some o) (hd : o.dst = none) (hg : o.guard = none) (hc : CDo P o fr H R) (h : ∀ v H', R v H' → GTree P N ops Q t fr H' H') : GTree P N ops Q (.c i 0 t) fr Hb H := by
  unfold GTree
  refine ⟨o, hi, by unfold dstOk; rw [hd], ?_⟩
  rw [hg]
  refine .mk fun B w0 ρ a w hs hf next Qx hn => ?_
  exact hc.run B w0 ρ a w hs hf next Qx fun ρ' v c H' w' hR => hn ρ' v c H' w' ⟨fun e => (by cases e), by rw [hd, if_neg (by simp)]; exact h v H' hR⟩
theorem GTree.r1 {R : Option Value → GHeap → Prop} (hi : ops[i]? = some o) (hd : o.dst = none) (hg : o.guard = none) (hc : CDo P o fr H R) (h : ∀ v H', R v H' → Hb.Le H' ∧ GTree P N ops Q t fr Hb H') : GTree P N ops Q (.c i 1 t) fr Hb H := by
  unfold GTree
  refine ⟨o, hi, by unfold dstOk; rw [hd], ?_⟩
  rw [hg]
  refine .mk fun B w0 ρ a w hs hf next Qx hn => ?_
  exact hc.run B w0 ρ a w hs hf next Qx fun ρ' v c H' w' hR => hn ρ' v c H' w' ⟨fun _ => (h v H' hR).1, by rw [hd, if_pos rfl]; exact (h v H' hR).2⟩
end

section
variable {P : Program} {H : GHeap} {fr : Slots} {o : Oper}
theorem CDo.boxR {e : TypeId} {x : Operand} {v : Value} {n : Nat} (ho : o.op = .box e x) (he : (P.info? e).map (·.size) = some n) (hx : ev fr x = some v) :
    CDo P o fr H (fun r H' => ∃ g, r = some (.pointer (some ⟨g, 0, none⟩)) ∧ H.Le H' ∧ H.next ≤ g ∧ H'.get g = some (.row v.cells.toList e true)) :=
  .box ho he hx ⟨_, rfl, GHeap.le_push _ _, Nat.le_refl _, GHeap.get_push_new _ _⟩
theorem CDo.allocR {e : TypeId} {z : List Value} {n : Nat} (ho : o.op = .alloc e) (hz : zeroT P e = some (z, n)) (hfl : z.all flat1 = true) :
    CDo P o fr H (fun r H' => ∃ g, r = some (.pointer (some ⟨g, 0, none⟩)) ∧ H.Le H' ∧ H.next ≤ g ∧ H'.get g = some (.row z e true)) :=
  .alloc ho hz hfl ⟨_, rfl, GHeap.le_push _ _, Nat.le_refl _, GHeap.get_push_new _ _⟩
theorem CDo.litR {t e : TypeId} {len n : Nat} {parts : Array (Nat × Operand)} {z vs cs : List Value} (ho : o.op = .buildSlice t len parts) (ht : sliceT P t = some (e, n)) (hz : zeroT P e = some (z, n)) (hfl : z.all flat1 = true) (hzn : z.length = n) (h0 : 0 < n)
    (hsm : len * n ≤ 16777216) (hv : evs fr (parts.toList.map (·.2)) = some vs) (hc : fillL (fun i => some (i * n, n)) (madeL z (len * n)) ((parts.toList.map (·.1)).zip vs) = some cs) :
    CDo P o fr H (fun r H' => ∃ g, r = some (.slice (some ⟨g, 0, none⟩) len len) ∧ H.Le H' ∧ H.next ≤ g ∧ H'.get g = some (.row cs e true)) :=
  .buildSlice ho ht hz hfl hzn h0 hsm hv hc ⟨_, rfl, GHeap.le_push _ _, Nat.le_refl _, GHeap.get_push_new _ _⟩
theorem CDo.makeV {t e : TypeId} {x y : Operand} {k k' : IntKind} {j c : Int} {bytes : Nat} {z : Value} (ho : o.op = .makeSlice t x y) (ht : sliceT P t = some (e, 1)) (hz : zeroT P e = some ([z], 1)) (hb : (P.info? e).map (·.bytes) = some bytes)
    (hfl : [z].all flat1 = true) (hx : ev fr x = some (.int k j)) (hy : ev fr y = some (.int k' c)) (h0 : 0 ≤ j) (hlc : j ≤ c) (hsm : bytes * c ≤ 281474976710656) (hsc : c ≤ 9223372036854775807) :
    CDo P o fr H (fun r H' => ∃ g, r = some (.slice (some ⟨g, 0, none⟩) j.toNat j.toNat) ∧ H.Le H' ∧ H.next ≤ g ∧ H'.get g = some (.row (List.replicate j.toNat z) e true)) := by
  have e1 : (j.toNat : Int) = j := Int.toNat_of_nonneg h0
  have e2 : (c.toNat : Int) = c := Int.toNat_of_nonneg (by omega)
  have e3 : bytes * c.toNat ≤ 281474976710656 := by
    have : ((bytes * c.toNat : Nat) : Int) ≤ 281474976710656 := by rw [Int.natCast_mul, e2]; exact hsm
    omega
  refine .makeSlice (l := j.toNat) (c := c.toNat) ho ht hz hb hfl rfl (by omega) (by rw [e1]; exact hx) (by rw [e2]; exact hy) (by omega) e3 (by omega) ⟨_, rfl, GHeap.le_push _ _, Nat.le_refl _, ?_⟩
  rw [GHeap.get_push_new, madeL_one, Nat.mul_one]
theorem CDo.makeI {t e : TypeId} {x y : Operand} {k k' : IntKind} {j c : Int} {bytes : Nat} (ho : o.op = .makeSlice t x y) (ht : sliceT P t = some (e, 1)) (hz : zeroT P e = some ([.int .i64 0], 1)) (hb : (P.info? e).map (·.bytes) = some bytes)
    (hx : ev fr x = some (.int k j)) (hy : ev fr y = some (.int k' c)) (h0 : 0 ≤ j) (hlc : j ≤ c) (hsm : bytes * c ≤ 281474976710656) (hsc : c ≤ 9223372036854775807) :
    CDo P o fr H (fun r H' => ∃ g, r = some (.slice (some ⟨g, 0, none⟩) j.toNat j.toNat) ∧ H.Le H' ∧ H.next ≤ g ∧ H'.get g = some (.row (ints (List.replicate j.toNat 0)) e true)) := by
  have : ints (List.replicate j.toNat 0) = List.replicate j.toNat (Value.int .i64 0) := by simp [ints]
  rw [this]
  exact .makeV ho ht hz hb rfl hx hy h0 hlc hsm hsc
theorem CDo.storeR {t : TypeId} {x y : Operand} {g off : Nat} {v : Value} {cs : List Value} {e : TypeId} (ho : o.op = .store t x y) (ht : (P.info? t).map (·.size) = some 1) (hx : ev fr x = some (.pointer (some ⟨g, off, none⟩))) (hy : ev fr y = some v)
    (h1 : v.oneCell' = true) (hg : H.get g = some (.row cs e true)) (hoff : off < cs.length) :
    CDo P o fr H (fun r H' => r = none ∧ St [g] H H' ∧ H'.get g = some (.row (cs.set off v) e true)) :=
  .store ho ht hx hy h1 hg hoff ⟨rfl, .of_set, GHeap.get_set_eq (GHeap.ltg hg)⟩
theorem CDo.storeI {t : TypeId} {x y : Operand} {g off : Nat} {m : Int} {ys : List Int} {e : TypeId} (ho : o.op = .store t x y) (ht : (P.info? t).map (·.size) = some 1) (hx : ev fr x = some (.pointer (some ⟨g, off, none⟩))) (hy : ev fr y = some (.int .i64 m))
    (hg : H.get g = some (.row (ints ys) e true)) (hoff : off < ys.length) :
    CDo P o fr H (fun r H' => r = none ∧ St [g] H H' ∧ H'.get g = some (.row (ints (ys.set off m)) e true)) := by
  rw [← ints_set]; exact .storeR ho ht hx hy rfl hg (by simpa using hoff)
theorem CDo.storeNR {t : TypeId} {x y : Operand} {g off n : Nat} {vs : Array Value} {cs : List Value} {e : TypeId} (ho : o.op = .store t x y) (ht : (P.info? t).map (·.size) = some n) (hx : ev fr x = some (.pointer (some ⟨g, off, none⟩))) (hy : ev fr y = some (.agg vs))
    (hn : vs.size = n) (h1 : vs.toList.all (·.oneCell') = true) (hg : H.get g = some (.row cs e true)) (hoff : off + n ≤ cs.length) :
    CDo P o fr H (fun r H' => r = none ∧ St [g] H H' ∧ H'.get g = some (.row (setAll cs off vs.toList) e true)) :=
  .storeN ho ht hx hy hn h1 hg hoff ⟨rfl, .of_set, GHeap.get_set_eq (GHeap.ltg hg)⟩
theorem CDo.fillR {t : TypeId} {x y : Operand} {g n : Nat} {vs : Array Value} {cs : List Value} {e : TypeId} (ho : o.op = .store t x y) (ht : (P.info? t).map (·.size) = some n) (hx : ev fr x = some (.pointer (some ⟨g, 0, none⟩))) (hy : ev fr y = some (.agg vs))
    (hn : vs.size = n) (h1 : vs.toList.all (·.oneCell') = true) (hg : H.get g = some (.row cs e true)) (hoff : cs.length = n) :
    CDo P o fr H (fun r H' => r = none ∧ St [g] H H' ∧ H'.get g = some (.row vs.toList e true)) := by
  have : setAll cs 0 vs.toList = vs.toList := setAll_all _ _ (by simp [hoff, hn])
  have h := CDo.storeNR (P := P) (H := H) ho ht hx hy hn h1 hg (by omega)
  rw [this] at h
  exact h
theorem CDo.litA {t e : TypeId} {len n : Nat} {parts : Array (Nat × Operand)} {z vs cs : List Value} (ho : o.op = .buildSlice t len parts) (ht : sliceT P t = some (e, n)) (hz : zeroT P e = some (z, n)) (hfl : z.all flat1 = true) (hzn : z.length = n) (hv : evs fr (parts.toList.map (·.2)) = some vs) (hc : fillL (fun i => some (i * n, n)) (madeL z (len * n)) ((parts.toList.map (·.1)).zip vs) = some cs) (h0 : 0 < n := by omega)
    (hsm : len * n ≤ 16777216 := by omega) : CDo P o fr H (fun r H' => ∃ g, r = some (.slice (some ⟨g, 0, none⟩) len len) ∧ H.Le H' ∧ H.next ≤ g ∧ H'.get g = some (.row cs e true)) := .litR ho ht hz hfl hzn h0 hsm hv hc
theorem CDo.fillA {t : TypeId} {x y : Operand} {g n : Nat} {vs : Array Value} {cs : List Value} {e : TypeId} (ho : o.op = .store t x y) (ht : (P.info? t).map (·.size) = some n) (hx : ev fr x = some (.pointer (some ⟨g, 0, none⟩))) (hy : ev fr y = some (.agg vs))
    (hn : vs.size = n) (h1 : vs.toList.all (·.oneCell') = true) (hg : H.get g = some (.row cs e true) := by assumption) (hoff : cs.length = n := by first | rfl | exact Nat.le_of_ble_eq_true rfl | simp) :
    CDo P o fr H (fun r H' => r = none ∧ St [g] H H' ∧ H'.get g = some (.row vs.toList e true)) := .fillR ho ht hx hy hn h1 hg hoff
theorem CDo.appendR {t tx e : TypeId} {s x : Operand} {g off n m sz bytes : Nat} {z cs news : List Value} (ho : o.op = .call { callee := .builtin .append, args := #[s, x], argTypes := #[t, tx] }) (ht : sliceT P t = some (e, sz)) (hz : zeroT P e = some (z, sz)) (hzn : z.length = sz)
    (hb : (P.info? e).map (·.bytes) = some bytes) (hsv : ev fr s = some (.slice (some ⟨g, off, none⟩) n n)) (hg : H.get g = some (.row cs e true)) (hend : off + n * sz = cs.length) (hsrc : SrcG P fr H sz tx x m news)
    (hN : n + m ≤ 16777216) (hB : (n + m) * bytes ≤ 140737488355328) :
    CDo P o fr H (fun r H' => ∃ g', r = some (.slice (some ⟨g', 0, none⟩) (n + m) (n + m)) ∧ St [g] H H' ∧ H.next ≤ g' ∧ H'.get g' = some (.row (cs.drop off ++ news) e true)) :=
  .append ho ht hz hzn hb hsv hg hend hsrc (by unfold maxLen; omega) hB ⟨_, rfl, .push .of_set, Nat.le_refl _, by have := GHeap.get_push_new (H.set g none) (.row (cs.drop off ++ news) e true); rwa [GHeap.next_set] at this⟩
theorem CDo.appendV {t tx e e' : TypeId} {s x : Operand} {g g1 n sz bytes : Nat} {z cs vs : List Value} (ho : o.op = .call { callee := .builtin .append, args := #[s, x], argTypes := #[t, tx] }) (ht : sliceT P t = some (e, sz)) (hz : zeroT P e = some (z, sz)) (hzn : z.length = sz)
    (hb : (P.info? e).map (·.bytes) = some bytes) (htx : sliceT P tx = some (e', sz)) (hsv : ev fr s = some (.slice (some ⟨g, 0, none⟩) n n)) (hx : ev fr x = some (.slice (some ⟨g1, 0, none⟩) 1 1)) (hg : H.get g = some (.row cs e true)) (hg1 : H.get g1 = some (.row vs e' true)) (hend : n * sz = cs.length)
    (hv : vs.length = sz) (hone : vs.all (·.oneCell') = true) (hN : n + 1 ≤ 16777216) (hB : (n + 1) * bytes ≤ 140737488355328) :
    CDo P o fr H (fun r H' => ∃ g', r = some (.slice (some ⟨g', 0, none⟩) (n + 1) (n + 1)) ∧ St [g] H H' ∧ H.next ≤ g' ∧ H'.get g' = some (.row (cs ++ vs) e true)) :=
  .appendR (cs := cs) (news := vs) ho ht hz hzn hb hsv hg (by omega) (.slice htx hx (by omega) (fun i v hv => by rw [GHeap.cell_of hg1, Nat.zero_add]; exact hv) (fun v hv => List.all_eq_true.1 hone v hv)) hN hB
theorem CDo.appendI {t tx e e' : TypeId} {s x : Operand} {g g1 n bytes : Nat} {z : List Value} {ys : List Int} {m : Int} (ho : o.op = .call { callee := .builtin .append, args := #[s, x], argTypes := #[t, tx] }) (ht : sliceT P t = some (e, 1)) (hz : zeroT P e = some (z, 1)) (hzn : z.length = 1)
    (hb : (P.info? e).map (·.bytes) = some bytes) (htx : sliceT P tx = some (e', 1)) (hsv : ev fr s = some (.slice (some ⟨g, 0, none⟩) n n)) (hx : ev fr x = some (.slice (some ⟨g1, 0, none⟩) 1 1)) (hg : H.get g = some (.row (ints ys) e true)) (hg1 : H.get g1 = some (.row [.int .i64 m] e' true)) (hend : n = ys.length)
    (hN : n + 1 ≤ 16777216) (hB : (n + 1) * bytes ≤ 140737488355328) :
    CDo P o fr H (fun r H' => ∃ g', r = some (.slice (some ⟨g', 0, none⟩) (n + 1) (n + 1)) ∧ St [g] H H' ∧ H.next ≤ g' ∧ H'.get g' = some (.row (ints (ys ++ [m])) e true)) := by
  have e1 : ints (ys ++ [m]) = ints ys ++ [.int .i64 m] := by simp [ints]
  rw [e1]
  exact .appendV ho ht hz hzn hb htx hsv hx hg hg1 (by simp; omega) rfl rfl hN hB
end

def filtN (n : Nat) (p : Nat → Bool) : List Int := ((List.range n).filter p).map fun (i : Nat) => (i : Int)
theorem filtN_T {n : Nat} {p : Nat → Bool} (h : p n = true) : filtN (n + 1) p = filtN n p ++ [(n : Int)] := by simp [filtN, List.range_succ, h]
theorem filtN_F {n : Nat} {p : Nat → Bool} (h : p n = false) : filtN (n + 1) p = filtN n p := by simp [filtN, List.range_succ, h]
theorem filtN_le (n : Nat) (p : Nat → Bool) : (filtN n p).length ≤ n := by
  unfold filtN; rw [List.length_map]; exact Nat.le_trans (List.length_filter_le _ _) (by simp)
theorem mem_filtN {n : Nat} {p : Nat → Bool} {x : Int} : x ∈ filtN n p ↔ ∃ i, i < n ∧ p i = true ∧ x = i := by
  simp only [filtN, List.mem_map, List.mem_filter, List.mem_range]
  exact ⟨fun ⟨i, ⟨h1, h2⟩, h3⟩ => ⟨i, h1, h2, h3.symm⟩, fun ⟨i, h1, h2, h3⟩ => ⟨i, ⟨h1, h2⟩, h3.symm⟩⟩
theorem getD_mem {xs : List Int} {i : Nat} (h : i < xs.length) : xs.getD i 0 ∈ xs := by
  rw [List.getD_eq_getElem?_getD, List.getElem?_eq_getElem h]; exact List.getElem_mem h
theorem mem_getD {xs : List Int} {x : Int} (h : x ∈ xs) : ∃ i, i < xs.length ∧ xs.getD i 0 = x := by
  obtain ⟨i, hi, e⟩ := List.getElem_of_mem h
  exact ⟨i, hi, by rw [List.getD_eq_getElem?_getD, List.getElem?_eq_getElem hi]; exact e⟩
theorem filtN_get {n : Nat} {p : Nat → Bool} {i : Nat} (h : i < (filtN n p).length) : ∃ j, j < n ∧ p j = true ∧ (filtN n p).getD i 0 = j := mem_filtN.1 (getD_mem h)

def firstIn (xs : List Int) (p : Int → Bool) : Int := (xs.find? p).getD (-1)
theorem firstIn_some {xs : List Int} {p : Int → Bool} {i : Nat} (hi : i < xs.length) (h : p (xs.getD i 0) = true) (hb : ∀ j, j < i → p (xs.getD j 0) = false) : firstIn xs p = xs.getD i 0 := by
  unfold firstIn
  have : xs.find? p = some (xs.getD i 0) := by
    rw [List.find?_eq_some_iff_getElem]
    refine ⟨h, i, hi, by simp [List.getD_eq_getElem?_getD, hi], fun j hj => ?_⟩
    have := hb j hj
    rw [List.getD_eq_getElem?_getD, List.getElem?_eq_getElem (by omega)] at this
    simpa using this
  rw [this]; rfl
theorem firstIn_none {xs : List Int} {p : Int → Bool} (h : ∀ j, j < xs.length → p (xs.getD j 0) = false) : firstIn xs p = -1 := by
  unfold firstIn
  have : xs.find? p = none := by
    rw [List.find?_eq_none]
    intro x hx
    obtain ⟨i, hi, rfl⟩ := mem_getD hx
    simp only [h i hi]; exact Bool.false_ne_true
  rw [this]; rfl
theorem firstIn_ge {xs : List Int} {p : Int → Bool} (h0 : ∀ x ∈ xs, 0 ≤ x) : 0 ≤ firstIn xs p ↔ ∃ x ∈ xs, p x = true := by
  unfold firstIn
  cases e : xs.find? p with
  | none =>
    rw [List.find?_eq_none] at e
    simp only [Option.getD_none]
    exact ⟨fun h => by omega, fun ⟨x, hx, hp⟩ => absurd hp (e x hx)⟩
  | some y =>
    have h1 := List.mem_of_find?_eq_some e
    have h2 := List.find?_some e
    exact ⟨fun _ => ⟨y, h1, h2⟩, fun _ => h0 y h1⟩
end Go.GL
namespace Go.GL

def Cat.hom (c : Cat) (x y : Int) : List Int := filtN c.src.length fun f => decide (c.src.getD f 0 = x) && decide (c.tgt.getD f 0 = y)
def Cat.invB (c : Cat) (f g : Int) : Bool := decide (c.th f g = c.idn.getD (c.src.getD f.toNat 0).toNat 0) && decide (c.th g f = c.idn.getD (c.tgt.getD f.toNat 0).toNat 0)
def Cat.inv (c : Cat) (f : Int) : Int := firstIn (c.hom (c.tgt.getD f.toNat 0) (c.src.getD f.toNat 0)) (c.invB f)
theorem Cat.hom_get {c : Cat} {x y : Int} {i : Nat} (h : i < (c.hom x y).length) : ∃ f : Nat, f < c.src.length ∧ c.src.getD f 0 = x ∧ c.tgt.getD f 0 = y ∧ (c.hom x y).getD i 0 = f := by
  obtain ⟨j, h1, h2, h3⟩ := filtN_get h
  simp only [sps] at h2
  exact ⟨j, h1, h2.1, h2.2, h3⟩
theorem Cat.mem_hom {c : Cat} {x y g : Int} : g ∈ c.hom x y ↔ ∃ f : Nat, f < c.src.length ∧ c.src.getD f 0 = x ∧ c.tgt.getD f 0 = y ∧ g = f := by
  unfold Cat.hom
  rw [mem_filtN]
  simp only [sps]
  exact ⟨fun ⟨f, h1, h2, h3⟩ => ⟨f, h1, h2.1, h2.2, h3⟩, fun ⟨f, h1, h2, h3, h4⟩ => ⟨f, h1, ⟨h2, h3⟩, h4⟩⟩
theorem Cat.hom_le (c : Cat) (x y : Int) : (c.hom x y).length ≤ c.src.length := filtN_le _ _

def Cat.retr (c : Cat) (f : Int) : List Int := filtN c.src.length fun g => (decide (c.src.getD g 0 = c.T f) && decide (c.tgt.getD g 0 = c.S f)) && decide (c.th f g = c.I (c.S f))
def Cat.sect (c : Cat) (f : Int) : List Int := filtN c.src.length fun g => (decide (c.src.getD g 0 = c.T f) && decide (c.tgt.getD g 0 = c.S f)) && decide (c.th g f = c.I (c.T f))
theorem Cat.mem_sect {c : Cat} {f g : Int} : g ∈ c.sect f ↔ ∃ k : Nat, k < c.src.length ∧ c.src.getD k 0 = c.T f ∧ c.tgt.getD k 0 = c.S f ∧ c.th k f = c.I (c.T f) ∧ g = k := by
  unfold Cat.sect
  rw [mem_filtN]
  simp only [sps]
  exact ⟨fun ⟨f, h1, h2, h3⟩ => ⟨f, h1, h2.1.1, h2.1.2, h2.2, h3⟩, fun ⟨f, h1, h2, h3, h4, h5⟩ => ⟨f, h1, ⟨⟨h2, h3⟩, h4⟩, h5⟩⟩
theorem firstIn_filt {n : Nat} {p q : Nat → Bool} {r s : Int → Bool} (h : ∀ i : Nat, i < n → (p i && r i) = (q i && s i)) : firstIn (filtN n p) r = firstIn (filtN n q) s := by
  unfold firstIn filtN
  congr 1
  rw [List.find?_map, List.find?_map, List.find?_filter, List.find?_filter]
  congr 1
  have : ∀ l : List Nat, (∀ i ∈ l, i < n) → l.find? (fun a => p a && (r ∘ fun (i : Nat) => (i : Int)) a) = l.find? (fun a => q a && (s ∘ fun (i : Nat) => (i : Int)) a) := by
    intro l
    induction l with
    | nil => intro _; rfl
    | cons a l ih =>
      intro hl
      simp only [List.find?_cons, Function.comp]
      rw [h a (hl a (by simp))]
      rw [show List.find? (fun a => p a && r ↑a) l = List.find? (fun a => q a && s ↑a) l from ih fun i hi => hl i (by simp [hi])]
  have h2 := this _ fun i hi => List.mem_range.1 hi
  simpa using h2
theorem Cat.inv_retr (c : Cat) (f : Int) : firstIn (c.retr f) (fun g => (c.sect f).contains g) = c.inv f := by
  unfold Cat.inv Cat.retr Cat.hom
  refine firstIn_filt fun i hi => ?_
  rw [Bool.eq_iff_iff]
  simp only [sps, Cat.invB, List.contains_iff_mem, Cat.mem_sect]
  refine ⟨fun ⟨⟨⟨h1, h2⟩, h3⟩, k, h4, h5, h6, h7, h8⟩ => ⟨⟨h1, h2⟩, h3, ?_⟩, fun ⟨⟨h1, h2⟩, h3, h4⟩ => ⟨⟨⟨h1, h2⟩, h3⟩, i, hi, h1, h2, h4, rfl⟩⟩
  obtain rfl : i = k := by omega
  exact h7
end Go.GL
namespace Go.Proofs.Ytolfggcanbpknaa
open Go Go.GL Go.RowKit Go.Proofs
theorem ze_2_L : zeroT Try.prog 2 = some ([.int .i64 0], 1) := by kernel_rfl
theorem by_2_L : (Try.prog.info? 2).map (·.bytes) = some 8 := by kernel_rfl
theorem hom_c {g o : Nat} {c : Cat} {p : CatP} {x y : Int} {H : GHeap} (h : Cat.At H g o c p := by assumption) (hS : c.Shape := by assumption) :
    GCalls Try.prog 88 [.pointer (some ⟨g, o, none⟩), .int .i64 x, .int .i64 y] H (NewInts 2 H (c.hom x y)) := by
  refine GCalls.body (N := 44) (rs := [.tmp 6]) Try.func88 rfl rfl rfl rfl (fun Qx hret hend => ?_)
  refine .fg [0, 1, 2] rfl ?_
  have hle := GHeap.Le.refl H
  have base_h := h
  have q1 := hS.tl
  have q2 := hS.n40
  refine .seq (fun K1 hK1 => .region (.mv rfl (.nil (hK1 _ _ (.seq (fun K2 hK2 => .region ?_))))))
  refine .R rfl (.litA rfl sl_24_A ze_2_L rfl rfl rfl rfl) ?_
  rintro _ H9 ⟨g9, rfl, le9, ge9, at9⟩
  replace hle := hle.trans le9
  have lt_at9 := GHeap.ltg at9
  replace h := base_h.mono hle
  obtain ⟨-, c1, -, -, -, -, -, -, -⟩ := h.get
  replace at9 : GHeap.get H9 g9 = some (.row (ints []) 2 true) := at9
  refine .mv rfl (.nil (hK2 _ _ (.seq (fun K3 hK3 => .seq (fun K4 hK4 => .region (.mv rfl (.q rfl (.nilCheck rfl) (.q rfl (.fieldAddr fo_27_1_B rfl) ?_))))))))
  refine .q rfl (.load on_24_B rfl (by assumption)) ?_
  refine .q rfl (.len sl_24_A rfl) (.mv rfl (.nil (hK4 _ _ ?_)))
  refine .block ?_
  refine .loopR (σ := Nat × Nat × Nat) [(0, some _), (1, some _), (2, some _), (14, some _)] (fun (k, gL7, nL7) => [(15, some (.int .i64 (k : Int))), (7, some (.slice (some ⟨gL7, 0, none⟩) nL7 nL7))]) (fun (k, gL7, nL7) H' => St [g9] H9 H' ∧ H'.get gL7 = some (.row (ints (filtN k fun f => decide (c.src.getD f 0 = x) && decide (c.tgt.getD f 0 = y))) 2 true) ∧ (gL7 = g9 ∨ H9.next ≤ gL7) ∧ nL7 = (filtN k fun f => decide (c.src.getD f 0 = x) && decide (c.tgt.getD f 0 = y)).length ∧ k ≤ c.src.length) (fun (k, gL7, nL7) => c.src.length - k) ((0, _, _)) ⟨rfl, rfl, rfl, rfl, trivial⟩ ⟨rfl, rfl, trivial⟩ ?_ ?_
  ·
   refine ⟨.refl _ _, by assumption, .inl rfl, by rfl, ?_⟩
   omega
  rintro ⟨k, gL7, nL7⟩ HL1 ⟨lst1, at_L7, pl_L7, ln_L7, hI⟩ KL1 hKL1
  refine .forget (fr' := [(15, some (.int .i64 (k : Int))), (7, some (.slice (some ⟨gL7, 0, none⟩) nL7 nL7)), (0, some _), (1, some _), (2, some _), (14, some _)]) ⟨rfl, rfl, rfl, rfl, rfl, rfl, trivial⟩ ?_
  have ge_L7 : H.next ≤ gL7 := by omega
  have nx_HL1 := lst1.nx
  replace hle := hle.st lst1 (fun k hk => ⟨by omega, trivial⟩)
  replace h := base_h.mono hle
  clear c1
  obtain ⟨-, c1, c2, -, -, i1, i2, -, -⟩ := h.get
  have hfl := filtN_le k fun f => decide (c.src.getD f 0 = x) && decide (c.tgt.getD f 0 = y)
  refine .seq (fun K5 hK5 => .region (.q rfl (.cmp rfl rfl rfl) (.nil (hK5 _ _ (.seq (fun K6 hK6 => ?_))))))
  refine .cond rfl (fun h16 => ?_) (fun h16 => ?_)
  ·
   try simp only [sps] at h16
   refine .skip ?_
   refine hK6 _ _ (.seq (fun K7 hK7 => ?_))
   refine .block ?_
   refine .seq (fun K8 hK8 => .region (.mv rfl (.mv rfl (.nil (hK8 _ _ (.seq (fun K9 hK9 => .region (.mv rfl (.q rfl (.nilCheck rfl) (.q rfl (.fieldAddr fo_27_1_B rfl) ?_))))))))))
   refine .q rfl (.load on_24_B rfl (by assumption)) ?_
   refine .mv rfl ?_
   refine .q rfl (.idxN sl_24_A (by assumption) rfl rfl (by omega)) ?_
   refine .q rfl (.loadI on_2_A (by assumption) rfl (by omega)) ?_
   refine .mv rfl (.q rfl (.cmp rfl rfl rfl) (.mv rfl ?_))
   refine .split (fun h27 => ?_) (fun h27 => ?_)
   ·
    try simp only [sps] at h27
    refine .qg rfl (.move rfl) (.qg rfl (.nilCheck rfl) (.qg rfl (.fieldAddr fo_27_2_B rfl) ?_))
    refine .qg rfl (.load on_24_B rfl (by assumption)) ?_
    refine .qg rfl (.move rfl) ?_
    refine .qg rfl (.idxN sl_24_A (by assumption) rfl rfl (by omega)) ?_
    refine .qg rfl (.loadI on_2_A (by assumption) rfl (by omega)) ?_
    refine .qg rfl (.move rfl) (.qg rfl (.cmp rfl rfl rfl) (.q rfl (.pickT rfl rfl) (.nil (hK9 _ _ ?_))))
    refine .cond rfl (fun h37 => ?_) (fun h37 => ?_)
    ·
     try simp only [sps] at h37
     refine .region (.mv rfl (.mv rfl ?_))
     refine .R rfl (.litA rfl sl_24_A ze_2_L rfl rfl rfl rfl) ?_
     rintro _ H40 ⟨g40, rfl, le40, ge40, at40⟩
     replace hle := hle.trans le40
     replace lst1 := lst1.le le40
     replace at_L7 := le40.2 _ _ at_L7
     have lt_at40 := GHeap.ltg at40
     replace h := base_h.mono hle
     clear c1 c2 i1 i2
     refine .R rfl (.appendI rfl sl_24_A ze_2_L rfl by_2_L sl_24_A rfl rfl (by assumption) (by assumption) (by first | omega | (simp <;> omega)) (by omega) (by omega)) ?_
     rintro _ H41 ⟨g41, rfl, st41, ge41, at41⟩
     replace hle := hle.st st41 (fun k hk => ⟨by omega, trivial⟩)
     replace lst1 := lst1.sA st41
     replace h := base_h.mono hle
     refine .mv rfl (.nil (hK7 _ _ (.region ?_)))
     refine .q rfl (.add rfl rfl rfl (by omega) (by omega)) ?_
     refine .mv rfl (.nil ?_)
     refine hKL1 ((k + 1, _, _)) _ _ ?_ ?_ ⟨rfl, rfl, rfl, rfl, rfl, rfl, trivial⟩
     ·
      refine ⟨lst1, by (rw [filtN_T (by simp only [sps]; omega)]; assumption), by omega, by (rw [filtN_T (by simp only [sps]; omega)] <;> (first | omega | (simp only [List.length_append, List.length_cons, List.length_nil] <;> omega))), ?_⟩
      omega
     (dsimp only; omega)
    try simp only [sps] at h37
    refine .skip ?_
    refine hK7 _ _ (.region ?_)
    refine .q rfl (.add rfl rfl rfl (by omega) (by omega)) ?_
    refine .mv rfl (.nil ?_)
    refine hKL1 ((k + 1, _, _)) _ _ ?_ ?_ ⟨rfl, rfl, rfl, rfl, rfl, rfl, trivial⟩
    ·
     refine ⟨lst1, by (rw [filtN_F (by simp only [sps]; omega)]; assumption), by omega, by (rw [filtN_F (by simp only [sps]; omega)] <;> (first | omega | (simp only [List.length_append, List.length_cons, List.length_nil] <;> omega))), ?_⟩
     omega
    (dsimp only; omega)
   try simp only [sps] at h27
   refine .z rfl (.z rfl (.z rfl (.z rfl (.z rfl (.z rfl (.z rfl (.z rfl (.z rfl (.q rfl (.pickF rfl rfl) (.nil (hK9 _ _ ?_)))))))))))
   refine .condF rfl ?_
   refine .skip ?_
   refine hK7 _ _ (.region ?_)
   refine .q rfl (.add rfl rfl rfl (by omega) (by omega)) ?_
   refine .mv rfl (.nil ?_)
   refine hKL1 ((k + 1, _, _)) _ _ ?_ ?_ ⟨rfl, rfl, rfl, rfl, rfl, rfl, trivial⟩
   ·
    refine ⟨lst1, by (rw [filtN_F (by simp only [sps]; omega)]; assumption), by omega, by (rw [filtN_F (by simp only [sps]; omega)] <;> (first | omega | (simp only [List.length_append, List.length_cons, List.length_nil] <;> omega))), ?_⟩
    omega
   (dsimp only; omega)
  try simp only [sps] at h16
  refine .exit ?_
  refine hK3 _ _ (.seq (fun K10 hK10 => .region (.mv rfl (.mv rfl (.nil (hK10 _ _ ?_))))))
  refine .ret ?_
  refine hret _ _ ?_
  refine ⟨_, rfl, ?_⟩
  obtain rfl : k = c.src.length := by omega
  exact ⟨hle, _, by rw [ln_L7]; rfl, at_L7, ge_L7⟩
theorem inverse_c {g o : Nat} {c : Cat} {p : CatP} {f : Int} {H : GHeap} (h : Cat.At H g o c p := by assumption) (hS : c.Shape := by assumption) (h0 : 0 ≤ f := by omega) (h1 : f < c.src.length := by omega) :
    GCalls Try.prog 55 [.pointer (some ⟨g, o, none⟩), .int .i64 f] H (Ret (.int .i64 (c.inv f)) H) := by
  refine GCalls.ret rfl ?_
  refine GCalls.body (N := 60) (rs := [.tmp 4]) Try.func55 rfl rfl rfl rfl (fun Qx hret hend => ?_)
  refine .fg [0, 1] rfl ?_
  have hle := GHeap.Le.refl H
  have base_h := h
  obtain ⟨-, c1, c2, -, -, i1, i2, -, -⟩ := h.get
  have q1 := hS.tl
  have q2 := hS.n40
  have q3 := hS.il
  have q4 := hS.src f.toNat (by omega)
  have q5 := hS.tgt f.toNat (by omega)
  have q6 := hS.cl
  have q7 := hS.row f.toNat (by omega)
  have q8 := c.hom_le (c.tgt.getD f.toNat 0) (c.src.getD f.toNat 0)
  refine .seq (fun K1 hK1 => .region (.mv rfl (.nil (hK1 _ _ (.seq (fun K2 hK2 => ?_))))))
  refine .regionD mo_B (.q 0 (.q 1 (.q 2 (.q 3 (.q 4 (.q 5 (.q 6 (.q 7 (.q 8 (.q 9 (.q 10 (.q 11 (.q 12 (.q 13 (.q 14 (.q 15 (.done))))))))))))))))) (by kernel_rfl) ?_
  refine .mv rfl rfl (.q rfl (.nilCheck rfl) (.q rfl (.fieldAddr fo_27_1_B rfl) ?_))
  refine .q rfl (.load on_24_B rfl (by assumption)) ?_
  refine .mv rfl rfl ?_
  refine .q rfl (.idx1 sl_24_A (by assumption) rfl rfl (by omega) (by omega)) ?_
  refine .q rfl (.loadI on_2_A (by assumption) rfl (by omega)) ?_
  refine .mv rfl rfl (.q rfl (.nilCheck rfl) (.q rfl (.fieldAddr fo_27_2_B rfl) ?_))
  refine .q rfl (.load on_24_B rfl (by assumption)) ?_
  refine .mv rfl rfl ?_
  refine .q rfl (.idx1 sl_24_A (by assumption) rfl rfl (by omega) (by omega)) ?_
  refine .q rfl (.loadI on_2_A (by assumption) rfl (by omega)) ?_
  refine .mv rfl rfl (.mv rfl rfl ?_)
  refine .done ?_
  refine hK2 _ _ (.seq (fun K3 hK3 => .seq (fun K4 hK4 => .region (.mv rfl (.mv rfl (.mv rfl ?_))))))
  refine .call rfl rfl rfl rfl @Try.call88 rfl (hom_c) ?_
  rintro _ H26 ⟨le26, g26, rfl, at26, ge26⟩
  replace hle := hle.trans le26
  replace h := base_h.mono hle
  clear c1 c2 i1 i2
  obtain ⟨-, -, -, c3, -, -, -, i3, -⟩ := h.get
  have i26 := Ints.of_get at26
  refine .q rfl (.len sl_24_A rfl) (.mv rfl (.nil (hK4 _ _ ?_)))
  refine .block ?_
  refine .loopR (σ := Nat) [(0, some _), (1, some _), (5, some _), (6, some _), (26, some _), (27, some _)] (fun k => [(28, some (.int .i64 (k : Int)))]) (fun k H' => H26 = H' ∧ (k : Int) ≤ (c.hom (c.tgt.getD f.toNat 0) (c.src.getD f.toNat 0)).length ∧ ∀ i, i < k → c.invB f ((c.hom (c.tgt.getD f.toNat 0) (c.src.getD f.toNat 0)).getD i 0) = false) (fun k => ((c.hom (c.tgt.getD f.toNat 0) (c.src.getD f.toNat 0)).length - k : Int).toNat) (0) ⟨rfl, rfl, rfl, rfl, rfl, rfl, trivial⟩ ⟨rfl, trivial⟩ ?_ ?_
  ·
   refine ⟨rfl, ?_⟩
   exact ⟨by omega, fun _ _ => by omega⟩
  rintro k _ ⟨rfl, hI⟩ KL1 hKL1
  refine .forget (fr' := [(28, some (.int .i64 (k : Int))), (0, some _), (1, some _), (5, some _), (6, some _), (26, some _), (27, some _)]) ⟨rfl, rfl, rfl, rfl, rfl, rfl, rfl, trivial⟩ ?_
  obtain ⟨hk1, ha1⟩ := hI
  refine .seq (fun K5 hK5 => .region (.q rfl (.cmp rfl rfl rfl) (.nil (hK5 _ _ (.seq (fun K6 hK6 => ?_))))))
  refine .cond rfl (fun h29 => ?_) (fun h29 => ?_)
  ·
   simp only [sps] at h29
   obtain ⟨j, j1', j2', j3', j4'⟩ := c.hom_get (x := (c.tgt.getD f.toNat 0)) (y := (c.src.getD f.toNat 0)) (i := k) (by omega)
   have q9 := hS.row j (by omega)
   have q10 : ((c.hom (c.tgt.getD f.toNat 0) (c.src.getD f.toNat 0)).getD k 0).toNat = j := by omega
   refine .skip ?_
   refine hK6 _ _ (.seq (fun K7 hK7 => ?_))
   refine .block ?_
   refine .seq (fun K8 hK8 => .region ?_)
   refine .q rfl (.idxN sl_24_A (by first | assumption | exact SlA.of_row at26 (by first | rfl | (simp; done) | (simp <;> omega))) rfl rfl (by omega)) ?_
   refine .q rfl (.loadI on_2_A (by first | assumption | exact Ints.of_get at26) rfl (by omega)) ?_
   refine .mv rfl (.nil (hK8 _ _ (.seq (fun K9 hK9 => ?_))))
   refine .regionD mo_B (.q 0 (.q 1 (.q 2 (.q 4 (.q 5 (.q 6 (.q 7 (.q 8 (.q 9 (.q 10 (.c 3 1 (.q 11 (.q 12 (.q 13 (.q 14 (.q 15 (.q 17 (.q 18 (.q 19 (.q 20 (.q 21 (.q 22 (.q 23 (.c 16 1 (.q 24 (.q 25 (.done))))))))))))))))))))))))))) (by kernel_rfl) ?_
   refine .mv rfl rfl (.mv rfl rfl (.mv rfl rfl (.mv rfl rfl (.q rfl (.nilCheck rfl) (.q rfl (.fieldAddr fo_27_3_B rfl) ?_)))))
   refine .q rfl (.load on_24_B rfl (by assumption)) ?_
   refine .mv rfl rfl ?_
   refine .q rfl (.idx1 sl_24_A (by assumption) rfl rfl (by omega) (by omega)) ?_
   refine .q rfl (.loadI on_2_A (by assumption) rfl (by omega)) ?_
   refine .callQ1 rfl rfl rfl rfl rfl @Try.call52 rfl (then_s) (.refl _) ?_
   refine .q rfl (.cmp rfl rfl rfl) (.mv rfl rfl ?_)
   refine .split (fun h44 => ?_) (fun h44 => ?_)
   ·
    try simp only [sps] at h44
    refine .qg rfl (.move rfl) (.qg rfl (.move rfl) (.qg rfl (.move rfl) (.qg rfl (.move rfl) (.qg rfl (.nilCheck rfl) (.qg rfl (.fieldAddr fo_27_3_B rfl) ?_)))))
    refine .qg rfl (.load on_24_B rfl (by assumption)) ?_
    refine .qg rfl (.move rfl) ?_
    refine .qg rfl (.idx1 sl_24_A (by assumption) rfl rfl (by omega) (by omega)) ?_
    refine .qg rfl (.loadI on_2_A (by assumption) rfl (by omega)) ?_
    refine .callQ1g rfl rfl rfl rfl rfl rfl rfl @Try.call52 rfl (then_s) (.refl _) ?_
    refine .qg rfl (.cmp rfl rfl rfl) (.q rfl (.pickT rfl rfl) ?_)
    refine .done ?_
    refine hK9 _ _ ?_
    refine .cond rfl (fun h57 => ?_) (fun h57 => ?_)
    ·
     try simp only [sps] at h57
     refine .seq (fun K10 hK10 => .region (.mv rfl (.mv rfl (.nil (hK10 _ _ ?_)))))
     refine .ret ?_
     refine hret _ _ ?_
     refine ⟨_, rfl, ?_⟩
     exact ⟨congrArg _ (firstIn_some (i := k) (by omega) (by simp only [Cat.invB, sps]; omega) ha1), hle⟩
    try simp only [sps] at h57
    refine .skip ?_
    refine hK7 _ _ (.region ?_)
    refine .q rfl (.add rfl rfl rfl (by omega) (by omega)) ?_
    refine .mv rfl (.nil ?_)
    refine hKL1 (k + 1) _ _ ?_ ?_ ⟨rfl, rfl, rfl, rfl, rfl, rfl, rfl, trivial⟩
    ·
     refine ⟨rfl, ?_⟩
     refine ⟨by omega, fun i hx => ?_⟩
     by_cases hltq : i < k
     · exact ha1 i hltq
     · obtain rfl : i = k := by omega
       simp only [Cat.invB, sps]; omega
    omega
   try simp only [sps] at h44
   refine .z rfl (.z rfl (.z rfl (.z rfl (.z rfl (.z rfl (.z rfl (.z rfl (.z rfl (.z rfl (.sgc rfl rfl rfl rfl rfl rfl (.z rfl (.q rfl (.pickF rfl rfl) ?_))))))))))))
   refine .done ?_
   refine hK9 _ _ ?_
   refine .condF rfl ?_
   refine .skip ?_
   refine hK7 _ _ (.region ?_)
   refine .q rfl (.add rfl rfl rfl (by omega) (by omega)) ?_
   refine .mv rfl (.nil ?_)
   refine hKL1 (k + 1) _ _ ?_ ?_ ⟨rfl, rfl, rfl, rfl, rfl, rfl, rfl, trivial⟩
   ·
    refine ⟨rfl, ?_⟩
    refine ⟨by omega, fun i hx => ?_⟩
    by_cases hltq : i < k
    · exact ha1 i hltq
    · obtain rfl : i = k := by omega
      simp only [Cat.invB, sps]; omega
   omega
  try simp only [sps] at h29
  refine .exit ?_
  refine hK3 _ _ (.seq (fun K11 hK11 => .region (.mv rfl (.nil (hK11 _ _ ?_)))))
  refine .ret ?_
  refine hret _ _ ?_
  refine ⟨_, rfl, ?_⟩
  exact ⟨congrArg _ (firstIn_none fun i hi => ha1 i (by omega)), hle⟩
end Go.Proofs.Ytolfggcanbpknaa
namespace Go.GL
open Go.RowKit Go.WideShapes Go.ChangeShapes Go.Deep

def Intsss (H : GHeap) (a : Option Addr) (x : List (List (List Int))) (r : Nat → Option Addr) (s : Nat → Nat → Option Addr) : Prop :=
  SlA H a x.length (fun i => .slice (r i) (x.getD i []).length (x.getD i []).length) ∧ ∀ i, i < x.length → Intss H (r i) (x.getD i []) (s i)
theorem Intsss.mono {H H' : GHeap} {a : Option Addr} {x : List (List (List Int))} {r : Nat → Option Addr} {s : Nat → Nat → Option Addr} (h : Intsss H a x r s) (hle : H.Le H') : Intsss H' a x r s := ⟨SlA.mono h.1 hle, fun i hi => (h.2 i hi).mono hle⟩
theorem Intsss.sl {H : GHeap} {a : Option Addr} {x : List (List (List Int))} {r : Nat → Option Addr} {s : Nat → Nat → Option Addr} (h : Intsss H a x r s) : SlA H a x.length (fun i => .slice (r i) (x.getD i []).length (x.getD i []).length) := h.1
def IntsssAt (b : Nat) (H : GHeap) (a : Option Addr) (x : List (List (List Int))) (r : Nat → Option Addr) (s : Nat → Nat → Option Addr) : Prop :=
  ∃ g e cs, a = some ⟨g, 0, none⟩ ∧ b ≤ g ∧ H.get g = some (.row cs e true) ∧ cs.length = x.length ∧ (∀ i, i < x.length → cs[i]? = some (.slice (r i) (x.getD i []).length (x.getD i []).length)) ∧ ∀ i, i < x.length → IntssAt b H (r i) (x.getD i []) (s i)
theorem IntsssAt.keep {b b' : Nat} {H H' : GHeap} {a : Option Addr} {x : List (List (List Int))} {r : Nat → Option Addr} {s : Nat → Nat → Option Addr} (h : IntsssAt b H a x r s) (hk : Keep b' H H') (hb : b' ≤ b) : IntsssAt b' H' a x r s :=
  let ⟨g, e, cs, h1, h2, h3, h4, h5, h6⟩ := h; ⟨g, e, cs, h1, by omega, hk g _ (by omega) h3, h4, h5, fun i hi => (h6 i hi).keep hk hb⟩
theorem IntsssAt.intsss {b : Nat} {H : GHeap} {a : Option Addr} {x : List (List (List Int))} {r : Nat → Option Addr} {s : Nat → Nat → Option Addr} (h : IntsssAt b H a x r s) : Intsss H a x r s := by
  obtain ⟨g, e, cs, rfl, _, h3, h4, h5, h6⟩ := h
  exact ⟨.inr ⟨g, 0, rfl, fun i hi => by rw [GHeap.cell_of h3, Nat.zero_add]; exact h5 i hi⟩, fun i hi => (h6 i hi).intss⟩
def Wd2 (xss : List (List Int)) : Prop := xss.length ≤ 9223372036854775807 ∧ ∀ i, I64s (xss.getD i [])
def Wd3 (x : List (List (List Int))) : Prop := x.length ≤ 9223372036854775807 ∧ ∀ i, Wd2 (x.getD i [])
def Sm3 (x : List (List (List Int))) : Prop := x.length ≤ 1048576 ∧ ∀ i, (x.getD i []).length ≤ 1048576 ∧ ∀ j, ((x.getD i []).getD j []).length ≤ 1048576
def RIntsss (ρ : Place) (H : GHeap) (cs : List Value) : Prop := ∃ a x r s c, cs = [c] ∧ VRel ρ (.slice a x.length x.length) c ∧ Intsss H a x r s ∧ Wd3 x
theorem RIntsss.mono {ρ ρ' : Place} {H H' : GHeap} {cs : List Value} (h : RIntsss ρ H cs) (he : Ext ρ ρ') (hl : H.Le H') : RIntsss ρ' H' cs :=
  let ⟨a, x, r, s, c, h1, h2, h3, h4⟩ := h; ⟨a, x, r, s, c, h1, h2.mono he, h3.mono hl, h4⟩
theorem Wd2.nil : Wd2 [] := ⟨by simp, fun i => by simp [I64s, I64]⟩
end Go.GL
namespace Go.GL
open Go.RowKit Go.WideShapes Go.ChangeShapes Go.Deep

structure Imp1 (P : Program) (t : TypeId) (R : GHeap → Value → Prop) : Prop where
  mono : ∀ {H H' : GHeap} {g : Value}, H.Le H' → R H g → R H' g
  imp : ∀ {T : Type} {enc : TypeId × Value → T} {B : Nat} {w0 : World} {ρ : Place} {H : GHeap} {w : World} {held : Bool} {base fuel : Nat} {v : Value} {x : DataW T × List MemPlace}, Sim P B w0 ρ H w → w.heap.size ≤ B →
    DataW.trod enc P w 0 (fun _ => true) held fuel t v.cells.toList = some x → Value.okWide P w .any base t v → ∃ ρ' H' g, Sim P B w0 ρ' H' w ∧ Ext ρ ρ' ∧ H.Le H' ∧ VRel ρ' g v ∧ R H' g

structure ImpAll (P : Program) (ts : List TypeId) (R : GHeap → List Value → Prop) : Prop where
  imp : ∀ {T : Type} {enc : TypeId × Value → T} {B : Nat} {w0 : World} {ρ : Place} {H : GHeap} {w : World} {base : Nat} {vs : List Value} {ds : List (DataW T)} {ps : List MemPlace}, Sim P B w0 ρ H w → w.heap.size ≤ B →
    DataW.TrodAll enc P w 0 (fun _ => true) true ts vs ds ps → (∀ (j : Nat) t v, ts[j]? = some t → vs[j]? = some v → Value.okWide P w .any base t v) → ds.length = ts.length ∧ ∃ ρ' H' gs, Sim P B w0 ρ' H' w ∧ Ext ρ ρ' ∧ H.Le H' ∧ LRel ρ' gs vs ∧ R H' gs
theorem ImpAll.nil {P : Program} : ImpAll P [] (fun _ gs => gs = []) where
  imp := by
    intro T enc B w0 ρ H w base vs ds ps hs hB h hv
    obtain ⟨rfl, rfl, rfl⟩ := trodAll_nil h
    exact ⟨rfl, ρ, H, [], hs, .refl ρ, .refl H, .nil ρ, rfl⟩
theorem ImpAll.cons {P : Program} {t : TypeId} {ts : List TypeId} {R1 : GHeap → Value → Prop} {R : GHeap → List Value → Prop} (h1 : Imp1 P t R1) (h2 : ImpAll P ts R) : ImpAll P (t :: ts) (fun H gs => ∃ g r, gs = g :: r ∧ R1 H g ∧ R H r) where
  imp := by
    intro T enc B w0 ρ H w base vs ds ps hs hB h hv
    obtain ⟨v, vs, d, ds, p, q, rfl, rfl, rfl, ⟨fuel, k1⟩, k2⟩ := trodAll_cons h
    obtain ⟨ρ1, H1, g, s1, e1, l1, v1, r1⟩ := h1.imp hs hB k1 (hv 0 t v rfl rfl)
    obtain ⟨hl, ρ2, H2, gs, s2, e2, l2, v2, r2⟩ := h2.imp s1 hB k2 (fun j t v ht hj => hv (j + 1) t v (by simpa using ht) (by simpa using hj))
    exact ⟨by simp [hl], ρ2, H2, g :: gs, s2, e1.trans e2, l1.trans l2, .cons (v1.mono e2) v2, g, gs, rfl, h1.mono l2 r1, r2⟩

theorem law_calls {P : Program} {f : FuncId} {fn : Func} {ts : List TypeId} {tb : TypeId} {R : GHeap → List Value → Prop} (hI : ImpAll P ts R) (hp : fn.params = ts.toArray)
    (hc : ∀ H gs, R H gs → GCalls P f gs H fun v _ => v = .bool true)
    {T : Type} {enc : TypeId × Value → T} {W : World} {base : Nat} {args : Array Value} {s : ChangeSpec} {apart fresh handsOn again : Bool} {ds gs : List (DataW T)} {before : List MemPlace}
    (hval : ∀ (j : Nat) t v, fn.params[j]? = some t → args[j]? = some v → Value.okWide P W .any base t v)
    (hW : DataW.Whole enc P fn.params.toList s.vars apart W args.toList ds gs before)
    (hl : laidOutB P = true) (hr : readB P fn.params.toList = true) (hv : s.vars = []) (hrt : fn.resultTypes = #[tb]) (htb : P.underlying tb = some .bool)
    (hs : ∀ ds : List (DataW T), ds.length = ts.length → (s.fn T ds).results = [.lit (.bool true)] ∧ (s.fn T ds).args = ds ∧ (s.fn T ds).vars = []) :
    Calls P f args W fun e W' => ∃ v, e = .returned v ∧ s.post enc P fn apart fresh handsOn again W args v W' := by
  have hWW := hW
  obtain ⟨p, q, hA, _⟩ := hW
  rw [hp] at hA
  obtain ⟨hlen, ρ, H, gs', hs', _, _, hrel, hR⟩ := hI.imp (base := base) (Sim.start P W) (Nat.le_refl _) (by simpa using hA) (fun j t v ht hj => hval j t v (by rw [hp]; simpa using ht) (by simpa using hj))
  have := (hc H gs' hR) _ _ ρ args.toList W hs' hrel
  rw [Array.toArray_toList] at this
  refine this.mono fun e W' ⟨v, c, ρ', H', he, hv', _, hsim, hrv⟩ => ?_
  subst hv'
  cases hrv
  exact ⟨_, he, law_post hl hr hv hrt htb hWW (hs ds hlen).1 (hs ds hlen).2.1 (hs ds hlen).2.2 hsim.below⟩
end Go.GL
namespace Go.GL
open Go.RowKit
structure SFun where
  sh : Cat
  sz : List Int
  ac : List (List Int)
structure SFunP where
  sh : CatP
  a1 : Option Addr
  a2 : Option Addr
  r2 : Nat → Option Addr
def SFun.cells (c : SFun) (p : SFunP) : List Value := c.sh.cells p.sh ++ ([.slice p.a1 c.sz.length c.sz.length] ++ ([.slice p.a2 c.ac.length c.ac.length]))
def SFun.In (H : GHeap) (c : SFun) (p : SFunP) : Prop := c.sh.In H p.sh ∧ Ints H p.a1 c.sz ∧ Intss H p.a2 c.ac p.r2
theorem SFun.In.mono {H H' : GHeap} {c : SFun} {p : SFunP} (h : c.In H p) (hle : H.Le H') : c.In H' p := ⟨Cat.In.mono (h.1) hle, Ints.mono (h.2.1) hle, Intss.mono (h.2.2) hle⟩
def SFun.At (H : GHeap) (g o : Nat) (c : SFun) (p : SFunP) : Prop := Mem H g o (c.cells p) ∧ c.In H p
theorem SFun.At.mono {H H' : GHeap} {g o : Nat} {c : SFun} {p : SFunP} (h : SFun.At H g o c p) (hle : H.Le H') : SFun.At H' g o c p := ⟨h.1.mono hle, SFun.In.mono h.2 hle⟩
theorem SFun.At.get {H : GHeap} {g o : Nat} {c : SFun} {p : SFunP} (h : SFun.At H g o c p) : Cat.At H g (o + 0) c.sh p.sh ∧ H.cell g (o + 5) = some (.slice p.a1 c.sz.length c.sz.length) ∧ H.cell g (o + 6) = some (.slice p.a2 c.ac.length c.ac.length) ∧ Ints H p.a1 c.sz ∧ Intss H p.a2 c.ac p.r2 :=
  ⟨⟨h.1.left, h.2.1⟩, (h.1.right (n := 5) rfl).left 0 _ rfl, ((h.1.right (n := 5) rfl).right (n := 1) rfl) 0 _ rfl, h.2.2.1, h.2.2.2⟩
def SFun.Small (c : SFun) : Prop := c.sh.Small ∧ c.sz.length ≤ 1048576 ∧ (c.ac.length ≤ 1048576 ∧ ∀ i, (c.ac.getD i []).length ≤ 1048576)
def SFun.Wide (c : SFun) : Prop := c.sh.Wide ∧ I64s c.sz ∧ (c.ac.length ≤ 9223372036854775807 ∧ ∀ i, I64s (c.ac.getD i []))
def SFunAt (b : Nat) (H : GHeap) (c : SFun) (p : SFunP) : Prop := CatAt b H c.sh p.sh ∧ IntsAt b H p.a1 c.sz ∧ IntssAt b H p.a2 c.ac p.r2
theorem SFunAt.keep {b b' : Nat} {H H' : GHeap} {c : SFun} {p : SFunP} (h : SFunAt b H c p) (hk : Keep b' H H') (hb : b' ≤ b) : SFunAt b' H' c p := ⟨CatAt.keep (h.1) hk hb, IntsAt.keep (h.2.1) hk hb, IntssAt.keep (h.2.2) hk hb⟩
theorem SFunAt.inn {b : Nat} {H : GHeap} {c : SFun} {p : SFunP} (h : SFunAt b H c p) : c.In H p := ⟨CatAt.inn (h.1), IntsAt.ints (h.2.1), IntssAt.intss (h.2.2)⟩
structure SMap where
  s : SFun
  t : SFun
  pa : List (List Int)
structure SMapP where
  s : SFunP
  t : SFunP
  a2 : Option Addr
  r2 : Nat → Option Addr
def SMap.cells (c : SMap) (p : SMapP) : List Value := c.s.cells p.s ++ (c.t.cells p.t ++ ([.slice p.a2 c.pa.length c.pa.length]))
def SMap.In (H : GHeap) (c : SMap) (p : SMapP) : Prop := c.s.In H p.s ∧ c.t.In H p.t ∧ Intss H p.a2 c.pa p.r2
theorem SMap.In.mono {H H' : GHeap} {c : SMap} {p : SMapP} (h : c.In H p) (hle : H.Le H') : c.In H' p := ⟨SFun.In.mono (h.1) hle, SFun.In.mono (h.2.1) hle, Intss.mono (h.2.2) hle⟩
def SMap.At (H : GHeap) (g o : Nat) (c : SMap) (p : SMapP) : Prop := Mem H g o (c.cells p) ∧ c.In H p
theorem SMap.At.mono {H H' : GHeap} {g o : Nat} {c : SMap} {p : SMapP} (h : SMap.At H g o c p) (hle : H.Le H') : SMap.At H' g o c p := ⟨h.1.mono hle, SMap.In.mono h.2 hle⟩
theorem SMap.At.get {H : GHeap} {g o : Nat} {c : SMap} {p : SMapP} (h : SMap.At H g o c p) : SFun.At H g (o + 0) c.s p.s ∧ SFun.At H g (o + 7) c.t p.t ∧ H.cell g (o + 14) = some (.slice p.a2 c.pa.length c.pa.length) ∧ Intss H p.a2 c.pa p.r2 :=
  ⟨⟨h.1.left, h.2.1⟩, ⟨(h.1.right (n := 7) rfl).left, h.2.2.1⟩, ((h.1.right (n := 7) rfl).right (n := 7) rfl) 0 _ rfl, h.2.2.2⟩
def SMap.Small (c : SMap) : Prop := c.s.Small ∧ c.t.Small ∧ (c.pa.length ≤ 1048576 ∧ ∀ i, (c.pa.getD i []).length ≤ 1048576)
def SMap.Wide (c : SMap) : Prop := c.s.Wide ∧ c.t.Wide ∧ (c.pa.length ≤ 9223372036854775807 ∧ ∀ i, I64s (c.pa.getD i []))
def SMapAt (b : Nat) (H : GHeap) (c : SMap) (p : SMapP) : Prop := SFunAt b H c.s p.s ∧ SFunAt b H c.t p.t ∧ IntssAt b H p.a2 c.pa p.r2
theorem SMapAt.keep {b b' : Nat} {H H' : GHeap} {c : SMap} {p : SMapP} (h : SMapAt b H c p) (hk : Keep b' H H') (hb : b' ≤ b) : SMapAt b' H' c p := ⟨SFunAt.keep (h.1) hk hb, SFunAt.keep (h.2.1) hk hb, IntssAt.keep (h.2.2) hk hb⟩
theorem SMapAt.inn {b : Nat} {H : GHeap} {c : SMap} {p : SMapP} (h : SMapAt b H c p) : c.In H p := ⟨SFunAt.inn (h.1), SFunAt.inn (h.2.1), IntssAt.intss (h.2.2)⟩
structure Con where
  ap : Int
  lg : List Int
structure ConP where
  a1 : Option Addr
def Con.cells (c : Con) (p : ConP) : List Value := [.int .i64 c.ap] ++ ([.slice p.a1 c.lg.length c.lg.length])
def Con.In (H : GHeap) (c : Con) (p : ConP) : Prop := Ints H p.a1 c.lg
theorem Con.In.mono {H H' : GHeap} {c : Con} {p : ConP} (h : c.In H p) (hle : H.Le H') : c.In H' p := Ints.mono (h) hle
def Con.At (H : GHeap) (g o : Nat) (c : Con) (p : ConP) : Prop := Mem H g o (c.cells p) ∧ c.In H p
theorem Con.At.mono {H H' : GHeap} {g o : Nat} {c : Con} {p : ConP} (h : Con.At H g o c p) (hle : H.Le H') : Con.At H' g o c p := ⟨h.1.mono hle, Con.In.mono h.2 hle⟩
theorem Con.At.get {H : GHeap} {g o : Nat} {c : Con} {p : ConP} (h : Con.At H g o c p) : H.cell g (o + 0) = some (.int .i64 c.ap) ∧ H.cell g (o + 1) = some (.slice p.a1 c.lg.length c.lg.length) ∧ Ints H p.a1 c.lg :=
  ⟨h.1.left 0 _ rfl, (h.1.right (n := 1) rfl) 0 _ rfl, h.2⟩
def Con.Small (c : Con) : Prop := (-9223372036854775808 ≤ c.ap ∧ c.ap ≤ 9223372036854775807) ∧ c.lg.length ≤ 1048576
def Con.Wide (c : Con) : Prop := I64 c.ap ∧ I64s c.lg
def ConAt (b : Nat) (H : GHeap) (c : Con) (p : ConP) : Prop := IntsAt b H p.a1 c.lg
theorem ConAt.keep {b b' : Nat} {H H' : GHeap} {c : Con} {p : ConP} (h : ConAt b H c p) (hk : Keep b' H H') (hb : b' ≤ b) : ConAt b' H' c p := IntsAt.keep (h) hk hb
theorem ConAt.inn {b : Nat} {H : GHeap} {c : Con} {p : ConP} (h : ConAt b H c p) : c.In H p := IntsAt.ints (h)
structure Prt where
  me : List (List Int)
structure PrtP where
  a0 : Option Addr
  r0 : Nat → Option Addr
def Prt.cells (c : Prt) (p : PrtP) : List Value := [.slice p.a0 c.me.length c.me.length]
def Prt.In (H : GHeap) (c : Prt) (p : PrtP) : Prop := Intss H p.a0 c.me p.r0
theorem Prt.In.mono {H H' : GHeap} {c : Prt} {p : PrtP} (h : c.In H p) (hle : H.Le H') : c.In H' p := Intss.mono (h) hle
def Prt.At (H : GHeap) (g o : Nat) (c : Prt) (p : PrtP) : Prop := Mem H g o (c.cells p) ∧ c.In H p
theorem Prt.At.mono {H H' : GHeap} {g o : Nat} {c : Prt} {p : PrtP} (h : Prt.At H g o c p) (hle : H.Le H') : Prt.At H' g o c p := ⟨h.1.mono hle, Prt.In.mono h.2 hle⟩
theorem Prt.At.get {H : GHeap} {g o : Nat} {c : Prt} {p : PrtP} (h : Prt.At H g o c p) : H.cell g (o + 0) = some (.slice p.a0 c.me.length c.me.length) ∧ Intss H p.a0 c.me p.r0 :=
  ⟨h.1 0 _ rfl, h.2⟩
def Prt.Small (c : Prt) : Prop := (c.me.length ≤ 1048576 ∧ ∀ i, (c.me.getD i []).length ≤ 1048576)
def Prt.Wide (c : Prt) : Prop := (c.me.length ≤ 9223372036854775807 ∧ ∀ i, I64s (c.me.getD i []))
def PrtAt (b : Nat) (H : GHeap) (c : Prt) (p : PrtP) : Prop := IntssAt b H p.a0 c.me p.r0
theorem PrtAt.keep {b b' : Nat} {H H' : GHeap} {c : Prt} {p : PrtP} (h : PrtAt b H c p) (hk : Keep b' H H') (hb : b' ≤ b) : PrtAt b' H' c p := IntssAt.keep (h) hk hb
theorem PrtAt.inn {b : Nat} {H : GHeap} {c : Prt} {p : PrtP} (h : PrtAt b H c p) : c.In H p := IntssAt.intss (h)
structure Prof where
  s : Cat
  t : Cat
  sz : List (List Int)
  be : List (List (List Int))
  bh : List (List (List Int))
structure ProfP where
  s : CatP
  t : CatP
  a2 : Option Addr
  r2 : Nat → Option Addr
  a3 : Option Addr
  r3 : Nat → Option Addr
  s3 : Nat → Nat → Option Addr
  a4 : Option Addr
  r4 : Nat → Option Addr
  s4 : Nat → Nat → Option Addr
def Prof.cells (c : Prof) (p : ProfP) : List Value := c.s.cells p.s ++ (c.t.cells p.t ++ ([.slice p.a2 c.sz.length c.sz.length] ++ ([.slice p.a3 c.be.length c.be.length] ++ ([.slice p.a4 c.bh.length c.bh.length]))))
def Prof.In (H : GHeap) (c : Prof) (p : ProfP) : Prop := c.s.In H p.s ∧ c.t.In H p.t ∧ Intss H p.a2 c.sz p.r2 ∧ Intsss H p.a3 c.be p.r3 p.s3 ∧ Intsss H p.a4 c.bh p.r4 p.s4
theorem Prof.In.mono {H H' : GHeap} {c : Prof} {p : ProfP} (h : c.In H p) (hle : H.Le H') : c.In H' p := ⟨Cat.In.mono (h.1) hle, Cat.In.mono (h.2.1) hle, Intss.mono (h.2.2.1) hle, Intsss.mono (h.2.2.2.1) hle, Intsss.mono (h.2.2.2.2) hle⟩
def Prof.At (H : GHeap) (g o : Nat) (c : Prof) (p : ProfP) : Prop := Mem H g o (c.cells p) ∧ c.In H p
theorem Prof.At.mono {H H' : GHeap} {g o : Nat} {c : Prof} {p : ProfP} (h : Prof.At H g o c p) (hle : H.Le H') : Prof.At H' g o c p := ⟨h.1.mono hle, Prof.In.mono h.2 hle⟩
theorem Prof.At.get {H : GHeap} {g o : Nat} {c : Prof} {p : ProfP} (h : Prof.At H g o c p) : Cat.At H g (o + 0) c.s p.s ∧ Cat.At H g (o + 5) c.t p.t ∧ H.cell g (o + 10) = some (.slice p.a2 c.sz.length c.sz.length) ∧ H.cell g (o + 11) = some (.slice p.a3 c.be.length c.be.length) ∧ H.cell g (o + 12) = some (.slice p.a4 c.bh.length c.bh.length) ∧ Intss H p.a2 c.sz p.r2 ∧ Intsss H p.a3 c.be p.r3 p.s3 ∧ Intsss H p.a4 c.bh p.r4 p.s4 :=
  ⟨⟨h.1.left, h.2.1⟩, ⟨(h.1.right (n := 5) rfl).left, h.2.2.1⟩, ((h.1.right (n := 5) rfl).right (n := 5) rfl).left 0 _ rfl, (((h.1.right (n := 5) rfl).right (n := 5) rfl).right (n := 1) rfl).left 0 _ rfl, ((((h.1.right (n := 5) rfl).right (n := 5) rfl).right (n := 1) rfl).right (n := 1) rfl) 0 _ rfl, h.2.2.2.1, h.2.2.2.2.1, h.2.2.2.2.2⟩
def Prof.Small (c : Prof) : Prop := c.s.Small ∧ c.t.Small ∧ (c.sz.length ≤ 1048576 ∧ ∀ i, (c.sz.getD i []).length ≤ 1048576) ∧ Sm3 c.be ∧ Sm3 c.bh
def Prof.Wide (c : Prof) : Prop := c.s.Wide ∧ c.t.Wide ∧ (c.sz.length ≤ 9223372036854775807 ∧ ∀ i, I64s (c.sz.getD i [])) ∧ Wd3 c.be ∧ Wd3 c.bh
def ProfAt (b : Nat) (H : GHeap) (c : Prof) (p : ProfP) : Prop := CatAt b H c.s p.s ∧ CatAt b H c.t p.t ∧ IntssAt b H p.a2 c.sz p.r2 ∧ IntsssAt b H p.a3 c.be p.r3 p.s3 ∧ IntsssAt b H p.a4 c.bh p.r4 p.s4
theorem ProfAt.keep {b b' : Nat} {H H' : GHeap} {c : Prof} {p : ProfP} (h : ProfAt b H c p) (hk : Keep b' H H') (hb : b' ≤ b) : ProfAt b' H' c p := ⟨CatAt.keep (h.1) hk hb, CatAt.keep (h.2.1) hk hb, IntssAt.keep (h.2.2.1) hk hb, IntsssAt.keep (h.2.2.2.1) hk hb, IntsssAt.keep (h.2.2.2.2) hk hb⟩
theorem ProfAt.inn {b : Nat} {H : GHeap} {c : Prof} {p : ProfP} (h : ProfAt b H c p) : c.In H p := ⟨CatAt.inn (h.1), CatAt.inn (h.2.1), IntssAt.intss (h.2.2.1), IntsssAt.intsss (h.2.2.2.1), IntsssAt.intsss (h.2.2.2.2)⟩
end Go.GL
namespace Go.GL
open Go.RowKit

theorem CDo.makeIN {P : Program} {H : GHeap} {fr : Slots} {o : Oper} {t e : TypeId} {x y : Operand} {k k' : IntKind} {l c bytes : Nat} (ho : o.op = .makeSlice t x y) (ht : sliceT P t = some (e, 1)) (hz : zeroT P e = some ([.int .i64 0], 1)) (hb : (P.info? e).map (·.bytes) = some bytes)
    (hx : ev fr x = some (.int k (l : Int))) (hy : ev fr y = some (.int k' (c : Int))) (hlc : l ≤ c) (hsm : bytes * c ≤ 281474976710656) (hsc : c ≤ 9223372036854775807) :
    CDo P o fr H (fun r H' => ∃ g, r = some (.slice (some ⟨g, 0, none⟩) l l) ∧ H.Le H' ∧ H.next ≤ g ∧ H'.get g = some (.row (ints (List.replicate l 0)) e true)) := by
  have := CDo.makeI (P := P) (H := H) (fr := fr) (o := o) ho ht hz hb hx hy (by omega) (by omega) (by omega) (by omega)
  simpa using this

def thenL (f g : List Int) : List Int := f.map fun y => g.getD y.toNat 0
@[simp] theorem length_thenL (f g : List Int) : (thenL f g).length = f.length := by simp [thenL]
def Cat.Alike (c : Cat) (x y : Int) : Prop := ∃ g ∈ c.hom x y, 0 ≤ c.inv g
noncomputable def Cat.iso (c : Cat) (x y : Int) : Int := firstIn (c.hom x y) fun g => decide (0 ≤ c.inv g)
end Go.GL
namespace Go.GL

def first2 (n : Nat) (len : Nat → Nat) (p : Nat → Nat → Bool) : Int × Int :=
  match firstN n fun a => (firstN (len a) (p a)).isSome with
  | some a => ((a : Int), (((firstN (len a) (p a)).getD 0 : Nat) : Int))
  | none => (-1, 0)
def SFun.AcOk (f : SFun) (a : Nat) : Prop :=
  ((f.ac.getD a []).length : Int) = f.sz.getD (f.sh.src.getD a 0).toNat 0 ∧ allIn (f.ac.getD a []) (f.sz.getD (f.sh.tgt.getD a 0).toNat 0) = true
structure SFun.Shape (f : SFun) : Prop where
  c : f.sh.Is
  zl : (f.sz.length : Int) = f.sh.obj
  sz : ∀ i, i < f.sz.length → 0 ≤ f.sz.getD i 0 ∧ f.sz.getD i 0 ≤ 16
  al : f.ac.length = f.sh.src.length
  ac : ∀ a, a < f.ac.length → f.AcOk a
theorem SFun.Shape.act {f : SFun} (h : f.Shape) {a : Nat} (ha : a < f.ac.length) {e : Nat} (he : e < (f.ac.getD a []).length) : 0 ≤ (f.ac.getD a []).getD e 0 ∧ (f.ac.getD a []).getD e 0 < f.sz.getD (f.sh.tgt.getD a 0).toNat 0 := allIn_iff.1 (h.ac a ha).2 e he
theorem SFun.Shape.ends {f : SFun} (h : f.Shape) {a : Nat} (ha : a < f.sh.src.length) : 0 ≤ f.sh.src.getD a 0 ∧ f.sh.src.getD a 0 < f.sz.length ∧ 0 ≤ f.sh.tgt.getD a 0 ∧ f.sh.tgt.getD a 0 < f.sz.length ∧ ((f.ac.getD a []).length : Int) = f.sz.getD (f.sh.src.getD a 0).toNat 0 := by
  have hS := h.c.1
  have q1 := hS.src a ha
  have q2 := hS.tgt a (by have := hS.tl; omega)
  have q3 := h.zl
  have q4 := (h.ac a (by have := h.al; omega)).1
  omega
structure SFun.Laws (f : SFun) : Prop where
  ids : ∀ x : Nat, x < f.sh.idn.length → ∀ e : Nat, e < (f.ac.getD (f.sh.idn.getD x 0).toNat []).length → (f.ac.getD (f.sh.idn.getD x 0).toNat []).getD e 0 = e
  th : ∀ a : Nat, a < f.sh.src.length → ∀ b : Nat, b < f.sh.src.length → f.sh.tgt.getD a 0 = f.sh.src.getD b 0 → ∀ e : Nat, e < (f.ac.getD a []).length →
    (f.ac.getD ((f.sh.comp.getD a []).getD b 0).toNat []).getD e 0 = (f.ac.getD b []).getD ((f.ac.getD a []).getD e 0).toNat 0
def SFun.Is (f : SFun) : Prop := f.Shape ∧ f.Laws

def SMap.PaOk (m : SMap) (x : Nat) : Prop := ((m.pa.getD x []).length : Int) = m.s.sz.getD x 0 ∧ allIn (m.pa.getD x []) (m.t.sz.getD x 0) = true
structure SMap.Fits (m : SMap) : Prop where
  pl : m.pa.length = m.s.sz.length
  pa : ∀ x, x < m.pa.length → m.PaOk x
structure SMap.Shape (m : SMap) : Prop where
  s : m.s.Is
  t : m.t.Is
  sh : m.s.sh = m.t.sh
  fits : m.Fits
def SMap.bad (m : SMap) (a e : Nat) : Bool := decide (¬ (m.pa.getD (m.s.sh.tgt.getD a 0).toNat []).getD ((m.s.ac.getD a []).getD e 0).toNat 0 = (m.t.ac.getD a []).getD ((m.pa.getD (m.s.sh.src.getD a 0).toNat []).getD e 0).toNat 0)
def SMap.first (m : SMap) : Int × Int := first2 m.s.ac.length (fun a => (m.s.ac.getD a []).length) m.bad
def SMap.Is (m : SMap) : Prop := m.Shape ∧ ∀ a, a < m.s.ac.length → ∀ e, e < (m.s.ac.getD a []).length → m.bad a e = false
end Go.GL
namespace Go.GL

def numsL (n : Nat) : List Int := (List.range n).map fun (i : Nat) => (i : Int)
@[simp] theorem length_numsL (n : Nat) : (numsL n).length = n := by simp [numsL]
def NoMove (xs : List Int) : Prop := ∀ i : Nat, i < xs.length → xs.getD i 0 = i
structure Prof.Sized (m : Prof) : Prop where
  sl : (m.sz.length : Int) = m.s.obj
  bl : m.be.length = m.s.src.length
  hl : m.bh.length = m.t.src.length
  row : ∀ x, x < m.sz.length → ((m.sz.getD x []).length : Int) = m.t.obj
  rng : ∀ x, x < m.sz.length → ∀ y, y < (m.sz.getD x []).length → 0 ≤ (m.sz.getD x []).getD y 0 ∧ (m.sz.getD x []).getD y 0 ≤ 64
def Prof.BeOk (m : Prof) (a y : Nat) : Prop :=
  (((m.be.getD a []).getD y []).length : Int) = (m.sz.getD (m.s.tgt.getD a 0).toNat []).getD y 0 ∧ allIn ((m.be.getD a []).getD y []) ((m.sz.getD (m.s.src.getD a 0).toNat []).getD y 0) = true
def Prof.BhOk (m : Prof) (b x : Nat) : Prop :=
  (((m.bh.getD b []).getD x []).length : Int) = (m.sz.getD x []).getD (m.t.src.getD b 0).toNat 0 ∧ allIn ((m.bh.getD b []).getD x []) ((m.sz.getD x []).getD (m.t.tgt.getD b 0).toNat 0) = true
structure Prof.Maps (m : Prof) : Prop where
  be : ∀ a, a < m.be.length → ((m.be.getD a []).length : Int) = m.t.obj ∧ ∀ y, y < (m.be.getD a []).length → m.BeOk a y
  bh : ∀ b, b < m.bh.length → ((m.bh.getD b []).length : Int) = m.s.obj ∧ ∀ x, x < (m.bh.getD b []).length → m.BhOk b x
structure Prof.Shape (m : Prof) : Prop where
  s : m.s.Is
  t : m.t.Is
  z : m.Sized
  ok : m.Maps
theorem Prof.Sized.b {m : Prof} (z : m.Sized) (s : m.s.Is) {a : Nat} (ha : a < m.be.length) : a < m.s.src.length ∧ a < m.s.tgt.length ∧ 0 ≤ m.s.src.getD a 0 ∧ m.s.src.getD a 0 < m.sz.length ∧ 0 ≤ m.s.tgt.getD a 0 ∧ m.s.tgt.getD a 0 < m.sz.length ∧
    ((m.sz.getD (m.s.src.getD a 0).toNat []).length : Int) = m.t.obj ∧ ((m.sz.getD (m.s.tgt.getD a 0).toNat []).length : Int) = m.t.obj := by
  have h0 := z.bl
  have h1 := s.1.tl
  have h2 := s.1.src a (by omega)
  have h3 := s.1.tgt a (by omega)
  have h4 := z.sl
  exact ⟨by omega, by omega, by omega, by omega, by omega, by omega, z.row _ (by omega), z.row _ (by omega)⟩
theorem Prof.Sized.h {m : Prof} (z : m.Sized) (t : m.t.Is) {b : Nat} (hb : b < m.bh.length) : b < m.t.src.length ∧ b < m.t.tgt.length ∧ 0 ≤ m.t.src.getD b 0 ∧ m.t.src.getD b 0 < m.t.obj ∧ 0 ≤ m.t.tgt.getD b 0 ∧ m.t.tgt.getD b 0 < m.t.obj := by
  have h0 := z.hl
  have h1 := t.1.tl
  have h2 := t.1.src b (by omega)
  have h3 := t.1.tgt b (by omega)
  exact ⟨by omega, by omega, by omega, by omega, by omega, by omega⟩
theorem Prof.Shape.by {m : Prof} (h : m.Shape) {a y : Nat} (ha : a < m.be.length) (hy : (y : Int) < m.t.obj) : y < (m.be.getD a []).length ∧ y < (m.sz.getD (m.s.src.getD a 0).toNat []).length ∧ y < (m.sz.getD (m.s.tgt.getD a 0).toNat []).length ∧
    (((m.be.getD a []).getD y []).length : Int) = (m.sz.getD (m.s.tgt.getD a 0).toNat []).getD y 0 ∧ (∀ i, i < ((m.be.getD a []).getD y []).length → 0 ≤ ((m.be.getD a []).getD y []).getD i 0 ∧ ((m.be.getD a []).getD y []).getD i 0 < (m.sz.getD (m.s.src.getD a 0).toNat []).getD y 0) ∧
    (0 ≤ (m.sz.getD (m.s.src.getD a 0).toNat []).getD y 0 ∧ (m.sz.getD (m.s.src.getD a 0).toNat []).getD y 0 ≤ 64) ∧ 0 ≤ (m.sz.getD (m.s.tgt.getD a 0).toNat []).getD y 0 ∧ (m.sz.getD (m.s.tgt.getD a 0).toNat []).getD y 0 ≤ 64 := by
  have q := h.z.b h.s ha
  have r := h.ok.be a ha
  have r2 := r.2 y (by omega)
  exact ⟨by omega, by omega, by omega, r2.1, allIn_iff.1 r2.2, h.z.rng _ (by omega) _ (by omega), h.z.rng _ (by omega) _ (by omega)⟩
theorem Prof.Shape.hx {m : Prof} (h : m.Shape) {b x : Nat} (hb : b < m.bh.length) (hx : (x : Int) < m.s.obj) : x < (m.bh.getD b []).length ∧ x < m.sz.length ∧ (m.t.src.getD b 0).toNat < (m.sz.getD x []).length ∧ (m.t.tgt.getD b 0).toNat < (m.sz.getD x []).length ∧
    (((m.bh.getD b []).getD x []).length : Int) = (m.sz.getD x []).getD (m.t.src.getD b 0).toNat 0 ∧ (∀ i, i < ((m.bh.getD b []).getD x []).length → 0 ≤ ((m.bh.getD b []).getD x []).getD i 0 ∧ ((m.bh.getD b []).getD x []).getD i 0 < (m.sz.getD x []).getD (m.t.tgt.getD b 0).toNat 0) ∧
    (0 ≤ (m.sz.getD x []).getD (m.t.src.getD b 0).toNat 0 ∧ (m.sz.getD x []).getD (m.t.src.getD b 0).toNat 0 ≤ 64) ∧ 0 ≤ (m.sz.getD x []).getD (m.t.tgt.getD b 0).toNat 0 ∧ (m.sz.getD x []).getD (m.t.tgt.getD b 0).toNat 0 ≤ 64 := by
  have q := h.z.h h.t hb
  have z := h.z.sl
  have w := h.z.row x (by omega)
  have r := h.ok.bh b hb
  have r2 := r.2 x (by omega)
  exact ⟨by omega, by omega, by omega, by omega, r2.1, allIn_iff.1 r2.2, h.z.rng _ (by omega) _ (by omega), h.z.rng _ (by omega) _ (by omega)⟩
theorem Cat.Shape.comp {c : Cat} (h : c.Shape) {a b : Nat} (ha : a < c.src.length) (hb : b < c.src.length) (hp : 0 ≤ (c.comp.getD a []).getD b 0) :
    c.tgt.getD a 0 = c.src.getD b 0 ∧ (c.comp.getD a []).getD b 0 < c.src.length ∧ c.src.getD ((c.comp.getD a []).getD b 0).toNat 0 = c.src.getD a 0 ∧ c.tgt.getD ((c.comp.getD a []).getD b 0).toNat 0 = c.tgt.getD b 0 := by
  have u := (h.th_ge (f := a) (g := b) ha hb).1 hp
  exact ⟨u, ((Cat.Cell.pos u).1 (h.cell a (by have := h.cl; omega) b hb)).2⟩

structure Prof.Acts (m : Prof) : Prop where
  idb : ∀ y : Nat, (y : Int) < m.t.obj → ∀ x : Nat, (x : Int) < m.s.obj → NoMove ((m.be.getD (m.s.idn.getD x 0).toNat []).getD y []) ∧ NoMove ((m.bh.getD (m.t.idn.getD y 0).toNat []).getD x [])
  thb : ∀ y : Nat, (y : Int) < m.t.obj → ∀ a : Nat, a < m.s.src.length → ∀ b : Nat, b < m.s.src.length → 0 ≤ (m.s.comp.getD a []).getD b 0 →
    (m.be.getD ((m.s.comp.getD a []).getD b 0).toNat []).getD y [] = thenL ((m.be.getD b []).getD y []) ((m.be.getD a []).getD y [])
  thh : ∀ x : Nat, (x : Int) < m.s.obj → ∀ a : Nat, a < m.t.src.length → ∀ b : Nat, b < m.t.src.length → 0 ≤ (m.t.comp.getD a []).getD b 0 →
    (m.bh.getD ((m.t.comp.getD a []).getD b 0).toNat []).getD x [] = thenL ((m.bh.getD a []).getD x []) ((m.bh.getD b []).getD x [])
def Prof.MixAt (m : Prof) (a b : Nat) : Prop :=
  thenL ((m.be.getD a []).getD (m.t.src.getD b 0).toNat []) ((m.bh.getD b []).getD (m.s.src.getD a 0).toNat []) = thenL ((m.bh.getD b []).getD (m.s.tgt.getD a 0).toNat []) ((m.be.getD a []).getD (m.t.tgt.getD b 0).toNat [])
def Prof.Mix (m : Prof) : Prop := ∀ a, a < m.s.src.length → ∀ b, b < m.t.src.length → m.MixAt a b
def Prof.Is (m : Prof) : Prop := m.Shape ∧ m.Acts ∧ m.Mix

def sumN (f : Nat → Int) : Nat → Int
  | 0 => 0
  | n + 1 => sumN f n + f n
theorem sumN_bd {f : Nat → Int} {c : Int} {N : Nat} (h : ∀ i, i < N → 0 ≤ f i ∧ f i ≤ c) : ∀ {n}, n ≤ N → 0 ≤ sumN f n ∧ sumN f n ≤ n * c
  | 0, _ => ⟨Int.le_refl _, by simp [sumN]⟩
  | n + 1, hn => by
    have h1 := sumN_bd h (n := n) (by omega)
    have h2 := h n (by omega)
    have h3 : ((n + 1 : Nat) : Int) * c = n * c + c := by rw [Int.natCast_add, Int.add_mul]; simp
    rw [h3]
    simp only [sumN]
    omega
def Prof.diag (m : Prof) (i : Nat) : Int := (m.sz.getD i []).getD i 0
def Prof.firsts (m : Prof) (n : Nat) : List Int := (List.range n).map (sumN m.diag)
@[simp] theorem Prof.length_firsts (m : Prof) (n : Nat) : (m.firsts n).length = n := by simp [Prof.firsts]
noncomputable def Prof.code (m : Prof) : Int := bif B m.Is then (bif B (m.s = m.t) then 0 else 5) else 1
theorem Prof.code_ok {m : Prof} (h : m.Is) (h' : m.s = m.t) : m.code = 0 := by unfold Prof.code; rw [B_true h, B_true h']; rfl
theorem Prof.Sized.diag {m : Prof} (z : m.Sized) (e : m.s = m.t) {i : Nat} (hi : i < m.sz.length) : i < (m.sz.getD i []).length ∧ 0 ≤ m.diag i ∧ m.diag i ≤ 64 := by
  have h1 := z.row i hi
  have h2 := z.sl
  rw [e] at h2
  have h3 := z.rng i hi i (by omega)
  exact ⟨by omega, h3⟩
theorem Prof.Sized.sum {m : Prof} (z : m.Sized) (e : m.s = m.t) {n : Nat} (hn : n ≤ m.sz.length) : 0 ≤ sumN m.diag n ∧ sumN m.diag n ≤ n * 64 := sumN_bd (N := m.sz.length) (fun _ hi => (z.diag e hi).2) hn
noncomputable def Prof.place (m : Prof) (x e : Int) : Int × Int := bif B (m.code = 0) then (bif B (0 ≤ x ∧ x < m.s.obj ∧ 0 ≤ e ∧ e < m.diag x.toNat) then (sumN m.diag x.toNat + e, 0) else (0, 2)) else (0, m.code)
abbrev L3 := List (List (List Int))
def Prof.CoOk (m n : Prof) (c : L3) (x y : Nat) : Prop := (((c.getD x []).getD y []).length : Int) = (m.sz.getD x []).getD y 0 ∧ allIn ((c.getD x []).getD y []) ((n.sz.getD x []).getD y 0) = true
structure Prof.Rows (m n : Prof) (c : L3) : Prop where
  cl : (c.length : Int) = m.s.obj
  row : ∀ x, x < c.length → ((c.getD x []).length : Int) = m.t.obj ∧ ∀ y, y < (c.getD x []).length → m.CoOk n c x y
def Prof.NatB (m n : Prof) (c : L3) (a y : Nat) : Prop :=
  thenL ((m.be.getD a []).getD y []) ((c.getD (m.s.src.getD a 0).toNat []).getD y []) = thenL ((c.getD (m.s.tgt.getD a 0).toNat []).getD y []) ((n.be.getD a []).getD y [])
def Prof.NatH (m n : Prof) (c : L3) (b x : Nat) : Prop :=
  thenL ((m.bh.getD b []).getD x []) ((c.getD x []).getD (m.t.tgt.getD b 0).toNat []) = thenL ((c.getD x []).getD (m.t.src.getD b 0).toNat []) ((n.bh.getD b []).getD x [])
structure Prof.IsMap (m n : Prof) (c : L3) : Prop where
  rows : m.Rows n c
  nb : ∀ a, a < m.s.src.length → ∀ y : Nat, (y : Int) < m.t.obj → m.NatB n c a y
  nh : ∀ b, b < m.t.src.length → ∀ x : Nat, (x : Int) < m.s.obj → m.NatH n c b x
theorem Prof.Rows.co {m n : Prof} {c : L3} (h : m.Rows n c) {x y : Nat} (hx : (x : Int) < m.s.obj) (hy : (y : Int) < m.t.obj) : x < c.length ∧ y < (c.getD x []).length ∧ (((c.getD x []).getD y []).length : Int) = (m.sz.getD x []).getD y 0 ∧
    ∀ i, i < ((c.getD x []).getD y []).length → 0 ≤ ((c.getD x []).getD y []).getD i 0 ∧ ((c.getD x []).getD y []).getD i 0 < (n.sz.getD x []).getD y 0 := by
  have h1 := h.cl
  have h2 := h.row x (by omega)
  have h3 := h2.2 y (by omega)
  exact ⟨by omega, by omega, h3.1, allIn_iff.1 h3.2⟩
end Go.GL
namespace Go.GL

structure StM (lo hi : Nat) (H H' : GHeap) : Prop where
  nx : H.next ≤ H'.next
  same : ∀ k o, ¬ (lo ≤ k ∧ k < hi) → H.get k = some o → H'.get k = some o
  ins : ∀ k o, H.get k = some o → ∃ o', H'.get k = some o' ∧ (o' = o ∨ ∃ xs ys e, o = .row (ints xs) e true ∧ o' = .row (ints ys) e true ∧ ys.length = xs.length)
theorem StM.refl (lo hi : Nat) (H : GHeap) : StM lo hi H H := ⟨Nat.le_refl _, fun _ _ _ h => h, fun _ o h => ⟨o, h, .inl rfl⟩⟩
theorem StM.of_le {lo hi : Nat} {H H' : GHeap} (h : H.Le H') : StM lo hi H H' := ⟨h.1, fun k o _ ho => h.2 k o ho, fun _ o ho => ⟨o, h.2 _ _ ho, .inl rfl⟩⟩
theorem ints_inj {xs ys : List Int} (h : ints xs = ints ys) : xs = ys := by
  unfold ints at h
  exact (List.map_inj_right (fun a b hab => by cases hab; rfl)).1 h
theorem StM.trans {lo hi : Nat} {A B C : GHeap} (h : StM lo hi A B) (k : StM lo hi B C) : StM lo hi A C where
  nx := Nat.le_trans h.nx k.nx
  same g o hg ho := k.same g o hg (h.same g o hg ho)
  ins g o ho := by
    obtain ⟨o1, h1, h2⟩ := h.ins g o ho
    obtain ⟨o2, k1, k2⟩ := k.ins g o1 h1
    refine ⟨o2, k1, ?_⟩
    rcases h2 with rfl | ⟨xs, ys, e, rfl, rfl, hl⟩
    · exact k2
    · rcases k2 with rfl | ⟨us, vs, e', h3, rfl, hl'⟩
      · exact .inr ⟨xs, ys, e, rfl, rfl, hl⟩
      · injection h3 with h3 h4 h5
        have := ints_inj h3
        subst this
        subst h4
        exact .inr ⟨xs, vs, _, rfl, rfl, by rw [hl', hl]⟩
def IntsW (lo hi : Nat) (H : GHeap) (a : Option Addr) (n : Nat) : Prop := n = 0 ∨ ∃ g e xs, a = some ⟨g, 0, none⟩ ∧ lo ≤ g ∧ g < hi ∧ H.get g = some (.row (ints xs) e true) ∧ xs.length = n
theorem IntsW.stm {lo hi : Nat} {H H' : GHeap} {a : Option Addr} {n : Nat} (h : IntsW lo hi H a n) (s : StM lo hi H H') : IntsW lo hi H' a n := by
  rcases h with h | ⟨g, e, xs, h1, h2, h3, h4, h5⟩
  · exact .inl h
  · obtain ⟨o', k1, k2⟩ := s.ins g _ h4
    rcases k2 with rfl | ⟨us, vs, e', h6, rfl, hl⟩
    · exact .inr ⟨g, e, xs, h1, h2, h3, k1, h5⟩
    · injection h6 with h6 h7 h8
      have := ints_inj h6
      subst this
      exact .inr ⟨g, e', vs, h1, h2, h3, k1, by rw [hl, h5]⟩
theorem IntsW.of_at {b : Nat} {H0 H : GHeap} {a : Option Addr} {xs : List Int} (h : IntsAt b H0 a xs) (k : Keep b H0 H) : IntsW b H0.next H a xs.length := by
  obtain ⟨g, e, h1, h2, h3⟩ := h
  exact .inr ⟨g, e, xs, h1, h2, GHeap.ltg h3, k g _ h2 h3, rfl⟩
def HdGe (b : Nat) (a : Option Addr) (n : Nat) : Prop := n = 0 ∨ ∃ g o, a = some ⟨g, o, none⟩ ∧ b ≤ g
theorem HdGe.le {b b' : Nat} {a : Option Addr} {n : Nat} (h : HdGe b a n) (hb : b' ≤ b) : HdGe b' a n := h.imp id fun ⟨g, o, h1, h2⟩ => ⟨g, o, h1, Nat.le_trans hb h2⟩
theorem SlA.keep {b b' : Nat} {H H' : GHeap} {a : Option Addr} {n : Nat} {f : Nat → Value} (h : SlA H a n f) (hd : HdGe b a n) (k : Keep b' H H') (hb : b' ≤ b) : SlA H' a n f := by
  rcases hd with h0 | ⟨g, o, rfl, hg⟩
  · exact .inl h0
  · rcases h with h0 | ⟨g', o', e, hc⟩
    · exact .inl h0
    · cases e
      refine .inr ⟨g, o, rfl, fun i hi => ?_⟩
      have h1 := hc i hi
      unfold GHeap.cell at h1 ⊢
      cases hx : H.get g with
      | none => rw [hx] at h1; cases h1
      | some x => rw [hx] at h1; rw [k g x (by omega) hx]; exact h1
def IntssW (lo hi : Nat) (H : GHeap) (a : Option Addr) (xss : List (List Int)) (r : Nat → Option Addr) : Prop :=
  SlA H a xss.length (fun i => .slice (r i) (xss.getD i []).length (xss.getD i []).length) ∧ (∀ i, i < xss.length → IntsW lo hi H (r i) (xss.getD i []).length) ∧ HdGe lo a xss.length
theorem SlA.stm {lo hi : Nat} {H H' : GHeap} {a : Option Addr} {n : Nat} {f : Nat → Value} (h : SlA H a n f) (s : StM lo hi H H') (hf : ∀ i m, f i ≠ .int .i64 m) : SlA H' a n f := by
  rcases h with h | ⟨g, o, e, h⟩
  · exact .inl h
  · refine .inr ⟨g, o, e, fun i hi => ?_⟩
    have hc := h i hi
    unfold GHeap.cell at hc ⊢
    split at hc
    · rename_i cs el own hg
      obtain ⟨o', k1, k2⟩ := s.ins g _ hg
      rw [k1]
      rcases k2 with rfl | ⟨us, vs, e', h6, rfl, hl⟩
      · exact hc
      · injection h6 with h6 h7 h8
        subst h6
        exfalso
        simp only [ints, List.getElem?_map, Option.map_eq_some_iff] at hc
        obtain ⟨m, _, hm⟩ := hc
        exact hf i m hm.symm
    · cases hc
theorem IntssW.stm {lo hi : Nat} {H H' : GHeap} {a : Option Addr} {xss : List (List Int)} {r : Nat → Option Addr} (h : IntssW lo hi H a xss r) (s : StM lo hi H H') : IntssW lo hi H' a xss r :=
  ⟨h.1.stm s fun i m e => (by cases e), fun i hi => (h.2.1 i hi).stm s, h.2.2⟩
theorem IntssW.of_at {b : Nat} {H0 H : GHeap} {a : Option Addr} {xss : List (List Int)} {r : Nat → Option Addr} (h : IntssAt b H0 a xss r) (k : Keep b H0 H) : IntssW b H0.next H a xss r :=
  ⟨(h.keep k (Nat.le_refl _)).intss.1, fun i hi => by obtain ⟨g, e, cs, _, _, _, _, _, h6⟩ := h; exact .of_at (h6 i hi) k, by obtain ⟨g, e, cs, h1, h2, _⟩ := h; exact .inr ⟨g, 0, h1, h2⟩⟩
def sumL : List (List Int) → Nat
  | [] => 0
  | xs :: r => xs.length + sumL r
def CatW (lo hi : Nat) (H : GHeap) (c : Cat) (p : CatP) : Prop := IntsW lo hi H p.a1 c.src.length ∧ IntsW lo hi H p.a2 c.tgt.length ∧ IntsW lo hi H p.a3 c.idn.length ∧ IntssW lo hi H p.a4 c.comp p.r
theorem CatW.stm {lo hi : Nat} {H H' : GHeap} {c : Cat} {p : CatP} (h : CatW lo hi H c p) (s : StM lo hi H H') : CatW lo hi H' c p := ⟨h.1.stm s, h.2.1.stm s, h.2.2.1.stm s, h.2.2.2.stm s⟩
theorem CatW.of_at {b : Nat} {H0 H : GHeap} {c : Cat} {p : CatP} (h : CatAt b H0 c p) (k : Keep b H0 H) : CatW b H0.next H c p := ⟨.of_at h.1 k, .of_at h.2.1 k, .of_at h.2.2.1 k, .of_at h.2.2.2 k⟩
def FunW (lo hi : Nat) (H : GHeap) (f : Fun) (p : FunP) : Prop := CatW lo hi H f.s p.s ∧ CatW lo hi H f.t p.t ∧ IntsW lo hi H p.b1 f.ob.length ∧ IntsW lo hi H p.b2 f.ar.length
theorem FunW.stm {lo hi : Nat} {H H' : GHeap} {c : Fun} {p : FunP} (h : FunW lo hi H c p) (s : StM lo hi H H') : FunW lo hi H' c p := ⟨h.1.stm s, h.2.1.stm s, h.2.2.1.stm s, h.2.2.2.stm s⟩
theorem FunW.of_at {b : Nat} {H0 H : GHeap} {c : Fun} {p : FunP} (h : FunAt b H0 c p) (k : Keep b H0 H) : FunW b H0.next H c p := ⟨.of_at h.1 k, .of_at h.2.1 k, .of_at h.2.2.1 k, .of_at h.2.2.2 k⟩
def ConW (lo hi : Nat) (H : GHeap) (c : Con) (p : ConP) : Prop := IntsW lo hi H p.a1 c.lg.length
theorem ConW.stm {lo hi : Nat} {H H' : GHeap} {c : Con} {p : ConP} (h : ConW lo hi H c p) (s : StM lo hi H H') : ConW lo hi H' c p := IntsW.stm h s
theorem ConW.of_at {b : Nat} {H0 H : GHeap} {c : Con} {p : ConP} (h : ConAt b H0 c p) (k : Keep b H0 H) : ConW b H0.next H c p := IntsW.of_at h k

def seqL (k : Int) (n : Nat) : List Int := (List.range n).map fun (i : Nat) => k + (i : Int)
@[simp] theorem length_seqL (k : Int) (n : Nat) : (seqL k n).length = n := by simp [seqL]
abbrev Leaf := Option Addr × Nat
def lvBlk : Leaf → List Nat
  | (some a, _ + 1) => [a.block]
  | _ => []
def lvBlks (ls : List Leaf) : List Nat := ls.flatMap lvBlk
def lvSum : List Leaf → Nat
  | [] => 0
  | l :: r => l.2 + lvSum r
def Live1 (b : Nat) (H : GHeap) (l : Leaf) : Prop := l.2 = 0 ∨ ∃ g e xs, l.1 = some ⟨g, 0, none⟩ ∧ b ≤ g ∧ H.get g = some (.row (ints xs) e true) ∧ xs.length = l.2
def Lives (b : Nat) (H : GHeap) (ls : List Leaf) : Prop := ∀ l ∈ ls, Live1 b H l
def Held (b : Nat) (H : GHeap) : List Leaf → Int → Prop
  | [], _ => True
  | l :: r, k => (l.2 = 0 ∨ ∃ g e, l.1 = some ⟨g, 0, none⟩ ∧ b ≤ g ∧ H.get g = some (.row (ints (seqL k l.2)) e true)) ∧ Held b H r (k + l.2)
theorem Held.keep0 {b : Nat} {H H' : GHeap} : ∀ {ls : List Leaf} {k : Int}, Held b H ls k → Keep b H H' → Held b H' ls k
  | [], _, _, _ => trivial
  | _ :: _, _, h, hk => ⟨h.1.imp id fun ⟨g, e, h1, h2, h3⟩ => ⟨g, e, h1, h2, hk g _ h2 h3⟩, Held.keep0 h.2 hk⟩
theorem Held.append {b : Nat} {H : GHeap} : ∀ {ls ms : List Leaf} {k : Int}, Held b H ls k → Held b H ms (k + lvSum ls) → Held b H (ls ++ ms) k
  | [], _, _, _, h => by simpa [lvSum] using h
  | l :: r, ms, k, h, h' => ⟨h.1, Held.append h.2 (by rw [show k + (l.2 : Int) + (lvSum r : Int) = k + (lvSum (l :: r) : Int) by simp [lvSum]; omega]; exact h')⟩
structure StB (bs : List Nat) (H H' : GHeap) : Prop where
  nx : H.next ≤ H'.next
  same : ∀ k o, ¬ k ∈ bs → H.get k = some o → H'.get k = some o
theorem StB.refl (bs : List Nat) (H : GHeap) : StB bs H H := ⟨Nat.le_refl _, fun _ _ _ h => h⟩
theorem StB.trans {bs cs : List Nat} {A B C : GHeap} (h : StB bs A B) (k : StB cs B C) : StB (bs ++ cs) A C :=
  ⟨Nat.le_trans h.nx k.nx, fun g o hg ho => k.same g o (fun hc => hg (List.mem_append_right _ hc)) (h.same g o (fun hc => hg (List.mem_append_left _ hc)) ho)⟩
theorem Live1.blk {b : Nat} {H : GHeap} {l : Leaf} (h : Live1 b H l) {g : Nat} {e : TypeId} {xs : List Int} (h1 : l.1 = some ⟨g, 0, none⟩) (hn : l.2 ≠ 0) : g ∈ lvBlk l := by
  obtain ⟨a, n⟩ := l
  simp only at h1 hn
  subst h1
  cases n with
  | zero => exact absurd rfl hn
  | succ n => simp [lvBlk]
theorem Lives.stB {b : Nat} {H H' : GHeap} {ls : List Leaf} {bs : List Nat} (h : Lives b H ls) (s : StB bs H H') (hd : ∀ g ∈ lvBlks ls, ¬ g ∈ bs) : Lives b H' ls := fun l hl => by
  by_cases hn : l.2 = 0
  · exact .inl hn
  · rcases h l hl with h0 | ⟨g, e, xs, h1, h2, h3, h4⟩
    · exact .inl h0
    · exact .inr ⟨g, e, xs, h1, h2, s.same g _ (hd g (List.mem_flatMap.2 ⟨l, hl, (h l hl).blk (e := e) (xs := xs) h1 hn⟩)) h3, h4⟩
theorem Live1.keep {b : Nat} {H H' : GHeap} {l : Leaf} (h : Live1 b H l) (k : Keep b H H') : Live1 b H' l := h.imp id fun ⟨g, e, xs, h1, h2, h3, h4⟩ => ⟨g, e, xs, h1, h2, k g _ h2 h3, h4⟩
theorem Lives.keep {b : Nat} {H H' : GHeap} {ls : List Leaf} (h : Lives b H ls) (k : Keep b H H') : Lives b H' ls := fun l hl => (h l hl).keep k
theorem Held.stB {b : Nat} {H H' : GHeap} {bs : List Nat} (s : StB bs H H') : ∀ {ls : List Leaf} {k : Int}, Held b H ls k → (∀ g ∈ lvBlks ls, ¬ g ∈ bs) → Held b H' ls k
  | [], _, _, _ => trivial
  | l :: r, k, h, hd => by
    refine ⟨?_, Held.stB s h.2 fun g hg => hd g (by simp only [lvBlks, List.flatMap_cons, List.mem_append]; exact .inr hg)⟩
    by_cases hn : l.2 = 0
    · exact .inl hn
    · rcases h.1 with h0 | ⟨g, e, h1, h2, h3⟩
      · exact .inl h0
      · have hl : Live1 b H l := .inr ⟨g, e, _, h1, h2, h3, by simp⟩
        exact .inr ⟨g, e, h1, h2, s.same g _ (hd g (by simp only [lvBlks, List.flatMap_cons, List.mem_append]; exact .inl (hl.blk (e := e) (xs := seqL k l.2) h1 hn))) h3⟩
theorem Lives.app {b : Nat} {H : GHeap} {ls ms : List Leaf} (h : Lives b H ls) (h' : Lives b H ms) : Lives b H (ls ++ ms) := fun l hl => (List.mem_append.1 hl).elim (h l) (h' l)
theorem lvBlks_append (ls ms : List Leaf) : lvBlks (ls ++ ms) = lvBlks ls ++ lvBlks ms := by simp [lvBlks]
def IntsR (b : Nat) (H : GHeap) (a : Option Addr) (xs : List Int) : Prop := (xs = [] ∧ a = none) ∨ IntsAt b H a xs
theorem IntsR.keep {b b' : Nat} {H H' : GHeap} {a : Option Addr} {xs : List Int} (h : IntsR b H a xs) (k : Keep b' H H') (hb : b' ≤ b) : IntsR b' H' a xs := h.imp id fun h => h.keep k hb
theorem IntsR.ints {b : Nat} {H : GHeap} {a : Option Addr} {xs : List Int} (h : IntsR b H a xs) : Ints H a xs := by
  rcases h with ⟨rfl, _⟩ | h
  · exact .inl rfl
  · exact h.ints
theorem IntsR.live {b : Nat} {H : GHeap} {a : Option Addr} {xs : List Int} (h : IntsR b H a xs) : Live1 b H (a, xs.length) := by
  rcases h with ⟨rfl, _⟩ | ⟨g, e, h1, h2, h3⟩
  · exact .inl rfl
  · exact .inr ⟨g, e, xs, h1, h2, h3, rfl⟩
def Con.leaves (c : Con) (p : ConP) : List Leaf := [(p.a1, c.lg.length)]
def ConR (b : Nat) (H : GHeap) (c : Con) (p : ConP) : Prop := IntsR b H p.a1 c.lg
theorem ConR.keep {b b' : Nat} {H H' : GHeap} {c : Con} {p : ConP} (h : ConR b H c p) (k : Keep b' H H') (hb : b' ≤ b) : ConR b' H' c p := IntsR.keep h k hb
theorem ConR.inn {b : Nat} {H : GHeap} {c : Con} {p : ConP} (h : ConR b H c p) : c.In H p := IntsR.ints h
theorem Held.keep {b b' : Nat} {H H' : GHeap} {ls : List Leaf} {k : Int} (h : Held b H ls k) (hk : Keep b' H H') (hb : b' ≤ b) : Held b H' ls k := h.keep0 fun g o hg ho => hk g o (by omega) ho
theorem Held.app {b : Nat} {H : GHeap} : ∀ {ls ms : List Leaf} {k : Int}, Held b H (ls ++ ms) k → Held b H ls k ∧ Held b H ms (k + lvSum ls)
  | [], ms, k, h => ⟨trivial, by simpa [lvSum] using h⟩
  | l :: r, ms, k, h => by
    obtain ⟨h1, h2⟩ := Held.app (ls := r) h.2
    exact ⟨⟨h.1, h1⟩, by rw [show k + (lvSum (l :: r) : Int) = k + (l.2 : Int) + (lvSum r : Int) by simp [lvSum]; omega]; exact h2⟩
theorem Held.ints {b : Nat} {H : GHeap} {a : Option Addr} {n : Nat} {k : Int} (h : Held b H [(a, n)] k) : Ints H a (seqL k n) := by
  rcases h.1 with h0 | ⟨g, e, h1, h2, h3⟩
  · simp only at h0; subst h0; exact .inl (by simp)
  · simp only at h1 h3; subst h1; exact Ints.of_get h3

structure Marked (lo hi : Nat) (H H' : GHeap) (ls : List Leaf) (k : Int) : Prop where
  stm : StM lo hi H H'
  stb : StB (lvBlks ls) H H'
  held : (lvBlks ls).Nodup → Held lo H' ls k
theorem Marked.nil (lo hi : Nat) (H : GHeap) (k : Int) : Marked lo hi H H [] k := ⟨.refl _ _ _, .refl _ _, fun _ => trivial⟩
theorem Marked.app {lo hi : Nat} {A B C : GHeap} {ls ms : List Leaf} {k : Int} (h : Marked lo hi A B ls k) (h' : Marked lo hi B C ms (k + lvSum ls)) : Marked lo hi A C (ls ++ ms) k where
  stm := h.stm.trans h'.stm
  stb := by rw [lvBlks_append]; exact h.stb.trans h'.stb
  held := fun nd => by
    rw [lvBlks_append, List.nodup_append] at nd
    exact ((h.held nd.1).stB h'.stb fun g hg hg' => nd.2.2 g hg g hg' rfl).append (h'.held nd.2.1)
theorem Marked.one {lo hi g : Nat} {H H' : GHeap} {e : TypeId} {xs : List Int} {k : Int} (hlo : lo ≤ g) (hhi : g < hi) (h0 : H.get g = some (.row (ints xs) e true)) (s : St [g] H H') (h1 : H'.get g = some (.row (ints (seqL k xs.length)) e true)) (hn : xs.length ≠ 0) :
    Marked lo hi H H' [(some ⟨g, 0, none⟩, xs.length)] k where
  stm := ⟨s.nx, fun i o hi ho => s.same i o ⟨by omega, trivial⟩ ho, fun i o ho => by
    by_cases hi : i = g
    · subst hi
      rw [h0] at ho; cases ho
      exact ⟨_, h1, .inr ⟨xs, seqL k xs.length, e, rfl, rfl, by simp⟩⟩
    · exact ⟨o, s.same i o ⟨hi, trivial⟩ ho, .inl rfl⟩⟩
  stb := ⟨s.nx, fun i o hi ho => s.same i o ⟨fun e' => hi (by
    subst e'
    cases hx : xs.length with
    | zero => exact absurd hx hn
    | succ m => simp [lvBlks, lvBlk]), trivial⟩ ho⟩
  held := fun _ => ⟨.inr ⟨g, e, rfl, hlo, h1⟩, trivial⟩
def rowsL (r : Nat → Option Addr) (xss : List (List Int)) (n : Nat) : List Leaf := (List.range n).map fun i => (r i, (xss.getD i []).length)
theorem rowsL_succ (r : Nat → Option Addr) (xss : List (List Int)) (n : Nat) : rowsL r xss (n + 1) = rowsL r xss n ++ [(r n, (xss.getD n []).length)] := by simp [rowsL, List.range_succ]
def Cat.leaves (c : Cat) (p : CatP) : List Leaf := [(p.a1, c.src.length)] ++ ([(p.a2, c.tgt.length)] ++ ([(p.a3, c.idn.length)] ++ rowsL p.r c.comp c.comp.length))
def Fun.leaves (f : Fun) (p : FunP) : List Leaf := f.s.leaves p.s ++ (f.t.leaves p.t ++ ([(p.b1, f.ob.length)] ++ [(p.b2, f.ar.length)]))
theorem IntsW.keep {lo lo' hi : Nat} {H H' : GHeap} {a : Option Addr} {n : Nat} (h : IntsW lo hi H a n) (k : Keep lo' H H') (hb : lo' ≤ lo) : IntsW lo hi H' a n := h.imp id fun ⟨g, e, xs, h1, h2, h3, h4, h5⟩ => ⟨g, e, xs, h1, h2, h3, k g _ (by omega) h4, h5⟩
theorem IntssW.keep {lo lo' hi : Nat} {H H' : GHeap} {a : Option Addr} {xss : List (List Int)} {r : Nat → Option Addr} (h : IntssW lo hi H a xss r) (k : Keep lo' H H') (hb : lo' ≤ lo) : IntssW lo hi H' a xss r := ⟨h.1.keep h.2.2 k hb, fun i hi => (h.2.1 i hi).keep k hb, h.2.2⟩
theorem CatW.keep {lo lo' hi : Nat} {H H' : GHeap} {c : Cat} {p : CatP} (h : CatW lo hi H c p) (k : Keep lo' H H') (hb : lo' ≤ lo) : CatW lo hi H' c p := ⟨h.1.keep k hb, h.2.1.keep k hb, h.2.2.1.keep k hb, h.2.2.2.keep k hb⟩
theorem FunW.keep {lo lo' hi : Nat} {H H' : GHeap} {c : Fun} {p : FunP} (h : FunW lo hi H c p) (k : Keep lo' H H') (hb : lo' ≤ lo) : FunW lo hi H' c p := ⟨h.1.keep k hb, h.2.1.keep k hb, h.2.2.1.keep k hb, h.2.2.2.keep k hb⟩
theorem ConW.keep {lo lo' hi : Nat} {H H' : GHeap} {c : Con} {p : ConP} (h : ConW lo hi H c p) (k : Keep lo' H H') (hb : lo' ≤ lo) : ConW lo hi H' c p := IntsW.keep h k hb
end Go.GL
namespace Go.GL

structure Fun.Cone (d : Fun) (p : Con) : Prop where
  ap : 0 ≤ p.ap ∧ p.ap < d.t.obj
  ll : p.lg.length = d.ob.length
  lg : ∀ j, j < p.lg.length → 0 ≤ p.lg.getD j 0 ∧ p.lg.getD j 0 < d.t.src.length
  ends : ∀ j, j < p.lg.length → d.t.src.getD (p.lg.getD j 0).toNat 0 = p.ap ∧ d.t.tgt.getD (p.lg.getD j 0).toNat 0 = d.ob.getD j 0
  tri : ∀ a, a < d.ar.length → d.t.th (p.lg.getD (d.s.src.getD a 0).toNat 0) (d.ar.getD a 0) = p.lg.getD (d.s.tgt.getD a 0).toNat 0
theorem Fun.Is.arr {f : Fun} (h : f.Is) {a : Nat} (ha : a < f.ar.length) : 0 ≤ f.s.src.getD a 0 ∧ f.s.src.getD a 0 < f.ob.length ∧ 0 ≤ f.s.tgt.getD a 0 ∧ f.s.tgt.getD a 0 < f.ob.length ∧ 0 ≤ f.ar.getD a 0 ∧ f.ar.getD a 0 < f.t.src.length ∧
    f.t.src.getD (f.ar.getD a 0).toNat 0 = f.ob.getD (f.s.src.getD a 0).toNat 0 ∧ f.t.tgt.getD (f.ar.getD a 0).toNat 0 = f.ob.getD (f.s.tgt.getD a 0).toNat 0 := by
  have hS := h.1.1
  have q0 := h.2.2.al
  have q1 := hS.src a (by omega)
  have q2 := hS.tgt a (by have := hS.tl; omega)
  have q3 := h.2.2.ol
  have q4 := h.2.2.ar a ha
  have q5 := h.2.2.ends a ha
  omega
def Con.zero : Con := ⟨0, []⟩
end Go.GL
namespace Go.GL

def Rising (xs : List Int) : Prop := ∀ i, 1 ≤ i → i < xs.length → xs.getD (i - 1) 0 < xs.getD i 0
structure SFun.Part (f : SFun) (me : List (List Int)) : Prop where
  pl : me.length = f.sz.length
  rs : ∀ x, x < me.length → Rising (me.getD x []) ∧ allIn (me.getD x []) (f.sz.getD x 0) = true
  cl : ∀ a, a < f.ac.length → ∀ i, i < (me.getD (f.sh.src.getD a 0).toNat []).length → (me.getD (f.sh.tgt.getD a 0).toNat []).contains ((f.ac.getD a []).getD ((me.getD (f.sh.src.getD a 0).toNat []).getD i 0).toNat 0) = true
end Go.GL
namespace Go.GL

def SFunW (lo hi : Nat) (H : GHeap) (f : SFun) (p : SFunP) : Prop := CatW lo hi H f.sh p.sh ∧ IntsW lo hi H p.a1 f.sz.length ∧ IntssW lo hi H p.a2 f.ac p.r2
theorem SFunW.stm {lo hi : Nat} {H H' : GHeap} {c : SFun} {p : SFunP} (h : SFunW lo hi H c p) (s : StM lo hi H H') : SFunW lo hi H' c p := ⟨h.1.stm s, h.2.1.stm s, h.2.2.stm s⟩
theorem SFunW.of_at {b : Nat} {H0 H : GHeap} {c : SFun} {p : SFunP} (h : SFunAt b H0 c p) (k : Keep b H0 H) : SFunW b H0.next H c p := ⟨.of_at h.1 k, .of_at h.2.1 k, .of_at h.2.2 k⟩
def SFun.leaves (f : SFun) (p : SFunP) : List Leaf := f.sh.leaves p.sh ++ ([(p.a1, f.sz.length)] ++ rowsL p.r2 f.ac f.ac.length)
def SMapW (lo hi : Nat) (H : GHeap) (f : SMap) (p : SMapP) : Prop := SFunW lo hi H f.s p.s ∧ SFunW lo hi H f.t p.t ∧ IntssW lo hi H p.a2 f.pa p.r2
theorem SMapW.stm {lo hi : Nat} {H H' : GHeap} {c : SMap} {p : SMapP} (h : SMapW lo hi H c p) (s : StM lo hi H H') : SMapW lo hi H' c p := ⟨h.1.stm s, h.2.1.stm s, h.2.2.stm s⟩
theorem SMapW.of_at {b : Nat} {H0 H : GHeap} {c : SMap} {p : SMapP} (h : SMapAt b H0 c p) (k : Keep b H0 H) : SMapW b H0.next H c p := ⟨.of_at h.1 k, .of_at h.2.1 k, .of_at h.2.2 k⟩
def SMap.leaves (f : SMap) (p : SMapP) : List Leaf := f.s.leaves p.s ++ (f.t.leaves p.t ++ rowsL p.r2 f.pa f.pa.length)
def PrtW (lo hi : Nat) (H : GHeap) (f : Prt) (p : PrtP) : Prop := IntssW lo hi H p.a0 f.me p.r0
theorem PrtW.stm {lo hi : Nat} {H H' : GHeap} {c : Prt} {p : PrtP} (h : PrtW lo hi H c p) (s : StM lo hi H H') : PrtW lo hi H' c p := IntssW.stm h s
theorem PrtW.keep {lo lo' hi : Nat} {H H' : GHeap} {c : Prt} {p : PrtP} (h : PrtW lo hi H c p) (k : Keep lo' H H') (hb : lo' ≤ lo) : PrtW lo hi H' c p := IntssW.keep h k hb
theorem SFunW.keep {lo lo' hi : Nat} {H H' : GHeap} {c : SFun} {p : SFunP} (h : SFunW lo hi H c p) (k : Keep lo' H H') (hb : lo' ≤ lo) : SFunW lo hi H' c p := ⟨h.1.keep k hb, h.2.1.keep k hb, h.2.2.keep k hb⟩
theorem SMapW.keep {lo lo' hi : Nat} {H H' : GHeap} {c : SMap} {p : SMapP} (h : SMapW lo hi H c p) (k : Keep lo' H H') (hb : lo' ≤ lo) : SMapW lo hi H' c p := ⟨h.1.keep k hb, h.2.1.keep k hb, h.2.2.keep k hb⟩
theorem PrtW.of_at {b : Nat} {H0 H : GHeap} {c : Prt} {p : PrtP} (h : PrtAt b H0 c p) (k : Keep b H0 H) : PrtW b H0.next H c p := IntssW.of_at h k
def Prt.leaves (f : Prt) (p : PrtP) : List Leaf := rowsL p.r0 f.me f.me.length
def NoTwo (xss : List (List Int)) (r : Nat → Option Addr) : Prop := (lvBlks (rowsL r xss xss.length)).Nodup
def IntssR (b : Nat) (H : GHeap) (a : Option Addr) (xss : List (List Int)) (r : Nat → Option Addr) : Prop := ((xss = [] ∧ a = none) ∨ IntssAt b H a xss r) ∧ NoTwo xss r
theorem IntssR.keep {b b' : Nat} {H H' : GHeap} {a : Option Addr} {xs : List (List Int)} {r : Nat → Option Addr} (h : IntssR b H a xs r) (k : Keep b' H H') (hb : b' ≤ b) : IntssR b' H' a xs r := ⟨h.1.imp id fun h => h.keep k hb, h.2⟩
theorem IntssR.intss {b : Nat} {H : GHeap} {a : Option Addr} {xs : List (List Int)} {r : Nat → Option Addr} (h : IntssR b H a xs r) : Intss H a xs r := by
  rcases h.1 with ⟨rfl, rfl⟩ | h
  · exact ⟨.inl rfl, fun i hi => by simp at hi⟩
  · exact h.intss
theorem IntssR.nil (b : Nat) (H : GHeap) (r : Nat → Option Addr) : IntssR b H none [] r := ⟨.inl ⟨rfl, rfl⟩, by simp [NoTwo, lvBlks, rowsL]⟩
def NewIntssR (H : GHeap) (xs : List (List Int)) (v : Value) (H' : GHeap) : Prop := H.Le H' ∧ ∃ a r, v = .slice a xs.length xs.length ∧ IntssR H.next H' a xs r
def PrtR (b : Nat) (H : GHeap) (c : Prt) (p : PrtP) : Prop := IntssR b H p.a0 c.me p.r0
theorem PrtR.keep {b b' : Nat} {H H' : GHeap} {c : Prt} {p : PrtP} (h : PrtR b H c p) (k : Keep b' H H') (hb : b' ≤ b) : PrtR b' H' c p := IntssR.keep h k hb
theorem PrtR.inn {b : Nat} {H : GHeap} {c : Prt} {p : PrtP} (h : PrtR b H c p) : c.In H p := IntssR.intss h
def slsOf (r : Nat → Option Addr) (X : Nat → List Int) (k : Nat) : List Value := (List.range k).map fun i => .slice (r i) (X i).length (X i).length
@[simp] theorem length_slsOf (r : Nat → Option Addr) (X : Nat → List Int) (k : Nat) : (slsOf r X k).length = k := by simp [slsOf]
def upd (r : Nat → Option Addr) (k : Nat) (a : Option Addr) : Nat → Option Addr := fun i => if i = k then a else r i
theorem upd_eq (r : Nat → Option Addr) (k : Nat) (a : Option Addr) : upd r k a k = a := by simp [upd]
theorem upd_ne {r : Nat → Option Addr} {k i : Nat} {a : Option Addr} (h : i ≠ k) : upd r k a i = r i := by simp [upd, h]
theorem slsOf_succ {r : Nat → Option Addr} {X : Nat → List Int} {k : Nat} {a : Option Addr} : slsOf (upd r k a) X (k + 1) = slsOf r X k ++ [.slice a (X k).length (X k).length] := by
  unfold slsOf
  rw [List.range_succ, List.map_append]
  congr 1
  · refine List.map_congr_left fun i hi => ?_
    rw [upd_ne (by have := List.mem_range.1 hi; omega)]
  · simp [upd_eq]
structure OwnRows (b : Nat) (H : GHeap) (e : TypeId) (r : Nat → Option Addr) (X : Nat → List Int) (k : Nat) : Prop where
  row : ∀ i, i < k → ∃ g, r i = some ⟨g, 0, none⟩ ∧ b ≤ g ∧ H.get g = some (.row (ints (X i)) e true)
  inj : ∀ i j, i < k → j < k → r i = r j → i = j
theorem OwnRows.zero (b : Nat) (H : GHeap) (e : TypeId) (r : Nat → Option Addr) (X : Nat → List Int) : OwnRows b H e r X 0 := ⟨fun i hi => by omega, fun i j hi => by omega⟩
def Lasts (e : TypeId) (H H' : GHeap) : Prop := ∀ x xs, H.get x = some (.row (ints xs) e true) → H'.get x = some (.row (ints xs) e true)
theorem St.lasts1 {g0 : Nat} {H H' : GHeap} {e e' : TypeId} {cs : List Value} (s : St [g0] H H') (h0 : H.get g0 = some (.row cs e' true)) (hne : (e != e') = true) : Lasts e H H' := fun x xs hx => by
  simp only [bne_iff_ne, ne_eq] at hne
  refine s.same x _ ⟨fun ex => ?_, trivial⟩ hx
  subst ex
  rw [h0] at hx
  cases hx
  exact hne rfl
theorem OwnRows.keep {b k : Nat} {H H' : GHeap} {e : TypeId} {r : Nat → Option Addr} {X : Nat → List Int} (h : OwnRows b H e r X k) (s : Lasts e H H') : OwnRows b H' e r X k := ⟨fun i hi => by
  obtain ⟨x, h1, h2, h3⟩ := h.row i hi
  exact ⟨x, h1, h2, s x _ h3⟩, h.inj⟩
theorem OwnRows.succ' {b g k : Nat} {H H' : GHeap} {e : TypeId} {r : Nat → Option Addr} {X : Nat → List Int} (h : OwnRows b H e r X k) (s : Lasts e H H')
    (hg : H'.get g = some (.row (ints (X k)) e true)) (hn : H.next ≤ g) (hb : b ≤ g) : OwnRows b H' e (upd r k (some ⟨g, 0, none⟩)) X (k + 1) := by
  refine ⟨fun i hi => ?_, fun i j hi hj hij => ?_⟩
  · by_cases ek : i = k
    · subst ek; exact ⟨g, upd_eq _ _ _, hb, hg⟩
    · obtain ⟨x, h1, h2, h3⟩ := h.row i (by omega)
      exact ⟨x, by rw [upd_ne ek]; exact h1, h2, s x _ h3⟩
  · by_cases ei : i = k
    · by_cases ej : j = k
      · omega
      · subst ei
        rw [upd_eq, upd_ne ej] at hij
        obtain ⟨x, h1, _, h3⟩ := h.row j (by omega)
        rw [h1] at hij
        cases hij
        have := GHeap.ltg h3
        omega
    · by_cases ej : j = k
      · subst ej
        rw [upd_eq, upd_ne ei] at hij
        obtain ⟨x, h1, _, h3⟩ := h.row i (by omega)
        rw [h1] at hij
        cases hij
        have := GHeap.ltg h3
        omega
      · rw [upd_ne ei, upd_ne ej] at hij
        exact h.inj i j (by omega) (by omega) hij
theorem OwnRows.succ {b g g0 k : Nat} {H H' : GHeap} {e e' : TypeId} {r : Nat → Option Addr} {X : Nat → List Int} {cs : List Value} (h : OwnRows b H e r X k) (s : St [g0] H H') (h0 : H.get g0 = some (.row cs e' true)) (hne : (e != e') = true)
    (hg : H'.get g = some (.row (ints (X k)) e true)) (hn : H.next ≤ g) (hb : b ≤ g) : OwnRows b H' e (upd r k (some ⟨g, 0, none⟩)) X (k + 1) := h.succ' (s.lasts1 h0 hne) hg hn hb
theorem mem_lvBlk {g n x : Nat} (h : x ∈ lvBlk (some ⟨g, 0, none⟩, n)) : x = g := by
  cases n with
  | zero => simp [lvBlk] at h
  | succ n => simpa [lvBlk] using h
theorem lvBlks_rowsL {r : Nat → Option Addr} {xss : List (List Int)} (hr : ∀ i, i < xss.length → ∃ g, r i = some ⟨g, 0, none⟩) (hi : ∀ i j, i < xss.length → j < xss.length → r i = r j → i = j) : ∀ {n}, n ≤ xss.length →
    (lvBlks (rowsL r xss n)).Nodup ∧ ∀ g ∈ lvBlks (rowsL r xss n), ∃ i, i < n ∧ r i = some ⟨g, 0, none⟩
  | 0, _ => by simp [rowsL, lvBlks]
  | n + 1, hn => by
    obtain ⟨h1, h2⟩ := lvBlks_rowsL hr hi (n := n) (by omega)
    obtain ⟨g, hg⟩ := hr n (by omega)
    have h3 : ∀ x ∈ lvBlk (r n, (xss.getD n []).length), x = g := fun x hx => by rw [hg] at hx; exact mem_lvBlk hx
    have h4 : (lvBlk (r n, (xss.getD n []).length)).Nodup := by unfold lvBlk; split <;> simp
    have e1 : lvBlks (rowsL r xss (n + 1)) = lvBlks (rowsL r xss n) ++ lvBlk (r n, (xss.getD n []).length) := by rw [rowsL_succ, lvBlks_append]; simp [lvBlks]
    rw [e1]
    refine ⟨List.nodup_append.2 ⟨h1, h4, fun x hx y hy hxy => ?_⟩, fun x hx => ?_⟩
    · obtain ⟨i, i1, i2⟩ := h2 x hx
      have := h3 y hy
      subst hxy this
      have := hi i n (by omega) (by omega) (by rw [i2, hg])
      omega
    · rcases List.mem_append.1 hx with hx | hx
      · obtain ⟨i, i1, i2⟩ := h2 x hx
        exact ⟨i, by omega, i2⟩
      · exact ⟨n, by omega, by rw [h3 x hx]; exact hg⟩
def rowsOf (X : Nat → List Int) (n : Nat) : List (List Int) := (List.range n).map X
@[simp] theorem length_rowsOf (X : Nat → List Int) (n : Nat) : (rowsOf X n).length = n := by simp [rowsOf]
theorem rowsOf_get {X : Nat → List Int} {n i : Nat} (h : i < n) : (rowsOf X n).getD i [] = X i := by simp [rowsOf, List.getD_eq_getElem?_getD, h]
theorem OwnRows.done {b g n : Nat} {H : GHeap} {e e' : TypeId} {r : Nat → Option Addr} {X : Nat → List Int} (h : OwnRows b H e r X n) (hg : H.get g = some (.row (slsOf r X n) e' true)) (hb : b ≤ g) : IntssR b H (some ⟨g, 0, none⟩) (rowsOf X n) r := by
  refine ⟨.inr ⟨g, e', slsOf r X n, rfl, hb, hg, by simp, fun i hi => ?_, fun i hi => ?_⟩, ?_⟩
  · rw [length_rowsOf] at hi
    rw [rowsOf_get hi]
    simp [slsOf, hi]
  · rw [length_rowsOf] at hi
    rw [rowsOf_get hi]
    obtain ⟨x, h1, h2, h3⟩ := h.row i hi
    exact ⟨x, e, h1, h2, h3⟩
  · exact (lvBlks_rowsL (fun i hi => by rw [length_rowsOf] at hi; obtain ⟨x, h1, _⟩ := h.row i hi; exact ⟨x, h1⟩) (fun i j hi hj => by rw [length_rowsOf] at hi hj; exact h.inj i j hi hj) (Nat.le_refl _)).1

def NilOr (b : Nat) (H : GHeap) (a : Option Addr) (g : Nat) (cs : List Value) (e : TypeId) (k : Nat) : Prop := (a = none ∧ k = 0) ∨ (a = some ⟨g, 0, none⟩ ∧ 0 < k ∧ b ≤ g ∧ H.get g = some (.row cs e true))
theorem NilOr.st {b g g0 k : Nat} {H H' : GHeap} {a : Option Addr} {cs : List Value} {e : TypeId} (h : NilOr b H a g cs e k) (s : St [g0] H H') (hn : g0 < b) : NilOr b H' a g cs e k := h.imp id fun ⟨h1, h0, h2, h3⟩ => ⟨h1, h0, h2, s.same g _ ⟨by omega, trivial⟩ h3⟩
theorem Lasts.trans {e : TypeId} {A B C : GHeap} (h : Lasts e A B) (h' : Lasts e B C) : Lasts e A C := fun x xs hx => h' x xs (h x xs hx)
section
variable {P : Program} {o : Oper} {fr : Slots} {H : GHeap}
end
def SMap.backX (m : SMap) (me : List (List Int)) (x : Nat) : List Int := filtN (m.pa.getD x []).length fun e => (me.getD x []).contains ((m.pa.getD x []).getD e 0)
def SMap.backR (m : SMap) (me : List (List Int)) : List (List Int) := rowsOf (m.backX me) m.pa.length
noncomputable def SMap.back (m : SMap) (me : List (List Int)) : Prt := ⟨bif B (m.Is ∧ m.t.Part me) then m.backR me else []⟩
def SFun.pick (f : SFun) (Y : Nat → Nat → Bool) : Prt := ⟨rowsOf (fun x => filtN (f.sz.getD x 0).toNat (Y x)) f.sz.length⟩
end Go.GL
namespace Go.GL
def slsL (r : Nat → Option Addr) (xss : List (List Int)) : List Value := slsOf r (fun i => xss.getD i []) xss.length
@[simp] theorem length_slsL (r : Nat → Option Addr) (xss : List (List Int)) : (slsL r xss).length = xss.length := by simp [slsL]
theorem slsOf_congr {r : Nat → Option Addr} {X Y : Nat → List Int} {k : Nat} (h : ∀ i, i < k → X i = Y i) : slsOf r X k = slsOf r Y k := List.map_congr_left fun i hi => by rw [h i (List.mem_range.1 hi)]
theorem getD_snoc {α : Type} {xs : List α} {x d : α} {i : Nat} : (xs ++ [x]).getD i d = if i < xs.length then xs.getD i d else if i = xs.length then x else d := by
  rw [List.getD_eq_getElem?_getD, List.getD_eq_getElem?_getD]
  by_cases h : i < xs.length
  · rw [if_pos h, List.getElem?_append_left h]
  · rw [if_neg h, List.getElem?_append_right (by omega)]
    by_cases e : i = xs.length
    · subst e; simp
    · rw [if_neg e, List.getElem?_eq_none (by simp; omega)]; rfl
theorem slsL_snoc {r : Nat → Option Addr} {xss : List (List Int)} {x : List Int} {a : Option Addr} : slsL (upd r xss.length a) (xss ++ [x]) = slsL r xss ++ [.slice a x.length x.length] := by
  unfold slsL
  rw [List.length_append, List.length_singleton]
  rw [slsOf_succ]
  congr 1
  · refine slsOf_congr fun i hi => ?_
    rw [getD_snoc, if_pos hi]
  · rw [getD_snoc, if_neg (by omega), if_pos rfl]
def OwnL (b : Nat) (H : GHeap) (e : TypeId) (r : Nat → Option Addr) (xss : List (List Int)) : Prop := OwnRows b H e r (fun i => xss.getD i []) xss.length
theorem OwnL.nil (b : Nat) (H : GHeap) (e : TypeId) (r : Nat → Option Addr) : OwnL b H e r [] := OwnRows.zero _ _ _ _ _
theorem OwnRows.congr {b : Nat} {H : GHeap} {e : TypeId} {r : Nat → Option Addr} {X Y : Nat → List Int} {k : Nat} (h : OwnRows b H e r X k) (hx : ∀ i, i < k → X i = Y i) : OwnRows b H e r Y k := ⟨fun i hi => by rw [← hx i hi]; exact h.row i hi, h.inj⟩
theorem OwnL.snoc {b g : Nat} {H H' : GHeap} {e : TypeId} {r : Nat → Option Addr} {xss : List (List Int)} {x : List Int} (h : OwnL b H e r xss) (s : Lasts e H H') (hg : H'.get g = some (.row (ints x) e true)) (hn : H.next ≤ g) (hb : b ≤ g) : OwnL b H' e (upd r xss.length (some ⟨g, 0, none⟩)) (xss ++ [x]) := by
  unfold OwnL at h ⊢
  rw [List.length_append, List.length_singleton]
  have h' : OwnRows b H e r (fun i => (xss ++ [x]).getD i []) xss.length := h.congr fun i hi => by rw [getD_snoc, if_pos hi]
  exact h'.succ' s (by rw [getD_snoc, if_neg (by omega), if_pos rfl]; exact hg) hn hb
theorem OwnL.keep {b : Nat} {H H' : GHeap} {e : TypeId} {r : Nat → Option Addr} {xss : List (List Int)} (h : OwnL b H e r xss) (s : Lasts e H H') : OwnL b H' e r xss := OwnRows.keep h s
theorem rowsOf_self (xss : List (List Int)) : rowsOf (fun i => xss.getD i []) xss.length = xss := by
  apply List.ext_getElem (by simp)
  intro i h1 h2
  simp only [rowsOf, List.getElem_map, List.getElem_range, List.getD_eq_getElem?_getD, List.getElem?_eq_getElem h2, Option.getD_some]
theorem OwnL.done {b g : Nat} {H : GHeap} {e e' : TypeId} {r : Nat → Option Addr} {xss : List (List Int)} (h : OwnL b H e r xss) (hg : H.get g = some (.row (slsL r xss) e' true)) (hb : b ≤ g) : IntssR b H (some ⟨g, 0, none⟩) xss r := by
  have := OwnRows.done (X := fun i => xss.getD i []) h hg hb
  rwa [rowsOf_self] at this
theorem OwnL.intss {b g : Nat} {H : GHeap} {e e' : TypeId} {r : Nat → Option Addr} {xss : List (List Int)} (h : OwnL b H e r xss) (hg : H.get g = some (.row (slsL r xss) e' true)) (hb : b ≤ g) : Intss H (some ⟨g, 0, none⟩) xss r := (h.done hg hb).intss
theorem IntsR.of_at {b : Nat} {H : GHeap} {g : Nat} {e : TypeId} {xs : List Int} (h : H.get g = some (.row (Go.GL.ints xs) e true)) (hb : b ≤ g) : IntsR b H (some ⟨g, 0, none⟩) xs := .inr ⟨g, e, rfl, hb, h⟩

def nestL {α : Type} (pr : Nat → Nat → α) (sz : Nat → Nat) (k t : Nat) : List α := (List.range k).flatMap (fun a => (List.range (sz a)).map (pr a)) ++ (List.range t).map (pr k)
theorem nestL_zero {α : Type} (pr : Nat → Nat → α) (sz : Nat → Nat) : nestL pr sz 0 0 = [] := rfl
theorem nestL_snoc {α : Type} {pr : Nat → Nat → α} {sz : Nat → Nat} {k t : Nat} : nestL pr sz k (t + 1) = nestL pr sz k t ++ [pr k t] := by
  unfold nestL
  rw [List.range_succ, List.map_append, ← List.append_assoc]
  rfl
theorem nestL_next {α : Type} {pr : Nat → Nat → α} {sz : Nat → Nat} {k : Nat} : nestL pr sz (k + 1) 0 = nestL pr sz k (sz k) := by
  unfold nestL
  rw [List.range_succ, List.flatMap_append]
  simp
theorem nestL_mem {α : Type} {pr : Nat → Nat → α} {sz : Nat → Nat} {k : Nat} {x : α} (h : x ∈ nestL pr sz k 0) : ∃ a t, a < k ∧ t < sz a ∧ x = pr a t := by
  simp only [nestL, List.range_zero, List.map_nil, List.append_nil, List.mem_flatMap, List.mem_range, List.mem_map] at h
  obtain ⟨a, ha, t, ht, e⟩ := h
  exact ⟨a, t, ha, ht, e.symm⟩
theorem nestL_length {α : Type} {pr : Nat → Nat → α} {sz : Nat → Nat} {c : Nat} : ∀ {k}, (∀ a, a < k → sz a ≤ c) → (nestL pr sz k 0).length ≤ k * c
  | 0, _ => by simp [nestL]
  | k + 1, h => by
    have ih := nestL_length (pr := pr) (sz := sz) (c := c) (k := k) fun a ha => h a (by omega)
    have := h k (by omega)
    rw [nestL_next]
    simp only [nestL, List.length_append, List.length_map, List.length_range, List.range_zero, List.map_nil, List.append_nil] at ih ⊢
    rw [Nat.add_mul]
    omega
theorem nestL_le {α : Type} {pr : Nat → Nat → α} {sz : Nat → Nat} {c k t n : Nat} (h : ∀ a, a < n → sz a ≤ c) (hk : k < n) (ht : t ≤ sz k) : (nestL pr sz k t).length ≤ n * c := by
  have h1 := nestL_length (pr := pr) (sz := sz) (c := c) (k := k) fun a ha => h a (by omega)
  have h2 := h k hk
  have h3 : (k + 1) * c ≤ n * c := Nat.mul_le_mul_right _ hk
  rw [Nat.add_mul] at h3
  simp only [nestL, List.length_append, List.length_map, List.length_range, List.range_zero, List.map_nil, List.append_nil] at h1 ⊢
  omega
def nest3 {α : Type} (pr : Nat → Nat → Nat → α) (s1 : Nat → Nat) (s2 : Nat → Nat → Nat) (k t u : Nat) : List α := (List.range k).flatMap (fun a => nestL (pr a) (s2 a) (s1 a) 0) ++ nestL (pr k) (s2 k) t u
theorem nest3_zero {α : Type} (pr : Nat → Nat → Nat → α) (s1 : Nat → Nat) (s2 : Nat → Nat → Nat) : nest3 pr s1 s2 0 0 0 = [] := rfl
theorem nest3_snoc {α : Type} {pr : Nat → Nat → Nat → α} {s1 : Nat → Nat} {s2 : Nat → Nat → Nat} {k t u : Nat} : nest3 pr s1 s2 k t (u + 1) = nest3 pr s1 s2 k t u ++ [pr k t u] := by
  unfold nest3
  rw [nestL_snoc, List.append_assoc]
theorem nest3_next2 {α : Type} {pr : Nat → Nat → Nat → α} {s1 : Nat → Nat} {s2 : Nat → Nat → Nat} {k t : Nat} : nest3 pr s1 s2 k (t + 1) 0 = nest3 pr s1 s2 k t (s2 k t) := by
  unfold nest3
  rw [nestL_next]
theorem nest3_next1 {α : Type} {pr : Nat → Nat → Nat → α} {s1 : Nat → Nat} {s2 : Nat → Nat → Nat} {k : Nat} : nest3 pr s1 s2 (k + 1) 0 0 = nest3 pr s1 s2 k (s1 k) 0 := by
  unfold nest3
  rw [List.range_succ, List.flatMap_append]
  simp [nestL_zero]
theorem nest3_mem {α : Type} {pr : Nat → Nat → Nat → α} {s1 : Nat → Nat} {s2 : Nat → Nat → Nat} {k : Nat} {x : α} (h : x ∈ nest3 pr s1 s2 k 0 0) : ∃ a b t, a < k ∧ b < s1 a ∧ t < s2 a b ∧ x = pr a b t := by
  unfold nest3 at h
  rw [nestL_zero, List.append_nil, List.mem_flatMap] at h
  obtain ⟨a, ha, hx⟩ := h
  obtain ⟨b, t, hb, ht, e⟩ := nestL_mem hx
  exact ⟨a, b, t, List.mem_range.1 ha, hb, ht, e⟩
theorem flatMap_len {α : Type} {f : Nat → List α} {c : Nat} : ∀ {k}, (∀ a, a < k → (f a).length ≤ c) → ((List.range k).flatMap f).length ≤ k * c
  | 0, _ => by simp
  | k + 1, h => by
    have ih := flatMap_len (f := f) (c := c) (k := k) fun a ha => h a (by omega)
    have := h k (by omega)
    rw [List.range_succ, List.flatMap_append, List.length_append, Nat.add_mul]
    simp only [List.flatMap_cons, List.flatMap_nil, List.append_nil]
    omega
theorem nest3_le {α : Type} {pr : Nat → Nat → Nat → α} {s1 : Nat → Nat} {s2 : Nat → Nat → Nat} {c d k t u n : Nat} (h1 : ∀ a, a < n → s1 a ≤ d) (h2 : ∀ a, a < n → ∀ b, b < s1 a → s2 a b ≤ c) (hk : k < n) (ht : t < s1 k) (hu : u ≤ s2 k t) : (nest3 pr s1 s2 k t u).length ≤ n * (d * c) := by
  unfold nest3
  rw [List.length_append]
  have q1 := flatMap_len (f := fun a => nestL (pr a) (s2 a) (s1 a) 0) (c := d * c) (k := k) fun a ha => by
    have r1 := nestL_length (pr := pr a) (sz := s2 a) (c := c) (k := s1 a) fun b hb => h2 a (by omega) b hb
    exact Nat.le_trans r1 (Nat.mul_le_mul_right _ (h1 a (by omega)))
  have q2 := nestL_le (pr := pr k) (sz := s2 k) (c := c) (k := t) (t := u) (n := s1 k) (fun b hb => h2 k hk b hb) ht hu
  have q3 : s1 k * c ≤ d * c := Nat.mul_le_mul_right _ (h1 k hk)
  have q4 : (k + 1) * (d * c) ≤ n * (d * c) := Nat.mul_le_mul_right _ hk
  rw [Nat.add_mul] at q4
  omega
theorem nest3_all {α : Type} {pr : Nat → Nat → Nat → α} {s1 : Nat → Nat} {s2 : Nat → Nat → Nat} {c d n : Nat} (h1 : ∀ a, a < n → s1 a ≤ d) (h2 : ∀ a, a < n → ∀ b, b < s1 a → s2 a b ≤ c) : (nest3 pr s1 s2 n 0 0).length ≤ n * (d * c) := by
  unfold nest3
  rw [nestL_zero, List.append_nil]
  exact flatMap_len fun a ha => by
    have r1 := nestL_length (pr := pr a) (sz := s2 a) (c := c) (k := s1 a) fun b hb => h2 a ha b hb
    exact Nat.le_trans r1 (Nat.mul_le_mul_right _ (h1 a ha))
theorem getD_mem_list {α : Type} {xs : List α} {d : α} {i : Nat} (h : i < xs.length) : xs.getD i d ∈ xs := by
  rw [List.getD_eq_getElem?_getD, List.getElem?_eq_getElem h]
  exact List.getElem_mem h

def CatR (b : Nat) (H : GHeap) (c : Cat) (p : CatP) : Prop := (IntsR b H p.a1 c.src ∧ IntsR b H p.a2 c.tgt ∧ IntsR b H p.a3 c.idn ∧ IntssR b H p.a4 c.comp p.r) ∧ (lvBlks (c.leaves p)).Nodup
theorem CatR.keep {b b' : Nat} {H H' : GHeap} {c : Cat} {p : CatP} (h : CatR b H c p) (k : Keep b' H H') (hb : b' ≤ b) : CatR b' H' c p := ⟨⟨h.1.1.keep k hb, h.1.2.1.keep k hb, h.1.2.2.1.keep k hb, h.1.2.2.2.keep k hb⟩, h.2⟩
theorem CatR.inn {b : Nat} {H : GHeap} {c : Cat} {p : CatP} (h : CatR b H c p) : c.In H p := ⟨h.1.1.ints, h.1.2.1.ints, h.1.2.2.1.ints, h.1.2.2.2.intss⟩
def Cat.zero : Cat := ⟨0, [], [], [], []⟩
def CatP.zero : CatP := ⟨none, none, none, none, fun _ => none⟩
theorem CatR.zero (b : Nat) (H : GHeap) : CatR b H .zero .zero := ⟨⟨.inl ⟨rfl, rfl⟩, .inl ⟨rfl, rfl⟩, .inl ⟨rfl, rfl⟩, .nil _ _ _⟩, by simp [Cat.leaves, Cat.zero, CatP.zero, lvBlks, lvBlk, rowsL]⟩
theorem mem_lvBlk1 {a : Option Addr} {n x : Nat} (h : x ∈ lvBlk (a, n)) : ∃ o s, a = some ⟨x, o, s⟩ := by
  unfold lvBlk at h
  split at h
  · rename_i a' m e
    cases e
    rw [List.mem_singleton] at h
    subst h
    exact ⟨_, _, rfl⟩
  · cases h
theorem lvBlk_nodup (l : Leaf) : (lvBlk l).Nodup := by unfold lvBlk; split <;> simp
theorem CatR.mk {b : Nat} {H : GHeap} {c : Cat} {p : CatP} (h1 : IntsR b H p.a1 c.src) (h2 : IntsR b H p.a2 c.tgt) (h3 : IntsR b H p.a3 c.idn) (h4 : IntssR b H p.a4 c.comp p.r) {g1 g2 g3 : Nat} (k1 : p.a1 = none ∨ p.a1 = some ⟨g1, 0, none⟩) (k2 : p.a2 = none ∨ p.a2 = some ⟨g2, 0, none⟩) (k3 : p.a3 = none ∨ p.a3 = some ⟨g3, 0, none⟩)
    (n12 : g1 ≠ g2) (n13 : g1 ≠ g3) (n23 : g2 ≠ g3) (n4 : ∀ i, i < c.comp.length → p.r i ≠ some ⟨g1, 0, none⟩ ∧ p.r i ≠ some ⟨g2, 0, none⟩ ∧ p.r i ≠ some ⟨g3, 0, none⟩) : CatR b H c p := by
  have one : ∀ {a : Option Addr} {g n x : Nat}, (a = none ∨ a = some ⟨g, 0, none⟩) → x ∈ lvBlk (a, n) → x = g := by
    intro a g n x hk hx
    obtain ⟨o, s, e⟩ := mem_lvBlk1 hx
    rcases hk with h | h
    · rw [h] at e; cases e
    · rw [h] at e; cases e; rfl
  have rows : ∀ x ∈ lvBlks (rowsL p.r c.comp c.comp.length), x ≠ g1 ∧ x ≠ g2 ∧ x ≠ g3 := by
    intro x hx
    obtain ⟨l, hl, hxl⟩ := List.mem_flatMap.1 hx
    obtain ⟨i, hi, rfl⟩ := List.mem_map.1 hl
    have hi' := List.mem_range.1 hi
    have hlen : 0 < (c.comp.getD i []).length := by
      unfold lvBlk at hxl
      split at hxl
      · rename_i e; have := congrArg Prod.snd e; simp only at this; omega
      · cases hxl
    obtain ⟨o, s, e⟩ := mem_lvBlk1 hxl
    have hrow : ∃ g, p.r i = some ⟨g, 0, none⟩ := by
      rcases h4.1 with ⟨h, _⟩ | ⟨g, e', cs, _, _, _, _, _, h6⟩
      · rw [h] at hi'; simp at hi'
      · obtain ⟨g', _, hg', _⟩ := h6 i hi'
        exact ⟨g', hg'⟩
    obtain ⟨g, hg⟩ := hrow
    rw [hg] at e
    cases e
    obtain ⟨q1, q2, q3⟩ := n4 i hi'
    rw [hg] at q1 q2 q3
    exact ⟨fun h => q1 (by rw [h]), fun h => q2 (by rw [h]), fun h => q3 (by rw [h])⟩
  refine ⟨⟨h1, h2, h3, h4⟩, ?_⟩
  unfold Cat.leaves
  rw [lvBlks_append, lvBlks_append, lvBlks_append]
  have s1 : lvBlks [(p.a1, c.src.length)] = lvBlk (p.a1, c.src.length) := by simp [lvBlks]
  have s2 : lvBlks [(p.a2, c.tgt.length)] = lvBlk (p.a2, c.tgt.length) := by simp [lvBlks]
  have s3 : lvBlks [(p.a3, c.idn.length)] = lvBlk (p.a3, c.idn.length) := by simp [lvBlks]
  rw [s1, s2, s3]
  refine List.nodup_append.2 ⟨lvBlk_nodup _, List.nodup_append.2 ⟨lvBlk_nodup _, List.nodup_append.2 ⟨lvBlk_nodup _, h4.2, ?_⟩, ?_⟩, ?_⟩
  · intro x hx y hy hxy
    have e1 := one k3 hx
    have e2 := rows y hy
    omega
  · intro x hx y hy hxy
    have e1 := one k2 hx
    rcases List.mem_append.1 hy with hy | hy
    · have e2 := one k3 hy; omega
    · have e2 := rows y hy; omega
  · intro x hx y hy hxy
    have e1 := one k1 hx
    rcases List.mem_append.1 hy with hy | hy
    · have e2 := one k2 hy; omega
    · rcases List.mem_append.1 hy with hy | hy
      · have e2 := one k3 hy; omega
      · have e2 := rows y hy; omega
end Go.GL
namespace Go.GL
theorem Lasts.of_le {e : TypeId} {H H' : GHeap} (h : H.Le H') : Lasts e H H' := fun x _ hx => h.2 x _ hx
def lePr (k : Fun) (y : Int) (x i e : Nat) : List Int := [(x : Int), (k.t.hom (k.ob.getD x 0) y).getD i 0, (e : Int)]
def leL (k : Fun) (f : SFun) (y : Int) (x i e : Nat) : List (List Int) := nest3 (lePr k y) (fun x => (k.t.hom (k.ob.getD x 0) y).length) (fun x _ => (f.sz.getD x 0).toNat) x i e
theorem leLen {k : Fun} {f : SFun} (hk : k.Is) (hf : f.Is) (h : f.sh = k.s) : f.sz.length = k.ob.length := by
  have h1 := hf.1.zl
  have h2 := hk.2.2.ol
  rw [h] at h1
  omega
end Go.GL
namespace Go.GL
noncomputable def ctCode (p q : Prof) (x z : Int) : Int := bif B (p.Is ∧ q.Is) then (bif B ((0 ≤ x ∧ x < p.s.obj) ∧ (0 ≤ z ∧ z < q.t.obj)) then (bif B (p.t = q.s) then 0 else 5) else 2) else 1
theorem ctCode_1 {p q : Prof} {x z : Int} (h : ¬ (p.Is ∧ q.Is)) : ctCode p q x z = 1 := by unfold ctCode; rw [B_false h]; rfl
theorem ctCode_2 {p q : Prof} {x z : Int} (h : p.Is ∧ q.Is) (h' : ¬ ((0 ≤ x ∧ x < p.s.obj) ∧ (0 ≤ z ∧ z < q.t.obj))) : ctCode p q x z = 2 := by unfold ctCode; rw [B_true h, B_false h']; rfl
theorem ctCode_3 {p q : Prof} {x z : Int} (h : p.Is ∧ q.Is) (h' : (0 ≤ x ∧ x < p.s.obj) ∧ (0 ≤ z ∧ z < q.t.obj)) (h'' : ¬ p.t = q.s) : ctCode p q x z = 5 := by unfold ctCode; rw [B_true h, B_true h', B_false h'']; rfl
theorem ctCode_0 {p q : Prof} {x z : Int} (h : ctCode p q x z = 0) : p.Is ∧ q.Is ∧ 0 ≤ x ∧ x < p.s.obj ∧ 0 ≤ z ∧ z < q.t.obj ∧ p.t = q.s := by
  by_cases h1 : p.Is ∧ q.Is
  · by_cases h2 : (0 ≤ x ∧ x < p.s.obj) ∧ (0 ≤ z ∧ z < q.t.obj)
    · by_cases h3 : p.t = q.s
      · exact ⟨h1.1, h1.2, h2.1.1, h2.1.2, h2.2.1, h2.2.2, h3⟩
      · rw [ctCode_3 h1 h2 h3] at h; omega
    · rw [ctCode_2 h1 h2] at h; omega
  · rw [ctCode_1 h1] at h; omega
def ctPr (y e d : Nat) : List Int := [(y : Int), (e : Int), (d : Int)]
def ctL (p q : Prof) (x z : Int) (y e d : Nat) : List (List Int) := nest3 ctPr (fun y => ((p.sz.getD x.toNat []).getD y 0).toNat) (fun y _ => ((q.sz.getD y []).getD z.toNat 0).toNat) y e d
theorem ctL_snoc {p q : Prof} {x z : Int} {y e d : Nat} : ctL p q x z y e (d + 1) = ctL p q x z y e d ++ [ctPr y e d] := nest3_snoc
theorem ctL_next2 {p q : Prof} {x z : Int} {y e : Nat} : ctL p q x z y (e + 1) 0 = ctL p q x z y e ((q.sz.getD y []).getD z.toNat 0).toNat := nest3_next2
theorem ctL_next1 {p q : Prof} {x z : Int} {y : Nat} : ctL p q x z (y + 1) 0 0 = ctL p q x z y ((p.sz.getD x.toNat []).getD y 0).toNat 0 := nest3_next1
structure CtOk (p q : Prof) (x z : Int) (n : Nat) : Prop where
  n8 : n ≤ 8
  x0 : 0 ≤ x
  xl : x.toNat < p.sz.length
  z0 : 0 ≤ z
  pn : ((p.sz.getD x.toNat []).length : Int) = n
  qn : (q.sz.length : Int) = n
  pe : ∀ y, y < n → 0 ≤ (p.sz.getD x.toNat []).getD y 0 ∧ (p.sz.getD x.toNat []).getD y 0 ≤ 64
  qe : ∀ y, y < n → z.toNat < (q.sz.getD y []).length ∧ 0 ≤ (q.sz.getD y []).getD z.toNat 0 ∧ (q.sz.getD y []).getD z.toNat 0 ≤ 64
theorem CtOk.of {p q : Prof} {x z : Int} (hp : p.Is) (hq : q.Is) (h1 : 0 ≤ x) (h2 : x < p.s.obj) (h3 : 0 ≤ z) (h4 : z < q.t.obj) (h5 : p.t = q.s) : CtOk p q x z p.t.obj.toNat ∧ 0 ≤ p.t.obj := by
  have a1 := hp.1.t.1.obj
  have a2 := hp.1.z.sl
  have a3 := hq.1.z.sl
  have a4 := hp.1.z.row x.toNat (by omega)
  have e1 : q.s.obj = p.t.obj := by rw [h5]
  refine ⟨⟨by omega, h1, by omega, h3, by omega, by omega, fun y hy => hp.1.z.rng _ (by omega) y (by omega), fun y hy => ?_⟩, by omega⟩
  have b1 := hq.1.z.row y (by omega)
  exact ⟨by omega, hq.1.z.rng y (by omega) z.toNat (by omega)⟩
theorem CtOk.len {p q : Prof} {x z : Int} {n y e d : Nat} (h : CtOk p q x z n) (hy : y < n) (he : e < ((p.sz.getD x.toNat []).getD y 0).toNat) (hd : d ≤ ((q.sz.getD y []).getD z.toNat 0).toNat) : (ctL p q x z y e d).length ≤ 32768 := by
  have := nest3_le (pr := ctPr) (s1 := fun y => ((p.sz.getD x.toNat []).getD y 0).toNat) (s2 := fun y _ => ((q.sz.getD y []).getD z.toNat 0).toNat) (c := 64) (d := 64) (n := n) (fun a ha => by have := h.pe a ha; omega) (fun a ha b _ => by have := h.qe a ha; omega) hy he hd
  have h2 : n * (64 * 64) ≤ 8 * (64 * 64) := Nat.mul_le_mul_right _ h.n8
  exact Nat.le_trans this h2
def tcells (xss : List (List Int)) : List Value := xss.flatMap ints
theorem tcells_len {xss : List (List Int)} (h : ∀ x ∈ xss, x.length = 3) : (tcells xss).length = xss.length * 3 := by
  induction xss with
  | nil => rfl
  | cons x r ih =>
    have h1 := h x (by simp)
    have h2 := ih fun y hy => h y (by simp [hy])
    unfold tcells at h2 ⊢
    simp only [List.flatMap_cons, List.length_append, length_ints, List.length_cons]
    omega
theorem tcells_get {xss : List (List Int)} (h : ∀ x ∈ xss, x.length = 3) {i j : Nat} (hi : i < xss.length) (hj : j < 3) : (tcells xss)[i * 3 + j]? = some (.int .i64 ((xss.getD i []).getD j 0)) := by
  induction xss generalizing i with
  | nil => simp at hi
  | cons x r ih =>
    have h1 := h x (by simp)
    unfold tcells
    rw [List.flatMap_cons]
    cases i with
    | zero =>
      rw [List.getElem?_append_left (by simp; omega)]
      simp only [Nat.zero_mul, Nat.zero_add, List.getD_cons_zero]
      exact ints_get (by omega)
    | succ i =>
      rw [List.getElem?_append_right (by simp; omega)]
      simp only [length_ints, h1, List.getD_cons_succ]
      have := ih (fun y hy => h y (by simp [hy])) (i := i) (by simpa using hi)
      unfold tcells at this
      rw [← this]
      congr 1
      omega
theorem tcells_slA {H : GHeap} {g : Nat} {e : TypeId} {own : Bool} {xss : List (List Int)} (h : ∀ x ∈ xss, x.length = 3) (hg : H.get g = some (.row (tcells xss) e own)) : SlA H (some ⟨g, 0, none⟩) (xss.length * 3) (fun i => (tcells xss).getD i undef) :=
  .inr ⟨g, 0, rfl, fun i hi => by
    rw [GHeap.cell_of hg, Nat.zero_add]
    show _ = some ((tcells xss).getD i undef)
    rw [List.getD_eq_getElem?_getD, List.getElem?_eq_getElem (by rw [tcells_len h]; exact hi)]; rfl⟩
theorem tcells_mem {H : GHeap} {g : Nat} {e : TypeId} {own : Bool} {xss : List (List Int)} (h : ∀ x ∈ xss, x.length = 3) (hg : H.get g = some (.row (tcells xss) e own)) {i : Nat} (hi : i < xss.length) :
    MemN H g (0 + (i : Int).toNat * 3) 3 [.int .i64 ((xss.getD i []).getD 0 0), .int .i64 ((xss.getD i []).getD 1 0), .int .i64 ((xss.getD i []).getD 2 0)] := by
  refine ⟨rfl, fun j v hv => ?_⟩
  rw [GHeap.cell_of hg, Int.toNat_natCast, Nat.zero_add]
  match j, hv with
  | 0, hv => cases hv; exact tcells_get h hi (j := 0) (by omega)
  | 1, hv => cases hv; exact tcells_get h hi (j := 1) (by omega)
  | 2, hv => cases hv; exact tcells_get h hi (j := 2) (by omega)
  | n + 3, hv => simp at hv
structure TrAt (b : Nat) (H : GHeap) (g : Nat) (xss : List (List Int)) : Prop where
  lo : b ≤ g
  three : ∀ x ∈ xss, x.length = 3
  at' : ∃ e, H.get g = some (.row (tcells xss) e true)
theorem TrAt.keep {b b' : Nat} {H H' : GHeap} {g : Nat} {xss : List (List Int)} (h : TrAt b H g xss) (k : Keep b' H H') (hb : b' ≤ b) : TrAt b' H' g xss := by
  obtain ⟨h1, h2, e, h3⟩ := h
  exact ⟨by omega, h2, e, k _ _ (by omega) h3⟩
theorem TrAt.sl {b : Nat} {H : GHeap} {g : Nat} {xss : List (List Int)} (h : TrAt b H g xss) : SlA H (some ⟨g, 0, none⟩) (xss.length * 3) (fun i => (tcells xss).getD i undef) := by
  obtain ⟨h1, h2, e, h3⟩ := h
  exact tcells_slA h2 h3
theorem TrAt.mem {b : Nat} {H : GHeap} {g : Nat} {xss : List (List Int)} (h : TrAt b H g xss) {i : Nat} (hi : i < xss.length) :
    MemN H g (0 + (i : Int).toNat * 3) 3 [.int .i64 ((xss.getD i []).getD 0 0), .int .i64 ((xss.getD i []).getD 1 0), .int .i64 ((xss.getD i []).getD 2 0)] := by
  obtain ⟨h1, h2, e, h3⟩ := h
  exact tcells_mem h2 h3 hi
theorem TrAt.row {b : Nat} {H : GHeap} {g : Nat} {xss : List (List Int)} (h : TrAt b H g xss) {i : Nat} (hi : i < xss.length) : (xss.getD i []).length = 3 := h.three _ (getD_mem_list (d := []) hi)
end Go.GL
namespace Go.GL
open Go.RowKit
theorem CDo.appendL {P : Program} {H : GHeap} {fr : Slots} {o : Oper} {t tx e e' : TypeId} {s x : Operand} {g n bytes : Nat} {a : Option Addr} {z : List Value} {ys xs : List Int} (ho : o.op = .call { callee := .builtin .append, args := #[s, x], argTypes := #[t, tx] }) (ht : sliceT P t = some (e, 1)) (hz : zeroT P e = some (z, 1)) (hzn : z.length = 1)
    (hb : (P.info? e).map (·.bytes) = some bytes) (htx : sliceT P tx = some (e', 1)) (hsv : ev fr s = some (.slice (some ⟨g, 0, none⟩) n n)) (hx : ev fr x = some (.slice a xs.length xs.length)) (hg : H.get g = some (.row (ints ys) e true)) (hxs : Ints H a xs) (hend : n = ys.length)
    (hN : n + xs.length ≤ 16777216) (hB : (n + xs.length) * bytes ≤ 140737488355328) :
    CDo P o fr H (fun r H' => ∃ g', r = some (.slice (some ⟨g', 0, none⟩) (n + xs.length) (n + xs.length)) ∧ St [g] H H' ∧ H.next ≤ g' ∧ H'.get g' = some (.row (ints (ys ++ xs)) e true)) := by
  have e1 : ints (ys ++ xs) = (ints ys).drop 0 ++ ints xs := by simp [ints]
  rw [e1]
  refine .appendR (off := 0) (cs := ints ys) (news := ints xs) ho ht hz hzn hb hsv hg (by simp; omega) ?_ hN hB
  rcases hxs with h0 | ⟨g', off, rfl, hc⟩
  · obtain rfl : xs = [] := List.eq_nil_of_length_eq_zero h0
    exact .empty htx hx
  · exact .slice htx hx (by simp) (fun i v hv => by
      have hi : i < xs.length := by have := (List.getElem?_eq_some_iff.1 hv).1; simpa using this
      rw [ints_get hi] at hv
      cases hv
      exact hc i hi) (fun v hv => by
      simp only [ints, List.mem_map] at hv
      obtain ⟨m, _, rfl⟩ := hv
      rfl)

section
variable {P : Program} {B : Nat} {w0 : World} {ρ : Place} {H : GHeap} {w : World} {fr : Slots} {o : Oper} {R : Option Value → GHeap → Prop}
end
end Go.GL
namespace Go.GL
def least (K : Nat → Nat → Bool) (i : Nat) : Nat := ((List.range i).find? fun j => K j i).getD i
def reps (K : Nat → Nat → Bool) (m : Nat) : Nat := ((List.range m).filter fun j => least K j == j).length
def clsAt (K : Nat → Nat → Bool) (i : Nat) : Int := (reps K (least K i) : Int)
def clsL (K : Nat → Nat → Bool) (n : Nat) : List Int := (List.range n).map (clsAt K)
@[simp] theorem length_clsL (K : Nat → Nat → Bool) (n : Nat) : (clsL K n).length = n := by simp [clsL]
theorem clsL_get {K : Nat → Nat → Bool} {n i : Nat} (h : i < n) : (clsL K n).getD i 0 = clsAt K i := by simp [clsL, List.getD_eq_getElem?_getD, h]
structure Eqv (K : Nat → Nat → Bool) (n : Nat) : Prop where
  rf : ∀ a, a < n → K a a = true
  sy : ∀ a b, a < n → b < n → K a b = true → K b a = true
  tr : ∀ a b c, a < n → b < n → c < n → K a b = true → K b c = true → K a c = true
theorem find_range {p : Nat → Bool} {i : Nat} : (∃ j, (List.range i).find? p = some j ∧ j < i ∧ p j = true ∧ ∀ k, k < j → p k = false) ∨ ((List.range i).find? p = none ∧ ∀ k, k < i → p k = false) := by
  cases h : (List.range i).find? p with
  | none =>
    rw [List.find?_range_eq_none] at h
    exact .inr ⟨rfl, fun k hk => by simpa using h k hk⟩
  | some j =>
    rw [List.find?_range_eq_some] at h
    exact .inl ⟨j, rfl, List.mem_range.1 h.2.1, h.1, fun k hk => by simpa using h.2.2 k hk⟩
theorem least_le (K : Nat → Nat → Bool) (i : Nat) : least K i ≤ i := by
  unfold least
  rcases find_range (p := fun j => K j i) (i := i) with ⟨j, h, hl, _⟩ | ⟨h, _⟩
  · rw [h]; exact Nat.le_of_lt hl
  · rw [h]; exact Nat.le_refl _
theorem least_mate {K : Nat → Nat → Bool} {n i : Nat} (e : Eqv K n) (h : i < n) : K (least K i) i = true ∧ ∀ j, j < least K i → K j i = false := by
  unfold least
  rcases find_range (p := fun j => K j i) (i := i) with ⟨j, hj, hl, hp, hb⟩ | ⟨hj, hb⟩
  · rw [hj]; exact ⟨hp, hb⟩
  · rw [hj]; exact ⟨e.rf i h, hb⟩
theorem least_eq {K : Nat → Nat → Bool} {n i j : Nat} (e : Eqv K n) (hi : i < n) (hk : K j i = true) (hm : ∀ k, k < j → K k i = false) : least K i = j := by
  obtain ⟨h1, h2⟩ := least_mate e hi
  rcases Nat.lt_trichotomy (least K i) j with h | h | h
  · rw [hm _ h] at h1; cases h1
  · exact h
  · rw [h2 _ h] at hk; cases hk
theorem least_congr_mate {K : Nat → Nat → Bool} {n i j : Nat} (e : Eqv K n) (hi : i < n) (hj : j < n) : least K i = least K j ↔ K i j = true := by
  obtain ⟨h1, h2⟩ := least_mate e hi
  obtain ⟨k1, k2⟩ := least_mate e hj
  have li := least_le K i
  have lj := least_le K j
  constructor
  · intro h
    rw [← h] at k1
    exact e.tr i _ j hi (by omega) hj (e.sy _ _ (by omega) hi h1) k1
  · intro h
    refine least_eq e hi (e.tr _ j i (by omega) hj hi k1 (e.sy _ _ hi hj h)) fun k hk => ?_
    cases hh : K k i with
    | false => rfl
    | true => rw [← k2 k hk]; exact (e.tr k i j (by omega) hi hj hh h).symm
theorem least_idem {K : Nat → Nat → Bool} {n i : Nat} (e : Eqv K n) (hi : i < n) : least K (least K i) = least K i := by
  have := least_le K i
  exact (least_congr_mate e (by omega) hi).2 (least_mate e hi).1
theorem least_congr {K K' : Nat → Nat → Bool} {n i : Nat} (h : ∀ a b, a < n → b < n → K a b = K' a b) (hi : i < n) : least K i = least K' i := by
  unfold least
  have : ∀ l : List Nat, (∀ j ∈ l, j < n) → l.find? (fun j => K j i) = l.find? (fun j => K' j i) := by
    intro l
    induction l with
    | nil => intro _; rfl
    | cons a l ih =>
      intro hl
      simp only [List.find?_cons]
      rw [h a i (hl a (by simp)) hi, ih fun j hj => hl j (by simp [hj])]
  rw [this _ fun j hj => by have := List.mem_range.1 hj; omega]
theorem reps_congr {K K' : Nat → Nat → Bool} {n m : Nat} (h : ∀ a b, a < n → b < n → K a b = K' a b) (hm : m ≤ n) : reps K m = reps K' m := by
  unfold reps
  congr 1
  refine List.filter_congr fun j hj => ?_
  rw [least_congr h (by have := List.mem_range.1 hj; omega)]
theorem clsL_congr {K K' : Nat → Nat → Bool} {n : Nat} (h : ∀ a b, a < n → b < n → K a b = K' a b) : clsL K n = clsL K' n := by
  refine List.map_congr_left fun i hi => ?_
  have hi' := List.mem_range.1 hi
  unfold clsAt
  rw [least_congr h hi', reps_congr h (by have := least_le K' i; omega)]
theorem reps_succ (K : Nat → Nat → Bool) (m : Nat) : reps K (m + 1) = reps K m + (if least K m = m then 1 else 0) := by
  unfold reps
  rw [List.range_succ, List.filter_append, List.length_append]
  congr 1
  by_cases h : least K m = m <;> simp [h]
theorem reps_mono {K : Nat → Nat → Bool} {a b : Nat} (h : a ≤ b) : reps K a ≤ reps K b := by
  induction b with
  | zero => obtain rfl : a = 0 := by omega
            exact Nat.le_refl _
  | succ b ih =>
    by_cases e : a = b + 1
    · subst e; exact Nat.le_refl _
    · have := ih (by omega)
      rw [reps_succ]
      omega

def kerB (xs : List Int) (a b : Nat) : Bool := xs.getD a 0 == xs.getD b 0
theorem kerB_eqv (xs : List Int) (n : Nat) : Eqv (kerB xs) n := ⟨fun a _ => by simp [kerB], fun a b _ _ h => by simp only [kerB, beq_iff_eq] at h ⊢; exact h.symm, fun a b c _ _ _ h h' => by simp only [kerB, beq_iff_eq] at h h' ⊢; exact h.trans h'⟩
def seenL (xs : List Int) (i : Nat) : List Int := ((List.range i).filter fun j => least (kerB xs) j == j).map fun j => xs.getD j 0
@[simp] theorem length_seenL (xs : List Int) (i : Nat) : (seenL xs i).length = reps (kerB xs) i := by simp [seenL, reps]
theorem seenL_new {xs : List Int} {i : Nat} (h : least (kerB xs) i = i) : seenL xs (i + 1) = seenL xs i ++ [xs.getD i 0] := by simp [seenL, List.range_succ, List.filter_append, h]
theorem seenL_old {xs : List Int} {i : Nat} (h : least (kerB xs) i ≠ i) : seenL xs (i + 1) = seenL xs i := by simp [seenL, List.range_succ, List.filter_append, h]
theorem seenL_at {xs : List Int} {i m : Nat} (h : m < (seenL xs i).length) : ∃ j, j < i ∧ least (kerB xs) j = j ∧ reps (kerB xs) j = m ∧ (seenL xs i).getD m 0 = xs.getD j 0 := by
  induction i with
  | zero => simp [seenL] at h
  | succ i ih =>
    by_cases hi : least (kerB xs) i = i
    · rw [seenL_new hi] at h ⊢
      by_cases e : m < (seenL xs i).length
      · obtain ⟨j, h1, h2, h3, h4⟩ := ih e
        refine ⟨j, by omega, h2, h3, ?_⟩
        rw [List.getD_eq_getElem?_getD, List.getElem?_append_left e, ← List.getD_eq_getElem?_getD]
        exact h4
      · have hm : m = (seenL xs i).length := by simp at h; rw [length_seenL] at *; omega
        refine ⟨i, by omega, hi, by rw [hm, length_seenL], ?_⟩
        rw [hm, List.getD_eq_getElem?_getD, List.getElem?_append_right (Nat.le_refl _)]
        simp
    · rw [seenL_old hi] at h ⊢
      obtain ⟨j, h1, h2, h3, h4⟩ := ih h
      exact ⟨j, by omega, h2, h3, h4⟩
def idxL (xs : List Int) (v : Int) : Int := match firstN xs.length fun i => xs.getD i 0 == v with | some i => (i : Int) | none => -1
theorem idxL_none {xs : List Int} {v : Int} (h : ∀ j, j < xs.length → ¬ xs.getD j 0 = v) : idxL xs v = -1 := by
  unfold idxL; rw [firstN_none fun j hj => by simpa using h j hj]
def seenE (xs : List Int) (k : Nat) : List (Int × Int) := (List.range (seenL xs k).length).map fun i => ((seenL xs k).getD i 0, (i : Int))
@[simp] theorem length_seenE (xs : List Int) (k : Nat) : (seenE xs k).length = (seenL xs k).length := by simp [seenE]
def part0 (n : Nat) (f : Nat → Int) (k : Nat) : List Int := (List.range n).map fun i => bif decide (i < k) then f i else 0
@[simp] theorem length_part0 (n : Nat) (f : Nat → Int) (k : Nat) : (part0 n f k).length = n := by simp [part0]
def stepK (K : Nat → Nat → Bool) (p q : Nat) : Nat → Nat → Bool := fun a b => K a b || (K a p && K q b) || (K a q && K p b)
def joinK (ps : List (Nat × Nat)) : Nat → Nat → Bool := ps.foldl (fun K p => stepK K p.1 p.2) (fun a b => a == b)
theorem joinK_nil : joinK [] = fun a b => a == b := rfl
def Ker (lab : List Int) (K : Nat → Nat → Bool) (n : Nat) : Prop := ∀ a b, a < n → b < n → kerB lab a b = K a b
theorem Ker.start {lab : List Int} {n : Nat} (h : ∀ i, i < n → lab.getD i 0 = (i : Int)) : Ker lab (joinK []) n := fun a b ha hb => by
  unfold kerB
  rw [h a ha, h b hb, joinK_nil, Bool.eq_iff_iff]
  simp only [beq_iff_eq]
  omega
theorem Ker.step {lab lab' : List Int} {K : Nat → Nat → Bool} {n p q : Nat} (h : Ker lab K n) (hp : p < n) (hq : q < n) (hs : ∀ i, i < n → lab'.getD i 0 = if lab.getD i 0 = lab.getD q 0 then lab.getD p 0 else lab.getD i 0) : Ker lab' (stepK K p q) n := fun a b ha hb => by
  unfold stepK
  rw [← h a b ha hb, ← h a p ha hp, ← h q b hq hb, ← h a q ha hq, ← h p b hp hb, Bool.eq_iff_iff]
  unfold kerB
  rw [hs a ha, hs b hb]
  simp only [beq_iff_eq, Bool.or_eq_true, Bool.and_eq_true]
  generalize lab.getD a 0 = x at *
  generalize lab.getD b 0 = y at *
  generalize lab.getD p 0 = u at *
  generalize lab.getD q 0 = v at *
  by_cases h1 : x = v
  · by_cases h2 : y = v
    · rw [if_pos h1, if_pos h2]; omega
    · rw [if_pos h1, if_neg h2]; omega
  · by_cases h2 : y = v
    · rw [if_neg h1, if_pos h2]; omega
    · rw [if_neg h1, if_neg h2]; omega
def relab (xs : List Int) (a b : Int) (k : Nat) : List Int := (xs.take k).map (fun z => if z = b then a else z) ++ xs.drop k
@[simp] theorem length_relab (xs : List Int) (a b : Int) (k : Nat) : (relab xs a b k).length = xs.length := by simp [relab]; omega
theorem relab_getD {xs : List Int} {a b : Int} {k i : Nat} (hi : i < xs.length) : (relab xs a b k).getD i 0 = if i < k then (if xs.getD i 0 = b then a else xs.getD i 0) else xs.getD i 0 := by
  unfold relab
  by_cases h : i < k
  · rw [if_pos h, List.getD_eq_getElem?_getD, List.getElem?_append_left (by simp; omega)]
    simp only [List.getElem?_map, List.getElem?_take, h, if_true, List.getD_eq_getElem?_getD]
    rw [List.getElem?_eq_getElem hi]
    simp
  · rw [if_neg h, List.getD_eq_getElem?_getD, List.getElem?_append_right (by simp; omega)]
    simp only [List.length_map, List.length_take, List.getElem?_drop, List.getD_eq_getElem?_getD]
    congr 2
    omega
theorem Ker.relab {lab : List Int} {K : Nat → Nat → Bool} {n p q e : Nat} (h : Ker lab K n) (hl : lab.length = n) (hp : p < n) (hq : q < n) (he : e = n ∨ lab.getD p 0 = lab.getD q 0) : Ker (Go.GL.relab lab (lab.getD p 0) (lab.getD q 0) e) (stepK K p q) n := by
  refine h.step hp hq fun i hi => ?_
  rw [relab_getD (by omega)]
  rcases he with rfl | he
  · rw [if_pos hi]
  · by_cases hie : i < e
    · rw [if_pos hie]
    · rw [if_neg hie]
      by_cases hx : lab.getD i 0 = lab.getD q 0
      · rw [if_pos hx, he, hx]
      · rw [if_neg hx]

structure Forest (j : List Int) : Prop where
  up : ∀ x, x < j.length → 0 ≤ j.getD x 0 ∧ j.getD x 0 ≤ (x : Int)
def rootF (j : List Int) : Nat → Nat → Nat
  | 0, x => x
  | f + 1, x => if (j.getD x 0).toNat < x then rootF j f (j.getD x 0).toNat else x
def rootOf (j : List Int) (x : Nat) : Nat := rootF j (x + 1) x
theorem rootF_enough (j : List Int) : ∀ {f g x : Nat}, x < f → x < g → rootF j f x = rootF j g x
  | 0, _, _, h, _ => by omega
  | _, 0, _, _, h => by omega
  | f + 1, g + 1, x, hf, hg => by
    unfold rootF
    by_cases h : (j.getD x 0).toNat < x
    · rw [if_pos h, if_pos h]; exact rootF_enough j (by omega) (by omega)
    · rw [if_neg h, if_neg h]
theorem rootOf_step {j : List Int} {x : Nat} (h : (j.getD x 0).toNat < x) : rootOf j x = rootOf j (j.getD x 0).toNat := by
  unfold rootOf
  rw [show rootF j (x + 1) x = rootF j x (j.getD x 0).toNat by conv => lhs; unfold rootF; rw [if_pos h]]
  exact rootF_enough j h (by omega)
theorem rootOf_end {j : List Int} {x : Nat} (h : ¬ (j.getD x 0).toNat < x) : rootOf j x = x := by
  unfold rootOf rootF; rw [if_neg h]
theorem rootOf_le (j : List Int) (x : Nat) : rootOf j x ≤ x := by
  induction x using Nat.strongRecOn with
  | _ x ih =>
    by_cases h : (j.getD x 0).toNat < x
    · rw [rootOf_step h]; have := ih _ h; omega
    · rw [rootOf_end h]; exact Nat.le_refl _
theorem rootOf_root {j : List Int} (hF : Forest j) {x : Nat} (hx : x < j.length) : j.getD (rootOf j x) 0 = (rootOf j x : Int) := by
  induction x using Nat.strongRecOn with
  | _ x ih =>
    by_cases h : (j.getD x 0).toNat < x
    · rw [rootOf_step h]; exact ih _ h (by omega)
    · rw [rootOf_end h]; have := hF.up x hx; omega
theorem rootOf_fix {j : List Int} {x : Nat} (h : j.getD x 0 = (x : Int)) : rootOf j x = x := rootOf_end (by omega)
theorem rootOf_join {j : List Int} (hF : Forest j) {x y : Nat} (hx : x < j.length) (hr : j.getD x 0 = (x : Int)) (hry : j.getD y 0 = (y : Int)) (hy : y ≤ x) : Forest (j.set x (y : Int)) ∧ ∀ z, z < j.length → rootOf (j.set x (y : Int)) z = if rootOf j z = x then y else rootOf j z := by
  have hF' : Forest (j.set x (y : Int)) := ⟨fun z hz => by
    rw [List.length_set] at hz
    rw [getD_set hx]
    by_cases e : z = x
    · subst e; simp; omega
    · rw [if_neg e]; exact hF.up z hz⟩
  refine ⟨hF', fun z => ?_⟩
  induction z using Nat.strongRecOn with
  | _ z ih =>
    intro hz
    have hg : (j.set x (y : Int)).getD z 0 = if z = x then (y : Int) else j.getD z 0 := getD_set hx
    by_cases e : z = x
    · subst e
      rw [if_pos rfl] at hg
      rw [rootOf_fix hr, if_pos rfl]
      by_cases e2 : y = z
      · subst e2; exact rootOf_fix (by rw [hg])
      · rw [rootOf_step (by rw [hg]; simp; omega), hg, Int.toNat_natCast, ih y (by omega) (by omega), rootOf_fix hry, if_neg e2]
    · rw [if_neg e] at hg
      by_cases h : (j.getD z 0).toNat < z
      · rw [rootOf_step (by rw [hg]; exact h), hg, ih _ h (by omega), rootOf_step h]
      · rw [rootOf_end (by rw [hg]; exact h), rootOf_end h, if_neg e]
def RootK (j : List Int) (K : Nat → Nat → Bool) (n : Nat) : Prop := j.length = n ∧ Forest j ∧ ∀ a b, a < n → b < n → ((rootOf j a == rootOf j b) = K a b)
theorem RootK.start {j : List Int} {n : Nat} (hn : j.length = n) (h : ∀ i, i < n → j.getD i 0 = (i : Int)) : RootK j (joinK []) n := by
  refine ⟨hn, ⟨fun x hx => by rw [h x (by omega)]; omega⟩, fun a b ha hb => ?_⟩
  rw [rootOf_fix (h a ha), rootOf_fix (h b hb), joinK_nil]
theorem RootK.same {j j' : List Int} {K : Nat → Nat → Bool} {n : Nat} (h : RootK j K n) (hl : j'.length = j.length) (hF : Forest j') (hr : ∀ z, z < j.length → rootOf j' z = rootOf j z) : RootK j' K n :=
  ⟨by rw [hl]; exact h.1, hF, fun a b ha hb => by rw [hr a (by have := h.1; omega), hr b (by have := h.1; omega)]; exact h.2.2 a b ha hb⟩
theorem RootK.join {j : List Int} {K : Nat → Nat → Bool} {n p q : Nat} (h : RootK j K n) (hp : p < n) (hq : q < n) : RootK (j.set (max (rootOf j p) (rootOf j q)) ((min (rootOf j p) (rootOf j q) : Nat) : Int)) (stepK K p q) n := by
  obtain ⟨hl, hF, hk⟩ := h
  have lp := rootOf_le j p
  have lq := rootOf_le j q
  have rp := rootOf_root hF (x := p) (by omega)
  have rq := rootOf_root hF (x := q) (by omega)
  have hmx : j.getD (max (rootOf j p) (rootOf j q)) 0 = ((max (rootOf j p) (rootOf j q) : Nat) : Int) := by
    rcases Nat.le_total (rootOf j p) (rootOf j q) with h | h
    · rw [Nat.max_eq_right h]; exact rq
    · rw [Nat.max_eq_left h]; exact rp
  have hmn : j.getD (min (rootOf j p) (rootOf j q)) 0 = ((min (rootOf j p) (rootOf j q) : Nat) : Int) := by
    rcases Nat.le_total (rootOf j p) (rootOf j q) with h | h
    · rw [Nat.min_eq_left h]; exact rp
    · rw [Nat.min_eq_right h]; exact rq
  obtain ⟨k1, k2⟩ := rootOf_join hF (x := max (rootOf j p) (rootOf j q)) (y := min (rootOf j p) (rootOf j q)) (by omega) hmx hmn (by omega)
  refine ⟨by simpa using hl, k1, fun a b ha hb => ?_⟩
  rw [k2 a (by omega), k2 b (by omega)]
  unfold stepK
  rw [← hk a b ha hb, ← hk a p ha hp, ← hk q b hq hb, ← hk a q ha hq, ← hk p b hp hb, Bool.eq_iff_iff]
  simp only [beq_iff_eq, Bool.or_eq_true, Bool.and_eq_true]
  generalize rootOf j a = ra at *
  generalize rootOf j b = rb at *
  generalize rootOf j p = x at *
  generalize rootOf j q = y at *
  rcases Nat.le_total x y with h | h
  · rw [Nat.max_eq_right h, Nat.min_eq_left h]
    by_cases h1 : ra = y
    · by_cases h2 : rb = y
      · rw [if_pos h1, if_pos h2]; omega
      · rw [if_pos h1, if_neg h2]; omega
    · by_cases h2 : rb = y
      · rw [if_neg h1, if_pos h2]; omega
      · rw [if_neg h1, if_neg h2]; omega
  · rw [Nat.max_eq_left h, Nat.min_eq_right h]
    by_cases h1 : ra = x
    · by_cases h2 : rb = x
      · rw [if_pos h1, if_pos h2]; omega
      · rw [if_pos h1, if_neg h2]; omega
    · by_cases h2 : rb = x
      · rw [if_neg h1, if_pos h2]; omega
      · rw [if_neg h1, if_neg h2]; omega
theorem Ker.cls {lab : List Int} {K : Nat → Nat → Bool} {n : Nat} (h : Ker lab K n) : clsL (kerB lab) n = clsL K n := clsL_congr h
def joinL (n : Nat) (ps : List (Nat × Nat)) : List Int := clsL (joinK ps) n
@[simp] theorem length_joinL (n : Nat) (ps : List (Nat × Nat)) : (joinL n ps).length = n := by simp [joinL]
end Go.GL
namespace Go.GL
def u8s (ns : List Int) : List Value := ns.map (Value.int .u8)
@[simp] theorem length_u8s (ns : List Int) : (u8s ns).length = ns.length := by simp [u8s]
def idxLL (xss : List (List Int)) (t : List Int) : Int := match firstN xss.length fun i => xss.getD i [] == t with | some i => (i : Int) | none => -1
theorem idxLL_some {xss : List (List Int)} {t : List Int} {i : Nat} (hi : i < xss.length) (h : xss.getD i [] = t) (hb : ∀ j, j < i → ¬ xss.getD j [] = t) : idxLL xss t = i := by
  unfold idxLL
  rw [firstN_some hi (by simpa using h) fun j hj => by simpa using hb j hj]
theorem getD_inj {xss : List (List Int)} (hn : xss.Nodup) {i j : Nat} (hi : i < xss.length) (hj : j < xss.length) (h : xss.getD i [] = xss.getD j []) : i = j := by
  rw [List.getD_eq_getElem?_getD, List.getD_eq_getElem?_getD, List.getElem?_eq_getElem hi, List.getElem?_eq_getElem hj] at h
  exact (List.getElem_inj hn).1 (by simpa using h)
theorem idxLL_at {xss : List (List Int)} (hn : xss.Nodup) {i : Nat} (hi : i < xss.length) : idxLL xss (xss.getD i []) = i := idxLL_some hi rfl fun j hj e => by have := getD_inj hn (by omega) hi e; omega
theorem idxLL_mem {xss : List (List Int)} (hn : xss.Nodup) {t : List Int} (h : t ∈ xss) : ∃ i : Nat, i < xss.length ∧ xss.getD i [] = t ∧ idxLL xss t = i := by
  obtain ⟨i, hi, e⟩ := List.getElem_of_mem h
  have e2 : xss.getD i [] = t := by rw [List.getD_eq_getElem?_getD, List.getElem?_eq_getElem hi, e]; rfl
  exact ⟨i, hi, e2, by rw [← e2]; exact idxLL_at hn hi⟩
structure Keys (n : Nat) (xss : List (List Int)) : Prop where
  nd : xss.Nodup
  ok : ∀ t ∈ xss, t.length = n ∧ ∀ i, i < n → 0 ≤ t.getD i 0 ∧ t.getD i 0 ≤ 255
end Go.GL
namespace Go.GL
abbrev rep (xs : List Int) (k : Nat) : Nat := least (kerB xs) k
theorem rep_lab (xs : List Int) (k : Nat) : xs.getD (rep xs k) 0 = xs.getD k 0 := by
  have := (least_mate (kerB_eqv xs (k + 1)) (i := k) (by omega)).1
  unfold kerB at this
  exact eq_of_beq this
theorem rep_eq {xs : List Int} {a b : Nat} : rep xs a = rep xs b ↔ xs.getD a 0 = xs.getD b 0 := by
  have := least_congr_mate (kerB_eqv xs (a + b + 1)) (i := a) (j := b) (by omega) (by omega)
  rw [this]; simp [kerB]
def pairsL (xs : List Int) (m : Nat) : List (List Int) := (List.range m).map fun i => [(rep xs i : Int), (i : Int)]
@[simp] theorem length_pairsL (xs : List Int) (m : Nat) : (pairsL xs m).length = m := by simp [pairsL]
abbrev Cat.tn (c : Cat) (a b : Nat) : Nat := ((c.comp.getD a []).getD b 0).toNat
theorem Cat.Shape.tn {c : Cat} (h : c.Shape) {a b : Nat} (ha : a < c.src.length) (hb : b < c.src.length) (e : c.tgt.getD a 0 = c.src.getD b 0) :
    c.tn a b < c.src.length ∧ c.src.getD (c.tn a b) 0 = c.src.getD a 0 ∧ c.tgt.getD (c.tn a b) 0 = c.tgt.getD b 0 ∧ (c.comp.getD a []).getD b 0 = (c.tn a b : Int) := by
  have h1 := (Cat.Cell.pos e).1 (h.cell a (by have := h.cl; omega) b hb)
  obtain ⟨h2, h3, h4, h5⟩ := h1
  exact ⟨by unfold Cat.tn; omega, h4, h5, by unfold Cat.tn; omega⟩
def Cat.ParOk (c : Cat) (xs : List Int) : Prop := ∀ k, k < c.src.length → c.src.getD (rep xs k) 0 = c.src.getD k 0 ∧ c.tgt.getD (rep xs k) 0 = c.tgt.getD k 0
def Cat.CmpOk (c : Cat) (xs : List Int) : Prop := ∀ i, i < c.src.length → ∀ j, j < c.src.length → c.tgt.getD i 0 = c.src.getD j 0 → xs.getD (c.tn i j) 0 = xs.getD (c.tn (rep xs i) (rep xs j)) 0
structure Cat.Cong (c : Cat) (xs : List Int) : Prop where
  len : xs.length = c.src.length
  nor : clsL (kerB xs) xs.length = xs
  par : c.ParOk xs
  cmp : c.CmpOk xs

theorem OwnL.low {b b' : Nat} {H : GHeap} {e : TypeId} {r : Nat → Option Addr} {xss : List (List Int)} (h : OwnL b H e r xss) (hb : b' ≤ b) : OwnL b' H e r xss := ⟨fun i hi => by
  obtain ⟨g, h1, h2, h3⟩ := h.row i hi
  exact ⟨g, h1, by omega, h3⟩, h.inj⟩
def Cat.quOk (c : Cat) (xs : List Int) (t : Nat × Nat × Nat) : Bool := decide (c.tgt.getD t.2.1 0 = c.src.getD (rep xs t.1) 0) && decide (c.tgt.getD (rep xs t.1) 0 = c.src.getD t.2.2 0)
def Cat.quRow (c : Cat) (xs : List Int) (t : Nat × Nat × Nat) : List Int := [(c.tn (c.tn t.2.1 (rep xs t.1)) t.2.2 : Int), (c.tn (c.tn t.2.1 t.1) t.2.2 : Int)]
def quT (n k i j : Nat) : List (Nat × Nat × Nat) := nest3 (fun a b d => (a, b, d)) (fun _ => n) (fun _ _ => n) k i j
def Cat.quL (c : Cat) (xs : List Int) (k i j : Nat) : List (List Int) := pairsL xs c.src.length ++ ((quT c.src.length k i j).filter (c.quOk xs)).map (c.quRow xs)
theorem Cat.quL_zero (c : Cat) (xs : List Int) : c.quL xs 0 0 0 = pairsL xs c.src.length := by simp [Cat.quL, quT, nest3_zero]
@[simp] theorem Cat.quL_len0 (c : Cat) (xs : List Int) : (c.quL xs 0 0 0).length = c.src.length := by rw [Cat.quL_zero, length_pairsL]
def NorK (xs : List Int) (k : Nat) : Prop := ∀ i, i < k → xs.getD i 0 = clsAt (kerB xs) i
theorem NorK.zero (xs : List Int) : NorK xs 0 := fun i hi => by omega
theorem reps_lt_of {xs : List Int} {j k : Nat} (hj : least (kerB xs) j = j) (h : j < k) : reps (kerB xs) j < reps (kerB xs) k := by
  have h5 := reps_mono (K := kerB xs) (a := j + 1) h
  rw [reps_succ, if_pos hj] at h5
  omega
theorem NorK.old {xs : List Int} {k : Nat} (h : NorK xs k) (hl : least (kerB xs) k < k) : xs.getD k 0 = clsAt (kerB xs) k ∧ xs.getD k 0 < (reps (kerB xs) k : Int) := by
  have h1 := rep_lab xs k
  have h2 := h _ hl
  have hi := least_idem (kerB_eqv xs (k + 1)) (i := k) (by omega)
  have h3 := reps_lt_of (xs := xs) hi hl
  unfold clsAt at h2 ⊢
  rw [hi] at h2
  unfold rep at h1
  omega
theorem NorK.lo {xs : List Int} {k : Nat} (h : NorK xs k) (h0 : 0 ≤ xs.getD k 0) (h1 : xs.getD k 0 < (reps (kerB xs) k : Int)) : NorK xs (k + 1) ∧ reps (kerB xs) (k + 1) = reps (kerB xs) k := by
  obtain ⟨j, hj, hjj, hr, _⟩ := seenL_at (xs := xs) (i := k) (m := (xs.getD k 0).toNat) (by rw [length_seenL]; omega)
  have hx : xs.getD j 0 = xs.getD k 0 := by
    rw [h j hj]; unfold clsAt; rw [hjj]; omega
  have hlt : least (kerB xs) k < k := by
    have e : rep xs j = rep xs k := rep_eq.2 hx
    unfold rep at e
    omega
  refine ⟨fun i hi => ?_, by rw [reps_succ, if_neg (by omega)]; rfl⟩
  by_cases e : i < k
  · exact h i e
  · obtain rfl : i = k := by omega
    exact (h.old hlt).1
theorem NorK.hi {xs : List Int} {k : Nat} (h : NorK xs k) (h1 : xs.getD k 0 = (reps (kerB xs) k : Int)) : NorK xs (k + 1) ∧ reps (kerB xs) (k + 1) = reps (kerB xs) k + 1 := by
  have hk : least (kerB xs) k = k := by
    have := least_le (kerB xs) k
    refine Classical.byContradiction fun hne => ?_
    have := (h.old (by omega)).2
    omega
  refine ⟨fun i hi => ?_, by rw [reps_succ, if_pos hk]⟩
  by_cases e : i < k
  · exact h i e
  · obtain rfl : i = k := by omega
    unfold clsAt; rw [hk]; exact h1
theorem NorK.iff {xs : List Int} : NorK xs xs.length ↔ clsL (kerB xs) xs.length = xs := by
  constructor
  · intro h
    exact eq_of_getD (by simp) fun i hi => by
      have hi' : i < xs.length := by simpa using hi
      rw [clsL_get hi']; exact (h i hi').symm
  · intro h i hi
    have := clsL_get (K := kerB xs) hi
    rw [h] at this
    exact this
end Go.GL
namespace Go.GL
def repL (xs : List Int) (n : Nat) : List Nat := (List.range n).filter fun i => rep xs i == i
def fromL (xs : List Int) (n e : Nat) (v : Int) : Option Nat := (List.range n).find? fun i => decide (e ≤ i) && xs.getD i 0 == v
def backL (xs : List Int) (f : Nat → Int) (m n e : Nat) : List Int := (List.range m).map fun (v : Nat) => match fromL xs n e v with | some i => f i | none => 0
@[simp] theorem length_backL (xs : List Int) (f : Nat → Int) (m n e : Nat) : (backL xs f m n e).length = m := by simp [backL]
end Go.GL
namespace Go.GL
def Off (r : Nat → Option Addr) (n : Nat) (gs : List Nat) : Prop := ∀ i, i < n → ∀ g, r i = some ⟨g, 0, none⟩ → out gs g
theorem Off.nil (r : Nat → Option Addr) (n : Nat) : Off r n [] := fun _ _ _ _ => trivial
theorem Off.cons {r : Nat → Option Addr} {n g : Nat} {gs : List Nat} (h : ∀ i, i < n → r i ≠ some ⟨g, 0, none⟩) (h' : Off r n gs) : Off r n (g :: gs) := fun i hi k hk => ⟨fun e => h i hi (by rw [hk, e]), h' i hi k hk⟩
theorem Off.tail {r : Nat → Option Addr} {n g : Nat} {gs : List Nat} (h : Off r n (g :: gs)) : Off r n gs := fun i hi k hk => (h i hi k hk).2
theorem Off.zero (r : Nat → Option Addr) (gs : List Nat) : Off r 0 gs := fun _ hi => by omega
theorem OwnRows.st {b k : Nat} {bs : List Nat} {H H' : GHeap} {e : TypeId} {r : Nat → Option Addr} {X : Nat → List Int} (h : OwnRows b H e r X k) (s : St bs H H') (ho : Off r k bs) : OwnRows b H' e r X k := ⟨fun i hi => by
  obtain ⟨x, h1, h2, h3⟩ := h.row i hi
  exact ⟨x, h1, h2, s.same x _ (ho i hi x h1) h3⟩, h.inj⟩
theorem OwnL.st {b : Nat} {bs : List Nat} {H H' : GHeap} {e : TypeId} {r : Nat → Option Addr} {xss : List (List Int)} (h : OwnL b H e r xss) (s : St bs H H') (ho : Off r xss.length bs) : OwnL b H' e r xss := OwnRows.st h s ho
theorem OwnL.ne {b g : Nat} {H : GHeap} {e : TypeId} {r : Nat → Option Addr} {xss : List (List Int)} (h : OwnL b H e r xss) (hg : H.next ≤ g) : ∀ i, i < xss.length → r i ≠ some ⟨g, 0, none⟩ := fun i hi e => by
  obtain ⟨x, h1, _, h3⟩ := h.row i hi
  rw [h1] at e
  cases e
  have := GHeap.ltg h3
  omega
theorem OwnL.neT {b g : Nat} {H : GHeap} {e e' : TypeId} {cs : List Value} {r : Nat → Option Addr} {xss : List (List Int)} (h : OwnL b H e r xss) (hg : H.get g = some (.row cs e' true)) (hne : (e != e') = true) : ∀ i, i < xss.length → r i ≠ some ⟨g, 0, none⟩ := fun i hi ei => by
  obtain ⟨x, h1, _, h3⟩ := h.row i hi
  rw [h1] at ei
  cases ei
  rw [hg] at h3
  cases h3
  simp at hne
theorem OwnL.lowNe {b g : Nat} {H : GHeap} {e : TypeId} {r : Nat → Option Addr} {xss : List (List Int)} (h : OwnL b H e r xss) (hg : g < b) : ∀ i, i < xss.length → r i ≠ some ⟨g, 0, none⟩ := fun i hi ei => by
  obtain ⟨x, h1, h2, _⟩ := h.row i hi
  rw [h1] at ei
  cases ei
  omega
theorem ne_snoc {g k : Nat} {r : Nat → Option Addr} {xss : List (List Int)} {x : List Int} (h : ∀ i, i < xss.length → r i ≠ some ⟨g, 0, none⟩) (hk : k ≠ g) : ∀ i, i < (xss ++ [x]).length → upd r xss.length (some ⟨k, 0, none⟩) i ≠ some ⟨g, 0, none⟩ := fun i hi => by
  rw [List.length_append, List.length_singleton] at hi
  by_cases e : i = xss.length
  · subst e
    rw [upd_eq]
    intro e
    cases e
    exact hk rfl
  · rw [upd_ne e]
    exact h i (by omega)
theorem OwnL.snoc2 {b g : Nat} {H : GHeap} {e : TypeId} {r : Nat → Option Addr} {xss : List (List Int)} {x : List Int} (h : OwnL b H e r xss) (hg : H.get g = some (.row (ints x) e true)) (hne : ∀ i, i < xss.length → r i ≠ some ⟨g, 0, none⟩) (hb : b ≤ g) :
    OwnL b H e (upd r xss.length (some ⟨g, 0, none⟩)) (xss ++ [x]) := by
  have key : ∀ i, i < xss.length + 1 → (i = xss.length ∧ upd r xss.length (some ⟨g, 0, none⟩) i = some ⟨g, 0, none⟩ ∧ (xss ++ [x]).getD i [] = x) ∨ (i < xss.length ∧ upd r xss.length (some ⟨g, 0, none⟩) i = r i ∧ (xss ++ [x]).getD i [] = xss.getD i []) := by
    intro i hi
    by_cases e : i = xss.length
    · subst e
      exact .inl ⟨rfl, upd_eq _ _ _, by rw [getD_snoc, if_neg (by omega), if_pos rfl]⟩
    · exact .inr ⟨by omega, upd_ne e, by rw [getD_snoc, if_pos (by omega)]⟩
  unfold OwnL
  rw [List.length_append, List.length_singleton]
  refine ⟨fun i hi => ?_, fun i j hi hj hij => ?_⟩
  · rcases key i hi with ⟨_, h2, h3⟩ | ⟨h1, h2, h3⟩
    · exact ⟨g, h2, hb, by rw [h3]; exact hg⟩
    · obtain ⟨y, y1, y2, y3⟩ := h.row i h1
      exact ⟨y, by rw [h2]; exact y1, y2, by rw [h3]; exact y3⟩
  · rcases key i hi with ⟨h1, h2, _⟩ | ⟨h1, h2, _⟩
    · rcases key j hj with ⟨k1, k2, _⟩ | ⟨k1, k2, _⟩
      · omega
      · rw [h2, k2] at hij
        exact absurd hij.symm (hne j k1)
    · rcases key j hj with ⟨k1, k2, _⟩ | ⟨k1, k2, _⟩
      · rw [h2, k2] at hij
        exact absurd hij (hne i h1)
      · rw [h2, k2] at hij
        exact h.inj i j h1 k1 hij
theorem take_map_snoc {α β : Type} {f : α → β} {l : List α} {i : Nat} {d : α} (h : i < l.length) : (l.take (i + 1)).map f = (l.take i).map f ++ [f (l.getD i d)] := by
  rw [List.take_add_one, List.getElem?_eq_getElem h, List.map_append, List.getD_eq_getElem?_getD, List.getElem?_eq_getElem h]; rfl

def fillS (r : Nat → Option Addr) (n k : Nat) : List Value := (List.range n).map fun i => if i < k then .slice (r i) n n else .slice none 0 0
@[simp] theorem length_fillS (r : Nat → Option Addr) (n k : Nat) : (fillS r n k).length = n := by simp [fillS]
def fillI (c : Nat → Int) (n k : Nat) : List Int := (List.range n).map fun i => if i < k then c i else 0
@[simp] theorem length_fillI (c : Nat → Int) (n k : Nat) : (fillI c n k).length = n := by simp [fillI]
def tabC (src tgt : List Int) (X : Nat → Nat → Int) (i j : Nat) : Int := if tgt.getD i 0 = src.getD j 0 then X i j else -1
def tabR (src tgt : List Int) (X : Nat → Nat → Int) (n i : Nat) : List Int := (List.range n).map (tabC src tgt X i)
@[simp] theorem length_tabR (src tgt : List Int) (X : Nat → Nat → Int) (n i : Nat) : (tabR src tgt X n i).length = n := by simp [tabR]
theorem eq_of_getD2 {xss yss : List (List Int)} (hl : xss.length = yss.length) (h : ∀ i, i < xss.length → xss.getD i [] = yss.getD i []) : xss = yss := by
  apply List.ext_getElem hl
  intro i h1 h2
  have := h i h1
  simpa [List.getD_eq_getElem?_getD, List.getElem?_eq_getElem h1, List.getElem?_eq_getElem h2] using this
end Go.GL
namespace Go.GL
def repI (xs : List Int) (n : Nat) : List Int := (repL xs n).map fun (i : Nat) => (i : Int)
@[simp] theorem length_repI (xs : List Int) (n : Nat) : (repI xs n).length = (repL xs n).length := by simp [repI]
theorem NorK.lt {xs : List Int} {n k : Nat} (h : NorK xs n) (hk : k < n) : xs.getD k 0 < (reps (kerB xs) n : Int) := by
  rw [h k hk]
  unfold clsAt
  have := reps_lt_of (least_idem (kerB_eqv xs n) hk) (Nat.lt_of_le_of_lt (least_le (kerB xs) k) hk)
  omega
end Go.GL
namespace Go.GL
def tabB (n : Nat) (p : Nat → Bool) : List Bool := (List.range n).map p
@[simp] theorem length_tabB (n : Nat) (p : Nat → Bool) : (tabB n p).length = n := by simp [tabB]
theorem tabB_congr {n : Nat} {p q : Nat → Bool} (h : ∀ i, i < n → p i = q i) : tabB n p = tabB n q := List.map_congr_left fun i hi => h i (List.mem_range.1 hi)
def slsN (r : Nat → Nat) (L : Nat → Nat) (k : Nat) : List Value := (List.range k).map fun i => .slice (some ⟨r i, 0, none⟩) (L i) (L i)
@[simp] theorem length_slsN (r : Nat → Nat) (L : Nat → Nat) (k : Nat) : (slsN r L k).length = k := by simp [slsN]
def updN (r : Nat → Nat) (k g : Nat) : Nat → Nat := fun i => if i = k then g else r i
theorem updN_eq (r : Nat → Nat) (k g : Nat) : updN r k g k = g := by simp [updN]
theorem updN_ne {r : Nat → Nat} {k i g : Nat} (h : i ≠ k) : updN r k g i = r i := by simp [updN, h]
def LastsV (e : TypeId) (H H' : GHeap) : Prop := ∀ x cs, H.get x = some (.row cs e true) → H'.get x = some (.row cs e true)
theorem LastsV.trans {e : TypeId} {A B C : GHeap} (h : LastsV e A B) (h' : LastsV e B C) : LastsV e A C := fun x xs hx => h' x xs (h x xs hx)
theorem LastsV.of_le {e : TypeId} {H H' : GHeap} (h : H.Le H') : LastsV e H H' := fun x cs hx => h.2 x _ hx
structure OwnB (b : Nat) (H : GHeap) (e : TypeId) (r : Nat → Nat) (L : Nat → Nat) (M : Nat → Nat → Bool) (k : Nat) : Prop where
  row : ∀ i, i < k → b ≤ r i ∧ H.get (r i) = some (.row (bools (tabB (L i) (M i))) e true)
  inj : ∀ i j, i < k → j < k → r i = r j → i = j
theorem OwnB.zero (b : Nat) (H : GHeap) (e : TypeId) (r : Nat → Nat) (L : Nat → Nat) (M : Nat → Nat → Bool) : OwnB b H e r L M 0 := ⟨fun i hi => by omega, fun i j hi => by omega⟩
theorem OwnB.keep {b k : Nat} {H H' : GHeap} {e : TypeId} {r : Nat → Nat} {L : Nat → Nat} {M : Nat → Nat → Bool} (h : OwnB b H e r L M k) (s : LastsV e H H') : OwnB b H' e r L M k := ⟨fun i hi => ⟨(h.row i hi).1, s _ _ (h.row i hi).2⟩, h.inj⟩
theorem OwnB.succ {b g k : Nat} {H H' : GHeap} {e : TypeId} {r : Nat → Nat} {L : Nat → Nat} {M : Nat → Nat → Bool} (h : OwnB b H e r L M k) (s : LastsV e H H')
    (hg : H'.get g = some (.row (bools (tabB (L k) (M k))) e true)) (hn : H.next ≤ g) (hb : b ≤ g) : OwnB b H' e (updN r k g) L M (k + 1) := by
  have lt : ∀ i, i < k → r i < g := fun i hi => Nat.lt_of_lt_of_le (GHeap.ltg (h.row i hi).2) hn
  refine ⟨fun i hi => ?_, fun i j hi hj hij => ?_⟩
  · by_cases ek : i = k
    · subst ek; rw [updN_eq]; exact ⟨hb, hg⟩
    · rw [updN_ne ek]; exact ⟨(h.row i (by omega)).1, s _ _ (h.row i (by omega)).2⟩
  · by_cases ei : i = k
    · by_cases ej : j = k
      · omega
      · subst ei
        rw [updN_eq, updN_ne ej] at hij
        have := lt j (by omega)
        omega
    · by_cases ej : j = k
      · subst ej
        rw [updN_eq, updN_ne ei] at hij
        have := lt i (by omega)
        omega
      · rw [updN_ne ei, updN_ne ej] at hij
        exact h.inj i j (by omega) (by omega) hij
theorem OwnB.put {b k i : Nat} {H H' : GHeap} {e : TypeId} {r : Nat → Nat} {L : Nat → Nat} {M M' : Nat → Nat → Bool} (h : OwnB b H e r L M k) (hi : i < k) (s : St [r i] H H') (hg : H'.get (r i) = some (.row (bools (tabB (L i) (M' i))) e true))
    (hM : ∀ j, j < k → j ≠ i → ∀ d, d < L j → M' j d = M j d) : OwnB b H' e r L M' k := ⟨fun j hj => by
  by_cases ej : j = i
  · subst ej; exact ⟨(h.row j hj).1, hg⟩
  · refine ⟨(h.row j hj).1, ?_⟩
    rw [tabB_congr (hM j hj ej)]
    exact s.same _ _ ⟨fun er => ej (h.inj j i hj hi er), trivial⟩ (h.row j hj).2, h.inj⟩
theorem OwnB.congr {b k : Nat} {H : GHeap} {e : TypeId} {r : Nat → Nat} {L : Nat → Nat} {M M' : Nat → Nat → Bool} (h : OwnB b H e r L M k) (hM : ∀ j, j < k → ∀ d, d < L j → M' j d = M j d) : OwnB b H e r L M' k :=
  ⟨fun j hj => ⟨(h.row j hj).1, by rw [tabB_congr (hM j hj)]; exact (h.row j hj).2⟩, h.inj⟩
structure BMat (b : Nat) (H : GHeap) (g : Nat) (e1 e2 : TypeId) (r : Nat → Nat) (L : Nat → Nat) (M : Nat → Nat → Bool) (n : Nat) : Prop where
  hd : H.get g = some (.row (slsN r L n) e1 true)
  gb : b ≤ g
  own : OwnB b H e2 r L M n
theorem BMat.keep {b b' n g : Nat} {H H' : GHeap} {e1 e2 : TypeId} {r : Nat → Nat} {L : Nat → Nat} {M : Nat → Nat → Bool} (h : BMat b H g e1 e2 r L M n) (k : Keep b' H H') (hb : b' ≤ b) : BMat b' H' g e1 e2 r L M n :=
  ⟨k _ _ (by have := h.gb; omega) h.hd, by have := h.gb; omega, fun i hi => ⟨by have := (h.own.row i hi).1; omega, k _ _ (by have := (h.own.row i hi).1; omega) (h.own.row i hi).2⟩, h.own.inj⟩
theorem BMat.mono {b n g : Nat} {H H' : GHeap} {e1 e2 : TypeId} {r : Nat → Nat} {L : Nat → Nat} {M : Nat → Nat → Bool} (h : BMat b H g e1 e2 r L M n) (hle : H.Le H') : BMat b H' g e1 e2 r L M n :=
  ⟨hle.2 _ _ h.hd, h.gb, fun i hi => ⟨(h.own.row i hi).1, hle.2 _ _ (h.own.row i hi).2⟩, h.own.inj⟩
theorem BMat.congr {b n g : Nat} {H : GHeap} {e1 e2 : TypeId} {r : Nat → Nat} {L : Nat → Nat} {M M' : Nat → Nat → Bool} (h : BMat b H g e1 e2 r L M n) (hM : ∀ j, j < n → ∀ d, d < L j → M' j d = M j d) : BMat b H g e1 e2 r L M' n := ⟨h.hd, h.gb, h.own.congr hM⟩
theorem BMat.row {b n g i : Nat} {H : GHeap} {e1 e2 : TypeId} {r : Nat → Nat} {L : Nat → Nat} {M : Nat → Nat → Bool} (h : BMat b H g e1 e2 r L M n) (hi : i < n) : Bools H (some ⟨r i, 0, none⟩) (tabB (L i) (M i)) := Bools.of_get (h.own.row i hi).2
theorem BMat.lt {b n g i : Nat} {H : GHeap} {e1 e2 : TypeId} {r : Nat → Nat} {L : Nat → Nat} {M : Nat → Nat → Bool} (h : BMat b H g e1 e2 r L M n) : g < H.next ∧ (i < n → r i < H.next) := ⟨GHeap.ltg h.hd, fun hi => GHeap.ltg (h.own.row i hi).2⟩
theorem BMat.sl {b n g : Nat} {H : GHeap} {e1 e2 : TypeId} {r : Nat → Nat} {L : Nat → Nat} {M : Nat → Nat → Bool} (h : BMat b H g e1 e2 r L M n) : SlA H (some ⟨g, 0, none⟩) n (fun i => .slice (some ⟨r i, 0, none⟩) (L i) (L i)) :=
  .inr ⟨g, 0, rfl, fun i hi => by rw [GHeap.cell_of h.hd, Nat.zero_add]; simp [slsN, hi]⟩
theorem BMat.put {b n g i : Nat} {H H' : GHeap} {e1 e2 : TypeId} {r : Nat → Nat} {L : Nat → Nat} {M M' : Nat → Nat → Bool} (h : BMat b H g e1 e2 r L M n) (hi : i < n) (s : St [r i] H H') (hg : H'.get (r i) = some (.row (bools (tabB (L i) (M' i))) e2 true))
    (hM : ∀ j, j < n → j ≠ i → ∀ d, d < L j → M' j d = M j d) (hne : (e1 != e2) = true) : BMat b H' g e1 e2 r L M' n := ⟨by
    simp only [bne_iff_ne, ne_eq] at hne
    refine s.same _ _ ⟨fun ex => ?_, trivial⟩ h.hd
    have h1 := h.hd
    rw [ex, (h.own.row i hi).2] at h1
    injection h1 with h1
    injection h1 with _ h1 _
    exact hne h1.symm, h.gb, h.own.put hi s hg hM⟩
theorem BMat.st {b n g k : Nat} {H H' : GHeap} {e1 e2 : TypeId} {r : Nat → Nat} {L : Nat → Nat} {M : Nat → Nat → Bool} (h : BMat b H g e1 e2 r L M n) (s : St [k] H H') (hlt : k < b) : BMat b H' g e1 e2 r L M n :=
  ⟨s.same _ _ ⟨by have := h.gb; omega, trivial⟩ h.hd, h.gb, fun i hi => ⟨(h.own.row i hi).1, s.same _ _ ⟨by have := (h.own.row i hi).1; omega, trivial⟩ (h.own.row i hi).2⟩, h.own.inj⟩
end Go.GL
namespace Go.GL
theorem Cat.inv_mate {c : Cat} {f : Nat} (hS : c.Shape) (hf : f < c.src.length) (h : 0 ≤ c.inv f) : c.Alike (c.tgt.getD f 0) (c.src.getD f 0) := by
  unfold Cat.inv at h
  rw [Int.toNat_natCast] at h
  obtain ⟨g, hg, hb⟩ := (firstIn_ge (fun g hg => by obtain ⟨f, _, _, _, rfl⟩ := Cat.mem_hom.1 hg; omega)).1 h
  refine ⟨g, hg, ?_⟩
  obtain ⟨k, k1, k2, k3, rfl⟩ := Cat.mem_hom.1 hg
  unfold Cat.inv
  rw [Int.toNat_natCast, k2, k3]
  refine (firstIn_ge (fun g hg => by obtain ⟨f, _, _, _, rfl⟩ := Cat.mem_hom.1 hg; omega)).2 ⟨f, Cat.mem_hom.2 ⟨f, hf, rfl, rfl, rfl⟩, ?_⟩
  simp only [Cat.invB, sps, Int.toNat_natCast] at hb ⊢
  rw [k2, k3]
  exact ⟨hb.2, hb.1⟩
theorem Cat.Alike.symm {c : Cat} {x y : Int} (hS : c.Shape) (h : c.Alike x y) : c.Alike y x := by
  obtain ⟨g, hg, hi⟩ := h
  obtain ⟨k, k1, k2, k3, rfl⟩ := Cat.mem_hom.1 hg
  have := Cat.inv_mate hS k1 hi
  rwa [k2, k3] at this
def Cat.partO (c : Cat) (xs : List Int) : List Int := filtN c.obj.toNat fun x => xs.contains (c.idn.getD x 0)
def Cat.partR (c : Cat) (xs : List Int) (f : Int) : List Int := xs.map fun g => idxL xs (c.th f g)
def Cat.part (c : Cat) (xs : List Int) : Cat where
  obj := ((c.partO xs).length : Int)
  src := xs.map fun f => idxL (c.partO xs) (c.src.getD f.toNat 0)
  tgt := xs.map fun f => idxL (c.partO xs) (c.tgt.getD f.toNat 0)
  idn := (c.partO xs).map fun x => idxL xs (c.idn.getD x.toNat 0)
  comp := xs.map fun f => c.partR xs f
structure Cat.Closed (c : Cat) (xs : List Int) : Prop where
  filt : ∃ P, xs = filtN c.src.length P
  id : ∀ f ∈ xs, c.idn.getD (c.src.getD f.toNat 0).toNat 0 ∈ xs ∧ c.idn.getD (c.tgt.getD f.toNat 0).toNat 0 ∈ xs
  th : ∀ f ∈ xs, ∀ g ∈ xs, 0 ≤ c.th f g → c.th f g ∈ xs
theorem Cat.Closed.lt {c : Cat} {xs : List Int} (h : c.Closed xs) : ∀ f ∈ xs, 0 ≤ f ∧ f < c.src.length := fun f hf => by
  obtain ⟨P, rfl⟩ := h.filt
  obtain ⟨i, h1, _, rfl⟩ := mem_filtN.1 hf
  omega
theorem Cat.Closed.len {c : Cat} {xs : List Int} (h : c.Closed xs) : xs.length ≤ c.src.length := by
  obtain ⟨P, rfl⟩ := h.filt
  exact filtN_le _ _
end Go.GL
namespace Go.GL
open Go.RowKit
structure PL (g g0 n : Nat) : Prop where
  or : g = g0 ∨ n ≤ g
theorem PL.ne {g g0 n x : Nat} (h : PL g g0 n) (h0 : x ≠ g0) (hx : x < n) : x ≠ g := by
  rcases h.or with rfl | h
  · exact h0
  · omega
theorem St.sP {bs cs : List Nat} {H0 H H' : GHeap} (s : St bs H0 H) (h : St cs H H') (hg : ∀ k, k < H0.next → out bs k → out cs k := by intro k hk ho; simp only [out, and_true] at ho ⊢ <;> first | exact ho | exact ho.1 | exact ho.2 | exact ho.2.1 | exact ho.2.2 | exact ho.2.2.1 | exact ho.2.2.2 | exact PL.ne (by assumption) (by first | exact ho | exact ho.1 | exact ho.2 | exact ho.2.1 | exact ho.2.2 | exact ho.2.2.1 | exact ho.2.2.2 | omega) (by omega) | omega) : St bs H0 H' := s.st h hg
theorem St.sQ {bs cs : List Nat} {H0 H H' : GHeap} (s : St bs H0 H) (h : St cs H H') (hg : ∀ k, k < H0.next → out bs k → out cs k := by intro k hk ho; simp only [out, and_true] at ho ⊢ <;> first | exact ho | exact ho.1 | exact ho.2 | exact ho.2.1 | exact ho.2.2 | exact ho.2.2.1 | exact ho.2.2.2 | exact PL.ne (by assumption) (by first | exact ho | exact ho.1 | exact ho.2 | exact ho.2.1 | exact ho.2.2 | exact ho.2.2.1 | exact ho.2.2.2 | exact PL.ne (by assumption) (by first | exact ho | exact ho.1 | exact ho.2 | exact ho.2.1 | exact ho.2.2 | exact ho.2.2.1 | exact ho.2.2.2 | exact PL.ne (by assumption) (by first | exact ho | exact ho.1 | exact ho.2 | exact ho.2.1 | exact ho.2.2 | exact ho.2.2.1 | exact ho.2.2.2 | omega) (by omega) | omega) (by omega) | omega) (by omega) | omega) : St bs H0 H' := s.st h hg
theorem PL.ne' {g g0 n x : Nat} (h : PL g g0 n) (h0 : x ≠ g0) (hx : x < n) : g ≠ x := (h.ne h0 hx).symm
theorem PL.trans {g g1 g0 n n' : Nat} (h : PL g g1 n') (h' : PL g1 g0 n) (hn : n ≤ n') : PL g g0 n := by
  rcases h.or with rfl | h
  · exact h'
  · exact ⟨.inr (by omega)⟩
theorem PL.ge {g g0 n b : Nat} (h : PL g g0 n) (h0 : b ≤ g0) (hn : b ≤ n) : b ≤ g := by
  rcases h.or with rfl | h
  · exact h0
  · omega
def nz : Nat → Nat → Option Addr
  | 0, _ => none
  | _ + 1, g => some ⟨g, 0, none⟩
theorem nz_pos {k g : Nat} (h : 0 < k) : nz k g = some ⟨g, 0, none⟩ := by
  cases k with
  | zero => omega
  | succ k => rfl
structure NO (H : GHeap) (g : Nat) (cs : List Value) (e : TypeId) (k : Nat) : Prop where
  lt : g < H.next
  or : (k = 0 ∧ cs = []) ∨ (0 < k ∧ H.get g = some (.row cs e true))
theorem NO.le {H H' : GHeap} {g k : Nat} {cs : List Value} {e : TypeId} (h : NO H g cs e k) (s : H.Le H') : NO H' g cs e k := ⟨by have := h.lt; have := s.1; omega, h.or.imp id fun h => ⟨h.1, s.2 _ _ h.2⟩⟩
theorem NO.st {H H' : GHeap} {g k : Nat} {bs : List Nat} {cs : List Value} {e : TypeId} (h : NO H g cs e k) (s : St bs H H') (ho : out bs g) : NO H' g cs e k := ⟨by have := h.lt; have := s.nx; omega, h.or.imp id fun h => ⟨h.1, s.same _ _ ho h.2⟩⟩
theorem NO.start {H : GHeap} {g k : Nat} {cs : List Value} {e : TypeId} (h : g < H.next) (hk : k = 0) (hc : cs = []) : NO H g cs e k := ⟨h, .inl ⟨hk, hc⟩⟩
theorem NO.of {H : GHeap} {g k : Nat} {cs : List Value} {e : TypeId} (h : H.get g = some (.row cs e true)) (hk : 0 < k) : NO H g cs e k := ⟨GHeap.ltg h, .inr ⟨hk, h⟩⟩
theorem NO.get {H : GHeap} {g k : Nat} {cs : List Value} {e : TypeId} (h : NO H g cs e k) (hk : 0 < k) : H.get g = some (.row cs e true) := by
  rcases h.or with ⟨h, _⟩ | ⟨_, h⟩
  · omega
  · exact h
theorem NO.nil {H : GHeap} {g k : Nat} {cs : List Value} {e : TypeId} (h : NO H g cs e k) (hk : k = 0) : cs = [] := by
  rcases h.or with ⟨_, h⟩ | ⟨h, _⟩
  · exact h
  · omega
theorem NO.sl {H : GHeap} {g k n : Nat} {cs : List Value} {e : TypeId} (h : NO H g cs e k) (hn : cs.length = n) : SlA H (nz k g) n (fun i => cs.getD i (.bool false)) := by
  rcases h.or with ⟨rfl, rfl⟩ | ⟨h1, h2⟩
  · exact .inl hn.symm
  · rw [nz_pos h1]; exact SlA.of_row h2 hn
theorem Sim.hold {P : Program} {B : Nat} {w0 : World} {ρ : Place} {H : GHeap} {w : World} (hs : Sim P B w0 ρ H w) : Sim P B w0 ρ ⟨H.objs ++ [none]⟩ w := by
  have hg : ∀ {g : Nat} {o : GObj}, GHeap.get ⟨H.objs ++ [none]⟩ g = some o → H.get g = some o := fun {g o} h => by
    unfold GHeap.get at h ⊢
    rcases Nat.lt_trichotomy g H.objs.length with hl | hl | hl
    · rwa [List.getElem?_append_left hl] at h
    · subst hl; simp at h
    · rw [List.getElem?_eq_none (by simp; omega)] at h; cases h
  exact ⟨fun g h => hs.dom g (by have : (GHeap.mk (H.objs ++ [none])).next = H.next + 1 := by simp [GHeap.next]
                                 omega), fun g o h => hs.live g o (hg h), fun g g' o o' s s' h1 h2 => hs.apart g g' o o' s s' (hg h1) (hg h2), hs.base, hs.below⟩
theorem GT.hold {P : Program} {N : Nat} {c : Code} {Q : Exit → Slots → GHeap → Prop} {fr : Slots} {H : GHeap} (h : ∀ H', H.Le H' → H'.next = H.next + 1 → GT P N c Q fr H') : GT P N c Q fr H := fun B w0 ρ a w hs hf =>
  h ⟨H.objs ++ [none]⟩ ⟨by simp [GHeap.next], fun g o hg => by
    have hl : g < H.objs.length := GHeap.ltg hg
    unfold GHeap.get at hg ⊢
    rwa [List.getElem?_append_left hl]⟩ (by simp [GHeap.next]) B w0 ρ a w hs.hold hf
section
variable {P : Program} {o : Oper} {fr : Slots} {H : GHeap}
end
end Go.GL
namespace Go.GL
theorem filtN_nodup (n : Nat) (P : Nat → Bool) : (filtN n P).Nodup := by
  unfold filtN
  exact List.pairwise_map.2 ((List.nodup_range.sublist List.filter_sublist).imp fun h e => h (by omega))
theorem nodup_getD {xs : List Int} (hn : xs.Nodup) {i j : Nat} (hi : i < xs.length) (hj : j < xs.length) (h : xs.getD i 0 = xs.getD j 0) : i = j := by
  rw [List.getD_eq_getElem?_getD, List.getD_eq_getElem?_getD, List.getElem?_eq_getElem hi, List.getElem?_eq_getElem hj] at h
  exact (List.getElem_inj hn).1 (by simpa using h)
def numF (xs : List Int) (m i : Nat) : List Int := (List.range m).map fun (v : Nat) => if (v : Int) ∈ xs.take i then idxL xs v else 0
@[simp] theorem length_numF (xs : List Int) (m i : Nat) : (numF xs m i).length = m := by simp [numF]
theorem numF_get {xs : List Int} {m i v : Nat} (h : v < m) : (numF xs m i).getD v 0 = if (v : Int) ∈ xs.take i then idxL xs v else 0 := by simp [numF, List.getD_eq_getElem?_getD, h]
theorem numF_all {xs : List Int} {m : Nat} {v : Int} (h0 : 0 ≤ v) (hm : v < (m : Int)) (h : v ∈ xs) : (numF xs m xs.length).getD v.toNat 0 = idxL xs v := by
  have e : ((v.toNat : Nat) : Int) = v := by omega
  rw [numF_get (by omega), List.take_length, e, if_pos h]
abbrev Cat.hasId (c : Cat) (xs : List Int) (x : Nat) : Bool := xs.contains (c.idn.getD x 0)
def Cat.plF (c : Cat) (xs : List Int) (n k : Nat) : List Int := (List.range n).map fun (x : Nat) => if x < k ∧ c.hasId xs x = true then ((filtN x (c.hasId xs)).length : Int) else 0
@[simp] theorem Cat.length_plF (c : Cat) (xs : List Int) (n k : Nat) : (c.plF xs n k).length = n := by simp [Cat.plF]
theorem Cat.Closed.has {c : Cat} {xs : List Int} (h : c.Closed xs) {f : Int} (hf : f ∈ xs) (hS : c.Shape) : (0 ≤ c.src.getD f.toNat 0 ∧ c.src.getD f.toNat 0 < c.obj ∧ c.idn.getD (c.src.getD f.toNat 0).toNat 0 ∈ xs) ∧ 0 ≤ c.tgt.getD f.toNat 0 ∧ c.tgt.getD f.toNat 0 < c.obj ∧ c.idn.getD (c.tgt.getD f.toNat 0).toNat 0 ∈ xs := by
  have b := h.lt f hf
  have s1 := hS.src f.toNat (by omega)
  have s2 := hS.tgt f.toNat (by have := hS.tl; omega)
  have hi := h.id f hf
  exact ⟨⟨s1.1, s1.2, hi.1⟩, s2.1, s2.2, hi.2⟩
theorem Cat.Closed.num {c : Cat} {xs : List Int} (h : c.Closed xs) {f g : Int} (hf : f ∈ xs) (hg : g ∈ xs) (hS : c.Shape) : (0 ≤ c.th f g → (numF xs c.src.length xs.length).getD (c.th f g).toNat 0 = idxL xs (c.th f g)) ∧ (¬ 0 ≤ c.th f g → c.th f g = idxL xs (c.th f g)) ∧ c.th f g < c.src.length := by
  have bf := h.lt f hf
  have bg := h.lt g hg
  have e1 : ((f.toNat : Nat) : Int) = f := by omega
  have e2 : ((g.toNat : Nat) : Int) = g := by omega
  have hl := hS.th_lt (f := f.toNat) (g := g.toNat) (by omega) (by omega)
  rw [e1, e2] at hl
  refine ⟨fun h0 => numF_all h0 hl.1 (h.th f hf g hg h0), fun h0 => ?_, hl.1⟩
  have e3 : c.th f g = -1 := by omega
  rw [e3]
  refine (idxL_none fun j hj e => ?_).symm
  have := h.lt _ (getD_mem hj)
  omega
end Go.GL
namespace Go.GL
theorem mem_nest3 {α : Type} {pr : Nat → Nat → Nat → α} {s1 : Nat → Nat} {s2 : Nat → Nat → Nat} {k a b t : Nat} (ha : a < k) (hb : b < s1 a) (ht : t < s2 a b) : pr a b t ∈ nest3 pr s1 s2 k 0 0 := by
  unfold nest3 nestL
  refine List.mem_append.2 (.inl (List.mem_flatMap.2 ⟨a, List.mem_range.2 ha, List.mem_append.2 (.inl (List.mem_flatMap.2 ⟨b, List.mem_range.2 hb, List.mem_map.2 ⟨t, List.mem_range.2 ht, rfl⟩⟩))⟩))
theorem nest3_nodup {α : Type} {pr : Nat → Nat → Nat → α} {s1 : Nat → Nat} {s2 : Nat → Nat → Nat} {k : Nat} (h : ∀ a b t a' b' t', a < k → b < s1 a → t < s2 a b → a' < k → b' < s1 a' → t' < s2 a' b' → pr a b t = pr a' b' t' → a = a' ∧ b = b' ∧ t = t') : (nest3 pr s1 s2 k 0 0).Nodup := by
  unfold nest3 nestL
  simp only [List.range_zero, List.map_nil, List.append_nil, List.flatMap_nil]
  refine List.pairwise_flatMap.2 ⟨fun a ha => List.pairwise_flatMap.2 ⟨fun b hb => List.pairwise_map.2 ?_, ?_⟩, ?_⟩
  · exact List.nodup_range.imp_of_mem fun {t t'} ht ht' hne e => hne (h a b t a b t' (List.mem_range.1 ha) (List.mem_range.1 hb) (List.mem_range.1 ht) (List.mem_range.1 ha) (List.mem_range.1 hb) (List.mem_range.1 ht') e).2.2
  · refine List.nodup_range.imp_of_mem fun {b b'} hb hb' hne x hx y hy e => ?_
    obtain ⟨t, ht, rfl⟩ := List.mem_map.1 hx
    obtain ⟨t', ht', rfl⟩ := List.mem_map.1 hy
    exact hne (h a b t a b' t' (List.mem_range.1 ha) (List.mem_range.1 hb) (List.mem_range.1 ht) (List.mem_range.1 ha) (List.mem_range.1 hb') (List.mem_range.1 ht') e).2.1
  · refine List.nodup_range.imp_of_mem fun {a a'} ha ha' hne x hx y hy e => ?_
    obtain ⟨b, hb, hx⟩ := List.mem_flatMap.1 hx
    obtain ⟨b', hb', hy⟩ := List.mem_flatMap.1 hy
    obtain ⟨t, ht, rfl⟩ := List.mem_map.1 hx
    obtain ⟨t', ht', rfl⟩ := List.mem_map.1 hy
    exact hne (h a b t a' b' t' (List.mem_range.1 ha) (List.mem_range.1 hb) (List.mem_range.1 ht) (List.mem_range.1 ha') (List.mem_range.1 hb') (List.mem_range.1 ht') e).1
structure LcOk (k : Fun) (f : SFun) : Prop where
  hk : k.Is
  hf : f.Is
  he : f.sh = k.s
def lcE (k : Fun) (f : SFun) (y : Int) : List (List Int) := leL k f y k.ob.length 0 0
theorem lcE_mem {k : Fun} {f : SFun} {y : Int} {x e : Nat} {h : Int} (hx : x < k.ob.length) (hh : h ∈ k.t.hom (k.ob.getD x 0) y) (he : (e : Int) < f.sz.getD x 0) : [(x : Int), h, (e : Int)] ∈ lcE k f y := by
  obtain ⟨i, hi, e1⟩ := List.getElem_of_mem hh
  have := mem_nest3 (pr := lePr k y) (s1 := fun x => (k.t.hom (k.ob.getD x 0) y).length) (s2 := fun x _ => (f.sz.getD x 0).toNat) hx hi (t := e) (by omega)
  unfold lePr at this
  rw [List.getD_eq_getElem?_getD (l := k.t.hom _ _), List.getElem?_eq_getElem hi, e1] at this
  exact this
theorem lcE_keys {k : Fun} {f : SFun} {y : Int} (o : LcOk k f) : Keys 3 (lcE k f y) := by
  have b1 := o.hk.2.1.1.n40
  have b2 := o.hk.1.1.obj
  have b3 := o.hk.2.2.ol
  refine ⟨nest3_nodup fun a b t a' b' t' ha hb ht ha' hb' ht' e => ?_, fun t ht => ?_⟩
  · unfold lePr at e
    simp only [List.cons.injEq, and_true] at e
    obtain ⟨e1, e2, e3⟩ := e
    obtain rfl : a = a' := by omega
    exact ⟨rfl, nodup_getD (filtN_nodup _ _) hb hb' e2, by omega⟩
  · obtain ⟨x, i, e, h1, h2, h3, rfl⟩ := nest3_mem ht
    have q1 := o.hf.1.sz x (by have := leLen o.hk o.hf o.he; omega)
    obtain ⟨z, z1, _, _, z4⟩ := Cat.hom_get h2
    refine ⟨rfl, fun i hi => ?_⟩
    match i, hi with
    | 0, _ => show 0 ≤ (x : Int) ∧ (x : Int) ≤ 255; omega
    | 1, _ => show 0 ≤ (k.t.hom _ _).getD _ 0 ∧ (k.t.hom _ _).getD _ 0 ≤ 255; rw [z4]; omega
    | 2, _ => show 0 ≤ (e : Int) ∧ (e : Int) ≤ 255; omega
structure LcA (k : Fun) (f : SFun) (y : Int) (a : Nat) : Prop where
  s0 : 0 ≤ k.s.src.getD a 0
  s1 : k.s.src.getD a 0 < k.ob.length
  t0 : 0 ≤ k.s.tgt.getD a 0
  t1 : k.s.tgt.getD a 0 < k.ob.length
  al : ((f.ac.getD a []).length : Int) = f.sz.getD (k.s.src.getD a 0).toNat 0
  zs : f.sz.getD (k.s.src.getD a 0).toNat 0 ≤ 16
  ac : ∀ e, e < (f.ac.getD a []).length → 0 ≤ (f.ac.getD a []).getD e 0 ∧ (f.ac.getD a []).getD e 0 < f.sz.getD (k.s.tgt.getD a 0).toNat 0
  r0 : 0 ≤ k.ar.getD a 0
  r1 : k.ar.getD a 0 < k.t.src.length
  th : ∀ h, h ∈ k.t.hom (k.ob.getD (k.s.tgt.getD a 0).toNat 0) y → (0 ≤ h ∧ h < k.t.src.length) ∧ k.t.th (k.ar.getD a 0) h ∈ k.t.hom (k.ob.getD (k.s.src.getD a 0).toNat 0) y
theorem LcOk.len {k : Fun} {f : SFun} (o : LcOk k f) : f.sz.length = k.ob.length ∧ f.ac.length = k.s.src.length ∧ k.ar.length = k.s.src.length ∧ k.s.tgt.length = k.s.src.length ∧ k.s.src.length ≤ 40 ∧ k.ob.length ≤ 8 ∧ (k.s.obj = k.ob.length) := by
  have h1 := leLen o.hk o.hf o.he
  have h2 := o.hf.1.al
  rw [o.he] at h2
  have h3 := o.hk.2.2.al
  have h4 := o.hk.1.1.tl
  have h5 := o.hk.1.1.n40
  have h6 := o.hk.2.2.ol
  have h7 := o.hk.1.1.obj
  omega
theorem LcOk.arrow {k : Fun} {f : SFun} {y : Int} (o : LcOk k f) {a : Nat} (ha : a < k.s.src.length) : LcA k f y a := by
  obtain ⟨l1, l2, l3, l4, _, _, _⟩ := o.len
  have q := o.hf.1.ends (a := a) (by rw [o.he]; exact ha)
  have act := fun e => o.hf.1.act (a := a) (e := e) (by omega)
  rw [o.he] at q act
  have hz := o.hf.1.sz (k.s.src.getD a 0).toNat (by omega)
  have r := o.hk.arr (a := a) (by omega)
  refine ⟨q.1, by omega, q.2.2.1, by omega, q.2.2.2.2, hz.2, act, r.2.2.2.2.1, r.2.2.2.2.2.1, fun h hh => ?_⟩
  obtain ⟨z, z1, z2, z3, rfl⟩ := Cat.mem_hom.1 hh
  have hS := o.hk.2.1.1
  have hc := (Cat.Cell.pos (f := (k.ar.getD a 0).toNat) (g := z) (by rw [r.2.2.2.2.2.2.2, z2])).1 (hS.cell _ (by have := hS.cl; omega) z z1)
  rw [← Cat.th_nat, show (((k.ar.getD a 0).toNat : Nat) : Int) = k.ar.getD a 0 by omega] at hc
  refine ⟨by omega, Cat.mem_hom.2 ⟨(k.t.th (k.ar.getD a 0) z).toNat, by omega, ?_, ?_, by omega⟩⟩
  · rw [hc.2.2.1]; exact r.2.2.2.2.2.2.1
  · rw [hc.2.2.2]; exact z3
def lcT (k : Fun) (a : Nat) (h : Int) (e : Nat) : List Int := [k.s.src.getD a 0, k.t.th (k.ar.getD a 0) h, (e : Int)]
def lcU (k : Fun) (f : SFun) (a : Nat) (h : Int) (e : Nat) : List Int := [k.s.tgt.getD a 0, h, (f.ac.getD a []).getD e 0]
theorem LcOk.two {k : Fun} {f : SFun} {y : Int} (o : LcOk k f) {a e : Nat} {h : Int} (ha : a < k.s.src.length) (hh : h ∈ k.t.hom (k.ob.getD (k.s.tgt.getD a 0).toNat 0) y) (he : e < (f.ac.getD a []).length) : lcT k a h e ∈ lcE k f y ∧ lcU k f a h e ∈ lcE k f y := by
  have q := o.arrow (y := y) ha
  obtain ⟨a0, a1, a2, a3, a4, _, a6, _, _, a9⟩ := q
  have h6 := a6 e he
  constructor
  · have := lcE_mem (k := k) (f := f) (y := y) (x := (k.s.src.getD a 0).toNat) (e := e) (by omega) (a9 h hh).2 (by omega)
    rwa [show (((k.s.src.getD a 0).toNat : Nat) : Int) = k.s.src.getD a 0 by omega] at this
  · have := lcE_mem (k := k) (f := f) (y := y) (x := (k.s.tgt.getD a 0).toNat) (e := ((f.ac.getD a []).getD e 0).toNat) (by omega) hh (by omega)
    rwa [show (((k.s.tgt.getD a 0).toNat : Nat) : Int) = k.s.tgt.getD a 0 by omega, show ((((f.ac.getD a []).getD e 0).toNat : Nat) : Int) = (f.ac.getD a []).getD e 0 by omega] at this
def lcPr (k : Fun) (f : SFun) (y : Int) (a i e : Nat) : Nat × Nat := ((idxLL (lcE k f y) (lcT k a ((k.t.hom (k.ob.getD (k.s.tgt.getD a 0).toNat 0) y).getD i 0) e)).toNat, (idxLL (lcE k f y) (lcU k f a ((k.t.hom (k.ob.getD (k.s.tgt.getD a 0).toNat 0) y).getD i 0) e)).toNat)
theorem LcOk.pr {k : Fun} {f : SFun} {y : Int} (o : LcOk k f) {a i e : Nat} (ha : a < k.s.src.length) (hi : i < (k.t.hom (k.ob.getD (k.s.tgt.getD a 0).toNat 0) y).length) (he : e < (f.ac.getD a []).length) : (lcPr k f y a i e).1 < (lcE k f y).length ∧ (lcPr k f y a i e).2 < (lcE k f y).length ∧ 0 ≤ idxLL (lcE k f y) (lcT k a ((k.t.hom (k.ob.getD (k.s.tgt.getD a 0).toNat 0) y).getD i 0) e) ∧ 0 ≤ idxLL (lcE k f y) (lcU k f a ((k.t.hom (k.ob.getD (k.s.tgt.getD a 0).toNat 0) y).getD i 0) e) := by
  obtain ⟨h1, h2⟩ := o.two ha (getD_mem hi) he
  obtain ⟨u, u1, _, u3⟩ := idxLL_mem (lcE_keys o).nd h1
  obtain ⟨v, v1, _, v3⟩ := idxLL_mem (lcE_keys o).nd h2
  unfold lcPr
  rw [u3, v3]
  exact ⟨by simpa using u1, by simpa using v1, by omega, by omega⟩
end Go.GL
