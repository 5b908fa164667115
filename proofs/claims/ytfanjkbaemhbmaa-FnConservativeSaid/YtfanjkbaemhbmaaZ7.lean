/- What a caller hands in, brought into a ghost heap; the last step of a row that says 'true, and the arguments read as they did'. No condition. -/
import Derived.Test.YtfanjkbaemhbmaaZ6
import Derived.Below
import Derived.ChangeSame
import Derived.ChangeSlices
import Derived.Deep.Slices
import Derived.Deep.Matrix
import Derived.WideKeyArgs
import Derived.MapKept
namespace Go.GL
open Go.RowKit Go.WideShapes Go.ChangeShapes Go.Deep

def GHeap.gap (H : GHeap) : GHeap := ⟨H.objs ++ [none]⟩
@[simp] theorem GHeap.next_gap (H : GHeap) : H.gap.next = H.next + 1 := by simp [GHeap.next, GHeap.gap]
theorem GHeap.get_gap (H : GHeap) (g : Nat) : H.gap.get g = H.get g := by
  unfold GHeap.get GHeap.gap
  simp only
  rcases Nat.lt_or_ge g H.objs.length with hl | hl
  · rw [List.getElem?_append_left hl]
  · rw [List.getElem?_append_right hl, List.getElem?_eq_none hl]
    rcases Nat.eq_zero_or_pos (g - H.objs.length) with e | e
    · rw [e]; rfl
    · rw [List.getElem?_eq_none (by simp; omega)]
theorem GHeap.le_gap (H : GHeap) : H.Le H.gap := ⟨by simp, fun g o h => by rw [GHeap.get_gap]; exact h⟩

section
variable {P : Program} {B : Nat} {w0 : World} {ρ : Place} {H : GHeap} {w : World}

theorem Sim.start (P : Program) (W : World) : Sim P W.heap.size W (fun _ => none) ⟨[]⟩ W :=
  ⟨fun _ _ => rfl, fun g o h => by simp [GHeap.get] at h, fun g g' o o' s s' h => by simp [GHeap.get] at h, Nat.le_refl _, .refl _ _⟩

theorem Sim.gap (hs : Sim P B w0 ρ H w) (s : Spot) : Sim P B w0 (place ρ H.next s) H.gap w ∧ Ext ρ (place ρ H.next s) := by
  have hext : Ext ρ (place ρ H.next s) := place_ext (hs.dom _ (Nat.le_refl _))
  refine ⟨⟨fun g hg => ?_, fun g o hg => ?_, fun g g' o o' t t' h1 h2 h3 h4 h5 h6 h7 => ?_, hs.base, hs.below⟩, hext⟩
  · simp at hg
    unfold place
    rw [if_neg (by omega)]
    exact hs.dom g (by omega)
  · rw [GHeap.get_gap] at hg
    exact (hs.live g o hg).keep hext fun _ _ => rfl
  · rw [GHeap.get_gap] at h1 h2
    have e1 := GHeap.ltg h1
    have e2 := GHeap.ltg h2
    unfold place at h6 h7
    rw [if_neg (by omega)] at h6 h7
    exact hs.apart g g' o o' t t' h1 h2 h3 h4 h5 h6 h7

theorem Sim.look (hs : Sim P B w0 ρ H w) {b : Nat} {C : Array Value} {e : TypeId} {fz : Nat × Nat} (hb : b < B) (hw : w.heap[b]? = some (.cells C e fz)) {off k : Nat} {vs : List Value} (hl : off + vs.length ≤ C.size)
    (hv : ∀ (i : Nat) (v : Value), vs[i]? = some v → ∃ c, C[off + i]? = some c ∧ VRel ρ v c) :
    Sim P B w0 (place ρ H.next ⟨b, off, C.size, k⟩) (H.push (.row vs e false)) w ∧ Ext ρ (place ρ H.next ⟨b, off, C.size, k⟩) := by
  have hext : Ext ρ (place ρ H.next ⟨b, off, C.size, k⟩) := place_ext (hs.dom _ (Nat.le_refl _))
  refine ⟨⟨fun g hg => ?_, fun g o hg => ?_, fun g g' o o' t t' h1 h2 h3 h4 h5 h6 h7 => ?_, hs.base, hs.below⟩, hext⟩
  · simp at hg
    unfold place
    rw [if_neg (by omega)]
    exact hs.dom g (by omega)
  · rcases Nat.lt_or_ge g H.next with hlt | hge
    · rw [GHeap.get_push_lt hlt] at hg
      exact (hs.live g o hg).keep hext fun _ _ => rfl
    · have hg' : g = H.next := by have := GHeap.ltg hg; simp at this; omega
      subst hg'
      rw [GHeap.get_push_new] at hg
      cases hg
      exact ⟨_, C, fz, place_self, hw, rfl, hl, fun i v h => let ⟨c, h1, h2⟩ := hv i v h; ⟨c, h1, h2.mono hext⟩, fun h => (by cases h), fun _ => hb, fun h => (by cases h)⟩
  · have old : ∀ {k' : Nat} {x : GObj}, (H.push (.row vs e false)).get k' = some x → x.isOwn = true → k' < H.next ∧ H.get k' = some x := by
      intro k' x hx ho
      have hk := GHeap.ltg hx
      simp at hk
      rcases Nat.lt_or_ge k' H.next with hlt | hge
      · rw [GHeap.get_push_lt hlt] at hx; exact ⟨hlt, hx⟩
      · obtain rfl : k' = H.next := by omega
        rw [GHeap.get_push_new] at hx
        cases hx
        cases ho
    obtain ⟨a1, a2⟩ := old h1 h3
    obtain ⟨b1, b2⟩ := old h2 h4
    unfold place at h6 h7
    rw [if_neg (by omega)] at h6 h7
    exact hs.apart g g' o o' t t' a2 b2 h3 h4 h5 h6 h7

theorem Sim.list (hs : Sim P B w0 ρ H w) (hB : w.heap.size ≤ B) {a : Addr} {len cap : Nat} {V : Nat → Value} (hl : len ≤ cap) (hm : cap ≤ maxLen) (hcell : ∀ i, i < cap → w.cell? (a.add i) = some (V i)) {f : Nat → Value}
    (hf : ∀ i, i < len → VRel ρ (f i) (V i)) :
    ∃ a' ρ' H', Sim P B w0 ρ' H' w ∧ Ext ρ ρ' ∧ H.Le H' ∧ VRel ρ' (.slice a' len len) (.slice (some a) len cap) ∧ SlA H' a' len f := by
  rcases Nat.eq_zero_or_pos cap with e | hp
  · subst e
    obtain rfl : len = 0 := by omega
    obtain ⟨h1, h2⟩ := hs.gap ⟨0, 0, 0, 0⟩
    exact ⟨some ⟨H.next, 0, none⟩, _, _, h1, h2, H.le_gap, .empty place_self, .inl rfl⟩
  · have h0 := hcell 0 hp
    have hsp := World.cell?_spot h0
    obtain ⟨b, off, sp⟩ := a
    have hadd : ∀ i, (Addr.mk b off none).add i = ⟨b, off + i, none⟩ := fun i => by
      unfold Addr.add
      split
      · rename_i h; subst h; rfl
      · rfl
    obtain rfl : sp = none := by simpa [Addr.add] using hsp
    rw [hadd] at h0
    have hblk : ∃ C e fz, w.heap[b]? = some (.cells C e fz) := by
      unfold World.cell? at h0
      split at h0
      · exact ⟨_, _, _, by assumption⟩
      · cases h0
    obtain ⟨C, e, fz, hC⟩ := hblk
    have hc : ∀ i, i < cap → C[off + i]? = some (V i) := fun i hi => by
      have := hcell i hi
      rw [hadd] at this
      simpa [World.cell?, hC] using this
    have hsz : off + cap ≤ C.size := by
      have := (Array.getElem?_eq_some_iff.1 (hc (cap - 1) (by omega))).1
      omega
    have hbl : b < B := by
      have : b < w.heap.size := (Array.getElem?_eq_some_iff.1 hC).1
      omega
    obtain ⟨h1, h2⟩ := hs.look hbl hC (off := off) (k := 1) (vs := (List.range len).map f) (by simp; omega) (fun i v hv => by
      simp only [List.getElem?_map, Option.map_eq_some_iff] at hv
      obtain ⟨j, hj, rfl⟩ := hv
      have hj' := List.getElem?_eq_some_iff.1 hj
      simp at hj'
      obtain ⟨hi, rfl⟩ := hj'
      exact ⟨_, hc i (by omega), hf i hi⟩)
    refine ⟨some ⟨H.next, 0, none⟩, _, _, h1, h2, GHeap.le_push _ _, ?_, .inr ⟨H.next, 0, rfl, fun i hi => ?_⟩⟩
    · have := VRel.slice (ρ := place ρ H.next ⟨b, off, C.size, 1⟩) (g := H.next) (o := 0) (n := len) (cap := cap) place_self hl (by simp only; omega) hm
      simpa using this
    · rw [GHeap.cell_of (GHeap.get_push_new _ _)]
      simp [hi]
end

def Imports (P : Program) (t : TypeId) (R : Place → GHeap → List Value → Prop) : Prop :=
  ∀ {T : Type} {enc : TypeId × Value → T} {B : Nat} {w0 : World} {ρ : Place} {H : GHeap} {w : World} {held : Bool} {fuel : Nat} {cs : List Value} {x : DataW T × List MemPlace}, Sim P B w0 ρ H w → w.heap.size ≤ B →
    DataW.trod enc P w 0 (fun _ => true) held fuel t cs = some x → ∃ ρ' H', Sim P B w0 ρ' H' w ∧ Ext ρ ρ' ∧ H.Le H' ∧ R ρ' H' cs

theorem take_getD (zs : List Int) {n i : Nat} (hi : i < n) : (zs.take n).getD i 0 = zs.getD i 0 := by
  simp [List.getD_eq_getElem?_getD, List.getElem?_take, hi]
section
variable {P : Program} {T : Type} {enc : TypeId × Value → T} {B : Nat} {w0 : World} {ρ : Place} {H : GHeap} {w : World} {held : Bool} {n : Nat} {cs : List Value} {fs : Array Field} {xs : List (DataW T × List MemPlace)}
end

def readB (P : Program) (ts : List TypeId) : Bool := ts.all fun t => P.readableRec t && decide (t < P.types.size)

section
variable {T : Type} {enc : TypeId × Value → T} {P : Program}
theorem args_again (hl : laidOutB P = true) {W W' : World} (hb : Below W.heap.size W W') {sp : Nat → Bool} : ∀ {ts : List TypeId} {vs : List Value} {ds : List (DataW T)} {ps : List MemPlace}, readB P ts = true →
    DataW.TrodAll enc P W 0 (fun _ => true) true ts vs ds ps → (∀ p ∈ ps, p.block < W.heap.size) → (∀ p ∈ ps, sp p.block = true) → DataW.TrodAll enc P W' 0 sp true ts vs ds ps
  | [], _, _, _, _, h, _, _ => by
    obtain ⟨rfl, rfl, rfl⟩ := trodAll_nil h
    exact trodAll_mk0
  | t :: ts, _, _, _, hr, h, hlt, hsp => by
    obtain ⟨v, vs, d, ds, p, q, rfl, rfl, rfl, h1, h2⟩ := trodAll_cons h
    simp only [readB, List.all_cons, Bool.and_eq_true, decide_eq_true_eq] at hr
    exact ⟨p, q, WideElems.Trod_stays hl hr.1.1 hr.1.2 h1 (fun x hx => hb.same (hlt x (by simp [hx]))) (fun x hx => hsp x (by simp [hx])),
      args_again hl hb (by simpa only [readB, Bool.and_eq_true] using hr.2) h2 (fun x hx => hlt x (by simp [hx])) (fun x hx => hsp x (by simp [hx])), rfl⟩

theorem law_post {f : Func} {s : ChangeSpec} {apart fresh handsOn again : Bool} {W W' : World} {args : Array Value} {ds gs : List (DataW T)} {before : List MemPlace} {tb : TypeId}
    (hl : laidOutB P = true) (hr : readB P f.params.toList = true) (hv : s.vars = []) (hrt : f.resultTypes = #[tb]) (htb : P.underlying tb = some .bool)
    (hW : DataW.Whole enc P f.params.toList s.vars apart W args.toList ds gs before)
    (hsr : (s.fn T ds).results = [.lit (.bool true)]) (hsa : (s.fn T ds).args = ds) (hsv : (s.fn T ds).vars = []) (hb : Below W.heap.size W W') :
    s.post enc P f apart fresh handsOn again W args (.bool true) W' := by
  have hlt := hW.lt
  have hWW := hW
  obtain ⟨p, q, hA, hV, hpq, hfz, hnd⟩ := hW
  rw [hv] at hV
  obtain ⟨rfl, rfl⟩ := trodVars_none hV
  rw [List.append_nil] at hpq
  obtain rfl := hpq.symm
  have hres : ∀ (b : Nat) (sp : Nat → Bool) (hd : Bool), DataW.TrodAll enc P W' b sp hd f.resultTypes.toList ((Value.bool true).resultList f.resultTypes.size) (s.fn T (ds ++ [])).results [] := fun b sp hd => by
    rw [List.append_nil, hsr, hrt]
    exact trodAll_mk1 (shut_bool htb true)
  have hargs : ∀ sp : Nat → Bool, (∀ x ∈ p, sp x.block = true) → DataW.TrodAll enc P W' 0 sp true f.params.toList args.toList (s.fn T (ds ++ [])).args p := fun sp hsp => by
    rw [List.append_nil, hsa]
    exact args_again hl hb hr hA hlt hsp
  have hvars : ∀ sp : Nat → Bool, DataW.TrodVars enc P W' sp s.vars (s.fn T (ds ++ [])).vars [] := fun sp => by
    rw [List.append_nil, hsv, hv]
    rfl
  have hok : ∀ (j : Nat) (t : TypeId) (r : Value), f.resultTypes[j]? = some t → ((Value.bool true).resultList f.resultTypes.size)[j]? = some r → Value.okWide P W' .any 0 t r := ok_one hrt rfl (okWide_bool_mk htb true)
  refine ⟨ds, [], p, [], p, [], hWW, hres _ _ _, hargs _ fun x hx => by simpa using hlt x hx, hvars _, hb.frame _, fun _ => ⟨hok, _, _, ([] ++ p) ++ [], ⟨[] ++ p, [], trodAll_append (hargs (fun _ => true) fun _ _ => rfl) (hres _ _ _), hvars (fun _ => true), rfl, ?_, ?_⟩, ?_⟩⟩
  · intro b off hp
    have hin : MemPlace.cell b off ∈ p := by simpa using hp
    rw [hb.frozen (hlt _ hin)]
    exact hfz b off hin
  · intro ha
    simpa using hnd ha
  · intro x hx _
    simpa using hx
end

theorem eq_of_getD {xs ys : List Int} (hl : ys.length = xs.length) (h : ∀ i, i < xs.length → ys.getD i 0 = xs.getD i 0) : ys = xs := by
  apply List.ext_getElem hl
  intro i h1 h2
  have := h i h2
  simpa [List.getD_eq_getElem?_getD, h1, h2] using this
theorem ints_set (ys : List Int) (i : Nat) (v : Int) : (ints ys).set i (.int .i64 v) = ints (ys.set i v) := by simp [ints, List.map_set]
theorem getD_set {ys : List Int} {k i : Nat} {v : Int} (hk : k < ys.length) : (ys.set k v).getD i 0 = if i = k then v else ys.getD i 0 := by
  simp only [List.getD_eq_getElem?_getD, List.getElem?_set]
  by_cases e : k = i
  · subst e; simp [hk]
  · simp [e, Ne.symm e]
theorem SlA.of_ints {H : GHeap} {g : Nat} {ys : List Int} {e : TypeId} {own : Bool} {n : Nat} (h : H.get g = some (.row (ints ys) e own)) (hn : ys.length = n) : SlA H (some ⟨g, 0, none⟩) n (fun i => .int .i64 (ys.getD i 0)) := by
  subst hn; exact Ints.of_get h

theorem SlA.of_row {H : GHeap} {g n : Nat} {cs : List Value} {e : TypeId} {own : Bool} (h : H.get g = some (.row cs e own)) (hn : cs.length = n) : SlA H (some ⟨g, 0, none⟩) n (fun i => cs.getD i (.bool false)) := by
  subst hn
  exact .inr ⟨g, 0, rfl, fun i hi => by rw [GHeap.cell_of h, Nat.zero_add]; simp [List.getD_eq_getElem?_getD, hi]⟩

def Keep (b : Nat) (H H' : GHeap) : Prop := ∀ g o, b ≤ g → H.get g = some o → H'.get g = some o
theorem Keep.of_le {b : Nat} {H H' : GHeap} (h : H.Le H') : Keep b H H' := fun g o _ => h.2 g o
def IntsAt (b : Nat) (H : GHeap) (a : Option Addr) (xs : List Int) : Prop := ∃ g e, a = some ⟨g, 0, none⟩ ∧ b ≤ g ∧ H.get g = some (.row (ints xs) e true)
def IntssAt (b : Nat) (H : GHeap) (a : Option Addr) (xss : List (List Int)) (r : Nat → Option Addr) : Prop :=
  ∃ g e cs, a = some ⟨g, 0, none⟩ ∧ b ≤ g ∧ H.get g = some (.row cs e true) ∧ cs.length = xss.length ∧ (∀ i, i < xss.length → cs[i]? = some (.slice (r i) (xss.getD i []).length (xss.getD i []).length)) ∧ ∀ i, i < xss.length → IntsAt b H (r i) (xss.getD i [])
theorem IntsAt.keep {b b' : Nat} {H H' : GHeap} {a : Option Addr} {xs : List Int} (h : IntsAt b H a xs) (hk : Keep b' H H') (hb : b' ≤ b) : IntsAt b' H' a xs :=
  let ⟨g, e, h1, h2, h3⟩ := h; ⟨g, e, h1, by omega, hk g _ (by omega) h3⟩
theorem IntssAt.keep {b b' : Nat} {H H' : GHeap} {a : Option Addr} {xss : List (List Int)} {r : Nat → Option Addr} (h : IntssAt b H a xss r) (hk : Keep b' H H') (hb : b' ≤ b) : IntssAt b' H' a xss r :=
  let ⟨g, e, cs, h1, h2, h3, h4, h5, h6⟩ := h; ⟨g, e, cs, h1, by omega, hk g _ (by omega) h3, h4, h5, fun i hi => (h6 i hi).keep hk hb⟩
theorem IntsAt.ints {b : Nat} {H : GHeap} {a : Option Addr} {xs : List Int} (h : IntsAt b H a xs) : Ints H a xs := by
  obtain ⟨g, e, rfl, _, h3⟩ := h
  exact Ints.of_get h3
theorem IntssAt.intss {b : Nat} {H : GHeap} {a : Option Addr} {xss : List (List Int)} {r : Nat → Option Addr} (h : IntssAt b H a xss r) : Intss H a xss r := by
  obtain ⟨g, e, cs, rfl, _, h3, h4, h5, h6⟩ := h
  exact ⟨.inr ⟨g, 0, rfl, fun i hi => by rw [GHeap.cell_of h3, Nat.zero_add]; exact h5 i hi⟩, fun i hi => (h6 i hi).ints⟩
def NewIntss (H : GHeap) (xss : List (List Int)) (v : Value) (H' : GHeap) : Prop := H.Le H' ∧ ∃ a r, v = .slice a xss.length xss.length ∧ IntssAt H.next H' a xss r
def CatAt (b : Nat) (H : GHeap) (c : Cat) (p : CatP) : Prop := IntsAt b H p.a1 c.src ∧ IntsAt b H p.a2 c.tgt ∧ IntsAt b H p.a3 c.idn ∧ IntssAt b H p.a4 c.comp p.r
theorem CatAt.keep {b b' : Nat} {H H' : GHeap} {c : Cat} {p : CatP} (h : CatAt b H c p) (hk : Keep b' H H') (hb : b' ≤ b) : CatAt b' H' c p := ⟨h.1.keep hk hb, h.2.1.keep hk hb, h.2.2.1.keep hk hb, h.2.2.2.keep hk hb⟩
theorem CatAt.inn {b : Nat} {H : GHeap} {c : Cat} {p : CatP} (h : CatAt b H c p) : c.In H p := ⟨h.1.ints, h.2.1.ints, h.2.2.1.ints, h.2.2.2.intss⟩
def NewCat (H : GHeap) (c : Cat) (v : Value) (H' : GHeap) : Prop := H.Le H' ∧ ∃ p, v = .agg (c.cells p).toArray ∧ CatAt H.next H' c p
def FunAt (b : Nat) (H : GHeap) (f : Fun) (p : FunP) : Prop := CatAt b H f.s p.s ∧ CatAt b H f.t p.t ∧ IntsAt b H p.b1 f.ob ∧ IntsAt b H p.b2 f.ar
theorem FunAt.inn {b : Nat} {H : GHeap} {c : Fun} {p : FunP} (h : FunAt b H c p) : c.In H p := ⟨h.1.inn, h.2.1.inn, h.2.2.1.ints, h.2.2.2.ints⟩
structure Bld (H0 : GHeap) (b g2 g3 : Nat) (t : TypeId) (z cs : List Value) (H : GHeap) : Prop where
  le : H0.Le H
  a2 : H0.next ≤ g2
  l2 : g2 < b
  a3 : H0.next ≤ g3
  l3 : g3 < b
  ne : g2 ≠ g3
  res : H.get g2 = some (.row z t true)
  own : H.get g3 = some (.row cs t true)
  bn : b ≤ H.next
theorem setAll_gen (vs : List Value) : ∀ (pre a rest : List Value), a.length = vs.length → setAll (pre ++ (a ++ rest)) pre.length vs = pre ++ (vs ++ rest) := by
  induction vs with
  | nil => intro pre a rest h; obtain rfl := List.length_eq_zero_iff.1 (by simpa using h); rfl
  | cons v vs ih =>
    intro pre a rest h
    match a, h with
    | x :: a, h =>
      have e : (pre ++ (x :: a ++ rest)).set pre.length v = (pre ++ [v]) ++ (a ++ rest) := by simp [List.set_append]
      have := ih (pre ++ [v]) a rest (by simpa using h)
      rw [List.length_append] at this
      unfold setAll
      rw [e]
      simpa using this
theorem setAll_all (a vs : List Value) (h : a.length = vs.length) : setAll a 0 vs = vs := by
  have := setAll_gen vs [] a [] h
  simpa using this

end Go.GL
namespace Go.Proofs.Ytfanjkbaemhbmaa
open Go Go.GL Go.RowKit Go.Proofs
end Go.Proofs.Ytfanjkbaemhbmaa
namespace Go.Proofs.Ytfanjkbaemhbmaa
open Go Go.GL Go.RowKit Go.Proofs
theorem sl_95_F : sliceT Try.prog 95 = some (58, 1) := by kernel_rfl
theorem on_58_F : oneT Try.prog 58 = true := by kernel_rfl
theorem l01Same_c {a b : Option Addr} {xs ys : List Int} {H : GHeap} (h : Ints H a xs := by assumption) (h' : Ints H b ys := by assumption) (hx : xs.length ≤ 1048576 := by omega) (hy : ys.length ≤ 1048576 := by omega) :
    GCalls Try.prog 131 [.slice a xs.length xs.length, .slice b ys.length ys.length] H (Ret (.bool (decide (xs = ys))) H) := by
  refine GCalls.body (N := 26) (rs := [.tmp 4]) Try.func131 rfl rfl rfl rfl (fun Qx c hend => ?_)
  refine .fg [0, 1] rfl ?_
  refine .seq (fun K1 x => .region (.mv rfl (.nil (x _ _ (.seq (fun K2 r => .seq (fun K3 s => .region (.mv rfl (.q rfl (.len sl_24_A rfl) (.mv rfl (.q rfl (.len sl_24_A rfl) (.q rfl (.cmp rfl rfl rfl) (.nil (s _ _ ?_))))))))))))))
  refine .cond rfl ?_ ?_ <;> intro o
  ·
   try simp only [sps] at o
   refine .seq (fun K4 z => .region (.mv rfl (.nil (z _ _ (.ret (c _ _ (⟨_, rfl, ?_⟩)))))))
   exact .of (congrArg _ (decide_eq_false fun e => by subst e; first | omega | simp_all))
  try simp only [sps] at o
  refine .skip (r _ _ (.seq (fun K5 v => .seq (fun K6 t => .region (.mv rfl (.nil (t _ _ (.block ?_))))))))
  refine .loopF (σ := Nat) [0, 1] (fun k => [(5, some (.int .i64 (k : Int)))]) (fun k H' => H = H' ∧ k ≤ xs.length ∧ ∀ i, i < k → xs.getD i 0 = ys.getD i 0) (fun k => xs.length - k) (0) rfl (.p rfl) ?_ ?_
  ·
   refine ⟨rfl, ?_⟩
   exact ⟨by omega, fun i hi => by omega⟩
  rintro k _ ⟨rfl, hI⟩ _ g
  dsimp only [cA, nA]
  obtain ⟨_, d⟩ := hI
  refine .seq (fun K7 w => .seq (fun K8 u => .region (.mv rfl (.mv rfl (.q rfl (.len sl_24_A rfl) (.q rfl (.cmp rfl rfl rfl) (.nil (u _ _ ?_))))))))
  refine .cond rfl ?_ ?_ <;> intro m
  ·
   try simp only [sps] at m
   refine .skip (w _ _ (.seq (fun K9 y => .block (.seq (fun K10 f => ?_)))))
   refine .regionD mo_B (.qs [0, 1, 2, 3, 4, 5, 6, 7, 8] (.done)) (by kernel_rfl) ?_
   refine .mv rfl rfl (.mv rfl rfl (.q rfl (.iN sl_24_A rfl rfl) (.q rfl (.lI on_2_A rfl) (.mv rfl rfl (.mv rfl rfl (.q rfl (.iN sl_24_A rfl rfl) (.q rfl (.lI on_2_A rfl) (.q rfl (.cmp rfl rfl rfl) (.done (f _ _ ?_))))))))))
   refine .cond rfl ?_ ?_ <;> intro n
   ·
    try simp only [sps] at n
    refine .seq (fun K11 l => .region (.mv rfl (.nil (l _ _ (.ret (c _ _ (⟨_, rfl, ?_⟩)))))))
    exact .of (congrArg _ (decide_eq_false fun e => by subst e; first | omega | simp_all))
   try simp only [sps] at n
   refine .skip (y _ _ (.region (.mv rfl (.q rfl (.aD rfl rfl rfl) (.mv rfl (.nil ?_))))))
   refine g (k + 1) _ _ ?_ ?_ (.p rfl)
   ·
    refine ⟨rfl, ?_⟩
    refine ⟨by omega, fun i hi => ?_⟩
    by_cases e : i < k
    · exact d i e
    · obtain rfl : i = k := by omega
      assumption
   omega
  try simp only [sps] at m
  refine .exit (v _ _ (.seq (fun K12 j => .region (.mv rfl (.nil (j _ _ (.ret (c _ _ (⟨_, rfl, ?_⟩)))))))))
  exact .of (congrArg _ (decide_eq_true (eq_of_getD (by omega) fun i hi => d i (by omega))))
theorem areCategories_c {a : Option Addr} {n : Nat} {G O : Nat → Nat} {C : Nat → Cat} {P : Nat → CatP} {H : GHeap} (h : SlA H a n (fun i => .pointer (some ⟨G i, O i, none⟩)) := by assumption) (hn : n ≤ 1048576 := by omega) (hc : ∀ i, i < n → Cat.At H (G i) (O i) (C i) (P i) := by assumption) (hs : ∀ i, i < n → (C i).Small := by assumption) :
    GCalls Try.prog 48 [.slice a n n] H (Ret (.bool (B (∀ i, i < n → (C i).Is))) H) := by
  refine GCalls.body (N := 15) (rs := [.tmp 2]) Try.func48 rfl rfl rfl rfl (fun Qx b hend => ?_)
  refine .fg [0] rfl ?_
  refine .seq (fun K1 s => .region (.mv rfl (.nil (s _ _ (.seq (fun K2 j => .seq (fun K3 l => .region (.mv rfl (.q rfl (.len sl_95_F rfl) (.mv rfl (.nil (l _ _ (.block ?_)))))))))))))
  refine .loopF (σ := Nat) [5, 6] (fun k => [(7, some (.int .i64 (k : Int)))]) (fun k H' => H = H' ∧ k ≤ n ∧ ∀ i, i < k → (C i).Is) (fun k => n - k) (0) rfl (.p rfl) ?_ ?_
  ·
   refine ⟨rfl, ?_⟩
   exact ⟨by omega, fun i hi => by omega⟩
  rintro k _ ⟨rfl, hI⟩ _ f
  dsimp only [cA, nA]
  obtain ⟨_, c⟩ := hI
  refine .seq (fun K4 v => .region (.q rfl (.cmp rfl rfl rfl) (.nil (v _ _ (.seq (fun K5 u => ?_))))))
  refine .cond rfl ?_ ?_ <;> intro h8
  ·
   try simp only [sps] at h8
   refine .skip (u _ _ (.seq (fun K6 m => .block (.seq (fun K7 r => .region ?_)))))
   have _ := hc k (by omega)
   have _ := hs k (by omega)
   refine .q rfl (.idxN sl_95_F h rfl rfl (by omega)) ?_
   refine .q rfl (.loadE on_58_F h rfl (by omega)) ?_
   refine .mv rfl (.nil (r _ _ (.seq (fun K8 o => .region (.mv rfl ?_)))))
   refine .callQ rfl rfl rfl rfl @Try.call34 rfl (isCategory_c) ?_
   refine .q rfl (.not rfl) (.nil (o _ _ ?_))
   refine .cond rfl ?_ ?_ <;> intro g
   ·
    try simp only [sps] at g
    refine .seq (fun K9 t => .region (.mv rfl (.nil (t _ _ (.ret (b _ _ (⟨_, rfl, ?_⟩)))))))
    exact .of (congrArg _ (B_false fun e => by have := e k (by omega); simp_all))
   try simp only [sps] at g
   refine .skip (m _ _ (.region (.q rfl (.aD rfl rfl rfl) (.mv rfl (.nil ?_)))))
   refine f (k + 1) _ _ ?_ ?_ (.p rfl)
   ·
    refine ⟨rfl, ?_⟩
    refine ⟨by omega, fun i hi => ?_⟩
    by_cases e : i < k
    · exact c i e
    · obtain rfl : i = k := by omega
      assumption
   omega
  try simp only [sps] at h8
  refine .exit (j _ _ (.seq (fun K10 d => .region (.mv rfl (.nil (d _ _ (.ret (b _ _ (⟨_, rfl, ?_⟩)))))))))
  exact .of (congrArg _ (B_true fun i hi => c i (by omega)))
end Go.Proofs.Ytfanjkbaemhbmaa
namespace Go.GL

abbrev Fun.O (f : Fun) (x : Int) : Int := f.ob.getD x.toNat 0
abbrev Fun.A (f : Fun) (a : Int) : Int := f.ar.getD a.toNat 0
structure Fun.Fits (f : Fun) : Prop where
  ol : (f.ob.length : Int) = f.s.obj
  al : f.ar.length = f.s.src.length
  ob : ∀ i, i < f.ob.length → 0 ≤ f.ob.getD i 0 ∧ f.ob.getD i 0 < f.t.obj
  ar : ∀ i, i < f.ar.length → 0 ≤ f.ar.getD i 0 ∧ f.ar.getD i 0 < f.t.src.length
  ends : ∀ a, a < f.ar.length → f.t.src.getD (f.ar.getD a 0).toNat 0 = f.ob.getD (f.s.src.getD a 0).toNat 0 ∧ f.t.tgt.getD (f.ar.getD a 0).toNat 0 = f.ob.getD (f.s.tgt.getD a 0).toNat 0
  ids : ∀ x, x < f.s.idn.length → f.ar.getD (f.s.idn.getD x 0).toNat 0 = f.t.idn.getD (f.ob.getD x 0).toNat 0
  th : ∀ a, a < f.s.src.length → ∀ b, b < f.s.src.length → f.s.tgt.getD a 0 = f.s.src.getD b 0 → f.A (f.s.th a b) = f.t.th (f.ar.getD a 0) (f.ar.getD b 0)
def Fun.Is (f : Fun) : Prop := f.s.Is ∧ f.t.Is ∧ f.Fits

def Tra.Sq (m : Tra) (a : Nat) : Prop := m.s.t.th (m.s.ar.getD a 0) (m.co.getD (m.s.s.tgt.getD a 0).toNat 0) = m.s.t.th (m.co.getD (m.s.s.src.getD a 0).toNat 0) (m.t.ar.getD a 0)
structure Tra.Shape (m : Tra) : Prop where
  s : m.s.Is
  t : m.t.Is
  ps : m.s.s = m.t.s
  pt : m.s.t = m.t.t
  cl : (m.co.length : Int) = m.s.s.obj
  co : ∀ i, i < m.co.length → 0 ≤ m.co.getD i 0 ∧ m.co.getD i 0 < m.s.t.src.length
  ends : ∀ x, x < m.co.length → m.s.t.src.getD (m.co.getD x 0).toNat 0 = m.s.ob.getD x 0 ∧ m.s.t.tgt.getD (m.co.getD x 0).toNat 0 = m.t.ob.getD x 0
def Tra.Is (m : Tra) : Prop := m.Shape ∧ ∀ a, a < m.s.ar.length → m.Sq a
noncomputable def Tra.first (m : Tra) : Int := match firstN m.s.ar.length (fun a => !B (m.Sq a)) with | some a => (a : Int) | none => -1
theorem Sub.over {k : Nat} {v : Option Value} : ∀ {rest fr : Slots}, Sub rest fr → rest.all (fun p => p.1 != k) = true → Sub rest ((k, v) :: fr)
  | [], _, _, _ => trivial
  | (t, some u) :: r, fr, h, hk => by
    simp only [List.all_cons, Bool.and_eq_true, bne_iff_ne, ne_eq] at hk
    exact ⟨by rw [get_cons, if_neg (Ne.symm hk.1)]; exact h.1, h.2.over hk.2⟩
  | (t, none) :: r, fr, h, hk => by
    simp only [List.all_cons, Bool.and_eq_true] at hk
    exact Sub.over (rest := r) h hk.2

section
variable {P : Program} {N : Nat} {ops : Array Oper} {Q : Slots → GHeap → Prop} {fr : Slots} {H Hb : GHeap}
theorem GTree.two {a b s u : Nat} {oa ob os ou : Oper} {da db tx ty : Tmp} {e : TypeId} {z : List Value} {n : Nat} {vs ws : Array Value} (rest : Slots)
    (ha : ops[a]? = some oa) (hb : ops[b]? = some ob) (hs : ops[s]? = some os) (hu : ops[u]? = some ou) (hda : oa.dst = some da) (hdb : ob.dst = some db) (hNa : Nat.blt da N = true) (hNb : Nat.blt db N = true)
    (ga : oa.guard = none) (gb : ob.guard = none) (gs : os.guard = none) (gu : ou.guard = none) (hds : os.dst = none) (hdu : ou.dst = none)
    (oa' : oa.op = .alloc e) (ob' : ob.op = .alloc e) (os' : os.op = .store e (.tmp da) (.tmp tx)) (ou' : ou.op = .store e (.tmp db) (.tmp ty))
    (hz : zeroT P e = some (z, n)) (hfl : z.all flat1 = true) (hsz : (P.info? e).map (·.size) = some n) (hzl : z.length = n)
    (hx : fr.get tx = some (.agg vs)) (hy : fr.get ty = some (.agg ws)) (hvn : vs.size = n) (hwn : ws.size = n) (hv1 : vs.toList.all (·.oneCell') = true) (hw1 : ws.toList.all (·.oneCell') = true)
    (hne : (da != db) = true) (hxa : (tx != da) = true) (hxb : (tx != db) = true) (hya : (ty != da) = true) (hyb : (ty != db) = true)
    (hr : Sub rest fr) (hra : rest.all (fun p => p.1 != da) = true) (hrb : rest.all (fun p => p.1 != db) = true)
    (hle0 : Hb.Le H) (h : ∀ g g' H' fr', H.Le H' → H.next ≤ g → H.next ≤ g' → H'.get g = some (.row vs.toList e true) → H'.get g' = some (.row ws.toList e true) →
      Sub ((da, some (.pointer (some ⟨g, 0, none⟩))) :: (db, some (.pointer (some ⟨g', 0, none⟩))) :: rest) fr' → Q fr' H') :
    GTree P N ops Q (.or (.c a 1 (.c b 1 (.c s 1 (.c u 0 .done)))) (.c b 1 (.c a 1 (.c s 1 (.c u 0 .done))))) fr Hb H := by
  simp only [bne_iff_ne, ne_eq] at hne hxa hxb hya hyb
  have n1 := GHeap.next_push H (.row z e true)
  have l1 := GHeap.le_push H (.row z e true)
  have p1 := GHeap.get_push_new H (.row z e true)
  have n2 := GHeap.next_push (H.push (.row z e true)) (.row z e true)
  have l2 := GHeap.le_push (H.push (.row z e true)) (.row z e true)
  have p2 := GHeap.get_push_new (H.push (.row z e true)) (.row z e true)
  have p1' := l2.2 _ _ p1
  have sv : setAll z 0 vs.toList = vs.toList := setAll_all _ _ (by simp [hzl, hvn])
  have sw : setAll z 0 ws.toList = ws.toList := setAll_all _ _ (by simp [hzl, hwn])
  have le := l1.trans l2
  generalize hK : H.push (.row z e true) = H1 at *
  generalize hK2 : H1.push (.row z e true) = H2 at *
  have q1 := GHeap.ltg p1'
  have q2 := GHeap.ltg p2
  unfold GTree
  refine ⟨?_, ?_⟩
  · refine .d1 ha hda hNa ga (.alloc oa' hz hfl CIs.mk) (by rw [hK]; exact hle0.trans l1) ?_
    rw [hK]
    refine .d1 hb hdb hNb gb (.alloc ob' hz hfl CIs.mk) (by rw [hK2]; exact hle0.trans le) ?_
    rw [hK2]
    refine .s1 hs hds gs (.storeN (g := H.next) (off := 0) os' hsz (by show Slots.get _ da = _; rw [get_cons, if_neg (Ne.symm hne), get_cons, if_pos rfl]) (by show Slots.get _ tx = _; rw [get_cons, if_neg (Ne.symm hxb), get_cons, if_neg (Ne.symm hxa)]; exact hx) hvn hv1 p1' (by omega) CIs.mk) ((hle0.trans le).set_new hle0.1) ?_
    rw [sv]
    refine .s0 hu hdu gu (.storeN (g := H1.next) (off := 0) ou' hsz (by show Slots.get _ db = _; rw [get_cons, if_pos rfl]) (by show Slots.get _ ty = _; rw [get_cons, if_neg (Ne.symm hyb), get_cons, if_neg (Ne.symm hya)]; exact hy) hwn hw1 (by rw [GHeap.get_set_ne (by omega)]; exact p2) (by omega) CIs.mk) ?_
    rw [sw]
    refine GTree.done (h _ _ _ _ ((le.set_new (Nat.le_refl _)).set_new (by omega)) (Nat.le_refl _) (by omega) (by rw [GHeap.get_set_ne (by omega)]; exact GHeap.get_set_eq q1) (GHeap.get_set_eq (by simpa using q2)) ⟨?_, ?_, ?_⟩)
    · rw [get_cons, if_neg (Ne.symm hne), get_cons, if_pos rfl]
    · rw [get_cons, if_pos rfl]
    · exact (hr.over hra).over hrb
  · refine .d1 hb hdb hNb gb (.alloc ob' hz hfl CIs.mk) (by rw [hK]; exact hle0.trans l1) ?_
    rw [hK]
    refine .d1 ha hda hNa ga (.alloc oa' hz hfl CIs.mk) (by rw [hK2]; exact hle0.trans le) ?_
    rw [hK2]
    refine .s1 hs hds gs (.storeN (g := H1.next) (off := 0) os' hsz (by show Slots.get _ da = _; rw [get_cons, if_pos rfl]) (by show Slots.get _ tx = _; rw [get_cons, if_neg (Ne.symm hxa), get_cons, if_neg (Ne.symm hxb)]; exact hx) hvn hv1 p2 (by omega) CIs.mk) ((hle0.trans le).set_new (by have := hle0.1; omega)) ?_
    rw [sv]
    refine .s0 hu hdu gu (.storeN (g := H.next) (off := 0) ou' hsz (by show Slots.get _ db = _; rw [get_cons, if_neg hne, get_cons, if_pos rfl]) (by show Slots.get _ ty = _; rw [get_cons, if_neg (Ne.symm hya), get_cons, if_neg (Ne.symm hyb)]; exact hy) hwn hw1 (by rw [GHeap.get_set_ne (by omega)]; exact p1') (by omega) CIs.mk) ?_
    rw [sw]
    refine GTree.done (h H1.next H.next _ _ ((le.set_new (by omega)).set_new (Nat.le_refl _)) (by omega) (Nat.le_refl _) (by rw [GHeap.get_set_ne (by omega)]; exact GHeap.get_set_eq q2) (GHeap.get_set_eq (by simpa using q1)) ⟨?_, ?_, ?_⟩)
    · rw [get_cons, if_pos rfl]
    · rw [get_cons, if_neg hne, get_cons, if_pos rfl]
    · exact (hr.over hrb).over hra
end
end Go.GL
namespace Go.Proofs.Ytfanjkbaemhbmaa
open Go Go.GL Go.RowKit Go.Proofs
theorem fo_40_0_G : fieldOff Try.prog 40 0 = some 0 := by kernel_rfl
theorem fo_40_1_G : fieldOff Try.prog 40 1 = some 5 := by kernel_rfl
theorem fo_40_2_G : fieldOff Try.prog 40 2 = some 10 := by kernel_rfl
theorem fo_40_3_G : fieldOff Try.prog 40 3 = some 11 := by kernel_rfl
theorem ze_58_G : zeroT Try.prog 58 = some ([.pointer none], 1) := by kernel_rfl
theorem fits_c {g o : Nat} {f : Fun} {p : FunP} {H : GHeap} (h : Fun.At H g o f p := by assumption) (hsI : f.s.Is := by assumption) (htI : f.t.Is := by assumption) (hsm : f.Small := by assumption) :
    GCalls Try.prog 114 [.pointer (some ⟨g, o, none⟩)] H (Ret (.bool (B f.Fits)) H) := by
  refine GCalls.body (N := 195) (rs := [.tmp 2]) Try.func114 rfl rfl rfl rfl (fun Qx d hend => ?_)
  refine .fg [0] rfl ?_
  obtain ⟨fs, ft, _, _, _, _⟩ := h.get
  obtain ⟨_, _, _, _, _, i1, _, _, i4⟩ := fs.get
  obtain ⟨_, _, _, _, -, _, _, _, -⟩ := ft.get
  obtain ⟨hS, -⟩ := hsI
  obtain ⟨hT, -⟩ := htI
  obtain ⟨m1, m2, _, _⟩ := hsm
  obtain ⟨-, _, _, -, -, -⟩ := m1
  obtain ⟨_, -, _, -, -, -⟩ := m2
  have _ := hS.tl
  have _ := hS.n40
  have _ := hS.il
  have _ := hS.obj
  have _ := hS.cl
  have _ := hT.tl
  have _ := hT.n40
  have _ := hT.il
  have _ := hT.obj
  have _ := hT.cl
  refine .seq (fun K1 f5 => .region (.mv rfl (.nil (f5 _ _ (.seq (fun K2 f7 => ?_))))))
  refine .regionD mo_B (.qs [0, 1, 2, 3, 4, 5, 6, 7] (.done)) (by kernel_rfl) ?_
  refine .mv rfl rfl (.q rfl (.nilCheck rfl) (.q rfl (.fieldAddr fo_40_0_G rfl) (.mv rfl rfl (.q rfl (.nilCheck rfl) (.q rfl (.fieldAddr fo_40_1_G rfl) (.mv rfl rfl (.mv rfl rfl (.done (f7 _ _ (.seq (fun K3 f8 => .seq (fun K4 a6 => ?_))))))))))))
  refine .regionD mo_B (.qs [0, 1, 2, 3, 4, 5, 6, 7, 8, 9, 10, 11, 12, 13, 14, 15, 16] (.c 17 1 (.qs [18, 19, 20, 21, 22, 23, 24, 25, 26, 27, 28] (.c 29 0 (.qs [30, 31, 32, 33, 34, 35, 36, 37] (.c 38 1 (.c 39 0 (.q 40 (.q 41 (.done)))))))))) (by kernel_rfl) ?_
  refine .mv rfl rfl (.q rfl (.nilCheck rfl) (.q rfl (.fieldAddr fo_40_2_G rfl) (.q rfl (.lA on_24_B rfl) (.q rfl (.len sl_24_A rfl) (.mv rfl rfl (.q rfl (.nilCheck rfl) (.q rfl (.fieldAddr fo_27_0_B rfl) (.q rfl (.lA on_2_A rfl) (.q rfl (.cmp rfl rfl rfl) (.mv rfl rfl ?_))))))))))
  refine .split (fun a0 => ?_) (fun a0 => ?_)
  ·
   try simp only [sps] at a0
   refine .z rfl (.z rfl (.z rfl (.z rfl (.z rfl (.z rfl (.sgc rfl rfl rfl rfl rfl rfl (.z rfl (.q rfl (.pickT rfl rfl) (.mv rfl rfl (.z rfl (.z rfl (.z rfl (.z rfl (.z rfl (.z rfl ?_)))))))))))))))
   refine .z rfl (.z rfl (.sgc rfl rfl rfl rfl rfl rfl (.z rfl (.q rfl (.pickT rfl rfl) (.mv rfl rfl (.z rfl (.z rfl (.z rfl (.z rfl (.z rfl (.sgc rfl rfl rfl rfl rfl rfl (.sgc rfl rfl rfl rfl rfl rfl (.z rfl (.q rfl (.pickT rfl rfl) (.done ?_)))))))))))))))
   refine a6 _ _ ?_
   refine .condT rfl ?_
   refine .seq (fun K5 f6 => .region (.mv rfl (.nil (f6 _ _ (.ret (d _ _ (⟨_, rfl, ?_⟩)))))))
   exact .of (congrArg _ (B_false fun hF => a0 hF.ol))
  try simp only [sps] at a0
  refine .qg rfl (.move rfl) (.qg rfl (.nilCheck rfl) (.qg rfl (.fieldAddr fo_40_3_G rfl) (.qg rfl (.lA on_24_B rfl) (.qg rfl (.len sl_24_A rfl) (.qg rfl (.move rfl) ?_)))))
  refine .callQ1g rfl rfl rfl rfl rfl rfl rfl @Try.call67 rfl (arrows_c) (.refl _) ?_
  refine .qg rfl (.cmp rfl rfl rfl) (.q rfl (.pickF rfl rfl) (.mv rfl rfl ?_))
  refine .split (fun e6 => ?_) (fun e6 => ?_)
  ·
   try simp only [sps] at e6
   refine .z rfl (.z rfl (.z rfl (.z rfl (.z rfl (.z rfl (.z rfl (.z rfl (.sgc rfl rfl rfl rfl rfl rfl (.z rfl (.q rfl (.pickT rfl rfl) (.mv rfl rfl (.z rfl (.z rfl (.z rfl (.z rfl ?_)))))))))))))))
   refine .z rfl (.sgc rfl rfl rfl rfl rfl rfl (.sgc rfl rfl rfl rfl rfl rfl (.z rfl (.q rfl (.pickT rfl rfl) (.done (a6 _ _ ?_))))))
   refine .condT rfl ?_
   refine .seq (fun K6 g1 => .region (.mv rfl (.nil (g1 _ _ (.ret (d _ _ (⟨_, rfl, ?_⟩)))))))
   exact .of (congrArg _ (B_false fun hF => by have := hF.al; omega))
  try simp only [sps] at e6
  refine .qg rfl (.move rfl) (.qg rfl (.nilCheck rfl) (.qg rfl (.fieldAddr fo_40_2_G rfl) (.qg rfl (.lA on_24_B rfl) (.qg rfl (.move rfl) (.qg rfl (.nilCheck rfl) (.qg rfl (.fieldAddr fo_27_0_B rfl) (.qg rfl (.lA on_2_A rfl) ?_)))))))
  refine .callQ0g rfl rfl rfl rfl rfl rfl rfl @Try.call85 rfl (within_c) ?_
  refine .qg rfl (.not rfl) (.q rfl (.pickF rfl rfl) (.mv rfl rfl ?_))
  refine .split (fun r => ?_) (fun r => ?_)
  ·
   try simp only [sps] at r
   refine .z rfl (.z rfl (.z rfl (.z rfl (.z rfl (.sgc rfl rfl rfl rfl rfl rfl (.sgc rfl rfl rfl rfl rfl rfl (.z rfl (.q rfl (.pickT rfl rfl) (.done (a6 _ _ ?_))))))))))
   refine .condT rfl ?_
   refine .seq (fun K7 f9 => .region (.mv rfl (.nil (f9 _ _ (.ret (d _ _ (⟨_, rfl, ?_⟩)))))))
   exact .of (congrArg _ (B_false fun hF => by rw [allIn_iff.2 hF.ob] at r; cases r))
  try simp only [sps] at r
  refine .qg rfl (.move rfl) (.qg rfl (.nilCheck rfl) (.qg rfl (.fieldAddr fo_40_3_G rfl) (.qg rfl (.lA on_24_B rfl) (.qg rfl (.move rfl) ?_))))
  refine .callQ1g rfl rfl rfl rfl rfl rfl rfl @Try.call67 rfl (arrows_c) (.refl _) ?_
  refine .callQ0g rfl rfl rfl rfl rfl rfl rfl @Try.call85 rfl (within_c) ?_
  refine .qg rfl (.not rfl) (.q rfl (.pickF rfl rfl) (.done (a6 _ _ ?_)))
  refine .cond rfl ?_ ?_ <;> intro n
  ·
   try simp only [sps] at n
   refine .seq (fun K8 g0 => .region (.mv rfl (.nil (g0 _ _ (.ret (d _ _ (⟨_, rfl, ?_⟩)))))))
   exact .of (congrArg _ (B_false fun hF => by rw [allIn_iff.2 hF.ar] at n; cases n))
  try simp only [sps] at n
  refine .skip (f8 _ _ (.seq (fun K9 g2 => .seq (fun K10 a9 => .region (.mv rfl (.q rfl (.nilCheck rfl) (.q rfl (.fieldAddr fo_40_3_G rfl) (.q rfl (.lA on_24_B rfl) (.q rfl (.len sl_24_A rfl) (.mv rfl (.nil (a9 _ _ (.block ?_)))))))))))))
  refine .loopF (σ := Nat) [0, 3, 4, 64, 65] (fun k => [(66, some (.int .i64 (k : Int)))]) (fun k H' => H = H' ∧ k ≤ f.ar.length ∧ ∀ a, a < k → f.t.src.getD (f.ar.getD a 0).toNat 0 = f.ob.getD (f.s.src.getD a 0).toNat 0 ∧ f.t.tgt.getD (f.ar.getD a 0).toNat 0 = f.ob.getD (f.s.tgt.getD a 0).toNat 0) (fun k => f.ar.length - k) (0) rfl (.p rfl) ?_ ?_
  ·
   refine ⟨rfl, ?_⟩
   exact ⟨by omega, fun x hx => by omega⟩
  rintro k _ ⟨rfl, hI⟩ _ e5
  dsimp only [cA, nA]
  obtain ⟨_, f3⟩ := hI
  refine .seq (fun K11 e9 => .region (.q rfl (.cmp rfl rfl rfl) (.nil (e9 _ _ (.seq (fun K12 b3 => ?_))))))
  refine .cond rfl ?_ ?_ <;> intro f1
  ·
   try simp only [sps] at f1
   refine .skip (b3 _ _ (.seq (fun K13 e8 => .block (.seq (fun K14 b2 => .region (.mv rfl (.q rfl (.iN sl_24_A rfl rfl) (.q rfl (.lI on_2_A rfl) (.mv rfl (.mv rfl (.nil (b2 _ _ (.seq (fun K15 a4 => ?_))))))))))))))
   refine .regionD mo_B (.qs [0, 1, 2, 3, 4, 5, 6, 7, 8, 9, 10, 11, 12, 13, 14, 15, 16, 17, 18, 19, 20, 21, 22, 23, 24, 25, 26, 27, 28, 29, 30, 31, 32, 33, 34, 35, 36, 37, 38, 39, 40, 41, 42, 43] (.done)) (by kernel_rfl) ?_
   have q1 := n k (by omega)
   have q2 := hS.src k (by omega)
   have _ := hS.tgt k (by omega)
   refine .mv rfl rfl (.q rfl (.nilCheck rfl) (.q rfl (.fieldAddr fo_27_1_B rfl) (.q rfl (.lA on_24_B rfl) (.mv rfl rfl (.q rfl (.i1 sl_24_A rfl rfl) (.q rfl (.lI on_2_A rfl) (.mv rfl rfl (.q rfl (.nilCheck rfl) (.q rfl (.fieldAddr fo_40_2_G rfl) (.q rfl (.lA on_24_B rfl) (.mv rfl rfl (.q rfl (.nilCheck rfl) (.q rfl (.fieldAddr fo_27_1_B rfl) (.q rfl (.lA on_24_B rfl) (.mv rfl rfl ?_)))))))))))))))
   refine .q rfl (.iN sl_24_A rfl rfl) (.q rfl (.lI on_2_A rfl) (.q rfl (.i1 sl_24_A rfl rfl) (.q rfl (.lI on_2_A rfl) (.q rfl (.cmp rfl rfl rfl) (.mv rfl rfl ?_)))))
   refine .split (fun a5 => ?_) (fun a5 => ?_)
   ·
    try simp only [sps] at a5
    refine .z rfl (.z rfl (.z rfl (.z rfl (.z rfl (.z rfl (.z rfl (.z rfl (.z rfl (.z rfl (.z rfl (.z rfl (.z rfl (.z rfl (.z rfl (.z rfl ?_)))))))))))))))
    refine .z rfl (.z rfl (.z rfl (.z rfl (.z rfl (.q rfl (.pickT rfl rfl) (.done (a4 _ _ ?_)))))))
    refine .condT rfl ?_
    refine .seq (fun K16 c6 => .region (.mv rfl (.nil (c6 _ _ (.ret (d _ _ (⟨_, rfl, ?_⟩)))))))
    exact .of (congrArg _ (B_false fun hF => a5 (hF.ends k (by omega)).1))
   try simp only [sps] at a5
   refine .qg rfl (.move rfl) (.qg rfl (.nilCheck rfl) (.qg rfl (.fieldAddr fo_27_2_B rfl) (.qg rfl (.lA on_24_B rfl) (.qg rfl (.move rfl) (.qg rfl (.i1 sl_24_A rfl rfl) (.qg rfl (.lI on_2_A rfl) (.qg rfl (.move rfl) (.qg rfl (.nilCheck rfl) (.qg rfl (.fieldAddr fo_40_2_G rfl) (.qg rfl (.lA on_24_B rfl) (.qg rfl (.move rfl) (.qg rfl (.nilCheck rfl) (.qg rfl (.fieldAddr fo_27_2_B rfl) (.qg rfl (.lA on_24_B rfl) (.qg rfl (.move rfl) ?_)))))))))))))))
   refine .qg rfl (.iN sl_24_A rfl rfl) (.qg rfl (.lI on_2_A rfl) (.qg rfl (.i1 sl_24_A rfl rfl) (.qg rfl (.lI on_2_A rfl) (.qg rfl (.cmp rfl rfl rfl) (.q rfl (.pickF rfl rfl) (.done (a4 _ _ ?_)))))))
   refine .cond rfl ?_ ?_ <;> intro m
   ·
    try simp only [sps] at m
    refine .seq (fun K17 e7 => .region (.mv rfl (.nil (e7 _ _ (.ret (d _ _ (⟨_, rfl, ?_⟩)))))))
    exact .of (congrArg _ (B_false fun hF => m (hF.ends k (by omega)).2))
   try simp only [sps] at m
   refine .skip (e8 _ _ (.region (.q rfl (.aD rfl rfl rfl) (.mv rfl (.nil ?_)))))
   refine e5 (k + 1) _ _ ?_ ?_ (.p rfl)
   ·
    refine ⟨rfl, ?_⟩
    refine ⟨by omega, fun x hx => ?_⟩
    by_cases e : x < k
    · exact f3 x e
    · obtain rfl : x = k := by omega
      exact ⟨a5, m⟩
   omega
  try simp only [sps] at f1
  refine .exit (g2 _ _ (.seq (fun K18 b9 => .seq (fun K19 c7 => .region (.mv rfl (.q rfl (.nilCheck rfl) (.q rfl (.fieldAddr fo_27_3_B rfl) (.q rfl (.lA on_24_B rfl) (.q rfl (.len sl_24_A rfl) (.mv rfl (.nil (c7 _ _ (.block ?_)))))))))))))
  refine .loopF (σ := Nat) [0, 3, 4, 119, 120] (fun k => [(121, some (.int .i64 (k : Int)))]) (fun k H' => H = H' ∧ k ≤ f.s.idn.length ∧ ∀ x, x < k → f.ar.getD (f.s.idn.getD x 0).toNat 0 = f.t.idn.getD (f.ob.getD x 0).toNat 0) (fun k => f.s.idn.length - k) (0) rfl (.p rfl) ?_ ?_
  ·
   refine ⟨rfl, ?_⟩
   exact ⟨by omega, fun x hx => by omega⟩
  rintro k _ ⟨rfl, hI⟩ _ e0
  dsimp only [cA, nA]
  obtain ⟨_, f4⟩ := hI
  refine .seq (fun K20 d4 => .region (.q rfl (.cmp rfl rfl rfl) (.nil (d4 _ _ (.seq (fun K21 e4 => ?_))))))
  refine .cond rfl ?_ ?_ <;> intro v
  ·
   try simp only [sps] at v
   refine .skip (e4 _ _ (.seq (fun K22 b7 => .block (.seq (fun K23 a8 => .region (.mv rfl (.q rfl (.iN sl_24_A rfl rfl) (.q rfl (.lI on_2_A rfl) (.mv rfl (.mv rfl (.nil (a8 _ _ (.seq (fun K24 b0 => ?_))))))))))))))
   refine .regionD mo_B (.qs [0, 1, 2, 3, 4, 5, 6, 7, 8, 9, 10, 11, 12, 13, 14, 15, 16, 17, 18, 19, 20] (.done)) (by kernel_rfl) ?_
   have q1 := hS.idn k (by omega)
   have q2 := r k (by omega)
   refine .mv rfl rfl (.q rfl (.nilCheck rfl) (.q rfl (.fieldAddr fo_40_3_G rfl) (.q rfl (.lA on_24_B rfl) (.mv rfl rfl (.q rfl (.i1 sl_24_A rfl rfl) (.q rfl (.lI on_2_A rfl) (.mv rfl rfl (.q rfl (.nilCheck rfl) (.q rfl (.fieldAddr fo_27_3_B rfl) (.q rfl (.lA on_24_B rfl) (.mv rfl rfl (.q rfl (.nilCheck rfl) (.q rfl (.fieldAddr fo_40_2_G rfl) (.q rfl (.lA on_24_B rfl) (.mv rfl rfl ?_)))))))))))))))
   refine .q rfl (.iN sl_24_A rfl rfl) (.q rfl (.lI on_2_A rfl) (.q rfl (.i1 sl_24_A rfl rfl) (.q rfl (.lI on_2_A rfl) (.q rfl (.cmp rfl rfl rfl) (.done (b0 _ _ ?_))))))
   refine .cond rfl ?_ ?_ <;> intro l
   ·
    try simp only [sps] at l
    refine .seq (fun K25 d7 => .region (.mv rfl (.nil (d7 _ _ (.ret (d _ _ (⟨_, rfl, ?_⟩)))))))
    exact .of (congrArg _ (B_false fun hF => l (hF.ids k (by omega))))
   try simp only [sps] at l
   refine .skip (b7 _ _ (.region (.q rfl (.aD rfl rfl rfl) (.mv rfl (.nil ?_)))))
   refine e0 (k + 1) _ _ ?_ ?_ (.p rfl)
   ·
    refine ⟨rfl, ?_⟩
    refine ⟨by omega, fun x hx => ?_⟩
    by_cases e : x < k
    · exact f4 x e
    · obtain rfl : x = k := by omega
      exact l
   omega
  try simp only [sps] at v
  refine .exit (b9 _ _ (.seq (fun K26 c8 => .seq (fun K27 d6 => .region (.mv rfl (.q rfl (.nilCheck rfl) (.q rfl (.fieldAddr fo_27_4_B rfl) (.q rfl (.lA on_25_B rfl) (.q rfl (.len sl_25_B rfl) (.mv rfl (.nil (d6 _ _ (.block ?_)))))))))))))
  refine .loopF (σ := Nat) [0, 4, 151, 152] (fun k => [(153, some (.int .i64 (k : Int)))]) (fun k H' => H = H' ∧ k ≤ f.s.comp.length ∧ ∀ a, a < k → ∀ b, b < f.s.src.length → f.s.tgt.getD a 0 = f.s.src.getD b 0 → f.A (f.s.th a b) = f.t.th (f.ar.getD a 0) (f.ar.getD b 0)) (fun k => f.s.comp.length - k) (0) rfl (.p rfl) ?_ ?_
  ·
   refine ⟨rfl, ?_⟩
   exact ⟨by omega, fun x hx => by omega⟩
  rintro k _ ⟨rfl, hI⟩ _ b6
  dsimp only [cA, nA]
  obtain ⟨_, f2⟩ := hI
  refine .seq (fun K28 d9 => .region (.q rfl (.cmp rfl rfl rfl) (.nil (d9 _ _ (.seq (fun K29 d5 => ?_))))))
  refine .cond rfl ?_ ?_ <;> intro a1
  ·
   try simp only [sps] at a1
   refine .skip (d5 _ _ (.seq (fun K30 c5 => .block (.seq (fun K31 b8 => .region ?_)))))
   have _ := i4.2 k (by omega)
   have _ := hS.row k (by omega)
   refine .mv rfl ?_
   refine .q rfl (.idxN sl_25_B (Intss.sl (by assumption)) rfl rfl (by omega)) ?_
   refine .q rfl (.loadR on_24_B (by assumption) rfl (by omega)) ?_
   refine .mv rfl (.mv rfl (.nil (b8 _ _ (.seq (fun K32 d8 => .region (.mv rfl (.q rfl (.len sl_24_A rfl) (.mv rfl (.nil (d8 _ _ (.block ?_)))))))))))
   refine .loopF (σ := Nat) [0, 4, 9, 151, 152, 153, 158, 159] (fun j => [(160, some (.int .i64 (j : Int)))]) (fun j H' => H = H' ∧ j ≤ f.s.src.length ∧ ∀ b, b < j → f.s.tgt.getD k 0 = f.s.src.getD b 0 → f.A (f.s.th k b) = f.t.th (f.ar.getD k 0) (f.ar.getD b 0)) (fun j => f.s.src.length - j) (0) rfl (.p rfl) ?_ ?_
   ·
    refine ⟨rfl, ?_⟩
    exact ⟨by omega, fun x hx => by omega⟩
   rintro j _ ⟨rfl, hI⟩ _ y
   dsimp only [cA, nA]
   obtain ⟨_, b5⟩ := hI
   refine .seq (fun K33 c9 => .region (.q rfl (.cmp rfl rfl rfl) (.nil (c9 _ _ (.seq (fun K34 b1 => ?_))))))
   refine .cond rfl ?_ ?_ <;> intro a2
   ·
    try simp only [sps] at a2
    refine .skip (b1 _ _ (.seq (fun K35 w => .block (.seq (fun K36 b4 => .region (.mv rfl (.q rfl (.iN sl_24_A rfl rfl) (.q rfl (.lI on_2_A rfl) (.mv rfl (.mv rfl (.nil (b4 _ _ (.seq (fun K37 a3 => ?_))))))))))))))
    refine .regionD mo_B (.qs [0, 1, 2, 3, 4, 5, 6, 7, 8, 9, 10, 11, 12, 13, 14, 15, 16, 17, 18, 19, 20, 21, 22, 23, 24] (.c 25 1 (.q 26 (.q 27 (.done))))) (by kernel_rfl) ?_
    have q5 := hS.th_lt (f := k) (g := j) (by omega) (by omega)
    rw [Cat.th_nat] at q5
    have _ := n k (by omega)
    have _ := n j (by omega)
    have _ := hT.row (f.ar.getD k 0).toNat (by omega)
    refine .mv rfl rfl (.q rfl (.cmp rfl rfl rfl) (.mv rfl rfl ?_))
    refine .split (fun u => ?_) (fun u => ?_)
    ·
     try simp only [sps] at u
     refine .qg rfl (.move rfl) (.qg rfl (.nilCheck rfl) (.qg rfl (.fieldAddr fo_40_3_G rfl) (.qg rfl (.lA on_24_B rfl) (.qg rfl (.move rfl) (.qg rfl (.i1 sl_24_A rfl rfl) (.qg rfl (.lI on_2_A rfl) (.qg rfl (.move rfl) (.qg rfl (.move rfl) (.qg rfl (.nilCheck rfl) (.qg rfl (.fieldAddr fo_40_3_G rfl) (.qg rfl (.lA on_24_B rfl) (.qg rfl (.move rfl) (.qg rfl (.iN sl_24_A rfl rfl) (.qg rfl (.lI on_2_A rfl) (.qg rfl (.move rfl) ?_)))))))))))))))
     refine .qg rfl (.nilCheck rfl) (.qg rfl (.fieldAddr fo_40_3_G rfl) (.qg rfl (.lA on_24_B rfl) (.qg rfl (.move rfl) (.qg rfl (.iN sl_24_A rfl rfl) (.qg rfl (.lI on_2_A rfl) ?_)))))
     refine .callQ1g rfl rfl rfl rfl rfl rfl rfl @Try.call79 rfl (then_s) (.refl _) ?_
     refine .qg rfl (.cmp rfl rfl rfl) (.q rfl (.pickT rfl rfl) (.done (a3 _ _ ?_)))
     refine .cond rfl ?_ ?_ <;> intro i
     ·
      try simp only [sps] at i
      refine .seq (fun K38 a7 => .region (.mv rfl (.nil (a7 _ _ (.ret (d _ _ (⟨_, rfl, ?_⟩)))))))
      exact .of (congrArg _ (B_false fun hF => i (hF.th k (by omega) j (by omega) ((hS.th_ge (by omega) (by omega)).1 (by rw [Cat.th_nat]; omega)))))
     try simp only [sps] at i
     refine .skip (w _ _ (.region (.q rfl (.aD rfl rfl rfl) (.mv rfl (.nil ?_)))))
     refine y (j + 1) _ _ ?_ ?_ (.p rfl)
     ·
      refine ⟨rfl, ?_⟩
      refine ⟨by omega, fun x hx => ?_⟩
      by_cases e : x < j
      · exact b5 x e
      · obtain rfl : x = j := by omega
        first
          | exact fun _ => i
          | exact fun e => absurd ((hS.th_ge (by omega) (by omega)).2 e) (by rw [Cat.th_nat]; omega)
     omega
    try simp only [sps] at u
    refine .z rfl (.z rfl (.z rfl (.z rfl (.z rfl (.z rfl (.z rfl (.z rfl (.z rfl (.z rfl (.z rfl (.z rfl (.z rfl (.z rfl (.z rfl (.z rfl ?_)))))))))))))))
    refine .z rfl (.z rfl (.z rfl (.z rfl (.z rfl (.z rfl (.sgc rfl rfl rfl rfl rfl rfl (.z rfl (.q rfl (.pickF rfl rfl) (.done (a3 _ _ ?_))))))))))
    refine .condF rfl ?_
    refine .skip (w _ _ (.region (.q rfl (.aD rfl rfl rfl) (.mv rfl (.nil ?_)))))
    refine y (j + 1) _ _ ?_ ?_ (.p rfl)
    ·
     refine ⟨rfl, ?_⟩
     refine ⟨by omega, fun x hx => ?_⟩
     by_cases e : x < j
     · exact b5 x e
     · obtain rfl : x = j := by omega
       first
         | exact fun _ => i
         | exact fun e => absurd ((hS.th_ge (by omega) (by omega)).2 e) (by rw [Cat.th_nat]; omega)
    omega
   try simp only [sps] at a2
   refine .exit (c5 _ _ (.region (.q rfl (.aD rfl rfl rfl) (.mv rfl (.nil ?_)))))
   refine b6 (k + 1) _ _ ?_ ?_ (.p rfl)
   ·
    refine ⟨rfl, ?_⟩
    refine ⟨by omega, fun x hx => ?_⟩
    by_cases e : x < k
    · exact f2 x e
    · obtain rfl : x = k := by omega
      exact fun b hb => b5 b (by omega)
   omega
  try simp only [sps] at a1
  refine .exit (c8 _ _ (.seq (fun K39 f0 => .region (.mv rfl (.nil (f0 _ _ (.ret (d _ _ (⟨_, rfl, ?_⟩)))))))))
  exact .of (congrArg _ (B_true ⟨a0, by omega, r, n, fun a ha => f3 a (by omega), fun x hx => f4 x (by omega), fun a ha => f2 a (by omega)⟩))
theorem two_sl {H : GHeap} {e : TypeId} {own : Bool} {g1 o1 g2 o2 k : Nat} (h : H.get k = some (.row [.pointer (some ⟨g1, o1, none⟩), .pointer (some ⟨g2, o2, none⟩)] e own)) :
    SlA H (some ⟨k, 0, none⟩) 2 (fun i => .pointer (some ⟨(if i = 0 then g1 else g2), (if i = 0 then o1 else o2), none⟩)) := by
  refine .inr ⟨k, 0, rfl, fun i hi => ?_⟩
  rw [GHeap.cell_of h, Nat.zero_add]
  match i, hi with
  | 0, _ => rfl
  | 1, _ => rfl
theorem areCategories2_c {k g1 o1 g2 o2 : Nat} {e : TypeId} {c1 c2 : Cat} {p1 p2 : CatP} {H : GHeap} (h : H.get k = some (.row [.pointer (some ⟨g1, o1, none⟩), .pointer (some ⟨g2, o2, none⟩)] e true) := by assumption)
    (h1 : Cat.At H g1 o1 c1 p1 := by assumption) (h2 : Cat.At H g2 o2 c2 p2 := by assumption) (hs1 : c1.Small := by assumption) (hs2 : c2.Small := by assumption) :
    GCalls Try.prog 48 [.slice (some ⟨k, 0, none⟩) 2 2] H (Ret (.bool (B (c1.Is ∧ c2.Is))) H) := by
  have := areCategories_c (two_sl h) (by omega) (C := fun i => if i = 0 then c1 else c2) (P := fun i => if i = 0 then p1 else p2)
    (fun i hi => by match i, hi with | 0, _ => exact h1 | 1, _ => exact h2) (fun i hi => by match i, hi with | 0, _ => exact hs1 | 1, _ => exact hs2)
  rw [B_congr (q := c1.Is ∧ c2.Is)] at this
  · exact this
  · exact ⟨fun h => ⟨h 0 (by omega), h 1 (by omega)⟩, fun h i hi => by match i, hi with | 0, _ => exact h.1 | 1, _ => exact h.2⟩
theorem isFunctor_c {g o : Nat} {f : Fun} {p : FunP} {H : GHeap} (h : Fun.At H g o f p := by assumption) (hsm : f.Small := by assumption) :
    GCalls Try.prog 91 [.pointer (some ⟨g, o, none⟩)] H (Ret (.bool (B f.Is)) H) := by
  refine GCalls.ret rfl ?_
  have hsm' := hsm
  obtain ⟨_, _, -, -⟩ := hsm'
  refine GCalls.body (N := 15) (rs := [.tmp 2]) Try.func91 rfl rfl rfl rfl (fun Qx d hend => ?_)
  refine .fg [0] rfl ?_
  refine .seq (fun K1 l => .region (.mv rfl (.nil (l _ _ (.seq (fun K2 i => ?_))))))
  refine .regionD mo_B (.qs [0, 1, 2, 3, 4, 5] (.c 6 0 (.c 7 0 (.q 8 (.q 9 (.c 10 0 (.q 11 (.q 12 (.done))))))))) (by kernel_rfl) ?_
  refine .mv rfl rfl (.q rfl (.nilCheck rfl) (.q rfl (.fieldAddr fo_40_0_G rfl) (.mv rfl rfl (.q rfl (.nilCheck rfl) (.q rfl (.fieldAddr fo_40_1_G rfl) ?_)))))
  refine .d0 rfl rfl rfl rfl (.buildSlice rfl sl_95_F ze_58_G rfl rfl (by omega) (by omega) rfl rfl CIs.mk) ?_
  show GTree _ _ _ _ _ _ (H.push (.row [.pointer (some ⟨g, o + 0, none⟩), .pointer (some ⟨g, o + 5, none⟩)] 58 true)) (H.push (.row [.pointer (some ⟨g, o + 0, none⟩), .pointer (some ⟨g, o + 5, none⟩)] 58 true))
  have b := GHeap.le_push H (.row [.pointer (some ⟨g, o + 0, none⟩), .pointer (some ⟨g, o + 5, none⟩)] 58 true)
  have hn := GHeap.get_push_new H (.row [.pointer (some ⟨g, o + 0, none⟩), .pointer (some ⟨g, o + 5, none⟩)] 58 true)
  generalize H.push (.row [.pointer (some ⟨g, o + 0, none⟩), .pointer (some ⟨g, o + 5, none⟩)] 58 true) = H1 at *
  generalize H.next = k at hn ⊢
  have hf := h.mono b
  obtain ⟨_, _, -, -, -, -⟩ := hf.get
  refine .callQ0 rfl rfl rfl rfl rfl @Try.call48 rfl (areCategories2_c) ?_
  refine .mv rfl rfl ?_
  refine .split (fun a => ?_) (fun a => ?_)
  ·
   simp only [B_iff] at a
   obtain ⟨j, e⟩ := a
   refine .qg rfl (.move rfl) ?_
   refine .callQ0g rfl rfl rfl rfl rfl rfl rfl @Try.call114 rfl (fits_c) ?_
   refine .q rfl (.pickT rfl rfl) (.mv rfl rfl (.done (i _ _ (.ret (d _ _ (⟨_, rfl, ?_⟩))))))
   first
   | exact ⟨congrArg _ (B_congr ⟨fun hI => hI.2.2, fun hF => ⟨j, e, hF⟩⟩), b⟩
   | exact ⟨congrArg _ (B_false fun hI => a ⟨hI.1, hI.2.1⟩), b⟩
   | exact ⟨congrArg _ (B_false fun hI => by simp [hI.1, hI.2.1] at a), b⟩
  try simp only [sps] at a
  refine .z rfl (.sgc rfl rfl rfl rfl rfl rfl (.q rfl (.pickF rfl rfl) (.mv rfl rfl (.done (i _ _ (.ret (d _ _ (⟨_, rfl, ?_⟩))))))))
  first
  | exact ⟨congrArg _ (B_congr ⟨fun hI => hI.2.2, fun hF => ⟨j, e, hF⟩⟩), b⟩
  | exact ⟨congrArg _ (B_false fun hI => a ⟨hI.1, hI.2.1⟩), b⟩
  | exact ⟨congrArg _ (B_false fun hI => by simp [hI.1, hI.2.1] at a), b⟩
end Go.Proofs.Ytfanjkbaemhbmaa
namespace Go.GL
open Go.RowKit Go.WideShapes Go.ChangeShapes Go.Deep

def Intsss (H : GHeap) (a : Option Addr) (x : List (List (List Int))) (r : Nat → Option Addr) (s : Nat → Nat → Option Addr) : Prop :=
  SlA H a x.length (fun i => .slice (r i) (x.getD i []).length (x.getD i []).length) ∧ ∀ i, i < x.length → Intss H (r i) (x.getD i []) (s i)
def Sm3 (x : List (List (List Int))) : Prop := x.length ≤ 1048576 ∧ ∀ i, (x.getD i []).length ≤ 1048576 ∧ ∀ j, ((x.getD i []).getD j []).length ≤ 1048576
end Go.GL
namespace Go.GL
open Go.RowKit
structure SFun where
  sh : Cat
  sz : List Int
  ac : List (List Int)
structure SFunP where
  sh : CatP
  a1 : Option Addr
  a2 : Option Addr
  r2 : Nat → Option Addr
def SFun.cells (c : SFun) (p : SFunP) : List Value := c.sh.cells p.sh ++ ([.slice p.a1 c.sz.length c.sz.length] ++ ([.slice p.a2 c.ac.length c.ac.length]))
def SFun.In (H : GHeap) (c : SFun) (p : SFunP) : Prop := c.sh.In H p.sh ∧ Ints H p.a1 c.sz ∧ Intss H p.a2 c.ac p.r2
def SFun.At (H : GHeap) (g o : Nat) (c : SFun) (p : SFunP) : Prop := Mem H g o (c.cells p) ∧ c.In H p
def SFun.Small (c : SFun) : Prop := c.sh.Small ∧ c.sz.length ≤ 1048576 ∧ (c.ac.length ≤ 1048576 ∧ ∀ i, (c.ac.getD i []).length ≤ 1048576)
structure SMap where
  s : SFun
  t : SFun
  pa : List (List Int)
structure SMapP where
  s : SFunP
  t : SFunP
  a2 : Option Addr
  r2 : Nat → Option Addr
def SMap.cells (c : SMap) (p : SMapP) : List Value := c.s.cells p.s ++ (c.t.cells p.t ++ ([.slice p.a2 c.pa.length c.pa.length]))
def SMap.In (H : GHeap) (c : SMap) (p : SMapP) : Prop := c.s.In H p.s ∧ c.t.In H p.t ∧ Intss H p.a2 c.pa p.r2
def SMap.At (H : GHeap) (g o : Nat) (c : SMap) (p : SMapP) : Prop := Mem H g o (c.cells p) ∧ c.In H p
def SMap.Small (c : SMap) : Prop := c.s.Small ∧ c.t.Small ∧ (c.pa.length ≤ 1048576 ∧ ∀ i, (c.pa.getD i []).length ≤ 1048576)
structure Con where
  ap : Int
  lg : List Int
structure ConP where
  a1 : Option Addr
def Con.cells (c : Con) (p : ConP) : List Value := [.int .i64 c.ap] ++ ([.slice p.a1 c.lg.length c.lg.length])
def Con.In (H : GHeap) (c : Con) (p : ConP) : Prop := Ints H p.a1 c.lg
def Con.At (H : GHeap) (g o : Nat) (c : Con) (p : ConP) : Prop := Mem H g o (c.cells p) ∧ c.In H p
def Con.Small (c : Con) : Prop := (-9223372036854775808 ≤ c.ap ∧ c.ap ≤ 9223372036854775807) ∧ c.lg.length ≤ 1048576
structure Prt where
  me : List (List Int)
structure PrtP where
  a0 : Option Addr
  r0 : Nat → Option Addr
def Prt.cells (c : Prt) (p : PrtP) : List Value := [.slice p.a0 c.me.length c.me.length]
def Prt.In (H : GHeap) (c : Prt) (p : PrtP) : Prop := Intss H p.a0 c.me p.r0
def Prt.At (H : GHeap) (g o : Nat) (c : Prt) (p : PrtP) : Prop := Mem H g o (c.cells p) ∧ c.In H p
def Prt.Small (c : Prt) : Prop := (c.me.length ≤ 1048576 ∧ ∀ i, (c.me.getD i []).length ≤ 1048576)
structure Prof where
  s : Cat
  t : Cat
  sz : List (List Int)
  be : List (List (List Int))
  bh : List (List (List Int))
structure ProfP where
  s : CatP
  t : CatP
  a2 : Option Addr
  r2 : Nat → Option Addr
  a3 : Option Addr
  r3 : Nat → Option Addr
  s3 : Nat → Nat → Option Addr
  a4 : Option Addr
  r4 : Nat → Option Addr
  s4 : Nat → Nat → Option Addr
def Prof.cells (c : Prof) (p : ProfP) : List Value := c.s.cells p.s ++ (c.t.cells p.t ++ ([.slice p.a2 c.sz.length c.sz.length] ++ ([.slice p.a3 c.be.length c.be.length] ++ ([.slice p.a4 c.bh.length c.bh.length]))))
def Prof.In (H : GHeap) (c : Prof) (p : ProfP) : Prop := c.s.In H p.s ∧ c.t.In H p.t ∧ Intss H p.a2 c.sz p.r2 ∧ Intsss H p.a3 c.be p.r3 p.s3 ∧ Intsss H p.a4 c.bh p.r4 p.s4
def Prof.At (H : GHeap) (g o : Nat) (c : Prof) (p : ProfP) : Prop := Mem H g o (c.cells p) ∧ c.In H p
def Prof.Small (c : Prof) : Prop := c.s.Small ∧ c.t.Small ∧ (c.sz.length ≤ 1048576 ∧ ∀ i, (c.sz.getD i []).length ≤ 1048576) ∧ Sm3 c.be ∧ Sm3 c.bh
end Go.GL
namespace Go.GL
open Go.RowKit

def out : List Nat → Nat → Prop
  | [], _ => True
  | g :: r, k => k ≠ g ∧ out r k
structure St (bs : List Nat) (H H' : GHeap) : Prop where
  nx : H.next ≤ H'.next
  same : ∀ k o, out bs k → H.get k = some o → H'.get k = some o
theorem St.refl (bs : List Nat) (H : GHeap) : St bs H H := ⟨Nat.le_refl _, fun _ _ _ h => h⟩
theorem GHeap.Le.st {H0 H H' : GHeap} {bs : List Nat} (h : H0.Le H) (s : St bs H H') (hg : ∀ k, k < H0.next → out bs k) : H0.Le H' :=
  ⟨Nat.le_trans h.1 s.nx, fun k o hk => s.same k o (hg k (GHeap.ltg hk)) (h.2 k o hk)⟩
theorem St.le {bs : List Nat} {H0 H H' : GHeap} (s : St bs H0 H) (h : H.Le H') : St bs H0 H' := ⟨Nat.le_trans s.nx h.1, fun k o hk hg => h.2 k o (s.same k o hk hg)⟩
theorem St.st {bs cs : List Nat} {H0 H H' : GHeap} (s : St bs H0 H) (h : St cs H H') (hg : ∀ k, k < H0.next → out bs k → out cs k) : St bs H0 H' :=
  ⟨Nat.le_trans s.nx h.nx, fun k o hk h1 => h.same k o (hg k (GHeap.ltg h1) hk) (s.same k o hk h1)⟩
theorem St.sA {bs cs : List Nat} {H0 H H' : GHeap} (s : St bs H0 H) (h : St cs H H') (hg : ∀ k, k < H0.next → out bs k → out cs k := by intro k hk ho; simp only [out, and_true] at ho ⊢ <;> first | exact ho | exact ho.1 | exact ho.2 | exact ho.2.1 | exact ho.2.2 | exact ho.2.2.1 | exact ho.2.2.2 | omega) : St bs H0 H' := s.st h hg
theorem St.s {g k : Nat} {H H' : GHeap} {o : GObj} (s : St [g] H H') (h : H.get k = some o) (hne : k ≠ g := by first | assumption | omega) : H'.get k = some o := s.same k o ⟨hne, trivial⟩ h
theorem Keep.le {b : Nat} {H0 H H' : GHeap} (k : Keep b H0 H) (h : H.Le H') : Keep b H0 H' := fun g o hb hg => h.2 g o (k g o hb hg)
theorem Keep.st {bs : List Nat} {b : Nat} {H0 H H' : GHeap} (k : Keep b H0 H) (h : St bs H H') (hg : ∀ k, b ≤ k → k < H0.next → out bs k) : Keep b H0 H' := fun g o hb h1 => h.same g o (hg g hb (GHeap.ltg h1)) (k g o hb h1)
theorem St.of_set {g : Nat} {H : GHeap} {o : Option GObj} : St [g] H (H.set g o) := ⟨by rw [GHeap.next_set]; exact Nat.le_refl _, fun k x hk h => by rw [GHeap.get_set_ne (Ne.symm hk.1)]; exact h⟩
theorem St.push {bs : List Nat} {H H' : GHeap} {o : GObj} (s : St bs H H') : St bs H (H'.push o) := ⟨by rw [GHeap.next_push]; have := s.nx; omega, fun k x hk h => GHeap.get_push_of (s.same k x hk h)⟩

section
variable {P : Program} {N : Nat} {ops : Array Oper} {Q : Slots → GHeap → Prop} {L : List (Oper × Nat)} {fr : Slots} {H Hb : GHeap} {o : Oper} {i : Nat} {t : Tree}
theorem CDo.mono {R R' : Option Value → GHeap → Prop} (h : CDo P o fr H R) (hi : ∀ v H', R v H' → R' v H') : CDo P o fr H R' :=
  .mkI fun l B w0 ρ a w hs hf next Qx hn => h.run l B w0 ρ a w hs hf next Qx fun ρ' v c H' w' hR => hn ρ' v c H' w' (hi v H' hR)
theorem GTree.mono {Q' : Slots → GHeap → Prop} (hq : ∀ fr H, Q' fr H → Q fr H) : ∀ {t : Tree} {fr : Slots} {Hb H : GHeap}, GTree P N ops Q' t fr Hb H → GTree P N ops Q t fr Hb H
  | .done, _, _, _, h => hq _ _ h
  | .q i t, fr, Hb, H, h => by
    unfold GTree at h ⊢
    obtain ⟨o, h1, h2, h3⟩ := h
    refine ⟨o, h1, h2, ?_⟩
    split
    · rename_i hg
      rw [hg] at h3
      obtain ⟨v, Hq, k1, k2, k3, k4⟩ := h3
      exact ⟨v, Hq, k1, k2, k3, GTree.mono hq k4⟩
    · rename_i j want hg
      rw [hg] at h3
      obtain ⟨s, c, k1, k2, kg, k3, k4⟩ := h3
      exact ⟨s, c, k1, k2, kg, fun e => let ⟨v, Hq, l1, l2, l3, l4⟩ := k3 e; ⟨v, Hq, l1, l2, l3, GTree.mono hq l4⟩, fun e => GTree.mono hq (k4 e)⟩
  | .c i k t, fr, Hb, H, h => by
    unfold GTree at h ⊢
    obtain ⟨o, h1, h2, h3⟩ := h
    refine ⟨o, h1, h2, ?_⟩
    split
    · rename_i hg
      rw [hg] at h3
      exact h3.mono fun v H' ⟨l1, l2⟩ => ⟨l1, GTree.mono hq l2⟩
    · rename_i j want hg
      rw [hg] at h3
      obtain ⟨s, c, k1, k2, kg, k3, k4⟩ := h3
      exact ⟨s, c, k1, k2, kg, fun e => (k3 e).mono fun v H' ⟨l1, l2⟩ => ⟨l1, GTree.mono hq l2⟩, fun e => GTree.mono hq (k4 e)⟩
  | .or s t, fr, Hb, H, h => by
    unfold GTree at h ⊢
    exact ⟨GTree.mono hq h.1, GTree.mono hq h.2⟩
theorem GTree.cut (rest : Slots) (hr : Sub rest fr) (R : Slots → Slots → GHeap → Prop) (h : GTree P N ops (R rest) t fr Hb H) (hq : ∀ fr' H', R rest fr' H' → Q fr' H') : GTree P N ops Q t fr Hb H := h.mono hq
theorem GTree.mB {d : Tmp} {v : Value} (hi : ops[i]? = some o) (hd : o.dst = some d) (hN : Nat.blt d N = true) (hg : o.guard = none) (hle : Hb.Le H) (hm : MStep P fr Hb o.op v) (h : GTree P N ops Q t ((d, some v) :: fr) Hb H) : GTree P N ops Q (.q i t) fr Hb H := by
  unfold GTree
  refine ⟨o, hi, by unfold dstOk; rw [hd]; exact hN, ?_⟩
  rw [hg]
  exact ⟨v, Hb, .refl _, hle, hm, by rw [hd]; exact h⟩
theorem GTree.qB {d : Tmp} {v : Value} (h : stpT ops i N = some (o, d)) (hle : Hb.Le H) (hm : MStep P fr Hb o.op v) (hq : GTree P N ops Q t ((d, some v) :: fr) Hb H) : GTree P N ops Q (.q i t) fr Hb H := by
  obtain ⟨h0, h4⟩ := stpT.spec h
  obtain ⟨h1, h2, h3⟩ := stpR.spec h4
  exact .mB h0 h1 h2 h3 hle hm hq
theorem GTree.orI {s : Tree} (h : GTree P N ops Q s fr Hb H) (h' : GTree P N ops Q t fr Hb H) : GTree P N ops Q (.or s t) fr Hb H := by unfold GTree; exact ⟨h, h'⟩
theorem GRun.r {d : Tmp} {R : Option Value → GHeap → Prop} (hd : o.dst = some d) (hN : Nat.blt d N = true) (hg : o.guard = none) (hc : CDo P o fr H R) (h : ∀ v H', R v H' → GRun P N ops Q L ((d, v) :: fr) H') : GRun P N ops Q ((o, 0) :: L) fr H :=
  .c hd hN hg (by simp) hc fun v H' hR => ⟨fun e => (by cases e), h v H' hR⟩
theorem GRun.R {d : Tmp} {R : Option Value → GHeap → Prop} (h0 : stpR o N = some d) (hc : CDo P o fr H R) (h : ∀ v H', R v H' → GRun P N ops Q L ((d, v) :: fr) H') : GRun P N ops Q ((o, 0) :: L) fr H := by
  obtain ⟨h1, h2, h3⟩ := stpR.spec h0
  exact .r h1 h2 h3 hc h
theorem GRun.r0 {R : Option Value → GHeap → Prop} (hd : o.dst = none) (hg : o.guard = none) (hc : CDo P o fr H R) (h : ∀ v H', R v H' → GRun P N ops Q L fr H') : GRun P N ops Q ((o, 0) :: L) fr H :=
  .c0 hd hg (by simp) hc fun v H' hR => ⟨fun e => (by cases e), h v H' hR⟩
theorem GTree.r0 {R : Option Value → GHeap → Prop} (hi : ops[i]? = some o) (hd : o.dst = none) (hg : o.guard = none) (hc : CDo P o fr H R) (h : ∀ v H', R v H' → GTree P N ops Q t fr H' H') : GTree P N ops Q (.c i 0 t) fr Hb H := by
  unfold GTree
  refine ⟨o, hi, by unfold dstOk; rw [hd], ?_⟩
  rw [hg]
  refine .mkI fun l B w0 ρ a w hs hf next Qx hn => ?_
  exact hc.run l B w0 ρ a w hs hf next Qx fun ρ' v c H' w' hR => hn ρ' v c H' w' ⟨fun e => (by cases e), by rw [hd, if_neg (by simp)]; exact h v H' hR⟩
theorem GTree.r1 {R : Option Value → GHeap → Prop} (hi : ops[i]? = some o) (hd : o.dst = none) (hg : o.guard = none) (hc : CDo P o fr H R) (h : ∀ v H', R v H' → Hb.Le H' ∧ GTree P N ops Q t fr Hb H') : GTree P N ops Q (.c i 1 t) fr Hb H := by
  unfold GTree
  refine ⟨o, hi, by unfold dstOk; rw [hd], ?_⟩
  rw [hg]
  refine .mkI fun l B w0 ρ a w hs hf next Qx hn => ?_
  exact hc.run l B w0 ρ a w hs hf next Qx fun ρ' v c H' w' hR => hn ρ' v c H' w' ⟨fun _ => (h v H' hR).1, by rw [hd, if_pos rfl]; exact (h v H' hR).2⟩
end

section
variable {P : Program} {H : GHeap} {fr : Slots} {o : Oper}
theorem CDo.boxR {e : TypeId} {x : Operand} {v : Value} {n : Nat} (ho : o.op = .box e x) (he : (P.info? e).map (·.size) = some n) (hx : ev fr x = some v) :
    CDo P o fr H (fun r H' => ∃ g, r = some (.pointer (some ⟨g, 0, none⟩)) ∧ H.Le H' ∧ H.next ≤ g ∧ H'.get g = some (.row v.cells.toList e true)) :=
  .box ho he hx ⟨_, rfl, GHeap.le_push _ _, Nat.le_refl _, GHeap.get_push_new _ _⟩
theorem CDo.allocR {e : TypeId} {z : List Value} {n : Nat} (ho : o.op = .alloc e) (hz : zeroT P e = some (z, n)) (hfl : z.all flat1 = true) :
    CDo P o fr H (fun r H' => ∃ g, r = some (.pointer (some ⟨g, 0, none⟩)) ∧ H.Le H' ∧ H.next ≤ g ∧ H'.get g = some (.row z e true)) :=
  .alloc ho hz hfl ⟨_, rfl, GHeap.le_push _ _, Nat.le_refl _, GHeap.get_push_new _ _⟩
theorem CDo.litR {t e : TypeId} {len n : Nat} {parts : Array (Nat × Operand)} {z vs cs : List Value} (ho : o.op = .buildSlice t len parts) (ht : sliceT P t = some (e, n)) (hz : zeroT P e = some (z, n)) (hfl : z.all flat1 = true) (hzn : z.length = n) (h0 : 0 < n)
    (hsm : len * n ≤ 16777216) (hv : evs fr (parts.toList.map (·.2)) = some vs) (hc : fillL (fun i => some (i * n, n)) (madeL z (len * n)) ((parts.toList.map (·.1)).zip vs) = some cs) :
    CDo P o fr H (fun r H' => ∃ g, r = some (.slice (some ⟨g, 0, none⟩) len len) ∧ H.Le H' ∧ H.next ≤ g ∧ H'.get g = some (.row cs e true)) :=
  .buildSlice ho ht hz hfl hzn h0 hsm hv hc ⟨_, rfl, GHeap.le_push _ _, Nat.le_refl _, GHeap.get_push_new _ _⟩
theorem CDo.makeV {t e : TypeId} {x y : Operand} {k k' : IntKind} {j c : Int} {bytes : Nat} {z : Value} (ho : o.op = .makeSlice t x y) (ht : sliceT P t = some (e, 1)) (hz : zeroT P e = some ([z], 1)) (hb : (P.info? e).map (·.bytes) = some bytes)
    (hfl : [z].all flat1 = true) (hx : ev fr x = some (.int k j)) (hy : ev fr y = some (.int k' c)) (h0 : 0 ≤ j) (hlc : j ≤ c) (hsm : bytes * c ≤ 281474976710656) (hsc : c ≤ 9223372036854775807) :
    CDo P o fr H (fun r H' => ∃ g, r = some (.slice (some ⟨g, 0, none⟩) j.toNat j.toNat) ∧ H.Le H' ∧ H.next ≤ g ∧ H'.get g = some (.row (List.replicate j.toNat z) e true)) := by
  have e1 : (j.toNat : Int) = j := Int.toNat_of_nonneg h0
  have e2 : (c.toNat : Int) = c := Int.toNat_of_nonneg (by omega)
  have e3 : bytes * c.toNat ≤ 281474976710656 := by
    have : ((bytes * c.toNat : Nat) : Int) ≤ 281474976710656 := by rw [Int.natCast_mul, e2]; exact hsm
    omega
  refine .makeSlice (l := j.toNat) (c := c.toNat) ho ht hz hb hfl rfl (by omega) (by rw [e1]; exact hx) (by rw [e2]; exact hy) (by omega) e3 (by omega) ⟨_, rfl, GHeap.le_push _ _, Nat.le_refl _, ?_⟩
  rw [GHeap.get_push_new, madeL_one, Nat.mul_one]
theorem CDo.makeI {t e : TypeId} {x y : Operand} {k k' : IntKind} {j c : Int} {bytes : Nat} (ho : o.op = .makeSlice t x y) (ht : sliceT P t = some (e, 1)) (hz : zeroT P e = some ([.int .i64 0], 1)) (hb : (P.info? e).map (·.bytes) = some bytes)
    (hx : ev fr x = some (.int k j)) (hy : ev fr y = some (.int k' c)) (h0 : 0 ≤ j) (hlc : j ≤ c) (hsm : bytes * c ≤ 281474976710656) (hsc : c ≤ 9223372036854775807) :
    CDo P o fr H (fun r H' => ∃ g, r = some (.slice (some ⟨g, 0, none⟩) j.toNat j.toNat) ∧ H.Le H' ∧ H.next ≤ g ∧ H'.get g = some (.row (ints (List.replicate j.toNat 0)) e true)) := by
  have : ints (List.replicate j.toNat 0) = List.replicate j.toNat (Value.int .i64 0) := by simp [ints]
  rw [this]
  exact .makeV ho ht hz hb rfl hx hy h0 hlc hsm hsc
theorem CDo.storeR {t : TypeId} {x y : Operand} {g off : Nat} {v : Value} {cs : List Value} {e : TypeId} (ho : o.op = .store t x y) (ht : (P.info? t).map (·.size) = some 1) (hx : ev fr x = some (.pointer (some ⟨g, off, none⟩))) (hy : ev fr y = some v)
    (h1 : v.oneCell' = true) (hg : H.get g = some (.row cs e true)) (hoff : off < cs.length) :
    CDo P o fr H (fun r H' => r = none ∧ St [g] H H' ∧ H'.get g = some (.row (cs.set off v) e true)) :=
  .store ho ht hx hy h1 hg hoff ⟨rfl, .of_set, GHeap.get_set_eq (GHeap.ltg hg)⟩
theorem CDo.storeI {t : TypeId} {x y : Operand} {g off : Nat} {m : Int} {ys : List Int} {e : TypeId} (ho : o.op = .store t x y) (ht : (P.info? t).map (·.size) = some 1) (hx : ev fr x = some (.pointer (some ⟨g, off, none⟩))) (hy : ev fr y = some (.int .i64 m))
    (hg : H.get g = some (.row (ints ys) e true)) (hoff : off < ys.length) :
    CDo P o fr H (fun r H' => r = none ∧ St [g] H H' ∧ H'.get g = some (.row (ints (ys.set off m)) e true)) := by
  rw [← ints_set]; exact .storeR ho ht hx hy rfl hg (by simpa using hoff)
theorem CDo.storeNR {t : TypeId} {x y : Operand} {g off n : Nat} {vs : Array Value} {cs : List Value} {e : TypeId} (ho : o.op = .store t x y) (ht : (P.info? t).map (·.size) = some n) (hx : ev fr x = some (.pointer (some ⟨g, off, none⟩))) (hy : ev fr y = some (.agg vs))
    (hn : vs.size = n) (h1 : vs.toList.all (·.oneCell') = true) (hg : H.get g = some (.row cs e true)) (hoff : off + n ≤ cs.length) :
    CDo P o fr H (fun r H' => r = none ∧ St [g] H H' ∧ H'.get g = some (.row (setAll cs off vs.toList) e true)) :=
  .storeN ho ht hx hy hn h1 hg hoff ⟨rfl, .of_set, GHeap.get_set_eq (GHeap.ltg hg)⟩
theorem CDo.fillR {t : TypeId} {x y : Operand} {g n : Nat} {vs : Array Value} {cs : List Value} {e : TypeId} (ho : o.op = .store t x y) (ht : (P.info? t).map (·.size) = some n) (hx : ev fr x = some (.pointer (some ⟨g, 0, none⟩))) (hy : ev fr y = some (.agg vs))
    (hn : vs.size = n) (h1 : vs.toList.all (·.oneCell') = true) (hg : H.get g = some (.row cs e true)) (hoff : cs.length = n) :
    CDo P o fr H (fun r H' => r = none ∧ St [g] H H' ∧ H'.get g = some (.row vs.toList e true)) := by
  have : setAll cs 0 vs.toList = vs.toList := setAll_all _ _ (by simp [hoff, hn])
  have h := CDo.storeNR (P := P) (H := H) ho ht hx hy hn h1 hg (by omega)
  rw [this] at h
  exact h
theorem CDo.litA {t e : TypeId} {len n : Nat} {parts : Array (Nat × Operand)} {z vs cs : List Value} (ho : o.op = .buildSlice t len parts) (ht : sliceT P t = some (e, n)) (hz : zeroT P e = some (z, n)) (hfl : z.all flat1 = true) (hzn : z.length = n) (hv : evs fr (parts.toList.map (·.2)) = some vs) (hc : fillL (fun i => some (i * n, n)) (madeL z (len * n)) ((parts.toList.map (·.1)).zip vs) = some cs) (h0 : 0 < n := by omega)
    (hsm : len * n ≤ 16777216 := by omega) : CDo P o fr H (fun r H' => ∃ g, r = some (.slice (some ⟨g, 0, none⟩) len len) ∧ H.Le H' ∧ H.next ≤ g ∧ H'.get g = some (.row cs e true)) := .litR ho ht hz hfl hzn h0 hsm hv hc
theorem CDo.fillA {t : TypeId} {x y : Operand} {g n : Nat} {vs : Array Value} {cs : List Value} {e : TypeId} (ho : o.op = .store t x y) (ht : (P.info? t).map (·.size) = some n) (hx : ev fr x = some (.pointer (some ⟨g, 0, none⟩))) (hy : ev fr y = some (.agg vs))
    (hn : vs.size = n) (h1 : vs.toList.all (·.oneCell') = true) (hg : H.get g = some (.row cs e true) := by assumption) (hoff : cs.length = n := by first | rfl | exact Nat.le_of_ble_eq_true rfl | simp) :
    CDo P o fr H (fun r H' => r = none ∧ St [g] H H' ∧ H'.get g = some (.row vs.toList e true)) := .fillR ho ht hx hy hn h1 hg hoff
theorem CDo.appendR {t tx e : TypeId} {s x : Operand} {g off n m sz bytes : Nat} {z cs news : List Value} (ho : o.op = .call { callee := .builtin .append, args := #[s, x], argTypes := #[t, tx] }) (ht : sliceT P t = some (e, sz)) (hz : zeroT P e = some (z, sz)) (hzn : z.length = sz)
    (hb : (P.info? e).map (·.bytes) = some bytes) (hsv : ev fr s = some (.slice (some ⟨g, off, none⟩) n n)) (hg : H.get g = some (.row cs e true)) (hend : off + n * sz = cs.length) (hsrc : SrcG P fr H sz tx x m news)
    (hN : n + m ≤ 16777216) (hB : (n + m) * bytes ≤ 140737488355328) :
    CDo P o fr H (fun r H' => ∃ g', r = some (.slice (some ⟨g', 0, none⟩) (n + m) (n + m)) ∧ St [g] H H' ∧ H.next ≤ g' ∧ H'.get g' = some (.row (cs.drop off ++ news) e true)) :=
  .append ho ht hz hzn hb hsv hg hend hsrc (by unfold maxLen; omega) hB ⟨_, rfl, .push .of_set, Nat.le_refl _, by have := GHeap.get_push_new (H.set g none) (.row (cs.drop off ++ news) e true); rwa [GHeap.next_set] at this⟩
theorem CDo.appendV {t tx e e' : TypeId} {s x : Operand} {g g1 n sz bytes : Nat} {z cs vs : List Value} (ho : o.op = .call { callee := .builtin .append, args := #[s, x], argTypes := #[t, tx] }) (ht : sliceT P t = some (e, sz)) (hz : zeroT P e = some (z, sz)) (hzn : z.length = sz)
    (hb : (P.info? e).map (·.bytes) = some bytes) (htx : sliceT P tx = some (e', sz)) (hsv : ev fr s = some (.slice (some ⟨g, 0, none⟩) n n)) (hx : ev fr x = some (.slice (some ⟨g1, 0, none⟩) 1 1)) (hg : H.get g = some (.row cs e true)) (hg1 : H.get g1 = some (.row vs e' true)) (hend : n * sz = cs.length)
    (hv : vs.length = sz) (hone : vs.all (·.oneCell') = true) (hN : n + 1 ≤ 16777216) (hB : (n + 1) * bytes ≤ 140737488355328) :
    CDo P o fr H (fun r H' => ∃ g', r = some (.slice (some ⟨g', 0, none⟩) (n + 1) (n + 1)) ∧ St [g] H H' ∧ H.next ≤ g' ∧ H'.get g' = some (.row (cs ++ vs) e true)) :=
  .appendR (cs := cs) (news := vs) ho ht hz hzn hb hsv hg (by omega) (.slice htx hx (by omega) (fun i v hv => by rw [GHeap.cell_of hg1, Nat.zero_add]; exact hv) (fun v hv => List.all_eq_true.1 hone v hv)) hN hB
theorem CDo.appendI {t tx e e' : TypeId} {s x : Operand} {g g1 n bytes : Nat} {z : List Value} {ys : List Int} {m : Int} (ho : o.op = .call { callee := .builtin .append, args := #[s, x], argTypes := #[t, tx] }) (ht : sliceT P t = some (e, 1)) (hz : zeroT P e = some (z, 1)) (hzn : z.length = 1)
    (hb : (P.info? e).map (·.bytes) = some bytes) (htx : sliceT P tx = some (e', 1)) (hsv : ev fr s = some (.slice (some ⟨g, 0, none⟩) n n)) (hx : ev fr x = some (.slice (some ⟨g1, 0, none⟩) 1 1)) (hg : H.get g = some (.row (ints ys) e true)) (hg1 : H.get g1 = some (.row [.int .i64 m] e' true)) (hend : n = ys.length)
    (hN : n + 1 ≤ 16777216) (hB : (n + 1) * bytes ≤ 140737488355328) :
    CDo P o fr H (fun r H' => ∃ g', r = some (.slice (some ⟨g', 0, none⟩) (n + 1) (n + 1)) ∧ St [g] H H' ∧ H.next ≤ g' ∧ H'.get g' = some (.row (ints (ys ++ [m])) e true)) := by
  have e1 : ints (ys ++ [m]) = ints ys ++ [.int .i64 m] := by simp [ints]
  rw [e1]
  exact .appendV ho ht hz hzn hb htx hsv hx hg hg1 (by simp; omega) rfl rfl hN hB
end

def filtN (n : Nat) (p : Nat → Bool) : List Int := ((List.range n).filter p).map fun (i : Nat) => (i : Int)
theorem filtN_T {n : Nat} {p : Nat → Bool} (h : p n = true) : filtN (n + 1) p = filtN n p ++ [(n : Int)] := by simp [filtN, List.range_succ, h]
theorem filtN_F {n : Nat} {p : Nat → Bool} (h : p n = false) : filtN (n + 1) p = filtN n p := by simp [filtN, List.range_succ, h]
theorem filtN_le (n : Nat) (p : Nat → Bool) : (filtN n p).length ≤ n := by
  unfold filtN; rw [List.length_map]; exact Nat.le_trans (List.length_filter_le _ _) (by simp)
theorem mem_filtN {n : Nat} {p : Nat → Bool} {x : Int} : x ∈ filtN n p ↔ ∃ i, i < n ∧ p i = true ∧ x = i := by
  simp only [filtN, List.mem_map, List.mem_filter, List.mem_range]
  exact ⟨fun ⟨i, ⟨h1, h2⟩, h3⟩ => ⟨i, h1, h2, h3.symm⟩, fun ⟨i, h1, h2, h3⟩ => ⟨i, ⟨h1, h2⟩, h3.symm⟩⟩
theorem getD_mem {xs : List Int} {i : Nat} (h : i < xs.length) : xs.getD i 0 ∈ xs := by
  rw [List.getD_eq_getElem?_getD, List.getElem?_eq_getElem h]; exact List.getElem_mem h
theorem mem_getD {xs : List Int} {x : Int} (h : x ∈ xs) : ∃ i, i < xs.length ∧ xs.getD i 0 = x := by
  obtain ⟨i, hi, e⟩ := List.getElem_of_mem h
  exact ⟨i, hi, by rw [List.getD_eq_getElem?_getD, List.getElem?_eq_getElem hi]; exact e⟩
theorem filtN_get {n : Nat} {p : Nat → Bool} {i : Nat} (h : i < (filtN n p).length) : ∃ j, j < n ∧ p j = true ∧ (filtN n p).getD i 0 = j := mem_filtN.1 (getD_mem h)

def firstIn (xs : List Int) (p : Int → Bool) : Int := (xs.find? p).getD (-1)
theorem firstIn_some {xs : List Int} {p : Int → Bool} {i : Nat} (hi : i < xs.length) (h : p (xs.getD i 0) = true) (hb : ∀ j, j < i → p (xs.getD j 0) = false) : firstIn xs p = xs.getD i 0 := by
  unfold firstIn
  have : xs.find? p = some (xs.getD i 0) := by
    rw [List.find?_eq_some_iff_getElem]
    refine ⟨h, i, hi, by simp [List.getD_eq_getElem?_getD, hi], fun j hj => ?_⟩
    have := hb j hj
    rw [List.getD_eq_getElem?_getD, List.getElem?_eq_getElem (by omega)] at this
    simpa using this
  rw [this]; rfl
theorem firstIn_none {xs : List Int} {p : Int → Bool} (h : ∀ j, j < xs.length → p (xs.getD j 0) = false) : firstIn xs p = -1 := by
  unfold firstIn
  have : xs.find? p = none := by
    rw [List.find?_eq_none]
    intro x hx
    obtain ⟨i, hi, rfl⟩ := mem_getD hx
    simp only [h i hi]; exact Bool.false_ne_true
  rw [this]; rfl
theorem firstIn_ge {xs : List Int} {p : Int → Bool} (h0 : ∀ x ∈ xs, 0 ≤ x) : 0 ≤ firstIn xs p ↔ ∃ x ∈ xs, p x = true := by
  unfold firstIn
  cases e : xs.find? p with
  | none =>
    rw [List.find?_eq_none] at e
    simp only [Option.getD_none]
    exact ⟨fun h => by omega, fun ⟨x, hx, hp⟩ => absurd hp (e x hx)⟩
  | some y =>
    have h1 := List.mem_of_find?_eq_some e
    have h2 := List.find?_some e
    exact ⟨fun _ => ⟨y, h1, h2⟩, fun _ => h0 y h1⟩
theorem CDo.apI {P : Program} {o : Oper} {fr : Slots} {H : GHeap} {t tx e e' : TypeId} {s x : Operand} {g g1 n bytes : Nat} {z : List Value} {ys : List Int} {m : Int} (ho : o.op = .call { callee := .builtin .append, args := #[s, x], argTypes := #[t, tx] }) (ht : sliceT P t = some (e, 1)) (hz : zeroT P e = some (z, 1)) (hzn : z.length = 1)
    (hb : (P.info? e).map (·.bytes) = some bytes) (htx : sliceT P tx = some (e', 1)) (hsv : ev fr s = some (.slice (some ⟨g, 0, none⟩) n n)) (hx : ev fr x = some (.slice (some ⟨g1, 0, none⟩) 1 1)) (hg : H.get g = some (.row (ints ys) e true) := by assumption) (hg1 : H.get g1 = some (.row [.int .i64 m] e' true) := by assumption) (hend : n = ys.length := by first | omega | (simp <;> omega))
    (hN : n + 1 ≤ 16777216 := by omega) (hB : (n + 1) * bytes ≤ 140737488355328 := by omega) :
    CDo P o fr H (fun r H' => ∃ g', r = some (.slice (some ⟨g', 0, none⟩) (n + 1) (n + 1)) ∧ St [g] H H' ∧ H.next ≤ g' ∧ H'.get g' = some (.row (ints (ys ++ [m])) e true)) := .appendI ho ht hz hzn hb htx hsv hx hg hg1 hend hN hB
end Go.GL
namespace Go.GL

def Cat.hom (c : Cat) (x y : Int) : List Int := filtN c.src.length fun f => decide (c.src.getD f 0 = x) && decide (c.tgt.getD f 0 = y)
def Cat.invB (c : Cat) (f g : Int) : Bool := decide (c.th f g = c.idn.getD (c.src.getD f.toNat 0).toNat 0) && decide (c.th g f = c.idn.getD (c.tgt.getD f.toNat 0).toNat 0)
def Cat.inv (c : Cat) (f : Int) : Int := firstIn (c.hom (c.tgt.getD f.toNat 0) (c.src.getD f.toNat 0)) (c.invB f)
theorem Cat.hom_get {c : Cat} {x y : Int} {i : Nat} (h : i < (c.hom x y).length) : ∃ f : Nat, f < c.src.length ∧ c.src.getD f 0 = x ∧ c.tgt.getD f 0 = y ∧ (c.hom x y).getD i 0 = f := by
  obtain ⟨j, h1, h2, h3⟩ := filtN_get h
  simp only [sps] at h2
  exact ⟨j, h1, h2.1, h2.2, h3⟩
theorem Cat.mem_hom {c : Cat} {x y g : Int} : g ∈ c.hom x y ↔ ∃ f : Nat, f < c.src.length ∧ c.src.getD f 0 = x ∧ c.tgt.getD f 0 = y ∧ g = f := by
  unfold Cat.hom
  rw [mem_filtN]
  simp only [sps]
  exact ⟨fun ⟨f, h1, h2, h3⟩ => ⟨f, h1, h2.1, h2.2, h3⟩, fun ⟨f, h1, h2, h3, h4⟩ => ⟨f, h1, ⟨h2, h3⟩, h4⟩⟩
theorem Cat.hom_le (c : Cat) (x y : Int) : (c.hom x y).length ≤ c.src.length := filtN_le _ _

def Cat.retr (c : Cat) (f : Int) : List Int := filtN c.src.length fun g => (decide (c.src.getD g 0 = c.T f) && decide (c.tgt.getD g 0 = c.S f)) && decide (c.th f g = c.I (c.S f))
def Cat.sect (c : Cat) (f : Int) : List Int := filtN c.src.length fun g => (decide (c.src.getD g 0 = c.T f) && decide (c.tgt.getD g 0 = c.S f)) && decide (c.th g f = c.I (c.T f))
theorem Cat.mem_sect {c : Cat} {f g : Int} : g ∈ c.sect f ↔ ∃ k : Nat, k < c.src.length ∧ c.src.getD k 0 = c.T f ∧ c.tgt.getD k 0 = c.S f ∧ c.th k f = c.I (c.T f) ∧ g = k := by
  unfold Cat.sect
  rw [mem_filtN]
  simp only [sps]
  exact ⟨fun ⟨f, h1, h2, h3⟩ => ⟨f, h1, h2.1.1, h2.1.2, h2.2, h3⟩, fun ⟨f, h1, h2, h3, h4, h5⟩ => ⟨f, h1, ⟨⟨h2, h3⟩, h4⟩, h5⟩⟩
theorem firstIn_filt {n : Nat} {p q : Nat → Bool} {r s : Int → Bool} (h : ∀ i : Nat, i < n → (p i && r i) = (q i && s i)) : firstIn (filtN n p) r = firstIn (filtN n q) s := by
  unfold firstIn filtN
  congr 1
  rw [List.find?_map, List.find?_map, List.find?_filter, List.find?_filter]
  congr 1
  have : ∀ l : List Nat, (∀ i ∈ l, i < n) → l.find? (fun a => p a && (r ∘ fun (i : Nat) => (i : Int)) a) = l.find? (fun a => q a && (s ∘ fun (i : Nat) => (i : Int)) a) := by
    intro l
    induction l with
    | nil => intro _; rfl
    | cons a l ih =>
      intro hl
      simp only [List.find?_cons, Function.comp]
      rw [h a (hl a (by simp))]
      rw [show List.find? (fun a => p a && r ↑a) l = List.find? (fun a => q a && s ↑a) l from ih fun i hi => hl i (by simp [hi])]
  have h2 := this _ fun i hi => List.mem_range.1 hi
  simpa using h2
theorem Cat.inv_retr (c : Cat) (f : Int) : firstIn (c.retr f) (fun g => (c.sect f).contains g) = c.inv f := by
  unfold Cat.inv Cat.retr Cat.hom
  refine firstIn_filt fun i hi => ?_
  rw [Bool.eq_iff_iff]
  simp only [sps, Cat.invB, List.contains_iff_mem, Cat.mem_sect]
  refine ⟨fun ⟨⟨⟨h1, h2⟩, h3⟩, k, h4, h5, h6, h7, h8⟩ => ⟨⟨h1, h2⟩, h3, ?_⟩, fun ⟨⟨h1, h2⟩, h3, h4⟩ => ⟨⟨⟨h1, h2⟩, h3⟩, i, hi, h1, h2, h4, rfl⟩⟩
  obtain rfl : i = k := by omega
  exact h7
end Go.GL
namespace Go.GL
open Go.RowKit

theorem CDo.makeIN {P : Program} {H : GHeap} {fr : Slots} {o : Oper} {t e : TypeId} {x y : Operand} {k k' : IntKind} {l c bytes : Nat} (ho : o.op = .makeSlice t x y) (ht : sliceT P t = some (e, 1)) (hz : zeroT P e = some ([.int .i64 0], 1)) (hb : (P.info? e).map (·.bytes) = some bytes)
    (hx : ev fr x = some (.int k (l : Int))) (hy : ev fr y = some (.int k' (c : Int))) (hlc : l ≤ c) (hsm : bytes * c ≤ 281474976710656) (hsc : c ≤ 9223372036854775807) :
    CDo P o fr H (fun r H' => ∃ g, r = some (.slice (some ⟨g, 0, none⟩) l l) ∧ H.Le H' ∧ H.next ≤ g ∧ H'.get g = some (.row (ints (List.replicate l 0)) e true)) := by
  have := CDo.makeI (P := P) (H := H) (fr := fr) (o := o) ho ht hz hb hx hy (by omega) (by omega) (by omega) (by omega)
  simpa using this

def thenL (f g : List Int) : List Int := f.map fun y => g.getD y.toNat 0
@[simp] theorem length_thenL (f g : List Int) : (thenL f g).length = f.length := by simp [thenL]
theorem thenL_get {f g : List Int} {i : Nat} (h : i < f.length) : (thenL f g).getD i 0 = g.getD (f.getD i 0).toNat 0 := by
  simp [thenL, List.getD_eq_getElem?_getD, h]
theorem thenL_eq {f g ys : List Int} (hl : ys.length = f.length) (h : ∀ i, i < f.length → ys.getD i 0 = g.getD (f.getD i 0).toNat 0) : ys = thenL f g := by
  refine eq_of_getD (by rw [hl, length_thenL]) fun i hi => ?_
  rw [length_thenL] at hi
  rw [h i hi, thenL_get hi]
theorem mem_thenL {f g : List Int} {b : Int} : b ∈ thenL f g ↔ ∃ y ∈ f, g.getD y.toNat 0 = b := by simp [thenL]
def Cat.Alike (c : Cat) (x y : Int) : Prop := ∃ g ∈ c.hom x y, 0 ≤ c.inv g
noncomputable def Cat.iso (c : Cat) (x y : Int) : Int := firstIn (c.hom x y) fun g => decide (0 ≤ c.inv g)
theorem Cat.iso_ge {c : Cat} {x y : Int} : 0 ≤ c.iso x y ↔ c.Alike x y := by
  unfold Cat.iso Cat.Alike
  rw [firstIn_ge (fun g hg => by obtain ⟨f, _, _, _, rfl⟩ := Cat.mem_hom.1 hg; omega)]
  simp
def Fun.Full (f : Fun) : Prop := ∀ x : Nat, (x : Int) < f.s.obj → ∀ y : Nat, (y : Int) < f.s.obj → ∀ i, i < (f.t.hom (f.ob.getD x 0) (f.ob.getD y 0)).length → (f.t.hom (f.ob.getD x 0) (f.ob.getD y 0)).getD i 0 ∈ thenL (f.s.hom x y) f.ar
def Fun.Faithful (f : Fun) : Prop := ∀ a : Nat, a < f.ar.length → ∀ b : Nat, b < a → ¬ (f.s.src.getD a 0 = f.s.src.getD b 0 ∧ f.s.tgt.getD a 0 = f.s.tgt.getD b 0 ∧ f.ar.getD a 0 = f.ar.getD b 0)
def Fun.Onto (f : Fun) : Prop := ∀ y : Nat, (y : Int) < f.t.obj → ∃ x, x < f.ob.length ∧ f.t.Alike (f.ob.getD x 0) y
def Fun.Equiv (f : Fun) : Prop := f.Full ∧ f.Faithful ∧ f.Onto
end Go.GL
namespace Go.GL

def first2 (n : Nat) (len : Nat → Nat) (p : Nat → Nat → Bool) : Int × Int :=
  match firstN n fun a => (firstN (len a) (p a)).isSome with
  | some a => ((a : Int), (((firstN (len a) (p a)).getD 0 : Nat) : Int))
  | none => (-1, 0)
def SFun.AcOk (f : SFun) (a : Nat) : Prop :=
  ((f.ac.getD a []).length : Int) = f.sz.getD (f.sh.src.getD a 0).toNat 0 ∧ allIn (f.ac.getD a []) (f.sz.getD (f.sh.tgt.getD a 0).toNat 0) = true
structure SFun.Shape (f : SFun) : Prop where
  c : f.sh.Is
  zl : (f.sz.length : Int) = f.sh.obj
  sz : ∀ i, i < f.sz.length → 0 ≤ f.sz.getD i 0 ∧ f.sz.getD i 0 ≤ 16
  al : f.ac.length = f.sh.src.length
  ac : ∀ a, a < f.ac.length → f.AcOk a
structure SFun.Laws (f : SFun) : Prop where
  ids : ∀ x : Nat, x < f.sh.idn.length → ∀ e : Nat, e < (f.ac.getD (f.sh.idn.getD x 0).toNat []).length → (f.ac.getD (f.sh.idn.getD x 0).toNat []).getD e 0 = e
  th : ∀ a : Nat, a < f.sh.src.length → ∀ b : Nat, b < f.sh.src.length → f.sh.tgt.getD a 0 = f.sh.src.getD b 0 → ∀ e : Nat, e < (f.ac.getD a []).length →
    (f.ac.getD ((f.sh.comp.getD a []).getD b 0).toNat []).getD e 0 = (f.ac.getD b []).getD ((f.ac.getD a []).getD e 0).toNat 0
def SFun.Is (f : SFun) : Prop := f.Shape ∧ f.Laws

def SMap.PaOk (m : SMap) (x : Nat) : Prop := ((m.pa.getD x []).length : Int) = m.s.sz.getD x 0 ∧ allIn (m.pa.getD x []) (m.t.sz.getD x 0) = true
structure SMap.Fits (m : SMap) : Prop where
  pl : m.pa.length = m.s.sz.length
  pa : ∀ x, x < m.pa.length → m.PaOk x
structure SMap.Shape (m : SMap) : Prop where
  s : m.s.Is
  t : m.t.Is
  sh : m.s.sh = m.t.sh
  fits : m.Fits
def SMap.bad (m : SMap) (a e : Nat) : Bool := decide (¬ (m.pa.getD (m.s.sh.tgt.getD a 0).toNat []).getD ((m.s.ac.getD a []).getD e 0).toNat 0 = (m.t.ac.getD a []).getD ((m.pa.getD (m.s.sh.src.getD a 0).toNat []).getD e 0).toNat 0)
def SMap.first (m : SMap) : Int × Int := first2 m.s.ac.length (fun a => (m.s.ac.getD a []).length) m.bad
def SMap.Is (m : SMap) : Prop := m.Shape ∧ ∀ a, a < m.s.ac.length → ∀ e, e < (m.s.ac.getD a []).length → m.bad a e = false
end Go.GL
namespace Go.Proofs.Ytfanjkbaemhbmaa
open Go Go.GL Go.RowKit Go.Proofs
end Go.Proofs.Ytfanjkbaemhbmaa
namespace Go.Proofs.Ytfanjkbaemhbmaa
open Go Go.GL Go.RowKit Go.Proofs
end Go.Proofs.Ytfanjkbaemhbmaa
namespace Go.Proofs.Ytfanjkbaemhbmaa
open Go Go.GL Go.RowKit Go.Proofs
theorem sz_40_I : (Try.prog.info? 40).map (·.size) = some 12 := by kernel_rfl
theorem ze_27_I : zeroT Try.prog 27 = some ([.int .i64 0, .slice none 0 0, .slice none 0 0, .slice none 0 0, .slice none 0 0], 5) := by kernel_rfl
theorem l06Is_c {f : Fun} {p : FunP} {H : GHeap} (hin : f.In H p := by assumption) (hsm : f.Small := by assumption) : GCalls Try.prog 59 [.agg (f.cells p).toArray] H (Ret (.bool (B f.Is)) H) := by
  refine GCalls.ret rfl ?_
  obtain ⟨m1, m2, _, _⟩ := hsm
  have f5 := m1
  have f8 := m2
  obtain ⟨-, _, _, -, -, -⟩ := f5
  obtain ⟨_, -, -, -, -, -⟩ := f8
  refine GCalls.body (N := 181) (rs := [.tmp 2]) Try.func59 rfl rfl rfl rfl (fun Qx h hend => ?_)
  refine .fg [0] rfl ?_
  refine .seq (fun K1 f3 => .region (.d rfl rfl rfl (.box rfl sz_40_I rfl CIs.mk) ?_))
  show GRun _ _ _ _ _ _ (H.push (.row (f.cells p) 40 true))
  have l := GHeap.le_push H (.row (f.cells p) 40 true)
  have hb : Fun.At (H.push (.row (f.cells p) 40 true)) H.next 0 f p := ⟨Mem.new _ _ _ _, hin.mono l⟩
  generalize H.push (.row (f.cells p) 40 true) = H1 at *
  generalize H.next = g at *
  obtain ⟨fs, ft, -, -, -, -⟩ := hb.get
  have _ : MemN _ _ _ _ _ := ⟨rfl, fs.1⟩
  have _ : MemN _ _ _ _ _ := ⟨rfl, ft.1⟩
  refine .mv rfl (.nil (f3 _ _ (.seq (fun K2 f7 => ?_))))
  refine .regionD mo_B (.qs [0, 1, 2, 3] (.or (.c 4 1 (.c 5 1 (.c 6 1 (.c 7 0 .done)))) (.c 5 1 (.c 4 1 (.c 6 1 (.c 7 0 .done)))))) (by kernel_rfl) ?_
  refine .q rfl (.fieldAddr fo_40_0_G rfl) ?_
  refine .q rfl (.loadM ag_27_D rfl (by assumption)) ?_
  refine .q rfl (.fieldAddr fo_40_1_G rfl) ?_
  refine .q rfl (.loadM ag_27_D rfl (by assumption)) ?_
  refine .two [(1, some _), (2, some _)] rfl rfl rfl rfl rfl rfl rfl rfl rfl rfl rfl rfl rfl rfl rfl rfl rfl rfl ze_27_I rfl sz_27_D rfl rfl rfl rfl rfl (by rfl) (by rfl) rfl rfl rfl rfl rfl ⟨rfl, rfl, trivial⟩ rfl rfl (.refl _) ?_
  intro g3 g4 H2 fr2 a7 hga hgb f6 f2 b7
  replace l := l.trans a7
  obtain ⟨fs, ft, _, _, _, _⟩ := (hb.mono a7).get
  have k3 : Cat.At H2 g3 0 f.s p.s := ⟨Mem.of_get f6, fs.2⟩
  have k4 : Cat.At H2 g4 0 f.t p.t := ⟨Mem.of_get f2, ft.2⟩
  have _ : MemN _ _ _ _ _ := ⟨rfl, k3.1⟩
  have _ : MemN _ _ _ _ _ := ⟨rfl, k4.1⟩
  have _ := k3.2
  have _ := k4.2
  obtain ⟨_, _, _, _, _, i1, _, _, i4⟩ := k3.get
  obtain ⟨_, _, _, _, _, _, _, _, y4⟩ := k4.get
  refine f7 _ _ ?_
  refine .forget b7 ?_
  refine .seq (fun K3 f9 => .seq (fun K4 a9 => .region ?_))
  refine .q rfl (.loadM ag_27_D rfl (by assumption)) ?_
  refine .callQ rfl rfl rfl rfl @Try.call37 rfl (l02Is_c) ?_
  refine .q rfl (.not rfl) (.mv rfl ?_)
  refine .split (fun v => ?_) (fun v => ?_)
  ·
   try simp only [sps] at v
   refine .z rfl (.z rfl (.z rfl (.q rfl (.pickT rfl rfl) (.mv rfl (.z rfl (.z rfl (.z rfl (.z rfl (.z rfl (.z rfl (.q rfl (.pickT rfl rfl) (.mv rfl (.z rfl (.z rfl (.z rfl ?_)))))))))))))))
   refine .z rfl (.z rfl (.z rfl (.z rfl (.q rfl (.pickT rfl rfl) (.nil (a9 _ _ ?_))))))
   refine .condT rfl ?_
   refine .seq (fun K5 f4 => .region (.mv rfl (.nil (f4 _ _ (.ret (h _ _ (⟨_, rfl, ?_⟩)))))))
   exact ⟨congrArg _ (B_false fun hI => v hI.1), l⟩
  try simp only [sps] at v
  refine .qg rfl (.loadM ag_27_D rfl (by assumption)) ?_
  refine .callQg rfl rfl rfl rfl rfl rfl @Try.call37 rfl (l02Is_c) ?_
  refine .qg rfl (.not rfl) (.q rfl (.pickF rfl rfl) (.mv rfl ?_))
  refine .split (fun u => ?_) (fun u => ?_)
  ·
   try simp only [sps] at u
   refine .z rfl (.z rfl (.z rfl (.z rfl (.z rfl (.z rfl (.q rfl (.pickT rfl rfl) (.mv rfl (.z rfl (.z rfl (.z rfl (.z rfl (.z rfl (.z rfl (.z rfl (.q rfl (.pickT rfl rfl) ?_)))))))))))))))
   refine .nil (a9 _ _ ?_)
   refine .condT rfl ?_
   refine .seq (fun K6 g2 => .region (.mv rfl (.nil (g2 _ _ (.ret (h _ _ (⟨_, rfl, ?_⟩)))))))
   exact ⟨congrArg _ (B_false fun hI => u hI.2.1), l⟩
  simp only [B_iff, Bool.not_eq_false', Bool.not_eq_true'] at u
  have hS := v.1
  have hT := u.1
  have _ := hS.tl
  have _ := hS.n40
  have _ := hS.il
  have _ := hS.obj
  have _ := hS.cl
  have _ := hT.tl
  have _ := hT.n40
  have _ := hT.il
  have _ := hT.cl
  refine .qg rfl (.fieldAddr fo_40_2_G rfl) (.qg rfl (.lA on_24_B rfl) (.qg rfl (.len sl_24_A rfl) (.qg rfl (.fieldAddr fo_27_0_B rfl) (.qg rfl (.lA on_2_A rfl) (.qg rfl (.cmp rfl rfl rfl) (.q rfl (.pickF rfl rfl) (.mv rfl ?_)))))))
  refine .split (fun c9 => ?_) (fun c9 => ?_)
  ·
   try simp only [sps] at c9
   refine .z rfl (.z rfl (.z rfl (.z rfl (.z rfl (.z rfl (.z rfl (.q rfl (.pickT rfl rfl) (.nil (a9 _ _ ?_)))))))))
   refine .condT rfl ?_
   refine .seq (fun K7 g0 => .region (.mv rfl (.nil (g0 _ _ (.ret (h _ _ (⟨_, rfl, ?_⟩)))))))
   exact ⟨congrArg _ (B_false fun hI => by have := hI.2.2.ol; omega), l⟩
  try simp only [sps] at c9
  refine .qg rfl (.fieldAddr fo_40_3_G rfl) (.qg rfl (.lA on_24_B rfl) (.qg rfl (.len sl_24_A rfl) (.qg rfl (.fieldAddr fo_27_1_B rfl) (.qg rfl (.lA on_24_B rfl) (.qg rfl (.len sl_24_A rfl) (.qg rfl (.cmp rfl rfl rfl) (.q rfl (.pickF rfl rfl) (.nil (a9 _ _ ?_)))))))))
  refine .cond rfl ?_ ?_ <;> intro f0
  ·
   try simp only [sps] at f0
   refine .seq (fun K8 g1 => .region (.mv rfl (.nil (g1 _ _ (.ret (h _ _ (⟨_, rfl, ?_⟩)))))))
   exact ⟨congrArg _ (B_false fun hI => by have := hI.2.2.al; omega), l⟩
  try simp only [sps] at f0
  refine .skip (f9 _ _ (.seq (fun K9 g5 => .seq (fun K10 w => .region (.q rfl (.fieldAddr fo_27_0_B rfl) (.q rfl (.lA on_2_A rfl) (.q rfl (.fieldAddr fo_40_2_G rfl) (.q rfl (.lA on_24_B rfl) ?_))))))))
  refine .callQ rfl rfl rfl rfl @Try.call89 rfl (l01Map_c) ?_
  refine .q rfl (.not rfl) (.mv rfl ?_)
  refine .split (fun r => ?_) (fun r => ?_)
  ·
   try simp only [sps] at r
   refine .z rfl (.z rfl (.z rfl (.z rfl (.z rfl (.z rfl (.z rfl (.q rfl (.pickT rfl rfl) (.nil (w _ _ ?_)))))))))
   refine .condT rfl ?_
   refine .seq (fun K11 e5 => .region (.mv rfl (.nil (e5 _ _ (.ret (h _ _ (⟨_, rfl, ?_⟩)))))))
   exact ⟨congrArg _ (B_false fun hI => by rw [allIn_iff.2 hI.2.2.ob] at r; cases r), l⟩
  try simp only [sps] at r
  refine .qg rfl (.fieldAddr fo_27_1_B rfl) (.qg rfl (.lA on_24_B rfl) (.qg rfl (.len sl_24_A rfl) (.qg rfl (.fieldAddr fo_40_3_G rfl) (.qg rfl (.lA on_24_B rfl) ?_))))
  refine .callQg rfl rfl rfl rfl rfl rfl @Try.call89 rfl (l01Map_c) ?_
  refine .qg rfl (.not rfl) (.q rfl (.pickF rfl rfl) (.nil (w _ _ ?_)))
  refine .cond rfl ?_ ?_ <;> intro o
  ·
   try simp only [sps] at o
   refine .seq (fun K12 b5 => .region (.mv rfl (.nil (b5 _ _ (.ret (h _ _ (⟨_, rfl, ?_⟩)))))))
   exact ⟨congrArg _ (B_false fun hI => by rw [allIn_iff.2 hI.2.2.ar] at o; cases o), l⟩
  try simp only [sps] at o
  refine .skip (g5 _ _ (.seq (fun K13 e4 => .seq (fun K14 b4 => .region (.mv rfl (.nil (b4 _ _ (.block ?_))))))))
  refine .loopF (σ := Nat) [1, 3, 4] (fun k => [(5, some (.int .i64 (k : Int)))]) (fun k H' => H2 = H' ∧ k ≤ f.s.src.length ∧ ∀ a, a < k → f.t.src.getD (f.ar.getD a 0).toNat 0 = f.ob.getD (f.s.src.getD a 0).toNat 0 ∧ f.t.tgt.getD (f.ar.getD a 0).toNat 0 = f.ob.getD (f.s.tgt.getD a 0).toNat 0) (fun k => f.s.src.length - k) (0) rfl (.p rfl) ?_ ?_
  ·
   refine ⟨rfl, ?_⟩
   exact ⟨by omega, fun x hx => by omega⟩
  rintro k _ ⟨rfl, hI⟩ _ e2
  dsimp only [cA, nA]
  obtain ⟨_, e8⟩ := hI
  refine .seq (fun K15 d9 => .seq (fun K16 c8 => .region (.mv rfl (.q rfl (.fieldAddr fo_27_1_B rfl) (.q rfl (.lA on_24_B rfl) (.q rfl (.len sl_24_A rfl) (.q rfl (.cmp rfl rfl rfl) (.nil (c8 _ _ ?_)))))))))
  refine .cond rfl ?_ ?_ <;> intro f1
  ·
   try simp only [sps] at f1
   refine .skip (d9 _ _ (.seq (fun K17 e3 => .block (.seq (fun K18 a4 => ?_)))))
   refine .regionD mo_B (.qs [0, 1, 2, 3, 4, 5, 6, 7, 8, 9, 10, 11, 12, 13, 14, 15, 16, 17, 18, 19, 20, 21, 22, 23, 24, 25, 26, 27, 28, 29, 30, 31, 32, 33, 34, 35, 36, 37, 38, 39] (.done)) (by kernel_rfl) ?_
   have q1 := o k (by omega)
   have q2 := hS.src k (by omega)
   have _ := hS.tgt k (by omega)
   refine .q rfl (.fieldAddr fo_27_1_B rfl) (.q rfl (.lA on_24_B rfl) (.q rfl (.fieldAddr fo_40_3_G rfl) (.q rfl (.lA on_24_B rfl) (.mv rfl rfl (.q rfl (.iN sl_24_A rfl rfl) (.q rfl (.lI on_2_A rfl) (.q rfl (.i1 sl_24_A rfl rfl) (.q rfl (.lI on_2_A rfl) (.q rfl (.fieldAddr fo_40_2_G rfl) (.q rfl (.lA on_24_B rfl) (.q rfl (.fieldAddr fo_27_1_B rfl) (.q rfl (.lA on_24_B rfl) (.mv rfl rfl (.q rfl (.iN sl_24_A rfl rfl) (.q rfl (.lI on_2_A rfl) ?_)))))))))))))))
   refine .q rfl (.i1 sl_24_A rfl rfl) (.q rfl (.lI on_2_A rfl) (.q rfl (.cmp rfl rfl rfl) (.mv rfl rfl ?_)))
   refine .split (fun a2 => ?_) (fun a2 => ?_)
   ·
    try simp only [sps] at a2
    refine .z rfl (.z rfl (.z rfl (.z rfl (.z rfl (.z rfl (.z rfl (.z rfl (.z rfl (.z rfl (.z rfl (.z rfl (.z rfl (.z rfl (.z rfl (.z rfl ?_)))))))))))))))
    refine .z rfl (.z rfl (.z rfl (.q rfl (.pickT rfl rfl) (.done (a4 _ _ ?_)))))
    refine .condT rfl ?_
    refine .seq (fun K19 d0 => .region (.mv rfl (.nil (d0 _ _ (.ret (h _ _ (⟨_, rfl, ?_⟩)))))))
    exact ⟨congrArg _ (B_false fun hI => a2 (hI.2.2.ends k (by omega)).1), l⟩
   try simp only [sps] at a2
   refine .qg rfl (.fieldAddr fo_27_2_B rfl) (.qg rfl (.lA on_24_B rfl) (.qg rfl (.fieldAddr fo_40_3_G rfl) (.qg rfl (.lA on_24_B rfl) (.qg rfl (.move rfl) (.qg rfl (.iN sl_24_A rfl rfl) (.qg rfl (.lI on_2_A rfl) (.qg rfl (.i1 sl_24_A rfl rfl) (.qg rfl (.lI on_2_A rfl) (.qg rfl (.fieldAddr fo_40_2_G rfl) (.qg rfl (.lA on_24_B rfl) (.qg rfl (.fieldAddr fo_27_2_B rfl) (.qg rfl (.lA on_24_B rfl) (.qg rfl (.move rfl) (.qg rfl (.iN sl_24_A rfl rfl) (.qg rfl (.lI on_2_A rfl) ?_)))))))))))))))
   refine .qg rfl (.i1 sl_24_A rfl rfl) (.qg rfl (.lI on_2_A rfl) (.qg rfl (.cmp rfl rfl rfl) (.q rfl (.pickF rfl rfl) (.done (a4 _ _ ?_)))))
   refine .cond rfl ?_ ?_ <;> intro a8
   ·
    try simp only [sps] at a8
    refine .seq (fun K20 d3 => .region (.mv rfl (.nil (d3 _ _ (.ret (h _ _ (⟨_, rfl, ?_⟩)))))))
    exact ⟨congrArg _ (B_false fun hI => a8 (hI.2.2.ends k (by omega)).2), l⟩
   try simp only [sps] at a8
   refine .skip (e3 _ _ (.region (.mv rfl (.q rfl (.aD rfl rfl rfl) (.mv rfl (.nil ?_))))))
   refine e2 (k + 1) _ _ ?_ ?_ (.p rfl)
   ·
    refine ⟨rfl, ?_⟩
    refine ⟨by omega, fun x hx => ?_⟩
    by_cases e : x < k
    · exact e8 x e
    · obtain rfl : x = k := by omega
      exact ⟨a2, a8⟩
   omega
  try simp only [sps] at f1
  refine .exit (e4 _ _ (.seq (fun K21 e1 => .seq (fun K22 c5 => .region (.mv rfl (.nil (c5 _ _ (.block ?_))))))))
  refine .loopF (σ := Nat) [1, 3, 4] (fun k => [(6, some (.int .i64 (k : Int)))]) (fun k H' => H2 = H' ∧ (k : Int) ≤ f.s.obj ∧ ∀ x, x < k → f.ar.getD (f.s.idn.getD x 0).toNat 0 = f.t.idn.getD (f.ob.getD x 0).toNat 0) (fun k => f.s.idn.length - k) (0) rfl (.p rfl) ?_ ?_
  ·
   refine ⟨rfl, ?_⟩
   exact ⟨by omega, fun x hx => by omega⟩
  rintro k _ ⟨rfl, hI⟩ _ e0
  dsimp only [cA, nA]
  obtain ⟨_, e9⟩ := hI
  refine .seq (fun K23 b1 => .seq (fun K24 b2 => .region (.mv rfl (.q rfl (.fieldAddr fo_27_0_B rfl) (.q rfl (.lA on_2_A rfl) (.q rfl (.cmp rfl rfl rfl) (.nil (b2 _ _ ?_))))))))
  refine .cond rfl ?_ ?_ <;> intro y
  ·
   try simp only [sps] at y
   refine .skip (b1 _ _ (.seq (fun K25 d6 => .block (.seq (fun K26 d1 => ?_)))))
   refine .regionD mo_B (.qs [0, 1, 2, 3, 4, 5, 6, 7, 8, 9, 10, 11, 12, 13, 14, 15, 16, 17, 18] (.done)) (by kernel_rfl) ?_
   have q1 := hS.idn k (by omega)
   have q2 := r k (by omega)
   refine .q rfl (.fieldAddr fo_40_3_G rfl) (.q rfl (.lA on_24_B rfl) (.q rfl (.fieldAddr fo_27_3_B rfl) (.q rfl (.lA on_24_B rfl) (.mv rfl rfl (.q rfl (.iN sl_24_A rfl rfl) (.q rfl (.lI on_2_A rfl) (.q rfl (.i1 sl_24_A rfl rfl) (.q rfl (.lI on_2_A rfl) (.q rfl (.fieldAddr fo_27_3_B rfl) (.q rfl (.lA on_24_B rfl) (.q rfl (.fieldAddr fo_40_2_G rfl) (.q rfl (.lA on_24_B rfl) (.mv rfl rfl (.q rfl (.iN sl_24_A rfl rfl) (.q rfl (.lI on_2_A rfl) ?_)))))))))))))))
   refine .q rfl (.i1 sl_24_A rfl rfl) (.q rfl (.lI on_2_A rfl) (.q rfl (.cmp rfl rfl rfl) (.done (d1 _ _ ?_))))
   refine .cond rfl ?_ ?_ <;> intro n
   ·
    try simp only [sps] at n
    refine .seq (fun K27 d5 => .region (.mv rfl (.nil (d5 _ _ (.ret (h _ _ (⟨_, rfl, ?_⟩)))))))
    exact ⟨congrArg _ (B_false fun hI => n (hI.2.2.ids k (by omega))), l⟩
   try simp only [sps] at n
   refine .skip (d6 _ _ (.region (.mv rfl (.q rfl (.aD rfl rfl rfl) (.mv rfl (.nil ?_))))))
   refine e0 (k + 1) _ _ ?_ ?_ (.p rfl)
   ·
    refine ⟨rfl, ?_⟩
    refine ⟨by omega, fun x hx => ?_⟩
    by_cases e : x < k
    · exact e9 x e
    · obtain rfl : x = k := by omega
      exact n
   omega
  try simp only [sps] at y
  refine .exit (e1 _ _ (.seq (fun K28 d8 => .seq (fun K29 d4 => .region (.mv rfl (.nil (d4 _ _ (.block ?_))))))))
  refine .loopF (σ := Nat) [1, 3, 4] (fun k => [(7, some (.int .i64 (k : Int)))]) (fun k H' => H2 = H' ∧ k ≤ f.s.src.length ∧ ∀ a, a < k → ∀ b, b < f.s.src.length → f.s.tgt.getD a 0 = f.s.src.getD b 0 → f.A (f.s.th a b) = f.t.th (f.ar.getD a 0) (f.ar.getD b 0)) (fun k => f.s.src.length - k) (0) rfl (.p rfl) ?_ ?_
  ·
   refine ⟨rfl, ?_⟩
   exact ⟨by omega, fun x hx => by omega⟩
  rintro k _ ⟨rfl, hI⟩ _ b9
  dsimp only [cA, nA]
  obtain ⟨_, e7⟩ := hI
  refine .seq (fun K30 c7 => .seq (fun K31 c6 => .region (.mv rfl (.q rfl (.fieldAddr fo_27_1_B rfl) (.q rfl (.lA on_24_B rfl) (.q rfl (.len sl_24_A rfl) (.q rfl (.cmp rfl rfl rfl) (.nil (c6 _ _ ?_)))))))))
  refine .cond rfl ?_ ?_ <;> intro a1
  ·
   try simp only [sps] at a1
   refine .skip (c7 _ _ (.seq (fun K32 d7 => .block (.seq (fun K33 d2 => .region (.mv rfl (.nil (d2 _ _ (.block ?_)))))))))
   refine .loopF (σ := Nat) [1, 3, 4, 7] (fun j => [(8, some (.int .i64 (j : Int)))]) (fun j H' => H2 = H' ∧ j ≤ f.s.src.length ∧ ∀ b, b < j → f.s.tgt.getD k 0 = f.s.src.getD b 0 → f.A (f.s.th k b) = f.t.th (f.ar.getD k 0) (f.ar.getD b 0)) (fun j => f.s.src.length - j) (0) rfl (.p rfl) ?_ ?_
   ·
    refine ⟨rfl, ?_⟩
    exact ⟨by omega, fun x hx => by omega⟩
   rintro j _ ⟨rfl, hI⟩ _ a3
   dsimp only [cA, nA]
   obtain ⟨_, b6⟩ := hI
   refine .seq (fun K34 b3 => .seq (fun K35 b8 => .region (.mv rfl (.q rfl (.fieldAddr fo_27_1_B rfl) (.q rfl (.lA on_24_B rfl) (.q rfl (.len sl_24_A rfl) (.q rfl (.cmp rfl rfl rfl) (.nil (b8 _ _ ?_)))))))))
   refine .cond rfl ?_ ?_ <;> intro a5
   ·
    try simp only [sps] at a5
    refine .skip (b3 _ _ (.seq (fun K36 a0 => .block (.seq (fun K37 a6 => ?_)))))
    refine .regionD mo_B (.qs [0, 1, 2, 3, 4, 5, 6, 7, 8, 9, 10, 11, 12, 13, 14, 15, 16, 17, 18, 19, 20, 21, 22, 23, 24, 25, 26, 27, 28, 29, 30, 31, 32, 33, 34, 35, 36, 37, 38, 39, 40, 41] (.done)) (by kernel_rfl) ?_
    have _ := i4.2 k (by omega)
    have _ := hS.row k (by omega)
    have q5 := hS.th_lt (f := k) (g := j) (by omega) (by omega)
    have q6 := hS.th_ge (f := k) (g := j) (by omega) (by omega)
    rw [Cat.th_nat] at q5 q6
    have _ := o k (by omega)
    have _ := o j (by omega)
    have _ := hT.row (f.ar.getD k 0).toNat (by omega)
    have _ := y4.2 (f.ar.getD k 0).toNat (by omega)
    refine .q rfl (.fieldAddr fo_27_2_B rfl) (.q rfl (.lA on_24_B rfl) (.mv rfl rfl (.q rfl (.iN sl_24_A rfl rfl) (.q rfl (.lI on_2_A rfl) (.q rfl (.fieldAddr fo_27_1_B rfl) (.q rfl (.lA on_24_B rfl) (.mv rfl rfl (.q rfl (.iN sl_24_A rfl rfl) (.q rfl (.lI on_2_A rfl) (.q rfl (.cmp rfl rfl rfl) (.mv rfl rfl ?_)))))))))))
    refine .split (fun i => ?_) (fun i => ?_)
    ·
     simp only [beq_iff_eq] at i
     have _ := q6.2 i
     refine .qg rfl (.fieldAddr fo_40_3_G rfl) (.qg rfl (.lA on_24_B rfl) (.qg rfl (.fieldAddr fo_27_4_B rfl) (.qg rfl (.lA on_25_B rfl) (.qg rfl (.move rfl) ?_))))
     refine .qg rfl (.idxN sl_25_B (Intss.sl (by assumption)) rfl rfl (by omega)) ?_
     refine .qg rfl (.loadR on_24_B (by assumption) rfl (by omega)) ?_
     refine .qg rfl (.move rfl) (.qg rfl (.iN sl_24_A rfl rfl) (.qg rfl (.lI on_2_A rfl) (.qg rfl (.i1 sl_24_A rfl rfl) (.qg rfl (.lI on_2_A rfl) (.qg rfl (.fieldAddr fo_27_4_B rfl) (.qg rfl (.lA on_25_B rfl) (.qg rfl (.fieldAddr fo_40_3_G rfl) (.qg rfl (.lA on_24_B rfl) (.qg rfl (.move rfl) (.qg rfl (.iN sl_24_A rfl rfl) (.qg rfl (.lI on_2_A rfl) ?_)))))))))))
     refine .qg rfl (.idx1 sl_25_B (Intss.sl (by assumption)) rfl rfl (by omega) (by omega)) ?_
     refine .qg rfl (.loadR on_24_B (by assumption) rfl (by omega)) ?_
     refine .qg rfl (.fieldAddr fo_40_3_G rfl) (.qg rfl (.lA on_24_B rfl) (.qg rfl (.move rfl) (.qg rfl (.iN sl_24_A rfl rfl) (.qg rfl (.lI on_2_A rfl) (.qg rfl (.i1 sl_24_A rfl rfl) (.qg rfl (.lI on_2_A rfl) (.qg rfl (.cmp rfl rfl rfl) (.q rfl (.pickT rfl rfl) (.done (a6 _ _ ?_))))))))))
     refine .cond rfl ?_ ?_ <;> intro m
     ·
      try simp only [sps] at m
      refine .seq (fun K38 b0 => .region (.mv rfl (.nil (b0 _ _ (.ret (h _ _ (⟨_, rfl, ?_⟩)))))))
      exact ⟨congrArg _ (B_false fun hI => m (hI.2.2.th k (by omega) j (by omega) i)), l⟩
     try simp only [sps] at m
     refine .skip (a0 _ _ (.region (.mv rfl (.q rfl (.aD rfl rfl rfl) (.mv rfl (.nil ?_))))))
     refine a3 (j + 1) _ _ ?_ ?_ (.p rfl)
     ·
      refine ⟨rfl, ?_⟩
      refine ⟨by omega, fun x hx => ?_⟩
      by_cases e : x < j
      · exact b6 x e
      · obtain rfl : x = j := by omega
        first
          | exact fun _ => m
          | exact fun e => absurd e i
     omega
    try simp only [sps] at i
    refine .z rfl (.z rfl (.z rfl (.z rfl (.z rfl (.z rfl (.z rfl (.z rfl (.z rfl (.z rfl (.z rfl (.z rfl (.z rfl (.z rfl (.z rfl (.z rfl ?_)))))))))))))))
    refine .z rfl (.z rfl (.z rfl (.z rfl (.z rfl (.z rfl (.z rfl (.z rfl (.z rfl (.z rfl (.z rfl (.z rfl (.z rfl (.q rfl (.pickF rfl rfl) (.done (a6 _ _ ?_)))))))))))))))
    refine .condF rfl ?_
    refine .skip (a0 _ _ (.region (.mv rfl (.q rfl (.aD rfl rfl rfl) (.mv rfl (.nil ?_))))))
    refine a3 (j + 1) _ _ ?_ ?_ (.p rfl)
    ·
     refine ⟨rfl, ?_⟩
     refine ⟨by omega, fun x hx => ?_⟩
     by_cases e : x < j
     · exact b6 x e
     · obtain rfl : x = j := by omega
       first
         | exact fun _ => m
         | exact fun e => absurd e i
    omega
   try simp only [sps] at a5
   refine .exit (d7 _ _ (.region (.mv rfl (.q rfl (.aD rfl rfl rfl) (.mv rfl (.nil ?_))))))
   refine b9 (k + 1) _ _ ?_ ?_ (.p rfl)
   ·
    refine ⟨rfl, ?_⟩
    refine ⟨by omega, fun x hx => ?_⟩
    by_cases e : x < k
    · exact e7 x e
    · obtain rfl : x = k := by omega
      exact fun b hb => b6 b (by omega)
   omega
  try simp only [sps] at a1
  refine .exit (d8 _ _ (.seq (fun K39 e6 => .region (.mv rfl (.nil (e6 _ _ (.ret (h _ _ (⟨_, rfl, ?_⟩)))))))))
  exact ⟨congrArg _ (B_true ⟨v, u, by omega, by omega, r, o, fun a ha => e8 a (by omega), fun x hx => e9 x (by omega), fun a ha => e7 a (by omega)⟩), l⟩
end Go.Proofs.Ytfanjkbaemhbmaa
namespace Go.Proofs.Ytfanjkbaemhbmaa
open Go Go.GL Go.RowKit Go.Proofs
theorem ze_2_L : zeroT Try.prog 2 = some ([.int .i64 0], 1) := by kernel_rfl
theorem by_2_L : (Try.prog.info? 2).map (·.bytes) = some 8 := by kernel_rfl
theorem hom_c {g o : Nat} {c : Cat} {p : CatP} {x y : Int} {H : GHeap} (h : Cat.At H g o c p := by assumption) (hS : c.Shape := by assumption) :
    GCalls Try.prog 92 [.pointer (some ⟨g, o, none⟩), .int .i64 x, .int .i64 y] H (NewInts 2 H (c.hom x y)) := by
  refine GCalls.body (N := 44) (rs := [.tmp 6]) Try.func92 rfl rfl rfl rfl (fun Qx u hend => ?_)
  refine .fg [0, 1, 2] rfl ?_
  have d := GHeap.Le.refl H
  have a := h
  have _ := hS.tl
  have _ := hS.n40
  refine .seq (fun K1 a5 => .region (.mv rfl (.nil (a5 _ _ (.seq (fun K2 a6 => .region ?_))))))
  refine .R rfl (.litA rfl sl_24_A ze_2_L rfl rfl rfl rfl) ?_
  rintro _ H9 ⟨g9, rfl, b1, _, t⟩
  replace d := d.trans b1
  have _ := GHeap.ltg t
  replace h := a.mono d
  obtain ⟨-, c1, -, -, -, -, -, -, -⟩ := h.get
  replace t : GHeap.get H9 g9 = some (.row (ints []) 2 true) := t
  refine .mv rfl (.nil (a6 _ _ (.seq (fun K3 a7 => .seq (fun K4 b2 => .region (.mv rfl (.q rfl (.nilCheck rfl) (.q rfl (.fieldAddr fo_27_1_B rfl) (.q rfl (.lA on_24_B rfl) (.q rfl (.len sl_24_A rfl) (.mv rfl (.nil (b2 _ _ (.block ?_))))))))))))))
  refine .loopF (σ := Nat × Nat × Nat) [0, 1, 2, 14] (fun (k, i, m) => [(15, some (.int .i64 (k : Int))), (7, some (.slice (some ⟨i, 0, none⟩) m m))]) (fun (k, i, m) H' => St [g9] H9 H' ∧ H'.get i = some (.row (ints (filtN k fun f => decide (c.src.getD f 0 = x) && decide (c.tgt.getD f 0 = y))) 2 true) ∧ (i = g9 ∨ H9.next ≤ i) ∧ m = (filtN k fun f => decide (c.src.getD f 0 = x) && decide (c.tgt.getD f 0 = y)).length ∧ k ≤ c.src.length) (fun (k, i, m) => c.src.length - k) ((0, _, _)) rfl (.p rfl) ?_ ?_
  ·
   refine ⟨.refl _ _, by assumption, .inl rfl, by rfl, ?_⟩
   omega
  rintro ⟨k, i, m⟩ _ ⟨b, e, _, r, _⟩ _ l
  dsimp only [cA, nA]
  have s : H.next ≤ i := by omega
  have _ := b.nx
  replace d := d.st b (fun k hk => ⟨by omega, trivial⟩)
  replace h := a.mono d
  clear c1
  obtain ⟨-, c1, c2, -, -, i1, i2, -, -⟩ := h.get
  have _ := filtN_le k fun f => decide (c.src.getD f 0 = x) && decide (c.tgt.getD f 0 = y)
  refine .seq (fun K5 b0 => .region (.q rfl (.cmp rfl rfl rfl) (.nil (b0 _ _ (.seq (fun K6 a9 => ?_))))))
  refine .cond rfl ?_ ?_ <;> intro a2
  ·
   try simp only [sps] at a2
   refine .skip (a9 _ _ (.seq (fun K7 a1 => .block (.seq (fun K8 a8 => .region (.mv rfl (.mv rfl (.nil (a8 _ _ (.seq (fun K9 a4 => .region (.mv rfl (.q rfl (.nilCheck rfl) (.q rfl (.fieldAddr fo_27_1_B rfl) (.q rfl (.lA on_24_B rfl) ?_)))))))))))))))
   refine .mv rfl (.q rfl (.iN sl_24_A rfl rfl) (.q rfl (.lI on_2_A rfl) (.mv rfl (.q rfl (.cmp rfl rfl rfl) (.mv rfl ?_)))))
   refine .split (fun a0 => ?_) (fun a0 => ?_)
   ·
    try simp only [sps] at a0
    refine .qg rfl (.move rfl) (.qg rfl (.nilCheck rfl) (.qg rfl (.fieldAddr fo_27_2_B rfl) (.qg rfl (.lA on_24_B rfl) (.qg rfl (.move rfl) (.qg rfl (.iN sl_24_A rfl rfl) (.qg rfl (.lI on_2_A rfl) (.qg rfl (.move rfl) (.qg rfl (.cmp rfl rfl rfl) (.q rfl (.pickT rfl rfl) (.nil (a4 _ _ ?_)))))))))))
    refine .cond rfl ?_ ?_ <;> intro a3
    ·
     try simp only [sps] at a3
     refine .region (.mv rfl (.mv rfl ?_))
     refine .R rfl (.litA rfl sl_24_A ze_2_L rfl rfl rfl rfl) ?_
     rintro _ _ ⟨_, rfl, j, _, w⟩
     replace d := d.trans j
     replace b := b.le j
     replace e := j.2 _ _ e
     have _ := GHeap.ltg w
     replace h := a.mono d
     clear c1 c2 i1 i2
     refine .R rfl (.apI rfl sl_24_A ze_2_L rfl by_2_L sl_24_A rfl rfl) ?_
     rintro _ _ ⟨_, rfl, n, _, _⟩
     replace d := d.st n (fun k hk => ⟨by omega, trivial⟩)
     replace b := b.sA n
     replace h := a.mono d
     refine .mv rfl (.nil (a1 _ _ (.region (.q rfl (.aD rfl rfl rfl) (.mv rfl (.nil ?_))))))
     refine l ((k + 1, _, _)) _ _ ?_ ?_ (.p rfl)
     ·
      refine ⟨b, by (rw [filtN_T (by simp only [sps]; omega)]; assumption), by omega, by (rw [filtN_T (by simp only [sps]; omega)] <;> (first | omega | (simp only [List.length_append, List.length_cons, List.length_nil] <;> omega))), ?_⟩
      omega
     (dsimp only; omega)
    try simp only [sps] at a3
    refine .skip (a1 _ _ (.region (.q rfl (.aD rfl rfl rfl) (.mv rfl (.nil ?_)))))
    refine l ((k + 1, _, _)) _ _ ?_ ?_ (.p rfl)
    ·
     refine ⟨b, by (rw [filtN_F (by simp only [sps]; omega)]; assumption), by omega, by (rw [filtN_F (by simp only [sps]; omega)] <;> (first | omega | (simp only [List.length_append, List.length_cons, List.length_nil] <;> omega))), ?_⟩
     omega
    (dsimp only; omega)
   try simp only [sps] at a0
   refine .z rfl (.z rfl (.z rfl (.z rfl (.z rfl (.z rfl (.z rfl (.z rfl (.z rfl (.q rfl (.pickF rfl rfl) (.nil (a4 _ _ ?_)))))))))))
   refine .condF rfl ?_
   refine .skip (a1 _ _ (.region (.q rfl (.aD rfl rfl rfl) (.mv rfl (.nil ?_)))))
   refine l ((k + 1, _, _)) _ _ ?_ ?_ (.p rfl)
   ·
    refine ⟨b, by (rw [filtN_F (by simp only [sps]; omega)]; assumption), by omega, by (rw [filtN_F (by simp only [sps]; omega)] <;> (first | omega | (simp only [List.length_append, List.length_cons, List.length_nil] <;> omega))), ?_⟩
    omega
   (dsimp only; omega)
  try simp only [sps] at a2
  refine .exit (a7 _ _ (.seq (fun K10 v => .region (.mv rfl (.mv rfl (.nil (v _ _ (.ret (u _ _ (⟨_, rfl, ?_⟩))))))))))
  obtain rfl : k = c.src.length := by omega
  exact ⟨d, _, by rw [r]; rfl, e, s⟩
theorem inverse_c {g o : Nat} {c : Cat} {p : CatP} {f : Int} {H : GHeap} (h : Cat.At H g o c p := by assumption) (hS : c.Shape := by assumption) (h0 : 0 ≤ f := by omega) (h1 : f < c.src.length := by omega) :
    GCalls Try.prog 58 [.pointer (some ⟨g, o, none⟩), .int .i64 f] H (Ret (.int .i64 (c.inv f)) H) := by
  refine GCalls.ret rfl ?_
  refine GCalls.body (N := 60) (rs := [.tmp 4]) Try.func58 rfl rfl rfl rfl (fun Qx d hend => ?_)
  refine .fg [0, 1] rfl ?_
  have e := GHeap.Le.refl H
  have b := h
  obtain ⟨-, c1, c2, -, -, i1, i2, -, -⟩ := h.get
  have _ := hS.tl
  have _ := hS.n40
  have _ := hS.il
  have _ := hS.src f.toNat (by omega)
  have _ := hS.tgt f.toNat (by omega)
  have _ := hS.cl
  have _ := hS.row f.toNat (by omega)
  have _ := c.hom_le (c.tgt.getD f.toNat 0) (c.src.getD f.toNat 0)
  refine .seq (fun K1 a1 => .region (.mv rfl (.nil (a1 _ _ (.seq (fun K2 a3 => ?_))))))
  refine .regionD mo_B (.qs [0, 1, 2, 3, 4, 5, 6, 7, 8, 9, 10, 11, 12, 13, 14, 15] (.done)) (by kernel_rfl) ?_
  refine .mv rfl rfl (.q rfl (.nilCheck rfl) (.q rfl (.fieldAddr fo_27_1_B rfl) (.q rfl (.lA on_24_B rfl) (.mv rfl rfl (.q rfl (.i1 sl_24_A rfl rfl) (.q rfl (.lI on_2_A rfl) (.mv rfl rfl (.q rfl (.nilCheck rfl) (.q rfl (.fieldAddr fo_27_2_B rfl) (.q rfl (.lA on_24_B rfl) (.mv rfl rfl (.q rfl (.i1 sl_24_A rfl rfl) (.q rfl (.lI on_2_A rfl) (.mv rfl rfl (.mv rfl rfl ?_)))))))))))))))
  refine .done (a3 _ _ (.seq (fun K3 a4 => .seq (fun K4 a8 => .region (.mv rfl (.mv rfl (.mv rfl ?_)))))))
  refine .call rfl rfl rfl rfl @Try.call92 rfl (hom_c) ?_
  rintro _ a2 ⟨r, _, rfl, a, _⟩
  replace e := e.trans r
  replace h := b.mono e
  clear c1 c2 i1 i2
  obtain ⟨-, -, -, _, -, -, -, _, -⟩ := h.get
  have _ := Ints.of_get a
  refine .q rfl (.len sl_24_A rfl) (.mv rfl (.nil (a8 _ _ (.block ?_))))
  refine .loopF (σ := Nat) [0, 1, 5, 6, 26, 27] (fun k => [(28, some (.int .i64 (k : Int)))]) (fun k H' => a2 = H' ∧ (k : Int) ≤ (c.hom (c.tgt.getD f.toNat 0) (c.src.getD f.toNat 0)).length ∧ ∀ i, i < k → c.invB f ((c.hom (c.tgt.getD f.toNat 0) (c.src.getD f.toNat 0)).getD i 0) = false) (fun k => ((c.hom (c.tgt.getD f.toNat 0) (c.src.getD f.toNat 0)).length - k : Int).toNat) (0) rfl (.p rfl) ?_ ?_
  ·
   refine ⟨rfl, ?_⟩
   exact ⟨by omega, fun _ _ => by omega⟩
  rintro k _ ⟨rfl, hI⟩ _ l
  dsimp only [cA, nA]
  obtain ⟨_, m⟩ := hI
  refine .seq (fun K5 a7 => .region (.q rfl (.cmp rfl rfl rfl) (.nil (a7 _ _ (.seq (fun K6 a6 => ?_))))))
  refine .cond rfl ?_ ?_ <;> intro u
  ·
   simp only [sps] at u
   obtain ⟨j, _, _, _, _⟩ := c.hom_get (x := (c.tgt.getD f.toNat 0)) (y := (c.src.getD f.toNat 0)) (i := k) (by omega)
   have _ := hS.row j (by omega)
   have _ : ((c.hom (c.tgt.getD f.toNat 0) (c.src.getD f.toNat 0)).getD k 0).toNat = j := by omega
   refine .skip (a6 _ _ (.seq (fun K7 v => .block (.seq (fun K8 a5 => .region ?_)))))
   refine .q rfl (.idxN sl_24_A (by first | assumption | exact SlA.of_row a (by first | rfl | (simp; done) | (simp <;> omega))) rfl rfl (by omega)) ?_
   refine .q rfl (.loadI on_2_A (by first | assumption | exact Ints.of_get a) rfl (by omega)) ?_
   refine .mv rfl (.nil (a5 _ _ (.seq (fun K9 w => ?_))))
   refine .regionD mo_B (.qs [0, 1, 2, 4, 5, 6, 7, 8, 9, 10] (.c 3 1 (.qs [11, 12, 13, 14, 15, 17, 18, 19, 20, 21, 22, 23] (.c 16 1 (.q 24 (.q 25 (.done))))))) (by kernel_rfl) ?_
   refine .mv rfl rfl (.mv rfl rfl (.mv rfl rfl (.mv rfl rfl (.q rfl (.nilCheck rfl) (.q rfl (.fieldAddr fo_27_3_B rfl) (.q rfl (.lA on_24_B rfl) (.mv rfl rfl (.q rfl (.i1 sl_24_A rfl rfl) (.q rfl (.lI on_2_A rfl) ?_)))))))))
   refine .callQ1 rfl rfl rfl rfl rfl @Try.call79 rfl (then_s) (.refl _) ?_
   refine .q rfl (.cmp rfl rfl rfl) (.mv rfl rfl ?_)
   refine .split (fun s => ?_) (fun s => ?_)
   ·
    try simp only [sps] at s
    refine .qg rfl (.move rfl) (.qg rfl (.move rfl) (.qg rfl (.move rfl) (.qg rfl (.move rfl) (.qg rfl (.nilCheck rfl) (.qg rfl (.fieldAddr fo_27_3_B rfl) (.qg rfl (.lA on_24_B rfl) (.qg rfl (.move rfl) (.qg rfl (.i1 sl_24_A rfl rfl) (.qg rfl (.lI on_2_A rfl) ?_)))))))))
    refine .callQ1g rfl rfl rfl rfl rfl rfl rfl @Try.call79 rfl (then_s) (.refl _) ?_
    refine .qg rfl (.cmp rfl rfl rfl) (.q rfl (.pickT rfl rfl) (.done (w _ _ ?_)))
    refine .cond rfl ?_ ?_ <;> intro a0
    ·
     try simp only [sps] at a0
     refine .seq (fun K10 n => .region (.mv rfl (.mv rfl (.nil (n _ _ (.ret (d _ _ (⟨_, rfl, ?_⟩))))))))
     exact ⟨congrArg _ (firstIn_some (i := k) (by omega) (by simp only [Cat.invB, sps]; omega) m), e⟩
    try simp only [sps] at a0
    refine .skip (v _ _ (.region (.q rfl (.aD rfl rfl rfl) (.mv rfl (.nil ?_)))))
    refine l (k + 1) _ _ ?_ ?_ (.p rfl)
    ·
     refine ⟨rfl, ?_⟩
     refine ⟨by omega, fun i hx => ?_⟩
     by_cases hltq : i < k
     · exact m i hltq
     · obtain rfl : i = k := by omega
       simp only [Cat.invB, sps]; omega
    omega
   try simp only [sps] at s
   refine .z rfl (.z rfl (.z rfl (.z rfl (.z rfl (.z rfl (.z rfl (.z rfl (.z rfl (.z rfl (.sgc rfl rfl rfl rfl rfl rfl (.z rfl (.q rfl (.pickF rfl rfl) (.done (w _ _ ?_))))))))))))))
   refine .condF rfl ?_
   refine .skip (v _ _ (.region (.q rfl (.aD rfl rfl rfl) (.mv rfl (.nil ?_)))))
   refine l (k + 1) _ _ ?_ ?_ (.p rfl)
   ·
    refine ⟨rfl, ?_⟩
    refine ⟨by omega, fun i hx => ?_⟩
    by_cases hltq : i < k
    · exact m i hltq
    · obtain rfl : i = k := by omega
      simp only [Cat.invB, sps]; omega
   omega
  try simp only [sps] at u
  refine .exit (a4 _ _ (.seq (fun K11 t => .region (.mv rfl (.nil (t _ _ (.ret (d _ _ (⟨_, rfl, ?_⟩)))))))))
  exact ⟨congrArg _ (firstIn_none fun i hi => m i (by omega)), e⟩
theorem l01Has_c {a : Option Addr} {xs : List Int} {n : Int} {H : GHeap} (h : Ints H a xs := by assumption) (hl : xs.length ≤ 1048576 := by omega) :
    GCalls Try.prog 95 [.slice a xs.length xs.length, .int .i64 n] H (Ret (.bool (xs.contains n)) H) := by
  refine GCalls.body (N := 18) (rs := [.tmp 4]) Try.func95 rfl rfl rfl rfl (fun Qx b hend => ?_)
  refine .fg [0, 1] rfl ?_
  refine .seq (fun K1 r => .region (.mv rfl (.nil (r _ _ (.seq (fun K2 j => .seq (fun K3 u => .region (.mv rfl (.nil (u _ _ (.block ?_)))))))))))
  refine .loopF (σ := Nat) [0, 1] (fun k => [(5, some (.int .i64 (k : Int)))]) (fun k H' => H = H' ∧ (k : Int) ≤ xs.length ∧ ∀ i, i < k → ¬ xs.getD i 0 = n) (fun k => (xs.length - k : Int).toNat) (0) rfl (.p rfl) ?_ ?_
  ·
   refine ⟨rfl, ?_⟩
   exact ⟨by omega, fun _ _ => by omega⟩
  rintro k _ ⟨rfl, hI⟩ _ d
  dsimp only [cA, nA]
  obtain ⟨_, f⟩ := hI
  refine .seq (fun K4 g => .seq (fun K5 t => .region (.mv rfl (.mv rfl (.q rfl (.len sl_24_A rfl) (.q rfl (.cmp rfl rfl rfl) (.nil (t _ _ ?_))))))))
  refine .cond rfl ?_ ?_ <;> intro h9
  ·
   try simp only [sps] at h9
   refine .skip (g _ _ (.seq (fun K6 l => .block (.seq (fun K7 o => .region (.mv rfl (.mv rfl (.q rfl (.iN sl_24_A rfl rfl) (.q rfl (.lI on_2_A rfl) (.mv rfl (.q rfl (.cmp rfl rfl rfl) (.nil (o _ _ ?_)))))))))))))
   refine .cond rfl ?_ ?_ <;> intro c
   ·
    try simp only [sps] at c
    refine .seq (fun K8 m => .region (.mv rfl (.nil (m _ _ (.ret (b _ _ (⟨_, rfl, ?_⟩)))))))
    exact .of (congrArg _ (List.contains_iff_mem.2 (by rw [← c]; exact getD_mem (by omega))))
   try simp only [sps] at c
   refine .skip (l _ _ (.region (.mv rfl (.q rfl (.aD rfl rfl rfl) (.mv rfl (.nil ?_))))))
   refine d (k + 1) _ _ ?_ ?_ (.p rfl)
   ·
    refine ⟨rfl, ?_⟩
    refine ⟨by omega, fun i hx => ?_⟩
    by_cases hltq : i < k
    · exact f i hltq
    · obtain rfl : i = k := by omega
      first | assumption | omega | simp_all
   omega
  try simp only [sps] at h9
  refine .exit (j _ _ (.seq (fun K9 s => .region (.mv rfl (.nil (s _ _ (.ret (b _ _ (⟨_, rfl, ?_⟩)))))))))
  exact .of (congrArg _ (Bool.eq_false_iff.2 fun hc => by
    obtain ⟨i, _, e⟩ := mem_getD (List.contains_iff_mem.1 hc)
    exact f i (by omega) e))
theorem l05Sections_c {c : Cat} {p : CatP} {f : Int} {H : GHeap} (hin : c.In H p := by assumption) (hS : c.Shape := by assumption) (h0 : 0 ≤ f := by omega) (h1 : f < c.src.length := by omega) :
    GCalls Try.prog 94 [.agg (c.cells p).toArray, .int .i64 f] H (NewInts 2 H (c.sect f)) := by
  refine GCalls.body (N := 64) (rs := [.tmp 4]) Try.func94 rfl rfl rfl rfl (fun Qx w hend => ?_)
  refine .fg [0, 1] rfl ?_
  have d := GHeap.Le.refl H
  have a := hin
  have _ := hS.tl
  have _ := hS.n40
  have _ := hS.il
  have _ := hS.src f.toNat (by omega)
  have _ := hS.tgt f.toNat (by omega)
  have _ := hS.cl
  refine .seq (fun K1 a6 => .region ?_)
  refine .R rfl (.boxR rfl sz_27_D rfl) ?_
  rintro _ _ ⟨g2, rfl, b7, _, e⟩
  replace d := d.trans b7
  have _ := GHeap.ltg e
  replace hin := a.mono d
  have j : Cat.At _ g2 0 c p := ⟨Mem.of_get e, hin⟩
  refine .mv rfl (.nil (a6 _ _ (.seq (fun K2 a7 => .region ?_))))
  refine .R rfl (.litA rfl sl_24_A ze_2_L rfl rfl rfl rfl) ?_
  rintro _ H7 ⟨g7, rfl, a2, _, x⟩
  replace d := d.trans a2
  replace e := a2.2 _ _ e
  have _ := GHeap.ltg x
  replace hin := a.mono d
  clear j
  have j : Cat.At _ g2 0 c p := ⟨Mem.of_get e, hin⟩
  replace x : GHeap.get H7 g7 = some (.row (ints []) 2 true) := x
  refine .mv rfl (.nil (a7 _ _ (.seq (fun K3 b1 => .seq (fun K4 c0 => .region (.mv rfl (.nil (c0 _ _ (.block ?_)))))))))
  refine .loopF (σ := Nat × Nat × Nat) [1, 2] (fun (k, m, o) => [(6, some (.int .i64 (k : Int))), (5, some (.slice (some ⟨m, 0, none⟩) o o))]) (fun (k, m, o) H' => St [g7] H7 H' ∧ H'.get m = some (.row (ints (filtN k fun g => (decide (c.src.getD g 0 = c.T f) && decide (c.tgt.getD g 0 = c.S f)) && decide (c.th g f = c.I (c.T f)))) 2 true) ∧ (m = g7 ∨ H7.next ≤ m) ∧ o = (filtN k fun g => (decide (c.src.getD g 0 = c.T f) && decide (c.tgt.getD g 0 = c.S f)) && decide (c.th g f = c.I (c.T f))).length ∧ k ≤ c.src.length) (fun (k, m, o) => c.src.length - k) ((0, _, _)) rfl (.p rfl) ?_ ?_
  ·
   refine ⟨.refl _ _, by assumption, .inl rfl, by rfl, ?_⟩
   omega
  rintro ⟨k, m, o⟩ _ ⟨b, h, _, t, _⟩ _ l
  dsimp only [cA, nA]
  have r : H.next ≤ m := by omega
  have _ := b.nx
  replace d := d.st b (fun k hk => ⟨by omega, trivial⟩)
  replace e := b.s e
  replace hin := a.mono d
  clear j
  have j : Cat.At _ g2 0 c p := ⟨Mem.of_get e, hin⟩
  obtain ⟨-, b2, b6, b3, a8, b4, b0, a9, a4⟩ := j.get
  have _ := filtN_le k fun g => (decide (c.src.getD g 0 = c.T f) && decide (c.tgt.getD g 0 = c.S f)) && decide (c.th g f = c.I (c.T f))
  refine .seq (fun K5 b9 => .seq (fun K6 b5 => .region (.mv rfl (.q rfl (.fieldAddr fo_27_1_B rfl) (.q rfl (.lA on_24_B rfl) (.q rfl (.len sl_24_A rfl) (.q rfl (.cmp rfl rfl rfl) (.nil (b5 _ _ ?_)))))))))
  refine .cond rfl ?_ ?_ <;> intro a5
  ·
   simp only [sps] at a5
   have _ := hS.row k (by omega)
   have _ := a4.2 k (by omega)
   refine .skip (b9 _ _ (.seq (fun K7 u => .block (.seq (fun K8 a0 => ?_)))))
   refine .regionD mo_B (.qs [0, 1, 2, 3, 4, 5, 6, 7, 8, 9, 10, 11, 12, 13, 14, 15, 16, 17, 18, 19, 20, 21, 22, 23, 24, 25, 26, 27, 28, 29, 30, 31, 32, 33, 34, 35, 36, 37, 38, 39, 40, 41, 42, 43] (.done)) (by kernel_rfl) ?_
   refine .q rfl (.fieldAddr fo_27_1_B rfl) (.q rfl (.lA on_24_B rfl) (.mv rfl rfl (.q rfl (.iN sl_24_A rfl rfl) (.q rfl (.lI on_2_A rfl) (.q rfl (.fieldAddr fo_27_2_B rfl) (.q rfl (.lA on_24_B rfl) (.mv rfl rfl (.q rfl (.i1 sl_24_A rfl rfl) (.q rfl (.lI on_2_A rfl) (.q rfl (.cmp rfl rfl rfl) (.mv rfl rfl ?_)))))))))))
   refine .split (fun v => ?_) (fun v => ?_)
   ·
    try simp only [sps] at v
    refine .qg rfl (.fieldAddr fo_27_2_B rfl) (.qg rfl (.lA on_24_B rfl) (.qg rfl (.move rfl) (.qg rfl (.iN sl_24_A rfl rfl) (.qg rfl (.lI on_2_A rfl) (.qg rfl (.fieldAddr fo_27_1_B rfl) (.qg rfl (.lA on_24_B rfl) (.qg rfl (.move rfl) (.qg rfl (.i1 sl_24_A rfl rfl) (.qg rfl (.lI on_2_A rfl) (.qg rfl (.cmp rfl rfl rfl) (.q rfl (.pickT rfl rfl) (.mv rfl rfl ?_))))))))))))
    refine .split (fun a1 => ?_) (fun a1 => ?_)
    ·
     try simp only [sps] at a1
     refine .qg rfl (.fieldAddr fo_27_4_B rfl) (.qg rfl (.lA on_25_B rfl) (.qg rfl (.move rfl) ?_))
     refine .qg rfl (.idxN sl_25_B (Intss.sl (by assumption)) rfl rfl (by omega)) ?_
     refine .qg rfl (.loadR on_24_B (by assumption) rfl (by omega)) ?_
     refine .qg rfl (.move rfl) (.qg rfl (.i1 sl_24_A rfl rfl) (.qg rfl (.lI on_2_A rfl) (.qg rfl (.fieldAddr fo_27_3_B rfl) (.qg rfl (.lA on_24_B rfl) (.qg rfl (.fieldAddr fo_27_2_B rfl) (.qg rfl (.lA on_24_B rfl) (.qg rfl (.move rfl) (.qg rfl (.i1 sl_24_A rfl rfl) (.qg rfl (.lI on_2_A rfl) (.qg rfl (.i1 sl_24_A rfl rfl) (.qg rfl (.lI on_2_A rfl) (.qg rfl (.cmp rfl rfl rfl) (.q rfl (.pickT rfl rfl) (.done (a0 _ _ ?_)))))))))))))))
     refine .cond rfl ?_ ?_ <;> intro a3
     ·
      try simp only [sps] at a3
      refine .region (.mv rfl (.mv rfl ?_))
      refine .R rfl (.litA rfl sl_24_A ze_2_L rfl rfl rfl rfl) ?_
      rintro _ _ ⟨_, rfl, i, _, y⟩
      replace d := d.trans i
      replace b := b.le i
      replace e := i.2 _ _ e
      replace h := i.2 _ _ h
      have _ := GHeap.ltg y
      replace hin := a.mono d
      clear j b2 b6 b3 a8 b4 b0 a9 a4
      have j : Cat.At _ g2 0 c p := ⟨Mem.of_get e, hin⟩
      refine .R rfl (.apI rfl sl_24_A ze_2_L rfl by_2_L sl_24_A rfl rfl) ?_
      rintro _ _ ⟨_, rfl, n, _, _⟩
      replace d := d.st n (fun k hk => ⟨by omega, trivial⟩)
      replace b := b.sA n
      replace e := n.s e
      replace hin := a.mono d
      clear j
      have j : Cat.At _ g2 0 c p := ⟨Mem.of_get e, hin⟩
      refine .mv rfl (.nil (u _ _ (.region (.mv rfl (.q rfl (.aD rfl rfl rfl) (.mv rfl (.nil ?_)))))))
      refine l ((k + 1, _, _)) _ _ ?_ ?_ (.p rfl)
      ·
       refine ⟨b, by (rw [filtN_T (by simp only [sps]; simp only [Cat.S, Cat.T, Cat.th, Cat.I, Int.toNat_natCast]; omega)]; assumption), by omega, by (rw [filtN_T (by simp only [sps]; simp only [Cat.S, Cat.T, Cat.th, Cat.I, Int.toNat_natCast]; omega)] <;> (first | omega | (simp only [List.length_append, List.length_cons, List.length_nil] <;> omega))), ?_⟩
       omega
      (dsimp only; omega)
     try simp only [sps] at a3
     refine .skip (u _ _ (.region (.mv rfl (.q rfl (.aD rfl rfl rfl) (.mv rfl (.nil ?_))))))
     refine l ((k + 1, _, _)) _ _ ?_ ?_ (.p rfl)
     ·
      refine ⟨b, by (rw [filtN_F (by simp only [sps]; simp only [Cat.S, Cat.T, Cat.th, Cat.I, Int.toNat_natCast]; omega)]; assumption), by omega, by (rw [filtN_F (by simp only [sps]; simp only [Cat.S, Cat.T, Cat.th, Cat.I, Int.toNat_natCast]; omega)] <;> (first | omega | (simp only [List.length_append, List.length_cons, List.length_nil] <;> omega))), ?_⟩
      omega
     (dsimp only; omega)
    try simp only [sps] at a1
    refine .z rfl (.z rfl (.z rfl (.z rfl (.z rfl (.z rfl (.z rfl (.z rfl (.z rfl (.z rfl (.z rfl (.z rfl (.z rfl (.z rfl (.z rfl (.z rfl ?_)))))))))))))))
    refine .z rfl (.z rfl (.q rfl (.pickF rfl rfl) (.done (a0 _ _ ?_))))
    refine .condF rfl ?_
    refine .skip (u _ _ (.region (.mv rfl (.q rfl (.aD rfl rfl rfl) (.mv rfl (.nil ?_))))))
    refine l ((k + 1, _, _)) _ _ ?_ ?_ (.p rfl)
    ·
     refine ⟨b, by (rw [filtN_F (by simp only [sps]; simp only [Cat.S, Cat.T, Cat.th, Cat.I, Int.toNat_natCast]; omega)]; assumption), by omega, by (rw [filtN_F (by simp only [sps]; simp only [Cat.S, Cat.T, Cat.th, Cat.I, Int.toNat_natCast]; omega)] <;> (first | omega | (simp only [List.length_append, List.length_cons, List.length_nil] <;> omega))), ?_⟩
     omega
    (dsimp only; omega)
   try simp only [sps] at v
   refine .z rfl (.z rfl (.z rfl (.z rfl (.z rfl (.z rfl (.z rfl (.z rfl (.z rfl (.z rfl (.z rfl (.q rfl (.pickF rfl rfl) (.mv rfl rfl (.z rfl (.z rfl (.z rfl ?_)))))))))))))))
   refine .z rfl (.z rfl (.z rfl (.z rfl (.z rfl (.z rfl (.z rfl (.z rfl (.z rfl (.z rfl (.z rfl (.z rfl (.z rfl (.z rfl (.z rfl (.q rfl (.pickF rfl rfl) ?_)))))))))))))))
   refine .done (a0 _ _ ?_)
   refine .condF rfl ?_
   refine .skip (u _ _ (.region (.mv rfl (.q rfl (.aD rfl rfl rfl) (.mv rfl (.nil ?_))))))
   refine l ((k + 1, _, _)) _ _ ?_ ?_ (.p rfl)
   ·
    refine ⟨b, by (rw [filtN_F (by simp only [sps]; simp only [Cat.S, Cat.T, Cat.th, Cat.I, Int.toNat_natCast]; omega)]; assumption), by omega, by (rw [filtN_F (by simp only [sps]; simp only [Cat.S, Cat.T, Cat.th, Cat.I, Int.toNat_natCast]; omega)] <;> (first | omega | (simp only [List.length_append, List.length_cons, List.length_nil] <;> omega))), ?_⟩
    omega
   (dsimp only; omega)
  try simp only [sps] at a5
  refine .exit (b1 _ _ (.seq (fun K9 b8 => .region (.mv rfl (.mv rfl (.nil (b8 _ _ (.ret (w _ _ (⟨_, rfl, ?_⟩))))))))))
  obtain rfl : k = c.src.length := by omega
  exact ⟨d, _, by rw [t]; rfl, h, r⟩
theorem l05Retractions_c {c : Cat} {p : CatP} {f : Int} {H : GHeap} (hin : c.In H p := by assumption) (hS : c.Shape := by assumption) (h0 : 0 ≤ f := by omega) (h1 : f < c.src.length := by omega) :
    GCalls Try.prog 93 [.agg (c.cells p).toArray, .int .i64 f] H (NewInts 2 H (c.retr f)) := by
  refine GCalls.body (N := 64) (rs := [.tmp 4]) Try.func93 rfl rfl rfl rfl (fun Qx w hend => ?_)
  refine .fg [0, 1] rfl ?_
  have d := GHeap.Le.refl H
  have a := hin
  have _ := hS.tl
  have _ := hS.n40
  have _ := hS.il
  have _ := hS.src f.toNat (by omega)
  have _ := hS.cl
  have _ := hS.row f.toNat (by omega)
  refine .seq (fun K1 a6 => .region ?_)
  refine .R rfl (.boxR rfl sz_27_D rfl) ?_
  rintro _ _ ⟨g2, rfl, b7, _, e⟩
  replace d := d.trans b7
  have _ := GHeap.ltg e
  replace hin := a.mono d
  have j : Cat.At _ g2 0 c p := ⟨Mem.of_get e, hin⟩
  refine .mv rfl (.nil (a6 _ _ (.seq (fun K2 a7 => .region ?_))))
  refine .R rfl (.litA rfl sl_24_A ze_2_L rfl rfl rfl rfl) ?_
  rintro _ H7 ⟨g7, rfl, a2, _, x⟩
  replace d := d.trans a2
  replace e := a2.2 _ _ e
  have _ := GHeap.ltg x
  replace hin := a.mono d
  clear j
  have j : Cat.At _ g2 0 c p := ⟨Mem.of_get e, hin⟩
  replace x : GHeap.get H7 g7 = some (.row (ints []) 2 true) := x
  refine .mv rfl (.nil (a7 _ _ (.seq (fun K3 b1 => .seq (fun K4 c0 => .region (.mv rfl (.nil (c0 _ _ (.block ?_)))))))))
  refine .loopF (σ := Nat × Nat × Nat) [1, 2] (fun (k, m, o) => [(6, some (.int .i64 (k : Int))), (5, some (.slice (some ⟨m, 0, none⟩) o o))]) (fun (k, m, o) H' => St [g7] H7 H' ∧ H'.get m = some (.row (ints (filtN k fun g => (decide (c.src.getD g 0 = c.T f) && decide (c.tgt.getD g 0 = c.S f)) && decide (c.th f g = c.I (c.S f)))) 2 true) ∧ (m = g7 ∨ H7.next ≤ m) ∧ o = (filtN k fun g => (decide (c.src.getD g 0 = c.T f) && decide (c.tgt.getD g 0 = c.S f)) && decide (c.th f g = c.I (c.S f))).length ∧ k ≤ c.src.length) (fun (k, m, o) => c.src.length - k) ((0, _, _)) rfl (.p rfl) ?_ ?_
  ·
   refine ⟨.refl _ _, by assumption, .inl rfl, by rfl, ?_⟩
   omega
  rintro ⟨k, m, o⟩ _ ⟨b, h, _, t, _⟩ _ l
  dsimp only [cA, nA]
  have r : H.next ≤ m := by omega
  have _ := b.nx
  replace d := d.st b (fun k hk => ⟨by omega, trivial⟩)
  replace e := b.s e
  replace hin := a.mono d
  clear j
  have j : Cat.At _ g2 0 c p := ⟨Mem.of_get e, hin⟩
  obtain ⟨-, b2, b6, b3, a8, b4, b0, a9, a4⟩ := j.get
  have _ := filtN_le k fun g => (decide (c.src.getD g 0 = c.T f) && decide (c.tgt.getD g 0 = c.S f)) && decide (c.th f g = c.I (c.S f))
  refine .seq (fun K5 b9 => .seq (fun K6 b5 => .region (.mv rfl (.q rfl (.fieldAddr fo_27_1_B rfl) (.q rfl (.lA on_24_B rfl) (.q rfl (.len sl_24_A rfl) (.q rfl (.cmp rfl rfl rfl) (.nil (b5 _ _ ?_)))))))))
  refine .cond rfl ?_ ?_ <;> intro a5
  ·
   simp only [sps] at a5
   have _ := a4.2 f.toNat (by omega)
   refine .skip (b9 _ _ (.seq (fun K7 u => .block (.seq (fun K8 a0 => ?_)))))
   refine .regionD mo_B (.qs [0, 1, 2, 3, 4, 5, 6, 7, 8, 9, 10, 11, 12, 13, 14, 15, 16, 17, 18, 19, 20, 21, 22, 23, 24, 25, 26, 27, 28, 29, 30, 31, 32, 33, 34, 35, 36, 37, 38, 39, 40, 41, 42, 43] (.done)) (by kernel_rfl) ?_
   refine .q rfl (.fieldAddr fo_27_1_B rfl) (.q rfl (.lA on_24_B rfl) (.mv rfl rfl (.q rfl (.iN sl_24_A rfl rfl) (.q rfl (.lI on_2_A rfl) (.q rfl (.fieldAddr fo_27_2_B rfl) (.q rfl (.lA on_24_B rfl) (.mv rfl rfl (.q rfl (.i1 sl_24_A rfl rfl) (.q rfl (.lI on_2_A rfl) (.q rfl (.cmp rfl rfl rfl) (.mv rfl rfl ?_)))))))))))
   refine .split (fun v => ?_) (fun v => ?_)
   ·
    try simp only [sps] at v
    refine .qg rfl (.fieldAddr fo_27_2_B rfl) (.qg rfl (.lA on_24_B rfl) (.qg rfl (.move rfl) (.qg rfl (.iN sl_24_A rfl rfl) (.qg rfl (.lI on_2_A rfl) (.qg rfl (.fieldAddr fo_27_1_B rfl) (.qg rfl (.lA on_24_B rfl) (.qg rfl (.move rfl) (.qg rfl (.i1 sl_24_A rfl rfl) (.qg rfl (.lI on_2_A rfl) (.qg rfl (.cmp rfl rfl rfl) (.q rfl (.pickT rfl rfl) (.mv rfl rfl ?_))))))))))))
    refine .split (fun a1 => ?_) (fun a1 => ?_)
    ·
     try simp only [sps] at a1
     refine .qg rfl (.fieldAddr fo_27_4_B rfl) (.qg rfl (.lA on_25_B rfl) (.qg rfl (.move rfl) ?_))
     refine .qg rfl (.idx1 sl_25_B (Intss.sl (by assumption)) rfl rfl (by omega) (by omega)) ?_
     refine .qg rfl (.loadR on_24_B (by assumption) rfl (by omega)) ?_
     refine .qg rfl (.move rfl) (.qg rfl (.iN sl_24_A rfl rfl) (.qg rfl (.lI on_2_A rfl) (.qg rfl (.fieldAddr fo_27_3_B rfl) (.qg rfl (.lA on_24_B rfl) (.qg rfl (.fieldAddr fo_27_1_B rfl) (.qg rfl (.lA on_24_B rfl) (.qg rfl (.move rfl) (.qg rfl (.i1 sl_24_A rfl rfl) (.qg rfl (.lI on_2_A rfl) (.qg rfl (.i1 sl_24_A rfl rfl) (.qg rfl (.lI on_2_A rfl) (.qg rfl (.cmp rfl rfl rfl) (.q rfl (.pickT rfl rfl) (.done (a0 _ _ ?_)))))))))))))))
     refine .cond rfl ?_ ?_ <;> intro a3
     ·
      try simp only [sps] at a3
      refine .region (.mv rfl (.mv rfl ?_))
      refine .R rfl (.litA rfl sl_24_A ze_2_L rfl rfl rfl rfl) ?_
      rintro _ _ ⟨_, rfl, i, _, y⟩
      replace d := d.trans i
      replace b := b.le i
      replace e := i.2 _ _ e
      replace h := i.2 _ _ h
      have _ := GHeap.ltg y
      replace hin := a.mono d
      clear j b2 b6 b3 a8 b4 b0 a9 a4
      have j : Cat.At _ g2 0 c p := ⟨Mem.of_get e, hin⟩
      refine .R rfl (.apI rfl sl_24_A ze_2_L rfl by_2_L sl_24_A rfl rfl) ?_
      rintro _ _ ⟨_, rfl, n, _, _⟩
      replace d := d.st n (fun k hk => ⟨by omega, trivial⟩)
      replace b := b.sA n
      replace e := n.s e
      replace hin := a.mono d
      clear j
      have j : Cat.At _ g2 0 c p := ⟨Mem.of_get e, hin⟩
      refine .mv rfl (.nil (u _ _ (.region (.mv rfl (.q rfl (.aD rfl rfl rfl) (.mv rfl (.nil ?_)))))))
      refine l ((k + 1, _, _)) _ _ ?_ ?_ (.p rfl)
      ·
       refine ⟨b, by (rw [filtN_T (by simp only [sps]; simp only [Cat.S, Cat.T, Cat.th, Cat.I, Int.toNat_natCast]; omega)]; assumption), by omega, by (rw [filtN_T (by simp only [sps]; simp only [Cat.S, Cat.T, Cat.th, Cat.I, Int.toNat_natCast]; omega)] <;> (first | omega | (simp only [List.length_append, List.length_cons, List.length_nil] <;> omega))), ?_⟩
       omega
      (dsimp only; omega)
     try simp only [sps] at a3
     refine .skip (u _ _ (.region (.mv rfl (.q rfl (.aD rfl rfl rfl) (.mv rfl (.nil ?_))))))
     refine l ((k + 1, _, _)) _ _ ?_ ?_ (.p rfl)
     ·
      refine ⟨b, by (rw [filtN_F (by simp only [sps]; simp only [Cat.S, Cat.T, Cat.th, Cat.I, Int.toNat_natCast]; omega)]; assumption), by omega, by (rw [filtN_F (by simp only [sps]; simp only [Cat.S, Cat.T, Cat.th, Cat.I, Int.toNat_natCast]; omega)] <;> (first | omega | (simp only [List.length_append, List.length_cons, List.length_nil] <;> omega))), ?_⟩
      omega
     (dsimp only; omega)
    try simp only [sps] at a1
    refine .z rfl (.z rfl (.z rfl (.z rfl (.z rfl (.z rfl (.z rfl (.z rfl (.z rfl (.z rfl (.z rfl (.z rfl (.z rfl (.z rfl (.z rfl (.z rfl ?_)))))))))))))))
    refine .z rfl (.z rfl (.q rfl (.pickF rfl rfl) (.done (a0 _ _ ?_))))
    refine .condF rfl ?_
    refine .skip (u _ _ (.region (.mv rfl (.q rfl (.aD rfl rfl rfl) (.mv rfl (.nil ?_))))))
    refine l ((k + 1, _, _)) _ _ ?_ ?_ (.p rfl)
    ·
     refine ⟨b, by (rw [filtN_F (by simp only [sps]; simp only [Cat.S, Cat.T, Cat.th, Cat.I, Int.toNat_natCast]; omega)]; assumption), by omega, by (rw [filtN_F (by simp only [sps]; simp only [Cat.S, Cat.T, Cat.th, Cat.I, Int.toNat_natCast]; omega)] <;> (first | omega | (simp only [List.length_append, List.length_cons, List.length_nil] <;> omega))), ?_⟩
     omega
    (dsimp only; omega)
   try simp only [sps] at v
   refine .z rfl (.z rfl (.z rfl (.z rfl (.z rfl (.z rfl (.z rfl (.z rfl (.z rfl (.z rfl (.z rfl (.q rfl (.pickF rfl rfl) (.mv rfl rfl (.z rfl (.z rfl (.z rfl ?_)))))))))))))))
   refine .z rfl (.z rfl (.z rfl (.z rfl (.z rfl (.z rfl (.z rfl (.z rfl (.z rfl (.z rfl (.z rfl (.z rfl (.z rfl (.z rfl (.z rfl (.q rfl (.pickF rfl rfl) ?_)))))))))))))))
   refine .done (a0 _ _ ?_)
   refine .condF rfl ?_
   refine .skip (u _ _ (.region (.mv rfl (.q rfl (.aD rfl rfl rfl) (.mv rfl (.nil ?_))))))
   refine l ((k + 1, _, _)) _ _ ?_ ?_ (.p rfl)
   ·
    refine ⟨b, by (rw [filtN_F (by simp only [sps]; simp only [Cat.S, Cat.T, Cat.th, Cat.I, Int.toNat_natCast]; omega)]; assumption), by omega, by (rw [filtN_F (by simp only [sps]; simp only [Cat.S, Cat.T, Cat.th, Cat.I, Int.toNat_natCast]; omega)] <;> (first | omega | (simp only [List.length_append, List.length_cons, List.length_nil] <;> omega))), ?_⟩
    omega
   (dsimp only; omega)
  try simp only [sps] at a5
  refine .exit (b1 _ _ (.seq (fun K9 b8 => .region (.mv rfl (.mv rfl (.nil (b8 _ _ (.ret (w _ _ (⟨_, rfl, ?_⟩))))))))))
  obtain rfl : k = c.src.length := by omega
  exact ⟨d, _, by rw [t]; rfl, h, r⟩
theorem l05Inverse_c {c : Cat} {p : CatP} {f : Int} {H : GHeap} (hin : c.In H p := by assumption) (hS : c.Shape := by assumption) (h0 : 0 ≤ f := by omega) (h1 : f < c.src.length := by omega) :
    GCalls Try.prog 60 [.agg (c.cells p).toArray, .int .i64 f] H (Ret (.int .i64 (c.inv f)) H) := by
  refine GCalls.ret rfl ?_
  refine GCalls.body (N := 30) (rs := [.tmp 4]) Try.func60 rfl rfl rfl rfl (fun Qx l hend => ?_)
  refine .fg [0, 1] rfl ?_
  have d := GHeap.Le.refl H
  have a := hin
  have _ := hS.n40
  have _ : (c.retr f).length ≤ _ := filtN_le _ _
  have _ : (c.sect f).length ≤ _ := filtN_le _ _
  refine .seq (fun K1 w => .region ?_)
  refine .R rfl (.boxR rfl sz_27_D rfl) ?_
  rintro _ _ ⟨g2, rfl, a2, _, e⟩
  replace d := d.trans a2
  replace hin := a.mono d
  have j : Cat.At _ g2 0 c p := ⟨Mem.of_get e, hin⟩
  have m := j.2
  refine .mv rfl (.nil (w _ _ (.seq (fun K2 x => ?_))))
  refine .regionD mo_B (.qs [0, 1, 3, 4] (.c 2 1 (.c 5 0 (.q 6 (.q 7 (.done)))))) (by kernel_rfl) ?_
  refine .q rfl (.loadM ag_27_D rfl ⟨rfl, Mem.of_get e⟩) ?_
  refine .mv rfl rfl ?_
  refine .q rfl (.loadM ag_27_D rfl ⟨rfl, Mem.of_get e⟩) ?_
  refine .mv rfl rfl ?_
  refine .call1 rfl rfl rfl rfl rfl @Try.call93 rfl (l05Retractions_c) ?_
  rintro _ _ ⟨h, _, rfl, b, _⟩
  have v := h
  refine ⟨v, ?_⟩
  replace d := d.trans h
  replace e := h.2 _ _ e
  replace hin := a.mono d
  clear j m
  have j : Cat.At _ g2 0 c p := ⟨Mem.of_get e, hin⟩
  have m := j.2
  refine .call0 rfl rfl rfl rfl rfl @Try.call94 rfl (l05Sections_c) ?_
  rintro _ a5 ⟨g, _, rfl, o, _⟩
  replace d := d.trans g
  replace e := g.2 _ _ e
  replace b := g.2 _ _ b
  replace hin := a.mono d
  clear j m
  have j : Cat.At _ g2 0 c p := ⟨Mem.of_get e, hin⟩
  have _ := Ints.of_get b
  have _ := Ints.of_get o
  refine .mv rfl rfl (.mv rfl rfl (.done (x _ _ (.seq (fun K3 y => .seq (fun K4 a6 => .region (.mv rfl (.nil (a6 _ _ (.block ?_))))))))))
  refine .loopF (σ := Nat) [5, 6] (fun k => [(7, some (.int .i64 (k : Int)))]) (fun k H' => a5 = H' ∧ (k : Int) ≤ (c.retr f).length ∧ ∀ i, i < k → (c.sect f).contains ((c.retr f).getD i 0) = false) (fun k => ((c.retr f).length - k : Int).toNat) (0) rfl (.p rfl) ?_ ?_
  ·
   refine ⟨rfl, ?_⟩
   exact ⟨by omega, fun _ _ => by omega⟩
  rintro k _ ⟨rfl, hI⟩ _ t
  dsimp only [cA, nA]
  obtain ⟨_, r⟩ := hI
  refine .seq (fun K5 a4 => .seq (fun K6 a0 => .region (.mv rfl (.mv rfl (.q rfl (.len sl_24_A rfl) (.q rfl (.cmp rfl rfl rfl) (.nil (a0 _ _ ?_))))))))
  refine .cond rfl ?_ ?_ <;> intro u
  ·
   try simp only [sps] at u
   refine .skip (a4 _ _ (.seq (fun K7 z => .block (.seq (fun K8 a1 => .region (.mv rfl (.mv rfl (.mv rfl ?_))))))))
   refine .q rfl (.idxN sl_24_A (by first | assumption | exact SlA.of_row b (by first | rfl | (simp; done) | (simp <;> omega))) rfl rfl (by omega)) ?_
   refine .q rfl (.loadI on_2_A (by first | assumption | exact Ints.of_get b) rfl (by omega)) ?_
   refine .callQ rfl rfl rfl rfl @Try.call95 rfl (l01Has_c) ?_
   refine .nil (a1 _ _ ?_)
   refine .cond rfl ?_ ?_ <;> intro s
   ·
    try simp only [sps] at s
    refine .seq (fun K9 a3 => .region (.mv rfl (.mv rfl ?_)))
    refine .q rfl (.idxN sl_24_A (by first | assumption | exact SlA.of_row b (by first | rfl | (simp; done) | (simp <;> omega))) rfl rfl (by omega)) ?_
    refine .q rfl (.loadI on_2_A (by first | assumption | exact Ints.of_get b) rfl (by omega)) ?_
    refine .mv rfl (.nil (a3 _ _ (.ret (l _ _ (⟨_, rfl, ?_⟩)))))
    exact ⟨congrArg _ (by rw [← c.inv_retr]; exact firstIn_some (i := k) (by omega) s r), d⟩
   try simp only [sps] at s
   refine .skip (z _ _ (.region (.mv rfl (.q rfl (.aD rfl rfl rfl) (.mv rfl (.nil ?_))))))
   refine t (k + 1) _ _ ?_ ?_ (.p rfl)
   ·
    refine ⟨rfl, ?_⟩
    refine ⟨by omega, fun i hx => ?_⟩
    by_cases hltq : i < k
    · exact r i hltq
    · obtain rfl : i = k := by omega
      first | assumption | omega | simp_all
   omega
  try simp only [sps] at u
  refine .exit (y _ _ (.seq (fun K10 n => .region (.mv rfl (.nil (n _ _ (.ret (l _ _ (⟨_, rfl, ?_⟩)))))))))
  exact ⟨congrArg _ (by rw [← c.inv_retr]; exact firstIn_none fun i hi => r i (by omega)), d⟩
end Go.Proofs.Ytfanjkbaemhbmaa
namespace Go.Proofs.Ytfanjkbaemhbmaa
open Go Go.GL Go.RowKit Go.Proofs
theorem sz_2_N : (Try.prog.info? 2).map (·.size) = some 1 := by kernel_rfl
theorem has_c {a : Option Addr} {xs : List Int} {n : Int} {H : GHeap} (h : Ints H a xs := by assumption) (hl : xs.length ≤ 1048576 := by omega) :
    GCalls Try.prog 116 [.slice a xs.length xs.length, .int .i64 n] H (Ret (.bool (xs.contains n)) H) := by
  refine GCalls.body (N := 17) (rs := [.tmp 4]) Try.func116 rfl rfl rfl rfl (fun Qx b hend => ?_)
  refine .fg [0, 1] rfl ?_
  refine .seq (fun K1 t => .region (.mv rfl (.nil (t _ _ (.seq (fun K2 m => .seq (fun K3 w => .region (.mv rfl (.q rfl (.len sl_24_A rfl) (.mv rfl (.nil (w _ _ (.block ?_)))))))))))))
  refine .loopF (σ := Nat) [1, 7, 8] (fun k => [(9, some (.int .i64 (k : Int)))]) (fun k H' => H = H' ∧ (k : Int) ≤ xs.length ∧ ∀ i, i < k → ¬ xs.getD i 0 = n) (fun k => (xs.length - k : Int).toNat) (0) rfl (.p rfl) ?_ ?_
  ·
   refine ⟨rfl, ?_⟩
   exact ⟨by omega, fun _ _ => by omega⟩
  rintro k _ ⟨rfl, hI⟩ _ d
  dsimp only [cA, nA]
  obtain ⟨_, g⟩ := hI
  refine .seq (fun K4 l => .region (.q rfl (.cmp rfl rfl rfl) (.nil (l _ _ (.seq (fun K5 v => ?_))))))
  refine .cond rfl ?_ ?_ <;> intro j
  ·
   try simp only [sps] at j
   refine .skip (v _ _ (.seq (fun K6 o => .block (.seq (fun K7 s => .region (.q rfl (.iN sl_24_A rfl rfl) (.q rfl (.lI on_2_A rfl) (.mv rfl (.nil (s _ _ (.seq (fun K8 r => .region (.mv rfl (.mv rfl (.q rfl (.cmp rfl rfl rfl) ?_)))))))))))))))
   refine .nil (r _ _ ?_)
   refine .cond rfl ?_ ?_ <;> intro f
   ·
    try simp only [sps] at f
    refine .seq (fun K9 u => .region (.mv rfl (.nil (u _ _ (.ret (b _ _ (⟨_, rfl, ?_⟩)))))))
    exact .of (congrArg _ (List.contains_iff_mem.2 (by rw [← f]; exact getD_mem (by omega))))
   try simp only [sps] at f
   refine .skip (o _ _ (.region (.q rfl (.aD rfl rfl rfl) (.mv rfl (.nil ?_)))))
   refine d (k + 1) _ _ ?_ ?_ (.p rfl)
   ·
    refine ⟨rfl, ?_⟩
    refine ⟨by omega, fun i hx => ?_⟩
    by_cases hltq : i < k
    · exact g i hltq
    · obtain rfl : i = k := by omega
      first | assumption | omega | simp_all
   omega
  try simp only [sps] at j
  refine .exit (m _ _ (.seq (fun K10 c => .region (.mv rfl (.nil (c _ _ (.ret (b _ _ (⟨_, rfl, ?_⟩)))))))))
  exact .of (congrArg _ (Bool.eq_false_iff.2 fun hc => by
    obtain ⟨i, _, e⟩ := mem_getD (List.contains_iff_mem.1 hc)
    exact g i (by omega) e))
theorem implThen_c {a b : Option Addr} {xs zs : List Int} {H : GHeap} (h : Ints H a xs := by assumption) (h' : Ints H b zs := by assumption) (hb : ∀ i, i < xs.length → 0 ≤ xs.getD i 0 ∧ xs.getD i 0 < zs.length := by assumption) (hl : xs.length ≤ 1048576 := by omega) :
    GCalls Try.prog 115 [.slice a xs.length xs.length, .slice b zs.length zs.length] H (NewInts 2 H (thenL xs zs)) := by
  refine GCalls.body (N := 27) (rs := [.tmp 4]) Try.func115 rfl rfl rfl rfl (fun Qx m hend => ?_)
  refine .fg [0, 1] rfl ?_
  have l := GHeap.Le.refl H
  have j := h
  have d := h'
  refine .seq (fun K1 t => .region (.mv rfl (.nil (t _ _ (.seq (fun K2 u => .region (.mv rfl (.q rfl (.len sl_24_A rfl) ?_))))))))
  refine .R rfl (.makeIN rfl sl_24_A ze_2_L by_2_L rfl rfl (by omega) (by omega) (by omega)) ?_
  rintro _ x ⟨r, rfl, n, _, _⟩
  replace l := l.trans n
  refine .mv rfl (.nil (u _ _ (.seq (fun K3 v => .seq (fun K4 a2 => .region (.mv rfl (.q rfl (.len sl_24_A rfl) (.mv rfl (.nil (a2 _ _ (.block ?_)))))))))))
  refine .loopF (σ := Nat × List Int) [1, 5, 11, 12] (fun (k, ys) => [(13, some (.int .i64 (k : Int)))]) (fun (k, ys) H' => St [r] x H' ∧ H'.get r = some (.row (ints ys) 2 true) ∧ k ≤ xs.length ∧ ys.length = xs.length ∧ ∀ i, i < k → ys.getD i 0 = zs.getD (xs.getD i 0).toNat 0) (fun (k, ys) => xs.length - k) ((0, List.replicate xs.length 0)) rfl (.p rfl) ?_ ?_
  ·
   refine ⟨.refl _ _, by assumption, ?_⟩
   exact ⟨by omega, by simp, fun _ _ => by omega⟩
  rintro ⟨k, ys⟩ _ ⟨f, c, hI⟩ _ o
  dsimp only [cA, nA]
  replace l := l.st f (fun k hk => ⟨by omega, trivial⟩)
  replace h := j.mono l
  replace h' := d.mono l
  obtain ⟨hk, hyl, ha⟩ := hI
  have _ := SlA.of_ints c hyl
  refine .seq (fun K5 a1 => .region (.q rfl (.cmp rfl rfl rfl) (.nil (a1 _ _ (.seq (fun K6 y => ?_))))))
  refine .cond rfl ?_ ?_ <;> intro s
  ·
   simp only [sps] at s
   have _ := hb k (by omega)
   refine .skip (y _ _ (.seq (fun K7 w => .block (.seq (fun K8 z => .region (.mv rfl (.q rfl (.iN sl_24_A rfl rfl) (.q rfl (.lI on_2_A rfl) (.mv rfl (.mv rfl (.nil (z _ _ (.region (.mv rfl (.mv rfl ?_)))))))))))))))
   refine .mv rfl (.mv rfl (.q rfl (.i1 sl_24_A rfl rfl) (.q rfl (.lI on_2_A rfl) ?_)))
   refine .q rfl (.idxN sl_24_A (by first | assumption | exact SlA.of_row c (by first | rfl | (simp; done) | (simp <;> omega))) rfl rfl (by omega)) ?_
   refine .r0 rfl rfl (.storeI rfl sz_2_N rfl rfl (by assumption) (by first | omega | (simp <;> omega))) ?_
   rintro _ _ ⟨rfl, g, _⟩
   replace f := f.sA g
   refine .nil (w _ _ (.region (.q rfl (.aD rfl rfl rfl) (.mv rfl (.nil ?_)))))
   refine o ((k + 1, ys.set (0 + k) (zs.getD (xs.getD k 0).toNat 0))) _ _ ?_ ?_ (.p rfl)
   ·
    refine ⟨f, by assumption, ?_⟩
    refine ⟨by omega, by simpa using hyl, fun i hi => ?_⟩
    rw [Nat.zero_add, getD_set (by omega)]
    split
    · rename_i e; rw [e]
    · exact ha i (by omega)
   (dsimp only; omega)
  try simp only [sps] at s
  refine .exit (v _ _ (.seq (fun K9 a0 => .region (.mv rfl (.mv rfl (.nil (a0 _ _ (.ret (m _ _ (⟨_, rfl, ?_⟩))))))))))
  obtain rfl := thenL_eq hyl fun i hi => ha i (by omega)
  exact ⟨l, _, by rw [length_thenL], c, by omega⟩
theorem isomorphic_c {g o : Nat} {c : Cat} {p : CatP} {x y : Int} {H : GHeap} (h : Cat.At H g o c p := by assumption) (hS : c.Shape := by assumption) :
    GCalls Try.prog 117 [.pointer (some ⟨g, o, none⟩), .int .i64 x, .int .i64 y] H (Ret (.int .i64 (c.iso x y)) H) := by
  refine GCalls.ret rfl ?_
  refine GCalls.body (N := 24) (rs := [.tmp 6]) Try.func117 rfl rfl rfl rfl (fun Qx d hend => ?_)
  refine .fg [0, 1, 2] rfl ?_
  have e := GHeap.Le.refl H
  have a := h
  have _ := hS.n40
  have _ := c.hom_le x y
  refine .seq (fun K1 t => .region (.mv rfl (.nil (t _ _ (.seq (fun K2 v => .seq (fun K3 w => .region (.mv rfl (.mv rfl (.mv rfl ?_))))))))))
  refine .call rfl rfl rfl rfl @Try.call92 rfl (hom_c) ?_
  rintro _ u ⟨l, _, rfl, b, _⟩
  replace e := e.trans l
  replace h := a.mono e
  have _ := Ints.of_get b
  refine .q rfl (.len sl_24_A rfl) (.mv rfl (.nil (w _ _ (.block ?_))))
  refine .loopF (σ := Nat) [0, 12, 13] (fun k => [(14, some (.int .i64 (k : Int)))]) (fun k H' => u = H' ∧ (k : Int) ≤ (c.hom x y).length ∧ ∀ i, i < k → decide (0 ≤ c.inv ((c.hom x y).getD i 0)) = false) (fun k => ((c.hom x y).length - k : Int).toNat) (0) rfl (.p rfl) ?_ ?_
  ·
   refine ⟨rfl, ?_⟩
   exact ⟨by omega, fun _ _ => by omega⟩
  rintro k _ ⟨rfl, hI⟩ _ n
  dsimp only [cA, nA]
  obtain ⟨_, m⟩ := hI
  refine .seq (fun K4 a4 => .region (.q rfl (.cmp rfl rfl rfl) (.nil (a4 _ _ (.seq (fun K5 a3 => ?_))))))
  refine .cond rfl ?_ ?_ <;> intro s
  ·
   simp only [sps] at s
   obtain ⟨j, _, -, -, _⟩ := c.hom_get (x := x) (y := y) (i := k) (by omega)
   refine .skip (a3 _ _ (.seq (fun K6 a0 => .block (.seq (fun K7 z => .region ?_)))))
   refine .q rfl (.idxN sl_24_A (by first | assumption | exact SlA.of_row b (by first | rfl | (simp; done) | (simp <;> omega))) rfl rfl (by omega)) ?_
   refine .q rfl (.loadI on_2_A (by first | assumption | exact Ints.of_get b) rfl (by omega)) ?_
   refine .mv rfl (.nil (z _ _ (.seq (fun K8 a1 => .region (.mv rfl (.mv rfl ?_))))))
   refine .callQ rfl rfl rfl rfl @Try.call58 rfl (inverse_c) ?_
   refine .q rfl (.cmp rfl rfl rfl) (.nil (a1 _ _ ?_))
   refine .cond rfl ?_ ?_ <;> intro r
   ·
    try simp only [sps] at r
    refine .seq (fun K9 a2 => .region (.mv rfl (.mv rfl (.nil (a2 _ _ (.ret (d _ _ (⟨_, rfl, ?_⟩))))))))
    exact ⟨congrArg _ (firstIn_some (i := k) (by omega) (by simp only [sps]; omega) m), e⟩
   try simp only [sps] at r
   refine .skip (a0 _ _ (.region (.q rfl (.aD rfl rfl rfl) (.mv rfl (.nil ?_)))))
   refine n (k + 1) _ _ ?_ ?_ (.p rfl)
   ·
    refine ⟨rfl, ?_⟩
    refine ⟨by omega, fun i hx => ?_⟩
    by_cases hltq : i < k
    · exact m i hltq
    · obtain rfl : i = k := by omega
      simp only [sps]; omega
   omega
  try simp only [sps] at s
  refine .exit (v _ _ (.seq (fun K10 f => .region (.mv rfl (.nil (f _ _ (.ret (d _ _ (⟨_, rfl, ?_⟩)))))))))
  exact ⟨congrArg _ (firstIn_none fun i hi => m i (by omega)), e⟩
theorem isFull_c {g o : Nat} {f : Fun} {p : FunP} {H : GHeap} (h : Fun.At H g o f p := by assumption) (hI : f.Is := by assumption) :
    GCalls Try.prog 96 [.pointer (some ⟨g, o, none⟩)] H (Ret (.bool (B f.Full)) H) := by
  refine GCalls.ret rfl ?_
  have hSs := hI.1.1
  have hTs := hI.2.1.1
  refine GCalls.body (N := 65) (rs := [.tmp 2]) Try.func96 rfl rfl rfl rfl (fun Qx a5 hend => ?_)
  refine .fg [0] rfl ?_
  have r := GHeap.Le.refl H
  have b := h
  obtain ⟨fs, ft, a0, a2, j1, j2⟩ := h.get
  have hm : MemN _ _ _ _ _ := ⟨rfl, h.1⟩
  have hi := h.2
  have hms : MemN _ _ _ _ _ := ⟨rfl, fs.1⟩
  have his := fs.2
  have hmt : MemN _ _ _ _ _ := ⟨rfl, ft.1⟩
  have hit := ft.2
  obtain ⟨c0, c1, c2, c3, c4, i1, i2, i3, i4⟩ := fs.get
  have _ := hI.2.2.ol
  have _ := hSs.n40
  have _ := hTs.n40
  have _ := hI.2.2.al
  have _ := hSs.obj
  refine .seq (fun K1 d5 => .region (.mv rfl (.nil (d5 _ _ (.seq (fun K2 d7 => .region (.mv rfl (.q rfl (.nilCheck rfl) (.q rfl (.fieldAddr fo_40_0_G rfl) (.mv rfl (.nil (d7 _ _ (.seq (fun K3 d8 => .seq (fun K4 e4 => .region ?_)))))))))))))))
  refine .mv rfl (.nil (e4 _ _ (.block ?_)))
  refine .loopF (σ := Nat) [0, 3] (fun k => [(4, some (.int .i64 (k : Int)))]) (fun k H' => St [] H H' ∧ (k : Int) ≤ f.s.obj ∧ ∀ x, x < k → ∀ y : Nat, (y : Int) < f.s.obj → ∀ i, i < (f.t.hom (f.ob.getD x 0) (f.ob.getD y 0)).length → (f.t.hom (f.ob.getD x 0) (f.ob.getD y 0)).getD i 0 ∈ thenL (f.s.hom x y) f.ar) (fun k => (f.s.obj - k : Int).toNat) (0) rfl (.p rfl) ?_ ?_
  ·
   refine ⟨.refl _ _, ?_⟩
   exact ⟨by omega, fun _ _ => by omega⟩
  rintro k HL1 ⟨d, hI⟩ _ b9
  dsimp only [cA, nA]
  have _ := d.nx
  replace r := r.st d (fun k hk => trivial)
  replace h := b.mono r
  clear fs ft a0 a2 j1 j2 hm hi hms his hmt hit c0 c1 c2 c3 c4 i1 i2 i3 i4
  obtain ⟨fs, ft, a0, a2, j1, j2⟩ := h.get
  have hm : MemN _ _ _ _ _ := ⟨rfl, h.1⟩
  have hi := h.2
  have hms : MemN _ _ _ _ _ := ⟨rfl, fs.1⟩
  have his := fs.2
  have hmt : MemN _ _ _ _ _ := ⟨rfl, ft.1⟩
  have hit := ft.2
  obtain ⟨c0, c1, c2, c3, c4, i1, i2, i3, i4⟩ := fs.get
  obtain ⟨_, d0⟩ := hI
  refine .seq (fun K5 d6 => .seq (fun K6 e2 => .region (.mv rfl (.mv rfl (.q rfl (.nilCheck rfl) (.q rfl (.fieldAddr fo_27_0_B rfl) (.q rfl (.lA on_2_A rfl) (.q rfl (.cmp rfl rfl rfl) (.nil (e2 _ _ ?_))))))))))
  refine .cond rfl ?_ ?_ <;> intro d2
  ·
   try simp only [sps] at d2
   refine .skip (d6 _ _ (.seq (fun K7 e0 => .block (.seq (fun K8 e1 => .region (.mv rfl (.nil (e1 _ _ (.block ?_)))))))))
   refine .loopF (σ := Nat) [0, 3, 4] (fun j => [(5, some (.int .i64 (j : Int)))]) (fun j H' => St [] HL1 H' ∧ (j : Int) ≤ f.s.obj ∧ ∀ y, y < j → ∀ i, i < (f.t.hom (f.ob.getD k 0) (f.ob.getD y 0)).length → (f.t.hom (f.ob.getD k 0) (f.ob.getD y 0)).getD i 0 ∈ thenL (f.s.hom k y) f.ar) (fun j => (f.s.obj - j : Int).toNat) (0) rfl (.p rfl) ?_ ?_
   ·
    refine ⟨.refl _ _, ?_⟩
    exact ⟨by omega, fun _ _ => by omega⟩
   rintro j _ ⟨e, hI⟩ _ b8
   dsimp only [cA, nA]
   have _ := e.nx
   replace r := r.st e (fun k hk => trivial)
   replace d := d.sA e
   replace h := b.mono r
   clear fs ft a0 a2 j1 j2 hm hi hms his hmt hit c0 c1 c2 c3 c4 i1 i2 i3 i4
   obtain ⟨fs, ft, a0, a2, j1, j2⟩ := h.get
   have hm : MemN _ _ _ _ _ := ⟨rfl, h.1⟩
   have hi := h.2
   have hms : MemN _ _ _ _ _ := ⟨rfl, fs.1⟩
   have his := fs.2
   have hmt : MemN _ _ _ _ _ := ⟨rfl, ft.1⟩
   have hit := ft.2
   obtain ⟨c0, c1, c2, c3, c4, i1, i2, i3, i4⟩ := fs.get
   obtain ⟨_, d3⟩ := hI
   refine .seq (fun K9 e3 => .seq (fun K10 a9 => .region (.mv rfl (.mv rfl (.q rfl (.nilCheck rfl) (.q rfl (.fieldAddr fo_27_0_B rfl) (.q rfl (.lA on_2_A rfl) (.q rfl (.cmp rfl rfl rfl) (.nil (a9 _ _ ?_))))))))))
   refine .cond rfl ?_ ?_ <;> intro d1
   ·
    simp only [sps] at d1
    have _ : ∀ i, i < (f.s.hom k j).length → 0 ≤ (f.s.hom k j).getD i 0 ∧ (f.s.hom k j).getD i 0 < f.ar.length := fun i hi => by
      obtain ⟨a, _, _, _, _⟩ := f.s.hom_get hi
      omega
    have _ := f.s.hom_le k j
    have _ := f.t.hom_le (f.ob.getD k 0) (f.ob.getD j 0)
    have _ := length_thenL (f.s.hom k j) f.ar
    refine .skip (e3 _ _ (.seq (fun K11 c7 => .block (.seq (fun K12 b1 => ?_)))))
    refine .regionD mo_B (.qs [0, 1, 2, 4, 5, 6, 7] (.c 3 1 (.c 8 0 (.q 9 (.done))))) (by kernel_rfl) ?_
    refine .mv rfl rfl (.mv rfl rfl (.mv rfl rfl (.mv rfl rfl (.q rfl (.nilCheck rfl) (.q rfl (.fieldAddr fo_40_3_G rfl) (.q rfl (.lA on_24_B rfl) ?_))))))
    refine .call1 rfl rfl rfl rfl rfl @Try.call92 rfl (hom_c) ?_
    rintro _ _ ⟨z, _, rfl, n, _⟩
    have a7 := z
    refine ⟨a7, ?_⟩
    have _ := z.1
    replace r := r.trans z
    replace d := d.le z
    replace e := e.le z
    have _ := GHeap.ltg n
    replace h := b.mono r
    clear fs ft a0 a2 j1 j2 hm hi hms his hmt hit c0 c1 c2 c3 c4 i1 i2 i3 i4
    obtain ⟨fs, ft, a0, a2, j1, j2⟩ := h.get
    have hm : MemN _ _ _ _ _ := ⟨rfl, h.1⟩
    have hi := h.2
    have hms : MemN _ _ _ _ _ := ⟨rfl, fs.1⟩
    have his := fs.2
    have hmt : MemN _ _ _ _ _ := ⟨rfl, ft.1⟩
    have hit := ft.2
    obtain ⟨c0, c1, c2, c3, c4, i1, i2, i3, i4⟩ := fs.get
    have a8 := Ints.of_get n
    refine .call0 rfl rfl rfl rfl rfl @Try.call115 rfl (implThen_c) ?_
    rintro _ _ ⟨w, _, rfl, v, _⟩
    have _ := w.1
    replace r := r.trans w
    replace d := d.le w
    replace e := e.le w
    replace n := w.2 _ _ n
    have _ := GHeap.ltg v
    replace h := b.mono r
    clear fs ft a0 a2 j1 j2 hm hi hms his hmt hit c0 c1 c2 c3 c4 i1 i2 i3 i4
    obtain ⟨fs, ft, a0, a2, j1, j2⟩ := h.get
    have hm : MemN _ _ _ _ _ := ⟨rfl, h.1⟩
    have hi := h.2
    have hms : MemN _ _ _ _ _ := ⟨rfl, fs.1⟩
    have his := fs.2
    have hmt : MemN _ _ _ _ _ := ⟨rfl, ft.1⟩
    have hit := ft.2
    obtain ⟨c0, c1, c2, c3, c4, i1, i2, i3, i4⟩ := fs.get
    clear a8
    have a8 := Ints.of_get n
    have c9 := Ints.of_get v
    refine .mv rfl rfl (.done (b1 _ _ (.seq (fun K13 c6 => ?_))))
    refine .regionD mo_B (.qs [0, 1, 2, 3, 4, 5, 6, 7, 8, 9, 10, 11, 12, 13, 14, 15, 16, 19] (.c 17 1 (.q 18 (.done)))) (by kernel_rfl) ?_
    refine .mv rfl rfl (.q rfl (.nilCheck rfl) (.q rfl (.fieldAddr fo_40_1_G rfl) (.mv rfl rfl (.q rfl (.nilCheck rfl) (.q rfl (.fieldAddr fo_40_2_G rfl) (.q rfl (.lA on_24_B rfl) (.mv rfl rfl (.q rfl (.iN sl_24_A rfl rfl) (.q rfl (.lI on_2_A rfl) (.mv rfl rfl (.q rfl (.nilCheck rfl) (.q rfl (.fieldAddr fo_40_2_G rfl) (.q rfl (.lA on_24_B rfl) (.mv rfl rfl (.q rfl (.iN sl_24_A rfl rfl) ?_)))))))))))))))
    refine .q rfl (.lI on_2_A rfl) (.mv rfl rfl ?_)
    refine .call1 rfl rfl rfl rfl rfl @Try.call92 rfl (hom_c) ?_
    rintro _ d9 ⟨u, _, rfl, a3, _⟩
    have a7 := u
    refine ⟨a7, ?_⟩
    have _ := u.1
    replace r := r.trans u
    replace d := d.le u
    replace e := e.le u
    replace n := u.2 _ _ n
    replace v := u.2 _ _ v
    have _ := GHeap.ltg a3
    replace h := b.mono r
    clear fs ft a0 a2 j1 j2 hm hi hms his hmt hit c0 c1 c2 c3 c4 i1 i2 i3 i4
    obtain ⟨fs, ft, a0, a2, j1, j2⟩ := h.get
    have hm : MemN _ _ _ _ _ := ⟨rfl, h.1⟩
    have hi := h.2
    have hms : MemN _ _ _ _ _ := ⟨rfl, fs.1⟩
    have his := fs.2
    have hmt : MemN _ _ _ _ _ := ⟨rfl, ft.1⟩
    have hit := ft.2
    obtain ⟨c0, c1, c2, c3, c4, i1, i2, i3, i4⟩ := fs.get
    clear a8
    have a8 := Ints.of_get n
    clear c9
    have c9 := Ints.of_get v
    have _ := Ints.of_get a3
    refine .m rfl rfl rfl rfl a7 (.len sl_24_A rfl) (.done (c6 _ _ (.block ?_)))
    refine .loopF (σ := Nat) [0, 3, 4, 5, 6, 54, 55] (fun l => [(56, some (.int .i64 (l : Int)))]) (fun l H' => d9 = H' ∧ (l : Int) ≤ (f.t.hom (f.ob.getD k 0) (f.ob.getD j 0)).length ∧ ∀ i, i < l → (f.t.hom (f.ob.getD k 0) (f.ob.getD j 0)).getD i 0 ∈ thenL (f.s.hom k j) f.ar) (fun l => ((f.t.hom (f.ob.getD k 0) (f.ob.getD j 0)).length - l : Int).toNat) (0) rfl (.p rfl) ?_ ?_
    ·
     refine ⟨rfl, ?_⟩
     exact ⟨by omega, fun _ _ => by omega⟩
    rintro l _ ⟨rfl, hI⟩ _ b2
    dsimp only [cA, nA]
    obtain ⟨_, c8⟩ := hI
    refine .seq (fun K14 b0 => .region (.q rfl (.cmp rfl rfl rfl) (.nil (b0 _ _ (.seq (fun K15 b7 => ?_))))))
    refine .cond rfl ?_ ?_ <;> intro d4
    ·
     try simp only [sps] at d4
     refine .skip (b7 _ _ (.seq (fun K16 b4 => .block (.seq (fun K17 c5 => .region ?_)))))
     refine .q rfl (.idxN sl_24_A (by first | assumption | exact SlA.of_row a3 (by first | rfl | (simp; done) | (simp <;> omega))) rfl rfl (by omega)) ?_
     refine .q rfl (.loadI on_2_A (by first | assumption | exact Ints.of_get a3) rfl (by omega)) ?_
     refine .mv rfl (.nil (c5 _ _ (.seq (fun K18 b3 => .region (.mv rfl (.mv rfl ?_))))))
     refine .callQ rfl rfl rfl rfl @Try.call116 rfl (has_c) ?_
     refine .q rfl (.not rfl) (.nil (b3 _ _ ?_))
     refine .cond rfl ?_ ?_ <;> intro a6
     ·
      try simp only [sps] at a6
      refine .seq (fun K19 b5 => .region (.mv rfl (.nil (b5 _ _ (.ret (a5 _ _ (⟨_, rfl, ?_⟩)))))))
      exact ⟨congrArg _ (B_false fun hF => by
        have := hF k (by omega) j (by omega) l (by omega)
        rw [← List.contains_iff_mem] at this
        rw [this] at a6; cases a6), r⟩
     try simp only [sps] at a6
     refine .skip (b4 _ _ (.region (.q rfl (.aD rfl rfl rfl) (.mv rfl (.nil ?_)))))
     refine b2 (l + 1) _ _ ?_ ?_ (.p rfl)
     ·
      refine ⟨rfl, ?_⟩
      refine ⟨by omega, fun i hx => ?_⟩
      by_cases hltq : i < l
      · exact c8 i hltq
      · obtain rfl : i = l := by omega
        exact List.contains_iff_mem.1 a6
     omega
    try simp only [sps] at d4
    refine .exit (c7 _ _ (.region (.mv rfl (.q rfl (.aD rfl rfl rfl) (.mv rfl (.nil ?_))))))
    refine b8 (j + 1) _ _ ?_ ?_ (.p rfl)
    ·
     refine ⟨e, ?_⟩
     refine ⟨by omega, fun y hx => ?_⟩
     by_cases hltq : y < j
     · exact d3 y hltq
     · obtain rfl : y = j := by omega
       exact fun i hi => c8 i (by omega)
    omega
   try simp only [sps] at d1
   refine .exit (e0 _ _ (.region (.mv rfl (.q rfl (.aD rfl rfl rfl) (.mv rfl (.nil ?_))))))
   refine b9 (k + 1) _ _ ?_ ?_ (.p rfl)
   ·
    refine ⟨d, ?_⟩
    refine ⟨by omega, fun x hx => ?_⟩
    by_cases hltq : x < k
    · exact d0 x hltq
    · obtain rfl : x = k := by omega
      exact fun y hy => d3 y (by omega)
   omega
  try simp only [sps] at d2
  refine .exit (d8 _ _ (.seq (fun K20 b6 => .region (.mv rfl (.nil (b6 _ _ (.ret (a5 _ _ (⟨_, rfl, ?_⟩)))))))))
  exact ⟨congrArg _ (B_true fun x hx => d0 x (by omega)), r⟩
theorem isFaithful_c {g o : Nat} {f : Fun} {p : FunP} {H : GHeap} (h : Fun.At H g o f p := by assumption) (hI : f.Is := by assumption) :
    GCalls Try.prog 62 [.pointer (some ⟨g, o, none⟩)] H (Ret (.bool (B f.Faithful)) H) := by
  have hSs := hI.1.1
  refine GCalls.body (N := 53) (rs := [.tmp 2]) Try.func62 rfl rfl rfl rfl (fun Qx d hend => ?_)
  refine .fg [0] rfl ?_
  obtain ⟨_, -, -, _, -, _⟩ := h.get
  have _ := hI.2.2.al
  have _ := hSs.n40
  have _ := hSs.tl
  refine .seq (fun K1 a3 => .region (.mv rfl (.nil (a3 _ _ (.seq (fun K2 a4 => .seq (fun K3 a5 => .region (.mv rfl (.q rfl (.nilCheck rfl) (.q rfl (.fieldAddr fo_40_3_G rfl) (.q rfl (.lA on_24_B rfl) (.q rfl (.len sl_24_A rfl) (.mv rfl (.nil (a5 _ _ ?_)))))))))))))))
  refine .block ?_
  refine .loopF (σ := Nat) [0, 9] (fun k => [(10, some (.int .i64 (k : Int)))]) (fun k H' => H = H' ∧ (k : Int) ≤ f.ar.length ∧ ∀ a, a < k → ∀ b : Nat, b < a → ¬ (f.s.src.getD a 0 = f.s.src.getD b 0 ∧ f.s.tgt.getD a 0 = f.s.tgt.getD b 0 ∧ f.ar.getD a 0 = f.ar.getD b 0)) (fun k => (f.ar.length - k : Int).toNat) (0) rfl (.p rfl) ?_ ?_
  ·
   refine ⟨rfl, ?_⟩
   exact ⟨by omega, fun _ _ => by omega⟩
  rintro k _ ⟨rfl, hI⟩ _ w
  dsimp only [cA, nA]
  obtain ⟨_, a1⟩ := hI
  refine .seq (fun K4 b1 => .region (.q rfl (.cmp rfl rfl rfl) (.nil (b1 _ _ (.seq (fun K5 b0 => ?_))))))
  refine .cond rfl ?_ ?_ <;> intro a2
  ·
   try simp only [sps] at a2
   refine .skip (b0 _ _ (.seq (fun K6 a7 => .block (.seq (fun K7 a6 => .region (.mv rfl (.mv rfl (.nil (a6 _ _ (.seq (fun K8 a8 => .region (.mv rfl (.q rfl (.nilCheck rfl) (.q rfl (.fieldAddr fo_40_3_G rfl) (.q rfl (.lA on_24_B rfl) ?_)))))))))))))))
   refine .mv rfl ?_
   refine .q rfl (.sliceTo sl_24_A rfl rfl (by omega)) ?_
   refine .q rfl (.len sl_24_A rfl) (.mv rfl (.nil (a8 _ _ (.block ?_))))
   refine .loopF (σ := Nat) [0, 3, 9, 10, 19] (fun j => [(20, some (.int .i64 (j : Int)))]) (fun j H' => H = H' ∧ (j : Int) ≤ k ∧ ∀ b, b < j → ¬ (f.s.src.getD k 0 = f.s.src.getD b 0 ∧ f.s.tgt.getD k 0 = f.s.tgt.getD b 0 ∧ f.ar.getD k 0 = f.ar.getD b 0)) (fun j => (k - j : Int).toNat) (0) rfl (.p rfl) ?_ ?_
   ·
    refine ⟨rfl, ?_⟩
    exact ⟨by omega, fun _ _ => by omega⟩
   rintro j _ ⟨rfl, hI⟩ _ i
   dsimp only [cA, nA]
   obtain ⟨_, u⟩ := hI
   refine .seq (fun K9 a9 => .region (.q rfl (.cmp rfl rfl rfl) (.nil (a9 _ _ (.seq (fun K10 n => ?_))))))
   refine .cond rfl ?_ ?_ <;> intro a0
   ·
    try simp only [sps] at a0
    refine .skip (n _ _ (.seq (fun K11 m => .block (.seq (fun K12 t => .region (.mv rfl (.mv rfl (.nil (t _ _ (.seq (fun K13 l => ?_)))))))))))
    refine .regionD mo_B (.qs [0, 1, 2, 3, 4, 5, 6, 7, 8, 9, 10, 11, 12, 13, 14, 15, 16, 17, 18, 19, 21, 22, 23, 24] (.c 20 1 (.c 25 0 (.q 26 (.q 27 (.done)))))) (by kernel_rfl) ?_
    refine .mv rfl rfl (.q rfl (.nilCheck rfl) (.q rfl (.fieldAddr fo_40_3_G rfl) (.q rfl (.lA on_24_B rfl) (.mv rfl rfl (.q rfl (.iN sl_24_A rfl rfl) (.q rfl (.lI on_2_A rfl) (.mv rfl rfl (.q rfl (.nilCheck rfl) (.q rfl (.fieldAddr fo_40_3_G rfl) (.q rfl (.lA on_24_B rfl) (.mv rfl rfl (.q rfl (.iN sl_24_A rfl rfl) (.q rfl (.lI on_2_A rfl) (.q rfl (.cmp rfl rfl rfl) (.mv rfl rfl ?_)))))))))))))))
    refine .split (fun y => ?_) (fun y => ?_)
    ·
     try simp only [sps] at y
     refine .qg rfl (.move rfl) (.qg rfl (.nilCheck rfl) (.qg rfl (.fieldAddr fo_40_0_G rfl) (.qg rfl (.move rfl) (.qg rfl (.move rfl) (.qg rfl (.nilCheck rfl) (.qg rfl (.fieldAddr fo_40_0_G rfl) (.qg rfl (.move rfl) ?_)))))))
     refine .callQ1g rfl rfl rfl rfl rfl rfl rfl @Try.call86 rfl (ends_c) (.refl _) ?_
     refine .callQ0g rfl rfl rfl rfl rfl rfl rfl @Try.call86 rfl (ends_c) ?_
     refine .qg rfl (.aggEq eg_100_B rfl rfl rfl rfl (aggEq_100 _ _ _ _)) (.q rfl (.pickT rfl rfl) (.done (l _ _ ?_)))
     refine .cond rfl ?_ ?_ <;> intro e
     ·
      try simp only [sps] at e
      refine .seq (fun K14 r => .region (.mv rfl (.nil (r _ _ (.ret (d _ _ (⟨_, rfl, ?_⟩)))))))
      exact .of (congrArg _ (B_false fun hF => hF k (by omega) j (by omega) (by simp only [Int.toNat_natCast] at e; omega)))
     try simp only [sps] at e
     refine .skip (m _ _ (.region (.q rfl (.aD rfl rfl rfl) (.mv rfl (.nil ?_)))))
     refine i (j + 1) _ _ ?_ ?_ (.p rfl)
     ·
      refine ⟨rfl, ?_⟩
      refine ⟨by omega, fun b hx => ?_⟩
      by_cases hltq : b < j
      · exact u b hltq
      · obtain rfl : b = j := by omega
        first | omega | (simp only [Int.toNat_natCast] at e; omega)
     omega
    try simp only [sps] at y
    refine .z rfl (.z rfl (.z rfl (.z rfl (.z rfl (.z rfl (.z rfl (.z rfl (.sgc rfl rfl rfl rfl rfl rfl (.sgc rfl rfl rfl rfl rfl rfl (.z rfl (.q rfl (.pickF rfl rfl) (.done (l _ _ ?_)))))))))))))
    refine .condF rfl ?_
    refine .skip (m _ _ (.region (.q rfl (.aD rfl rfl rfl) (.mv rfl (.nil ?_)))))
    refine i (j + 1) _ _ ?_ ?_ (.p rfl)
    ·
     refine ⟨rfl, ?_⟩
     refine ⟨by omega, fun b hx => ?_⟩
     by_cases hltq : b < j
     · exact u b hltq
     · obtain rfl : b = j := by omega
       first | omega | (simp only [Int.toNat_natCast] at e; omega)
    omega
   try simp only [sps] at a0
   refine .exit (a7 _ _ (.region (.q rfl (.aD rfl rfl rfl) (.mv rfl (.nil ?_)))))
   refine w (k + 1) _ _ ?_ ?_ (.p rfl)
   ·
    refine ⟨rfl, ?_⟩
    refine ⟨by omega, fun a hx => ?_⟩
    by_cases hltq : a < k
    · exact a1 a hltq
    · obtain rfl : a = k := by omega
      exact fun b hb => u b (by omega)
   omega
  try simp only [sps] at a2
  refine .exit (a4 _ _ (.seq (fun K15 v => .region (.mv rfl (.nil (v _ _ (.ret (d _ _ (⟨_, rfl, ?_⟩)))))))))
  exact .of (congrArg _ (B_true fun x hx => a1 x (by omega)))
theorem isOnto_c {g o : Nat} {f : Fun} {p : FunP} {H : GHeap} (h : Fun.At H g o f p := by assumption) (hI : f.Is := by assumption) :
    GCalls Try.prog 97 [.pointer (some ⟨g, o, none⟩)] H (Ret (.bool (B f.Onto)) H) := by
  have hTs := hI.2.1.1
  refine GCalls.body (N := 32) (rs := [.tmp 2]) Try.func97 rfl rfl rfl rfl (fun Qx a hend => ?_)
  refine .fg [0] rfl ?_
  have _ := GHeap.Le.refl H
  have _ := h
  obtain ⟨fs, ft, _, -, _, -⟩ := h.get
  have _ : MemN _ _ _ _ _ := ⟨rfl, h.1⟩
  have _ := h.2
  have _ : MemN _ _ _ _ _ := ⟨rfl, fs.1⟩
  have _ := fs.2
  have _ : MemN _ _ _ _ _ := ⟨rfl, ft.1⟩
  have _ := ft.2
  obtain ⟨_, -, -, -, -, -, -, -, -⟩ := ft.get
  have _ := hI.2.2.ol
  have _ := hTs.obj
  have _ := hI.1.1.obj
  refine .seq (fun K1 a0 => .region (.mv rfl (.nil (a0 _ _ ?_))))
  refine .scope ?_
  refine .seq (fun K2 a1 => ?_)
  refine .label ?_
  refine a1 _ _ (.seq (fun K3 a2 => .seq (fun K4 a8 => .region (.mv rfl (.nil (a8 _ _ (.block ?_)))))))
  refine .loopF (σ := Nat) [0] (fun k => [(3, some (.int .i64 (k : Int)))]) (fun k H' => H = H' ∧ (k : Int) ≤ f.t.obj ∧ ∀ y, y < k → ∃ x, x < f.ob.length ∧ f.t.Alike (f.ob.getD x 0) y) (fun k => (f.t.obj - k : Int).toNat) (0) rfl (.p rfl) ?_ ?_
  ·
   refine ⟨rfl, ?_⟩
   exact ⟨by omega, fun _ _ => by omega⟩
  rintro k _ ⟨rfl, hI⟩ _ n
  dsimp only [cA, nA]
  obtain ⟨_, v⟩ := hI
  refine .seq (fun K5 a7 => .seq (fun K6 a4 => .region (.mv rfl (.mv rfl (.q rfl (.nilCheck rfl) (.q rfl (.fieldAddr fo_40_1_G rfl) (.q rfl (.fieldAddr fo_27_0_B rfl) (.q rfl (.lA on_2_A rfl) (.q rfl (.cmp rfl rfl rfl) (.nil (a4 _ _ ?_)))))))))))
  refine .cond rfl ?_ ?_ <;> intro z
  ·
   try simp only [sps] at z
   refine .skip (a7 _ _ (.seq (fun K7 a3 => .block (.seq (fun K8 a5 => .seq (fun K9 a6 => .region (.mv rfl (.q rfl (.nilCheck rfl) (.q rfl (.fieldAddr fo_40_2_G rfl) (.q rfl (.lA on_24_B rfl) (.q rfl (.len sl_24_A rfl) (.mv rfl (.nil (a6 _ _ (.block ?_)))))))))))))))
   refine .loopF (σ := Nat) [0, 3, 18, 19] (fun j => [(20, some (.int .i64 (j : Int)))]) (fun j H' => H = H' ∧ (j : Int) ≤ f.ob.length ∧ ∀ x, x < j → ¬ f.t.Alike (f.ob.getD x 0) k) (fun j => (f.ob.length - j : Int).toNat) (0) rfl (.p rfl) ?_ ?_
   ·
    refine ⟨rfl, ?_⟩
    exact ⟨by omega, fun _ _ => by omega⟩
   rintro j _ ⟨rfl, hI⟩ _ m
   dsimp only [cA, nA]
   obtain ⟨_, w⟩ := hI
   refine .seq (fun K10 b => .region (.q rfl (.cmp rfl rfl rfl) (.nil (b _ _ (.seq (fun K11 s => ?_))))))
   refine .cond rfl ?_ ?_ <;> intro u
   ·
    try simp only [sps] at u
    refine .skip (s _ _ (.seq (fun K12 d => .block (.seq (fun K13 r => .region (.q rfl (.iN sl_24_A rfl rfl) (.q rfl (.lI on_2_A rfl) (.mv rfl (.nil (r _ _ (.seq (fun K14 c => .region (.mv rfl (.q rfl (.nilCheck rfl) (.q rfl (.fieldAddr fo_40_1_G rfl) ?_)))))))))))))))
    refine .mv rfl (.mv rfl ?_)
    refine .callQ rfl rfl rfl rfl @Try.call117 rfl (isomorphic_c) ?_
    refine .q rfl (.cmp rfl rfl rfl) (.nil (c _ _ ?_))
    refine .cond rfl ?_ ?_ <;> intro e
    ·
     try simp only [sps] at e
     refine .exit (a3 _ _ (.region (.mv rfl (.q rfl (.aD rfl rfl rfl) (.mv rfl (.nil ?_))))))
     refine n (k + 1) _ _ ?_ ?_ (.p rfl)
     ·
      refine ⟨rfl, ?_⟩
      refine ⟨by omega, fun y hx => ?_⟩
      by_cases hltq : y < k
      · exact v y hltq
      · obtain rfl : y = k := by omega
        exact ⟨j, by omega, Cat.iso_ge.1 e⟩
     omega
    try simp only [sps] at e
    refine .skip (d _ _ (.region (.q rfl (.aD rfl rfl rfl) (.mv rfl (.nil ?_)))))
    refine m (j + 1) _ _ ?_ ?_ (.p rfl)
    ·
     refine ⟨rfl, ?_⟩
     refine ⟨by omega, fun x hx => ?_⟩
     by_cases hltq : x < j
     · exact w x hltq
     · obtain rfl : x = j := by omega
       rw [← Cat.iso_ge]; omega
    omega
   try simp only [sps] at u
   refine .exit (a5 _ _ (.seq (fun K15 l => .region (.mv rfl (.nil (l _ _ (.ret (a _ _ (⟨_, rfl, ?_⟩)))))))))
   exact .of (congrArg _ (B_false fun hF => by
     obtain ⟨x, hx, hy⟩ := hF k (by omega)
     exact w x (by omega) hy))
  try simp only [sps] at z
  refine .exit (a2 _ _ (.seq (fun K16 i => .region (.mv rfl (.nil (i _ _ (.ret (a _ _ (⟨_, rfl, ?_⟩)))))))))
  exact .of (congrArg _ (B_true fun x hx => v x (by omega)))
theorem isEquivalence_c {g o : Nat} {f : Fun} {p : FunP} {H : GHeap} (h : Fun.At H g o f p := by assumption) (hI : f.Is := by assumption) :
    GCalls Try.prog 61 [.pointer (some ⟨g, o, none⟩)] H (Ret (.bool (B f.Equiv)) H) := by
  refine GCalls.body (N := 13) (rs := [.tmp 2]) Try.func61 rfl rfl rfl rfl (fun Qx a hend => ?_)
  refine .fg [0] rfl ?_
  refine .seq (fun K1 c => .region (.mv rfl (.nil (c _ _ (.seq (fun K2 b => .region (.mv rfl ?_)))))))
  refine .callQ rfl rfl rfl rfl @Try.call96 rfl (isFull_c) ?_
  refine .mv rfl ?_
  refine .split (fun h5 => ?_) (fun h5 => ?_)
  ·
   try simp only [sps] at h5
   refine .qg rfl (.move rfl) ?_
   refine .callQg rfl rfl rfl rfl rfl rfl @Try.call62 rfl (isFaithful_c) ?_
   refine .q rfl (.pickT rfl rfl) (.mv rfl ?_)
   refine .split (fun h9 => ?_) (fun h9 => ?_)
   ·
    try simp only [sps] at h9
    refine .qg rfl (.move rfl) ?_
    refine .callQg rfl rfl rfl rfl rfl rfl @Try.call97 rfl (isOnto_c) ?_
    refine .q rfl (.pickT rfl rfl) (.mv rfl (.nil (b _ _ (.ret (a _ _ (⟨_, rfl, ?_⟩))))))
    first
    | exact .of (congrArg _ (B_congr ⟨fun hE => hE.2.2, fun hO => ⟨by assumption, by assumption, hO⟩⟩))
    | exact .of (congrArg _ (B_false fun hE => absurd hE.1 (by assumption)))
    | exact .of (congrArg _ (B_false fun hE => absurd hE.2.1 (by assumption)))
   try simp only [sps] at h9
   refine .z rfl (.z rfl (.q rfl (.pickF rfl rfl) (.mv rfl (.nil (b _ _ (.ret (a _ _ (⟨_, rfl, ?_⟩))))))))
   first
   | exact .of (congrArg _ (B_congr ⟨fun hE => hE.2.2, fun hO => ⟨by assumption, by assumption, hO⟩⟩))
   | exact .of (congrArg _ (B_false fun hE => absurd hE.1 (by assumption)))
   | exact .of (congrArg _ (B_false fun hE => absurd hE.2.1 (by assumption)))
  try simp only [sps] at h5
  refine .z rfl (.z rfl (.q rfl (.pickF rfl rfl) (.mv rfl (.z rfl (.z rfl (.q rfl (.pickF rfl rfl) (.mv rfl (.nil (b _ _ (.ret (a _ _ (⟨_, rfl, ?_⟩))))))))))))
  first
  | exact .of (congrArg _ (B_congr ⟨fun hE => hE.2.2, fun hO => ⟨by assumption, by assumption, hO⟩⟩))
  | exact .of (congrArg _ (B_false fun hE => absurd hE.1 (by assumption)))
  | exact .of (congrArg _ (B_false fun hE => absurd hE.2.1 (by assumption)))
theorem asked_c {g o : Nat} {f : Fun} {p : FunP} {fn : Nat} {b : Bool} {H : GHeap} (h : Fun.At H g o f p := by assumption) (hsm : f.Small := by assumption) (hcall : ∀ (xs : Array Value) (w : World), (callFunc fn xs).run Try.prog w = .ok (.enter fn xs) w)
    (hq : f.Is → GCalls Try.prog fn [.pointer (some ⟨g, o, none⟩)] H (Ret (.bool b) H)) :
    GCalls Try.prog 56 [.pointer (some ⟨g, o, none⟩), .func (.func fn) #[] #[]] H (Ret (.tuple #[.bool (B f.Is && b), .int .i64 (bif B f.Is then 0 else 1)]) H) := by
  refine GCalls.body (N := 12) (rs := [.tmp 4, .tmp 5]) Try.func56 rfl rfl rfl rfl (fun Qx a hend => ?_)
  refine .fg [0, 1] rfl ?_
  refine .seq (fun K1 e => .region (.mv rfl (.mv rfl (.nil (e _ _ (.seq (fun K2 c => .seq (fun K3 d => .region (.mv rfl ?_)))))))))
  refine .callQ rfl rfl rfl rfl @Try.call91 rfl (isFunctor_c) ?_
  refine .q rfl (.not rfl) (.nil (d _ _ ?_))
  refine .cond rfl ?_ ?_ <;> intro h8
  ·
   try simp only [sps] at h8
   refine .seq (fun K4 j => .region (.mv rfl (.mv rfl (.nil (j _ _ (.ret (a _ _ (⟨_, _, rfl, rfl, ?_⟩))))))))
   exact .of (by rw [B_false h8]; rfl)
  try simp only [sps] at h8
  refine .skip (c _ _ (.seq (fun K5 i => .region (.mv rfl (.mv rfl ?_)))))
  refine .callV rfl rfl rfl rfl rfl hcall rfl ((hq h8)) ?_
  rintro _ _ ⟨rfl, rfl⟩
  refine .mv rfl (.mv rfl (.nil (i _ _ (.ret (a _ _ (⟨_, _, rfl, rfl, ?_⟩))))))
  exact .of (by rw [B_true h8]; rfl)
theorem implIsEquivalence_c {f : Fun} {p : FunP} {H : GHeap} (hin : f.In H p := by assumption) (hsm : f.Small := by assumption) :
    GCalls Try.prog 24 [.agg (f.cells p).toArray] H (Ret (.tuple #[.bool (B f.Is && B f.Equiv), .int .i64 (bif B f.Is then 0 else 1)]) H) := by
  refine GCalls.ret rfl ?_
  refine GCalls.body (N := 7) (rs := [.tmp 2, .tmp 3]) Try.func24 rfl rfl rfl rfl (fun Qx c hend => ?_)
  refine .fg [0] rfl ?_
  have b := GHeap.Le.refl H
  have a := hin
  refine .seq (fun K1 h => .region ?_)
  refine .R rfl (.boxR rfl sz_40_I rfl) ?_
  rintro _ _ ⟨g1, rfl, e, _, i⟩
  replace b := b.trans e
  replace hin := a.mono b
  have d : Fun.At _ g1 0 f p := ⟨Mem.of_get i, hin⟩
  refine .mv rfl (.mv rfl (.nil (h _ _ (.seq (fun K2 g => .region ?_)))))
  refine .callQ rfl rfl rfl rfl @Try.call56 rfl (asked_c d hsm @Try.call61 (fun hI => isEquivalence_c d hI)) ?_
  refine .q rfl (.extract rfl rfl) (.q rfl (.extract rfl rfl) (.mv rfl (.mv rfl (.nil (g _ _ (.ret (c _ _ (⟨_, _, rfl, rfl, ?_⟩))))))))
  exact ⟨rfl, b⟩
end Go.Proofs.Ytfanjkbaemhbmaa
namespace Go.Proofs.Ytfanjkbaemhbmaa
open Go Go.GL Go.RowKit Go.Proofs
end Go.Proofs.Ytfanjkbaemhbmaa
namespace Go.Proofs.Ytfanjkbaemhbmaa
open Go Go.GL Go.RowKit Go.Proofs
end Go.Proofs.Ytfanjkbaemhbmaa
namespace Go.Proofs.Ytfanjkbaemhbmaa
open Go Go.GL Go.RowKit Go.Proofs
end Go.Proofs.Ytfanjkbaemhbmaa
namespace Go.GL

def NoMove (xs : List Int) : Prop := ∀ i : Nat, i < xs.length → xs.getD i 0 = i
structure Prof.Sized (m : Prof) : Prop where
  sl : (m.sz.length : Int) = m.s.obj
  bl : m.be.length = m.s.src.length
  hl : m.bh.length = m.t.src.length
  row : ∀ x, x < m.sz.length → ((m.sz.getD x []).length : Int) = m.t.obj
  rng : ∀ x, x < m.sz.length → ∀ y, y < (m.sz.getD x []).length → 0 ≤ (m.sz.getD x []).getD y 0 ∧ (m.sz.getD x []).getD y 0 ≤ 64
def Prof.BeOk (m : Prof) (a y : Nat) : Prop :=
  (((m.be.getD a []).getD y []).length : Int) = (m.sz.getD (m.s.tgt.getD a 0).toNat []).getD y 0 ∧ allIn ((m.be.getD a []).getD y []) ((m.sz.getD (m.s.src.getD a 0).toNat []).getD y 0) = true
def Prof.BhOk (m : Prof) (b x : Nat) : Prop :=
  (((m.bh.getD b []).getD x []).length : Int) = (m.sz.getD x []).getD (m.t.src.getD b 0).toNat 0 ∧ allIn ((m.bh.getD b []).getD x []) ((m.sz.getD x []).getD (m.t.tgt.getD b 0).toNat 0) = true
structure Prof.Maps (m : Prof) : Prop where
  be : ∀ a, a < m.be.length → ((m.be.getD a []).length : Int) = m.t.obj ∧ ∀ y, y < (m.be.getD a []).length → m.BeOk a y
  bh : ∀ b, b < m.bh.length → ((m.bh.getD b []).length : Int) = m.s.obj ∧ ∀ x, x < (m.bh.getD b []).length → m.BhOk b x
structure Prof.Shape (m : Prof) : Prop where
  s : m.s.Is
  t : m.t.Is
  z : m.Sized
  ok : m.Maps
structure Prof.Acts (m : Prof) : Prop where
  idb : ∀ y : Nat, (y : Int) < m.t.obj → ∀ x : Nat, (x : Int) < m.s.obj → NoMove ((m.be.getD (m.s.idn.getD x 0).toNat []).getD y []) ∧ NoMove ((m.bh.getD (m.t.idn.getD y 0).toNat []).getD x [])
  thb : ∀ y : Nat, (y : Int) < m.t.obj → ∀ a : Nat, a < m.s.src.length → ∀ b : Nat, b < m.s.src.length → 0 ≤ (m.s.comp.getD a []).getD b 0 →
    (m.be.getD ((m.s.comp.getD a []).getD b 0).toNat []).getD y [] = thenL ((m.be.getD b []).getD y []) ((m.be.getD a []).getD y [])
  thh : ∀ x : Nat, (x : Int) < m.s.obj → ∀ a : Nat, a < m.t.src.length → ∀ b : Nat, b < m.t.src.length → 0 ≤ (m.t.comp.getD a []).getD b 0 →
    (m.bh.getD ((m.t.comp.getD a []).getD b 0).toNat []).getD x [] = thenL ((m.bh.getD a []).getD x []) ((m.bh.getD b []).getD x [])
def Prof.MixAt (m : Prof) (a b : Nat) : Prop :=
  thenL ((m.be.getD a []).getD (m.t.src.getD b 0).toNat []) ((m.bh.getD b []).getD (m.s.src.getD a 0).toNat []) = thenL ((m.bh.getD b []).getD (m.s.tgt.getD a 0).toNat []) ((m.be.getD a []).getD (m.t.tgt.getD b 0).toNat [])
def Prof.Mix (m : Prof) : Prop := ∀ a, a < m.s.src.length → ∀ b, b < m.t.src.length → m.MixAt a b
def Prof.Is (m : Prof) : Prop := m.Shape ∧ m.Acts ∧ m.Mix

def sumN (f : Nat → Int) : Nat → Int
  | 0 => 0
  | n + 1 => sumN f n + f n
def Prof.diag (m : Prof) (i : Nat) : Int := (m.sz.getD i []).getD i 0
noncomputable def Prof.code (m : Prof) : Int := bif B m.Is then (bif B (m.s = m.t) then 0 else 5) else 1
noncomputable def Prof.place (m : Prof) (x e : Int) : Int × Int := bif B (m.code = 0) then (bif B (0 ≤ x ∧ x < m.s.obj ∧ 0 ≤ e ∧ e < m.diag x.toNat) then (sumN m.diag x.toNat + e, 0) else (0, 2)) else (0, m.code)
abbrev L3 := List (List (List Int))
def Prof.CoOk (m n : Prof) (c : L3) (x y : Nat) : Prop := (((c.getD x []).getD y []).length : Int) = (m.sz.getD x []).getD y 0 ∧ allIn ((c.getD x []).getD y []) ((n.sz.getD x []).getD y 0) = true
structure Prof.Rows (m n : Prof) (c : L3) : Prop where
  cl : (c.length : Int) = m.s.obj
  row : ∀ x, x < c.length → ((c.getD x []).length : Int) = m.t.obj ∧ ∀ y, y < (c.getD x []).length → m.CoOk n c x y
def Prof.NatB (m n : Prof) (c : L3) (a y : Nat) : Prop :=
  thenL ((m.be.getD a []).getD y []) ((c.getD (m.s.src.getD a 0).toNat []).getD y []) = thenL ((c.getD (m.s.tgt.getD a 0).toNat []).getD y []) ((n.be.getD a []).getD y [])
def Prof.NatH (m n : Prof) (c : L3) (b x : Nat) : Prop :=
  thenL ((m.bh.getD b []).getD x []) ((c.getD x []).getD (m.t.tgt.getD b 0).toNat []) = thenL ((c.getD x []).getD (m.t.src.getD b 0).toNat []) ((n.bh.getD b []).getD x [])
structure Prof.IsMap (m n : Prof) (c : L3) : Prop where
  rows : m.Rows n c
  nb : ∀ a, a < m.s.src.length → ∀ y : Nat, (y : Int) < m.t.obj → m.NatB n c a y
  nh : ∀ b, b < m.t.src.length → ∀ x : Nat, (x : Int) < m.s.obj → m.NatH n c b x
end Go.GL
namespace Go.Proofs.Ytfanjkbaemhbmaa
open Go Go.GL Go.RowKit Go.Proofs
end Go.Proofs.Ytfanjkbaemhbmaa
namespace Go.GL
open Go.RowKit
theorem CDo.appendL {P : Program} {H : GHeap} {fr : Slots} {o : Oper} {t tx e e' : TypeId} {s x : Operand} {g n bytes : Nat} {a : Option Addr} {z : List Value} {ys xs : List Int} (ho : o.op = .call { callee := .builtin .append, args := #[s, x], argTypes := #[t, tx] }) (ht : sliceT P t = some (e, 1)) (hz : zeroT P e = some (z, 1)) (hzn : z.length = 1)
    (hb : (P.info? e).map (·.bytes) = some bytes) (htx : sliceT P tx = some (e', 1)) (hsv : ev fr s = some (.slice (some ⟨g, 0, none⟩) n n)) (hx : ev fr x = some (.slice a xs.length xs.length)) (hg : H.get g = some (.row (ints ys) e true)) (hxs : Ints H a xs) (hend : n = ys.length)
    (hN : n + xs.length ≤ 16777216) (hB : (n + xs.length) * bytes ≤ 140737488355328) :
    CDo P o fr H (fun r H' => ∃ g', r = some (.slice (some ⟨g', 0, none⟩) (n + xs.length) (n + xs.length)) ∧ St [g] H H' ∧ H.next ≤ g' ∧ H'.get g' = some (.row (ints (ys ++ xs)) e true)) := by
  have e1 : ints (ys ++ xs) = (ints ys).drop 0 ++ ints xs := by simp [ints]
  rw [e1]
  refine .appendR (off := 0) (cs := ints ys) (news := ints xs) ho ht hz hzn hb hsv hg (by simp; omega) ?_ hN hB
  rcases hxs with h0 | ⟨g', off, rfl, hc⟩
  · obtain rfl : xs = [] := List.eq_nil_of_length_eq_zero h0
    exact .empty htx hx
  · exact .slice htx hx (by simp) (fun i v hv => by
      have hi : i < xs.length := by have := (List.getElem?_eq_some_iff.1 hv).1; simpa using this
      rw [ints_get hi] at hv
      cases hv
      exact hc i hi) (fun v hv => by
      simp only [ints, List.mem_map] at hv
      obtain ⟨m, _, rfl⟩ := hv
      rfl)

section
variable {P : Program} {B : Nat} {w0 : World} {ρ : Place} {H : GHeap} {w : World} {fr : Slots} {o : Oper} {R : Option Value → GHeap → Prop}
end
end Go.GL
namespace Go.GL
def least (K : Nat → Nat → Bool) (i : Nat) : Nat := ((List.range i).find? fun j => K j i).getD i
def reps (K : Nat → Nat → Bool) (m : Nat) : Nat := ((List.range m).filter fun j => least K j == j).length
def clsAt (K : Nat → Nat → Bool) (i : Nat) : Int := (reps K (least K i) : Int)
def clsL (K : Nat → Nat → Bool) (n : Nat) : List Int := (List.range n).map (clsAt K)
structure Eqv (K : Nat → Nat → Bool) (n : Nat) : Prop where
  rf : ∀ a, a < n → K a a = true
  sy : ∀ a b, a < n → b < n → K a b = true → K b a = true
  tr : ∀ a b c, a < n → b < n → c < n → K a b = true → K b c = true → K a c = true
def kerB (xs : List Int) (a b : Nat) : Bool := xs.getD a 0 == xs.getD b 0
def idxL (xs : List Int) (v : Int) : Int := match firstN xs.length fun i => xs.getD i 0 == v with | some i => (i : Int) | none => -1
def part0 (n : Nat) (f : Nat → Int) (k : Nat) : List Int := (List.range n).map fun i => bif decide (i < k) then f i else 0
@[simp] theorem length_part0 (n : Nat) (f : Nat → Int) (k : Nat) : (part0 n f k).length = n := by simp [part0]
theorem part0_get {n : Nat} {f : Nat → Int} {k i : Nat} (h : i < n) : (part0 n f k).getD i 0 = bif decide (i < k) then f i else 0 := by simp [part0, List.getD_eq_getElem?_getD, h]
theorem part0_zero (n : Nat) (f : Nat → Int) : part0 n f 0 = List.replicate n 0 := by
  refine eq_of_getD (by simp) fun i hi => ?_
  simp only [List.length_replicate] at hi
  rw [part0_get hi, List.getD_eq_getElem?_getD, List.getElem?_replicate, if_pos hi]
  rfl
theorem part0_set {n : Nat} {f : Nat → Int} {k : Nat} {v : Int} (hk : k < n) (hv : v = f k) : part0 n f (k + 1) = (part0 n f k).set k v := by
  refine eq_of_getD (by simp) fun i hi => ?_
  simp only [List.length_set, length_part0] at hi
  rw [getD_set (by simpa using hk), part0_get hi, part0_get hi]
  by_cases e : i = k
  · subst e
    rw [if_pos rfl, hv]
    simp
  · rw [if_neg e]
    have : decide (i < k + 1) = decide (i < k) := by simp; omega
    rw [this]
theorem part0_all (n : Nat) (f : Nat → Int) : part0 n f n = (List.range n).map f := List.map_congr_left fun i hi => by
  have : decide (i < n) = true := by simpa using List.mem_range.1 hi
  rw [this]; rfl
structure Forest (j : List Int) : Prop where
  up : ∀ x, x < j.length → 0 ≤ j.getD x 0 ∧ j.getD x 0 ≤ (x : Int)
end Go.GL
