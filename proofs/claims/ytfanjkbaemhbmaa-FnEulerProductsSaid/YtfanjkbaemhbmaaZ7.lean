/- What a caller hands in, brought into a ghost heap; the last step of a row that says 'true, and the arguments read as they did'. No condition. -/
import Derived.Test.YtfanjkbaemhbmaaZ6
import Derived.Below
import Derived.ChangeSame
import Derived.ChangeSlices
import Derived.Deep.Slices
import Derived.Deep.Matrix
import Derived.WideKeyArgs
import Derived.MapKept
namespace Go.GL
open Go.RowKit Go.WideShapes Go.ChangeShapes Go.Deep

def GHeap.gap (H : GHeap) : GHeap := ⟨H.objs ++ [none]⟩
@[simp] theorem GHeap.next_gap (H : GHeap) : H.gap.next = H.next + 1 := by simp [GHeap.next, GHeap.gap]
theorem GHeap.get_gap (H : GHeap) (g : Nat) : H.gap.get g = H.get g := by
  unfold GHeap.get GHeap.gap
  simp only
  rcases Nat.lt_or_ge g H.objs.length with hl | hl
  · rw [List.getElem?_append_left hl]
  · rw [List.getElem?_append_right hl, List.getElem?_eq_none hl]
    rcases Nat.eq_zero_or_pos (g - H.objs.length) with e | e
    · rw [e]; rfl
    · rw [List.getElem?_eq_none (by simp; omega)]
theorem GHeap.le_gap (H : GHeap) : H.Le H.gap := ⟨by simp, fun g o h => by rw [GHeap.get_gap]; exact h⟩

section
variable {P : Program} {B : Nat} {w0 : World} {ρ : Place} {H : GHeap} {w : World}

theorem Sim.start (P : Program) (W : World) : Sim P W.heap.size W (fun _ => none) ⟨[]⟩ W :=
  ⟨fun _ _ => rfl, fun g o h => by simp [GHeap.get] at h, fun g g' o o' s s' h => by simp [GHeap.get] at h, Nat.le_refl _, .refl _ _⟩

theorem Sim.gap (hs : Sim P B w0 ρ H w) (s : Spot) : Sim P B w0 (place ρ H.next s) H.gap w ∧ Ext ρ (place ρ H.next s) := by
  have hext : Ext ρ (place ρ H.next s) := place_ext (hs.dom _ (Nat.le_refl _))
  refine ⟨⟨fun g hg => ?_, fun g o hg => ?_, fun g g' o o' t t' h1 h2 h3 h4 h5 h6 h7 => ?_, hs.base, hs.below⟩, hext⟩
  · simp at hg
    unfold place
    rw [if_neg (by omega)]
    exact hs.dom g (by omega)
  · rw [GHeap.get_gap] at hg
    exact (hs.live g o hg).keep hext fun _ _ => rfl
  · rw [GHeap.get_gap] at h1 h2
    have e1 := GHeap.ltg h1
    have e2 := GHeap.ltg h2
    unfold place at h6 h7
    rw [if_neg (by omega)] at h6 h7
    exact hs.apart g g' o o' t t' h1 h2 h3 h4 h5 h6 h7

theorem Sim.look (hs : Sim P B w0 ρ H w) {b : Nat} {C : Array Value} {e : TypeId} {fz : Nat × Nat} (hb : b < B) (hw : w.heap[b]? = some (.cells C e fz)) {off k : Nat} {vs : List Value} (hl : off + vs.length ≤ C.size)
    (hv : ∀ (i : Nat) (v : Value), vs[i]? = some v → ∃ c, C[off + i]? = some c ∧ VRel ρ v c) :
    Sim P B w0 (place ρ H.next ⟨b, off, C.size, k⟩) (H.push (.row vs e false)) w ∧ Ext ρ (place ρ H.next ⟨b, off, C.size, k⟩) := by
  have hext : Ext ρ (place ρ H.next ⟨b, off, C.size, k⟩) := place_ext (hs.dom _ (Nat.le_refl _))
  refine ⟨⟨fun g hg => ?_, fun g o hg => ?_, fun g g' o o' t t' h1 h2 h3 h4 h5 h6 h7 => ?_, hs.base, hs.below⟩, hext⟩
  · simp at hg
    unfold place
    rw [if_neg (by omega)]
    exact hs.dom g (by omega)
  · rcases Nat.lt_or_ge g H.next with hlt | hge
    · rw [GHeap.get_push_lt hlt] at hg
      exact (hs.live g o hg).keep hext fun _ _ => rfl
    · have hg' : g = H.next := by have := GHeap.ltg hg; simp at this; omega
      subst hg'
      rw [GHeap.get_push_new] at hg
      cases hg
      exact ⟨_, C, fz, place_self, hw, rfl, hl, fun i v h => let ⟨c, h1, h2⟩ := hv i v h; ⟨c, h1, h2.mono hext⟩, fun h => (by cases h), fun _ => hb, fun h => (by cases h)⟩
  · have old : ∀ {k' : Nat} {x : GObj}, (H.push (.row vs e false)).get k' = some x → x.isOwn = true → k' < H.next ∧ H.get k' = some x := by
      intro k' x hx ho
      have hk := GHeap.ltg hx
      simp at hk
      rcases Nat.lt_or_ge k' H.next with hlt | hge
      · rw [GHeap.get_push_lt hlt] at hx; exact ⟨hlt, hx⟩
      · obtain rfl : k' = H.next := by omega
        rw [GHeap.get_push_new] at hx
        cases hx
        cases ho
    obtain ⟨a1, a2⟩ := old h1 h3
    obtain ⟨b1, b2⟩ := old h2 h4
    unfold place at h6 h7
    rw [if_neg (by omega)] at h6 h7
    exact hs.apart g g' o o' t t' a2 b2 h3 h4 h5 h6 h7

theorem Sim.list (hs : Sim P B w0 ρ H w) (hB : w.heap.size ≤ B) {a : Addr} {len cap : Nat} {V : Nat → Value} (hl : len ≤ cap) (hm : cap ≤ maxLen) (hcell : ∀ i, i < cap → w.cell? (a.add i) = some (V i)) {f : Nat → Value}
    (hf : ∀ i, i < len → VRel ρ (f i) (V i)) :
    ∃ a' ρ' H', Sim P B w0 ρ' H' w ∧ Ext ρ ρ' ∧ H.Le H' ∧ VRel ρ' (.slice a' len len) (.slice (some a) len cap) ∧ SlA H' a' len f := by
  rcases Nat.eq_zero_or_pos cap with e | hp
  · subst e
    obtain rfl : len = 0 := by omega
    obtain ⟨h1, h2⟩ := hs.gap ⟨0, 0, 0, 0⟩
    exact ⟨some ⟨H.next, 0, none⟩, _, _, h1, h2, H.le_gap, .empty place_self, .inl rfl⟩
  · have h0 := hcell 0 hp
    have hsp := World.cell?_spot h0
    obtain ⟨b, off, sp⟩ := a
    have hadd : ∀ i, (Addr.mk b off none).add i = ⟨b, off + i, none⟩ := fun i => by
      unfold Addr.add
      split
      · rename_i h; subst h; rfl
      · rfl
    obtain rfl : sp = none := by simpa [Addr.add] using hsp
    rw [hadd] at h0
    have hblk : ∃ C e fz, w.heap[b]? = some (.cells C e fz) := by
      unfold World.cell? at h0
      split at h0
      · exact ⟨_, _, _, by assumption⟩
      · cases h0
    obtain ⟨C, e, fz, hC⟩ := hblk
    have hc : ∀ i, i < cap → C[off + i]? = some (V i) := fun i hi => by
      have := hcell i hi
      rw [hadd] at this
      simpa [World.cell?, hC] using this
    have hsz : off + cap ≤ C.size := by
      have := (Array.getElem?_eq_some_iff.1 (hc (cap - 1) (by omega))).1
      omega
    have hbl : b < B := by
      have : b < w.heap.size := (Array.getElem?_eq_some_iff.1 hC).1
      omega
    obtain ⟨h1, h2⟩ := hs.look hbl hC (off := off) (k := 1) (vs := (List.range len).map f) (by simp; omega) (fun i v hv => by
      simp only [List.getElem?_map, Option.map_eq_some_iff] at hv
      obtain ⟨j, hj, rfl⟩ := hv
      have hj' := List.getElem?_eq_some_iff.1 hj
      simp at hj'
      obtain ⟨hi, rfl⟩ := hj'
      exact ⟨_, hc i (by omega), hf i hi⟩)
    refine ⟨some ⟨H.next, 0, none⟩, _, _, h1, h2, GHeap.le_push _ _, ?_, .inr ⟨H.next, 0, rfl, fun i hi => ?_⟩⟩
    · have := VRel.slice (ρ := place ρ H.next ⟨b, off, C.size, 1⟩) (g := H.next) (o := 0) (n := len) (cap := cap) place_self hl (by simp only; omega) hm
      simpa using this
    · rw [GHeap.cell_of (GHeap.get_push_new _ _)]
      simp [hi]
end

def Imports (P : Program) (t : TypeId) (R : Place → GHeap → List Value → Prop) : Prop :=
  ∀ {T : Type} {enc : TypeId × Value → T} {B : Nat} {w0 : World} {ρ : Place} {H : GHeap} {w : World} {held : Bool} {fuel : Nat} {cs : List Value} {x : DataW T × List MemPlace}, Sim P B w0 ρ H w → w.heap.size ≤ B →
    DataW.trod enc P w 0 (fun _ => true) held fuel t cs = some x → ∃ ρ' H', Sim P B w0 ρ' H' w ∧ Ext ρ ρ' ∧ H.Le H' ∧ R ρ' H' cs

theorem take_getD (zs : List Int) {n i : Nat} (hi : i < n) : (zs.take n).getD i 0 = zs.getD i 0 := by
  simp [List.getD_eq_getElem?_getD, List.getElem?_take, hi]
section
variable {P : Program} {T : Type} {enc : TypeId × Value → T} {B : Nat} {w0 : World} {ρ : Place} {H : GHeap} {w : World} {held : Bool} {n : Nat} {cs : List Value} {fs : Array Field} {xs : List (DataW T × List MemPlace)}
end

def readB (P : Program) (ts : List TypeId) : Bool := ts.all fun t => P.readableRec t && decide (t < P.types.size)

section
variable {T : Type} {enc : TypeId × Value → T} {P : Program}
theorem args_again (hl : laidOutB P = true) {W W' : World} (hb : Below W.heap.size W W') {sp : Nat → Bool} : ∀ {ts : List TypeId} {vs : List Value} {ds : List (DataW T)} {ps : List MemPlace}, readB P ts = true →
    DataW.TrodAll enc P W 0 (fun _ => true) true ts vs ds ps → (∀ p ∈ ps, p.block < W.heap.size) → (∀ p ∈ ps, sp p.block = true) → DataW.TrodAll enc P W' 0 sp true ts vs ds ps
  | [], _, _, _, _, h, _, _ => by
    obtain ⟨rfl, rfl, rfl⟩ := trodAll_nil h
    exact trodAll_mk0
  | t :: ts, _, _, _, hr, h, hlt, hsp => by
    obtain ⟨v, vs, d, ds, p, q, rfl, rfl, rfl, h1, h2⟩ := trodAll_cons h
    simp only [readB, List.all_cons, Bool.and_eq_true, decide_eq_true_eq] at hr
    exact ⟨p, q, WideElems.Trod_stays hl hr.1.1 hr.1.2 h1 (fun x hx => hb.same (hlt x (by simp [hx]))) (fun x hx => hsp x (by simp [hx])),
      args_again hl hb (by simpa only [readB, Bool.and_eq_true] using hr.2) h2 (fun x hx => hlt x (by simp [hx])) (fun x hx => hsp x (by simp [hx])), rfl⟩

theorem law_post {f : Func} {s : ChangeSpec} {apart fresh handsOn again : Bool} {W W' : World} {args : Array Value} {ds gs : List (DataW T)} {before : List MemPlace} {tb : TypeId}
    (hl : laidOutB P = true) (hr : readB P f.params.toList = true) (hv : s.vars = []) (hrt : f.resultTypes = #[tb]) (htb : P.underlying tb = some .bool)
    (hW : DataW.Whole enc P f.params.toList s.vars apart W args.toList ds gs before)
    (hsr : (s.fn T ds).results = [.lit (.bool true)]) (hsa : (s.fn T ds).args = ds) (hsv : (s.fn T ds).vars = []) (hb : Below W.heap.size W W') :
    s.post enc P f apart fresh handsOn again W args (.bool true) W' := by
  have hlt := hW.lt
  have hWW := hW
  obtain ⟨p, q, hA, hV, hpq, hfz, hnd⟩ := hW
  rw [hv] at hV
  obtain ⟨rfl, rfl⟩ := trodVars_none hV
  rw [List.append_nil] at hpq
  obtain rfl := hpq.symm
  have hres : ∀ (b : Nat) (sp : Nat → Bool) (hd : Bool), DataW.TrodAll enc P W' b sp hd f.resultTypes.toList ((Value.bool true).resultList f.resultTypes.size) (s.fn T (ds ++ [])).results [] := fun b sp hd => by
    rw [List.append_nil, hsr, hrt]
    exact trodAll_mk1 (shut_bool htb true)
  have hargs : ∀ sp : Nat → Bool, (∀ x ∈ p, sp x.block = true) → DataW.TrodAll enc P W' 0 sp true f.params.toList args.toList (s.fn T (ds ++ [])).args p := fun sp hsp => by
    rw [List.append_nil, hsa]
    exact args_again hl hb hr hA hlt hsp
  have hvars : ∀ sp : Nat → Bool, DataW.TrodVars enc P W' sp s.vars (s.fn T (ds ++ [])).vars [] := fun sp => by
    rw [List.append_nil, hsv, hv]
    rfl
  have hok : ∀ (j : Nat) (t : TypeId) (r : Value), f.resultTypes[j]? = some t → ((Value.bool true).resultList f.resultTypes.size)[j]? = some r → Value.okWide P W' .any 0 t r := ok_one hrt rfl (okWide_bool_mk htb true)
  refine ⟨ds, [], p, [], p, [], hWW, hres _ _ _, hargs _ fun x hx => by simpa using hlt x hx, hvars _, hb.frame _, fun _ => ⟨hok, _, _, ([] ++ p) ++ [], ⟨[] ++ p, [], trodAll_append (hargs (fun _ => true) fun _ _ => rfl) (hres _ _ _), hvars (fun _ => true), rfl, ?_, ?_⟩, ?_⟩⟩
  · intro b off hp
    have hin : MemPlace.cell b off ∈ p := by simpa using hp
    rw [hb.frozen (hlt _ hin)]
    exact hfz b off hin
  · intro ha
    simpa using hnd ha
  · intro x hx _
    simpa using hx
end

theorem eq_of_getD {xs ys : List Int} (hl : ys.length = xs.length) (h : ∀ i, i < xs.length → ys.getD i 0 = xs.getD i 0) : ys = xs := by
  apply List.ext_getElem hl
  intro i h1 h2
  have := h i h2
  simpa [List.getD_eq_getElem?_getD, h1, h2] using this
theorem ints_set (ys : List Int) (i : Nat) (v : Int) : (ints ys).set i (.int .i64 v) = ints (ys.set i v) := by simp [ints, List.map_set]
theorem SlA.of_row {H : GHeap} {g n : Nat} {cs : List Value} {e : TypeId} {own : Bool} (h : H.get g = some (.row cs e own)) (hn : cs.length = n) : SlA H (some ⟨g, 0, none⟩) n (fun i => cs.getD i (.bool false)) := by
  subst hn
  exact .inr ⟨g, 0, rfl, fun i hi => by rw [GHeap.cell_of h, Nat.zero_add]; simp [List.getD_eq_getElem?_getD, hi]⟩

def Keep (b : Nat) (H H' : GHeap) : Prop := ∀ g o, b ≤ g → H.get g = some o → H'.get g = some o
theorem Keep.of_le {b : Nat} {H H' : GHeap} (h : H.Le H') : Keep b H H' := fun g o _ => h.2 g o
def IntsAt (b : Nat) (H : GHeap) (a : Option Addr) (xs : List Int) : Prop := ∃ g e, a = some ⟨g, 0, none⟩ ∧ b ≤ g ∧ H.get g = some (.row (ints xs) e true)
def IntssAt (b : Nat) (H : GHeap) (a : Option Addr) (xss : List (List Int)) (r : Nat → Option Addr) : Prop :=
  ∃ g e cs, a = some ⟨g, 0, none⟩ ∧ b ≤ g ∧ H.get g = some (.row cs e true) ∧ cs.length = xss.length ∧ (∀ i, i < xss.length → cs[i]? = some (.slice (r i) (xss.getD i []).length (xss.getD i []).length)) ∧ ∀ i, i < xss.length → IntsAt b H (r i) (xss.getD i [])
theorem IntsAt.keep {b b' : Nat} {H H' : GHeap} {a : Option Addr} {xs : List Int} (h : IntsAt b H a xs) (hk : Keep b' H H') (hb : b' ≤ b) : IntsAt b' H' a xs :=
  let ⟨g, e, h1, h2, h3⟩ := h; ⟨g, e, h1, by omega, hk g _ (by omega) h3⟩
theorem IntssAt.keep {b b' : Nat} {H H' : GHeap} {a : Option Addr} {xss : List (List Int)} {r : Nat → Option Addr} (h : IntssAt b H a xss r) (hk : Keep b' H H') (hb : b' ≤ b) : IntssAt b' H' a xss r :=
  let ⟨g, e, cs, h1, h2, h3, h4, h5, h6⟩ := h; ⟨g, e, cs, h1, by omega, hk g _ (by omega) h3, h4, h5, fun i hi => (h6 i hi).keep hk hb⟩
theorem IntsAt.ints {b : Nat} {H : GHeap} {a : Option Addr} {xs : List Int} (h : IntsAt b H a xs) : Ints H a xs := by
  obtain ⟨g, e, rfl, _, h3⟩ := h
  exact Ints.of_get h3
theorem IntssAt.intss {b : Nat} {H : GHeap} {a : Option Addr} {xss : List (List Int)} {r : Nat → Option Addr} (h : IntssAt b H a xss r) : Intss H a xss r := by
  obtain ⟨g, e, cs, rfl, _, h3, h4, h5, h6⟩ := h
  exact ⟨.inr ⟨g, 0, rfl, fun i hi => by rw [GHeap.cell_of h3, Nat.zero_add]; exact h5 i hi⟩, fun i hi => (h6 i hi).ints⟩
structure Bld (H0 : GHeap) (b g2 g3 : Nat) (t : TypeId) (z cs : List Value) (H : GHeap) : Prop where
  le : H0.Le H
  a2 : H0.next ≤ g2
  l2 : g2 < b
  a3 : H0.next ≤ g3
  l3 : g3 < b
  ne : g2 ≠ g3
  res : H.get g2 = some (.row z t true)
  own : H.get g3 = some (.row cs t true)
  bn : b ≤ H.next
theorem setAll_gen (vs : List Value) : ∀ (pre a rest : List Value), a.length = vs.length → setAll (pre ++ (a ++ rest)) pre.length vs = pre ++ (vs ++ rest) := by
  induction vs with
  | nil => intro pre a rest h; obtain rfl := List.length_eq_zero_iff.1 (by simpa using h); rfl
  | cons v vs ih =>
    intro pre a rest h
    match a, h with
    | x :: a, h =>
      have e : (pre ++ (x :: a ++ rest)).set pre.length v = (pre ++ [v]) ++ (a ++ rest) := by simp [List.set_append]
      have := ih (pre ++ [v]) a rest (by simpa using h)
      rw [List.length_append] at this
      unfold setAll
      rw [e]
      simpa using this
theorem setAll_all (a vs : List Value) (h : a.length = vs.length) : setAll a 0 vs = vs := by
  have := setAll_gen vs [] a [] h
  simpa using this

end Go.GL
namespace Go.Proofs.Ytfanjkbaemhbmaa
open Go Go.GL Go.RowKit Go.Proofs
end Go.Proofs.Ytfanjkbaemhbmaa
namespace Go.Proofs.Ytfanjkbaemhbmaa
open Go Go.GL Go.RowKit Go.Proofs
theorem sl_95_F : sliceT Try.prog 95 = some (58, 1) := by kernel_rfl
theorem on_58_F : oneT Try.prog 58 = true := by kernel_rfl
theorem l01Same_c {a b : Option Addr} {xs ys : List Int} {H : GHeap} (h : Ints H a xs := by assumption) (h' : Ints H b ys := by assumption) (hx : xs.length ≤ 1048576 := by omega) (hy : ys.length ≤ 1048576 := by omega) :
    GCalls Try.prog 131 [.slice a xs.length xs.length, .slice b ys.length ys.length] H (Ret (.bool (decide (xs = ys))) H) := by
  refine GCalls.body (N := 26) (rs := [.tmp 4]) Try.func131 rfl rfl rfl rfl (fun Qx c hend => ?_)
  refine .fg [0, 1] rfl ?_
  refine .seq (fun K1 v => .region (.mv rfl (.nil (v _ _ (.seq (fun K2 s => .seq (fun K3 x => .region (.mv rfl (.q rfl (.len sl_24_A rfl) (.mv rfl (.q rfl (.len sl_24_A rfl) (.q rfl (.cmp rfl rfl rfl) (.nil (x _ _ ?_))))))))))))))
  refine .cond rfl (fun j => ?_) (fun j => ?_)
  ·
   try simp only [sps] at j
   refine .seq (fun K4 w => .region (.mv rfl (.nil (w _ _ ?_))))
   refine .ret ?_
   refine c _ _ ?_
   refine ⟨_, rfl, ?_⟩
   exact .of (congrArg _ (decide_eq_false fun e => by subst e; first | omega | simp_all))
  try simp only [sps] at j
  refine .skip ?_
  refine s _ _ (.seq (fun K5 r => .seq (fun K6 y => .region (.mv rfl (.nil (y _ _ ?_))))))
  refine .block ?_
  refine .loopR (σ := Nat) [(0, some _), (1, some _)] (fun k => [(5, some (.int .i64 (k : Int)))]) (fun k H' => H = H' ∧ k ≤ xs.length ∧ ∀ i, i < k → xs.getD i 0 = ys.getD i 0) (fun k => xs.length - k) (0) ⟨rfl, rfl, trivial⟩ ⟨rfl, trivial⟩ ?_ ?_
  ·
   refine ⟨rfl, ?_⟩
   exact ⟨by omega, fun i hi => by omega⟩
  rintro k _ ⟨rfl, hI⟩ KL1 f
  refine .forget (fr' := [(5, some (.int .i64 (k : Int))), (0, some _), (1, some _)]) ⟨rfl, rfl, rfl, trivial⟩ ?_
  obtain ⟨hk, d⟩ := hI
  refine .seq (fun K7 t => .seq (fun K8 u => .region (.mv rfl (.mv rfl (.q rfl (.len sl_24_A rfl) (.q rfl (.cmp rfl rfl rfl) (.nil (u _ _ ?_))))))))
  refine .cond rfl (fun m => ?_) (fun m => ?_)
  ·
   try simp only [sps] at m
   refine .skip ?_
   refine t _ _ (.seq (fun K9 p => ?_))
   refine .block ?_
   refine .seq (fun K10 o => ?_)
   refine .regionD mo_B (.q 0 (.q 1 (.q 2 (.q 3 (.q 4 (.q 5 (.q 6 (.q 7 (.q 8 (.done)))))))))) (by kernel_rfl) ?_
   refine .mv rfl rfl (.mv rfl rfl ?_)
   refine .q rfl (.idxN sl_24_A (by assumption) rfl rfl (by omega)) ?_
   refine .q rfl (.loadI on_2_A (by assumption) rfl (by omega)) ?_
   refine .mv rfl rfl (.mv rfl rfl ?_)
   refine .q rfl (.idxN sl_24_A (by assumption) rfl rfl (by omega)) ?_
   refine .q rfl (.loadI on_2_A (by assumption) rfl (by omega)) ?_
   refine .q rfl (.cmp rfl rfl rfl) ?_
   refine .done ?_
   refine o _ _ ?_
   refine .cond rfl (fun n => ?_) (fun n => ?_)
   ·
    try simp only [sps] at n
    refine .seq (fun K11 g => .region (.mv rfl (.nil (g _ _ ?_))))
    refine .ret ?_
    refine c _ _ ?_
    refine ⟨_, rfl, ?_⟩
    exact .of (congrArg _ (decide_eq_false fun e => by subst e; first | omega | simp_all))
   try simp only [sps] at n
   refine .skip ?_
   refine p _ _ (.region (.mv rfl ?_))
   refine .q rfl (.add rfl rfl rfl (by omega) (by omega)) ?_
   refine .mv rfl (.nil ?_)
   refine f (k + 1) _ _ ?_ ?_ ⟨rfl, rfl, rfl, trivial⟩
   ·
    refine ⟨rfl, ?_⟩
    refine ⟨by omega, fun i hi => ?_⟩
    by_cases e : i < k
    · exact d i e
    · obtain rfl : i = k := by omega
      assumption
   omega
  try simp only [sps] at m
  refine .exit ?_
  refine r _ _ (.seq (fun K12 l => .region (.mv rfl (.nil (l _ _ ?_)))))
  refine .ret ?_
  refine c _ _ ?_
  refine ⟨_, rfl, ?_⟩
  exact .of (congrArg _ (decide_eq_true (eq_of_getD (by omega) fun i hi => d i (by omega))))
theorem areCategories_c {a : Option Addr} {n : Nat} {G O : Nat → Nat} {C : Nat → Cat} {P : Nat → CatP} {H : GHeap} (h : SlA H a n (fun i => .pointer (some ⟨G i, O i, none⟩)) := by assumption) (hn : n ≤ 1048576 := by omega) (hc : ∀ i, i < n → Cat.At H (G i) (O i) (C i) (P i) := by assumption) (hs : ∀ i, i < n → (C i).Small := by assumption) :
    GCalls Try.prog 48 [.slice a n n] H (Ret (.bool (B (∀ i, i < n → (C i).Is))) H) := by
  refine GCalls.body (N := 15) (rs := [.tmp 2]) Try.func48 rfl rfl rfl rfl (fun Qx b hend => ?_)
  refine .fg [0] rfl ?_
  refine .seq (fun K1 s => .region (.mv rfl (.nil (s _ _ (.seq (fun K2 m => .seq (fun K3 t => .region (.mv rfl (.q rfl (.len sl_95_F rfl) (.mv rfl (.nil (t _ _ ?_))))))))))))
  refine .block ?_
  refine .loopR (σ := Nat) [(5, some _), (6, some _)] (fun k => [(7, some (.int .i64 (k : Int)))]) (fun k H' => H = H' ∧ k ≤ n ∧ ∀ i, i < k → (C i).Is) (fun k => n - k) (0) ⟨rfl, rfl, trivial⟩ ⟨rfl, trivial⟩ ?_ ?_
  ·
   refine ⟨rfl, ?_⟩
   exact ⟨by omega, fun i hi => by omega⟩
  rintro k _ ⟨rfl, hI⟩ KL1 d
  refine .forget (fr' := [(7, some (.int .i64 (k : Int))), (5, some _), (6, some _)]) ⟨rfl, rfl, rfl, trivial⟩ ?_
  obtain ⟨hk, c⟩ := hI
  refine .seq (fun K4 r => .region (.q rfl (.cmp rfl rfl rfl) (.nil (r _ _ (.seq (fun K5 l => ?_))))))
  refine .cond rfl (fun h8 => ?_) (fun h8 => ?_)
  ·
   try simp only [sps] at h8
   refine .skip ?_
   refine l _ _ (.seq (fun K6 u => ?_))
   refine .block ?_
   refine .seq (fun K7 o => .region ?_)
   have q1 := hc k (by omega)
   have q2 := hs k (by omega)
   refine .q rfl (.idxN sl_95_F h rfl rfl (by omega)) ?_
   refine .q rfl (.loadE on_58_F h rfl (by omega)) ?_
   refine .mv rfl (.nil (o _ _ (.seq (fun K8 p => .region (.mv rfl ?_)))))
   refine .callQ rfl rfl rfl rfl @Try.call34 rfl (isCategory_c) ?_
   refine .q rfl (.not rfl) (.nil (p _ _ ?_))
   refine .cond rfl (fun f => ?_) (fun f => ?_)
   ·
    try simp only [sps] at f
    refine .seq (fun K9 j => .region (.mv rfl (.nil (j _ _ ?_))))
    refine .ret ?_
    refine b _ _ ?_
    refine ⟨_, rfl, ?_⟩
    exact .of (congrArg _ (B_false fun e => by have := e k (by omega); simp_all))
   try simp only [sps] at f
   refine .skip ?_
   refine u _ _ (.region ?_)
   refine .q rfl (.add rfl rfl rfl (by omega) (by omega)) ?_
   refine .mv rfl (.nil ?_)
   refine d (k + 1) _ _ ?_ ?_ ⟨rfl, rfl, rfl, trivial⟩
   ·
    refine ⟨rfl, ?_⟩
    refine ⟨by omega, fun i hi => ?_⟩
    by_cases e : i < k
    · exact c i e
    · obtain rfl : i = k := by omega
      assumption
   omega
  try simp only [sps] at h8
  refine .exit ?_
  refine m _ _ (.seq (fun K10 g => .region (.mv rfl (.nil (g _ _ ?_)))))
  refine .ret ?_
  refine b _ _ ?_
  refine ⟨_, rfl, ?_⟩
  exact .of (congrArg _ (B_true fun i hi => c i (by omega)))
end Go.Proofs.Ytfanjkbaemhbmaa
namespace Go.GL

abbrev Fun.O (f : Fun) (x : Int) : Int := f.ob.getD x.toNat 0
abbrev Fun.A (f : Fun) (a : Int) : Int := f.ar.getD a.toNat 0
structure Fun.Fits (f : Fun) : Prop where
  ol : (f.ob.length : Int) = f.s.obj
  al : f.ar.length = f.s.src.length
  ob : ∀ i, i < f.ob.length → 0 ≤ f.ob.getD i 0 ∧ f.ob.getD i 0 < f.t.obj
  ar : ∀ i, i < f.ar.length → 0 ≤ f.ar.getD i 0 ∧ f.ar.getD i 0 < f.t.src.length
  ends : ∀ a, a < f.ar.length → f.t.src.getD (f.ar.getD a 0).toNat 0 = f.ob.getD (f.s.src.getD a 0).toNat 0 ∧ f.t.tgt.getD (f.ar.getD a 0).toNat 0 = f.ob.getD (f.s.tgt.getD a 0).toNat 0
  ids : ∀ x, x < f.s.idn.length → f.ar.getD (f.s.idn.getD x 0).toNat 0 = f.t.idn.getD (f.ob.getD x 0).toNat 0
  th : ∀ a, a < f.s.src.length → ∀ b, b < f.s.src.length → f.s.tgt.getD a 0 = f.s.src.getD b 0 → f.A (f.s.th a b) = f.t.th (f.ar.getD a 0) (f.ar.getD b 0)
def Fun.Is (f : Fun) : Prop := f.s.Is ∧ f.t.Is ∧ f.Fits

def Tra.Sq (m : Tra) (a : Nat) : Prop := m.s.t.th (m.s.ar.getD a 0) (m.co.getD (m.s.s.tgt.getD a 0).toNat 0) = m.s.t.th (m.co.getD (m.s.s.src.getD a 0).toNat 0) (m.t.ar.getD a 0)
structure Tra.Shape (m : Tra) : Prop where
  s : m.s.Is
  t : m.t.Is
  ps : m.s.s = m.t.s
  pt : m.s.t = m.t.t
  cl : (m.co.length : Int) = m.s.s.obj
  co : ∀ i, i < m.co.length → 0 ≤ m.co.getD i 0 ∧ m.co.getD i 0 < m.s.t.src.length
  ends : ∀ x, x < m.co.length → m.s.t.src.getD (m.co.getD x 0).toNat 0 = m.s.ob.getD x 0 ∧ m.s.t.tgt.getD (m.co.getD x 0).toNat 0 = m.t.ob.getD x 0
def Tra.Is (m : Tra) : Prop := m.Shape ∧ ∀ a, a < m.s.ar.length → m.Sq a
noncomputable def Tra.first (m : Tra) : Int := match firstN m.s.ar.length (fun a => !B (m.Sq a)) with | some a => (a : Int) | none => -1
section
variable {P : Program} {N : Nat} {ops : Array Oper} {Q : Slots → GHeap → Prop} {fr : Slots} {H Hb : GHeap}
end
end Go.GL
namespace Go.Proofs.Ytfanjkbaemhbmaa
open Go Go.GL Go.RowKit Go.Proofs
theorem two_sl {H : GHeap} {e : TypeId} {own : Bool} {g1 o1 g2 o2 k : Nat} (h : H.get k = some (.row [.pointer (some ⟨g1, o1, none⟩), .pointer (some ⟨g2, o2, none⟩)] e own)) :
    SlA H (some ⟨k, 0, none⟩) 2 (fun i => .pointer (some ⟨(if i = 0 then g1 else g2), (if i = 0 then o1 else o2), none⟩)) := by
  refine .inr ⟨k, 0, rfl, fun i hi => ?_⟩
  rw [GHeap.cell_of h, Nat.zero_add]
  match i, hi with
  | 0, _ => rfl
  | 1, _ => rfl
theorem areCategories2_c {k g1 o1 g2 o2 : Nat} {e : TypeId} {c1 c2 : Cat} {p1 p2 : CatP} {H : GHeap} (h : H.get k = some (.row [.pointer (some ⟨g1, o1, none⟩), .pointer (some ⟨g2, o2, none⟩)] e true) := by assumption)
    (h1 : Cat.At H g1 o1 c1 p1 := by assumption) (h2 : Cat.At H g2 o2 c2 p2 := by assumption) (hs1 : c1.Small := by assumption) (hs2 : c2.Small := by assumption) :
    GCalls Try.prog 48 [.slice (some ⟨k, 0, none⟩) 2 2] H (Ret (.bool (B (c1.Is ∧ c2.Is))) H) := by
  have := areCategories_c (two_sl h) (by omega) (C := fun i => if i = 0 then c1 else c2) (P := fun i => if i = 0 then p1 else p2)
    (fun i hi => by match i, hi with | 0, _ => exact h1 | 1, _ => exact h2) (fun i hi => by match i, hi with | 0, _ => exact hs1 | 1, _ => exact hs2)
  rw [B_congr (q := c1.Is ∧ c2.Is)] at this
  · exact this
  · exact ⟨fun h => ⟨h 0 (by omega), h 1 (by omega)⟩, fun h i hi => by match i, hi with | 0, _ => exact h.1 | 1, _ => exact h.2⟩
end Go.Proofs.Ytfanjkbaemhbmaa
namespace Go.Proofs.Ytfanjkbaemhbmaa
open Go Go.GL Go.RowKit Go.Proofs
end Go.Proofs.Ytfanjkbaemhbmaa
namespace Go.Proofs.Ytfanjkbaemhbmaa
open Go Go.GL Go.RowKit Go.Proofs
end Go.Proofs.Ytfanjkbaemhbmaa
namespace Go.GL
open Go.RowKit

def out : List Nat → Nat → Prop
  | [], _ => True
  | g :: r, k => k ≠ g ∧ out r k
structure St (bs : List Nat) (H H' : GHeap) : Prop where
  nx : H.next ≤ H'.next
  same : ∀ k o, out bs k → H.get k = some o → H'.get k = some o
theorem St.refl (bs : List Nat) (H : GHeap) : St bs H H := ⟨Nat.le_refl _, fun _ _ _ h => h⟩
theorem GHeap.Le.st {H0 H H' : GHeap} {bs : List Nat} (h : H0.Le H) (s : St bs H H') (hg : ∀ k, k < H0.next → out bs k) : H0.Le H' :=
  ⟨Nat.le_trans h.1 s.nx, fun k o hk => s.same k o (hg k (GHeap.ltg hk)) (h.2 k o hk)⟩
theorem St.le {bs : List Nat} {H0 H H' : GHeap} (s : St bs H0 H) (h : H.Le H') : St bs H0 H' := ⟨Nat.le_trans s.nx h.1, fun k o hk hg => h.2 k o (s.same k o hk hg)⟩
theorem St.st {bs cs : List Nat} {H0 H H' : GHeap} (s : St bs H0 H) (h : St cs H H') (hg : ∀ k, k < H0.next → out bs k → out cs k) : St bs H0 H' :=
  ⟨Nat.le_trans s.nx h.nx, fun k o hk h1 => h.same k o (hg k (GHeap.ltg h1) hk) (s.same k o hk h1)⟩
theorem St.sA {bs cs : List Nat} {H0 H H' : GHeap} (s : St bs H0 H) (h : St cs H H') (hg : ∀ k, k < H0.next → out bs k → out cs k := by intro k hk ho; simp only [out, and_true] at ho ⊢ <;> first | exact ho | exact ho.1 | exact ho.2 | exact ho.2.1 | exact ho.2.2 | exact ho.2.2.1 | exact ho.2.2.2 | omega) : St bs H0 H' := s.st h hg
theorem St.s {g k : Nat} {H H' : GHeap} {o : GObj} (s : St [g] H H') (h : H.get k = some o) (hne : k ≠ g := by first | assumption | omega) : H'.get k = some o := s.same k o ⟨hne, trivial⟩ h
theorem St.keep {bs : List Nat} {b : Nat} {H H' : GHeap} (s : St bs H H') (hg : ∀ k, b ≤ k → out bs k) : Keep b H H' := fun k o hk h => s.same k o (hg k hk) h
theorem Keep.le {b : Nat} {H0 H H' : GHeap} (k : Keep b H0 H) (h : H.Le H') : Keep b H0 H' := fun g o hb hg => h.2 g o (k g o hb hg)
theorem Keep.st {bs : List Nat} {b : Nat} {H0 H H' : GHeap} (k : Keep b H0 H) (h : St bs H H') (hg : ∀ k, b ≤ k → k < H0.next → out bs k) : Keep b H0 H' := fun g o hb h1 => h.same g o (hg g hb (GHeap.ltg h1)) (k g o hb h1)
theorem St.of_set {g : Nat} {H : GHeap} {o : Option GObj} : St [g] H (H.set g o) := ⟨by rw [GHeap.next_set]; exact Nat.le_refl _, fun k x hk h => by rw [GHeap.get_set_ne (Ne.symm hk.1)]; exact h⟩
theorem St.push {bs : List Nat} {H H' : GHeap} {o : GObj} (s : St bs H H') : St bs H (H'.push o) := ⟨by rw [GHeap.next_push]; have := s.nx; omega, fun k x hk h => GHeap.get_push_of (s.same k x hk h)⟩

section
variable {P : Program} {N : Nat} {ops : Array Oper} {Q : Slots → GHeap → Prop} {L : List (Oper × Nat)} {fr : Slots} {H Hb : GHeap} {o : Oper} {i : Nat} {t : Tree}
theorem CDo.mono {R R' : Option Value → GHeap → Prop} (h : CDo P o fr H R) (hi : ∀ v H', R v H' → R' v H') : CDo P o fr H R' :=
  .mkI fun l B w0 ρ a w hs hf next Qx hn => h.run l B w0 ρ a w hs hf next Qx fun ρ' v c H' w' hR => hn ρ' v c H' w' (hi v H' hR)
theorem GTree.mono {Q' : Slots → GHeap → Prop} (hq : ∀ fr H, Q' fr H → Q fr H) : ∀ {t : Tree} {fr : Slots} {Hb H : GHeap}, GTree P N ops Q' t fr Hb H → GTree P N ops Q t fr Hb H
  | .done, _, _, _, h => hq _ _ h
  | .q i t, fr, Hb, H, h => by
    unfold GTree at h ⊢
    obtain ⟨o, h1, h2, h3⟩ := h
    refine ⟨o, h1, h2, ?_⟩
    split
    · rename_i hg
      rw [hg] at h3
      obtain ⟨v, Hq, k1, k2, k3, k4⟩ := h3
      exact ⟨v, Hq, k1, k2, k3, GTree.mono hq k4⟩
    · rename_i j want hg
      rw [hg] at h3
      obtain ⟨s, c, k1, k2, kg, k3, k4⟩ := h3
      exact ⟨s, c, k1, k2, kg, fun e => let ⟨v, Hq, l1, l2, l3, l4⟩ := k3 e; ⟨v, Hq, l1, l2, l3, GTree.mono hq l4⟩, fun e => GTree.mono hq (k4 e)⟩
  | .c i k t, fr, Hb, H, h => by
    unfold GTree at h ⊢
    obtain ⟨o, h1, h2, h3⟩ := h
    refine ⟨o, h1, h2, ?_⟩
    split
    · rename_i hg
      rw [hg] at h3
      exact h3.mono fun v H' ⟨l1, l2⟩ => ⟨l1, GTree.mono hq l2⟩
    · rename_i j want hg
      rw [hg] at h3
      obtain ⟨s, c, k1, k2, kg, k3, k4⟩ := h3
      exact ⟨s, c, k1, k2, kg, fun e => (k3 e).mono fun v H' ⟨l1, l2⟩ => ⟨l1, GTree.mono hq l2⟩, fun e => GTree.mono hq (k4 e)⟩
  | .or s t, fr, Hb, H, h => by
    unfold GTree at h ⊢
    exact ⟨GTree.mono hq h.1, GTree.mono hq h.2⟩
theorem GTree.cut (rest : Slots) (hr : Sub rest fr) (R : Slots → Slots → GHeap → Prop) (h : GTree P N ops (R rest) t fr Hb H) (hq : ∀ fr' H', R rest fr' H' → Q fr' H') : GTree P N ops Q t fr Hb H := h.mono hq
theorem GTree.mB {d : Tmp} {v : Value} (hi : ops[i]? = some o) (hd : o.dst = some d) (hN : Nat.blt d N = true) (hg : o.guard = none) (hle : Hb.Le H) (hm : MStep P fr Hb o.op v) (h : GTree P N ops Q t ((d, some v) :: fr) Hb H) : GTree P N ops Q (.q i t) fr Hb H := by
  unfold GTree
  refine ⟨o, hi, by unfold dstOk; rw [hd]; exact hN, ?_⟩
  rw [hg]
  exact ⟨v, Hb, .refl _, hle, hm, by rw [hd]; exact h⟩
theorem GTree.qB {d : Tmp} {v : Value} (h : stpT ops i N = some (o, d)) (hle : Hb.Le H) (hm : MStep P fr Hb o.op v) (hq : GTree P N ops Q t ((d, some v) :: fr) Hb H) : GTree P N ops Q (.q i t) fr Hb H := by
  obtain ⟨h0, h4⟩ := stpT.spec h
  obtain ⟨h1, h2, h3⟩ := stpR.spec h4
  exact .mB h0 h1 h2 h3 hle hm hq
theorem GTree.orI {s : Tree} (h : GTree P N ops Q s fr Hb H) (h' : GTree P N ops Q t fr Hb H) : GTree P N ops Q (.or s t) fr Hb H := by unfold GTree; exact ⟨h, h'⟩
theorem GRun.r {d : Tmp} {R : Option Value → GHeap → Prop} (hd : o.dst = some d) (hN : Nat.blt d N = true) (hg : o.guard = none) (hc : CDo P o fr H R) (h : ∀ v H', R v H' → GRun P N ops Q L ((d, v) :: fr) H') : GRun P N ops Q ((o, 0) :: L) fr H :=
  .c hd hN hg (by simp) hc fun v H' hR => ⟨fun e => (by cases e), h v H' hR⟩
theorem GRun.R {d : Tmp} {R : Option Value → GHeap → Prop} (h0 : stpR o N = some d) (hc : CDo P o fr H R) (h : ∀ v H', R v H' → GRun P N ops Q L ((d, v) :: fr) H') : GRun P N ops Q ((o, 0) :: L) fr H := by
  obtain ⟨h1, h2, h3⟩ := stpR.spec h0
  exact .r h1 h2 h3 hc h
theorem GRun.r0 {R : Option Value → GHeap → Prop} (hd : o.dst = none) (hg : o.guard = none) (hc : CDo P o fr H R) (h : ∀ v H', R v H' → GRun P N ops Q L fr H') : GRun P N ops Q ((o, 0) :: L) fr H :=
  .c0 hd hg (by simp) hc fun v H' hR => ⟨fun e => (by cases e), h v H' hR⟩
theorem GTree.r0 {R : Option Value → GHeap → Prop} (hi : ops[i]? = some o) (hd : o.dst = none) (hg : o.guard = none) (hc : CDo P o fr H R) (h : ∀ v H', R v H' → GTree P N ops Q t fr H' H') : GTree P N ops Q (.c i 0 t) fr Hb H := by
  unfold GTree
  refine ⟨o, hi, by unfold dstOk; rw [hd], ?_⟩
  rw [hg]
  refine .mkI fun l B w0 ρ a w hs hf next Qx hn => ?_
  exact hc.run l B w0 ρ a w hs hf next Qx fun ρ' v c H' w' hR => hn ρ' v c H' w' ⟨fun e => (by cases e), by rw [hd, if_neg (by simp)]; exact h v H' hR⟩
theorem GTree.r1 {R : Option Value → GHeap → Prop} (hi : ops[i]? = some o) (hd : o.dst = none) (hg : o.guard = none) (hc : CDo P o fr H R) (h : ∀ v H', R v H' → Hb.Le H' ∧ GTree P N ops Q t fr Hb H') : GTree P N ops Q (.c i 1 t) fr Hb H := by
  unfold GTree
  refine ⟨o, hi, by unfold dstOk; rw [hd], ?_⟩
  rw [hg]
  refine .mkI fun l B w0 ρ a w hs hf next Qx hn => ?_
  exact hc.run l B w0 ρ a w hs hf next Qx fun ρ' v c H' w' hR => hn ρ' v c H' w' ⟨fun _ => (h v H' hR).1, by rw [hd, if_pos rfl]; exact (h v H' hR).2⟩
end

section
variable {P : Program} {H : GHeap} {fr : Slots} {o : Oper}
theorem CDo.boxR {e : TypeId} {x : Operand} {v : Value} {n : Nat} (ho : o.op = .box e x) (he : (P.info? e).map (·.size) = some n) (hx : ev fr x = some v) :
    CDo P o fr H (fun r H' => ∃ g, r = some (.pointer (some ⟨g, 0, none⟩)) ∧ H.Le H' ∧ H.next ≤ g ∧ H'.get g = some (.row v.cells.toList e true)) :=
  .box ho he hx ⟨_, rfl, GHeap.le_push _ _, Nat.le_refl _, GHeap.get_push_new _ _⟩
theorem CDo.allocR {e : TypeId} {z : List Value} {n : Nat} (ho : o.op = .alloc e) (hz : zeroT P e = some (z, n)) (hfl : z.all flat1 = true) :
    CDo P o fr H (fun r H' => ∃ g, r = some (.pointer (some ⟨g, 0, none⟩)) ∧ H.Le H' ∧ H.next ≤ g ∧ H'.get g = some (.row z e true)) :=
  .alloc ho hz hfl ⟨_, rfl, GHeap.le_push _ _, Nat.le_refl _, GHeap.get_push_new _ _⟩
theorem CDo.litR {t e : TypeId} {len n : Nat} {parts : Array (Nat × Operand)} {z vs cs : List Value} (ho : o.op = .buildSlice t len parts) (ht : sliceT P t = some (e, n)) (hz : zeroT P e = some (z, n)) (hfl : z.all flat1 = true) (hzn : z.length = n) (h0 : 0 < n)
    (hsm : len * n ≤ 16777216) (hv : evs fr (parts.toList.map (·.2)) = some vs) (hc : fillL (fun i => some (i * n, n)) (madeL z (len * n)) ((parts.toList.map (·.1)).zip vs) = some cs) :
    CDo P o fr H (fun r H' => ∃ g, r = some (.slice (some ⟨g, 0, none⟩) len len) ∧ H.Le H' ∧ H.next ≤ g ∧ H'.get g = some (.row cs e true)) :=
  .buildSlice ho ht hz hfl hzn h0 hsm hv hc ⟨_, rfl, GHeap.le_push _ _, Nat.le_refl _, GHeap.get_push_new _ _⟩
theorem CDo.makeV {t e : TypeId} {x y : Operand} {k k' : IntKind} {j c : Int} {bytes : Nat} {z : Value} (ho : o.op = .makeSlice t x y) (ht : sliceT P t = some (e, 1)) (hz : zeroT P e = some ([z], 1)) (hb : (P.info? e).map (·.bytes) = some bytes)
    (hfl : [z].all flat1 = true) (hx : ev fr x = some (.int k j)) (hy : ev fr y = some (.int k' c)) (h0 : 0 ≤ j) (hlc : j ≤ c) (hsm : bytes * c ≤ 281474976710656) (hsc : c ≤ 9223372036854775807) :
    CDo P o fr H (fun r H' => ∃ g, r = some (.slice (some ⟨g, 0, none⟩) j.toNat j.toNat) ∧ H.Le H' ∧ H.next ≤ g ∧ H'.get g = some (.row (List.replicate j.toNat z) e true)) := by
  have e1 : (j.toNat : Int) = j := Int.toNat_of_nonneg h0
  have e2 : (c.toNat : Int) = c := Int.toNat_of_nonneg (by omega)
  have e3 : bytes * c.toNat ≤ 281474976710656 := by
    have : ((bytes * c.toNat : Nat) : Int) ≤ 281474976710656 := by rw [Int.natCast_mul, e2]; exact hsm
    omega
  refine .makeSlice (l := j.toNat) (c := c.toNat) ho ht hz hb hfl rfl (by omega) (by rw [e1]; exact hx) (by rw [e2]; exact hy) (by omega) e3 (by omega) ⟨_, rfl, GHeap.le_push _ _, Nat.le_refl _, ?_⟩
  rw [GHeap.get_push_new, madeL_one, Nat.mul_one]
theorem CDo.makeI {t e : TypeId} {x y : Operand} {k k' : IntKind} {j c : Int} {bytes : Nat} (ho : o.op = .makeSlice t x y) (ht : sliceT P t = some (e, 1)) (hz : zeroT P e = some ([.int .i64 0], 1)) (hb : (P.info? e).map (·.bytes) = some bytes)
    (hx : ev fr x = some (.int k j)) (hy : ev fr y = some (.int k' c)) (h0 : 0 ≤ j) (hlc : j ≤ c) (hsm : bytes * c ≤ 281474976710656) (hsc : c ≤ 9223372036854775807) :
    CDo P o fr H (fun r H' => ∃ g, r = some (.slice (some ⟨g, 0, none⟩) j.toNat j.toNat) ∧ H.Le H' ∧ H.next ≤ g ∧ H'.get g = some (.row (ints (List.replicate j.toNat 0)) e true)) := by
  have : ints (List.replicate j.toNat 0) = List.replicate j.toNat (Value.int .i64 0) := by simp [ints]
  rw [this]
  exact .makeV ho ht hz hb rfl hx hy h0 hlc hsm hsc
theorem CDo.storeR {t : TypeId} {x y : Operand} {g off : Nat} {v : Value} {cs : List Value} {e : TypeId} (ho : o.op = .store t x y) (ht : (P.info? t).map (·.size) = some 1) (hx : ev fr x = some (.pointer (some ⟨g, off, none⟩))) (hy : ev fr y = some v)
    (h1 : v.oneCell' = true) (hg : H.get g = some (.row cs e true)) (hoff : off < cs.length) :
    CDo P o fr H (fun r H' => r = none ∧ St [g] H H' ∧ H'.get g = some (.row (cs.set off v) e true)) :=
  .store ho ht hx hy h1 hg hoff ⟨rfl, .of_set, GHeap.get_set_eq (GHeap.ltg hg)⟩
theorem CDo.storeI {t : TypeId} {x y : Operand} {g off : Nat} {m : Int} {ys : List Int} {e : TypeId} (ho : o.op = .store t x y) (ht : (P.info? t).map (·.size) = some 1) (hx : ev fr x = some (.pointer (some ⟨g, off, none⟩))) (hy : ev fr y = some (.int .i64 m))
    (hg : H.get g = some (.row (ints ys) e true)) (hoff : off < ys.length) :
    CDo P o fr H (fun r H' => r = none ∧ St [g] H H' ∧ H'.get g = some (.row (ints (ys.set off m)) e true)) := by
  rw [← ints_set]; exact .storeR ho ht hx hy rfl hg (by simpa using hoff)
theorem CDo.storeNR {t : TypeId} {x y : Operand} {g off n : Nat} {vs : Array Value} {cs : List Value} {e : TypeId} (ho : o.op = .store t x y) (ht : (P.info? t).map (·.size) = some n) (hx : ev fr x = some (.pointer (some ⟨g, off, none⟩))) (hy : ev fr y = some (.agg vs))
    (hn : vs.size = n) (h1 : vs.toList.all (·.oneCell') = true) (hg : H.get g = some (.row cs e true)) (hoff : off + n ≤ cs.length) :
    CDo P o fr H (fun r H' => r = none ∧ St [g] H H' ∧ H'.get g = some (.row (setAll cs off vs.toList) e true)) :=
  .storeN ho ht hx hy hn h1 hg hoff ⟨rfl, .of_set, GHeap.get_set_eq (GHeap.ltg hg)⟩
theorem CDo.fillR {t : TypeId} {x y : Operand} {g n : Nat} {vs : Array Value} {cs : List Value} {e : TypeId} (ho : o.op = .store t x y) (ht : (P.info? t).map (·.size) = some n) (hx : ev fr x = some (.pointer (some ⟨g, 0, none⟩))) (hy : ev fr y = some (.agg vs))
    (hn : vs.size = n) (h1 : vs.toList.all (·.oneCell') = true) (hg : H.get g = some (.row cs e true)) (hoff : cs.length = n) :
    CDo P o fr H (fun r H' => r = none ∧ St [g] H H' ∧ H'.get g = some (.row vs.toList e true)) := by
  have : setAll cs 0 vs.toList = vs.toList := setAll_all _ _ (by simp [hoff, hn])
  have h := CDo.storeNR (P := P) (H := H) ho ht hx hy hn h1 hg (by omega)
  rw [this] at h
  exact h
theorem CDo.litA {t e : TypeId} {len n : Nat} {parts : Array (Nat × Operand)} {z vs cs : List Value} (ho : o.op = .buildSlice t len parts) (ht : sliceT P t = some (e, n)) (hz : zeroT P e = some (z, n)) (hfl : z.all flat1 = true) (hzn : z.length = n) (hv : evs fr (parts.toList.map (·.2)) = some vs) (hc : fillL (fun i => some (i * n, n)) (madeL z (len * n)) ((parts.toList.map (·.1)).zip vs) = some cs) (h0 : 0 < n := by omega)
    (hsm : len * n ≤ 16777216 := by omega) : CDo P o fr H (fun r H' => ∃ g, r = some (.slice (some ⟨g, 0, none⟩) len len) ∧ H.Le H' ∧ H.next ≤ g ∧ H'.get g = some (.row cs e true)) := .litR ho ht hz hfl hzn h0 hsm hv hc
theorem CDo.fillA {t : TypeId} {x y : Operand} {g n : Nat} {vs : Array Value} {cs : List Value} {e : TypeId} (ho : o.op = .store t x y) (ht : (P.info? t).map (·.size) = some n) (hx : ev fr x = some (.pointer (some ⟨g, 0, none⟩))) (hy : ev fr y = some (.agg vs))
    (hn : vs.size = n) (h1 : vs.toList.all (·.oneCell') = true) (hg : H.get g = some (.row cs e true) := by assumption) (hoff : cs.length = n := by first | rfl | exact Nat.le_of_ble_eq_true rfl | simp) :
    CDo P o fr H (fun r H' => r = none ∧ St [g] H H' ∧ H'.get g = some (.row vs.toList e true)) := .fillR ho ht hx hy hn h1 hg hoff
theorem CDo.appendR {t tx e : TypeId} {s x : Operand} {g off n m sz bytes : Nat} {z cs news : List Value} (ho : o.op = .call { callee := .builtin .append, args := #[s, x], argTypes := #[t, tx] }) (ht : sliceT P t = some (e, sz)) (hz : zeroT P e = some (z, sz)) (hzn : z.length = sz)
    (hb : (P.info? e).map (·.bytes) = some bytes) (hsv : ev fr s = some (.slice (some ⟨g, off, none⟩) n n)) (hg : H.get g = some (.row cs e true)) (hend : off + n * sz = cs.length) (hsrc : SrcG P fr H sz tx x m news)
    (hN : n + m ≤ 16777216) (hB : (n + m) * bytes ≤ 140737488355328) :
    CDo P o fr H (fun r H' => ∃ g', r = some (.slice (some ⟨g', 0, none⟩) (n + m) (n + m)) ∧ St [g] H H' ∧ H.next ≤ g' ∧ H'.get g' = some (.row (cs.drop off ++ news) e true)) :=
  .append ho ht hz hzn hb hsv hg hend hsrc (by unfold maxLen; omega) hB ⟨_, rfl, .push .of_set, Nat.le_refl _, by have := GHeap.get_push_new (H.set g none) (.row (cs.drop off ++ news) e true); rwa [GHeap.next_set] at this⟩
theorem CDo.appendV {t tx e e' : TypeId} {s x : Operand} {g g1 n sz bytes : Nat} {z cs vs : List Value} (ho : o.op = .call { callee := .builtin .append, args := #[s, x], argTypes := #[t, tx] }) (ht : sliceT P t = some (e, sz)) (hz : zeroT P e = some (z, sz)) (hzn : z.length = sz)
    (hb : (P.info? e).map (·.bytes) = some bytes) (htx : sliceT P tx = some (e', sz)) (hsv : ev fr s = some (.slice (some ⟨g, 0, none⟩) n n)) (hx : ev fr x = some (.slice (some ⟨g1, 0, none⟩) 1 1)) (hg : H.get g = some (.row cs e true)) (hg1 : H.get g1 = some (.row vs e' true)) (hend : n * sz = cs.length)
    (hv : vs.length = sz) (hone : vs.all (·.oneCell') = true) (hN : n + 1 ≤ 16777216) (hB : (n + 1) * bytes ≤ 140737488355328) :
    CDo P o fr H (fun r H' => ∃ g', r = some (.slice (some ⟨g', 0, none⟩) (n + 1) (n + 1)) ∧ St [g] H H' ∧ H.next ≤ g' ∧ H'.get g' = some (.row (cs ++ vs) e true)) :=
  .appendR (cs := cs) (news := vs) ho ht hz hzn hb hsv hg (by omega) (.slice htx hx (by omega) (fun i v hv => by rw [GHeap.cell_of hg1, Nat.zero_add]; exact hv) (fun v hv => List.all_eq_true.1 hone v hv)) hN hB
theorem CDo.appendI {t tx e e' : TypeId} {s x : Operand} {g g1 n bytes : Nat} {z : List Value} {ys : List Int} {m : Int} (ho : o.op = .call { callee := .builtin .append, args := #[s, x], argTypes := #[t, tx] }) (ht : sliceT P t = some (e, 1)) (hz : zeroT P e = some (z, 1)) (hzn : z.length = 1)
    (hb : (P.info? e).map (·.bytes) = some bytes) (htx : sliceT P tx = some (e', 1)) (hsv : ev fr s = some (.slice (some ⟨g, 0, none⟩) n n)) (hx : ev fr x = some (.slice (some ⟨g1, 0, none⟩) 1 1)) (hg : H.get g = some (.row (ints ys) e true)) (hg1 : H.get g1 = some (.row [.int .i64 m] e' true)) (hend : n = ys.length)
    (hN : n + 1 ≤ 16777216) (hB : (n + 1) * bytes ≤ 140737488355328) :
    CDo P o fr H (fun r H' => ∃ g', r = some (.slice (some ⟨g', 0, none⟩) (n + 1) (n + 1)) ∧ St [g] H H' ∧ H.next ≤ g' ∧ H'.get g' = some (.row (ints (ys ++ [m])) e true)) := by
  have e1 : ints (ys ++ [m]) = ints ys ++ [.int .i64 m] := by simp [ints]
  rw [e1]
  exact .appendV ho ht hz hzn hb htx hsv hx hg hg1 (by simp; omega) rfl rfl hN hB
end

def filtN (n : Nat) (p : Nat → Bool) : List Int := ((List.range n).filter p).map fun (i : Nat) => (i : Int)
def firstIn (xs : List Int) (p : Int → Bool) : Int := (xs.find? p).getD (-1)
end Go.GL
namespace Go.GL

def Cat.hom (c : Cat) (x y : Int) : List Int := filtN c.src.length fun f => decide (c.src.getD f 0 = x) && decide (c.tgt.getD f 0 = y)
def Cat.invB (c : Cat) (f g : Int) : Bool := decide (c.th f g = c.idn.getD (c.src.getD f.toNat 0).toNat 0) && decide (c.th g f = c.idn.getD (c.tgt.getD f.toNat 0).toNat 0)
def Cat.inv (c : Cat) (f : Int) : Int := firstIn (c.hom (c.tgt.getD f.toNat 0) (c.src.getD f.toNat 0)) (c.invB f)
end Go.GL
namespace Go.Proofs.Ytfanjkbaemhbmaa
open Go Go.GL Go.RowKit Go.Proofs
end Go.Proofs.Ytfanjkbaemhbmaa
namespace Go.GL
open Go.RowKit Go.WideShapes Go.ChangeShapes Go.Deep

def Intsss (H : GHeap) (a : Option Addr) (x : List (List (List Int))) (r : Nat → Option Addr) (s : Nat → Nat → Option Addr) : Prop :=
  SlA H a x.length (fun i => .slice (r i) (x.getD i []).length (x.getD i []).length) ∧ ∀ i, i < x.length → Intss H (r i) (x.getD i []) (s i)
def Sm3 (x : List (List (List Int))) : Prop := x.length ≤ 1048576 ∧ ∀ i, (x.getD i []).length ≤ 1048576 ∧ ∀ j, ((x.getD i []).getD j []).length ≤ 1048576
end Go.GL
namespace Go.GL
open Go.RowKit Go.WideShapes Go.ChangeShapes Go.Deep

structure Imp1 (P : Program) (t : TypeId) (R : GHeap → Value → Prop) : Prop where
  mono : ∀ {H H' : GHeap} {g : Value}, H.Le H' → R H g → R H' g
  imp : ∀ {T : Type} {enc : TypeId × Value → T} {B : Nat} {w0 : World} {ρ : Place} {H : GHeap} {w : World} {held : Bool} {base fuel : Nat} {v : Value} {x : DataW T × List MemPlace}, Sim P B w0 ρ H w → w.heap.size ≤ B →
    DataW.trod enc P w 0 (fun _ => true) held fuel t v.cells.toList = some x → Value.okWide P w .any base t v → ∃ ρ' H' g, Sim P B w0 ρ' H' w ∧ Ext ρ ρ' ∧ H.Le H' ∧ VRel ρ' g v ∧ R H' g

structure ImpAll (P : Program) (ts : List TypeId) (R : GHeap → List Value → Prop) : Prop where
  imp : ∀ {T : Type} {enc : TypeId × Value → T} {B : Nat} {w0 : World} {ρ : Place} {H : GHeap} {w : World} {base : Nat} {vs : List Value} {ds : List (DataW T)} {ps : List MemPlace}, Sim P B w0 ρ H w → w.heap.size ≤ B →
    DataW.TrodAll enc P w 0 (fun _ => true) true ts vs ds ps → (∀ (j : Nat) t v, ts[j]? = some t → vs[j]? = some v → Value.okWide P w .any base t v) → ds.length = ts.length ∧ ∃ ρ' H' gs, Sim P B w0 ρ' H' w ∧ Ext ρ ρ' ∧ H.Le H' ∧ LRel ρ' gs vs ∧ R H' gs
theorem ImpAll.nil {P : Program} : ImpAll P [] (fun _ gs => gs = []) where
  imp := by
    intro T enc B w0 ρ H w base vs ds ps hs hB h hv
    obtain ⟨rfl, rfl, rfl⟩ := trodAll_nil h
    exact ⟨rfl, ρ, H, [], hs, .refl ρ, .refl H, .nil ρ, rfl⟩
theorem ImpAll.cons {P : Program} {t : TypeId} {ts : List TypeId} {R1 : GHeap → Value → Prop} {R : GHeap → List Value → Prop} (h1 : Imp1 P t R1) (h2 : ImpAll P ts R) : ImpAll P (t :: ts) (fun H gs => ∃ g r, gs = g :: r ∧ R1 H g ∧ R H r) where
  imp := by
    intro T enc B w0 ρ H w base vs ds ps hs hB h hv
    obtain ⟨v, vs, d, ds, p, q, rfl, rfl, rfl, ⟨fuel, k1⟩, k2⟩ := trodAll_cons h
    obtain ⟨ρ1, H1, g, s1, e1, l1, v1, r1⟩ := h1.imp hs hB k1 (hv 0 t v rfl rfl)
    obtain ⟨hl, ρ2, H2, gs, s2, e2, l2, v2, r2⟩ := h2.imp s1 hB k2 (fun j t v ht hj => hv (j + 1) t v (by simpa using ht) (by simpa using hj))
    exact ⟨by simp [hl], ρ2, H2, g :: gs, s2, e1.trans e2, l1.trans l2, .cons (v1.mono e2) v2, g, gs, rfl, h1.mono l2 r1, r2⟩

theorem law_calls {P : Program} {f : FuncId} {fn : Func} {ts : List TypeId} {tb : TypeId} {R : GHeap → List Value → Prop} (hI : ImpAll P ts R) (hp : fn.params = ts.toArray)
    (hc : ∀ H gs, R H gs → GCalls P f gs H fun v _ => v = .bool true)
    {T : Type} {enc : TypeId × Value → T} {W : World} {base : Nat} {args : Array Value} {s : ChangeSpec} {apart fresh handsOn again : Bool} {ds gs : List (DataW T)} {before : List MemPlace}
    (hval : ∀ (j : Nat) t v, fn.params[j]? = some t → args[j]? = some v → Value.okWide P W .any base t v)
    (hW : DataW.Whole enc P fn.params.toList s.vars apart W args.toList ds gs before)
    (hl : laidOutB P = true) (hr : readB P fn.params.toList = true) (hv : s.vars = []) (hrt : fn.resultTypes = #[tb]) (htb : P.underlying tb = some .bool)
    (hs : ∀ ds : List (DataW T), ds.length = ts.length → (s.fn T ds).results = [.lit (.bool true)] ∧ (s.fn T ds).args = ds ∧ (s.fn T ds).vars = []) :
    Calls P f args W fun e W' => ∃ v, e = .returned v ∧ s.post enc P fn apart fresh handsOn again W args v W' := by
  have hWW := hW
  obtain ⟨p, q, hA, _⟩ := hW
  rw [hp] at hA
  obtain ⟨hlen, ρ, H, gs', hs', _, _, hrel, hR⟩ := hI.imp (base := base) (Sim.start P W) (Nat.le_refl _) (by simpa using hA) (fun j t v ht hj => hval j t v (by rw [hp]; simpa using ht) (by simpa using hj))
  have := (hc H gs' hR) _ _ ρ args.toList W hs' hrel
  rw [Array.toArray_toList] at this
  refine this.mono fun e W' ⟨v, c, ρ', H', he, hv', _, hsim, hrv⟩ => ?_
  subst hv'
  cases hrv
  exact ⟨_, he, law_post hl hr hv hrt htb hWW (hs ds hlen).1 (hs ds hlen).2.1 (hs ds hlen).2.2 hsim.below⟩
end Go.GL
namespace Go.GL
open Go.RowKit
structure SFun where
  sh : Cat
  sz : List Int
  ac : List (List Int)
structure SFunP where
  sh : CatP
  a1 : Option Addr
  a2 : Option Addr
  r2 : Nat → Option Addr
def SFun.cells (c : SFun) (p : SFunP) : List Value := c.sh.cells p.sh ++ ([.slice p.a1 c.sz.length c.sz.length] ++ ([.slice p.a2 c.ac.length c.ac.length]))
def SFun.In (H : GHeap) (c : SFun) (p : SFunP) : Prop := c.sh.In H p.sh ∧ Ints H p.a1 c.sz ∧ Intss H p.a2 c.ac p.r2
def SFun.At (H : GHeap) (g o : Nat) (c : SFun) (p : SFunP) : Prop := Mem H g o (c.cells p) ∧ c.In H p
def SFun.Small (c : SFun) : Prop := c.sh.Small ∧ c.sz.length ≤ 1048576 ∧ (c.ac.length ≤ 1048576 ∧ ∀ i, (c.ac.getD i []).length ≤ 1048576)
structure SMap where
  s : SFun
  t : SFun
  pa : List (List Int)
structure SMapP where
  s : SFunP
  t : SFunP
  a2 : Option Addr
  r2 : Nat → Option Addr
def SMap.cells (c : SMap) (p : SMapP) : List Value := c.s.cells p.s ++ (c.t.cells p.t ++ ([.slice p.a2 c.pa.length c.pa.length]))
def SMap.In (H : GHeap) (c : SMap) (p : SMapP) : Prop := c.s.In H p.s ∧ c.t.In H p.t ∧ Intss H p.a2 c.pa p.r2
def SMap.At (H : GHeap) (g o : Nat) (c : SMap) (p : SMapP) : Prop := Mem H g o (c.cells p) ∧ c.In H p
def SMap.Small (c : SMap) : Prop := c.s.Small ∧ c.t.Small ∧ (c.pa.length ≤ 1048576 ∧ ∀ i, (c.pa.getD i []).length ≤ 1048576)
structure Con where
  ap : Int
  lg : List Int
structure ConP where
  a1 : Option Addr
def Con.cells (c : Con) (p : ConP) : List Value := [.int .i64 c.ap] ++ ([.slice p.a1 c.lg.length c.lg.length])
def Con.In (H : GHeap) (c : Con) (p : ConP) : Prop := Ints H p.a1 c.lg
def Con.At (H : GHeap) (g o : Nat) (c : Con) (p : ConP) : Prop := Mem H g o (c.cells p) ∧ c.In H p
def Con.Small (c : Con) : Prop := (-9223372036854775808 ≤ c.ap ∧ c.ap ≤ 9223372036854775807) ∧ c.lg.length ≤ 1048576
structure Prt where
  me : List (List Int)
structure PrtP where
  a0 : Option Addr
  r0 : Nat → Option Addr
def Prt.cells (c : Prt) (p : PrtP) : List Value := [.slice p.a0 c.me.length c.me.length]
def Prt.In (H : GHeap) (c : Prt) (p : PrtP) : Prop := Intss H p.a0 c.me p.r0
def Prt.At (H : GHeap) (g o : Nat) (c : Prt) (p : PrtP) : Prop := Mem H g o (c.cells p) ∧ c.In H p
def Prt.Small (c : Prt) : Prop := (c.me.length ≤ 1048576 ∧ ∀ i, (c.me.getD i []).length ≤ 1048576)
structure Prof where
  s : Cat
  t : Cat
  sz : List (List Int)
  be : List (List (List Int))
  bh : List (List (List Int))
structure ProfP where
  s : CatP
  t : CatP
  a2 : Option Addr
  r2 : Nat → Option Addr
  a3 : Option Addr
  r3 : Nat → Option Addr
  s3 : Nat → Nat → Option Addr
  a4 : Option Addr
  r4 : Nat → Option Addr
  s4 : Nat → Nat → Option Addr
def Prof.cells (c : Prof) (p : ProfP) : List Value := c.s.cells p.s ++ (c.t.cells p.t ++ ([.slice p.a2 c.sz.length c.sz.length] ++ ([.slice p.a3 c.be.length c.be.length] ++ ([.slice p.a4 c.bh.length c.bh.length]))))
def Prof.In (H : GHeap) (c : Prof) (p : ProfP) : Prop := c.s.In H p.s ∧ c.t.In H p.t ∧ Intss H p.a2 c.sz p.r2 ∧ Intsss H p.a3 c.be p.r3 p.s3 ∧ Intsss H p.a4 c.bh p.r4 p.s4
def Prof.At (H : GHeap) (g o : Nat) (c : Prof) (p : ProfP) : Prop := Mem H g o (c.cells p) ∧ c.In H p
def Prof.Small (c : Prof) : Prop := c.s.Small ∧ c.t.Small ∧ (c.sz.length ≤ 1048576 ∧ ∀ i, (c.sz.getD i []).length ≤ 1048576) ∧ Sm3 c.be ∧ Sm3 c.bh
end Go.GL
namespace Go.GL
open Go.RowKit

theorem CDo.makeIN {P : Program} {H : GHeap} {fr : Slots} {o : Oper} {t e : TypeId} {x y : Operand} {k k' : IntKind} {l c bytes : Nat} (ho : o.op = .makeSlice t x y) (ht : sliceT P t = some (e, 1)) (hz : zeroT P e = some ([.int .i64 0], 1)) (hb : (P.info? e).map (·.bytes) = some bytes)
    (hx : ev fr x = some (.int k (l : Int))) (hy : ev fr y = some (.int k' (c : Int))) (hlc : l ≤ c) (hsm : bytes * c ≤ 281474976710656) (hsc : c ≤ 9223372036854775807) :
    CDo P o fr H (fun r H' => ∃ g, r = some (.slice (some ⟨g, 0, none⟩) l l) ∧ H.Le H' ∧ H.next ≤ g ∧ H'.get g = some (.row (ints (List.replicate l 0)) e true)) := by
  have := CDo.makeI (P := P) (H := H) (fr := fr) (o := o) ho ht hz hb hx hy (by omega) (by omega) (by omega) (by omega)
  simpa using this

def thenL (f g : List Int) : List Int := f.map fun y => g.getD y.toNat 0
noncomputable def Cat.iso (c : Cat) (x y : Int) : Int := firstIn (c.hom x y) fun g => decide (0 ≤ c.inv g)
end Go.GL
namespace Go.GL

def first2 (n : Nat) (len : Nat → Nat) (p : Nat → Nat → Bool) : Int × Int :=
  match firstN n fun a => (firstN (len a) (p a)).isSome with
  | some a => ((a : Int), (((firstN (len a) (p a)).getD 0 : Nat) : Int))
  | none => (-1, 0)
def SFun.AcOk (f : SFun) (a : Nat) : Prop :=
  ((f.ac.getD a []).length : Int) = f.sz.getD (f.sh.src.getD a 0).toNat 0 ∧ allIn (f.ac.getD a []) (f.sz.getD (f.sh.tgt.getD a 0).toNat 0) = true
structure SFun.Shape (f : SFun) : Prop where
  c : f.sh.Is
  zl : (f.sz.length : Int) = f.sh.obj
  sz : ∀ i, i < f.sz.length → 0 ≤ f.sz.getD i 0 ∧ f.sz.getD i 0 ≤ 16
  al : f.ac.length = f.sh.src.length
  ac : ∀ a, a < f.ac.length → f.AcOk a
structure SFun.Laws (f : SFun) : Prop where
  ids : ∀ x : Nat, x < f.sh.idn.length → ∀ e : Nat, e < (f.ac.getD (f.sh.idn.getD x 0).toNat []).length → (f.ac.getD (f.sh.idn.getD x 0).toNat []).getD e 0 = e
  th : ∀ a : Nat, a < f.sh.src.length → ∀ b : Nat, b < f.sh.src.length → f.sh.tgt.getD a 0 = f.sh.src.getD b 0 → ∀ e : Nat, e < (f.ac.getD a []).length →
    (f.ac.getD ((f.sh.comp.getD a []).getD b 0).toNat []).getD e 0 = (f.ac.getD b []).getD ((f.ac.getD a []).getD e 0).toNat 0
def SFun.Is (f : SFun) : Prop := f.Shape ∧ f.Laws

def SMap.PaOk (m : SMap) (x : Nat) : Prop := ((m.pa.getD x []).length : Int) = m.s.sz.getD x 0 ∧ allIn (m.pa.getD x []) (m.t.sz.getD x 0) = true
structure SMap.Fits (m : SMap) : Prop where
  pl : m.pa.length = m.s.sz.length
  pa : ∀ x, x < m.pa.length → m.PaOk x
structure SMap.Shape (m : SMap) : Prop where
  s : m.s.Is
  t : m.t.Is
  sh : m.s.sh = m.t.sh
  fits : m.Fits
def SMap.bad (m : SMap) (a e : Nat) : Bool := decide (¬ (m.pa.getD (m.s.sh.tgt.getD a 0).toNat []).getD ((m.s.ac.getD a []).getD e 0).toNat 0 = (m.t.ac.getD a []).getD ((m.pa.getD (m.s.sh.src.getD a 0).toNat []).getD e 0).toNat 0)
def SMap.first (m : SMap) : Int × Int := first2 m.s.ac.length (fun a => (m.s.ac.getD a []).length) m.bad
def SMap.Is (m : SMap) : Prop := m.Shape ∧ ∀ a, a < m.s.ac.length → ∀ e, e < (m.s.ac.getD a []).length → m.bad a e = false
end Go.GL
namespace Go.GL

def NoMove (xs : List Int) : Prop := ∀ i : Nat, i < xs.length → xs.getD i 0 = i
structure Prof.Sized (m : Prof) : Prop where
  sl : (m.sz.length : Int) = m.s.obj
  bl : m.be.length = m.s.src.length
  hl : m.bh.length = m.t.src.length
  row : ∀ x, x < m.sz.length → ((m.sz.getD x []).length : Int) = m.t.obj
  rng : ∀ x, x < m.sz.length → ∀ y, y < (m.sz.getD x []).length → 0 ≤ (m.sz.getD x []).getD y 0 ∧ (m.sz.getD x []).getD y 0 ≤ 64
def Prof.BeOk (m : Prof) (a y : Nat) : Prop :=
  (((m.be.getD a []).getD y []).length : Int) = (m.sz.getD (m.s.tgt.getD a 0).toNat []).getD y 0 ∧ allIn ((m.be.getD a []).getD y []) ((m.sz.getD (m.s.src.getD a 0).toNat []).getD y 0) = true
def Prof.BhOk (m : Prof) (b x : Nat) : Prop :=
  (((m.bh.getD b []).getD x []).length : Int) = (m.sz.getD x []).getD (m.t.src.getD b 0).toNat 0 ∧ allIn ((m.bh.getD b []).getD x []) ((m.sz.getD x []).getD (m.t.tgt.getD b 0).toNat 0) = true
structure Prof.Maps (m : Prof) : Prop where
  be : ∀ a, a < m.be.length → ((m.be.getD a []).length : Int) = m.t.obj ∧ ∀ y, y < (m.be.getD a []).length → m.BeOk a y
  bh : ∀ b, b < m.bh.length → ((m.bh.getD b []).length : Int) = m.s.obj ∧ ∀ x, x < (m.bh.getD b []).length → m.BhOk b x
structure Prof.Shape (m : Prof) : Prop where
  s : m.s.Is
  t : m.t.Is
  z : m.Sized
  ok : m.Maps
structure Prof.Acts (m : Prof) : Prop where
  idb : ∀ y : Nat, (y : Int) < m.t.obj → ∀ x : Nat, (x : Int) < m.s.obj → NoMove ((m.be.getD (m.s.idn.getD x 0).toNat []).getD y []) ∧ NoMove ((m.bh.getD (m.t.idn.getD y 0).toNat []).getD x [])
  thb : ∀ y : Nat, (y : Int) < m.t.obj → ∀ a : Nat, a < m.s.src.length → ∀ b : Nat, b < m.s.src.length → 0 ≤ (m.s.comp.getD a []).getD b 0 →
    (m.be.getD ((m.s.comp.getD a []).getD b 0).toNat []).getD y [] = thenL ((m.be.getD b []).getD y []) ((m.be.getD a []).getD y [])
  thh : ∀ x : Nat, (x : Int) < m.s.obj → ∀ a : Nat, a < m.t.src.length → ∀ b : Nat, b < m.t.src.length → 0 ≤ (m.t.comp.getD a []).getD b 0 →
    (m.bh.getD ((m.t.comp.getD a []).getD b 0).toNat []).getD x [] = thenL ((m.bh.getD a []).getD x []) ((m.bh.getD b []).getD x [])
def Prof.MixAt (m : Prof) (a b : Nat) : Prop :=
  thenL ((m.be.getD a []).getD (m.t.src.getD b 0).toNat []) ((m.bh.getD b []).getD (m.s.src.getD a 0).toNat []) = thenL ((m.bh.getD b []).getD (m.s.tgt.getD a 0).toNat []) ((m.be.getD a []).getD (m.t.tgt.getD b 0).toNat [])
def Prof.Mix (m : Prof) : Prop := ∀ a, a < m.s.src.length → ∀ b, b < m.t.src.length → m.MixAt a b
def Prof.Is (m : Prof) : Prop := m.Shape ∧ m.Acts ∧ m.Mix

def sumN (f : Nat → Int) : Nat → Int
  | 0 => 0
  | n + 1 => sumN f n + f n
theorem sumN_bd {f : Nat → Int} {c : Int} {N : Nat} (h : ∀ i, i < N → 0 ≤ f i ∧ f i ≤ c) : ∀ {n}, n ≤ N → 0 ≤ sumN f n ∧ sumN f n ≤ n * c
  | 0, _ => ⟨Int.le_refl _, by simp [sumN]⟩
  | n + 1, hn => by
    have h1 := sumN_bd h (n := n) (by omega)
    have h2 := h n (by omega)
    have h3 : ((n + 1 : Nat) : Int) * c = n * c + c := by rw [Int.natCast_add, Int.add_mul]; simp
    rw [h3]
    simp only [sumN]
    omega
theorem range_succ_map {α : Type} {f : Nat → α} {n : Nat} : (List.range (n + 1)).map f = (List.range n).map f ++ [f n] := by simp [List.range_succ]
def Prof.diag (m : Prof) (i : Nat) : Int := (m.sz.getD i []).getD i 0
noncomputable def Prof.code (m : Prof) : Int := bif B m.Is then (bif B (m.s = m.t) then 0 else 5) else 1
noncomputable def Prof.place (m : Prof) (x e : Int) : Int × Int := bif B (m.code = 0) then (bif B (0 ≤ x ∧ x < m.s.obj ∧ 0 ≤ e ∧ e < m.diag x.toNat) then (sumN m.diag x.toNat + e, 0) else (0, 2)) else (0, m.code)
abbrev L3 := List (List (List Int))
def Prof.CoOk (m n : Prof) (c : L3) (x y : Nat) : Prop := (((c.getD x []).getD y []).length : Int) = (m.sz.getD x []).getD y 0 ∧ allIn ((c.getD x []).getD y []) ((n.sz.getD x []).getD y 0) = true
structure Prof.Rows (m n : Prof) (c : L3) : Prop where
  cl : (c.length : Int) = m.s.obj
  row : ∀ x, x < c.length → ((c.getD x []).length : Int) = m.t.obj ∧ ∀ y, y < (c.getD x []).length → m.CoOk n c x y
def Prof.NatB (m n : Prof) (c : L3) (a y : Nat) : Prop :=
  thenL ((m.be.getD a []).getD y []) ((c.getD (m.s.src.getD a 0).toNat []).getD y []) = thenL ((c.getD (m.s.tgt.getD a 0).toNat []).getD y []) ((n.be.getD a []).getD y [])
def Prof.NatH (m n : Prof) (c : L3) (b x : Nat) : Prop :=
  thenL ((m.bh.getD b []).getD x []) ((c.getD x []).getD (m.t.tgt.getD b 0).toNat []) = thenL ((c.getD x []).getD (m.t.src.getD b 0).toNat []) ((n.bh.getD b []).getD x [])
structure Prof.IsMap (m n : Prof) (c : L3) : Prop where
  rows : m.Rows n c
  nb : ∀ a, a < m.s.src.length → ∀ y : Nat, (y : Int) < m.t.obj → m.NatB n c a y
  nh : ∀ b, b < m.t.src.length → ∀ x : Nat, (x : Int) < m.s.obj → m.NatH n c b x
end Go.GL
namespace Go.GL

structure StM (lo hi : Nat) (H H' : GHeap) : Prop where
  nx : H.next ≤ H'.next
  same : ∀ k o, ¬ (lo ≤ k ∧ k < hi) → H.get k = some o → H'.get k = some o
  ins : ∀ k o, H.get k = some o → ∃ o', H'.get k = some o' ∧ (o' = o ∨ ∃ xs ys e, o = .row (ints xs) e true ∧ o' = .row (ints ys) e true ∧ ys.length = xs.length)
def sumL : List (List Int) → Nat
  | [] => 0
  | xs :: r => xs.length + sumL r
def seqL (k : Int) (n : Nat) : List Int := (List.range n).map fun (i : Nat) => k + (i : Int)
abbrev Leaf := Option Addr × Nat
def lvBlk : Leaf → List Nat
  | (some a, _ + 1) => [a.block]
  | _ => []
def lvBlks (ls : List Leaf) : List Nat := ls.flatMap lvBlk
def Held (b : Nat) (H : GHeap) : List Leaf → Int → Prop
  | [], _ => True
  | l :: r, k => (l.2 = 0 ∨ ∃ g e, l.1 = some ⟨g, 0, none⟩ ∧ b ≤ g ∧ H.get g = some (.row (ints (seqL k l.2)) e true)) ∧ Held b H r (k + l.2)
structure StB (bs : List Nat) (H H' : GHeap) : Prop where
  nx : H.next ≤ H'.next
  same : ∀ k o, ¬ k ∈ bs → H.get k = some o → H'.get k = some o
theorem lvBlks_append (ls ms : List Leaf) : lvBlks (ls ++ ms) = lvBlks ls ++ lvBlks ms := by simp [lvBlks]
def IntsR (b : Nat) (H : GHeap) (a : Option Addr) (xs : List Int) : Prop := (xs = [] ∧ a = none) ∨ IntsAt b H a xs
theorem IntsR.keep {b b' : Nat} {H H' : GHeap} {a : Option Addr} {xs : List Int} (h : IntsR b H a xs) (k : Keep b' H H') (hb : b' ≤ b) : IntsR b' H' a xs := h.imp id fun h => h.keep k hb
theorem IntsR.ints {b : Nat} {H : GHeap} {a : Option Addr} {xs : List Int} (h : IntsR b H a xs) : Ints H a xs := by
  rcases h with ⟨rfl, _⟩ | h
  · exact .inl rfl
  · exact h.ints
def Con.leaves (c : Con) (p : ConP) : List Leaf := [(p.a1, c.lg.length)]
structure Marked (lo hi : Nat) (H H' : GHeap) (ls : List Leaf) (k : Int) : Prop where
  stm : StM lo hi H H'
  stb : StB (lvBlks ls) H H'
  held : (lvBlks ls).Nodup → Held lo H' ls k
def rowsL (r : Nat → Option Addr) (xss : List (List Int)) (n : Nat) : List Leaf := (List.range n).map fun i => (r i, (xss.getD i []).length)
theorem rowsL_succ (r : Nat → Option Addr) (xss : List (List Int)) (n : Nat) : rowsL r xss (n + 1) = rowsL r xss n ++ [(r n, (xss.getD n []).length)] := by simp [rowsL, List.range_succ]
def Cat.leaves (c : Cat) (p : CatP) : List Leaf := [(p.a1, c.src.length)] ++ ([(p.a2, c.tgt.length)] ++ ([(p.a3, c.idn.length)] ++ rowsL p.r c.comp c.comp.length))
def Fun.leaves (f : Fun) (p : FunP) : List Leaf := f.s.leaves p.s ++ (f.t.leaves p.t ++ ([(p.b1, f.ob.length)] ++ [(p.b2, f.ar.length)]))
end Go.GL
namespace Go.GL

structure Fun.Cone (d : Fun) (p : Con) : Prop where
  ap : 0 ≤ p.ap ∧ p.ap < d.t.obj
  ll : p.lg.length = d.ob.length
  lg : ∀ j, j < p.lg.length → 0 ≤ p.lg.getD j 0 ∧ p.lg.getD j 0 < d.t.src.length
  ends : ∀ j, j < p.lg.length → d.t.src.getD (p.lg.getD j 0).toNat 0 = p.ap ∧ d.t.tgt.getD (p.lg.getD j 0).toNat 0 = d.ob.getD j 0
  tri : ∀ a, a < d.ar.length → d.t.th (p.lg.getD (d.s.src.getD a 0).toNat 0) (d.ar.getD a 0) = p.lg.getD (d.s.tgt.getD a 0).toNat 0
def Con.zero : Con := ⟨0, []⟩
end Go.GL
namespace Go.GL

def Rising (xs : List Int) : Prop := ∀ i, 1 ≤ i → i < xs.length → xs.getD (i - 1) 0 < xs.getD i 0
structure SFun.Part (f : SFun) (me : List (List Int)) : Prop where
  pl : me.length = f.sz.length
  rs : ∀ x, x < me.length → Rising (me.getD x []) ∧ allIn (me.getD x []) (f.sz.getD x 0) = true
  cl : ∀ a, a < f.ac.length → ∀ i, i < (me.getD (f.sh.src.getD a 0).toNat []).length → (me.getD (f.sh.tgt.getD a 0).toNat []).contains ((f.ac.getD a []).getD ((me.getD (f.sh.src.getD a 0).toNat []).getD i 0).toNat 0) = true
end Go.GL
namespace Go.GL

def SFun.leaves (f : SFun) (p : SFunP) : List Leaf := f.sh.leaves p.sh ++ ([(p.a1, f.sz.length)] ++ rowsL p.r2 f.ac f.ac.length)
def SMap.leaves (f : SMap) (p : SMapP) : List Leaf := f.s.leaves p.s ++ (f.t.leaves p.t ++ rowsL p.r2 f.pa f.pa.length)
def Prt.leaves (f : Prt) (p : PrtP) : List Leaf := rowsL p.r0 f.me f.me.length
def NoTwo (xss : List (List Int)) (r : Nat → Option Addr) : Prop := (lvBlks (rowsL r xss xss.length)).Nodup
def IntssR (b : Nat) (H : GHeap) (a : Option Addr) (xss : List (List Int)) (r : Nat → Option Addr) : Prop := ((xss = [] ∧ a = none) ∨ IntssAt b H a xss r) ∧ NoTwo xss r
theorem IntssR.keep {b b' : Nat} {H H' : GHeap} {a : Option Addr} {xs : List (List Int)} {r : Nat → Option Addr} (h : IntssR b H a xs r) (k : Keep b' H H') (hb : b' ≤ b) : IntssR b' H' a xs r := ⟨h.1.imp id fun h => h.keep k hb, h.2⟩
theorem IntssR.intss {b : Nat} {H : GHeap} {a : Option Addr} {xs : List (List Int)} {r : Nat → Option Addr} (h : IntssR b H a xs r) : Intss H a xs r := by
  rcases h.1 with ⟨rfl, rfl⟩ | h
  · exact ⟨.inl rfl, fun i hi => by simp at hi⟩
  · exact h.intss
theorem IntssR.nil (b : Nat) (H : GHeap) (r : Nat → Option Addr) : IntssR b H none [] r := ⟨.inl ⟨rfl, rfl⟩, by simp [NoTwo, lvBlks, rowsL]⟩
def slsOf (r : Nat → Option Addr) (X : Nat → List Int) (k : Nat) : List Value := (List.range k).map fun i => .slice (r i) (X i).length (X i).length
@[simp] theorem length_slsOf (r : Nat → Option Addr) (X : Nat → List Int) (k : Nat) : (slsOf r X k).length = k := by simp [slsOf]
def upd (r : Nat → Option Addr) (k : Nat) (a : Option Addr) : Nat → Option Addr := fun i => if i = k then a else r i
theorem upd_eq (r : Nat → Option Addr) (k : Nat) (a : Option Addr) : upd r k a k = a := by simp [upd]
theorem upd_ne {r : Nat → Option Addr} {k i : Nat} {a : Option Addr} (h : i ≠ k) : upd r k a i = r i := by simp [upd, h]
theorem slsOf_succ {r : Nat → Option Addr} {X : Nat → List Int} {k : Nat} {a : Option Addr} : slsOf (upd r k a) X (k + 1) = slsOf r X k ++ [.slice a (X k).length (X k).length] := by
  unfold slsOf
  rw [List.range_succ, List.map_append]
  congr 1
  · refine List.map_congr_left fun i hi => ?_
    rw [upd_ne (by have := List.mem_range.1 hi; omega)]
  · simp [upd_eq]
structure OwnRows (b : Nat) (H : GHeap) (e : TypeId) (r : Nat → Option Addr) (X : Nat → List Int) (k : Nat) : Prop where
  row : ∀ i, i < k → ∃ g, r i = some ⟨g, 0, none⟩ ∧ b ≤ g ∧ H.get g = some (.row (ints (X i)) e true)
  inj : ∀ i j, i < k → j < k → r i = r j → i = j
theorem OwnRows.zero (b : Nat) (H : GHeap) (e : TypeId) (r : Nat → Option Addr) (X : Nat → List Int) : OwnRows b H e r X 0 := ⟨fun i hi => by omega, fun i j hi => by omega⟩
def Lasts (e : TypeId) (H H' : GHeap) : Prop := ∀ x xs, H.get x = some (.row (ints xs) e true) → H'.get x = some (.row (ints xs) e true)
theorem St.lasts1 {g0 : Nat} {H H' : GHeap} {e e' : TypeId} {cs : List Value} (s : St [g0] H H') (h0 : H.get g0 = some (.row cs e' true)) (hne : (e != e') = true) : Lasts e H H' := fun x xs hx => by
  simp only [bne_iff_ne, ne_eq] at hne
  refine s.same x _ ⟨fun ex => ?_, trivial⟩ hx
  subst ex
  rw [h0] at hx
  cases hx
  exact hne rfl
theorem OwnRows.keep {b k : Nat} {H H' : GHeap} {e : TypeId} {r : Nat → Option Addr} {X : Nat → List Int} (h : OwnRows b H e r X k) (s : Lasts e H H') : OwnRows b H' e r X k := ⟨fun i hi => by
  obtain ⟨x, h1, h2, h3⟩ := h.row i hi
  exact ⟨x, h1, h2, s x _ h3⟩, h.inj⟩
theorem OwnRows.succ' {b g k : Nat} {H H' : GHeap} {e : TypeId} {r : Nat → Option Addr} {X : Nat → List Int} (h : OwnRows b H e r X k) (s : Lasts e H H')
    (hg : H'.get g = some (.row (ints (X k)) e true)) (hn : H.next ≤ g) (hb : b ≤ g) : OwnRows b H' e (upd r k (some ⟨g, 0, none⟩)) X (k + 1) := by
  refine ⟨fun i hi => ?_, fun i j hi hj hij => ?_⟩
  · by_cases ek : i = k
    · subst ek; exact ⟨g, upd_eq _ _ _, hb, hg⟩
    · obtain ⟨x, h1, h2, h3⟩ := h.row i (by omega)
      exact ⟨x, by rw [upd_ne ek]; exact h1, h2, s x _ h3⟩
  · by_cases ei : i = k
    · by_cases ej : j = k
      · omega
      · subst ei
        rw [upd_eq, upd_ne ej] at hij
        obtain ⟨x, h1, _, h3⟩ := h.row j (by omega)
        rw [h1] at hij
        cases hij
        have := GHeap.ltg h3
        omega
    · by_cases ej : j = k
      · subst ej
        rw [upd_eq, upd_ne ei] at hij
        obtain ⟨x, h1, _, h3⟩ := h.row i (by omega)
        rw [h1] at hij
        cases hij
        have := GHeap.ltg h3
        omega
      · rw [upd_ne ei, upd_ne ej] at hij
        exact h.inj i j (by omega) (by omega) hij
theorem OwnRows.succ {b g g0 k : Nat} {H H' : GHeap} {e e' : TypeId} {r : Nat → Option Addr} {X : Nat → List Int} {cs : List Value} (h : OwnRows b H e r X k) (s : St [g0] H H') (h0 : H.get g0 = some (.row cs e' true)) (hne : (e != e') = true)
    (hg : H'.get g = some (.row (ints (X k)) e true)) (hn : H.next ≤ g) (hb : b ≤ g) : OwnRows b H' e (upd r k (some ⟨g, 0, none⟩)) X (k + 1) := h.succ' (s.lasts1 h0 hne) hg hn hb
theorem mem_lvBlk {g n x : Nat} (h : x ∈ lvBlk (some ⟨g, 0, none⟩, n)) : x = g := by
  cases n with
  | zero => simp [lvBlk] at h
  | succ n => simpa [lvBlk] using h
theorem lvBlks_rowsL {r : Nat → Option Addr} {xss : List (List Int)} (hr : ∀ i, i < xss.length → ∃ g, r i = some ⟨g, 0, none⟩) (hi : ∀ i j, i < xss.length → j < xss.length → r i = r j → i = j) : ∀ {n}, n ≤ xss.length →
    (lvBlks (rowsL r xss n)).Nodup ∧ ∀ g ∈ lvBlks (rowsL r xss n), ∃ i, i < n ∧ r i = some ⟨g, 0, none⟩
  | 0, _ => by simp [rowsL, lvBlks]
  | n + 1, hn => by
    obtain ⟨h1, h2⟩ := lvBlks_rowsL hr hi (n := n) (by omega)
    obtain ⟨g, hg⟩ := hr n (by omega)
    have h3 : ∀ x ∈ lvBlk (r n, (xss.getD n []).length), x = g := fun x hx => by rw [hg] at hx; exact mem_lvBlk hx
    have h4 : (lvBlk (r n, (xss.getD n []).length)).Nodup := by unfold lvBlk; split <;> simp
    have e1 : lvBlks (rowsL r xss (n + 1)) = lvBlks (rowsL r xss n) ++ lvBlk (r n, (xss.getD n []).length) := by rw [rowsL_succ, lvBlks_append]; simp [lvBlks]
    rw [e1]
    refine ⟨List.nodup_append.2 ⟨h1, h4, fun x hx y hy hxy => ?_⟩, fun x hx => ?_⟩
    · obtain ⟨i, i1, i2⟩ := h2 x hx
      have := h3 y hy
      subst hxy this
      have := hi i n (by omega) (by omega) (by rw [i2, hg])
      omega
    · rcases List.mem_append.1 hx with hx | hx
      · obtain ⟨i, i1, i2⟩ := h2 x hx
        exact ⟨i, by omega, i2⟩
      · exact ⟨n, by omega, by rw [h3 x hx]; exact hg⟩
def rowsOf (X : Nat → List Int) (n : Nat) : List (List Int) := (List.range n).map X
@[simp] theorem length_rowsOf (X : Nat → List Int) (n : Nat) : (rowsOf X n).length = n := by simp [rowsOf]
theorem rowsOf_get {X : Nat → List Int} {n i : Nat} (h : i < n) : (rowsOf X n).getD i [] = X i := by simp [rowsOf, List.getD_eq_getElem?_getD, h]
theorem OwnRows.done {b g n : Nat} {H : GHeap} {e e' : TypeId} {r : Nat → Option Addr} {X : Nat → List Int} (h : OwnRows b H e r X n) (hg : H.get g = some (.row (slsOf r X n) e' true)) (hb : b ≤ g) : IntssR b H (some ⟨g, 0, none⟩) (rowsOf X n) r := by
  refine ⟨.inr ⟨g, e', slsOf r X n, rfl, hb, hg, by simp, fun i hi => ?_, fun i hi => ?_⟩, ?_⟩
  · rw [length_rowsOf] at hi
    rw [rowsOf_get hi]
    simp [slsOf, hi]
  · rw [length_rowsOf] at hi
    rw [rowsOf_get hi]
    obtain ⟨x, h1, h2, h3⟩ := h.row i hi
    exact ⟨x, e, h1, h2, h3⟩
  · exact (lvBlks_rowsL (fun i hi => by rw [length_rowsOf] at hi; obtain ⟨x, h1, _⟩ := h.row i hi; exact ⟨x, h1⟩) (fun i j hi hj => by rw [length_rowsOf] at hi hj; exact h.inj i j hi hj) (Nat.le_refl _)).1

section
variable {P : Program} {o : Oper} {fr : Slots} {H : GHeap}
end
def SMap.backX (m : SMap) (me : List (List Int)) (x : Nat) : List Int := filtN (m.pa.getD x []).length fun e => (me.getD x []).contains ((m.pa.getD x []).getD e 0)
def SMap.backR (m : SMap) (me : List (List Int)) : List (List Int) := rowsOf (m.backX me) m.pa.length
noncomputable def SMap.back (m : SMap) (me : List (List Int)) : Prt := ⟨bif B (m.Is ∧ m.t.Part me) then m.backR me else []⟩
def SFun.pick (f : SFun) (Y : Nat → Nat → Bool) : Prt := ⟨rowsOf (fun x => filtN (f.sz.getD x 0).toNat (Y x)) f.sz.length⟩
end Go.GL
namespace Go.GL
def slsL (r : Nat → Option Addr) (xss : List (List Int)) : List Value := slsOf r (fun i => xss.getD i []) xss.length
@[simp] theorem length_slsL (r : Nat → Option Addr) (xss : List (List Int)) : (slsL r xss).length = xss.length := by simp [slsL]
theorem slsOf_congr {r : Nat → Option Addr} {X Y : Nat → List Int} {k : Nat} (h : ∀ i, i < k → X i = Y i) : slsOf r X k = slsOf r Y k := List.map_congr_left fun i hi => by rw [h i (List.mem_range.1 hi)]
theorem getD_snoc {α : Type} {xs : List α} {x d : α} {i : Nat} : (xs ++ [x]).getD i d = if i < xs.length then xs.getD i d else if i = xs.length then x else d := by
  rw [List.getD_eq_getElem?_getD, List.getD_eq_getElem?_getD]
  by_cases h : i < xs.length
  · rw [if_pos h, List.getElem?_append_left h]
  · rw [if_neg h, List.getElem?_append_right (by omega)]
    by_cases e : i = xs.length
    · subst e; simp
    · rw [if_neg e, List.getElem?_eq_none (by simp; omega)]; rfl
theorem slsL_snoc {r : Nat → Option Addr} {xss : List (List Int)} {x : List Int} {a : Option Addr} : slsL (upd r xss.length a) (xss ++ [x]) = slsL r xss ++ [.slice a x.length x.length] := by
  unfold slsL
  rw [List.length_append, List.length_singleton]
  rw [slsOf_succ]
  congr 1
  · refine slsOf_congr fun i hi => ?_
    rw [getD_snoc, if_pos hi]
  · rw [getD_snoc, if_neg (by omega), if_pos rfl]
def OwnL (b : Nat) (H : GHeap) (e : TypeId) (r : Nat → Option Addr) (xss : List (List Int)) : Prop := OwnRows b H e r (fun i => xss.getD i []) xss.length
theorem OwnL.nil (b : Nat) (H : GHeap) (e : TypeId) (r : Nat → Option Addr) : OwnL b H e r [] := OwnRows.zero _ _ _ _ _
theorem OwnRows.congr {b : Nat} {H : GHeap} {e : TypeId} {r : Nat → Option Addr} {X Y : Nat → List Int} {k : Nat} (h : OwnRows b H e r X k) (hx : ∀ i, i < k → X i = Y i) : OwnRows b H e r Y k := ⟨fun i hi => by rw [← hx i hi]; exact h.row i hi, h.inj⟩
theorem OwnL.snoc {b g : Nat} {H H' : GHeap} {e : TypeId} {r : Nat → Option Addr} {xss : List (List Int)} {x : List Int} (h : OwnL b H e r xss) (s : Lasts e H H') (hg : H'.get g = some (.row (ints x) e true)) (hn : H.next ≤ g) (hb : b ≤ g) : OwnL b H' e (upd r xss.length (some ⟨g, 0, none⟩)) (xss ++ [x]) := by
  unfold OwnL at h ⊢
  rw [List.length_append, List.length_singleton]
  have h' : OwnRows b H e r (fun i => (xss ++ [x]).getD i []) xss.length := h.congr fun i hi => by rw [getD_snoc, if_pos hi]
  exact h'.succ' s (by rw [getD_snoc, if_neg (by omega), if_pos rfl]; exact hg) hn hb
theorem OwnL.keep {b : Nat} {H H' : GHeap} {e : TypeId} {r : Nat → Option Addr} {xss : List (List Int)} (h : OwnL b H e r xss) (s : Lasts e H H') : OwnL b H' e r xss := OwnRows.keep h s
theorem rowsOf_self (xss : List (List Int)) : rowsOf (fun i => xss.getD i []) xss.length = xss := by
  apply List.ext_getElem (by simp)
  intro i h1 h2
  simp only [rowsOf, List.getElem_map, List.getElem_range, List.getD_eq_getElem?_getD, List.getElem?_eq_getElem h2, Option.getD_some]
theorem OwnL.done {b g : Nat} {H : GHeap} {e e' : TypeId} {r : Nat → Option Addr} {xss : List (List Int)} (h : OwnL b H e r xss) (hg : H.get g = some (.row (slsL r xss) e' true)) (hb : b ≤ g) : IntssR b H (some ⟨g, 0, none⟩) xss r := by
  have := OwnRows.done (X := fun i => xss.getD i []) h hg hb
  rwa [rowsOf_self] at this
theorem OwnL.intss {b g : Nat} {H : GHeap} {e e' : TypeId} {r : Nat → Option Addr} {xss : List (List Int)} (h : OwnL b H e r xss) (hg : H.get g = some (.row (slsL r xss) e' true)) (hb : b ≤ g) : Intss H (some ⟨g, 0, none⟩) xss r := (h.done hg hb).intss
theorem IntsR.of_at {b : Nat} {H : GHeap} {g : Nat} {e : TypeId} {xs : List Int} (h : H.get g = some (.row (Go.GL.ints xs) e true)) (hb : b ≤ g) : IntsR b H (some ⟨g, 0, none⟩) xs := .inr ⟨g, e, rfl, hb, h⟩

def nestL {α : Type} (pr : Nat → Nat → α) (sz : Nat → Nat) (k t : Nat) : List α := (List.range k).flatMap (fun a => (List.range (sz a)).map (pr a)) ++ (List.range t).map (pr k)
theorem nestL_zero {α : Type} (pr : Nat → Nat → α) (sz : Nat → Nat) : nestL pr sz 0 0 = [] := rfl
theorem nestL_snoc {α : Type} {pr : Nat → Nat → α} {sz : Nat → Nat} {k t : Nat} : nestL pr sz k (t + 1) = nestL pr sz k t ++ [pr k t] := by
  unfold nestL
  rw [List.range_succ, List.map_append, ← List.append_assoc]
  rfl
theorem nestL_next {α : Type} {pr : Nat → Nat → α} {sz : Nat → Nat} {k : Nat} : nestL pr sz (k + 1) 0 = nestL pr sz k (sz k) := by
  unfold nestL
  rw [List.range_succ, List.flatMap_append]
  simp
theorem nestL_length {α : Type} {pr : Nat → Nat → α} {sz : Nat → Nat} {c : Nat} : ∀ {k}, (∀ a, a < k → sz a ≤ c) → (nestL pr sz k 0).length ≤ k * c
  | 0, _ => by simp [nestL]
  | k + 1, h => by
    have ih := nestL_length (pr := pr) (sz := sz) (c := c) (k := k) fun a ha => h a (by omega)
    have := h k (by omega)
    rw [nestL_next]
    simp only [nestL, List.length_append, List.length_map, List.length_range, List.range_zero, List.map_nil, List.append_nil] at ih ⊢
    rw [Nat.add_mul]
    omega
def nest3 {α : Type} (pr : Nat → Nat → Nat → α) (s1 : Nat → Nat) (s2 : Nat → Nat → Nat) (k t u : Nat) : List α := (List.range k).flatMap (fun a => nestL (pr a) (s2 a) (s1 a) 0) ++ nestL (pr k) (s2 k) t u
theorem nest3_snoc {α : Type} {pr : Nat → Nat → Nat → α} {s1 : Nat → Nat} {s2 : Nat → Nat → Nat} {k t u : Nat} : nest3 pr s1 s2 k t (u + 1) = nest3 pr s1 s2 k t u ++ [pr k t u] := by
  unfold nest3
  rw [nestL_snoc, List.append_assoc]
theorem nest3_next2 {α : Type} {pr : Nat → Nat → Nat → α} {s1 : Nat → Nat} {s2 : Nat → Nat → Nat} {k t : Nat} : nest3 pr s1 s2 k (t + 1) 0 = nest3 pr s1 s2 k t (s2 k t) := by
  unfold nest3
  rw [nestL_next]
theorem nest3_next1 {α : Type} {pr : Nat → Nat → Nat → α} {s1 : Nat → Nat} {s2 : Nat → Nat → Nat} {k : Nat} : nest3 pr s1 s2 (k + 1) 0 0 = nest3 pr s1 s2 k (s1 k) 0 := by
  unfold nest3
  rw [List.range_succ, List.flatMap_append]
  simp [nestL_zero]
theorem flatMap_len {α : Type} {f : Nat → List α} {c : Nat} : ∀ {k}, (∀ a, a < k → (f a).length ≤ c) → ((List.range k).flatMap f).length ≤ k * c
  | 0, _ => by simp
  | k + 1, h => by
    have ih := flatMap_len (f := f) (c := c) (k := k) fun a ha => h a (by omega)
    have := h k (by omega)
    rw [List.range_succ, List.flatMap_append, List.length_append, Nat.add_mul]
    simp only [List.flatMap_cons, List.flatMap_nil, List.append_nil]
    omega
theorem nest3_all {α : Type} {pr : Nat → Nat → Nat → α} {s1 : Nat → Nat} {s2 : Nat → Nat → Nat} {c d n : Nat} (h1 : ∀ a, a < n → s1 a ≤ d) (h2 : ∀ a, a < n → ∀ b, b < s1 a → s2 a b ≤ c) : (nest3 pr s1 s2 n 0 0).length ≤ n * (d * c) := by
  unfold nest3
  rw [nestL_zero, List.append_nil]
  exact flatMap_len fun a ha => by
    have r1 := nestL_length (pr := pr a) (sz := s2 a) (c := c) (k := s1 a) fun b hb => h2 a ha b hb
    exact Nat.le_trans r1 (Nat.mul_le_mul_right _ (h1 a ha))
def CatR (b : Nat) (H : GHeap) (c : Cat) (p : CatP) : Prop := (IntsR b H p.a1 c.src ∧ IntsR b H p.a2 c.tgt ∧ IntsR b H p.a3 c.idn ∧ IntssR b H p.a4 c.comp p.r) ∧ (lvBlks (c.leaves p)).Nodup
theorem CatR.keep {b b' : Nat} {H H' : GHeap} {c : Cat} {p : CatP} (h : CatR b H c p) (k : Keep b' H H') (hb : b' ≤ b) : CatR b' H' c p := ⟨⟨h.1.1.keep k hb, h.1.2.1.keep k hb, h.1.2.2.1.keep k hb, h.1.2.2.2.keep k hb⟩, h.2⟩
theorem CatR.inn {b : Nat} {H : GHeap} {c : Cat} {p : CatP} (h : CatR b H c p) : c.In H p := ⟨h.1.1.ints, h.1.2.1.ints, h.1.2.2.1.ints, h.1.2.2.2.intss⟩
def Cat.zero : Cat := ⟨0, [], [], [], []⟩
def CatP.zero : CatP := ⟨none, none, none, none, fun _ => none⟩
theorem CatR.zero (b : Nat) (H : GHeap) : CatR b H .zero .zero := ⟨⟨.inl ⟨rfl, rfl⟩, .inl ⟨rfl, rfl⟩, .inl ⟨rfl, rfl⟩, .nil _ _ _⟩, by simp [Cat.leaves, Cat.zero, CatP.zero, lvBlks, lvBlk, rowsL]⟩
theorem mem_lvBlk1 {a : Option Addr} {n x : Nat} (h : x ∈ lvBlk (a, n)) : ∃ o s, a = some ⟨x, o, s⟩ := by
  unfold lvBlk at h
  split at h
  · rename_i a' m e
    cases e
    rw [List.mem_singleton] at h
    subst h
    exact ⟨_, _, rfl⟩
  · cases h
theorem lvBlk_nodup (l : Leaf) : (lvBlk l).Nodup := by unfold lvBlk; split <;> simp
theorem CatR.mk {b : Nat} {H : GHeap} {c : Cat} {p : CatP} (h1 : IntsR b H p.a1 c.src) (h2 : IntsR b H p.a2 c.tgt) (h3 : IntsR b H p.a3 c.idn) (h4 : IntssR b H p.a4 c.comp p.r) {g1 g2 g3 : Nat} (k1 : p.a1 = none ∨ p.a1 = some ⟨g1, 0, none⟩) (k2 : p.a2 = none ∨ p.a2 = some ⟨g2, 0, none⟩) (k3 : p.a3 = none ∨ p.a3 = some ⟨g3, 0, none⟩)
    (n12 : g1 ≠ g2) (n13 : g1 ≠ g3) (n23 : g2 ≠ g3) (n4 : ∀ i, i < c.comp.length → p.r i ≠ some ⟨g1, 0, none⟩ ∧ p.r i ≠ some ⟨g2, 0, none⟩ ∧ p.r i ≠ some ⟨g3, 0, none⟩) : CatR b H c p := by
  have one : ∀ {a : Option Addr} {g n x : Nat}, (a = none ∨ a = some ⟨g, 0, none⟩) → x ∈ lvBlk (a, n) → x = g := by
    intro a g n x hk hx
    obtain ⟨o, s, e⟩ := mem_lvBlk1 hx
    rcases hk with h | h
    · rw [h] at e; cases e
    · rw [h] at e; cases e; rfl
  have rows : ∀ x ∈ lvBlks (rowsL p.r c.comp c.comp.length), x ≠ g1 ∧ x ≠ g2 ∧ x ≠ g3 := by
    intro x hx
    obtain ⟨l, hl, hxl⟩ := List.mem_flatMap.1 hx
    obtain ⟨i, hi, rfl⟩ := List.mem_map.1 hl
    have hi' := List.mem_range.1 hi
    have hlen : 0 < (c.comp.getD i []).length := by
      unfold lvBlk at hxl
      split at hxl
      · rename_i e; have := congrArg Prod.snd e; simp only at this; omega
      · cases hxl
    obtain ⟨o, s, e⟩ := mem_lvBlk1 hxl
    have hrow : ∃ g, p.r i = some ⟨g, 0, none⟩ := by
      rcases h4.1 with ⟨h, _⟩ | ⟨g, e', cs, _, _, _, _, _, h6⟩
      · rw [h] at hi'; simp at hi'
      · obtain ⟨g', _, hg', _⟩ := h6 i hi'
        exact ⟨g', hg'⟩
    obtain ⟨g, hg⟩ := hrow
    rw [hg] at e
    cases e
    obtain ⟨q1, q2, q3⟩ := n4 i hi'
    rw [hg] at q1 q2 q3
    exact ⟨fun h => q1 (by rw [h]), fun h => q2 (by rw [h]), fun h => q3 (by rw [h])⟩
  refine ⟨⟨h1, h2, h3, h4⟩, ?_⟩
  unfold Cat.leaves
  rw [lvBlks_append, lvBlks_append, lvBlks_append]
  have s1 : lvBlks [(p.a1, c.src.length)] = lvBlk (p.a1, c.src.length) := by simp [lvBlks]
  have s2 : lvBlks [(p.a2, c.tgt.length)] = lvBlk (p.a2, c.tgt.length) := by simp [lvBlks]
  have s3 : lvBlks [(p.a3, c.idn.length)] = lvBlk (p.a3, c.idn.length) := by simp [lvBlks]
  rw [s1, s2, s3]
  refine List.nodup_append.2 ⟨lvBlk_nodup _, List.nodup_append.2 ⟨lvBlk_nodup _, List.nodup_append.2 ⟨lvBlk_nodup _, h4.2, ?_⟩, ?_⟩, ?_⟩
  · intro x hx y hy hxy
    have e1 := one k3 hx
    have e2 := rows y hy
    omega
  · intro x hx y hy hxy
    have e1 := one k2 hx
    rcases List.mem_append.1 hy with hy | hy
    · have e2 := one k3 hy; omega
    · have e2 := rows y hy; omega
  · intro x hx y hy hxy
    have e1 := one k1 hx
    rcases List.mem_append.1 hy with hy | hy
    · have e2 := one k2 hy; omega
    · rcases List.mem_append.1 hy with hy | hy
      · have e2 := one k3 hy; omega
      · have e2 := rows y hy; omega
end Go.GL
namespace Go.GL
theorem Lasts.of_le {e : TypeId} {H H' : GHeap} (h : H.Le H') : Lasts e H H' := fun x _ hx => h.2 x _ hx
end Go.GL
namespace Go.GL
def ctPr (y e d : Nat) : List Int := [(y : Int), (e : Int), (d : Int)]
def ctL (p q : Prof) (x z : Int) (y e d : Nat) : List (List Int) := nest3 ctPr (fun y => ((p.sz.getD x.toNat []).getD y 0).toNat) (fun y _ => ((q.sz.getD y []).getD z.toNat 0).toNat) y e d
structure CtOk (p q : Prof) (x z : Int) (n : Nat) : Prop where
  n8 : n ≤ 8
  x0 : 0 ≤ x
  xl : x.toNat < p.sz.length
  z0 : 0 ≤ z
  pn : ((p.sz.getD x.toNat []).length : Int) = n
  qn : (q.sz.length : Int) = n
  pe : ∀ y, y < n → 0 ≤ (p.sz.getD x.toNat []).getD y 0 ∧ (p.sz.getD x.toNat []).getD y 0 ≤ 64
  qe : ∀ y, y < n → z.toNat < (q.sz.getD y []).length ∧ 0 ≤ (q.sz.getD y []).getD z.toNat 0 ∧ (q.sz.getD y []).getD z.toNat 0 ≤ 64
def tcells (xss : List (List Int)) : List Value := xss.flatMap ints
structure TrAt (b : Nat) (H : GHeap) (g : Nat) (xss : List (List Int)) : Prop where
  lo : b ≤ g
  three : ∀ x ∈ xss, x.length = 3
  at' : ∃ e, H.get g = some (.row (tcells xss) e true)
end Go.GL
namespace Go.GL
open Go.RowKit
theorem CDo.appendL {P : Program} {H : GHeap} {fr : Slots} {o : Oper} {t tx e e' : TypeId} {s x : Operand} {g n bytes : Nat} {a : Option Addr} {z : List Value} {ys xs : List Int} (ho : o.op = .call { callee := .builtin .append, args := #[s, x], argTypes := #[t, tx] }) (ht : sliceT P t = some (e, 1)) (hz : zeroT P e = some (z, 1)) (hzn : z.length = 1)
    (hb : (P.info? e).map (·.bytes) = some bytes) (htx : sliceT P tx = some (e', 1)) (hsv : ev fr s = some (.slice (some ⟨g, 0, none⟩) n n)) (hx : ev fr x = some (.slice a xs.length xs.length)) (hg : H.get g = some (.row (ints ys) e true)) (hxs : Ints H a xs) (hend : n = ys.length)
    (hN : n + xs.length ≤ 16777216) (hB : (n + xs.length) * bytes ≤ 140737488355328) :
    CDo P o fr H (fun r H' => ∃ g', r = some (.slice (some ⟨g', 0, none⟩) (n + xs.length) (n + xs.length)) ∧ St [g] H H' ∧ H.next ≤ g' ∧ H'.get g' = some (.row (ints (ys ++ xs)) e true)) := by
  have e1 : ints (ys ++ xs) = (ints ys).drop 0 ++ ints xs := by simp [ints]
  rw [e1]
  refine .appendR (off := 0) (cs := ints ys) (news := ints xs) ho ht hz hzn hb hsv hg (by simp; omega) ?_ hN hB
  rcases hxs with h0 | ⟨g', off, rfl, hc⟩
  · obtain rfl : xs = [] := List.eq_nil_of_length_eq_zero h0
    exact .empty htx hx
  · exact .slice htx hx (by simp) (fun i v hv => by
      have hi : i < xs.length := by have := (List.getElem?_eq_some_iff.1 hv).1; simpa using this
      rw [ints_get hi] at hv
      cases hv
      exact hc i hi) (fun v hv => by
      simp only [ints, List.mem_map] at hv
      obtain ⟨m, _, rfl⟩ := hv
      rfl)

section
variable {P : Program} {B : Nat} {w0 : World} {ρ : Place} {H : GHeap} {w : World} {fr : Slots} {o : Oper} {R : Option Value → GHeap → Prop}
end
end Go.GL
namespace Go.GL
def least (K : Nat → Nat → Bool) (i : Nat) : Nat := ((List.range i).find? fun j => K j i).getD i
def reps (K : Nat → Nat → Bool) (m : Nat) : Nat := ((List.range m).filter fun j => least K j == j).length
def clsAt (K : Nat → Nat → Bool) (i : Nat) : Int := (reps K (least K i) : Int)
def clsL (K : Nat → Nat → Bool) (n : Nat) : List Int := (List.range n).map (clsAt K)
structure Eqv (K : Nat → Nat → Bool) (n : Nat) : Prop where
  rf : ∀ a, a < n → K a a = true
  sy : ∀ a b, a < n → b < n → K a b = true → K b a = true
  tr : ∀ a b c, a < n → b < n → c < n → K a b = true → K b c = true → K a c = true
def kerB (xs : List Int) (a b : Nat) : Bool := xs.getD a 0 == xs.getD b 0
structure Forest (j : List Int) : Prop where
  up : ∀ x, x < j.length → 0 ≤ j.getD x 0 ∧ j.getD x 0 ≤ (x : Int)
end Go.GL
namespace Go.GL
def idxLL (xss : List (List Int)) (t : List Int) : Int := match firstN xss.length fun i => xss.getD i [] == t with | some i => (i : Int) | none => -1
theorem idxLL_some {xss : List (List Int)} {t : List Int} {i : Nat} (hi : i < xss.length) (h : xss.getD i [] = t) (hb : ∀ j, j < i → ¬ xss.getD j [] = t) : idxLL xss t = i := by
  unfold idxLL
  rw [firstN_some hi (by simpa using h) fun j hj => by simpa using hb j hj]
theorem idxLL_none {xss : List (List Int)} {t : List Int} (h : ∀ j, j < xss.length → ¬ xss.getD j [] = t) : idxLL xss t = -1 := by
  unfold idxLL
  rw [firstN_none fun j hj => by simpa using h j hj]
structure Keys (n : Nat) (xss : List (List Int)) : Prop where
  nd : xss.Nodup
  ok : ∀ t ∈ xss, t.length = n ∧ ∀ i, i < n → 0 ≤ t.getD i 0 ∧ t.getD i 0 ≤ 255
end Go.GL
namespace Go.GL
abbrev rep (xs : List Int) (k : Nat) : Nat := least (kerB xs) k
abbrev Cat.tn (c : Cat) (a b : Nat) : Nat := ((c.comp.getD a []).getD b 0).toNat
theorem Cat.Shape.tn {c : Cat} (h : c.Shape) {a b : Nat} (ha : a < c.src.length) (hb : b < c.src.length) (e : c.tgt.getD a 0 = c.src.getD b 0) :
    c.tn a b < c.src.length ∧ c.src.getD (c.tn a b) 0 = c.src.getD a 0 ∧ c.tgt.getD (c.tn a b) 0 = c.tgt.getD b 0 ∧ (c.comp.getD a []).getD b 0 = (c.tn a b : Int) := by
  have h1 := (Cat.Cell.pos e).1 (h.cell a (by have := h.cl; omega) b hb)
  obtain ⟨h2, h3, h4, h5⟩ := h1
  exact ⟨by unfold Cat.tn; omega, h4, h5, by unfold Cat.tn; omega⟩
def Cat.ParOk (c : Cat) (xs : List Int) : Prop := ∀ k, k < c.src.length → c.src.getD (rep xs k) 0 = c.src.getD k 0 ∧ c.tgt.getD (rep xs k) 0 = c.tgt.getD k 0
def Cat.CmpOk (c : Cat) (xs : List Int) : Prop := ∀ i, i < c.src.length → ∀ j, j < c.src.length → c.tgt.getD i 0 = c.src.getD j 0 → xs.getD (c.tn i j) 0 = xs.getD (c.tn (rep xs i) (rep xs j)) 0
structure Cat.Cong (c : Cat) (xs : List Int) : Prop where
  len : xs.length = c.src.length
  nor : clsL (kerB xs) xs.length = xs
  par : c.ParOk xs
  cmp : c.CmpOk xs

theorem OwnL.low {b b' : Nat} {H : GHeap} {e : TypeId} {r : Nat → Option Addr} {xss : List (List Int)} (h : OwnL b H e r xss) (hb : b' ≤ b) : OwnL b' H e r xss := ⟨fun i hi => by
  obtain ⟨g, h1, h2, h3⟩ := h.row i hi
  exact ⟨g, h1, by omega, h3⟩, h.inj⟩
end Go.GL
namespace Go.GL
def repL (xs : List Int) (n : Nat) : List Nat := (List.range n).filter fun i => rep xs i == i
def Cat.quoX (c : Cat) (xs : List Int) (i j : Nat) : Int := if 0 ≤ (c.comp.getD i []).getD j 0 then xs.getD ((c.comp.getD i []).getD j 0).toNat 0 else (c.comp.getD i []).getD j 0
def Cat.quo (c : Cat) (xs : List Int) : Cat where
  obj := c.obj
  src := (repL xs xs.length).map fun i => c.src.getD i 0
  tgt := (repL xs xs.length).map fun i => c.tgt.getD i 0
  idn := c.idn.map fun a => xs.getD a.toNat 0
  comp := (repL xs xs.length).map fun i => (repL xs xs.length).map fun j => c.quoX xs i j

end Go.GL
namespace Go.GL
def Off (r : Nat → Option Addr) (n : Nat) (gs : List Nat) : Prop := ∀ i, i < n → ∀ g, r i = some ⟨g, 0, none⟩ → out gs g
theorem Off.nil (r : Nat → Option Addr) (n : Nat) : Off r n [] := fun _ _ _ _ => trivial
theorem Off.cons {r : Nat → Option Addr} {n g : Nat} {gs : List Nat} (h : ∀ i, i < n → r i ≠ some ⟨g, 0, none⟩) (h' : Off r n gs) : Off r n (g :: gs) := fun i hi k hk => ⟨fun e => h i hi (by rw [hk, e]), h' i hi k hk⟩
theorem OwnRows.st {b k : Nat} {bs : List Nat} {H H' : GHeap} {e : TypeId} {r : Nat → Option Addr} {X : Nat → List Int} (h : OwnRows b H e r X k) (s : St bs H H') (ho : Off r k bs) : OwnRows b H' e r X k := ⟨fun i hi => by
  obtain ⟨x, h1, h2, h3⟩ := h.row i hi
  exact ⟨x, h1, h2, s.same x _ (ho i hi x h1) h3⟩, h.inj⟩
theorem OwnL.st {b : Nat} {bs : List Nat} {H H' : GHeap} {e : TypeId} {r : Nat → Option Addr} {xss : List (List Int)} (h : OwnL b H e r xss) (s : St bs H H') (ho : Off r xss.length bs) : OwnL b H' e r xss := OwnRows.st h s ho
theorem OwnL.ne {b g : Nat} {H : GHeap} {e : TypeId} {r : Nat → Option Addr} {xss : List (List Int)} (h : OwnL b H e r xss) (hg : H.next ≤ g) : ∀ i, i < xss.length → r i ≠ some ⟨g, 0, none⟩ := fun i hi e => by
  obtain ⟨x, h1, _, h3⟩ := h.row i hi
  rw [h1] at e
  cases e
  have := GHeap.ltg h3
  omega
theorem OwnL.neT {b g : Nat} {H : GHeap} {e e' : TypeId} {cs : List Value} {r : Nat → Option Addr} {xss : List (List Int)} (h : OwnL b H e r xss) (hg : H.get g = some (.row cs e' true)) (hne : (e != e') = true) : ∀ i, i < xss.length → r i ≠ some ⟨g, 0, none⟩ := fun i hi ei => by
  obtain ⟨x, h1, _, h3⟩ := h.row i hi
  rw [h1] at ei
  cases ei
  rw [hg] at h3
  cases h3
  simp at hne
theorem OwnL.lowNe {b g : Nat} {H : GHeap} {e : TypeId} {r : Nat → Option Addr} {xss : List (List Int)} (h : OwnL b H e r xss) (hg : g < b) : ∀ i, i < xss.length → r i ≠ some ⟨g, 0, none⟩ := fun i hi ei => by
  obtain ⟨x, h1, h2, _⟩ := h.row i hi
  rw [h1] at ei
  cases ei
  omega
theorem ne_snoc {g k : Nat} {r : Nat → Option Addr} {xss : List (List Int)} {x : List Int} (h : ∀ i, i < xss.length → r i ≠ some ⟨g, 0, none⟩) (hk : k ≠ g) : ∀ i, i < (xss ++ [x]).length → upd r xss.length (some ⟨k, 0, none⟩) i ≠ some ⟨g, 0, none⟩ := fun i hi => by
  rw [List.length_append, List.length_singleton] at hi
  by_cases e : i = xss.length
  · subst e
    rw [upd_eq]
    intro e
    cases e
    exact hk rfl
  · rw [upd_ne e]
    exact h i (by omega)
theorem OwnL.snoc2 {b g : Nat} {H : GHeap} {e : TypeId} {r : Nat → Option Addr} {xss : List (List Int)} {x : List Int} (h : OwnL b H e r xss) (hg : H.get g = some (.row (ints x) e true)) (hne : ∀ i, i < xss.length → r i ≠ some ⟨g, 0, none⟩) (hb : b ≤ g) :
    OwnL b H e (upd r xss.length (some ⟨g, 0, none⟩)) (xss ++ [x]) := by
  have key : ∀ i, i < xss.length + 1 → (i = xss.length ∧ upd r xss.length (some ⟨g, 0, none⟩) i = some ⟨g, 0, none⟩ ∧ (xss ++ [x]).getD i [] = x) ∨ (i < xss.length ∧ upd r xss.length (some ⟨g, 0, none⟩) i = r i ∧ (xss ++ [x]).getD i [] = xss.getD i []) := by
    intro i hi
    by_cases e : i = xss.length
    · subst e
      exact .inl ⟨rfl, upd_eq _ _ _, by rw [getD_snoc, if_neg (by omega), if_pos rfl]⟩
    · exact .inr ⟨by omega, upd_ne e, by rw [getD_snoc, if_pos (by omega)]⟩
  unfold OwnL
  rw [List.length_append, List.length_singleton]
  refine ⟨fun i hi => ?_, fun i j hi hj hij => ?_⟩
  · rcases key i hi with ⟨_, h2, h3⟩ | ⟨h1, h2, h3⟩
    · exact ⟨g, h2, hb, by rw [h3]; exact hg⟩
    · obtain ⟨y, y1, y2, y3⟩ := h.row i h1
      exact ⟨y, by rw [h2]; exact y1, y2, by rw [h3]; exact y3⟩
  · rcases key i hi with ⟨h1, h2, _⟩ | ⟨h1, h2, _⟩
    · rcases key j hj with ⟨k1, k2, _⟩ | ⟨k1, k2, _⟩
      · omega
      · rw [h2, k2] at hij
        exact absurd hij.symm (hne j k1)
    · rcases key j hj with ⟨k1, k2, _⟩ | ⟨k1, k2, _⟩
      · rw [h2, k2] at hij
        exact absurd hij (hne i h1)
      · rw [h2, k2] at hij
        exact h.inj i j h1 k1 hij
theorem take_map_snoc {α β : Type} {f : α → β} {l : List α} {i : Nat} {d : α} (h : i < l.length) : (l.take (i + 1)).map f = (l.take i).map f ++ [f (l.getD i d)] := by
  rw [List.take_add_one, List.getElem?_eq_getElem h, List.map_append, List.getD_eq_getElem?_getD, List.getElem?_eq_getElem h]; rfl

theorem Ints.slN {H : GHeap} {a : Option Addr} {xs : List Int} {n : Nat} (h : Ints H a xs) (hn : xs.length = n) : SlA H a n (fun i => .int .i64 (xs.getD i 0)) := by subst hn; exact h
def fillS (r : Nat → Option Addr) (n k : Nat) : List Value := (List.range n).map fun i => if i < k then .slice (r i) n n else .slice none 0 0
@[simp] theorem length_fillS (r : Nat → Option Addr) (n k : Nat) : (fillS r n k).length = n := by simp [fillS]
theorem fillS_zero (r : Nat → Option Addr) (n : Nat) : fillS r n 0 = List.replicate n (.slice none 0 0) := by
  apply List.ext_getElem (by simp)
  intro i h1 h2
  simp [fillS]
theorem fillS_set {r : Nat → Option Addr} {n k : Nat} {a : Option Addr} (h : k < n) : (fillS r n k).set k (.slice a n n) = fillS (upd r k a) n (k + 1) := by
  apply List.ext_getElem (by simp)
  intro i h1 h2
  simp only [length_fillS, List.length_set] at h1
  simp only [fillS, List.getElem_set, List.getElem_map, List.getElem_range]
  by_cases e : i = k
  · subst e
    rw [if_pos rfl, if_pos (by omega), upd_eq]
  · rw [if_neg (Ne.symm e), upd_ne e]
    by_cases e2 : i < k
    · rw [if_pos e2, if_pos (by omega)]
    · rw [if_neg e2, if_neg (by omega)]
theorem fillS_cell {r : Nat → Option Addr} {H : GHeap} {g n k i : Nat} {e : TypeId} {own : Bool} (h : H.get g = some (.row (fillS r n k) e own)) (hi : i < k) (hn : i < n) : H.cell g (0 + i) = some (.slice (r i) n n) := by
  rw [GHeap.cell_of h, Nat.zero_add]
  simp [fillS, hi, hn]
theorem fillS_all {r : Nat → Option Addr} {X : Nat → List Int} {n : Nat} (h : ∀ i, i < n → (X i).length = n) : fillS r n n = slsOf r X n := by
  unfold fillS slsOf
  refine List.map_congr_left fun i hi => ?_
  have := List.mem_range.1 hi
  rw [if_pos this, h i this]
def fillI (c : Nat → Int) (n k : Nat) : List Int := (List.range n).map fun i => if i < k then c i else 0
@[simp] theorem length_fillI (c : Nat → Int) (n k : Nat) : (fillI c n k).length = n := by simp [fillI]
theorem fillI_zero (c : Nat → Int) (n : Nat) : fillI c n 0 = List.replicate n 0 := by
  apply List.ext_getElem (by simp)
  intro i h1 h2
  simp [fillI]
theorem fillI_set {c : Nat → Int} {n k : Nat} {v : Int} (h : k < n) (hv : v = c k) : (fillI c n k).set k v = fillI c n (k + 1) := by
  apply List.ext_getElem (by simp)
  intro i h1 h2
  simp only [length_fillI, List.length_set] at h1
  simp only [fillI, List.getElem_set, List.getElem_map, List.getElem_range]
  by_cases e : i = k
  · subst e
    rw [if_pos rfl, if_pos (by omega), hv]
  · rw [if_neg (Ne.symm e)]
    by_cases e2 : i < k
    · rw [if_pos e2, if_pos (by omega)]
    · rw [if_neg e2, if_neg (by omega)]
theorem fillI_all {c : Nat → Int} {n : Nat} : fillI c n n = (List.range n).map c := List.map_congr_left fun i hi => by rw [if_pos (List.mem_range.1 hi)]
def tabC (src tgt : List Int) (X : Nat → Nat → Int) (i j : Nat) : Int := if tgt.getD i 0 = src.getD j 0 then X i j else -1
def tabR (src tgt : List Int) (X : Nat → Nat → Int) (n i : Nat) : List Int := (List.range n).map (tabC src tgt X i)
@[simp] theorem length_tabR (src tgt : List Int) (X : Nat → Nat → Int) (n i : Nat) : (tabR src tgt X n i).length = n := by simp [tabR]
theorem tabC_T {src tgt : List Int} {X : Nat → Nat → Int} {i j : Nat} (h : tgt.getD i 0 = src.getD j 0) : tabC src tgt X i j = X i j := if_pos h
theorem tabC_F {src tgt : List Int} {X : Nat → Nat → Int} {i j : Nat} (h : ¬ tgt.getD i 0 = src.getD j 0) : tabC src tgt X i j = -1 := if_neg h
def tabL (src tgt : List Int) (X : Nat → Nat → Int) (n : Nat) : List (List Int) := rowsOf (tabR src tgt X n) n
theorem eq_of_getD2 {xss yss : List (List Int)} (hl : xss.length = yss.length) (h : ∀ i, i < xss.length → xss.getD i [] = yss.getD i []) : xss = yss := by
  apply List.ext_getElem hl
  intro i h1 h2
  have := h i h1
  simpa [List.getD_eq_getElem?_getD, List.getElem?_eq_getElem h1, List.getElem?_eq_getElem h2] using this
end Go.GL
namespace Go.GL
def NewCatR (H : GHeap) (c : Cat) (v : Value) (H' : GHeap) : Prop := H.Le H' ∧ ∃ p, v = .agg (c.cells p).toArray ∧ CatR H.next H' c p
end Go.GL
namespace Go.GL
def tabB (n : Nat) (p : Nat → Bool) : List Bool := (List.range n).map p
def slsN (r : Nat → Nat) (L : Nat → Nat) (k : Nat) : List Value := (List.range k).map fun i => .slice (some ⟨r i, 0, none⟩) (L i) (L i)
def LastsV (e : TypeId) (H H' : GHeap) : Prop := ∀ x cs, H.get x = some (.row cs e true) → H'.get x = some (.row cs e true)
structure OwnB (b : Nat) (H : GHeap) (e : TypeId) (r : Nat → Nat) (L : Nat → Nat) (M : Nat → Nat → Bool) (k : Nat) : Prop where
  row : ∀ i, i < k → b ≤ r i ∧ H.get (r i) = some (.row (bools (tabB (L i) (M i))) e true)
  inj : ∀ i j, i < k → j < k → r i = r j → i = j
structure BMat (b : Nat) (H : GHeap) (g : Nat) (e1 e2 : TypeId) (r : Nat → Nat) (L : Nat → Nat) (M : Nat → Nat → Bool) (n : Nat) : Prop where
  hd : H.get g = some (.row (slsN r L n) e1 true)
  gb : b ≤ g
  own : OwnB b H e2 r L M n
end Go.GL
namespace Go.GL
structure Cat.Closed (c : Cat) (xs : List Int) : Prop where
  filt : ∃ P, xs = filtN c.src.length P
  id : ∀ f ∈ xs, c.idn.getD (c.src.getD f.toNat 0).toNat 0 ∈ xs ∧ c.idn.getD (c.tgt.getD f.toNat 0).toNat 0 ∈ xs
  th : ∀ f ∈ xs, ∀ g ∈ xs, 0 ≤ c.th f g → c.th f g ∈ xs
end Go.GL
namespace Go.GL
open Go.RowKit
structure PL (g g0 n : Nat) : Prop where
  or : g = g0 ∨ n ≤ g
theorem PL.ne {g g0 n x : Nat} (h : PL g g0 n) (h0 : x ≠ g0) (hx : x < n) : x ≠ g := by
  rcases h.or with rfl | h
  · exact h0
  · omega
theorem St.sP {bs cs : List Nat} {H0 H H' : GHeap} (s : St bs H0 H) (h : St cs H H') (hg : ∀ k, k < H0.next → out bs k → out cs k := by intro k hk ho; simp only [out, and_true] at ho ⊢ <;> first | exact ho | exact ho.1 | exact ho.2 | exact ho.2.1 | exact ho.2.2 | exact ho.2.2.1 | exact ho.2.2.2 | exact PL.ne (by assumption) (by first | exact ho | exact ho.1 | exact ho.2 | exact ho.2.1 | exact ho.2.2 | exact ho.2.2.1 | exact ho.2.2.2 | omega) (by omega) | omega) : St bs H0 H' := s.st h hg
theorem St.sQ {bs cs : List Nat} {H0 H H' : GHeap} (s : St bs H0 H) (h : St cs H H') (hg : ∀ k, k < H0.next → out bs k → out cs k := by intro k hk ho; simp only [out, and_true] at ho ⊢ <;> first | exact ho | exact ho.1 | exact ho.2 | exact ho.2.1 | exact ho.2.2 | exact ho.2.2.1 | exact ho.2.2.2 | exact PL.ne (by assumption) (by first | exact ho | exact ho.1 | exact ho.2 | exact ho.2.1 | exact ho.2.2 | exact ho.2.2.1 | exact ho.2.2.2 | exact PL.ne (by assumption) (by first | exact ho | exact ho.1 | exact ho.2 | exact ho.2.1 | exact ho.2.2 | exact ho.2.2.1 | exact ho.2.2.2 | exact PL.ne (by assumption) (by first | exact ho | exact ho.1 | exact ho.2 | exact ho.2.1 | exact ho.2.2 | exact ho.2.2.1 | exact ho.2.2.2 | omega) (by omega) | omega) (by omega) | omega) (by omega) | omega) : St bs H0 H' := s.st h hg
theorem PL.ne' {g g0 n x : Nat} (h : PL g g0 n) (h0 : x ≠ g0) (hx : x < n) : g ≠ x := (h.ne h0 hx).symm
theorem PL.trans {g g1 g0 n n' : Nat} (h : PL g g1 n') (h' : PL g1 g0 n) (hn : n ≤ n') : PL g g0 n := by
  rcases h.or with rfl | h
  · exact h'
  · exact ⟨.inr (by omega)⟩
theorem PL.ge {g g0 n b : Nat} (h : PL g g0 n) (h0 : b ≤ g0) (hn : b ≤ n) : b ≤ g := by
  rcases h.or with rfl | h
  · exact h0
  · omega
def nz : Nat → Nat → Option Addr
  | 0, _ => none
  | _ + 1, g => some ⟨g, 0, none⟩
theorem nz_pos {k g : Nat} (h : 0 < k) : nz k g = some ⟨g, 0, none⟩ := by
  cases k with
  | zero => omega
  | succ k => rfl
structure NO (H : GHeap) (g : Nat) (cs : List Value) (e : TypeId) (k : Nat) : Prop where
  lt : g < H.next
  or : (k = 0 ∧ cs = []) ∨ (0 < k ∧ H.get g = some (.row cs e true))
theorem NO.le {H H' : GHeap} {g k : Nat} {cs : List Value} {e : TypeId} (h : NO H g cs e k) (s : H.Le H') : NO H' g cs e k := ⟨by have := h.lt; have := s.1; omega, h.or.imp id fun h => ⟨h.1, s.2 _ _ h.2⟩⟩
theorem NO.st {H H' : GHeap} {g k : Nat} {bs : List Nat} {cs : List Value} {e : TypeId} (h : NO H g cs e k) (s : St bs H H') (ho : out bs g) : NO H' g cs e k := ⟨by have := h.lt; have := s.nx; omega, h.or.imp id fun h => ⟨h.1, s.same _ _ ho h.2⟩⟩
theorem NO.start {H : GHeap} {g k : Nat} {cs : List Value} {e : TypeId} (h : g < H.next) (hk : k = 0) (hc : cs = []) : NO H g cs e k := ⟨h, .inl ⟨hk, hc⟩⟩
theorem NO.of {H : GHeap} {g k : Nat} {cs : List Value} {e : TypeId} (h : H.get g = some (.row cs e true)) (hk : 0 < k) : NO H g cs e k := ⟨GHeap.ltg h, .inr ⟨hk, h⟩⟩
theorem NO.get {H : GHeap} {g k : Nat} {cs : List Value} {e : TypeId} (h : NO H g cs e k) (hk : 0 < k) : H.get g = some (.row cs e true) := by
  rcases h.or with ⟨h, _⟩ | ⟨_, h⟩
  · omega
  · exact h
theorem NO.isR {b : Nat} {H : GHeap} {g k : Nat} {xs : List Int} {e : TypeId} (h : NO H g (ints xs) e k) (hk : k = xs.length) (hb : b ≤ g) : IntsR b H (nz k g) xs := by
  subst hk
  by_cases h0 : xs.length = 0
  · obtain rfl := List.eq_nil_of_length_eq_zero h0
    exact .inl ⟨rfl, rfl⟩
  · rw [nz_pos (by omega)]
    exact .inr ⟨g, e, rfl, hb, h.get (by omega)⟩
theorem NO.isV {H : GHeap} {g k : Nat} {xs : List Int} {e : TypeId} (h : NO H g (ints xs) e k) (hk : k = xs.length) : Ints H (nz k g) xs := (h.isR (b := 0) hk (Nat.zero_le _)).ints
theorem nz_or (k g : Nat) : nz k g = none ∨ nz k g = some ⟨g, 0, none⟩ := by
  cases k with
  | zero => exact .inl rfl
  | succ k => exact .inr rfl
theorem Sim.hold {P : Program} {B : Nat} {w0 : World} {ρ : Place} {H : GHeap} {w : World} (hs : Sim P B w0 ρ H w) : Sim P B w0 ρ ⟨H.objs ++ [none]⟩ w := by
  have hg : ∀ {g : Nat} {o : GObj}, GHeap.get ⟨H.objs ++ [none]⟩ g = some o → H.get g = some o := fun {g o} h => by
    unfold GHeap.get at h ⊢
    rcases Nat.lt_trichotomy g H.objs.length with hl | hl | hl
    · rwa [List.getElem?_append_left hl] at h
    · subst hl; simp at h
    · rw [List.getElem?_eq_none (by simp; omega)] at h; cases h
  exact ⟨fun g h => hs.dom g (by have : (GHeap.mk (H.objs ++ [none])).next = H.next + 1 := by simp [GHeap.next]
                                 omega), fun g o h => hs.live g o (hg h), fun g g' o o' s s' h1 h2 => hs.apart g g' o o' s s' (hg h1) (hg h2), hs.base, hs.below⟩
theorem GT.hold {P : Program} {N : Nat} {c : Code} {Q : Exit → Slots → GHeap → Prop} {fr : Slots} {H : GHeap} (h : ∀ H', H.Le H' → H'.next = H.next + 1 → GT P N c Q fr H') : GT P N c Q fr H := fun l D B w0 ρ a w hs hf =>
  h ⟨H.objs ++ [none]⟩ ⟨by simp [GHeap.next], fun g o hg => by
    have hl : g < H.objs.length := GHeap.ltg hg
    unfold GHeap.get at hg ⊢
    rwa [List.getElem?_append_left hl]⟩ (by simp [GHeap.next]) l D B w0 ρ a w hs.hold hf
section
variable {P : Program} {o : Oper} {fr : Slots} {H : GHeap}
theorem CDo.appendNO {t tx e e' : TypeId} {s x : Operand} {g g1 n sz bytes : Nat} {z cs vs : List Value} (ho : o.op = .call { callee := .builtin .append, args := #[s, x], argTypes := #[t, tx] }) (ht : sliceT P t = some (e, sz)) (hz : zeroT P e = some (z, sz)) (hzn : z.length = sz)
    (hb : (P.info? e).map (·.bytes) = some bytes) (htx : sliceT P tx = some (e', sz)) (hsv : ev fr s = some (.slice (nz n g) n n)) (hx : ev fr x = some (.slice (some ⟨g1, 0, none⟩) 1 1)) (hno : NO H g cs e n) (hg1 : H.get g1 = some (.row vs e' true)) (hend : n * sz = cs.length)
    (hv : vs.length = sz) (hone : vs.all (·.oneCell') = true) (hN : n + 1 ≤ 16777216) (hB : (n + 1) * bytes ≤ 140737488355328) :
    CDo P o fr H (fun r H' => ∃ g', r = some (.slice (some ⟨g', 0, none⟩) (n + 1) (n + 1)) ∧ St [g] H H' ∧ H.next ≤ g' ∧ H'.get g' = some (.row (cs ++ vs) e true)) := by
  rcases hno.or with ⟨rfl, rfl⟩ | ⟨h1, h2⟩
  · have hsrc : SrcG P fr H sz tx x 1 vs := .slice htx hx (by omega) (fun i v hv => by rw [GHeap.cell_of hg1, Nat.zero_add]; exact hv) (fun v hv => List.all_eq_true.1 hone v hv)
    exact .appendNil ho ht hz hzn hb hsv hsrc (by omega) (by unfold maxLen; omega) (by omega) ⟨_, rfl, .push (.refl _ _), Nat.le_refl _, GHeap.get_push_new _ _⟩
  · rw [nz_pos h1] at hsv
    exact .appendV ho ht hz hzn hb htx hsv hx h2 hg1 hend hv hone hN hB
theorem CDo.appendNOI {t tx e e' : TypeId} {s x : Operand} {g g1 n bytes : Nat} {z : List Value} {ys : List Int} {m : Int} (ho : o.op = .call { callee := .builtin .append, args := #[s, x], argTypes := #[t, tx] }) (ht : sliceT P t = some (e, 1)) (hz : zeroT P e = some (z, 1)) (hzn : z.length = 1)
    (hb : (P.info? e).map (·.bytes) = some bytes) (htx : sliceT P tx = some (e', 1)) (hsv : ev fr s = some (.slice (nz n g) n n)) (hx : ev fr x = some (.slice (some ⟨g1, 0, none⟩) 1 1)) (hno : NO H g (ints ys) e n) (hg1 : H.get g1 = some (.row [.int .i64 m] e' true)) (hend : n = ys.length)
    (hN : n + 1 ≤ 16777216) (hB : (n + 1) * bytes ≤ 140737488355328) :
    CDo P o fr H (fun r H' => ∃ g', r = some (.slice (some ⟨g', 0, none⟩) (n + 1) (n + 1)) ∧ St [g] H H' ∧ H.next ≤ g' ∧ H'.get g' = some (.row (ints (ys ++ [m])) e true)) := by
  have e1 : ints (ys ++ [m]) = ints ys ++ [.int .i64 m] := by simp [ints]
  rw [e1]
  exact .appendNO ho ht hz hzn hb htx hsv hx hno hg1 (by simp; omega) rfl rfl hN hB
end
end Go.GL
namespace Go.GL
end Go.GL
namespace Go.GL
structure LcOk (k : Fun) (f : SFun) : Prop where
  hk : k.Is
  hf : f.Is
  he : f.sh = k.s
structure LcA (k : Fun) (f : SFun) (y : Int) (a : Nat) : Prop where
  s0 : 0 ≤ k.s.src.getD a 0
  s1 : k.s.src.getD a 0 < k.ob.length
  t0 : 0 ≤ k.s.tgt.getD a 0
  t1 : k.s.tgt.getD a 0 < k.ob.length
  al : ((f.ac.getD a []).length : Int) = f.sz.getD (k.s.src.getD a 0).toNat 0
  zs : f.sz.getD (k.s.src.getD a 0).toNat 0 ≤ 16
  ac : ∀ e, e < (f.ac.getD a []).length → 0 ≤ (f.ac.getD a []).getD e 0 ∧ (f.ac.getD a []).getD e 0 < f.sz.getD (k.s.tgt.getD a 0).toNat 0
  r0 : 0 ≤ k.ar.getD a 0
  r1 : k.ar.getD a 0 < k.t.src.length
  th : ∀ h, h ∈ k.t.hom (k.ob.getD (k.s.tgt.getD a 0).toNat 0) y → (0 ≤ h ∧ h < k.t.src.length) ∧ k.t.th (k.ar.getD a 0) h ∈ k.t.hom (k.ob.getD (k.s.src.getD a 0).toNat 0) y
end Go.GL
namespace Go.GL
def ccF (m k : Prof) (x z : Int) (y : Nat) : Int := (m.sz.getD x.toNat []).getD y 0 * (k.sz.getD y []).getD z.toNat 0
def ccSt (m k : Prof) (x z : Int) (n : Nat) : List Int := (List.range n).map (sumN (ccF m k x z))
def ccL (m k : Prof) (x z : Int) : List (List Int) := ctL m k x z m.t.obj.toNat 0 0
def ccT (m : Prof) (x : Int) (b e d : Nat) : List Int := [m.t.tgt.getD b 0, ((m.bh.getD b []).getD x.toNat []).getD e 0, (d : Int)]
def ccU (m k : Prof) (z : Int) (b e d : Nat) : List Int := [m.t.src.getD b 0, (e : Int), ((k.be.getD b []).getD z.toNat []).getD d 0]
def ccRow (m k : Prof) (x z : Int) (b e d : Nat) : List Int := [idxLL (ccL m k x z) (ccT m x b e d), idxLL (ccL m k x z) (ccU m k z b e d)]
structure CcOk (m k : Prof) (x z : Int) : Prop where
  hm : m.Is
  hk : k.Is
  x0 : 0 ≤ x
  x1 : x < m.s.obj
  z0 : 0 ≤ z
  z1 : z < k.t.obj
  he : m.t = k.s
structure CcA (m k : Prof) (x z : Int) (b : Nat) : Prop where
  s0 : 0 ≤ m.t.src.getD b 0
  s1 : m.t.src.getD b 0 < m.t.obj
  t0 : 0 ≤ m.t.tgt.getD b 0
  t1 : m.t.tgt.getD b 0 < m.t.obj
  b1 : x.toNat < (m.bh.getD b []).length
  b2 : (((m.bh.getD b []).getD x.toNat []).length : Int) = (m.sz.getD x.toNat []).getD (m.t.src.getD b 0).toNat 0
  b3 : ∀ e, e < ((m.bh.getD b []).getD x.toNat []).length → 0 ≤ ((m.bh.getD b []).getD x.toNat []).getD e 0 ∧ ((m.bh.getD b []).getD x.toNat []).getD e 0 < (m.sz.getD x.toNat []).getD (m.t.tgt.getD b 0).toNat 0
  k1 : z.toNat < (k.be.getD b []).length
  k2 : (((k.be.getD b []).getD z.toNat []).length : Int) = (k.sz.getD (m.t.tgt.getD b 0).toNat []).getD z.toNat 0
  k3 : ∀ d, d < ((k.be.getD b []).getD z.toNat []).length → 0 ≤ ((k.be.getD b []).getD z.toNat []).getD d 0 ∧ ((k.be.getD b []).getD z.toNat []).getD d 0 < (k.sz.getD (m.t.src.getD b 0).toNat []).getD z.toNat 0
  z1 : 0 ≤ (m.sz.getD x.toNat []).getD (m.t.src.getD b 0).toNat 0 ∧ (m.sz.getD x.toNat []).getD (m.t.src.getD b 0).toNat 0 ≤ 64
  z2 : 0 ≤ (k.sz.getD (m.t.tgt.getD b 0).toNat []).getD z.toNat 0 ∧ (k.sz.getD (m.t.tgt.getD b 0).toNat []).getD z.toNat 0 ≤ 64
structure CcP (m k : Prof) (x z : Int) (b e d : Nat) : Prop where
  mT : ccT m x b e d ∈ ccL m k x z
  mU : ccU m k z b e d ∈ ccL m k x z
  iT : idxLL (ccL m k x z) (ccT m x b e d) = (ccSt m k x z m.t.obj.toNat).getD (m.t.tgt.getD b 0).toNat 0 + ((m.bh.getD b []).getD x.toNat []).getD e 0 * (k.sz.getD (m.t.tgt.getD b 0).toNat []).getD z.toNat 0 + (d : Int)
  iU : idxLL (ccL m k x z) (ccU m k z b e d) = (ccSt m k x z m.t.obj.toNat).getD (m.t.src.getD b 0).toNat 0 + (e : Int) * (k.sz.getD (m.t.src.getD b 0).toNat []).getD z.toNat 0 + ((k.be.getD b []).getD z.toNat []).getD d 0
  lT : idxLL (ccL m k x z) (ccT m x b e d) < (ccL m k x z).length
  lU : idxLL (ccL m k x z) (ccU m k z b e d) < (ccL m k x z).length
  t0 : 0 ≤ (ccSt m k x z m.t.obj.toNat).getD (m.t.tgt.getD b 0).toNat 0
  t1 : 0 ≤ ((m.bh.getD b []).getD x.toNat []).getD e 0 * (k.sz.getD (m.t.tgt.getD b 0).toNat []).getD z.toNat 0
  u0 : 0 ≤ (ccSt m k x z m.t.obj.toNat).getD (m.t.src.getD b 0).toNat 0
  u1 : 0 ≤ (e : Int) * (k.sz.getD (m.t.src.getD b 0).toNat []).getD z.toNat 0
structure CcV (m k : Prof) (x z : Int) (b e d : Nat) : Prop where
  row : ccRow m k x z b e d = [(ccSt m k x z m.t.obj.toNat).getD (m.t.tgt.getD b 0).toNat 0 + ((m.bh.getD b []).getD x.toNat []).getD e 0 * (k.sz.getD (m.t.tgt.getD b 0).toNat []).getD z.toNat 0 + (d : Int), (ccSt m k x z m.t.obj.toNat).getD (m.t.src.getD b 0).toNat 0 + (e : Int) * (k.sz.getD (m.t.src.getD b 0).toNat []).getD z.toNat 0 + ((k.be.getD b []).getD z.toNat []).getD d 0]
  lT : (ccSt m k x z m.t.obj.toNat).getD (m.t.tgt.getD b 0).toNat 0 + ((m.bh.getD b []).getD x.toNat []).getD e 0 * (k.sz.getD (m.t.tgt.getD b 0).toNat []).getD z.toNat 0 + (d : Int) < (ccL m k x z).length
  lU : (ccSt m k x z m.t.obj.toNat).getD (m.t.src.getD b 0).toNat 0 + (e : Int) * (k.sz.getD (m.t.src.getD b 0).toNat []).getD z.toNat 0 + ((k.be.getD b []).getD z.toNat []).getD d 0 < (ccL m k x z).length
end Go.GL
namespace Go.GL
def searchL (cand : Nat → List Int) (ok : Nat → List Int → Bool) : Nat → List Int → List (List Int)
  | 0, p => [p]
  | r + 1, p => (cand p.length).flatMap fun h => bif ok p.length (p ++ [h]) then searchL cand ok r (p ++ [h]) else []
structure Net where
  cand : Nat → List Int
  A : Nat
  sr : Nat → Nat
  tg : Nat → Nat
  sq : Nat → Int → Int → Bool
namespace Net
def ok (n : Net) (j : Nat) (q : List Int) : Bool := allN n.A fun a => !(max (n.sr a) (n.tg a) == j) || n.sq a (q.getD (n.sr a) 0) (q.getD (n.tg a) 0)
def fits (n : Net) (q : List Int) (x : Nat) : Bool := allN n.A fun a => (n.sr a != x && n.tg a != x) || decide (q.getD (n.sr a) 0 < 0) || decide (q.getD (n.tg a) 0 < 0) || n.sq a (q.getD (n.sr a) 0) (q.getD (n.tg a) 0)
def choices (n : Net) (c : List Int) (x : Nat) : List Int := (n.cand x).filter fun h => n.fits (c.set x h) x
def sols (n : Net) (N : Nat) : List (List Int) := searchL n.cand n.ok N []
end Net
def firstU (c : List Int) : Option Nat := firstN c.length fun i => c.getD i 0 == -1
def cntU (c : List Int) : Nat := ((List.range c.length).filter fun i => c.getD i 0 == -1).length
def Net.stuck (n : Net) (c : List Int) : Bool := (List.range c.length).any fun y => c.getD y 0 == -1 && (n.choices c y).isEmpty
def Net.goF (n : Net) : Nat → List Int → List (List Int)
  | 0, c => [c]
  | f + 1, c => match firstU c with
    | none => [c]
    | some x => bif n.stuck c then [] else (n.choices c x).flatMap fun h => n.goF f (c.set x h)
def Net.go (n : Net) (c : List Int) : List (List Int) := n.goF (cntU c) c
structure Net.Good (n : Net) (N : Nat) : Prop where
  pos : ∀ x, ∀ h ∈ n.cand x, 0 ≤ h
  sr : ∀ a, a < n.A → n.sr a < N
  tg : ∀ a, a < n.A → n.tg a < N
end Go.GL
namespace Go.GL
section
variable {P : Program} {N : Nat} {ops : Array Oper} {Q : Slots → GHeap → Prop} {L : List (Oper × Nat)} {fr : Slots} {H Hb : GHeap} {o : Oper} {i : Nat} {t : Tree}
end
end Go.GL
namespace Go.GL
end Go.GL
namespace Go.GL
structure Fun.Par (f g : Fun) : Prop where
  fi : f.Is
  gi : g.Is
  ps : f.s = g.s
  pt : f.t = g.t
def Fun.net (f g : Fun) (iso : Bool) : Net where
  cand x := (f.t.hom (f.ob.getD x 0) (g.ob.getD x 0)).filter fun h => !iso || decide (0 ≤ f.t.inv h)
  A := f.ar.length
  sr a := (f.s.src.getD a 0).toNat
  tg a := (f.s.tgt.getD a 0).toNat
  sq a u v := decide (f.t.th (f.ar.getD a 0) v = f.t.th u (g.ar.getD a 0))
def stCells (f : Fun) (p : FunP) (g : Fun) (q : FunP) (iso : Bool) (most : Int) (a : Option Addr) (n : Nat) : List Value := f.cells p ++ (g.cells q ++ [.bool iso, .int .i64 most, .slice a n n])
end Go.GL
namespace Go.GL
def SlO (b : Nat) (H : GHeap) (a : Option Addr) (g : Nat) (cs : List Value) (e : TypeId) (k : Nat) : Prop := (a = none ∧ k = 0 ∧ cs = []) ∨ (a = some ⟨g, 0, none⟩ ∧ b ≤ g ∧ H.get g = some (.row cs e true))
section
variable {P : Program} {o : Oper} {fr : Slots} {H : GHeap}
end
structure FoundAt (T e e' : TypeId) (b : Nat) (H : GHeap) (gs gF : Nat) (f : Fun) (p : FunP) (k : Fun) (q : FunP) (iso : Bool) (M : Nat) (fs : List (List Int)) : Prop where
  ex : ∃ a r, H.get gs = some (.row (stCells f p k q iso (M : Int) a fs.length) T true) ∧ SlO b H a gF (slsL r fs) e fs.length ∧ OwnL b H e' r fs
structure SeenU (n : Net) (co : List Int) (y : Nat) (x : Int) : Prop where
  fst : (x = -1 ∧ ∀ j, y ≤ j → j < co.length → ¬ co.getD j 0 = -1) ∨ (∃ m : Nat, x = m ∧ y ≤ m ∧ m < co.length ∧ co.getD m 0 = -1 ∧ ∀ j, y ≤ j → j < m → ¬ co.getD j 0 = -1)
  cho : ∀ j, y ≤ j → j < co.length → co.getD j 0 = -1 → n.choices co j ≠ []
theorem GT.regionDB {P : Program} {N : Nat} {Q : Exit → Slots → GHeap → Prop} {fr : Slots} {Hb H : GHeap} {id : Nat} {ops : Array Oper} (hm : P.follows .mixedOrders = true) (t : Tree) (hok : (ctxOf ops).ok [] false t = true) (hb : Hb.Le H) (h : GTree P N ops (fun fr' H' => Q .normal fr' H') t fr Hb H) :
    GT P N (.region id ops true) Q fr H := fun l D B w0 ρ a w hs hf => by
  refine wpIn_region_any hm ?_
  refine tree_sound (ρ0 := ρ) (fun ρ' fr' H' a' w' hQ he hs' hf' => ⟨ρ', fr', H', hQ, he, hs', hf'⟩) ops.size t [] fr Hb H ρ _ a _ ⟨hok, h, hb, .refl ρ, hs.drew, hf.1, hf.2.1, by simp, fun i hi => ?_, fun i hi => ?_, .nil, (fun i hi => by cases hi), (fun i hi => by cases hi), fun s v hv _ => hf.2.2 s v hv, (fun j hj => by cases hj)⟩ ?_
  · unfold lis at hi
    simp [Array.getD_eq_getD_getElem?, Array.getElem?_replicate] at hi
    split at hi <;> simp at hi
  · unfold lis at hi
    simp [Array.getD_eq_getD_getElem?, Array.getElem?_replicate] at hi
    split at hi <;> simp at hi
  · unfold left
    exact Nat.le_trans (List.length_filter_le _ _) (by simp)
theorem GHeap.get_erase {H : GHeap} {g k : Nat} {o : GObj} (h : (H.set g none).get k = some o) : k ≠ g ∧ H.get k = some o := by
  by_cases e : g = k
  · subst e
    by_cases hl : g < H.next
    · rw [GHeap.get_set_eq hl] at h; cases h
    · have := GHeap.ltg h
      rw [GHeap.next_set] at this
      exact absurd this hl
  · rw [GHeap.get_set_ne e] at h
    exact ⟨Ne.symm e, h⟩
theorem GHeap.le_erase (H : GHeap) (g : Nat) : (H.set g none).Le H := ⟨by rw [GHeap.next_set]; exact Nat.le_refl _, fun _ _ h => (GHeap.get_erase h).2⟩
theorem GHeap.Le.erase_st {H0 H1 H2 : GHeap} {g : Nat} (h : (H0.set g none).Le H1) (s : St [g] H1 H2) : (H0.set g none).Le H2 := ⟨Nat.le_trans h.1 s.nx, fun k o hk => s.same k o ⟨(GHeap.get_erase hk).1, trivial⟩ (h.2 k o hk)⟩
theorem GHeap.get_erase_of {H : GHeap} {g k : Nat} {o : GObj} (h : H.get k = some o) (hk : k ≠ g) : (H.set g none).get k = some o := by rw [GHeap.get_set_ne (Ne.symm hk)]; exact h
end Go.GL
namespace Go.GL
structure Hears (P : Program) (fn : Nat) (cap : Array Value) (e0 g1 most : Nat) (T : TypeId) (A : Nat → List (List Int) → Nat → GHeap → Prop) : Prop where
  code : ∀ (xs : Array Value) (w : World), (callFunc fn xs).run P w = .ok (.enter fn xs) w
  le : ∀ {b : Nat} {fs : List (List Int)} {gF : Nat} {H H' : GHeap}, A b fs gF H → H.Le H' → A b fs gF H'
  st : ∀ {b : Nat} {fs : List (List Int)} {gF gc : Nat} {H H' : GHeap}, A b fs gF H → e0 ≤ gc → gc < b → gc ≠ gF → St [gc] H H' → A b fs gF H'
  run : ∀ {b : Nat} {fs : List (List Int)} {gF gc : Nat} {q : List Int} {H : GHeap}, A b fs gF H → e0 ≤ gc → gc < b → gc ≠ gF → b ≤ H.next → H.get gc = some (.row (ints q) T true) → fs.length ≤ most → q.length ≤ 8 → gF < H.next →
    GCalls P fn ([.slice (some ⟨gc, 0, none⟩) q.length q.length] ++ cap.toList) H (fun v H' => v = .bool (decide (fs.length + 1 ≤ most)) ∧ ∃ gF', (gF' = gF ∨ H.next ≤ gF') ∧ gF' < H'.next ∧ St [g1, gF] H H' ∧ A b (fs ++ [q]) gF' H')
end Go.GL
namespace Go.GL
structure GathL (T1 T2 e : TypeId) (go gm most : Nat) (Tm : TypeId) (b : Nat) (fs : List (List Int)) (gF : Nat) (H : GHeap) : Prop where
  hd : H.get go = some (.row [.slice (some ⟨gF, 0, none⟩) fs.length fs.length] T1 true)
  most : H.get gm = some (.row [.int .i64 (most : Int)] Tm true)
  rows : ∃ r, H.get gF = some (.row (slsL r fs) T2 true) ∧ OwnL b H e r fs
noncomputable def Fun.atR (f k : Fun) : List (List Int) := bif B (f.Is ∧ k.Is) then (bif B (f.s = k.s ∧ f.t = k.t) then (bif decide (((f.net k false).sols f.ob.length).length ≤ 200) then (f.net k false).sols f.ob.length else []) else []) else []
theorem row_ne {H : GHeap} {g g' : Nat} {cs cs' : List Value} {e e' : TypeId} (h : H.get g = some (.row cs e true)) (h' : H.get g' = some (.row cs' e' true)) (hne : (e != e') = true) : g ≠ g' := fun ei => by
  subst ei
  rw [h] at h'
  cases h'
  simp at hne
structure GathI (T e : TypeId) (go : Nat) (b : Nat) (fs : List (List Int)) (gF : Nat) (H : GHeap) : Prop where
  ex : ∃ x, (fs = [] ∧ x = [] ∨ fs = [x]) ∧ H.get go = some (.row [.slice (some ⟨gF, 0, none⟩) x.length x.length] T true) ∧ H.get gF = some (.row (ints x) e true)
end Go.GL
namespace Go.GL
theorem nest3_pre3 {α : Type} {pr : Nat → Nat → Nat → α} {s1 : Nat → Nat} {s2 : Nat → Nat → Nat} {k t u : Nat} : ∀ j, nest3 pr s1 s2 k t u <+: nest3 pr s1 s2 k t (u + j)
  | 0 => List.prefix_refl _
  | j + 1 => by rw [← Nat.add_assoc, nest3_snoc]; exact (nest3_pre3 j).trans (List.prefix_append _ _)
theorem nest3_pre2 {α : Type} {pr : Nat → Nat → Nat → α} {s1 : Nat → Nat} {s2 : Nat → Nat → Nat} {k t : Nat} : ∀ j, nest3 pr s1 s2 k t 0 <+: nest3 pr s1 s2 k (t + j) 0
  | 0 => List.prefix_refl _
  | j + 1 => by
    rw [← Nat.add_assoc, nest3_next2]
    have := nest3_pre3 (pr := pr) (s1 := s1) (s2 := s2) (k := k) (t := t + j) (u := 0) (s2 k (t + j))
    rw [Nat.zero_add] at this
    exact (nest3_pre2 j).trans this
theorem nest3_pre1 {α : Type} {pr : Nat → Nat → Nat → α} {s1 : Nat → Nat} {s2 : Nat → Nat → Nat} {k : Nat} : ∀ j, nest3 pr s1 s2 k 0 0 <+: nest3 pr s1 s2 (k + j) 0 0
  | 0 => List.prefix_refl _
  | j + 1 => by
    rw [← Nat.add_assoc, nest3_next1]
    have := nest3_pre2 (pr := pr) (s1 := s1) (s2 := s2) (k := k + j) (t := 0) (s1 (k + j))
    rw [Nat.zero_add] at this
    exact (nest3_pre1 j).trans this
theorem nest3_preR {α : Type} {pr : Nat → Nat → Nat → α} {s1 : Nat → Nat} {s2 : Nat → Nat → Nat} {n k t : Nat} (hk : k < n) (ht : t ≤ s1 k) : nest3 pr s1 s2 k t 0 <+: nest3 pr s1 s2 n 0 0 := by
  have h2 := nest3_pre2 (pr := pr) (s1 := s1) (s2 := s2) (k := k) (t := t) (s1 k - t)
  rw [show t + (s1 k - t) = s1 k by omega, ← nest3_next1] at h2
  have h3 := nest3_pre1 (pr := pr) (s1 := s1) (s2 := s2) (k := k + 1) (n - (k + 1))
  rw [show k + 1 + (n - (k + 1)) = n by omega] at h3
  exact h2.trans h3
theorem getD_map {α β : Type} {f : α → β} {xs : List α} {i : Nat} {d : α} {e : β} (h : i < xs.length) : (xs.map f).getD i e = f (xs.getD i d) := by
  rw [List.getD_eq_getElem?_getD, List.getElem?_map, List.getElem?_eq_getElem h, List.getD_eq_getElem?_getD, List.getElem?_eq_getElem h]; rfl
theorem getD_set2 {xss : List (List Int)} {i j : Nat} {ys : List Int} (h : i < xss.length) : (xss.set i ys).getD j [] = if i = j then ys else xss.getD j [] := by
  rw [List.getD_eq_getElem?_getD, List.getElem?_set]
  by_cases e : i = j
  · subst e; rw [if_pos rfl, if_pos rfl, if_pos h]; rfl
  · rw [if_neg e, if_neg e, ← List.getD_eq_getElem?_getD]
theorem OwnL.app {b gi g' i : Nat} {H H1 : GHeap} {e : TypeId} {r : Nat → Option Addr} {xss : List (List Int)} {ys : List Int} (h : OwnL b H e r xss) (s : St [gi] H H1) (hi : i < xss.length) (hr : r i = some ⟨gi, 0, none⟩) (hg : H1.get g' = some (.row (ints ys) e true)) (hn : H.next ≤ g') (hb : b ≤ g') :
    OwnL b H1 e (upd r i (some ⟨g', 0, none⟩)) (xss.set i ys) := by
  unfold OwnL
  rw [List.length_set]
  have old : ∀ j, j < xss.length → j ≠ i → ∃ x, r j = some ⟨x, 0, none⟩ ∧ b ≤ x ∧ x < H.next ∧ H1.get x = some (.row (ints (xss.getD j [])) e true) := fun j hj hne => by
    obtain ⟨x, h1, h2, h3⟩ := h.row j hj
    exact ⟨x, h1, h2, GHeap.ltg h3, s.same x _ ⟨fun ex => by subst ex; exact hne (h.inj j i hj hi (by rw [hr, h1])), trivial⟩ h3⟩
  refine ⟨fun j hj => ?_, fun j k hj hk hjk => ?_⟩
  · rw [getD_set2 hi]
    by_cases ej : j = i
    · subst ej
      exact ⟨g', upd_eq _ _ _, hb, by rw [if_pos rfl]; exact hg⟩
    · obtain ⟨x, h1, h2, _, h4⟩ := old j hj ej
      exact ⟨x, by rw [upd_ne ej]; exact h1, h2, by rw [if_neg (Ne.symm ej)]; exact h4⟩
  · by_cases ej : j = i
    · by_cases ek : k = i
      · omega
      · obtain ⟨x, h1, _, h3, _⟩ := old k hk ek
        rw [ej, upd_eq, upd_ne ek, h1] at hjk
        cases hjk
        omega
    · obtain ⟨x, h1, _, h3, _⟩ := old j hj ej
      by_cases ek : k = i
      · rw [ek, upd_eq, upd_ne ej, h1] at hjk
        cases hjk
        omega
      · rw [upd_ne ej, upd_ne ek] at hjk
        exact h.inj j k hj hk hjk
theorem slsL_set {r : Nat → Option Addr} {xss : List (List Int)} {i n : Nat} {a : Option Addr} {ys : List Int} (_ : i < xss.length) (hn : n = ys.length) : (slsL r xss).set i (.slice a n n) = slsL (upd r i a) (xss.set i ys) := by
  subst hn
  unfold slsL slsOf
  apply List.ext_getElem (by simp)
  intro j h1 h2
  simp only [List.length_set, List.length_map, List.length_range] at h1
  simp only [List.getElem_set, List.getElem_map, List.getElem_range]
  by_cases e : i = j
  · subst e
    rw [if_pos rfl, upd_eq, getD_set2 h1, if_pos rfl]
  · rw [if_neg e, upd_ne (Ne.symm e), getD_set2 (by omega), if_neg e]
theorem slsL_cell {r : Nat → Option Addr} {xss : List (List Int)} {H : GHeap} {g i : Nat} {e : TypeId} {own : Bool} (h : H.get g = some (.row (slsL r xss) e own)) (hi : i < xss.length) : H.cell g (0 + i) = some (.slice (r i) (xss.getD i []).length (xss.getD i []).length) := by
  rw [GHeap.cell_of h, Nat.zero_add]
  simp [slsL, slsOf, hi]
theorem ne_upd {g g' i n : Nat} {r : Nat → Option Addr} (h : ∀ j, j < n → r j ≠ some ⟨g, 0, none⟩) (hg : g' ≠ g) : ∀ j, j < n → upd r i (some ⟨g', 0, none⟩) j ≠ some ⟨g, 0, none⟩ := fun j hj => by
  by_cases e : j = i
  · subst e
    rw [upd_eq]
    intro e
    cases e
    exact hg rfl
  · rw [upd_ne e]
    exact h j hj
structure OwnCat (eI eS : TypeId) (b : Nat) (H : GHeap) (c : Cat) (g1 g2 g3 g4 : Nat) (rr : Nat → Option Addr) : Prop where
  a1 : H.get g1 = some (.row (ints c.src) eI true)
  a2 : H.get g2 = some (.row (ints c.tgt) eI true)
  a3 : H.get g3 = some (.row (ints c.idn) eI true)
  a4 : H.get g4 = some (.row (slsL rr c.comp) eS true)
  b1 : b ≤ g1
  b2 : b ≤ g2
  b3 : b ≤ g3
  b4 : b ≤ g4
  n12 : g1 ≠ g2
  n13 : g1 ≠ g3
  n23 : g2 ≠ g3
  rows : OwnL b H eI rr c.comp
  r1 : ∀ i, i < c.comp.length → rr i ≠ some ⟨g1, 0, none⟩
  r2 : ∀ i, i < c.comp.length → rr i ≠ some ⟨g2, 0, none⟩
  r3 : ∀ i, i < c.comp.length → rr i ≠ some ⟨g3, 0, none⟩
def ownP (g1 g2 g3 g4 : Nat) (rr : Nat → Option Addr) : CatP := ⟨some ⟨g1, 0, none⟩, some ⟨g2, 0, none⟩, some ⟨g3, 0, none⟩, some ⟨g4, 0, none⟩, rr⟩
theorem OwnCat.catR {eI eS : TypeId} {b : Nat} {H : GHeap} {c : Cat} {g1 g2 g3 g4 : Nat} {rr : Nat → Option Addr} (h : OwnCat eI eS b H c g1 g2 g3 g4 rr) : CatR b H c (ownP g1 g2 g3 g4 rr) :=
  .mk (.of_at h.a1 h.b1) (.of_at h.a2 h.b2) (.of_at h.a3 h.b3) (h.rows.done h.a4 h.b4) (.inr rfl) (.inr rfl) (.inr rfl) h.n12 h.n13 h.n23 (fun i hi => ⟨h.r1 i hi, h.r2 i hi, h.r3 i hi⟩)
def NewCatO (eI eS : TypeId) (H : GHeap) (c : Cat) (v : Value) (H' : GHeap) : Prop := H.Le H' ∧ ∃ g1 g2 g3 g4 rr, v = .agg (c.cells (ownP g1 g2 g3 g4 rr)).toArray ∧ OwnCat eI eS H.next H' c g1 g2 g3 g4 rr
structure Cat.Rect (c : Cat) (N : Nat) : Prop where
  obj : 0 ≤ c.obj ∧ c.obj ≤ N
  n : c.src.length ≤ N
  tl : c.tgt.length = c.src.length
  src : ∀ i, i < c.src.length → 0 ≤ c.src.getD i 0 ∧ c.src.getD i 0 ≤ N
  tgt : ∀ i, i < c.tgt.length → 0 ≤ c.tgt.getD i 0 ∧ c.tgt.getD i 0 ≤ N
  il : (c.idn.length : Int) = c.obj
  idn : ∀ i, i < c.idn.length → 0 ≤ c.idn.getD i 0 ∧ c.idn.getD i 0 ≤ N
  cl : c.comp.length = c.src.length
  row : ∀ f, f < c.comp.length → (c.comp.getD f []).length = c.src.length
  cell : ∀ f, f < c.comp.length → ∀ g, g < c.src.length → -(N : Int) - 1 ≤ (c.comp.getD f []).getD g 0 ∧ (c.comp.getD f []).getD g 0 ≤ N
theorem Cat.Rect.small {c : Cat} {N : Nat} (h : c.Rect N) (hN : N ≤ 1048576) : c.Small := by
  obtain ⟨h1, h2, h3, h4, h5, h6, h7, h8, h9, h10⟩ := h
  refine ⟨by omega, by omega, by omega, by omega, fun i => ?_, by omega, by omega⟩
  by_cases hi : i < c.comp.length
  · have := h9 i hi; omega
  · rw [List.getD_eq_getElem?_getD, List.getElem?_eq_none (by omega)]; simp
def sumRow (n : Nat) (row : List Int) : List Int := List.replicate n (-1) ++ row.map fun h => if 0 ≤ h then h + (n : Int) else h
def Cat.sumL (c d : Cat) : List (List Int) := c.comp.map (· ++ List.replicate d.src.length (-1))
def Cat.sum (c d : Cat) : Cat where
  obj := c.obj + d.obj
  src := c.src ++ d.src.map (· + c.obj)
  tgt := c.tgt ++ d.tgt.map (· + c.obj)
  idn := c.idn ++ d.idn.map (· + (c.src.length : Int))
  comp := c.sumL d ++ d.comp.map (sumRow c.src.length)
def extL (xss : List (List Int)) (k f j : Nat) : List (List Int) := (List.range xss.length).map fun i => xss.getD i [] ++ List.replicate (if i < f then k else if i = f then j else 0) (-1)
@[simp] theorem length_extL (xss : List (List Int)) (k f j : Nat) : (extL xss k f j).length = xss.length := by simp [extL]
theorem extL_get {xss : List (List Int)} {k f j i : Nat} (h : i < xss.length) : (extL xss k f j).getD i [] = xss.getD i [] ++ List.replicate (if i < f then k else if i = f then j else 0) (-1) := by simp [extL, List.getD_eq_getElem?_getD, h]
theorem extL_zero (xss : List (List Int)) (k : Nat) : extL xss k 0 0 = xss := by
  refine eq_of_getD2 (by simp) fun i hi => ?_
  rw [length_extL] at hi
  rw [extL_get hi]
  simp
theorem extL_succ {xss : List (List Int)} {k f j : Nat} (h : f < xss.length) : extL xss k f (j + 1) = (extL xss k f j).set f ((extL xss k f j).getD f [] ++ [-1]) := by
  refine eq_of_getD2 (by simp) fun i hi => ?_
  rw [length_extL] at hi
  rw [getD_set2 (by simpa using h), extL_get hi, extL_get h]
  by_cases e : f = i
  · subst e
    rw [if_pos rfl, if_neg (by omega), if_pos rfl, if_neg (by omega), if_pos rfl, List.replicate_succ', List.append_assoc]
  · rw [if_neg e, extL_get hi]
    by_cases e2 : i < f
    · rw [if_pos e2, if_pos e2]
    · rw [if_neg e2, if_neg e2, if_neg (Ne.symm e), if_neg (Ne.symm e)]
theorem extL_next {xss : List (List Int)} {k f : Nat} : extL xss k f k = extL xss k (f + 1) 0 := by
  refine eq_of_getD2 (by simp) fun i hi => ?_
  rw [length_extL] at hi
  rw [extL_get hi, extL_get hi]
  congr 2
  by_cases e : i < f
  · rw [if_pos e, if_pos (by omega)]
  · rw [if_neg e]
    by_cases e2 : i = f
    · rw [if_pos e2, if_pos (by omega)]
    · rw [if_neg e2, if_neg (by omega)]
      split <;> rfl
theorem Cat.extL_all {c d : Cat} : extL c.comp d.src.length c.comp.length 0 = c.sumL d := by
  refine eq_of_getD2 (by simp [Cat.sumL]) fun i hi => ?_
  rw [length_extL] at hi
  unfold Cat.sumL
  rw [extL_get hi, if_pos hi, getD_map (d := []) hi]
theorem extL_len {xss : List (List Int)} {k f j i : Nat} (hj : j ≤ k) (h : i < xss.length) : ((extL xss k f j).getD i []).length ≤ (xss.getD i []).length + k := by
  rw [extL_get h, List.length_append, List.length_replicate]
  split
  · omega
  · split <;> omega
theorem sumRow_take {n : Nat} {row : List Int} {j : Nat} (h : j < row.length) : sumRow n (row.take (j + 1)) = sumRow n (row.take j) ++ [if 0 ≤ row.getD j 0 then row.getD j 0 + (n : Int) else row.getD j 0] := by
  unfold sumRow
  rw [take_map_snoc (d := 0) h, List.append_assoc]
theorem length_sumRow (n : Nat) (row : List Int) : (sumRow n row).length = n + row.length := by simp [sumRow]
theorem sumRow_nil (n : Nat) : sumRow n [] = List.replicate n (-1) := by simp [sumRow]
structure SumSt (eI eS eT : TypeId) (H0 H : GHeap) (c d : Cat) (q : CatP) (gd gR gS gF gT gI gC : Nat) (zs : List Value) (rr : Nat → Option Addr) (f j : Nat) : Prop where
  hle : H0.Le H
  gc : H0.next ≤ gC
  ad : H.get gd = some (.row (d.cells q) eT true)
  aR : H.get gR = some (.row zs eT true)
  aS : H.get gS = some (.row [.int .i64 (c.obj + d.obj), .slice (some ⟨gF, 0, none⟩) c.src.length c.src.length, .slice (some ⟨gT, 0, none⟩) c.tgt.length c.tgt.length, .slice (some ⟨gI, 0, none⟩) (c.idn.length + d.obj.toNat) (c.idn.length + d.obj.toNat), .slice (some ⟨gC, 0, none⟩) c.comp.length c.comp.length] eT true)
  aF : H.get gF = some (.row (ints c.src) eI true)
  aT : H.get gT = some (.row (ints c.tgt) eI true)
  aI : H.get gI = some (.row (ints (c.sum d).idn) eI true)
  aC : H.get gC = some (.row (slsL rr (extL c.comp d.src.length f j)) eS true)
  rows : OwnL H0.next H eI rr (extL c.comp d.src.length f j)
  r1 : ∀ i, i < c.comp.length → rr i ≠ some ⟨gF, 0, none⟩
  r2 : ∀ i, i < c.comp.length → rr i ≠ some ⟨gT, 0, none⟩
  r3 : ∀ i, i < c.comp.length → rr i ≠ some ⟨gI, 0, none⟩
theorem SumSt.app {eI eS eT : TypeId} {H0 H Ha Hb Hc : GHeap} {c d : Cat} {q : CatP} {gd gR gS gF gT gI gC gi g' n : Nat} {zs : List Value} {rr : Nat → Option Addr} {f j : Nat} (h : SumSt eI eS eT H0 H c d q gd gR gS gF gT gI gC zs rr f j) (t1 : (eI != eS) = true) (t2 : (eI != eT) = true) (t3 : (eS != eT) = true) (hf : f < c.comp.length) (hgi : H.get gi = some (.row (ints ((extL c.comp d.src.length f j).getD f [])) eI true)) (hr : rr f = some ⟨gi, 0, none⟩) (le : H.Le Ha) (s1 : St [gi] Ha Hb) (hn : Ha.next ≤ g') (hg : Hb.get g' = some (.row (ints ((extL c.comp d.src.length f j).getD f [] ++ [-1])) eI true)) (s2 : St [gC] Hb Hc)
    (hC : Hc.get gC = some (.row ((slsL rr (extL c.comp d.src.length f j)).set f (.slice (some ⟨g', 0, none⟩) n n)) eS true)) (hnn : n = ((extL c.comp d.src.length f j).getD f []).length + 1) : SumSt eI eS eT H0 Hc c d q gd gR gS gF gT gI gC zs (upd rr f (some ⟨g', 0, none⟩)) f (j + 1) := by
  have u1 : (eS != eI) = true := by simp only [bne_iff_ne, ne_eq] at t1 ⊢; exact fun e => t1 e.symm
  have u2 : (eT != eI) = true := by simp only [bne_iff_ne, ne_eq] at t2 ⊢; exact fun e => t2 e.symm
  have u3 : (eT != eS) = true := by simp only [bne_iff_ne, ne_eq] at t3 ⊢; exact fun e => t3 e.symm
  obtain ⟨x1, x0, x2, xR, x3, x4, x5, x6, x7, x8, x9, x10, x11⟩ := h
  have hl : f < (extL c.comp d.src.length f j).length := by rw [length_extL]; exact hf
  have hgi0 : H0.next ≤ gi := by
    obtain ⟨x, h1, h2, _⟩ := x8.row f hl
    rw [hr] at h1; cases h1; exact h2
  have ltF := GHeap.ltg x4
  have ltT := GHeap.ltg x5
  have ltI := GHeap.ltg x6
  have lx := le.1
  have ly := x1.1
  have step : ∀ k o, k ≠ gi → k ≠ gC → H.get k = some o → Hc.get k = some o := fun k o h1 h2 h3 => s2.same k o ⟨h2, trivial⟩ (s1.same k o ⟨h1, trivial⟩ (le.2 k o h3))
  have nF : gF ≠ gi := fun e => x9 f hf (by rw [hr, e])
  have nT : gT ≠ gi := fun e => x10 f hf (by rw [hr, e])
  have nI : gI ≠ gi := fun e => x11 f hf (by rw [hr, e])
  have nC : gC ≠ gi := row_ne x7 hgi u1
  refine ⟨((x1.trans le).st s1 (fun k hk => ⟨by omega, trivial⟩)).st s2 (fun k hk => ⟨by omega, trivial⟩), x0, step _ _ (row_ne x2 hgi u2) (row_ne x2 x7 u3) x2, step _ _ (row_ne xR hgi u2) (row_ne xR x7 u3) xR, step _ _ (row_ne x3 hgi u2) (row_ne x3 x7 u3) x3, step _ _ nF (row_ne x4 x7 t1) x4, step _ _ nT (row_ne x5 x7 t1) x5, step _ _ nI (row_ne x6 x7 t1) x6, ?_, ?_, ne_upd x9 (by omega), ne_upd x10 (by omega), ne_upd x11 (by omega)⟩
  · rw [hC, slsL_set (ys := (extL c.comp d.src.length f j).getD f [] ++ [-1]) hl (by rw [hnn, List.length_append]; rfl), ← extL_succ hf]
  · rw [extL_succ hf]
    have hA := OwnL.app (x8.keep (Lasts.of_le le)) s1 hl hr hg hn (by omega)
    refine hA.st s2 (.cons (hA.neT (s1.same _ _ ⟨nC, trivial⟩ (le.2 _ _ x7)) t1) (.nil _ _))
theorem SumSt.next {eI eS eT : TypeId} {H0 H : GHeap} {c d : Cat} {q : CatP} {gd gR gS gF gT gI gC : Nat} {zs : List Value} {rr : Nat → Option Addr} {f : Nat} (h : SumSt eI eS eT H0 H c d q gd gR gS gF gT gI gC zs rr f d.src.length) : SumSt eI eS eT H0 H c d q gd gR gS gF gT gI gC zs rr (f + 1) 0 := by
  obtain ⟨x1, x0, x2, xR, x3, x4, x5, x6, x7, x8, x9, x10, x11⟩ := h
  rw [extL_next] at x7 x8
  exact ⟨x1, x0, x2, xR, x3, x4, x5, x6, x7, x8, x9, x10, x11⟩
def colPr (x y e : Nat) : List Int := [(x : Int), (y : Int), (e : Int)]
def Prof.colS2 (m : Prof) (x y : Nat) : Nat := ((m.sz.getD x []).getD y 0).toNat
def Prof.colP (m : Prof) (x y e : Nat) : List (List Int) := nest3 colPr (fun _ => m.t.obj.toNat) m.colS2 x y e
def Prof.colL (m : Prof) : List (List Int) := m.colP m.s.obj.toNat 0 0
def Prof.colA (m : Prof) (x y : Nat) : Int := (m.colP x y 0).length
theorem Prof.Sized.at {m : Prof} (z : m.Sized) {x y : Nat} (hx : (x : Int) < m.s.obj) (hy : (y : Int) < m.t.obj) : x < m.sz.length ∧ y < (m.sz.getD x []).length ∧ 0 ≤ (m.sz.getD x []).getD y 0 ∧ (m.sz.getD x []).getD y 0 ≤ 64 := by
  have h1 := z.sl
  have h2 := z.row x (by omega)
  exact ⟨by omega, by omega, z.rng x (by omega) y (by omega)⟩
structure Prof.Cok (m : Prof) : Prop where
  z : m.Sized
  s0 : 0 ≤ m.s.obj
  s8 : m.s.obj ≤ 8
  t0 : 0 ≤ m.t.obj
  t8 : m.t.obj ≤ 8
theorem Prof.Cok.s2 {m : Prof} (h : m.Cok) {x y : Nat} (hx : (x : Int) < m.s.obj) (hy : (y : Int) < m.t.obj) : (m.colS2 x y : Int) = (m.sz.getD x []).getD y 0 ∧ m.colS2 x y ≤ 64 := by
  have := h.z.at hx hy
  unfold Prof.colS2
  omega
theorem Prof.Cok.all {m : Prof} (h : m.Cok) : m.colL.length ≤ 4096 := by
  have h1 := h.s8
  have h2 := h.t8
  have := nest3_all (pr := colPr) (s1 := fun _ => m.t.obj.toNat) (s2 := m.colS2) (c := 64) (d := 8) (n := m.s.obj.toNat) (fun a _ => by show m.t.obj.toNat ≤ 8; omega) (fun a ha b hb => (h.s2 (by omega) (by omega)).2)
  unfold Prof.colL Prof.colP
  omega
theorem Prof.Cok.leY {m : Prof} (h : m.Cok) {x y : Nat} (hx : (x : Int) < m.s.obj) (hy : (y : Int) ≤ m.t.obj) : (m.colP x y 0).length ≤ m.colL.length := by
  obtain ⟨r, hr⟩ := nest3_preR (pr := colPr) (s1 := fun _ => m.t.obj.toNat) (s2 := m.colS2) (n := m.s.obj.toNat) (k := x) (t := y) (by omega) (by omega)
  unfold Prof.colL Prof.colP
  rw [← hr, List.length_append]
  omega
def Prof.colQx (m : Prof) (x y : Nat) : List Int := (List.range y).map (m.colA x)
def Prof.colQ (m : Prof) (k : Nat) : List (List Int) := (List.range k).map fun x => m.colQx x (m.sz.getD x []).length
@[simp] theorem Prof.length_colQx (m : Prof) (x y : Nat) : (m.colQx x y).length = y := by simp [Prof.colQx]
@[simp] theorem Prof.length_colQ (m : Prof) (k : Nat) : (m.colQ k).length = k := by simp [Prof.colQ]
theorem Prof.colQx_get {m : Prof} {x y i : Nat} (h : i < y) : (m.colQx x y).getD i 0 = m.colA x i := by simp [Prof.colQx, List.getD_eq_getElem?_getD, h]
theorem Prof.colQ_get {m : Prof} {k x : Nat} (h : x < k) : (m.colQ k).getD x [] = m.colQx x (m.sz.getD x []).length := by simp [Prof.colQ, List.getD_eq_getElem?_getD, h]
theorem Prof.Cok.colA_bd {m : Prof} (h : m.Cok) {x y : Nat} (hx : (x : Int) < m.s.obj) (hy : (y : Int) ≤ m.t.obj) : 0 ≤ m.colA x y ∧ m.colA x y ≤ 4096 := by
  have h1 := h.leY hx hy
  have h2 := h.all
  unfold Prof.colA
  omega
theorem Prof.Cok.q {m : Prof} (h : m.Cok) {x y : Int} (x0 : 0 ≤ x) (x1 : x < m.s.obj) (y0 : 0 ≤ y) (y1 : y < m.t.obj) : x < (m.colQ m.sz.length).length ∧ (((m.colQ m.sz.length).getD x.toNat []).length : Int) = m.t.obj ∧ ((m.colQ m.sz.length).getD x.toNat []).getD y.toNat 0 = m.colA x.toNat y.toNat ∧ 0 ≤ m.colA x.toNat y.toNat ∧ m.colA x.toNat y.toNat ≤ 4096 := by
  have h1 := h.z.sl
  have h2 := h.z.row x.toNat (by omega)
  have h3 := h.colA_bd (x := x.toNat) (y := y.toNat) (by omega) (by omega)
  rw [Prof.length_colQ, Prof.colQ_get (by omega), Prof.length_colQx, Prof.colQx_get (by omega)]
  exact ⟨by omega, h2, rfl, h3⟩
def Prof.colN (m : Prof) : Nat := m.s.src.length + m.t.src.length
def Prof.colS (m : Prof) : List Int := (m.s.sum m.t).src ++ m.colL.map fun t => t.getD 0 0
def Prof.colT (m : Prof) : List Int := (m.s.sum m.t).tgt ++ m.colL.map fun t => m.s.obj + t.getD 1 0
def Prof.colR (m : Prof) (i : Nat) : List Int := m.colL.getD (i - m.colN) []
def Prof.colB (m : Prof) (f g : Nat) : Int := ((m.be.getD f []).getD ((m.colR g).getD 1 0).toNat []).getD ((m.colR g).getD 2 0).toNat 0
def Prof.colH (m : Prof) (f g : Nat) : Int := ((m.bh.getD (g - m.s.src.length) []).getD ((m.colR f).getD 0 0).toNat []).getD ((m.colR f).getD 2 0).toNat 0
def Prof.colK1 (m : Prof) (f g : Nat) : List Int := [m.colS.getD f 0, (m.colR g).getD 1 0, m.colB f g]
def Prof.colK2 (m : Prof) (f g : Nat) : List Int := [(m.colR f).getD 0 0, m.colT.getD g 0 - m.s.obj, m.colH f g]
structure Prof.ColB (m : Prof) (f g : Nat) : Prop where
  fM : f < m.s.src.length
  sf : m.colS.getD f 0 = m.s.src.getD f 0
  tg : m.colT.getD g 0 = m.s.obj + (m.colR g).getD 1 0
  r3 : (m.colR g).length = 3
  y0 : 0 ≤ (m.colR g).getD 1 0
  y1 : (m.colR g).getD 1 0 < m.t.obj
  e0 : 0 ≤ (m.colR g).getD 2 0
  b0 : f < m.be.length
  b1 : ((m.colR g).getD 1 0).toNat < (m.be.getD f []).length
  b2 : ((m.colR g).getD 2 0).toNat < ((m.be.getD f []).getD ((m.colR g).getD 1 0).toNat []).length
  s0 : 0 ≤ m.s.src.getD f 0
  s1 : m.s.src.getD f 0 < m.s.obj
  t0 : 0 ≤ m.s.tgt.getD f 0
  t1 : m.s.tgt.getD f 0 < m.s.obj
  ae : (g : Int) - m.colN - m.colA (m.s.tgt.getD f 0).toNat ((m.colR g).getD 1 0).toNat = (m.colR g).getD 2 0
  ix : idxLL m.colL (m.colK1 f g) = m.colA (m.s.src.getD f 0).toNat ((m.colR g).getD 1 0).toNat + m.colB f g
  lt : idxLL m.colL (m.colK1 f g) < m.colL.length
  ca : 0 ≤ m.colA (m.s.src.getD f 0).toNat ((m.colR g).getD 1 0).toNat
  bb : 0 ≤ m.colB f g
structure Prof.ColH (m : Prof) (f g : Nat) : Prop where
  gM : m.s.src.length ≤ g
  gN : g < m.colN
  sf : m.colS.getD f 0 = (m.colR f).getD 0 0
  tg : m.colT.getD g 0 - m.s.obj = m.t.tgt.getD (g - m.s.src.length) 0
  r3 : (m.colR f).length = 3
  x0 : 0 ≤ (m.colR f).getD 0 0
  x1 : (m.colR f).getD 0 0 < m.s.obj
  e0 : 0 ≤ (m.colR f).getD 2 0
  b0 : g - m.s.src.length < m.bh.length
  b1 : ((m.colR f).getD 0 0).toNat < (m.bh.getD (g - m.s.src.length) []).length
  b2 : ((m.colR f).getD 2 0).toNat < ((m.bh.getD (g - m.s.src.length) []).getD ((m.colR f).getD 0 0).toNat []).length
  s0 : 0 ≤ m.t.src.getD (g - m.s.src.length) 0
  s1 : m.t.src.getD (g - m.s.src.length) 0 < m.t.obj
  t0 : 0 ≤ m.t.tgt.getD (g - m.s.src.length) 0
  t1 : m.t.tgt.getD (g - m.s.src.length) 0 < m.t.obj
  ae : (f : Int) - m.colN - m.colA ((m.colR f).getD 0 0).toNat (m.t.src.getD (g - m.s.src.length) 0).toNat = (m.colR f).getD 2 0
  ix : idxLL m.colL (m.colK2 f g) = m.colA ((m.colR f).getD 0 0).toNat (m.t.tgt.getD (g - m.s.src.length) 0).toNat + m.colH f g
  lt : idxLL m.colL (m.colK2 f g) < m.colL.length
  ca : 0 ≤ m.colA ((m.colR f).getD 0 0).toNat (m.t.tgt.getD (g - m.s.src.length) 0).toNat
  bb : 0 ≤ m.colH f g
def Prof.colSp (m : Prof) (x y e : Nat) : List Int := (m.s.sum m.t).src ++ (m.colP x y e).map fun t => t.getD 0 0
def Prof.colTp (m : Prof) (x y e : Nat) : List Int := (m.s.sum m.t).tgt ++ (m.colP x y e).map fun t => m.s.obj + t.getD 1 0
structure ColSt (eI eS eT eP : TypeId) (H0 H : GHeap) (m : Prof) (p : ProfP) (g1 g2 g3 g4 g5 gI gC : Nat) (r0 : Nat → Option Addr) (zs : List Value) (x y e : Nat) (r1 : Nat → Option Addr) (gV gF gT : Nat) : Prop where
  hle : H0.Le H
  a1 : H.get g1 = some (.row (m.cells p) eP true)
  a2 : H.get g2 = some (.row zs eT true)
  a3 : H.get g3 = some (.row (m.s.cells p.s) eT true)
  a4 : H.get g4 = some (.row (m.t.cells p.t) eT true)
  a5 : H.get g5 = some (.row [.int .i64 (m.s.obj + m.t.obj), .slice (some ⟨gF, 0, none⟩) (m.colSp x y e).length (m.colSp x y e).length, .slice (some ⟨gT, 0, none⟩) (m.colTp x y e).length (m.colTp x y e).length, .slice (some ⟨gI, 0, none⟩) (m.s.sum m.t).idn.length (m.s.sum m.t).idn.length, .slice (some ⟨gC, 0, none⟩) (m.s.sum m.t).comp.length (m.s.sum m.t).comp.length] eT true)
  aF : H.get gF = some (.row (ints (m.colSp x y e)) eI true)
  aT : H.get gT = some (.row (ints (m.colTp x y e)) eI true)
  aI : H.get gI = some (.row (ints (m.s.sum m.t).idn) eI true)
  aC : H.get gC = some (.row (slsL r0 (m.s.sum m.t).comp) eS true)
  aV : H.get gV = some (.row (slsL r1 (m.colP x y e)) eS true)
  rows0 : OwnL H0.next H eI r0 (m.s.sum m.t).comp
  rows1 : OwnL H0.next H eI r1 (m.colP x y e)
  z1 : ∀ i, i < (m.s.sum m.t).comp.length → r0 i ≠ some ⟨gF, 0, none⟩
  z2 : ∀ i, i < (m.s.sum m.t).comp.length → r0 i ≠ some ⟨gT, 0, none⟩
  z3 : ∀ i, i < (m.s.sum m.t).comp.length → r0 i ≠ some ⟨gI, 0, none⟩
  w1 : ∀ i, i < (m.colP x y e).length → r1 i ≠ some ⟨gF, 0, none⟩
  w2 : ∀ i, i < (m.colP x y e).length → r1 i ≠ some ⟨gT, 0, none⟩
  bF : H0.next ≤ gF
  bT : H0.next ≤ gT
  bI : H0.next ≤ gI
  bC : H0.next ≤ gC
  bV : H0.next ≤ gV
  b5 : H0.next ≤ g5
  n12 : gF ≠ gT
  n13 : gF ≠ gI
  n23 : gT ≠ gI
  nV : gV ≠ gC
  n15 : g1 ≠ g5
  n25 : g2 ≠ g5
  n35 : g3 ≠ g5
  n45 : g4 ≠ g5
end Go.GL
namespace Go.GL
open Go.RowKit Go.WideShapes Go.ChangeShapes Go.Deep
def Bytes (H : GHeap) (a : Option Addr) (xs : List Int) : Prop := (SlA H a xs.length fun i => .int .u8 (xs.getD i 0)) ∧ ∀ i, 0 ≤ xs.getD i 0 ∧ xs.getD i 0 ≤ 255
theorem Bytes.mono {H H' : GHeap} {a : Option Addr} {xs : List Int} (h : Bytes H a xs) (hle : H.Le H') : Bytes H' a xs := ⟨SlA.mono h.1 hle, h.2⟩
def u8T (P : Program) (t : TypeId) : Bool := match P.underlying t with | some (.int .u8) => true | _ => false
def bytesDT (P : Program) (t : TypeId) : Bool := match P.underlying t with | some (.slice e) => u8T P e && (P.cellsOf e == 1) | _ => false
theorem bytesDT_run {P : Program} {t : TypeId} (h : bytesDT P t = true) : ∃ e, P.underlying t = some (.slice e) ∧ P.underlying e = some (.int .u8) ∧ P.cellsOf e = 1 := by
  unfold bytesDT at h
  split at h
  · simp only [Bool.and_eq_true, beq_iff_eq] at h
    refine ⟨_, by assumption, ?_, h.2⟩
    have h1 := h.1
    unfold u8T at h1
    split at h1
    · assumption
    · cases h1
  · cases h
def RBytes (ρ : Place) (H : GHeap) (cs : List Value) : Prop := ∃ a xs c, cs = [c] ∧ VRel ρ (.slice a xs.length xs.length) c ∧ Bytes H a xs ∧ xs.length ≤ 9223372036854775807
theorem import_bytes {P : Program} {t : TypeId} (ht : bytesDT P t = true) : Imports P t RBytes := by
  intro T enc B w0 ρ H w held fuel cs x hs hB h
  obtain ⟨e, h1, h2, h3⟩ := bytesDT_run ht
  rcases open_ints h1 h2 h3 h with ⟨rfl, _⟩ | ⟨a, len, cap, zs, rfl, _, hl, hm, hz, _, hc, hw⟩
  · exact ⟨ρ, H, hs, .refl ρ, .refl H, none, [], _, rfl, .nilSlice, ⟨.inl rfl, fun i => by simp⟩, by simp⟩
  · simp only [if_true] at hz
    have hlen : (zs.take len).length = len := by simp; omega
    obtain ⟨a', ρ', H', k1, k2, k3, k4, k5⟩ := hs.list hB (f := fun i => .int .u8 ((zs.take len).getD i 0)) hl hm (fun i hi => hc i (by omega)) (fun i hi => by rw [take_getD zs hi]; exact .int _ _)
    refine ⟨ρ', H', k1, k2, k3, a', zs.take len, _, rfl, by rw [hlen]; exact k4, ⟨by rw [hlen]; exact k5, fun i => ?_⟩, by rw [hlen]; unfold maxLen at hm; omega⟩
    rw [List.getD_eq_getElem?_getD]
    cases e : (zs.take len)[i]? with
    | none => simp
    | some n =>
      have := hw n (List.mem_of_mem_take (List.mem_of_getElem? e))
      simp [Lit.wf, IntKind.min, IntKind.max, IntKind.signed, IntKind.bits] at this
      simp only [Option.getD_some]
      omega
theorem imp1_bytes {P : Program} {t : TypeId} (ht : bytesDT P t = true) : Imp1 P t (fun H g => ∃ a xs, g = .slice a xs.length xs.length ∧ Bytes H a xs ∧ xs.length ≤ 9223372036854775807) where
  mono h := fun ⟨a, xs, h1, h2, h3⟩ => ⟨a, xs, h1, h2.mono h, h3⟩
  imp := by
    intro T enc B w0 ρ H w held base fuel v x hs hB h hv
    obtain ⟨e, hu, _⟩ := bytesDT_run ht
    obtain ⟨a, l, c, rfl⟩ := okWide_slice hu hv
    obtain ⟨ρ', H', h1, h2, h3, a', xs, c', h4, h5, h6, h7⟩ := import_bytes ht hs hB h
    have : Value.slice a l c = c' := by simpa [Value.cells] using h4
    subst this
    exact ⟨ρ', H', _, h1, h2, h3, h5, a', xs, rfl, h6, h7⟩
def andU (a b : Int) : Int := IntKind.wrap .u64 ((BitVec.ofInt 64 a &&& BitVec.ofInt 64 b).toNat : Nat)
theorem andU_le (a : Int) : 0 ≤ andU a 16777215 ∧ andU a 16777215 ≤ 16777215 := by
  have h : (BitVec.ofInt 64 a &&& BitVec.ofInt 64 16777215).toNat ≤ 16777215 := by
    rw [BitVec.toNat_and]
    exact Nat.le_trans Nat.and_le_right (by decide)
  unfold andU IntKind.wrap
  simp only [IntKind.bits, IntKind.signed, Bool.false_and, Bool.false_eq_true, if_false]
  omega
section
variable {P : Program} {fr : Slots} {H : GHeap}
theorem MStep.shrU {t u : TypeId} {x y : Operand} {j : IntKind} {a : Int} (hx : ev fr x = some (.int .u64 a)) (hy : ev fr y = some (.int j 33)) : MStep P fr H (.binOp .shr t x y u) (.int .u64 (a.fdiv (2 ^ 33))) :=
  .intOp hx hy fun w => by
    show (Op.shift .shr .u64 a j 33).run P w = _
    unfold Op.shift
    rw [if_neg (by decide)]
    rfl
theorem MStep.andU {t u : TypeId} {x y : Operand} {a b : Int} (hx : ev fr x = some (.int .u64 a)) (hy : ev fr y = some (.int .u64 b)) : MStep P fr H (.binOp .and t x y u) (.int .u64 (Go.GL.andU a b)) :=
  .intOp hx hy fun w => rfl
end
theorem cell_same {H H' : GHeap} {b i : Nat} {v : Value} (h : H.cell b i = some v) (s : ∀ o, H.get b = some o → H'.get b = some o) : H'.cell b i = some v := by
  unfold GHeap.cell at h ⊢
  cases e : H.get b with
  | none => rw [e] at h; simp at h
  | some o => rw [s o e]; rw [e] at h; exact h
theorem Bytes.st {H H' : GHeap} {a : Option Addr} {xs : List Int} {bs : List Nat} (h : Bytes H a xs) (s : St bs H H') (ho : ∀ b o t, a = some ⟨b, o, t⟩ → out bs b) : Bytes H' a xs := by
  refine ⟨h.1.imp id fun ⟨g, off, ha, hc⟩ => ⟨g, off, ha, fun i hi => cell_same (hc i hi) fun o hg => s.same g o (ho _ _ _ ha) hg⟩, h.2⟩
def DSrc (T : TypeId) (H : GHeap) (g : Nat) : Prop :=
  ∃ (a : Option Addr) (xs : List Int) (p h : Int), H.get g = some (.row [.slice a xs.length xs.length, .int .i64 p, .int .u64 h] T true) ∧ (0 ≤ p ∧ p ≤ 4096) ∧ xs.length ≤ 4096 ∧ Bytes H a xs ∧ ∀ b o t, a = some ⟨b, o, t⟩ → b < g
theorem DSrc.le {T : TypeId} {H H' : GHeap} {g : Nat} (h : DSrc T H g) (s : H.Le H') : DSrc T H' g := by
  obtain ⟨a, xs, p, hh, h1, h2, h3, h4, h5⟩ := h
  exact ⟨a, xs, p, hh, s.2 _ _ h1, h2, h3, h4.mono s, h5⟩
theorem DSrc.st {T : TypeId} {H H' : GHeap} {g : Nat} {bs : List Nat} (h : DSrc T H g) (s : St bs H H') (f : ∀ k, k < g + 1 → out [] k → out bs k) : DSrc T H' g := by
  obtain ⟨a, xs, p, hh, h1, h2, h3, h4, h5⟩ := h
  exact ⟨a, xs, p, hh, s.same _ _ (f g (by omega) trivial) h1, h2, h3, h4.st s fun b o t ha => f b (by have := h5 b o t ha; omega) trivial, h5⟩
theorem DSrc.sA {T : TypeId} {H H' : GHeap} {g : Nat} {bs : List Nat} (h : DSrc T H g) (s : St bs H H') (f : ∀ k, k < g + 1 → out [] k → out bs k := by intro k hk ho; simp only [out, and_true] at ho ⊢ <;> first | exact ho | exact ho.1 | exact ho.2 | exact ho.2.1 | exact ho.2.2 | exact ho.2.2.1 | exact ho.2.2.2 | omega) : DSrc T H' g := h.st s f
theorem DSrc.sQ {T : TypeId} {H H' : GHeap} {g : Nat} {bs : List Nat} (h : DSrc T H g) (s : St bs H H') (f : ∀ k, k < g + 1 → out [] k → out bs k := by intro k hk ho; simp only [out, and_true] at ho ⊢ <;> first | exact ho | exact ho.1 | exact ho.2 | exact ho.2.1 | exact ho.2.2 | exact ho.2.2.1 | exact ho.2.2.2 | exact PL.ne (by assumption) (by first | exact ho | exact ho.1 | exact ho.2 | exact ho.2.1 | exact ho.2.2 | exact ho.2.2.1 | exact ho.2.2.2 | exact PL.ne (by assumption) (by first | exact ho | exact ho.1 | exact ho.2 | exact ho.2.1 | exact ho.2.2 | exact ho.2.2.1 | exact ho.2.2.2 | exact PL.ne (by assumption) (by first | exact ho | exact ho.1 | exact ho.2 | exact ho.2.1 | exact ho.2.2 | exact ho.2.2.1 | exact ho.2.2.2 | omega) (by omega) | omega) (by omega) | omega) (by omega) | omega) : DSrc T H' g := h.st s f
theorem DSrc.sP {T : TypeId} {H H' : GHeap} {g : Nat} {bs : List Nat} (h : DSrc T H g) (s : St bs H H') (f : ∀ k, k < g + 1 → out [] k → out bs k := by intro k hk ho; simp only [out, and_true] at ho ⊢ <;> first | exact ho | exact ho.1 | exact ho.2 | exact ho.2.1 | exact ho.2.2 | exact ho.2.2.1 | exact ho.2.2.2 | exact PL.ne (by assumption) (by first | exact ho | exact ho.1 | exact ho.2 | exact ho.2.1 | exact ho.2.2 | exact ho.2.2.1 | exact ho.2.2.2 | omega) (by omega) | omega) : DSrc T H' g := h.st s f
theorem DSrc.lt {T : TypeId} {H : GHeap} {g : Nat} (h : DSrc T H g) : g < H.next := by
  obtain ⟨a, xs, p, hh, h1, _⟩ := h
  exact GHeap.ltg h1
theorem tmod_bd {x n : Int} (h0 : 0 ≤ x) (hn : 1 ≤ n) : 0 ≤ x.tmod n ∧ x.tmod n < n := ⟨Int.tmod_nonneg n h0, Int.tmod_lt_of_pos x (by omega)⟩
def Drawn (T : TypeId) (g : Nat) (n : Int) (H : GHeap) (v : Value) (H' : GHeap) : Prop := ∃ k, v = .int .i64 k ∧ 0 ≤ k ∧ (1 ≤ n → k < n) ∧ (n < 1 → k = 0) ∧ St [g] H H' ∧ DSrc T H' g
end Go.GL
namespace Go.GL
theorem rng_snoc {f : Nat → Int} {i : Nat} : (List.range (i + 1)).map f = (List.range i).map f ++ [f i] := by rw [List.range_succ, List.map_append]; rfl
def Cat.opRow (c : Cat) (f g : Nat) : List Int := (List.range g).map fun g => (c.comp.getD g []).getD f 0
def Cat.opTab (c : Cat) (k : Nat) : List (List Int) := (List.range k).map fun f => c.opRow f c.src.length
def Cat.op (c : Cat) : Cat := ⟨c.obj, c.tgt, c.src, c.idn, c.opTab c.src.length⟩
@[simp] theorem Cat.length_opRow (c : Cat) (f g : Nat) : (c.opRow f g).length = g := by simp [opRow]
@[simp] theorem Cat.length_opTab (c : Cat) (k : Nat) : (c.opTab k).length = k := by simp [opTab]
theorem Cat.opRow_snoc {c : Cat} {f g : Nat} : c.opRow f (g + 1) = c.opRow f g ++ [(c.comp.getD g []).getD f 0] := rng_snoc
theorem Cat.opTab_snoc {c : Cat} {k : Nat} : c.opTab (k + 1) = c.opTab k ++ [c.opRow k c.src.length] := by unfold opTab; rw [List.range_succ, List.map_append]; rfl
theorem Cat.opTab_get {c : Cat} {k i : Nat} (h : i < k) : (c.opTab k).getD i [] = c.opRow i c.src.length := by unfold opTab; simp [List.getD_eq_getElem?_getD, h]
theorem Cat.opRow_get {c : Cat} {f g j : Nat} (h : j < g) : (c.opRow f g).getD j 0 = (c.comp.getD j []).getD f 0 := by unfold opRow; simp [List.getD_eq_getElem?_getD, h]
theorem Cat.Rect.op {c : Cat} {N : Nat} (h : c.Rect N) : c.op.Rect N := by
  obtain ⟨h1, h2, h3, h4, h5, h6, h7, h8, h9, h10⟩ := h
  refine ⟨h1, by simp only [Cat.op]; omega, by simp only [Cat.op]; omega, h5, h4, h6, h7, by simp [Cat.op]; omega, fun f hf => ?_, fun f hf g hg => ?_⟩
  · simp only [Cat.op, length_opTab] at hf ⊢
    rw [opTab_get hf, length_opRow]; omega
  · simp only [Cat.op, length_opTab] at hf hg ⊢
    rw [opTab_get hf, opRow_get (by omega)]
    exact h10 g (by omega) f hf
theorem Cat.Rect.mono {c : Cat} {N M : Nat} (h : c.Rect N) (hm : N ≤ M) : c.Rect M := by
  obtain ⟨h1, h2, h3, h4, h5, h6, h7, h8, h9, h10⟩ := h
  exact ⟨⟨h1.1, by omega⟩, by omega, h3, fun i hi => by have := h4 i hi; omega, fun i hi => by have := h5 i hi; omega, h6, fun i hi => by have := h7 i hi; omega, h8, h9, fun f hf g hg => by have := h10 f hf g hg; omega⟩
end Go.GL
namespace Go.GL
def Bd (lo hi : Int) (l : List Int) : Prop := ∀ i, i < l.length → lo ≤ l.getD i 0 ∧ l.getD i 0 ≤ hi
theorem Bd.nil (lo hi : Int) : Bd lo hi [] := fun i h => by simp at h
theorem Bd.snoc {lo hi x : Int} {l : List Int} (h : Bd lo hi l) (h1 : lo ≤ x) (h2 : x ≤ hi) : Bd lo hi (l ++ [x]) := fun i hi => by
  rw [List.length_append, List.length_singleton] at hi
  by_cases e : i = l.length
  · subst e
    simp only [List.getD_eq_getElem?_getD, List.getElem?_concat_length, Option.getD_some]
    omega
  · have : i < l.length := by omega
    have h3 := h i this
    simp only [List.getD_eq_getElem?_getD, List.getElem?_append_left this] at h3 ⊢
    exact h3
theorem Bd.mono {lo hi lo' hi' : Int} {l : List Int} (h : Bd lo hi l) (h1 : lo' ≤ lo) (h2 : hi ≤ hi') : Bd lo' hi' l := fun i hi => by have := h i hi; omega
theorem Bd.rep {lo hi x : Int} (n : Nat) (h1 : lo ≤ x) (h2 : x ≤ hi) : Bd lo hi (List.replicate n x) := fun i hi => by
  rw [List.length_replicate] at hi
  simp [List.getD_eq_getElem?_getD, hi, h1, h2]
def Tb (lo hi : Int) (w : Nat) (T : List (List Int)) : Prop := ∀ i, i < T.length → (T.getD i []).length = w ∧ Bd lo hi (T.getD i [])
theorem Tb.nil (lo hi : Int) (w : Nat) : Tb lo hi w [] := fun i h => by simp at h
theorem Tb.snoc {lo hi : Int} {w : Nat} {x : List Int} {l : List (List Int)} (h : Tb lo hi w l) (h1 : x.length = w) (h2 : Bd lo hi x) : Tb lo hi w (l ++ [x]) := fun i hi => by
  rw [List.length_append, List.length_singleton] at hi
  by_cases e : i = l.length
  · subst e
    simp only [List.getD_eq_getElem?_getD, List.getElem?_concat_length, Option.getD_some]
    exact ⟨h1, h2⟩
  · have : i < l.length := by omega
    have h3 := h i this
    simp only [List.getD_eq_getElem?_getD, List.getElem?_append_left this] at h3 ⊢
    exact h3
theorem Tb.mono {lo hi lo' hi' : Int} {w : Nat} {l : List (List Int)} (h : Tb lo hi w l) (h1 : lo' ≤ lo) (h2 : hi ≤ hi') : Tb lo' hi' w l := fun i hi => ⟨(h i hi).1, (h i hi).2.mono h1 h2⟩
theorem Tb.at {lo hi : Int} {w i j : Nat} {T : List (List Int)} (h : Tb lo hi w T) (h1 : i < T.length) (hj : j < w) : lo ≤ (T.getD i []).getD j 0 ∧ (T.getD i []).getD j 0 ≤ hi := (h i h1).2 j (by rw [(h i h1).1]; exact hj)
theorem rect_mk {n : Int} {N : Nat} {ss ts is : List Int} {cs : List (List Int)} (h0 : 0 ≤ n ∧ n ≤ N) (h1 : ss.length ≤ N) (h2 : ts.length = ss.length) (h3 : Bd 0 N ss) (h4 : Bd 0 N ts) (h5 : (is.length : Int) = n) (h6 : Bd 0 N is) (h7 : cs.length = ss.length) (h8 : Tb (-(N : Int) - 1) N ss.length cs) : Cat.Rect ⟨n, ss, ts, is, cs⟩ N :=
  ⟨h0, h1, h2, h3, h4, h5, h6, h7, fun f hf => (h8 f hf).1, fun f hf g hg => h8.at hf hg⟩
theorem bd_iff {lo hi : Int} {l : List Int} : Bd lo hi l ↔ ∀ x ∈ l, lo ≤ x ∧ x ≤ hi := by
  constructor
  · intro h x hx
    obtain ⟨i, h1, rfl⟩ := List.getElem_of_mem hx
    have := h i h1
    rwa [List.getD_eq_getElem?_getD, List.getElem?_eq_getElem h1] at this
  · intro h i hi
    rw [List.getD_eq_getElem?_getD, List.getElem?_eq_getElem hi]
    exact h _ (List.getElem_mem hi)
theorem tb_iff {lo hi : Int} {w : Nat} {T : List (List Int)} : Tb lo hi w T ↔ ∀ r ∈ T, r.length = w ∧ ∀ x ∈ r, lo ≤ x ∧ x ≤ hi := by
  constructor
  · intro h r hr
    obtain ⟨i, h1, rfl⟩ := List.getElem_of_mem hr
    have := h i h1
    rw [List.getD_eq_getElem?_getD, List.getElem?_eq_getElem h1] at this
    exact ⟨this.1, bd_iff.1 this.2⟩
  · intro h i hi
    rw [List.getD_eq_getElem?_getD, List.getElem?_eq_getElem hi]
    have := h _ (List.getElem_mem hi)
    exact ⟨this.1, bd_iff.2 this.2⟩
theorem Cat.Rect.sum {c d : Cat} {N M : Nat} (h : c.Rect N) (h' : d.Rect M) : (c.sum d).Rect (N + M) := by
  obtain ⟨a1, a2, a3, a4, a5, a6, a7, a8, a9, a10⟩ := h
  obtain ⟨b1, b2, b3, b4, b5, b6, b7, b8, b9, b10⟩ := h'
  have s1 := bd_iff.1 (show Bd 0 N c.src from a4)
  have s2 := bd_iff.1 (show Bd 0 N c.tgt from a5)
  have s3 := bd_iff.1 (show Bd 0 N c.idn from a7)
  have t1 := bd_iff.1 (show Bd 0 M d.src from b4)
  have t2 := bd_iff.1 (show Bd 0 M d.tgt from b5)
  have t3 := bd_iff.1 (show Bd 0 M d.idn from b7)
  have s4 := tb_iff.1 (show Tb (-(N : Int) - 1) N c.src.length c.comp from fun i hi => ⟨a9 i hi, fun j hj => a10 i hi j (by rw [← a9 i hi]; exact hj)⟩)
  have t4 := tb_iff.1 (show Tb (-(M : Int) - 1) M d.src.length d.comp from fun i hi => ⟨b9 i hi, fun j hj => b10 i hi j (by rw [← b9 i hi]; exact hj)⟩)
  refine rect_mk (by omega) (by simp [Cat.sum]; omega) (by simp [Cat.sum]; omega) (bd_iff.2 ?_) (bd_iff.2 ?_) (by simp [Cat.sum]; omega) (bd_iff.2 ?_) (by simp [Cat.sum, Cat.sumL]; omega) (tb_iff.2 ?_)
  · intro x hx
    simp only [Cat.sum, List.mem_append, List.mem_map] at hx
    rcases hx with h | ⟨y, h, rfl⟩
    · have := s1 x h; omega
    · have := t1 y h; omega
  · intro x hx
    simp only [Cat.sum, List.mem_append, List.mem_map] at hx
    rcases hx with h | ⟨y, h, rfl⟩
    · have := s2 x h; omega
    · have := t2 y h; omega
  · intro x hx
    simp only [Cat.sum, List.mem_append, List.mem_map] at hx
    rcases hx with h | ⟨y, h, rfl⟩
    · have := s3 x h; omega
    · have := t3 y h; omega
  · intro r hr
    simp only [Cat.sum, Cat.sumL, List.mem_append, List.mem_map] at hr
    rcases hr with ⟨y, h, rfl⟩ | ⟨y, h, rfl⟩
    · have := s4 y h
      refine ⟨by simp [Cat.sum]; omega, fun x hx => ?_⟩
      rcases List.mem_append.1 hx with h | h
      · have := this.2 x h; omega
      · have := (List.mem_replicate.1 h).2; omega
    · have := t4 y h
      refine ⟨by simp [Cat.sum, sumRow]; omega, fun x hx => ?_⟩
      rcases List.mem_append.1 hx with h | h
      · have := (List.mem_replicate.1 h).2; omega
      · obtain ⟨z, h1, rfl⟩ := List.mem_map.1 h
        have := this.2 z h1
        split <;> omega
def NewRc (eI eS : TypeId) (N : Nat) (H : GHeap) (v : Value) (H' : GHeap) : Prop := ∃ c, c.Rect N ∧ NewCatO eI eS H c v H'
end Go.GL
namespace Go.GL
def LitAt (b : Nat) (H : GHeap) (e : TypeId) : List Nat → List (List Int) → Prop
  | [], [] => True
  | g :: gs, x :: T => (b ≤ g ∧ H.get g = some (.row (ints x) e true)) ∧ LitAt b H e gs T
  | _, _ => False
theorem LitAt.get {b : Nat} {H : GHeap} {e : TypeId} : ∀ {gs : List Nat} {T : List (List Int)}, LitAt b H e gs T → gs.length = T.length ∧ ∀ i, i < T.length → b ≤ gs.getD i 0 ∧ H.get (gs.getD i 0) = some (.row (ints (T.getD i [])) e true)
  | [], [], _ => ⟨rfl, fun i h => by simp at h⟩
  | g :: gs, x :: T, h => by
    obtain ⟨h1, h2⟩ := h.2.get
    refine ⟨by simp [h1], fun i hi => ?_⟩
    cases i with
    | zero => exact h.1
    | succ i => exact h2 i (by simpa using hi)
  | [], _ :: _, h => h.elim
  | _ :: _, [], h => h.elim
theorem lit_own {b : Nat} {H : GHeap} {e : TypeId} {gs : List Nat} {T : List (List Int)} (h : LitAt b H e gs T) (hd : gs.Nodup) : OwnL b H e (fun i => some ⟨gs.getD i 0, 0, none⟩) T := by
  obtain ⟨h1, h2⟩ := h.get
  refine ⟨fun i hi => ⟨_, rfl, h2 i hi⟩, fun i j hi hj e => ?_⟩
  have e' : gs.getD i 0 = gs.getD j 0 := by simpa using e
  simp only [List.getD_eq_getElem?_getD, List.getElem?_eq_getElem (show i < gs.length by omega), List.getElem?_eq_getElem (show j < gs.length by omega), Option.getD_some] at e'
  exact (List.getElem_inj hd).1 e'
theorem row_nes {gs : List Nat} {g n : Nat} (h : g ∉ gs) (hn : n ≤ gs.length := by exact Nat.le_refl _) : ∀ i, i < n → (fun i => some (⟨gs.getD i 0, 0, none⟩ : Addr)) i ≠ some ⟨g, 0, none⟩ := fun i hi e => h (by
  have e' : gs.getD i 0 = g := by simpa using e
  rw [List.getD_eq_getElem?_getD, List.getElem?_eq_getElem (by omega)] at e'
  exact e' ▸ List.getElem_mem (by omega))
def NewTab (TS : TypeId) (gS : Nat) (H : GHeap) (v : Value) (H' : GHeap) : Prop := ∃ a T r, v = .slice a T.length T.length ∧ IntssR H.next H' a T r ∧ (1 ≤ T.length ∧ T.length ≤ 4) ∧ Tb 0 3 T.length T ∧ St [gS] H H' ∧ DSrc TS H' gS
theorem OwnCat.low {eI eS : TypeId} {b b' : Nat} {H : GHeap} {c : Cat} {g1 g2 g3 g4 : Nat} {rr : Nat → Option Addr} (h : OwnCat eI eS b H c g1 g2 g3 g4 rr) (hb : b' ≤ b) : OwnCat eI eS b' H c g1 g2 g3 g4 rr :=
  ⟨h.a1, h.a2, h.a3, h.a4, Nat.le_trans hb h.b1, Nat.le_trans hb h.b2, Nat.le_trans hb h.b3, Nat.le_trans hb h.b4, h.n12, h.n13, h.n23, h.rows.low hb, h.r1, h.r2, h.r3⟩
theorem mul_bdg {a b A B : Int} (h : 0 ≤ a ∧ a ≤ A) (h' : 0 ≤ b ∧ b ≤ B) : 0 ≤ a * b ∧ a * b ≤ A * B := ⟨Int.mul_nonneg h.1 h'.1, Int.mul_le_mul h.2 h'.2 h'.1 (by omega)⟩
theorem mul_bd {a b : Int} (h : 0 ≤ a ∧ a ≤ 256) (h' : 0 ≤ b ∧ b ≤ 128) : 0 ≤ a * b ∧ a * b ≤ 32768 := ⟨Int.mul_nonneg h.1 h'.1, by have := Int.mul_le_mul h.2 h'.2 h'.1 (by omega : (0 : Int) ≤ 256); omega⟩
theorem mulN_bd {a b : Nat} (h : a ≤ 256) (h' : b ≤ 128) : a * b ≤ 32768 := Nat.mul_le_mul h h'
theorem sm (a m : Nat) : (a + 1) * m = a * m + m := Nat.succ_mul a m
theorem smz (x : Nat) (z : Int) : ((x + 1 : Nat) : Int) * z = x * z + z := by rw [Int.natCast_add, Int.add_mul]; simp
end Go.GL
namespace Go.GL
theorem slsL_lens {r : Nat → Option Addr} {X Y : List (List Int)} (hl : X.length = Y.length) (h : ∀ i, (X.getD i []).length = (Y.getD i []).length) : slsL r X = slsL r Y := by
  unfold slsL slsOf
  rw [hl]
  exact List.map_congr_left fun i _ => by rw [h i]
theorem getD_set_len {T : List (List Int)} {i : Nat} {ys : List Int} (h : ys.length = (T.getD i []).length) (j : Nat) : ((T.set i ys).getD j []).length = (T.getD j []).length := by
  rw [List.getD_eq_getElem?_getD, List.getElem?_set, List.getD_eq_getElem?_getD]
  by_cases e : i = j
  · subst e
    rw [if_pos rfl]
    split
    · simpa [List.getD_eq_getElem?_getD] using h
    · rw [List.getElem?_eq_none (by omega)]
  · rw [if_neg e]
theorem OwnL.setR {b gi i : Nat} {H H' : GHeap} {e : TypeId} {r : Nat → Option Addr} {xss : List (List Int)} {ys : List Int} (h : OwnL b H e r xss) (s : St [gi] H H') (hi : i < xss.length) (hr : r i = some ⟨gi, 0, none⟩) (hg : H'.get gi = some (.row (ints ys) e true)) : OwnL b H' e r (xss.set i ys) := by
  unfold OwnL
  rw [List.length_set]
  refine ⟨fun j hj => ?_, h.inj⟩
  obtain ⟨x, h1, h2, h3⟩ := h.row j hj
  rw [List.getD_eq_getElem?_getD, List.getElem?_set]
  by_cases ej : i = j
  · subst ej
    rw [hr] at h1; cases h1
    exact ⟨gi, hr, h2, by rw [if_pos rfl, if_pos hi]; exact hg⟩
  · refine ⟨x, h1, h2, ?_⟩
    rw [if_neg ej, ← List.getD_eq_getElem?_getD]
    exact s.same x _ ⟨fun ex => by
      subst ex
      exact ej (h.inj i j hi hj (by rw [hr, h1])), trivial⟩ h3
structure RelSt (TS eI eS : TypeId) (H H' : GHeap) (gS g5 n k : Nat) (rr : Nat → Option Addr) (T : List (List Int)) : Prop where
  st : St [gS] H H'
  a5 : H'.get g5 = some (.row (slsL rr T) eS true)
  b5 : H.next ≤ g5
  own : OwnL H.next H' eI rr T
  len : T.length = k
  row : ∀ i, i < T.length → (T.getD i []).length = n
  hs : DSrc TS H' gS
theorem RelSt.set1 {TS eI eS : TypeId} {H H1 H2 : GHeap} {gS g5 n k gi i : Nat} {rr : Nat → Option Addr} {T : List (List Int)} {ys : List Int} (h : RelSt TS eI eS H H1 gS g5 n k rr T) (hi : i < T.length) (hg : rr i = some ⟨gi, 0, none⟩) (hb : H.next ≤ gi) (s : St [gi] H1 H2) (hat : H2.get gi = some (.row (ints ys) eI true)) (hl : ys.length = n) (h5 : g5 ≠ gi) (hS : gS < H.next) : RelSt TS eI eS H H2 gS g5 n k rr (T.set i ys) := by
  have hl' : ys.length = (T.getD i []).length := by rw [hl, h.row i hi]
  refine ⟨h.st.st s (fun k hk ho => ⟨by omega, trivial⟩), ?_, h.b5, h.own.setR s hi hg hat, by rw [List.length_set]; exact h.len, fun j hj => ?_, h.hs.st s (fun k hk ho => ⟨by omega, trivial⟩)⟩
  · rw [slsL_lens (Y := T) (by simp) (getD_set_len hl')]
    exact s.same _ _ ⟨h5, trivial⟩ h.a5
  · rw [List.length_set] at hj
    rw [getD_set_len hl']
    exact h.row j hj
theorem RelSt.ex {TS eI eS : TypeId} {H H1 : GHeap} {gS g5 n k : Nat} {rr : Nat → Option Addr} {T : List (List Int)} (h : RelSt TS eI eS H H1 gS g5 n k rr T) : ∃ T', RelSt TS eI eS H H1 gS g5 n k rr T' := ⟨_, h⟩
theorem rows_snoc {n : Nat} {T : List (List Int)} {x : List Int} (h : ∀ i, i < T.length → (T.getD i []).length = n) (hx : x.length = n) : ∀ i, i < (T ++ [x]).length → ((T ++ [x]).getD i []).length = n := fun i hi => by
  rw [List.length_append, List.length_singleton] at hi
  rw [getD_snoc]
  split
  · exact h i (by assumption)
  · rw [if_pos (by omega)]; exact hx
def NewRel (TS : TypeId) (gS n : Nat) (H : GHeap) (v : Value) (H' : GHeap) : Prop := ∃ a T r, v = .slice a T.length T.length ∧ IntssR H.next H' a T r ∧ T.length = n ∧ (∀ i, i < T.length → (T.getD i []).length = T.length) ∧ St [gS] H H' ∧ DSrc TS H' gS
end Go.GL
namespace Go.GL
structure Pth where
  f : Int
  t : Int
  e : List Int
  g : Nat
def Pth.cs (p : Pth) : List Value := [.int .i64 p.f, .int .i64 p.t, .slice (some ⟨p.g, 0, none⟩) p.e.length p.e.length]
def pz : Pth := ⟨0, 0, [], 0⟩
def pcells (ps : List Pth) : List Value := ps.flatMap Pth.cs
theorem pcells_append (l r : List Pth) : pcells (l ++ r) = pcells l ++ pcells r := by simp [pcells]
theorem pcells_snoc (ps : List Pth) (p : Pth) : pcells (ps ++ [p]) = pcells ps ++ p.cs := by simp [pcells]
theorem pcells_len (ps : List Pth) : (pcells ps).length = ps.length * 3 := by
  induction ps with
  | nil => rfl
  | cons x r ih =>
    unfold pcells at ih ⊢
    simp only [List.flatMap_cons, List.length_append, Pth.cs, List.length_cons, List.length_nil] at ih ⊢
    omega
theorem split_at {ps : List Pth} {i : Nat} (hi : i < ps.length) : ∃ l r, ps = l ++ (ps.getD i pz :: r) ∧ l.length = i := by
  refine ⟨ps.take i, ps.drop (i + 1), ?_, by simp; omega⟩
  rw [List.getD_eq_getElem?_getD, List.getElem?_eq_getElem hi, Option.getD_some, ← List.drop_eq_getElem_cons hi, List.take_append_drop]
theorem pcells_get {ps : List Pth} {i j : Nat} (hi : i < ps.length) (hj : j < 3) : (pcells ps)[i * 3 + j]? = (ps.getD i pz).cs[j]? := by
  obtain ⟨l, r, e, hl⟩ := split_at hi
  have h1 := pcells_len l
  have h2 : pcells (ps.getD i pz :: r) = (ps.getD i pz).cs ++ pcells r := by simp [pcells]
  have h3 : (ps.getD i pz).cs.length = 3 := rfl
  conv => lhs; rw [e]
  rw [pcells_append, h2, List.getElem?_append_right (by omega), show i * 3 + j - (pcells l).length = j by omega, List.getElem?_append_left (by omega)]
theorem pcells_slA {H : GHeap} {g : Nat} {e : TypeId} {own : Bool} {ps : List Pth} (hg : H.get g = some (.row (pcells ps) e own)) : SlA H (some ⟨g, 0, none⟩) (ps.length * 3) (fun i => (pcells ps).getD i undef) :=
  .inr ⟨g, 0, rfl, fun i hi => by
    rw [GHeap.cell_of hg, Nat.zero_add]
    show _ = some ((pcells ps).getD i undef)
    rw [List.getD_eq_getElem?_getD, List.getElem?_eq_getElem (by rw [pcells_len]; exact hi)]; rfl⟩
theorem pcells_mem {H : GHeap} {g : Nat} {e : TypeId} {own : Bool} {ps : List Pth} (hg : H.get g = some (.row (pcells ps) e own)) {i : Nat} (hi : i < ps.length) : MemN H g (0 + (i : Int).toNat * 3) 3 (ps.getD i pz).cs := by
  refine ⟨rfl, fun j v hv => ?_⟩
  have hj : j < 3 := by
    have := (List.getElem?_eq_some_iff.1 hv).1
    exact this
  rw [GHeap.cell_of hg, Int.toNat_natCast, Nat.zero_add, pcells_get hi hj]
  exact hv
theorem pcells_set {ps : List Pth} {i : Nat} (q : Pth) (hi : i < ps.length) : setAll (pcells ps) (i * 3) q.cs = pcells (ps.set i q) := by
  obtain ⟨l, r, e, hl⟩ := split_at hi
  have h1 := pcells_len l
  have h2 : pcells ps = pcells l ++ ((ps.getD i pz).cs ++ pcells r) := by
    conv => lhs; rw [e]
    rw [pcells_append]
    simp [pcells]
  have h3 : ps.set i q = l ++ q :: r := by
    conv => lhs; rw [e]
    rw [← hl, List.set_append_right _ _ (Nat.le_refl _)]
    simp
  rw [h2, h3, show i * 3 = (pcells l).length by omega, setAll_gen q.cs (pcells l) (ps.getD i pz).cs (pcells r) rfl, pcells_append]
  simp [pcells]
def PthOk (b : Nat) (eI : TypeId) (N : Int) (H : GHeap) (ps : List Pth) : Prop := ∀ p ∈ ps, (0 ≤ p.f ∧ p.f ≤ N) ∧ (0 ≤ p.t ∧ p.t ≤ N) ∧ p.e.length ≤ ps.length ∧ b ≤ p.g ∧ H.get p.g = some (.row (ints p.e) eI true)
theorem PthOk.nil (b : Nat) (eI : TypeId) (N : Int) (H : GHeap) : PthOk b eI N H [] := fun p hp => by simp at hp
theorem PthOk.keep {b : Nat} {eI : TypeId} {N : Int} {H H' : GHeap} {ps : List Pth} (h : PthOk b eI N H ps) (s : Lasts eI H H') : PthOk b eI N H' ps := fun p hp => by
  obtain ⟨h1, h2, h3, h4, h5⟩ := h p hp
  exact ⟨h1, h2, h3, h4, s _ _ h5⟩
theorem PthOk.at {b : Nat} {eI : TypeId} {N : Int} {H : GHeap} {ps : List Pth} (h : PthOk b eI N H ps) {i : Nat} (hi : i < ps.length) : (0 ≤ (ps.getD i pz).f ∧ (ps.getD i pz).f ≤ N) ∧ (0 ≤ (ps.getD i pz).t ∧ (ps.getD i pz).t ≤ N) ∧ (ps.getD i pz).e.length ≤ ps.length ∧ b ≤ (ps.getD i pz).g ∧ H.get (ps.getD i pz).g = some (.row (ints (ps.getD i pz).e) eI true) :=
  h _ (by rw [List.getD_eq_getElem?_getD, List.getElem?_eq_getElem hi]; exact List.getElem_mem hi)
theorem PthOk.snoc {b : Nat} {eI : TypeId} {N : Int} {H : GHeap} {ps : List Pth} (h : PthOk b eI N H ps) {p : Pth} (h1 : 0 ≤ p.f ∧ p.f ≤ N) (h2 : 0 ≤ p.t ∧ p.t ≤ N) (h3 : p.e.length ≤ ps.length + 1) (h4 : b ≤ p.g) (h5 : H.get p.g = some (.row (ints p.e) eI true)) : PthOk b eI N H (ps ++ [p]) := fun q hq => by
  rw [List.length_append, List.length_singleton]
  rcases List.mem_append.1 hq with hq | hq
  · obtain ⟨a1, a2, a3, a4, a5⟩ := h q hq
    exact ⟨a1, a2, by omega, a4, a5⟩
  · obtain rfl := List.mem_singleton.1 hq
    exact ⟨h1, h2, h3, h4, h5⟩
theorem PthOk.set {b : Nat} {eI : TypeId} {N : Int} {H : GHeap} {ps : List Pth} (h : PthOk b eI N H ps) {i j : Nat} (hj : j < ps.length) : PthOk b eI N H (ps.set i (ps.getD j pz)) := fun q hq => by
  rw [List.length_set]
  rcases List.mem_or_eq_of_mem_set hq with hq | rfl
  · exact h q hq
  · exact h.at hj
def pw (t : Int) : Nat := if t ≤ 0 then 13 else if t ≤ 1 then 4 else 1
def pws (ps : List Pth) : Nat := (ps.map fun p => pw p.t).sum
def pwn (x : Nat) : Nat := if x = 0 then 0 else if x = 1 then 13 else if x = 2 then 17 else 18
theorem pw_pos (t : Int) : 1 ≤ pw t := by
  unfold pw
  repeat' split
  all_goals omega
theorem pw_up {t u : Int} (h0 : 0 ≤ t) (h : t < u) (h2 : u ≤ 2) : 3 * pw u + 1 ≤ pw t := by
  unfold pw
  rw [if_neg (show ¬ u ≤ 0 by omega)]
  by_cases e : t ≤ 0
  · rw [if_pos e]
    split <;> omega
  · rw [if_neg e, if_pos (show t ≤ 1 by omega), if_neg (show ¬ u ≤ 1 by omega)]
    omega
theorem pwn_succ {x : Nat} (h : x ≤ 2) : pwn x + pw (x : Int) = pwn (x + 1) := by
  have : x = 0 ∨ x = 1 ∨ x = 2 := by omega
  rcases this with rfl | rfl | rfl <;> rfl
theorem pwn_le (x : Nat) : pwn x ≤ 18 := by
  unfold pwn
  repeat' split
  all_goals omega
theorem pws_snoc (ps : List Pth) (p : Pth) : pws (ps ++ [p]) = pws ps + pw p.t := by simp [pws]
theorem pws_ge (ps : List Pth) : ps.length ≤ pws ps := by
  induction ps with
  | nil => exact Nat.le_refl _
  | cons p r ih =>
    have := pw_pos p.t
    simp only [pws, List.map_cons, List.sum_cons, List.length_cons] at ih ⊢
    omega
theorem pws_drop {ps : List Pth} {k : Nat} (h : k < ps.length) : pws (ps.drop k) = pw (ps.getD k pz).t + pws (ps.drop (k + 1)) := by
  rw [List.drop_eq_getElem_cons h, List.getD_eq_getElem?_getD, List.getElem?_eq_getElem h]
  rfl
theorem pws_drop_snoc {ps : List Pth} {p : Pth} {k : Nat} (h : k ≤ ps.length) : pws ((ps ++ [p]).drop k) = pws (ps.drop k) + pw p.t := by
  rw [List.drop_append_of_le_length h, pws_snoc]
theorem pws_len {ps : List Pth} {k : Nat} (h : k ≤ ps.length) (h' : k + pws (ps.drop k) ≤ 18) : ps.length ≤ 18 := by
  have := pws_ge (ps.drop k)
  rw [List.length_drop] at this
  omega
def NewPaths (eI eP : TypeId) (N : Int) (H : GHeap) (v : Value) (H' : GHeap) : Prop := H.Le H' ∧ ∃ g ps, v = .slice (some ⟨g, 0, none⟩) ps.length ps.length ∧ H.next ≤ g ∧ H'.get g = some (.row (pcells ps) eP true) ∧ PthOk H.next eI N H' ps ∧ ps.length ≤ 18
end Go.GL
namespace Go.GL
structure PthK (b : Nat) (eI : TypeId) (N : Int) (H : GHeap) (ps : List Pth) : Prop where
  ok : PthOk b eI N H ps
theorem PthK.keep {b b' : Nat} {eI : TypeId} {N : Int} {H H' : GHeap} {ps : List Pth} (h : PthK b eI N H ps) (k : Keep b' H H') (hb : b' ≤ b) : PthK b eI N H' ps := ⟨fun p hp => by
  obtain ⟨h1, h2, h3, h4, h5⟩ := h.ok p hp
  exact ⟨h1, h2, h3, h4, k _ _ (Nat.le_trans hb h4) h5⟩⟩
theorem up_snoc {xs ys : List Int} {x y : Int} (hl : ys.length = xs.length) (h : ∀ e, e < xs.length → xs.getD e 0 < ys.getD e 0) (hxy : x < y) : ∀ e, e < (xs ++ [x]).length → (xs ++ [x]).getD e 0 < (ys ++ [y]).getD e 0 := fun e he => by
  rw [List.length_append, List.length_singleton] at he
  rw [getD_snoc, getD_snoc]
  by_cases e1 : e < xs.length
  · rw [if_pos e1, if_pos (by omega)]; exact h e e1
  · rw [if_neg e1, if_pos (by omega), if_neg (by omega), if_pos (by omega)]; exact hxy
def DrawnCat (TS : TypeId) (N : Nat) (gS : Nat) (H : GHeap) (v : Value) (H' : GHeap) : Prop := ∃ c p, v = .agg (c.cells p).toArray ∧ c.Rect N ∧ CatR H.next H' c p ∧ St [gS] H H' ∧ DSrc TS H' gS
theorem Keep.mono {b b' : Nat} {H H' : GHeap} (k : Keep b' H H') (h : b' ≤ b) : Keep b H H' := fun g o hb hg => k g o (Nat.le_trans h hb) hg
theorem Keep.trans {b : Nat} {A B C : GHeap} (k : Keep b A B) (k' : Keep b B C) : Keep b A C := fun g o hb hg => k' g o hb (k g o hb hg)
structure KIn (b : Nat) (H : GHeap) (c : Cat) (p : CatP) : Prop where
  all : ∀ H', Keep b H H' → c.In H' p
theorem KIn.inn {b : Nat} {H : GHeap} {c : Cat} {p : CatP} (h : KIn b H c p) : c.In H p := h.all _ (fun _ _ _ x => x)
theorem KIn.keep {b b' : Nat} {H H1 : GHeap} {c : Cat} {p : CatP} (h : KIn b H c p) (k : Keep b' H H1) (hb : b' ≤ b) : KIn b' H1 c p := ⟨fun H' k' => h.all H' ((k.trans k').mono hb)⟩
theorem CatR.kin {b : Nat} {H : GHeap} {c : Cat} {p : CatP} (h : CatR b H c p) : KIn b H c p := ⟨fun _ k => (h.keep k (Nat.le_refl _)).inn⟩
theorem KIn.parts {eI eS : TypeId} {b : Nat} {H : GHeap} {c : Cat} {g1 g2 g3 g4 : Nat} {rr : Nat → Option Addr} (a1 : H.get g1 = some (.row (ints c.src) eI true)) (b1 : b ≤ g1) (a2 : H.get g2 = some (.row (ints c.tgt) eI true)) (b2 : b ≤ g2) (a3 : H.get g3 = some (.row (ints c.idn) eI true)) (b3 : b ≤ g3) (a4 : H.get g4 = some (.row (slsL rr c.comp) eS true)) (b4 : b ≤ g4)
    (hr : ∀ i, i < c.comp.length → ∀ H', Keep b H H' → Ints H' (rr i) (c.comp.getD i [])) : KIn b H c (ownP g1 g2 g3 g4 rr) :=
  ⟨fun H' k => ⟨Ints.of_get (k _ _ b1 a1), Ints.of_get (k _ _ b2 a2), Ints.of_get (k _ _ b3 a3), .inr ⟨g4, 0, rfl, fun i hi => slsL_cell (k _ _ b4 a4) hi⟩, fun i hi => hr i hi H' k⟩⟩
theorem KIn.own {eI eS : TypeId} {b : Nat} {H : GHeap} {c : Cat} {g1 g2 g3 g4 : Nat} {rr : Nat → Option Addr} (a1 : H.get g1 = some (.row (ints c.src) eI true)) (b1 : b ≤ g1) (a2 : H.get g2 = some (.row (ints c.tgt) eI true)) (b2 : b ≤ g2) (a3 : H.get g3 = some (.row (ints c.idn) eI true)) (b3 : b ≤ g3) (a4 : H.get g4 = some (.row (slsL rr c.comp) eS true)) (b4 : b ≤ g4) (hR : OwnL b H eI rr c.comp) : KIn b H c (ownP g1 g2 g3 g4 rr) :=
  .parts a1 b1 a2 b2 a3 b3 a4 b4 fun i hi H' k => by
    obtain ⟨x, h1, h2, h3⟩ := hR.row i hi
    rw [h1]
    exact Ints.of_get (k _ _ h2 h3)
def DrawnK (TS : TypeId) (gS : Nat) (H : GHeap) (v : Value) (H' : GHeap) : Prop := ∃ c p, v = .agg (c.cells p).toArray ∧ c.Small ∧ KIn H.next H' c p ∧ St [gS] H H' ∧ DSrc TS H' gS
theorem getD_set_le {T : List (List Int)} {i N : Nat} {ys : List Int} (h : ∀ j, (T.getD j []).length ≤ N) (hy : ys.length ≤ N) (j : Nat) : ((T.set i ys).getD j []).length ≤ N := by
  rw [List.getD_eq_getElem?_getD, List.getElem?_set]
  by_cases e : i = j
  · subst e
    rw [if_pos rfl]
    split
    · exact hy
    · exact Nat.zero_le _
  · rw [if_neg e, ← List.getD_eq_getElem?_getD]
    exact h j
theorem Ints.tail {H : GHeap} {g : Nat} {xs : List Int} {e : TypeId} {own : Bool} (h : H.get g = some (.row (ints xs) e own)) : Ints H (some ⟨g, 1, none⟩) xs.tail := .inr ⟨g, 1, rfl, fun i hi => by
  rw [List.length_tail] at hi
  rw [GHeap.cell_of h, ints_get (by omega)]
  simp only [List.getD_eq_getElem?_getD, List.getElem?_tail, Nat.add_comm]⟩
theorem bend_set {eI : TypeId} {b gi f : Nat} {H H1 : GHeap} {T : List (List Int)} {rr : Nat → Option Addr} {ys : List Int} (hR : OwnL b H eI rr T) (s : St [gi] H H1) (hf : f < T.length) (hg : rr f = some ⟨gi, 0, none⟩) (hat : H1.get gi = some (.row (ints ys) eI true)) (hl : ys.length = (T.getD f []).length) :
    ∃ T', slsL rr T' = slsL rr T ∧ T'.length = T.length ∧ (∀ j, (T'.getD j []).length = (T.getD j []).length) ∧ OwnL b H1 eI rr T' :=
  ⟨T.set f ys, slsL_lens (by simp) (getD_set_len hl), by simp, getD_set_len hl, hR.setR s hf hg hat⟩
theorem bend_cut {eI : TypeId} {b gi f : Nat} {H : GHeap} {T : List (List Int)} {rr : Nat → Option Addr} (hR : OwnL b H eI rr T) (hf : f < T.length) (hg : rr f = some ⟨gi, 0, none⟩) {n : Nat} (hn : n = (T.getD f []).length - 1) :
    ∃ rr' T', (slsL rr T).set f (.slice (some ⟨gi, 1, none⟩) n n) = slsL rr' T' ∧ T'.length = T.length ∧ (∀ N, (∀ j, (T.getD j []).length ≤ N) → ∀ j, (T'.getD j []).length ≤ N) ∧ ∀ i, i < T'.length → ∀ H', Keep b H H' → Ints H' (rr' i) (T'.getD i []) := by
  refine ⟨upd rr f (some ⟨gi, 1, none⟩), T.set f (T.getD f []).tail, slsL_set hf (by rw [hn, List.length_tail]), by simp, fun N h => getD_set_le h (by rw [List.length_tail]; have := h f; omega), fun i hi H' k => ?_⟩
  rw [List.length_set] at hi
  obtain ⟨x, h1, h2, h3⟩ := hR.row i hi
  rw [getD_set2 hf]
  by_cases e : f = i
  · subst e
    rw [hg] at h1
    cases h1
    rw [upd_eq, if_pos rfl]
    exact Ints.tail (k _ _ h2 h3)
  · rw [upd_ne (Ne.symm e), if_neg e, h1]
    exact Ints.of_get (k _ _ h2 h3)
def NewK (H : GHeap) (v : Value) (H' : GHeap) : Prop := H.Le H' ∧ ∃ c p, v = .agg (Cat.cells c p).toArray ∧ c.Small ∧ KIn H.next H' c p
theorem vrel_place {ρ : Place} {a : Addr} {n : Nat} {c : Value} (h : VRel ρ (.slice (some a) n n) c) : ∃ s, ρ a.block = some s := by
  generalize hv : Value.slice (some a) n n = v at h
  cases h with
  | slice h' _ _ _ => cases hv; exact ⟨_, h'⟩
  | empty h' => cases hv; exact ⟨_, h'⟩
  | _ => cases hv
theorem imp1_code {P : Program} {t : TypeId} (ht : bytesDT P t = true) : Imp1 P t (fun H g => ∃ a xs, g = .slice a xs.length xs.length ∧ Bytes H a xs ∧ xs.length ≤ 9223372036854775807 ∧ ∀ b o t, a = some ⟨b, o, t⟩ → b < H.next) where
  mono h := fun ⟨a, xs, h1, h2, h3, h4⟩ => ⟨a, xs, h1, h2.mono h, h3, fun b o t e => Nat.lt_of_lt_of_le (h4 b o t e) h.1⟩
  imp := by
    intro T enc B w0 ρ H w held base fuel v x hs hB h hv
    obtain ⟨ρ', H', g, h1, h2, h3, h4, a, xs, rfl, h5, h6⟩ := (imp1_bytes ht).imp hs hB h hv
    refine ⟨ρ', H', _, h1, h2, h3, h4, a, xs, rfl, h5, h6, fun b o t e => ?_⟩
    subst e
    refine Nat.lt_of_not_le fun hb => ?_
    obtain ⟨s, hs'⟩ := vrel_place h4
    rw [h1.dom b hb] at hs'
    cases hs'
end Go.GL
namespace Go.GL
noncomputable def Cat.code (c : Cat) (xs : List Int) : Int := if B c.Is = true then (if allIn xs c.src.length = true then 0 else 2) else 1
theorem Cat.code_ok {c : Cat} {xs : List Int} : c.code xs = 0 ↔ c.Is ∧ allIn xs c.src.length = true := by
  unfold Cat.code
  by_cases h : c.Is
  · rw [if_pos (B_iff.2 h)]
    split
    · exact ⟨fun _ => ⟨h, by assumption⟩, fun _ => rfl⟩
    · exact ⟨fun e => by omega, fun e => absurd e.2 (by assumption)⟩
  · rw [if_neg (fun e => h (B_iff.1 e))]
    exact ⟨fun e => by omega, fun e => absurd e.1 h⟩
theorem Cat.code_not {c : Cat} {xs : List Int} (h : ¬ c.Is) : c.code xs = 1 := by
  unfold Cat.code
  rw [if_neg (fun e => h (B_iff.1 e))]
def Cat.ext (c : Cat) (f g : Int) : List Int := (c.hom (c.T g) (c.T f)).filter fun h => decide (c.th g h = f)
end Go.GL
namespace Go.Proofs.Ytfanjkbaemhbmaa
open Go Go.GL Go.RowKit Go.Proofs
theorem sl_22_Fa : sliceT Try.prog 22 = some (5, 1) := by kernel_rfl
theorem big_c {a : Option Addr} {xs : List Int} {H : GHeap} : GCalls Try.prog 6 [.slice a xs.length xs.length] H (Ret (.bool (decide (4096 < (xs.length : Int)))) H) := by
  refine GCalls.body (N := 6) (rs := [.tmp 2]) Try.func6 rfl rfl rfl rfl (fun Qx b hend => ?_)
  refine .fg [0] rfl ?_
  refine .seq (fun K1 c => .region (.mv rfl (.nil (c _ _ (.seq (fun K2 d => .region (.mv rfl (.q rfl (.len sl_22_Fa rfl) (.q rfl (.cmp rfl rfl rfl) (.mv rfl (.nil (d _ _ ?_))))))))))))
  refine .ret ?_
  refine b _ _ ?_
  refine ⟨_, rfl, ?_⟩
  exact .mk
end Go.Proofs.Ytfanjkbaemhbmaa
namespace Go.Proofs.Ytfanjkbaemhbmaa
open Go Go.GL Go.RowKit Go.Proofs
end Go.Proofs.Ytfanjkbaemhbmaa
namespace Go.Proofs.Ytfanjkbaemhbmaa
open Go Go.GL Go.RowKit Go.Proofs
theorem l02Unit_c {c : Cat} {p : CatP} {f : Int} {H : GHeap} (hin : c.In H p := by assumption) (hS : c.Shape := by assumption) (h0 : 0 ≤ f := by omega) (h1 : f < c.src.length := by omega) :
    GCalls Try.prog 75 [.agg (c.cells p).toArray, .int .i64 f] H (Ret (.bool (decide (c.idn.getD (c.src.getD f.toNat 0).toNat 0 = f))) H) := by
  refine GCalls.ret rfl ?_
  refine GCalls.body (N := 16) (rs := [.tmp 4]) Try.func75 rfl rfl rfl rfl (fun Qx e hend => ?_)
  refine .fg [0, 1] rfl ?_
  have d := GHeap.Le.refl H
  have a := hin
  have q4 := hS.src f.toNat (by omega)
  have q3 := hS.il
  refine .seq (fun K1 j => .region ?_)
  refine .R rfl (.boxR rfl sz_27_D rfl) ?_
  rintro _ H2 ⟨g2, rfl, h, ge2, b⟩
  have nx_H2 := h.1
  replace d := d.trans h
  have lt_at2 := GHeap.ltg b
  replace hin := a.mono d
  have g : Cat.At _ g2 0 c p := ⟨Mem.of_get b, hin⟩
  obtain ⟨c02, c12, c22, c32, c42, i12, i22, i32, i42⟩ := g.get
  have hm2 : MemN _ _ _ _ _ := ⟨rfl, g.1⟩
  have hi2 := g.2
  refine .mv rfl (.nil (j _ _ (.seq (fun K2 i => ?_))))
  refine .regionD mo_B (.q 0 (.q 1 (.q 2 (.q 3 (.q 4 (.q 5 (.q 6 (.q 7 (.q 8 (.q 9 (.q 10 (.q 11 (.done))))))))))))) (by kernel_rfl) ?_
  refine .q rfl (.fieldAddr fo_27_3_B rfl) ?_
  refine .q rfl (.load on_24_B rfl (by first | assumption | exact Mem.of_get b 3 _ rfl)) ?_
  refine .q rfl (.fieldAddr fo_27_1_B rfl) ?_
  refine .q rfl (.load on_24_B rfl (by first | assumption | exact Mem.of_get b 1 _ rfl)) ?_
  refine .mv rfl rfl ?_
  refine .q rfl (.idx1 sl_24_A (by assumption) rfl rfl (by omega) (by omega)) ?_
  refine .q rfl (.loadI on_2_A (by assumption) rfl (by omega)) ?_
  refine .q rfl (.idx1 sl_24_A (by assumption) rfl rfl (by omega) (by omega)) ?_
  refine .q rfl (.loadI on_2_A (by assumption) rfl (by omega)) ?_
  refine .mv rfl rfl (.q rfl (.cmp rfl rfl rfl) (.mv rfl rfl ?_))
  refine .done ?_
  refine i _ _ ?_
  refine .ret ?_
  refine e _ _ ?_
  refine ⟨_, rfl, ?_⟩
  exact ⟨congrArg _ (by rw [Bool.eq_iff_iff]; simp), d⟩
end Go.Proofs.Ytfanjkbaemhbmaa
namespace Go.Proofs.Ytfanjkbaemhbmaa
open Go Go.GL Go.RowKit Go.Proofs
end Go.Proofs.Ytfanjkbaemhbmaa
namespace Go.Proofs.Ytfanjkbaemhbmaa
open Go Go.GL Go.RowKit Go.Proofs
end Go.Proofs.Ytfanjkbaemhbmaa
namespace Go.Proofs.Ytfanjkbaemhbmaa
open Go Go.GL Go.RowKit Go.Proofs
end Go.Proofs.Ytfanjkbaemhbmaa
namespace Go.Proofs.Ytfanjkbaemhbmaa
open Go Go.GL Go.RowKit Go.Proofs
end Go.Proofs.Ytfanjkbaemhbmaa
namespace Go.Proofs.Ytfanjkbaemhbmaa
open Go Go.GL Go.RowKit Go.Proofs
theorem ze_2_Pa : zeroT Try.prog 2 = some ([.int .i64 0], 1) := by kernel_rfl
theorem by_2_Pa : (Try.prog.info? 2).map (·.bytes) = some 8 := by kernel_rfl
theorem l01Own_c {a : Option Addr} {xs : List Int} {H : GHeap} (h : Ints H a xs := by assumption) (hl : xs.length ≤ 1048576 := by omega) :
    GCalls Try.prog 108 [.slice a xs.length xs.length] H (NewInts 2 H xs) := by
  refine GCalls.body (N := 6) (rs := [.tmp 2]) Try.func108 rfl rfl rfl rfl (fun Qx e hend => ?_)
  refine .fg [0] rfl ?_
  have c := GHeap.Le.refl H
  have b := h
  refine .seq (fun K1 l => .region (.mv rfl (.nil (l _ _ (.seq (fun K2 g => .region ?_))))))
  refine .R rfl (.litA rfl sl_24_A ze_2_Pa rfl rfl rfl rfl) ?_
  rintro _ H3 ⟨g3, rfl, f, ge3, d⟩
  replace c := c.trans f
  have lt_at3 := GHeap.ltg d
  replace h := b.mono c
  replace d : GHeap.get H3 g3 = some (.row (ints []) 2 true) := d
  refine .mv rfl ?_
  refine .R rfl (.appendL rfl sl_24_A ze_2_Pa rfl by_2_Pa sl_24_A rfl rfl (by assumption) (by first | assumption | exact Ints.of_get (by assumption)) (by first | omega | (simp <;> omega)) (by omega) (by omega)) ?_
  rintro _ H5 ⟨g5, rfl, i, ge5, j⟩
  replace c := c.st i (fun k hk => ⟨by omega, trivial⟩)
  refine .mv rfl (.nil (g _ _ ?_))
  refine .ret ?_
  refine e _ _ ?_
  refine ⟨_, rfl, ?_⟩
  exact ⟨c, _, by rw [Nat.zero_add], by simpa using j, by omega⟩
theorem clone_c {a : Option Addr} {xs : List Int} {H : GHeap} (h : Ints H a xs := by assumption) (hl : xs.length ≤ 1048576 := by omega) :
    GCalls Try.prog 77 [.slice a xs.length xs.length] H (NewInts 2 H xs) := by
  refine GCalls.body (N := 6) (rs := [.tmp 2]) Try.func77 rfl rfl rfl rfl (fun Qx e hend => ?_)
  refine .fg [0] rfl ?_
  have c := GHeap.Le.refl H
  have b := h
  refine .seq (fun K1 l => .region (.mv rfl (.nil (l _ _ (.seq (fun K2 g => .region ?_))))))
  refine .R rfl (.litA rfl sl_24_A ze_2_Pa rfl rfl rfl rfl) ?_
  rintro _ H3 ⟨g3, rfl, f, ge3, d⟩
  replace c := c.trans f
  have lt_at3 := GHeap.ltg d
  replace h := b.mono c
  replace d : GHeap.get H3 g3 = some (.row (ints []) 2 true) := d
  refine .mv rfl ?_
  refine .R rfl (.appendL rfl sl_24_A ze_2_Pa rfl by_2_Pa sl_24_A rfl rfl (by assumption) (by first | assumption | exact Ints.of_get (by assumption)) (by first | omega | (simp <;> omega)) (by omega) (by omega)) ?_
  rintro _ H5 ⟨g5, rfl, i, ge5, j⟩
  replace c := c.st i (fun k hk => ⟨by omega, trivial⟩)
  refine .mv rfl (.nil (g _ _ ?_))
  refine .ret ?_
  refine e _ _ ?_
  refine ⟨_, rfl, ?_⟩
  exact ⟨c, _, by rw [Nat.zero_add], by simpa using j, by omega⟩
end Go.Proofs.Ytfanjkbaemhbmaa
namespace Go.GL
structure Cans (xs : List Int) (n : Nat) (X : Int → Nat → Int) : Prop where
  all : ∀ i j, i < j → j < xs.length → ∃ w, w < n ∧ X (xs.getD i 0) w ≠ X (xs.getD j 0) w
structure Cat.Jm (c : Cat) (x : Int) (fs : List Int) : Prop where
  all : ∀ g h : Nat, g < c.src.length → h < c.src.length → c.src.getD g 0 = c.src.getD h 0 → c.tgt.getD g 0 = x → c.tgt.getD h 0 = x → (∀ w, w < fs.length → c.th g (fs.getD w 0) = c.th h (fs.getD w 0)) → g = h
structure Cat.Je (c : Cat) (x : Int) (fs : List Int) : Prop where
  all : ∀ g h : Nat, g < c.src.length → h < c.src.length → c.tgt.getD g 0 = c.tgt.getD h 0 → c.src.getD g 0 = x → c.src.getD h 0 = x → (∀ w, w < fs.length → c.th (fs.getD w 0) g = c.th (fs.getD w 0) h) → g = h
structure Cat.Mono (c : Cat) (f : Int) : Prop where
  all : ∀ g h : Nat, g < c.src.length → h < c.src.length → c.src.getD g 0 = c.src.getD h 0 → c.tgt.getD g 0 = c.S f → c.tgt.getD h 0 = c.S f → c.th g f = c.th h f → g = h
structure Cat.Epi (c : Cat) (f : Int) : Prop where
  all : ∀ g h : Nat, g < c.src.length → h < c.src.length → c.tgt.getD g 0 = c.tgt.getD h 0 → c.src.getD g 0 = c.T f → c.src.getD h 0 = c.T f → c.th f g = c.th f h → g = h
theorem Cat.op_tab {c : Cat} (hS : c.Shape) : tabL c.tgt c.src (fun i j => (c.comp.getD j []).getD i 0) c.src.length = c.opTab c.src.length := by
  unfold tabL rowsOf Cat.opTab
  apply List.ext_getElem (by simp)
  intro i h1 h2
  simp only [List.length_map, List.length_range] at h1
  simp only [List.getElem_map, List.getElem_range]
  unfold tabR Cat.opRow
  apply List.ext_getElem (by simp)
  intro j k1 k2
  simp only [List.length_map, List.length_range] at k1
  simp only [List.getElem_map, List.getElem_range]
  by_cases e : c.src.getD i 0 = c.tgt.getD j 0
  · rw [tabC_T e]
  · rw [tabC_F e]
    exact ((Cat.Cell.neg (fun e' => e e'.symm)).1 (hS.cell j (by have := hS.cl; omega) i h1)).symm
theorem Cat.op_get {c : Cat} {f g : Nat} (hf : f < c.src.length) (hg : g < c.src.length) : (c.op.comp.getD f []).getD g 0 = (c.comp.getD g []).getD f 0 := by
  show ((c.opTab c.src.length).getD f []).getD g 0 = _
  rw [Cat.opTab_get hf, Cat.opRow_get hg]
theorem Cat.Shape.op {c : Cat} (h : c.Shape) : c.op.Shape := by
  have tl := h.tl
  have cl := h.cl
  refine ⟨h.obj, by show c.tgt.length ≤ 40; have := h.n40; omega, tl.symm, h.tgt, h.src, h.il, fun i hi => by have := h.idn i hi; show 0 ≤ c.idn.getD i 0 ∧ c.idn.getD i 0 < (c.tgt.length : Int); omega, by show (c.opTab c.src.length).length = c.tgt.length; rw [Cat.length_opTab]; omega, fun x hx => (h.ids x hx).symm, fun f hf => ?_, fun f hf g hg => ?_⟩
  · have hf' : f < c.src.length := by simpa [Cat.op] using hf
    show ((c.opTab c.src.length).getD f []).length = c.tgt.length
    rw [Cat.opTab_get hf', Cat.length_opRow]; omega
  · have hf' : f < c.src.length := by simpa [Cat.op] using hf
    have hg' : g < c.src.length := by have : g < c.tgt.length := hg; omega
    have hc := h.cell g (by omega) f hf'
    have e0 := Cat.op_get hf' hg'
    by_cases e : c.tgt.getD g 0 = c.src.getD f 0
    · have q := (Cat.Cell.pos e).1 hc
      refine (Cat.Cell.pos (c := c.op) e.symm).2 ?_
      rw [e0]
      exact ⟨q.1, by show _ < (c.tgt.length : Int); omega, q.2.2.2, q.2.2.1⟩
    · refine (Cat.Cell.neg (c := c.op) (fun e' => e e'.symm)).2 ?_
      rw [e0]
      exact (Cat.Cell.neg e).1 hc
theorem Cat.op_th {c : Cat} {f g : Nat} (hf : f < c.src.length) (hg : g < c.src.length) : c.op.th f g = c.th g f := by
  rw [Cat.th_nat, Cat.th_nat]; exact Cat.op_get hf hg
theorem Cat.Is.op {c : Cat} (h : c.Is) : c.op.Is := by
  have hS := h.1
  have tl := hS.tl
  refine ⟨hS.op, fun f hf => ?_, fun f hf g hg e k hk e' => ?_⟩
  · have hf' : f < c.src.length := by have : f < c.tgt.length := hf; omega
    have hid := h.2.ids f hf'
    have s1 := hS.src f hf'
    have t1 := hS.tgt f (by omega)
    have i1 := hS.idn_lt s1.1 s1.2
    have i2 := hS.idn_lt t1.1 t1.2
    constructor
    · have := Cat.op_th (c := c) (f := (c.idn.getD (c.tgt.getD f 0).toNat 0).toNat) (g := f) (by omega) hf'
      rw [Int.toNat_of_nonneg i2.1] at this
      exact this.trans hid.2
    · have := Cat.op_th (c := c) (g := (c.idn.getD (c.src.getD f 0).toNat 0).toNat) (f := f) hf' (by omega)
      rw [Int.toNat_of_nonneg i1.1] at this
      exact this.trans hid.1
  · have hf' : f < c.src.length := by have : f < c.tgt.length := hf; omega
    have hg' : g < c.src.length := by have : g < c.tgt.length := hg; omega
    have hk' : k < c.src.length := by have : k < c.tgt.length := hk; omega
    have e1 : c.tgt.getD g 0 = c.src.getD f 0 := e.symm
    have e2 : c.tgt.getD k 0 = c.src.getD g 0 := e'.symm
    obtain ⟨p1, p2, p3, p4⟩ := hS.tn hg' hf' e1
    obtain ⟨q1, q2, q3, q4⟩ := hS.tn hk' hg' e2
    rw [Cat.op_th hf' hg', Cat.op_th hg' hk']
    have a1 : c.th (g : Int) f = (c.tn g f : Int) := by rw [Cat.th_nat]; exact p4
    have a2 : c.th (k : Int) g = (c.tn k g : Int) := by rw [Cat.th_nat]; exact q4
    rw [a1, a2, Cat.op_th p1 hk', Cat.op_th hf' q1, ← a1, ← a2]
    exact (h.2.as k hk' g hg' e2 f hf' e1).symm
theorem Cat.code_nil {c : Cat} : c.code [] = 0 ↔ c.Is := by
  rw [Cat.code_ok]
  exact ⟨fun h => h.1, fun h => ⟨h, allIn_iff.2 fun i hi => by simp at hi⟩⟩
theorem Cat.code_nil1 {c : Cat} (h : ¬ c.Is) : c.code [] = 1 := Cat.code_not h
noncomputable def Cat.opR (c : Cat) : Cat := if B c.Is = true then c.op else Cat.zero
theorem Cat.op_ok {c : Cat} (h : c.Is) : c.opR = c.op := by unfold Cat.opR; rw [if_pos (B_iff.2 h)]
theorem Cat.op_not {c : Cat} (h : ¬ c.Is) : c.opR = Cat.zero := by unfold Cat.opR; rw [if_neg (fun e => h (B_iff.1 e))]
def NewCR (k : Int) (c : Cat) (H : GHeap) (v : Value) (H' : GHeap) : Prop := H.Le H' ∧ ∃ p, v = .tuple #[.agg (c.cells p).toArray, .int .i64 k] ∧ CatR H.next H' c p
theorem Cat.Shape.small {c : Cat} (h : c.Shape) : c.Small := by
  have h1 := h.n40
  have h2 := h.tl
  have h3 := h.cl
  have h4 := h.il
  have h5 := h.obj
  refine ⟨by omega, by omega, by omega, by omega, fun i => ?_, by omega, by omega⟩
  by_cases hi : i < c.comp.length
  · have := h.row i hi; omega
  · rw [List.getD_eq_getElem?_getD, List.getElem?_eq_none (by omega)]; simp
theorem Cat.zero_small : Cat.zero.Small := by
  refine ⟨by simp [Cat.zero], by simp [Cat.zero], by simp [Cat.zero], by simp [Cat.zero], fun i => by simp [Cat.zero], by simp [Cat.zero], by simp [Cat.zero]⟩
theorem Cat.opR_small (c : Cat) : c.opR.Small := by
  by_cases h : c.Is
  · rw [Cat.op_ok h]; exact h.1.op.small
  · rw [Cat.op_not h]; exact Cat.zero_small
end Go.GL
namespace Go.Proofs.Ytfanjkbaemhbmaa
open Go Go.GL Go.RowKit Go.Proofs
end Go.Proofs.Ytfanjkbaemhbmaa
namespace Go.Proofs.Ytfanjkbaemhbmaa
open Go Go.GL Go.RowKit Go.Proofs
theorem ze_24_Tb : zeroT Try.prog 24 = some ([.slice none 0 0], 1) := by kernel_rfl
theorem by_24_Tb : (Try.prog.info? 24).map (·.bytes) = some 24 := by kernel_rfl
theorem sz_25_Tb : (Try.prog.info? 25).map (·.size) = some 1 := by kernel_rfl
theorem ze_2_Tb : zeroT Try.prog 2 = some ([.int .i64 0], 1) := by kernel_rfl
theorem by_2_Tb : (Try.prog.info? 2).map (·.bytes) = some 8 := by kernel_rfl
theorem sz_24_Tb : (Try.prog.info? 24).map (·.size) = some 1 := by kernel_rfl
theorem sz_2_Tb : (Try.prog.info? 2).map (·.size) = some 1 := by kernel_rfl
theorem arrowsN_c {g : Nat} {ob : Int} {a1 a2 : Option Addr} {n : Nat} {v3 v4 : Value} {rest : List Value} {T : TypeId} {H : GHeap} (hg : H.get g = some (.row (.int .i64 ob :: .slice a1 n n :: .slice a2 n n :: v3 :: v4 :: rest) T true)) :
    GCalls Try.prog 67 [.pointer (some ⟨g, 0, none⟩)] H (Ret (.int .i64 (n : Int)) H) := by
  refine GCalls.body (N := 8) (rs := [.tmp 2]) Try.func67 rfl rfl rfl rfl (fun Qx a hend => ?_)
  refine .fg [0] rfl ?_
  have hle := GHeap.Le.refl H
  have lt_hg := GHeap.ltg hg
  refine .seq (fun K1 c => .region (.mv rfl (.nil (c _ _ (.seq (fun K2 b => .region (.mv rfl (.q rfl (.nilCheck rfl) (.q rfl (.fieldAddr fo_27_1_B rfl) ?_)))))))))
  refine .q rfl (.load on_24_B rfl (by first | assumption | exact Mem.of_get hg 1 _ rfl)) ?_
  refine .q rfl (.len sl_24_A rfl) (.mv rfl (.nil (b _ _ ?_)))
  refine .ret ?_
  refine a _ _ ?_
  refine ⟨_, rfl, ?_⟩
  exact .mk
set_option maxHeartbeats 4000000 in
theorem tableG_c {g n fn : Nat} {ob : Int} {a1 a2 : Option Addr} {v3 v4 : Value} {rest : List Value} {T : TypeId} {src tgt : List Int} {cap : Array Value} {X : Nat → Nat → Int} {H : GHeap} (hg : H.get g = some (.row (.int .i64 ob :: .slice a1 n n :: .slice a2 n n :: v3 :: v4 :: rest) T true)) (h1 : src.length = n) (h2 : tgt.length = n) (hn : n ≤ 1048576)
    (k1 : ∀ H', St [g] H H' → Ints H' a1 src) (k2 : ∀ H', St [g] H H' → Ints H' a2 tgt)
    (hcall : ∀ (xs : Array Value) (w : World), (callFunc fn xs).run Try.prog w = .ok (.enter fn xs) w)
    (hq : ∀ H' v, St [g] H H' → H'.get g = some (.row (.int .i64 ob :: .slice a1 n n :: .slice a2 n n :: v3 :: v :: rest) T true) → ∀ i j : Nat, i < n → j < n → tgt.getD i 0 = src.getD j 0 → GCalls Try.prog fn ([.int .i64 (i : Int), .int .i64 (j : Int)] ++ cap.toList) H' (fun v H'' => H'.Le H'' ∧ v = .int .i64 (X i j))) :
    GCalls Try.prog 44 [.pointer (some ⟨g, 0, none⟩), .func (.func fn) #[] cap] H (fun _ H' => St [g] H H' ∧ ∃ gC r, H'.get g = some (.row (.int .i64 ob :: .slice a1 n n :: .slice a2 n n :: v3 :: .slice (some ⟨gC, 0, none⟩) n n :: rest) T true) ∧ H.next ≤ gC ∧
      IntssR H.next H' (some ⟨gC, 0, none⟩) (tabL src tgt X n) r ∧ ∀ i, i < n → ∀ x, r i = some ⟨x, 0, none⟩ → H.next ≤ x) := by
  refine GCalls.body (N := 80) (rs := []) Try.func44 rfl rfl rfl rfl (fun Qx hret c2 => ?_)
  refine .fg [0, 1] rfl ?_
  have lt_hg := GHeap.ltg hg
  have t := St.refl [g] H
  refine .seq (fun K1 d8 => .region (.mv rfl ?_))
  refine .callQ rfl rfl rfl rfl @Try.call67 rfl (arrowsN_c (by assumption)) ?_
  refine .mv rfl (.nil (d8 _ _ (.seq (fun K2 d5 => .region (.mv rfl (.mv rfl ?_))))))
  refine .R rfl (.makeV rfl sl_25_B ze_24_Tb by_24_Tb rfl rfl rfl (by omega) (by omega) (by omega) (by omega)) ?_
  rintro _ H11 ⟨b2, rfl, b7, ge11, a9⟩
  replace t := t.le b7
  replace hg := b7.2 _ _ hg
  refine .q rfl (.nilCheck rfl) (.q rfl (.fieldAddr fo_27_4_B rfl) ?_)
  simp only [Int.toNat_natCast] at a9
  refine .r0 rfl rfl (.storeR rfl sz_25_Tb rfl rfl rfl (by assumption) (by first | exact Nat.le_of_ble_eq_true rfl | (simp; done) | (simp <;> omega))) ?_
  rintro _ b3 ⟨rfl, a5, b⟩
  replace t := t.sA a5
  have l : NE b2 g := .a
  replace a9 := a5.s a9 l.ne
  have lt_at1005 := GHeap.ltg b
  try simp only [Nat.zero_add, List.set_cons_succ, List.set_cons_zero] at b
  simp only [Int.toNat_natCast] at b
  refine .nil (d5 _ _ (.seq (fun K3 d7 => .region (.mv rfl (.q rfl (.nilCheck rfl) (.q rfl (.fieldAddr fo_27_4_B rfl) ?_))))))
  refine .q rfl (.load on_25_B rfl (by first | assumption | exact Mem.of_get b 4 _ rfl)) ?_
  refine .q rfl (.len sl_25_B rfl) (.mv rfl (.nil (d7 _ _ ?_)))
  refine .block ?_
  refine .loopR (σ := Nat × (Nat → Option Addr)) [(0, some _), (1, some _), (4, some _), (18, some _)] (fun (k, rr) => [(19, some (.int .i64 (k : Int)))]) (fun (k, rr) H' => St [b2] b3 H' ∧ H'.get b2 = some (.row ((fillS rr n k)) 24 true) ∧ k ≤ n ∧ OwnRows H.next H' 2 rr (tabR src tgt X n) k) (fun (k, rr) => n - k) ((0, fun _ => none)) ⟨rfl, rfl, rfl, rfl, trivial⟩ ⟨rfl, trivial⟩ ?_ ?_
  ·
   refine ⟨.refl _ _, by first | assumption | (rw [fillS_zero]; simpa using a9), ?_⟩
   exact ⟨by omega, .zero _ _ _ _ _⟩
  rintro ⟨k, rr⟩ HL1 ⟨u, e, hI⟩ KL1 c7
  refine .forget (fr' := [(19, some (.int .i64 (k : Int))), (0, some _), (1, some _), (4, some _), (18, some _)]) ⟨rfl, rfl, rfl, rfl, rfl, trivial⟩ ?_
  have nx_HL1 := u.nx
  replace t := t.sA u
  replace b := u.s b (Ne.symm l.ne)
  have lt_at_Lg11 := GHeap.ltg e
  have i1 := k1 _ t
  have i2 := k2 _ t
  have j1 := i1.slN h1
  have j2 := i2.slN h2
  have rk := St.refl [b2] HL1
  obtain ⟨hk, hR⟩ := hI
  have hatC := e
  refine .seq (fun K4 d2 => .region (.q rfl (.cmp rfl rfl rfl) (.nil (d2 _ _ (.seq (fun K5 d4 => ?_))))))
  refine .cond rfl (fun c5 => ?_) (fun c5 => ?_)
  ·
   simp only [sps] at c5
   refine .skip ?_
   refine d4 _ _ (.seq (fun K6 d3 => ?_))
   refine .block ?_
   refine .seq (fun K7 d1 => .region (.mv rfl (.mv rfl (.nil (d1 _ _ (.seq (fun K8 d0 => ?_)))))))
   refine .regionD mo_B (.q 0 (.q 1 (.q 2 (.q 3 (.q 4 (.q 5 (.c 6 1 (.q 7 (.c 8 0 (.done)))))))))) (by kernel_rfl) ?_
   refine .mv rfl rfl (.q rfl (.nilCheck rfl) (.q rfl (.fieldAddr fo_27_4_B rfl) ?_))
   refine .q rfl (.load on_25_B rfl (by first | assumption | exact Mem.of_get b 4 _ rfl)) ?_
   refine .mv rfl rfl (.mv rfl rfl ?_)
   refine .c1 rfl rfl rfl rfl (.makeI rfl sl_24_A ze_2_Tb by_2_Tb rfl rfl (by omega) (by omega) (by omega) (by omega)) ?_
   rintro _ H28 ⟨b8, rfl, a4, ge28, a8⟩
   have b4 := a4
   refine ⟨b4, ?_⟩
   replace t := t.le a4
   replace u := u.le a4
   replace rk := rk.le a4
   replace b := a4.2 _ _ b
   replace e := a4.2 _ _ e
   clear i1 i2 j1 j2
   refine .m rfl rfl rfl rfl b4 (.idxN sl_25_B (by first | exact (Intss.sl (by assumption)) | exact SlA.of_row e (by first | rfl | (simp; done) | (simp <;> omega))) rfl rfl (by omega)) ?_
   refine .r0 rfl rfl rfl (.storeR rfl sz_24_Tb rfl rfl rfl (by assumption) (by first | exact Nat.le_of_ble_eq_true rfl | (simp; done) | (simp <;> omega))) ?_
   rintro _ b6 ⟨rfl, o, d⟩
   replace t := t.sA o
   replace u := u.sA o
   replace rk := rk.sA o
   replace b := o.s b (Ne.symm l.ne)
   have f : NE b8 b2 := .a
   replace a8 := o.s a8 f.ne
   simp only [Int.toNat_natCast, Nat.zero_add] at d a8
   rw [fillS_set (by omega)] at d
   have cC := fillS_cell (i := k) d (by omega) (by omega)
   refine .done ?_
   refine d0 _ _ (.seq (fun K9 d6 => .region (.mv rfl (.q rfl (.nilCheck rfl) (.q rfl (.fieldAddr fo_27_4_B rfl) ?_)))))
   refine .q rfl (.load on_25_B rfl (by first | assumption | exact Mem.of_get b 4 _ rfl)) ?_
   refine .mv rfl ?_
   refine .q rfl (.idxN sl_25_B (by first | exact (Intss.sl (by assumption)) | exact SlA.of_row d (by first | rfl | (simp; done) | (simp <;> omega))) rfl rfl (by omega)) ?_
   refine .q rfl (.load on_24_B rfl (by rw [upd_eq] at cC; exact cC)) ?_
   refine .q rfl (.len sl_24_A rfl) (.mv rfl (.nil (d6 _ _ ?_)))
   refine .block ?_
   refine .loopR (σ := Nat) [(0, some _), (1, some _), (4, some _), (5, some _), (18, some _), (19, some _), (37, some _)] (fun j => [(38, some (.int .i64 (j : Int)))]) (fun j H' => St [b8] b6 H' ∧ H'.get b8 = some (.row (ints (fillI (tabC src tgt X k) n j)) 2 true) ∧ j ≤ n) (fun j => n - j) (0) ⟨rfl, rfl, rfl, rfl, rfl, rfl, rfl, trivial⟩ ⟨rfl, trivial⟩ ?_ ?_
   ·
    refine ⟨.refl _ _, by (rw [fillI_zero]; simpa using a8), ?_⟩
    omega
   rintro j HL2 ⟨h, a6, hI⟩ KL2 b9
   refine .forget (fr' := [(38, some (.int .i64 (j : Int))), (0, some _), (1, some _), (4, some _), (5, some _), (18, some _), (19, some _), (37, some _)]) ⟨rfl, rfl, rfl, rfl, rfl, rfl, rfl, rfl, trivial⟩ ?_
   replace t := t.sA h
   replace u := u.sA h
   replace rk := rk.sA h
   have a0 : NE g b8 := .a
   replace b := h.s b a0.ne
   replace d := h.s d (Ne.symm f.ne)
   have i1 := k1 _ t
   have i2 := k2 _ t
   have j1 := i1.slN h1
   have j2 := i2.slN h2
   clear cC
   have cC := fillS_cell (i := k) d (by omega) (by omega)
   refine .seq (fun K10 c6 => .region (.q rfl (.cmp rfl rfl rfl) (.nil (c6 _ _ (.seq (fun K11 c3 => ?_))))))
   refine .cond rfl (fun c8 => ?_) (fun c8 => ?_)
   ·
    simp only [sps] at c8
    refine .skip ?_
    refine c3 _ _ (.seq (fun K12 b5 => ?_))
    refine .block ?_
    refine .seq (fun K13 c4 => .region (.mv rfl (.mv rfl (.nil (c4 _ _ (.seq (fun K14 c9 => .region (.mv rfl (.q rfl (.nilCheck rfl) (.q rfl (.fieldAddr fo_27_4_B rfl) ?_))))))))))
    refine .q rfl (.load on_25_B rfl (by first | assumption | exact Mem.of_get b 4 _ rfl)) ?_
    refine .mv rfl ?_
    refine .q rfl (.idxN sl_25_B (by first | exact (Intss.sl (by assumption)) | exact SlA.of_row d (by first | rfl | (simp; done) | (simp <;> omega))) rfl rfl (by omega)) ?_
    refine .q rfl (.load on_24_B rfl (by rw [upd_eq] at cC; exact cC)) ?_
    refine .mv rfl ?_
    refine .q rfl (.idxN sl_24_A (by first | assumption | exact SlA.of_row a6 (by first | rfl | (simp; done) | (simp <;> omega))) rfl rfl (by omega)) ?_
    refine .r0 rfl rfl (.storeI rfl sz_2_Tb rfl rfl (by assumption) (by first | omega | (simp <;> omega))) ?_
    rintro _ H9009 ⟨rfl, z, p⟩
    replace t := t.sA z
    replace h := h.sA z
    replace b := z.s b a0.ne
    replace d := z.s d (Ne.symm f.ne)
    clear i1 i2 j1 j2
    have i1 := k1 _ t
    have i2 := k2 _ t
    have j1 := i1.slN h1
    have j2 := i2.slN h2
    clear cC
    have cC := fillS_cell (i := k) d (by omega) (by omega)
    refine .nil (c9 _ _ (.seq (fun K15 c0 => ?_)))
    refine .regionD mo_B (.q 0 (.q 1 (.q 2 (.q 3 (.q 4 (.q 5 (.q 6 (.q 7 (.q 8 (.q 9 (.q 10 (.q 11 (.q 12 (.q 13 (.q 14 (.done)))))))))))))))) (by kernel_rfl) ?_
    refine .mv rfl rfl (.q rfl (.nilCheck rfl) (.q rfl (.fieldAddr fo_27_2_B rfl) ?_))
    refine .q rfl (.load on_24_B rfl (by first | assumption | exact Mem.of_get b 2 _ rfl)) ?_
    refine .mv rfl rfl ?_
    refine .q rfl (.idxN sl_24_A (by assumption) rfl rfl (by omega)) ?_
    refine .q rfl (.loadI on_2_A (by assumption) rfl (by omega)) ?_
    refine .mv rfl rfl (.q rfl (.nilCheck rfl) (.q rfl (.fieldAddr fo_27_1_B rfl) ?_))
    refine .q rfl (.load on_24_B rfl (by first | assumption | exact Mem.of_get b 1 _ rfl)) ?_
    refine .mv rfl rfl ?_
    refine .q rfl (.idxN sl_24_A (by assumption) rfl rfl (by omega)) ?_
    refine .q rfl (.loadI on_2_A (by assumption) rfl (by omega)) ?_
    refine .q rfl (.cmp rfl rfl rfl) ?_
    refine .done ?_
    refine c0 _ _ ?_
    refine .cond rfl (fun b0 => ?_) (fun b0 => ?_)
    ·
     simp only [sps] at b0
     refine .regionD mo_B (.q 0 (.q 1 (.q 2 (.q 3 (.q 4 (.q 5 (.q 6 (.q 7 (.q 8 (.q 9 (.q 10 (.c 11 1 (.q 12 (.c 13 0 (.done))))))))))))))) (by kernel_rfl) ?_
     refine .mv rfl rfl (.q rfl (.nilCheck rfl) (.q rfl (.fieldAddr fo_27_4_B rfl) ?_))
     refine .q rfl (.load on_25_B rfl (by first | assumption | exact Mem.of_get b 4 _ rfl)) ?_
     refine .mv rfl rfl ?_
     refine .q rfl (.idxN sl_25_B (by first | exact (Intss.sl (by assumption)) | exact SlA.of_row d (by first | rfl | (simp; done) | (simp <;> omega))) rfl rfl (by omega)) ?_
     refine .q rfl (.load on_24_B rfl (by rw [upd_eq] at cC; exact cC)) ?_
     refine .mv rfl rfl (.mv rfl rfl (.mv rfl rfl (.mv rfl rfl ?_)))
     refine .callV1 rfl rfl rfl rfl rfl rfl hcall rfl ((hq _ _ t b k j (by omega) (by omega) b0)) ?_
     rintro _ H76 ⟨b1, rfl⟩
     have b4 := b1
     refine ⟨b4, ?_⟩
     replace h := h.le b1
     replace p := b1.2 _ _ p
     clear i1 i2 j1 j2
     clear cC
     refine .m rfl rfl rfl rfl b4 (.idxN sl_24_A (by first | assumption | exact SlA.of_row p (by first | rfl | (simp; done) | (simp <;> omega))) rfl rfl (by omega)) ?_
     refine .r0 rfl rfl rfl (.storeI rfl sz_2_Tb rfl rfl (by assumption) (by first | omega | (simp <;> omega))) ?_
     rintro _ H11013 ⟨rfl, a7, a3⟩
     replace h := h.sA a7
     refine .done ?_
     refine b5 _ _ (.region ?_)
     refine .q rfl (.add rfl rfl rfl (by omega) (by omega)) ?_
     refine .mv rfl (.nil ?_)
     refine b9 (j + 1) _ _ ?_ ?_ ⟨rfl, rfl, rfl, rfl, rfl, rfl, rfl, rfl, trivial⟩
     ·
      refine ⟨h, by first | assumption | (rw [← fillI_set (by omega) (tabC_F b0).symm]; simpa using p) | (rw [← fillI_set (by omega) (tabC_T b0).symm, ← List.set_set (-1)]; simpa using a3), ?_⟩
      omega
     omega
    simp only [sps] at b0
    refine .skip ?_
    refine b5 _ _ (.region ?_)
    refine .q rfl (.add rfl rfl rfl (by omega) (by omega)) ?_
    refine .mv rfl (.nil ?_)
    refine b9 (j + 1) _ _ ?_ ?_ ⟨rfl, rfl, rfl, rfl, rfl, rfl, rfl, rfl, trivial⟩
    ·
     refine ⟨h, by first | assumption | (rw [← fillI_set (by omega) (tabC_F b0).symm]; simpa using p) | (rw [← fillI_set (by omega) (tabC_T b0).symm, ← List.set_set (-1)]; simpa using a3), ?_⟩
     omega
    omega
   try simp only [sps] at c8
   refine .exit ?_
   refine d3 _ _ (.region ?_)
   refine .q rfl (.add rfl rfl rfl (by omega) (by omega)) ?_
   refine .mv rfl (.nil ?_)
   obtain rfl : j = n := by omega
   refine c7 ((k + 1, upd rr k (some ⟨b8, 0, none⟩))) _ _ ?_ ?_ ⟨rfl, rfl, rfl, rfl, rfl, trivial⟩
   ·
    refine ⟨u, by assumption, ?_⟩
    exact ⟨by omega, hR.succ rk hatC rfl (by rw [tabR, ← fillI_all]; assumption) (by omega) (by omega)⟩
   (dsimp only; omega)
  try simp only [sps] at c5
  refine .exit ?_
  refine c2 _ _ ?_
  obtain rfl : k = n := by omega
  exact ⟨t, b2, rr, b, by omega, (OwnRows.done hR (by rw [← fillS_all (fun i _ => length_tabR _ _ _ _ _)]; exact e) (by omega)), fun i hi x hx => by obtain ⟨y, y1, y2, _⟩ := hR.row i hi; rw [y1] at hx; cases hx; exact y2⟩
theorem tableO_c {g n fn : Nat} {ob : Int} {a1 a2 : Option Addr} {v3 v4 : Value} {src tgt : List Int} {cap : Array Value} {X : Nat → Nat → Int} {H : GHeap} (hg : H.get g = some (.row [.int .i64 ob, .slice a1 n n, .slice a2 n n, v3, v4] 27 true)) (h1 : src.length = n) (h2 : tgt.length = n) (hn : n ≤ 1048576)
    (k1 : ∀ H', St [g] H H' → Ints H' a1 src) (k2 : ∀ H', St [g] H H' → Ints H' a2 tgt)
    (hcall : ∀ (xs : Array Value) (w : World), (callFunc fn xs).run Try.prog w = .ok (.enter fn xs) w)
    (hq : ∀ H' v, St [g] H H' → H'.get g = some (.row [.int .i64 ob, .slice a1 n n, .slice a2 n n, v3, v] 27 true) → ∀ i j : Nat, i < n → j < n → tgt.getD i 0 = src.getD j 0 → GCalls Try.prog fn ([.int .i64 (i : Int), .int .i64 (j : Int)] ++ cap.toList) H' (fun v H'' => H'.Le H'' ∧ v = .int .i64 (X i j))) :
    GCalls Try.prog 44 [.pointer (some ⟨g, 0, none⟩), .func (.func fn) #[] cap] H (fun _ H' => St [g] H H' ∧ ∃ gC r, H'.get g = some (.row [.int .i64 ob, .slice a1 n n, .slice a2 n n, v3, .slice (some ⟨gC, 0, none⟩) n n] 27 true) ∧ H.next ≤ gC ∧
      IntssR H.next H' (some ⟨gC, 0, none⟩) (tabL src tgt X n) r ∧ ∀ i, i < n → ∀ x, r i = some ⟨x, 0, none⟩ → H.next ≤ x) :=
  tableG_c (rest := []) hg h1 h2 hn k1 k2 hcall hq
theorem table_c {g n fn : Nat} {ob : Int} {a1 a2 : Option Addr} {v3 v4 : Value} {src tgt : List Int} {cap : Array Value} {X : Nat → Nat → Int} {H : GHeap} (hg : H.get g = some (.row [.int .i64 ob, .slice a1 n n, .slice a2 n n, v3, v4] 27 true)) (h1 : src.length = n) (h2 : tgt.length = n) (hn : n ≤ 1048576)
    (k1 : ∀ H', St [g] H H' → Ints H' a1 src) (k2 : ∀ H', St [g] H H' → Ints H' a2 tgt)
    (hcall : ∀ (xs : Array Value) (w : World), (callFunc fn xs).run Try.prog w = .ok (.enter fn xs) w)
    (hq : ∀ H', St [g] H H' → ∀ i j : Nat, i < n → j < n → tgt.getD i 0 = src.getD j 0 → GCalls Try.prog fn ([.int .i64 (i : Int), .int .i64 (j : Int)] ++ cap.toList) H' (fun v H'' => H'.Le H'' ∧ v = .int .i64 (X i j))) :
    GCalls Try.prog 44 [.pointer (some ⟨g, 0, none⟩), .func (.func fn) #[] cap] H (fun _ H' => St [g] H H' ∧ ∃ gC r, H'.get g = some (.row [.int .i64 ob, .slice a1 n n, .slice a2 n n, v3, .slice (some ⟨gC, 0, none⟩) n n] 27 true) ∧ H.next ≤ gC ∧
      IntssR H.next H' (some ⟨gC, 0, none⟩) (tabL src tgt X n) r ∧ ∀ i, i < n → ∀ x, r i = some ⟨x, 0, none⟩ → H.next ≤ x) :=
  tableO_c hg h1 h2 hn k1 k2 hcall (fun H' _ s _ => hq H' s)
end Go.Proofs.Ytfanjkbaemhbmaa
namespace Go.GL
end Go.GL
namespace Go.GL
def Con.z : Con := ⟨0, []⟩
def conV (r : Nat → Option Addr) (cs : List Con) : List Value := (List.range cs.length).flatMap fun i => (cs.getD i .z).cells ⟨r i⟩
structure ConsAt (T e : TypeId) (b0 : Nat) (H : GHeap) (g : Nat) (r : Nat → Option Addr) (cs : List Con) : Prop where
  hd : H.get g = some (.row (conV r cs) T true)
  rows : OwnL b0 H e r (cs.map Con.lg)
structure GathC (T1 T2 Tx e : TypeId) (go gx b0 e0 : Nat) (x : Int) (pre : List Con) (b : Nat) (fs : List (List Int)) (gF : Nat) (H : GHeap) : Prop where
  hd : H.get go = some (.row [.slice (some ⟨gF, 0, none⟩) (pre ++ fs.map fun l => (⟨x, l⟩ : Con)).length (pre ++ fs.map fun l => (⟨x, l⟩ : Con)).length] T1 true)
  ix : H.get gx = some (.row [.int .i64 x] Tx true)
  rows : ∃ r, H.get gF = some (.row (conV r (pre ++ fs.map fun l => (⟨x, l⟩ : Con))) T2 true) ∧ OwnL b0 H e r ((pre ++ fs.map fun l => (⟨x, l⟩ : Con)).map Con.lg) ∧ ∀ i, i < (pre ++ fs.map fun l => (⟨x, l⟩ : Con)).length → ∀ g, r i = some ⟨g, 0, none⟩ → g < e0 ∨ b ≤ g
theorem take_snocZ {l : List (List Int)} {i : Nat} (h : i < l.length) : l.take (i + 1) = l.take i ++ [l.getD i []] := by
  rw [List.take_add_one, List.getElem?_eq_getElem h, List.getD_eq_getElem?_getD, List.getElem?_eq_getElem h]; rfl
end Go.GL
namespace Go.Proofs.Ytfanjkbaemhbmaa
open Go Go.GL Go.RowKit Go.Proofs
theorem ze_24_Hj : zeroT Try.prog 24 = some ([.slice none 0 0], 1) := by kernel_rfl
theorem by_24_Hj : (Try.prog.info? 24).map (·.bytes) = some 24 := by kernel_rfl
theorem ze_27_Hj : zeroT Try.prog 27 = some ([.int .i64 0, .slice none 0 0, .slice none 0 0, .slice none 0 0, .slice none 0 0], 5) := by kernel_rfl
theorem bt_27_Hj : buildT Try.prog 27 = some ([.int .i64 0, .slice none 0 0, .slice none 0 0, .slice none 0 0, .slice none 0 0], [(0, 1), (1, 1), (2, 1), (3, 1), (4, 1)]) := by kernel_rfl
end Go.Proofs.Ytfanjkbaemhbmaa
namespace Go.Proofs.Ytfanjkbaemhbmaa
open Go Go.GL Go.RowKit Go.Proofs
end Go.Proofs.Ytfanjkbaemhbmaa
