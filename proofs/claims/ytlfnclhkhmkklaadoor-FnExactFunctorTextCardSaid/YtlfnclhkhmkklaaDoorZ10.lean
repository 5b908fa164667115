/- Texts of lists of numbers; a library call of which only new memory is told. No condition. -/
import Derived.Test.YtlfnclhkhmkklaaDoorZ9
import Derived.Lib.Join
namespace Go.GL
open Go.RowKit
def lstS (xs : List Int) : Nat → ByteArray
  | 0 => ⟨#[]⟩
  | k + 1 => lstS xs k ++ ⟨#[32]⟩ ++ decB (xs.getD k 0).toNat
def lstB (xs : List Int) : ByteArray := if xs.length = 0 then ⟨#[45]⟩ else (lstS xs xs.length).extract 1 (lstS xs xs.length).size
def lstW (xs : List Int) (k : Nat) : List ByteArray := (List.range k).map fun i => decB (xs.getD i 0).toNat
theorem ba_size (b : ByteArray) : b.size = b.data.toList.length := Array.length_toList.symm
theorem ba_nil {s : ByteArray} (h : s.size = 0) : s = ⟨#[]⟩ := ba_list (List.eq_nil_of_length_eq_zero (by rw [← ba_size]; exact h))
theorem ba_iff {a b : ByteArray} : a.toList = b.toList ↔ a = b := ⟨fun h => by
  rw [ByteArray.toList_eq, ByteArray.toList_eq] at h
  exact ba_list h, fun h => by rw [h]⟩
theorem lstW_succ (xs : List Int) (k : Nat) : lstW xs (k + 1) = lstW xs k ++ [decB (xs.getD k 0).toNat] := by simp [lstW, List.range_succ]
@[simp] theorem length_lstW (xs : List Int) (k : Nat) : (lstW xs k).length = k := by simp [lstW]
theorem lstS_size (xs : List Int) : ∀ k, (lstS xs k).size ≤ 3 * k ∧ 2 * k ≤ (lstS xs k).size
  | 0 => ⟨Nat.le_refl _, Nat.le_refl _⟩
  | k + 1 => by
    have ih := lstS_size xs k
    have h1 := decB_size (xs.getD k 0).toNat
    have h2 : 1 ≤ (decB (xs.getD k 0).toNat).size := by
      unfold decB
      split
      · exact Nat.le_refl _
      · rw [ByteArray.size_append, size_bytesOf1]; omega
    have h3 : (ByteArray.mk #[32]).size = 1 := rfl
    show (lstS xs k ++ ⟨#[32]⟩ ++ decB _).size ≤ _ ∧ _ ≤ (lstS xs k ++ ⟨#[32]⟩ ++ decB _).size
    rw [ByteArray.size_append, ByteArray.size_append]
    omega
theorem lstS_list (xs : List Int) : ∀ k, (lstS xs k).data.toList = Lib.joinTail [32] ((lstW xs k).map (·.data.toList))
  | 0 => rfl
  | k + 1 => by
    show (lstS xs k ++ ⟨#[32]⟩ ++ decB _).data.toList = _
    rw [ByteArray.data_append, ByteArray.data_append, Array.toList_append, Array.toList_append, lstS_list xs k, lstW_succ]
    simp [Lib.joinTail]
theorem lstB_join {xs : List Int} (h : ¬ xs.length = 0) : lstB xs = ⟨(Lib.join ((lstW xs xs.length).map (·.data.toList)) [32]).toArray⟩ := by
  unfold lstB
  rw [if_neg h]
  refine ba_list ?_
  rw [ByteArray.data_extract, Array.toList_extract, lstS_list]
  obtain ⟨w, ws, e⟩ : ∃ w ws, lstW xs xs.length = w :: ws := by
    cases hw : lstW xs xs.length with
    | nil => exact absurd (by have := congrArg List.length hw; simpa using this) h
    | cons w ws => exact ⟨w, ws, rfl⟩
  have hs : (lstS xs xs.length).size = (Lib.joinTail [32] ((lstW xs xs.length).map (·.data.toList))).length := by
    rw [← lstS_list]; exact ba_size _
  rw [hs, e, List.map_cons, Lib.join_cons]
  show (List.extract ([32] ++ (w.data.toList ++ Lib.joinTail [32] (ws.map (·.data.toList)))) 1 _) = _
  rw [List.extract_eq_take_drop]
  show List.take _ (w.data.toList ++ Lib.joinTail [32] (ws.map (·.data.toList))) = _
  refine List.take_of_length_le ?_
  simp [Lib.joinTail]
theorem lstB_size {xs : List Int} (h : xs.length ≤ 1048576) : (lstB xs).size ≤ 4000000 := by
  unfold lstB
  split
  · exact Nat.le_of_lt (by decide)
  · rw [ByteArray.size_extract]
    have := (lstS_size xs xs.length).1
    omega
theorem lens_lstW (xs : List Int) (k : Nat) : (Lib.joinTail [32] ((lstW xs k).map (·.data.toList))).length ≤ 3 * k := by
  rw [← lstS_list]
  have := (lstS_size xs k).1
  rw [ba_size] at this
  exact this
theorem Sim.above {P : Program} {B : Nat} {w0 : World} {ρ : Place} {H : GHeap} {w w' : World} (h : Sim P B w0 ρ H w) (hb : Below w.heap.size w w') : Sim P B w0 ρ H w' := by
  refine ⟨h.dom, fun g o hg => (h.live g o hg).keep (.refl ρ) fun s hs => hb.block _ ?_, h.apart, Nat.le_trans h.base hb.size, h.below.trans ⟨hb.os, hb.tape, hb.output, hb.size, fun k hk => hb.block k (Nat.lt_of_lt_of_le hk h.base)⟩⟩
  cases o with
  | row => obtain ⟨s', C', fz, h1, h2, _⟩ := h.live g _ hg; rw [hs] at h1; cases h1; exact (Array.getElem?_eq_some_iff.1 h2).1
  | map => obtain ⟨s', C', fz, h1, h2, _⟩ := h.live g _ hg; rw [hs] at h1; cases h1; exact (Array.getElem?_eq_some_iff.1 h2).1
  | oth => obtain ⟨s', x, h1, h2, _⟩ := h.live g _ hg; rw [hs] at h1; cases h1; exact (Array.getElem?_eq_some_iff.1 h2).1
noncomputable def Fun.txR (f : Fun) : ByteArray := bif B f.Is then lstB f.ob ++ ⟨#[32, 124, 32]⟩ ++ lstB f.ar else ⟨#[]⟩
noncomputable def Fun.txC (f : Fun) : Int := bif B f.Is then 0 else 1
theorem Fun.tx_1 {f : Fun} (h : ¬ f.Is) : f.txR = ⟨#[]⟩ ∧ f.txC = 1 := by unfold txR txC; rw [B_false h]; exact ⟨rfl, rfl⟩
theorem Fun.tx_0 {f : Fun} (h : f.Is) : f.txR = lstB f.ob ++ ⟨#[32, 124, 32]⟩ ++ lstB f.ar ∧ f.txC = 0 := by unfold txR txC; rw [B_true h]; exact ⟨rfl, rfl⟩
theorem Fun.Is.obR {f : Fun} (h : f.Is) : f.ob.length ≤ 1048576 ∧ ∀ i, i < f.ob.length → 0 ≤ f.ob.getD i 0 ∧ f.ob.getD i 0 < 100 := by
  have q1 := h.1.1.obj
  have q2 := h.2.1.1.obj
  have q3 := h.2.2.ol
  exact ⟨by omega, fun i hi => by have := h.2.2.ob i hi; omega⟩
theorem Fun.Is.arR {f : Fun} (h : f.Is) : f.ar.length ≤ 1048576 ∧ ∀ i, i < f.ar.length → 0 ≤ f.ar.getD i 0 ∧ f.ar.getD i 0 < 100 := by
  have q1 := h.1.1.n40
  have q2 := h.2.1.1.n40
  have q3 := h.2.2.al
  exact ⟨by omega, fun i hi => by have := h.2.2.ar i hi; omega⟩
end Go.GL
namespace Go.Proofs.YtlfnclhkhmkklaaDoor
open Go Go.GL Go.RowKit Go.Proofs
theorem sl_84_To : sliceT Tryd.prog 84 = some (9, 1) := by kernel_rfl
theorem ze_9_To : zeroT Tryd.prog 9 = some ([.string ⟨#[]⟩], 1) := by kernel_rfl
theorem by_9_To : (Tryd.prog.info? 9).map (·.bytes) = some 16 := by kernel_rfl
theorem join_c {g : Nat} {ws : List ByteArray} {sep : ByteArray} {H : GHeap} (h : H.get g = some (.row (ws.map Value.string) 9 true)) (hn : ws.length ≤ 1048576) (hpos : ws.length ≠ 0) (hl : (Lib.join (ws.map (·.data.toList)) sep.data.toList).length ≤ 140737488355328) :
    GCalls Tryd.prog 79 [.slice (some ⟨g, 0, none⟩) ws.length ws.length, .string sep] H (Ret (.string ⟨(Lib.join (ws.map (·.data.toList)) sep.data.toList).toArray⟩) H) := by
  intro B w0 ρ cargs w hs hl'
  obtain ⟨s, C, fz, k1, k2, k3, k4, k5, k6, k7, k8⟩ := hs.live _ _ h
  obtain ⟨c1, e1, v1⟩ := hl'.get (i := 0) rfl
  obtain ⟨c2, e2, v2⟩ := hl'.get (i := 1) rfl
  have hlen := hl'.1
  obtain rfl : cargs = [c1, c2] := by
    match cargs, hlen, e1, e2 with
    | [x, y], _, e1, e2 => cases e1; cases e2; rfl
  obtain rfl := v2.string_inv
  obtain ⟨_, s', q1, ⟨m, rfl, q2, _⟩ | ⟨q2, _⟩⟩ := v1.slice_inv
  case' inr => exact absurd q2 hpos
  obtain rfl : s' = s := by rw [k1] at q1; exact (Option.some.inj q1).symm
  have hlt := (Array.getElem?_eq_some_iff.1 k2).1
  have hj := Any.strings_Join (P := Tryd.prog) join_lay join_lay_x s'.blk (s'.base + 0) m ws sep w (fun j x hx => by
    obtain ⟨c, hc, hv⟩ := k5 j (.string x) (by rw [List.getElem?_map, hx]; rfl)
    obtain rfl := hv.string_inv
    simp [World.cell?, k2, hc]) hlt (by omega) q2 hl
  exact hj.mono fun e w' ⟨he, hb⟩ => ⟨_, _, ρ, H, he, ⟨rfl, rfl⟩, .refl ρ, hs.above hb, .string _⟩
theorem part_c {g : Nat} {xs : List Int} {H : GHeap} (h : H.get g = some (.row ((lstW xs xs.length).map Value.string) 9 true)) (hn : xs.length ≤ 1048576) :
    GCalls Tryd.prog 57 [.slice (some ⟨g, 0, none⟩) xs.length xs.length] H (Ret (.string (lstB xs)) H) := by
  refine GCalls.ret rfl ?_
  have hq := lens_lstW xs xs.length
  have hjn : ¬ xs.length = 0 → (Lib.join ((lstW xs xs.length).map (·.data.toList)) [32]).length ≤ 4000000 := fun h0 => by
    have := lstB_size hn
    rw [lstB_join h0] at this
    exact this
  have hw := join_c (sep := ⟨#[32]⟩) h (by simpa using hn)
  rw [length_lstW] at hw
  refine GCalls.body (N := 8) (rs := [.tmp 2]) Tryd.func57 rfl rfl rfl rfl (fun Qx a hend => ?_)
  refine .fg [0] rfl ?_
  have b := GHeap.Le.refl H
  refine .seq (fun K1 e => .region (.mv rfl (.nil (e _ _ (.seq (fun K2 c => .seq (fun K3 i => .region (.mv rfl (.q rfl (.len sl_84_To rfl) (.q rfl (.cmp rfl rfl rfl) (.nil (i _ _ ?_))))))))))))
  refine .cond rfl (fun h5 => ?_) (fun h5 => ?_)
  ·
   simp only [sps] at h5
   refine .seq (fun K4 f => .region (.mv rfl (.nil (f _ _ ?_))))
   refine .ret ?_
   refine a _ _ ?_
   refine ⟨_, rfl, ?_⟩
   exact ⟨congrArg Value.string (by unfold lstB; rw [if_pos (by omega)]), b⟩
  simp only [sps] at h5
  refine .skip ?_
  refine c _ _ (.seq (fun K5 d => .region (.mv rfl ?_)))
  refine .callQ rfl rfl rfl rfl @Tryd.call79 rfl (hw (by omega) (Nat.le_trans (hjn (by omega)) (by decide))) ?_
  refine .mv rfl (.nil (d _ _ ?_))
  refine .ret ?_
  refine a _ _ ?_
  refine ⟨_, rfl, ?_⟩
  exact ⟨congrArg Value.string (lstB_join (by omega)), b⟩
theorem decimals_c {a : Option Addr} {xs : List Int} {H : GHeap} (hx : Ints H a xs := by assumption) (hn : xs.length ≤ 1048576 := by omega) (h0 : ∀ i, i < xs.length → 0 ≤ xs.getD i 0 ∧ xs.getD i 0 < 100) :
    GCalls Tryd.prog 39 [.slice a xs.length xs.length] H (Ret (.string (lstB xs)) H) := by
  refine GCalls.ret rfl ?_
  refine GCalls.body (N := 21) (rs := [.tmp 2]) Tryd.func39 rfl rfl rfl rfl (fun Qx m hend => ?_)
  refine .fg [0] rfl ?_
  have e := GHeap.Le.refl H
  have b := hx
  refine .seq (fun K1 v => .region (.mv rfl (.nil (v _ _ (.seq (fun K2 z => .region ?_))))))
  refine .R rfl (.litA rfl sl_84_To ze_9_To rfl rfl rfl rfl) ?_
  rintro _ H6 ⟨g6, rfl, t, ge6, n⟩
  have nx_H6 := t.1
  replace e := e.trans t
  have lt_at6 := GHeap.ltg n
  replace hx := b.mono e
  refine .mv rfl (.nil (z _ _ (.seq (fun K3 x => .seq (fun K4 w => .region (.mv rfl (.q rfl (.len sl_22_A rfl) (.mv rfl (.nil (w _ _ ?_))))))))))
  refine .block ?_
  refine .loopR (σ := Nat × Nat × Nat) [(7, some _), (8, some _)] (fun (k, f, g) => [(9, some (.int .i64 (k : Int))), (3, some (.slice (some ⟨f, 0, none⟩) g g))]) (fun (k, f, g) H' => St [g6] H6 H' ∧ H'.get f = some (.row (((lstW xs k).map Value.string)) 9 true) ∧ (f = g6 ∨ H6.next ≤ f) ∧ g = k ∧ k ≤ xs.length) (fun (k, f, g) => xs.length - k) ((0, _, _)) ⟨rfl, rfl, trivial⟩ ⟨rfl, rfl, trivial⟩ ?_ ?_
  ·
   refine ⟨.refl _ _, by first | assumption | exact n | simpa using n, .inl rfl, by first | rfl | assumption | simp | omega, ?_⟩
   omega
  rintro ⟨k, f, g⟩ HL1 ⟨c, d, pl_L3, ln_L3, hI⟩ KL1 r
  refine .forget (fr' := [(9, some (.int .i64 (k : Int))), (3, some (.slice (some ⟨f, 0, none⟩) g g)), (7, some _), (8, some _)]) ⟨rfl, rfl, rfl, rfl, trivial⟩ ?_
  have ge_L3 : H.next ≤ f := by omega
  have nx_HL1 := c.nx
  replace e := e.st c (fun k hk => ⟨by omega, trivial⟩)
  have lt_at_L3 := GHeap.ltg d
  replace hx := b.mono e
  refine .seq (fun K5 a1 => .region (.q rfl (.cmp rfl rfl rfl) (.nil (a1 _ _ (.seq (fun K6 a2 => ?_))))))
  refine .cond rfl (fun p => ?_) (fun p => ?_)
  ·
   simp only [sps] at p
   have q1 := h0 k (by omega)
   refine .skip ?_
   refine a2 _ _ (.seq (fun K7 a0 => ?_))
   refine .block ?_
   refine .seq (fun K8 y => .region ?_)
   refine .q rfl (.idxN sl_22_A (by assumption) rfl rfl (by omega)) ?_
   refine .q rfl (.loadI on_2_A (by assumption) rfl (by omega)) ?_
   refine .mv rfl (.nil (y _ _ (.region (.mv rfl (.mv rfl ?_)))))
   refine .callQ rfl rfl rfl rfl @Tryd.call33 rfl (fmtZ_c) ?_
   refine .R rfl (.litA rfl sl_84_To ze_9_To rfl rfl rfl rfl) ?_
   rintro _ H16 ⟨g16, rfl, j, ge16, l⟩
   have nx_H16 := j.1
   replace e := e.trans j
   replace c := c.le j
   replace d := j.2 _ _ d
   have lt_at16 := GHeap.ltg l
   replace hx := b.mono e
   refine .R rfl (.appendV rfl sl_84_To ze_9_To rfl by_9_To sl_84_To rfl rfl (by assumption) (by assumption) (by first | omega | (simp <;> omega)) rfl rfl (by omega) (by omega)) ?_
   rintro _ H17 ⟨g17, rfl, h, ge17, o⟩
   have nx_H17 := h.nx
   replace e := e.st h (fun k hk => ⟨by omega, trivial⟩)
   replace c := c.sA h
   replace l := h.s l
   have lt_at17 := GHeap.ltg o
   replace hx := b.mono e
   refine .mv rfl (.nil (a0 _ _ (.region ?_)))
   refine .q rfl (.add rfl rfl rfl (by omega) (by omega)) ?_
   refine .mv rfl (.nil ?_)
   refine r ((k + 1, _, _)) _ _ ?_ ?_ ⟨rfl, rfl, rfl, rfl, trivial⟩
   ·
    refine ⟨c, by first | assumption | (rw [lstW_succ, List.map_append]; assumption), by omega, by first | omega | (simp only [List.length_append, List.length_cons, List.length_nil] <;> omega), ?_⟩
    omega
   (dsimp only; omega)
  try simp only [sps] at p
  refine .exit ?_
  refine x _ _ (.seq (fun K9 u => .region ?_))
  obtain rfl : k = xs.length := by omega
  obtain rfl : g = xs.length := by omega
  refine .mv rfl ?_
  refine .callQ rfl rfl rfl rfl @Tryd.call57 rfl (part_c d hn) ?_
  refine .mv rfl (.nil (u _ _ ?_))
  refine .ret ?_
  refine m _ _ ?_
  refine ⟨_, rfl, ?_⟩
  exact ⟨rfl, e⟩
theorem l04List_c {a : Option Addr} {xs : List Int} {H : GHeap} (hx : Ints H a xs := by assumption) (hn : xs.length ≤ 1048576 := by omega) (h0 : ∀ i, i < xs.length → 0 ≤ xs.getD i 0 ∧ xs.getD i 0 < 100) :
    GCalls Tryd.prog 54 [.slice a xs.length xs.length] H (Ret (.string (lstB xs)) H) := by
  refine GCalls.ret rfl ?_
  have z1 : (ByteArray.mk #[32]).size = 1 := rfl
  refine GCalls.body (N := 23) (rs := [.tmp 2]) Tryd.func54 rfl rfl rfl rfl (fun Qx f hend => ?_)
  refine .fg [0] rfl ?_
  have e := GHeap.Le.refl H
  have b := hx
  refine .seq (fun K1 t => .region (.mv rfl (.nil (t _ _ (.seq (fun K2 o => .region (.mv rfl (.nil (o _ _ (.seq (fun K3 w => .seq (fun K4 u => .region (.mv rfl (.nil (u _ _ ?_)))))))))))))))
  refine .block ?_
  refine .loopR (σ := Nat × ByteArray) [(0, some _)] (fun (k, s) => [(4, some (.int .i64 (k : Int))), (3, some (.string s))]) (fun (k, s) H' => St [] H H' ∧ k ≤ xs.length ∧ s = lstS xs k) (fun (k, s) => xs.length - k) ((0, lstS xs 0)) ⟨rfl, trivial⟩ ⟨rfl, rfl, trivial⟩ ?_ ?_
  ·
   refine ⟨.refl _ _, ?_⟩
   exact ⟨by omega, rfl⟩
  rintro ⟨k, s⟩ HL1 ⟨d, hI⟩ KL1 m
  refine .forget (fr' := [(4, some (.int .i64 (k : Int))), (3, some (.string s)), (0, some _)]) ⟨rfl, rfl, rfl, trivial⟩ ?_
  have nx_HL1 := d.nx
  replace e := e.st d (fun k hk => trivial)
  replace hx := b.mono e
  obtain ⟨hk, hsz⟩ := hI
  have sz := lstS_size xs k
  rw [← hsz] at sz
  refine .seq (fun K5 p => .seq (fun K6 v => .region (.mv rfl (.mv rfl (.q rfl (.len sl_22_A rfl) (.q rfl (.cmp rfl rfl rfl) (.nil (v _ _ ?_))))))))
  refine .cond rfl (fun h8 => ?_) (fun h8 => ?_)
  ·
   simp only [sps] at h8
   have q1 := h0 k (by omega)
   have d1 := decB_size (xs.getD k 0).toNat
   refine .skip ?_
   refine p _ _ (.seq (fun K7 x => ?_))
   refine .block ?_
   refine .region (.mv rfl ?_)
   refine .q rfl (.strAdd rfl rfl (by first | omega | (simp only [ByteArray.size_append]; omega))) ?_
   refine .mv rfl (.mv rfl ?_)
   refine .q rfl (.idxN sl_22_A (by assumption) rfl rfl (by omega)) ?_
   refine .q rfl (.loadI on_2_A (by assumption) rfl (by omega)) ?_
   refine .callQ rfl rfl rfl rfl @Tryd.call25 rfl (l01DecZ_c) ?_
   refine .q rfl (.strAdd rfl rfl (by first | omega | (simp only [ByteArray.size_append]; omega))) ?_
   refine .mv rfl (.nil (x _ _ (.region (.mv rfl ?_))))
   refine .q rfl (.add rfl rfl rfl (by omega) (by omega)) ?_
   refine .mv rfl (.nil ?_)
   refine m ((k + 1, _)) _ _ ?_ ?_ ⟨rfl, rfl, rfl, trivial⟩
   ·
    refine ⟨d, ?_⟩
    exact ⟨by omega, by rw [hsz]; rfl⟩
   (dsimp only; omega)
  try simp only [sps] at h8
  refine .exit ?_
  refine w _ _ (.seq (fun K8 n => .seq (fun K9 r => .region (.mv rfl (.q rfl (.strCmp rfl rfl rfl) (.nil (r _ _ ?_)))))))
  refine .cond rfl (fun c => ?_) (fun c => ?_)
  ·
   simp only [sps] at c
   rw [ba_iff] at c
   have e0 : s.size = 0 := by rw [c]; rfl
   refine .seq (fun K10 j => .region (.mv rfl (.nil (j _ _ ?_))))
   refine .ret ?_
   refine f _ _ ?_
   refine ⟨_, rfl, ?_⟩
   exact ⟨congrArg Value.string (by unfold lstB; rw [if_pos]; omega), e⟩
  simp only [sps] at c
  rw [ba_iff] at c
  have e0 : ¬ s.size = 0 := fun hh => c (ba_nil hh)
  refine .skip ?_
  refine n _ _ (.seq (fun K11 g => .region (.mv rfl ?_)))
  refine .q rfl (.sliceStr (s := s) (l := 1) (h := s.size) st_9_Tm rfl ⟨.i64, rfl⟩ rfl (by omega) (by omega)) ?_
  refine .mv rfl (.nil (g _ _ ?_))
  refine .ret ?_
  refine f _ _ ?_
  refine ⟨_, rfl, ?_⟩
  obtain rfl : k = xs.length := by omega
  exact ⟨congrArg Value.string (by unfold lstB; rw [if_neg (by omega), hsz]), e⟩
theorem l04Functor_c {f : Fun} {p : FunP} {H : GHeap} (hin : f.In H p := by assumption) (hI : f.Is) :
    GCalls Tryd.prog 37 [.agg (f.cells p).toArray] H (Ret (.string (lstB f.ob ++ ⟨#[32, 124, 32]⟩ ++ lstB f.ar)) H) := by
  refine GCalls.ret rfl ?_
  have hO := hI.obR
  have hA := hI.arR
  have s1 := lstB_size hO.1
  have s2 := lstB_size hA.1
  have z1 : (ByteArray.mk #[32, 124, 32]).size = 3 := rfl
  refine GCalls.body (N := 11) (rs := [.tmp 2]) Tryd.func37 rfl rfl rfl rfl (fun Qx g hend => ?_)
  refine .fg [0] rfl ?_
  have b := GHeap.Le.refl H
  have a := hin
  refine .seq (fun K1 l => .region ?_)
  refine .R rfl (.boxR rfl sz_38_E rfl) ?_
  rintro _ H1 ⟨g1, rfl, h, ge1, d⟩
  have nx_H1 := h.1
  replace b := b.trans h
  have lt_at1 := GHeap.ltg d
  replace hin := a.mono b
  have e : Fun.At _ g1 0 f p := ⟨Mem.of_get d, hin⟩
  obtain ⟨j, i, c101, c111, j11, j21⟩ := e.get
  have hm1 : MemN _ _ _ _ _ := ⟨rfl, e.1⟩
  have hi1 := e.2
  have hms1 : MemN _ _ _ _ _ := ⟨rfl, j.1⟩
  have his1 := j.2
  have hmt1 : MemN _ _ _ _ _ := ⟨rfl, i.1⟩
  have hit1 := i.2
  refine .mv rfl (.nil (l _ _ (.seq (fun K2 k => ?_))))
  refine .regionD mo_B (.q 0 (.q 1 (.q 4 (.q 5 (.c 2 1 (.q 3 (.c 6 1 (.q 7 (.q 8 (.done)))))))))) (by kernel_rfl) ?_
  refine .q rfl (.fieldAddr fo_38_2_E rfl) ?_
  refine .q rfl (.load on_22_B rfl (by first | assumption | exact Mem.of_get d 10 _ rfl)) ?_
  refine .q rfl (.fieldAddr fo_38_3_E rfl) ?_
  refine .q rfl (.load on_22_B rfl (by first | assumption | exact Mem.of_get d 11 _ rfl)) ?_
  refine .callQ1 rfl rfl rfl rfl rfl @Tryd.call54 rfl (l04List_c (hn := hO.1) (h0 := hO.2)) (.refl _) ?_
  refine .q rfl (.strAdd rfl rfl (by first | omega | (simp only [ByteArray.size_append]; omega))) ?_
  refine .callQ1 rfl rfl rfl rfl rfl @Tryd.call54 rfl (l04List_c (hn := hA.1) (h0 := hA.2)) (.refl _) ?_
  refine .q rfl (.strAdd rfl rfl (by first | omega | (simp only [ByteArray.size_append]; omega))) ?_
  refine .mv rfl rfl ?_
  refine .done ?_
  refine k _ _ ?_
  refine .ret ?_
  refine g _ _ ?_
  refine ⟨_, rfl, ?_⟩
  exact ⟨rfl, b⟩
theorem specText_c {f : Fun} {p : FunP} {H : GHeap} (hin : f.In H p := by assumption) (hsm : f.Small := by assumption) :
    GCalls Tryd.prog 12 [.agg (f.cells p).toArray] H (Ret (.tuple #[.string f.txR, .int .i64 f.txC]) H) := by
  refine GCalls.ret rfl ?_
  refine GCalls.body (N := 9) (rs := [.tmp 2, .tmp 3]) Tryd.func12 rfl rfl rfl rfl (fun Qx c hend => ?_)
  refine .fg [0] rfl ?_
  have b := GHeap.Le.refl H
  have a := hin
  refine .seq (fun K1 l => .region ?_)
  refine .R rfl (.boxR rfl sz_38_E rfl) ?_
  rintro _ H1 ⟨g1, rfl, g, ge1, d⟩
  have nx_H1 := g.1
  replace b := b.trans g
  have lt_at1 := GHeap.ltg d
  replace hin := a.mono b
  have e : Fun.At _ g1 0 f p := ⟨Mem.of_get d, hin⟩
  obtain ⟨i, h, c101, c111, j11, j21⟩ := e.get
  have hm1 : MemN _ _ _ _ _ := ⟨rfl, e.1⟩
  have hi1 := e.2
  have hms1 : MemN _ _ _ _ _ := ⟨rfl, i.1⟩
  have his1 := i.2
  have hmt1 : MemN _ _ _ _ _ := ⟨rfl, h.1⟩
  have hit1 := h.2
  refine .mv rfl (.mv rfl (.nil (l _ _ (.seq (fun K2 j => .seq (fun K3 n => .region ?_))))))
  refine .q rfl (.loadM ag_38_E rfl ⟨rfl, Mem.of_get d⟩) ?_
  refine .callQ rfl rfl rfl rfl @Tryd.call36 rfl (l06Is_c) ?_
  refine .q rfl (.not rfl) (.nil (n _ _ ?_))
  refine .cond rfl (fun h6 => ?_) (fun h6 => ?_)
  ·
   simp only [sps] at h6
   refine .seq (fun K4 m => .region (.mv rfl (.mv rfl (.nil (m _ _ ?_)))))
   refine .ret ?_
   refine c _ _ ?_
   refine ⟨_, _, rfl, rfl, ?_⟩
   exact ⟨by rw [(Fun.tx_1 h6).1, (Fun.tx_1 h6).2], b⟩
  simp only [sps] at h6
  refine .skip ?_
  refine j _ _ (.seq (fun K5 k => .region ?_))
  refine .q rfl (.loadM ag_38_E rfl ⟨rfl, Mem.of_get d⟩) ?_
  refine .callQ rfl rfl rfl rfl @Tryd.call37 rfl (l04Functor_c (hI := h6)) ?_
  refine .mv rfl (.mv rfl (.nil (k _ _ ?_)))
  refine .ret ?_
  refine c _ _ ?_
  refine ⟨_, _, rfl, rfl, ?_⟩
  exact ⟨by rw [(Fun.tx_0 h6).1, (Fun.tx_0 h6).2], b⟩
theorem implText_c {f : Fun} {p : FunP} {H : GHeap} (hin : f.In H p := by assumption) (hsm : f.Small := by assumption) :
    GCalls Tryd.prog 14 [.agg (f.cells p).toArray] H (Ret (.tuple #[.string f.txR, .int .i64 f.txC]) H) := by
  refine GCalls.ret rfl ?_
  refine GCalls.body (N := 14) (rs := [.tmp 2, .tmp 3]) Tryd.func14 rfl rfl rfl rfl (fun Qx d hend => ?_)
  refine .fg [0] rfl ?_
  have b := GHeap.Le.refl H
  have a := hin
  refine .seq (fun K1 m => .region ?_)
  refine .R rfl (.boxR rfl sz_38_E rfl) ?_
  rintro _ H1 ⟨g1, rfl, h, ge1, e⟩
  have nx_H1 := h.1
  replace b := b.trans h
  have lt_at1 := GHeap.ltg e
  replace hin := a.mono b
  have g : Fun.At _ g1 0 f p := ⟨Mem.of_get e, hin⟩
  obtain ⟨j, i, c101, c111, j11, j21⟩ := g.get
  have hm1 : MemN _ _ _ _ _ := ⟨rfl, g.1⟩
  have hi1 := g.2
  have hms1 : MemN _ _ _ _ _ := ⟨rfl, j.1⟩
  have his1 := j.2
  have hmt1 : MemN _ _ _ _ _ := ⟨rfl, i.1⟩
  have hit1 := i.2
  refine .mv rfl (.mv rfl (.nil (m _ _ (.seq (fun K2 k => .seq (fun K3 o => .region ?_))))))
  refine .callQ rfl rfl rfl rfl @Tryd.call38 rfl (isFunctor_c) ?_
  refine .q rfl (.not rfl) (.nil (o _ _ ?_))
  refine .cond rfl (fun h5 => ?_) (fun h5 => ?_)
  ·
   simp only [sps] at h5
   refine .seq (fun K4 n => .region (.mv rfl (.mv rfl (.nil (n _ _ ?_)))))
   refine .ret ?_
   refine d _ _ ?_
   refine ⟨_, _, rfl, rfl, ?_⟩
   exact ⟨by rw [(Fun.tx_1 h5).1, (Fun.tx_1 h5).2], b⟩
  simp only [sps] at h5
  have hO := h5.obR
  have hA := h5.arR
  have s1 := lstB_size hO.1
  have s2 := lstB_size hA.1
  have z1 : (ByteArray.mk #[32, 124, 32]).size = 3 := rfl
  refine .skip ?_
  refine k _ _ (.seq (fun K5 l => ?_))
  refine .regionD mo_B (.q 0 (.q 1 (.q 4 (.q 5 (.c 2 1 (.q 3 (.c 6 1 (.q 7 (.q 8 (.q 9 (.done))))))))))) (by kernel_rfl) ?_
  refine .q rfl (.fieldAddr fo_38_2_E rfl) ?_
  refine .q rfl (.load on_22_B rfl (by first | assumption | exact Mem.of_get e 10 _ rfl)) ?_
  refine .q rfl (.fieldAddr fo_38_3_E rfl) ?_
  refine .q rfl (.load on_22_B rfl (by first | assumption | exact Mem.of_get e 11 _ rfl)) ?_
  refine .callQ1 rfl rfl rfl rfl rfl @Tryd.call39 rfl (decimals_c (hn := hO.1) (h0 := hO.2)) (.refl _) ?_
  refine .q rfl (.strAdd rfl rfl (by first | omega | (simp only [ByteArray.size_append]; omega))) ?_
  refine .callQ1 rfl rfl rfl rfl rfl @Tryd.call39 rfl (decimals_c (hn := hA.1) (h0 := hA.2)) (.refl _) ?_
  refine .q rfl (.strAdd rfl rfl (by first | omega | (simp only [ByteArray.size_append]; omega))) ?_
  refine .mv rfl rfl (.mv rfl rfl ?_)
  refine .done ?_
  refine l _ _ ?_
  refine .ret ?_
  refine d _ _ ?_
  refine ⟨_, _, rfl, rfl, ?_⟩
  exact ⟨by rw [(Fun.tx_0 h5).1, (Fun.tx_0 h5).2], b⟩
end Go.Proofs.YtlfnclhkhmkklaaDoor
namespace Go.Proofs.YtlfnclhkhmkklaaDoor
open Go Go.GL Go.RowKit Go.Proofs
theorem ag_34_LFunctorText : aggT Tryd.prog 34 = some 12 := by kernel_rfl
set_option maxHeartbeats 40000000 in
theorem lawFunctorText_c {d : Fun} {p : FunP} {H : GHeap} (h0 : d.In H p) (w0 : d.Wide) :
    GCalls Tryd.prog 4 [.agg (d.cells p).toArray] H (fun v _ => v = .bool true) := by
  refine GCalls.body (N := 40) (rs := [.tmp 2]) Tryd.func4 rfl rfl rfl rfl (fun Qx a3 hend => ?_)
  refine .fg [0] rfl ?_
  have y := GHeap.Le.refl H
  have e := h0
  refine .seq (fun K1 d6 => .region ?_)
  refine .R rfl (.boxR rfl sz_34_E rfl) ?_
  rintro _ H1 ⟨g1, rfl, d2, ge1, r⟩
  have nx_H1 := d2.1
  replace y := y.trans d2
  have lt_at1 := GHeap.ltg r
  replace h0 := e.mono y
  have g : Fun.At _ g1 0 d p := ⟨Mem.of_get r, h0⟩
  obtain ⟨l, j, n, u, a8, a7⟩ := g.get
  have a5 : MemN _ _ _ _ _ := ⟨rfl, g.1⟩
  have a6 := g.2
  have o : MemN _ _ _ _ _ := ⟨rfl, l.1⟩
  have t := l.2
  have m : MemN _ _ _ _ _ := ⟨rfl, j.1⟩
  have w := j.2
  refine .mv rfl (.nil (d6 _ _ (.seq (fun K2 e0 => .region (.mv rfl (.nil (e0 _ _ (.seq (fun K3 d8 => .region ?_)))))))))
  refine .q rfl (.loadM ag_34_LFunctorText rfl ⟨rfl, Mem.of_get r⟩) ?_
  refine .mv rfl ?_
  refine .call rfl rfl rfl rfl @Tryd.call11 rfl (szFunctor_c) ?_
  rintro _ _ ⟨heq, lf11, rfl, z111, z211, c7⟩
  obtain rfl := heq.symm
  refine .mv rfl (.nil (d8 _ _ (.seq (fun K4 d7 => .seq (fun K5 e3 => .region (.mv rfl (.q rfl (.cmp rfl rfl rfl) (.nil (e3 _ _ ?_)))))))))
  refine .cond rfl (fun c9 => ?_) (fun c9 => ?_)
  ·
   try simp only [sps] at c9
   refine .seq (fun K6 e5 => .region (.mv rfl (.nil (e5 _ _ ?_))))
   refine .ret ?_
   refine a3 _ _ ?_
   refine ⟨_, rfl, ?_⟩
   first
   | exact rfl
   | exact absurd trivial (by assumption)
   | contradiction
   | (exfalso; omega)
  try simp only [sps] at c9
  have b5 := c7 (by omega)
  have tb11 := b5.tot
  refine .skip ?_
  refine d7 _ _ (.seq (fun K7 e2 => .region ?_))
  refine .q rfl (.loadM ag_34_LFunctorText rfl ⟨rfl, Mem.of_get r⟩) ?_
  refine .call rfl rfl rfl rfl @Tryd.call13 rfl (toFunctor_c) ?_
  rintro _ b8 ⟨b2, p16, rfl, a4⟩
  have nx_H16 := b2.1
  replace y := y.trans b2
  replace r := b2.2 _ _ r
  have x := a4
  have a : Keep H1.next b8 b8 := fun _ _ _ h => h
  replace h0 := e.mono y
  clear g l j n u a8 a7 a5 a6 o t m w
  have g : Fun.At _ g1 0 d p := ⟨Mem.of_get r, h0⟩
  obtain ⟨l, j, n, u, a8, a7⟩ := g.get
  have a5 : MemN _ _ _ _ _ := ⟨rfl, g.1⟩
  have a6 := g.2
  have o : MemN _ _ _ _ _ := ⟨rfl, l.1⟩
  have t := l.2
  have m : MemN _ _ _ _ _ := ⟨rfl, j.1⟩
  have w := j.2
  have b0 := a4.inn
  refine .callQ rfl rfl rfl rfl @Tryd.call12 rfl (specText_c) ?_
  refine .mv rfl (.q rfl (.extract rfl rfl) (.q rfl (.extract rfl rfl) (.mv rfl (.mv rfl (.nil (e2 _ _ (.seq (fun K8 d9 => .region ?_))))))))
  refine .q rfl (.loadM ag_34_LFunctorText rfl ⟨rfl, Mem.of_get r⟩) ?_
  refine .call rfl rfl rfl rfl @Tryd.call13 rfl (toFunctor_c) ?_
  rintro _ d1 ⟨a9, p21, rfl, b1⟩
  have nx_H21 := a9.1
  replace y := y.trans a9
  replace r := a9.2 _ _ r
  replace a := Keep.le a a9
  replace a4 := x.keep a (Nat.le_refl _)
  have a0 := b1
  have b : Keep b8.next d1 d1 := fun _ _ _ h => h
  replace h0 := e.mono y
  clear g l j n u a8 a7 a5 a6 o t m w
  have g : Fun.At _ g1 0 d p := ⟨Mem.of_get r, h0⟩
  obtain ⟨l, j, n, u, a8, a7⟩ := g.get
  have a5 : MemN _ _ _ _ _ := ⟨rfl, g.1⟩
  have a6 := g.2
  have o : MemN _ _ _ _ _ := ⟨rfl, l.1⟩
  have t := l.2
  have m : MemN _ _ _ _ _ := ⟨rfl, j.1⟩
  have w := j.2
  clear b0
  have b0 := a4.inn
  have b3 := b1.inn
  refine .R rfl (.allocR rfl ze_38_E rfl) ?_
  rintro _ H6 ⟨g6, rfl, b7, ge6, e1⟩
  have nx_H6 := b7.1
  replace y := y.trans b7
  replace r := b7.2 _ _ r
  replace a := Keep.le a b7
  replace a4 := x.keep a (Nat.le_refl _)
  replace b := Keep.le b b7
  replace b1 := a0.keep b (Nat.le_refl _)
  have lt_at6 := GHeap.ltg e1
  replace h0 := e.mono y
  clear g l j n u a8 a7 a5 a6 o t m w
  have g : Fun.At _ g1 0 d p := ⟨Mem.of_get r, h0⟩
  obtain ⟨l, j, n, u, a8, a7⟩ := g.get
  have a5 : MemN _ _ _ _ _ := ⟨rfl, g.1⟩
  have a6 := g.2
  have o : MemN _ _ _ _ _ := ⟨rfl, l.1⟩
  have t := l.2
  have m : MemN _ _ _ _ _ := ⟨rfl, j.1⟩
  have w := j.2
  clear b0
  have b0 := a4.inn
  clear b3
  have b3 := b1.inn
  refine .r0 rfl rfl (.fillA rfl sz_38_E rfl rfl rfl rfl) ?_
  rintro _ b6 ⟨rfl, i, f⟩
  have nx_H6003 := i.nx
  replace y := y.st i (fun k hk => ⟨by omega, trivial⟩)
  replace r := i.s r
  replace a := Keep.st a i (fun k hb hk => ⟨by omega, trivial⟩)
  replace a4 := x.keep a (Nat.le_refl _)
  replace b := Keep.st b i (fun k hb hk => ⟨by omega, trivial⟩)
  replace b1 := a0.keep b (Nat.le_refl _)
  have lt_at6003 := GHeap.ltg f
  replace h0 := e.mono y
  clear g l j n u a8 a7 a5 a6 o t m w
  have g : Fun.At _ g1 0 d p := ⟨Mem.of_get r, h0⟩
  obtain ⟨l, j, n, u, a8, a7⟩ := g.get
  have a5 : MemN _ _ _ _ _ := ⟨rfl, g.1⟩
  have a6 := g.2
  have o : MemN _ _ _ _ _ := ⟨rfl, l.1⟩
  have t := l.2
  have m : MemN _ _ _ _ _ := ⟨rfl, j.1⟩
  have w := j.2
  clear b0
  have b0 := a4.inn
  clear b3
  have b3 := b1.inn
  have a2 : MemN _ _ _ _ _ := ⟨rfl, Mem.of_get f⟩
  refine .nil (d9 _ _ (.seq (fun K9 d5 => .region ?_)))
  refine .q rfl (.loadM ag_38_E rfl ⟨rfl, Mem.of_get f⟩) ?_
  refine .callQ rfl rfl rfl rfl @Tryd.call14 rfl (implText_c) ?_
  refine .mv rfl (.q rfl (.extract rfl rfl) (.q rfl (.extract rfl rfl) (.mv rfl (.mv rfl (.nil (d5 _ _ (.seq (fun K10 c2 => .seq (fun K11 b4 => .region (.mv rfl (.mv rfl (.q rfl (.strCmp rfl rfl rfl) (.mv rfl ?_)))))))))))))
  refine .split (fun c6 => ?_) (fun c6 => ?_)
  ·
   try simp only [sps] at c6
   refine .z rfl (.z rfl (.z rfl (.q rfl (.pickT rfl rfl) (.nil (b4 _ _ ?_)))))
   refine .condT rfl ?_
   refine .seq (fun K12 d0 => .region (.mv rfl (.nil (d0 _ _ ?_))))
   refine .ret ?_
   refine a3 _ _ ?_
   refine ⟨_, rfl, ?_⟩
   first
   | exact rfl
   | exact absurd trivial (by assumption)
   | contradiction
   | (exfalso; omega)
  try simp only [sps] at c6
  refine .qg rfl (.move rfl) (.qg rfl (.move rfl) (.qg rfl (.cmp rfl rfl rfl) (.q rfl (.pickF rfl rfl) (.nil (b4 _ _ ?_)))))
  refine .cond rfl (fun b9 => ?_) (fun b9 => ?_)
  ·
   try simp only [sps] at b9
   refine .seq (fun K13 c5 => .region (.mv rfl (.nil (c5 _ _ ?_))))
   refine .ret ?_
   refine a3 _ _ ?_
   refine ⟨_, rfl, ?_⟩
   first
   | exact rfl
   | exact absurd trivial (by assumption)
   | contradiction
   | (exfalso; omega)
  try simp only [sps] at b9
  refine .skip ?_
  refine c2 _ _ (.seq (fun K14 c8 => .seq (fun K15 c0 => ?_)))
  refine .regionD mo_B (.q 0 (.q 1 (.c 2 1 (.c 3 0 (.q 4 (.done)))))) (by kernel_rfl) ?_
  refine .q rfl (.loadM ag_38_E rfl ⟨rfl, Mem.of_get f⟩) ?_
  refine .q rfl (.loadM ag_34_LFunctorText rfl ⟨rfl, Mem.of_get r⟩) ?_
  refine .call1 rfl rfl rfl rfl rfl @Tryd.call13 rfl (toFunctor_c) ?_
  rintro _ d4 ⟨a1, p37, rfl, d3⟩
  have e4 := a1
  refine ⟨e4, ?_⟩
  have nx_H37 := a1.1
  replace y := y.trans a1
  replace r := a1.2 _ _ r
  replace f := a1.2 _ _ f
  replace a := Keep.le a a1
  replace a4 := x.keep a (Nat.le_refl _)
  replace b := Keep.le b a1
  replace b1 := a0.keep b (Nat.le_refl _)
  have bs_v37 := d3
  have lv_v37 : Keep b6.next d4 d4 := fun _ _ _ h => h
  replace h0 := e.mono y
  clear g l j n u a8 a7 a5 a6 o t m w
  have g : Fun.At _ g1 0 d p := ⟨Mem.of_get r, h0⟩
  obtain ⟨l, j, n, u, a8, a7⟩ := g.get
  have a5 : MemN _ _ _ _ _ := ⟨rfl, g.1⟩
  have a6 := g.2
  have o : MemN _ _ _ _ _ := ⟨rfl, l.1⟩
  have t := l.2
  have m : MemN _ _ _ _ _ := ⟨rfl, j.1⟩
  have w := j.2
  clear b0
  have b0 := a4.inn
  clear b3
  have b3 := b1.inn
  clear a2
  have a2 : MemN _ _ _ _ _ := ⟨rfl, Mem.of_get f⟩
  have i37 := d3.inn
  refine .callQ0 rfl rfl rfl rfl rfl @Tryd.call15 rfl (eqFunctor_c) ?_
  refine .q rfl (.not rfl) ?_
  refine .done ?_
  refine c0 _ _ ?_
  refine .cond rfl (fun c1 => ?_) (fun c1 => ?_)
  ·
   try simp only [sps] at c1
   refine .seq (fun K16 c3 => .region (.mv rfl (.nil (c3 _ _ ?_))))
   refine .ret ?_
   refine a3 _ _ ?_
   refine ⟨_, rfl, ?_⟩
   first
   | exact rfl
   | exact absurd trivial (by assumption)
   | contradiction
   | (exfalso; omega)
  try simp only [sps] at c1
  refine .skip ?_
  refine c8 _ _ (.seq (fun K17 c4 => .region (.mv rfl (.nil (c4 _ _ ?_)))))
  refine .ret ?_
  refine a3 _ _ ?_
  refine ⟨_, rfl, ?_⟩
  first
  | exact rfl
  | exact absurd trivial (by assumption)
  | contradiction
  | (exfalso; omega)
end Go.Proofs.YtlfnclhkhmkklaaDoor
