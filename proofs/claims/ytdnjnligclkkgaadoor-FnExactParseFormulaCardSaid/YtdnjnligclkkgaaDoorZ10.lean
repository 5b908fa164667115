/- Lists of bytes that grow; the letters of a text; what a formula's head tells. No condition. -/
import Derived.Test.YtdnjnligclkkgaaDoorZ9
import Derived.Laws.IdiomStrings
namespace Go.GL
open Go.RowKit
theorem u8s_app (a b : List Int) : u8s (a ++ b) = u8s a ++ u8s b := List.map_append
def btL (s : ByteArray) : List Int := s.data.toList.map fun c => (c.toNat : Int)
theorem btL_rest (s : ByteArray) : rest s 0 = btL s := by unfold rest btL; rw [List.drop_zero]
theorem btL_size (s : ByteArray) : (btL s).length = s.size := by unfold btL; rw [List.length_map, ← ba_size]
theorem btL_app (a b : ByteArray) : btL (a ++ b) = btL a ++ btL b := by
  unfold btL
  rw [← List.map_append]
  congr 1
theorem byteCells_btL (s : ByteArray) : byteCells s = u8s (btL s) := by unfold byteCells u8s btL; rw [List.map_map]; rfl
theorem btL_bytesOf {ns : List Int} (h : ∀ c ∈ ns, 0 ≤ c ∧ c < 256) : btL (bytesOf ns) = ns := by
  unfold btL
  rw [bytesOf_data, List.map_map]
  conv => rhs; rw [← List.map_id ns]
  refine List.map_congr_left fun c hc => ?_
  obtain ⟨h0, h1⟩ := h c hc
  show (((UInt8.ofNat c.toNat).toNat : Nat) : Int) = c
  rw [show (UInt8.ofNat c.toNat).toNat = c.toNat by rw [UInt8.toNat_ofNat']; omega]
  omega
theorem bytesOf_btL (s : ByteArray) : bytesOf (btL s) = s := by
  refine ba_list ?_
  rw [bytesOf_data]
  unfold btL
  rw [List.map_map]
  conv => rhs; rw [← List.map_id s.data.toList]
  refine List.map_congr_left fun c _ => ?_
  show UInt8.ofNat ((c.toNat : Int)).toNat = c
  rw [Int.toNat_natCast, UInt8.ofNat_toNat]
theorem btL_dec {n : Int} (h : 0 ≤ n ∧ n < 10) : btL (decB n.toNat) = [48 + n] := by
  rw [decB_lt (by omega), btL_bytesOf (by intro c hc; simp at hc; omega)]
  congr 1
  omega
section
variable {P : Program} {o : Oper} {fr : Slots} {H : GHeap}
theorem CDo.appendUN {t tx e e' : TypeId} {s x : Operand} {g g1 n bytes : Nat} {z : List Value} {ys : List Int} {c : Int} (ho : o.op = .call { callee := .builtin .append, args := #[s, x], argTypes := #[t, tx] }) (ht : sliceT P t = some (e, 1)) (hz : zeroT P e = some (z, 1)) (hzn : z.length = 1)
    (hb : (P.info? e).map (·.bytes) = some bytes) (htx : sliceT P tx = some (e', 1)) (hsv : ev fr s = some (.slice (nz n g) n n)) (hx : ev fr x = some (.slice (some ⟨g1, 0, none⟩) 1 1)) (hno : NO H g (u8s ys) e n) (hg1 : H.get g1 = some (.row [.int .u8 c] e' true)) (hend : n = ys.length)
    (hN : n + 1 ≤ 16777216) (hB : (n + 1) * bytes ≤ 140737488355328) :
    CDo P o fr H (fun r H' => ∃ g', r = some (.slice (some ⟨g', 0, none⟩) (n + 1) (n + 1)) ∧ St [g] H H' ∧ H.next ≤ g' ∧ H'.get g' = some (.row (u8s (ys ++ [c])) e true)) := by
  rw [u8s_app]
  exact .appendNO ho ht hz hzn hb htx hsv hx hno hg1 (by rw [length_u8s, hend, Nat.mul_one]) rfl rfl hN hB
theorem CDo.appendUS {t tx e : TypeId} {s x : Operand} {g n bytes : Nat} {z : List Value} {ys : List Int} {b : ByteArray} (ho : o.op = .call { callee := .builtin .append, args := #[s, x], argTypes := #[t, tx] }) (ht : sliceT P t = some (e, 1)) (hz : zeroT P e = some (z, 1)) (hzn : z.length = 1)
    (hb : (P.info? e).map (·.bytes) = some bytes) (htx : isStringT P tx = true) (hsv : ev fr s = some (.slice (nz n g) n n)) (hx : ev fr x = some (.string b)) (hno : NO H g (u8s ys) e n) (hend : n = ys.length) (hp : 0 < b.size)
    (hN : n + b.size ≤ 16777216) (hB : (n + b.size) * bytes ≤ 140737488355328) :
    CDo P o fr H (fun r H' => ∃ g', r = some (.slice (some ⟨g', 0, none⟩) (n + b.size) (n + b.size)) ∧ St [g] H H' ∧ H.next ≤ g' ∧ H'.get g' = some (.row (u8s (ys ++ btL b)) e true)) := by
  have hsrc : SrcG P fr H 1 tx x b.size (byteCells b) := .str htx rfl hx
  rcases hno.or with ⟨rfl, h2⟩ | ⟨h1, h2⟩
  · have hy : ys = [] := List.eq_nil_of_length_eq_zero hend.symm
    subst hy
    rw [Nat.zero_add] at hN hB ⊢
    refine .appendNil ho ht hz hzn hb hsv hsrc hp (by unfold maxLen; omega) hB ⟨_, rfl, .push (.refl _ _), Nat.le_refl _, ?_⟩
    rw [GHeap.get_push_new, byteCells_btL, List.nil_append]
  · rw [nz_pos h1] at hsv
    refine (CDo.appendR (off := 0) (cs := u8s ys) (news := byteCells b) ho ht hz hzn hb hsv h2 (by rw [length_u8s]; omega) hsrc hN hB).mono fun r H' ⟨g', h3, h4, h5, h6⟩ => ⟨g', h3, h4, h5, ?_⟩
    rw [h6, List.drop_zero, byteCells_btL, u8s_app]
theorem CDo.appendUNr {t tx e e' : TypeId} {s x : Operand} {g g1 n bytes : Nat} {z : List Value} {ys : List Int} {c : Int} (ho : o.op = .call { callee := .builtin .append, args := #[s, x], argTypes := #[t, tx] }) (ht : sliceT P t = some (e, 1)) (hz : zeroT P e = some (z, 1)) (hzn : z.length = 1)
    (hb : (P.info? e).map (·.bytes) = some bytes) (htx : sliceT P tx = some (e', 1)) (hsv : ev fr s = some (.slice (some ⟨g, 0, none⟩) n n)) (hx : ev fr x = some (.slice (some ⟨g1, 0, none⟩) 1 1)) (hg : H.get g = some (.row (u8s ys) e true)) (hg1 : H.get g1 = some (.row [.int .u8 c] e' true)) (hend : n = ys.length)
    (hN : n + 1 ≤ 16777216) (hB : (n + 1) * bytes ≤ 140737488355328) :
    CDo P o fr H (fun r H' => ∃ g', r = some (.slice (some ⟨g', 0, none⟩) (n + 1) (n + 1)) ∧ St [g] H H' ∧ H.next ≤ g' ∧ H'.get g' = some (.row (u8s (ys ++ [c])) e true)) := by
  rw [u8s_app]
  exact .appendV ho ht hz hzn hb htx hsv hx hg hg1 (by rw [length_u8s, hend, Nat.mul_one]) rfl rfl hN hB
theorem CDo.appendUSr {t tx e : TypeId} {s x : Operand} {g n bytes : Nat} {z : List Value} {ys : List Int} {b : ByteArray} (ho : o.op = .call { callee := .builtin .append, args := #[s, x], argTypes := #[t, tx] }) (ht : sliceT P t = some (e, 1)) (hz : zeroT P e = some (z, 1)) (hzn : z.length = 1)
    (hb : (P.info? e).map (·.bytes) = some bytes) (htx : isStringT P tx = true) (hsv : ev fr s = some (.slice (some ⟨g, 0, none⟩) n n)) (hx : ev fr x = some (.string b)) (hg : H.get g = some (.row (u8s ys) e true)) (hend : n = ys.length)
    (hN : n + b.size ≤ 16777216) (hB : (n + b.size) * bytes ≤ 140737488355328) :
    CDo P o fr H (fun r H' => ∃ g', r = some (.slice (some ⟨g', 0, none⟩) (n + b.size) (n + b.size)) ∧ St [g] H H' ∧ H.next ≤ g' ∧ H'.get g' = some (.row (u8s (ys ++ btL b)) e true)) :=
  (CDo.appendR (off := 0) (cs := u8s ys) (news := byteCells b) ho ht hz hzn hb hsv hg (by rw [length_u8s]; omega) (.str htx rfl hx) hN hB).mono fun r H' ⟨g', h3, h4, h5, h6⟩ => ⟨g', h3, h4, h5, by rw [h6, List.drop_zero, byteCells_btL, u8s_app]⟩
theorem MStep.sliceStrE {t : TypeId} {x : Operand} {lo hi : Option Operand} {s s' : ByteArray} {l h : Nat} (e : s.extract l h = s') (ht : isStringT P t = true) (hx : ev fr x = some (.string s))
    (hlo : match lo with | none => l = 0 | some y => ∃ k, ev fr y = some (.int k l)) (hhi : match hi with | none => h = s.size | some y => ∃ k, ev fr y = some (.int k h)) (h0 : l ≤ h) (h1 : h ≤ s.size) :
    MStep P fr H (.slice t x lo hi none) (.string s') := e ▸ .sliceStr ht hx hlo hhi h0 h1
def rnL (s : ByteArray) : Nat → Nat → List Int
  | 0, _ => []
  | b + 1, i => if i < s.size then ((Utf8.decode s i).1 : Int) :: rnL s b (i + (Utf8.decode s i).2) else []
theorem runesFrom_rnL (s : ByteArray) : ∀ (b i : Nat) (acc : Array Value), Conv.runesFrom s b i acc = acc ++ (runes (rnL s b i)).toArray
  | 0, _, acc => by simp [Conv.runesFrom, rnL, runes]
  | b + 1, i, acc => by
    unfold Conv.runesFrom rnL
    split
    · dsimp only
      rw [runesFrom_rnL s b]
      simp [runes]
    · simp [runes]
theorem rnL_len (s : ByteArray) : ∀ (b i : Nat), (rnL s b i).length ≤ b
  | 0, _ => Nat.le_refl _
  | b + 1, i => by
    have := rnL_len s b (i + (Utf8.decode s i).2)
    unfold rnL
    split
    · rw [List.length_cons]; omega
    · simp
theorem decode_le (s : ByteArray) (i : Nat) : (Utf8.decode s i).1 ≤ 1114111 := by
  unfold Utf8.decode
  dsimp only
  split
  · dsimp only; omega
  split
  · split
    · dsimp only; omega
    · exact (by decide : (65533 : Nat) ≤ 1114111)
  split
  · split
    · dsimp only; omega
    · exact (by decide : (65533 : Nat) ≤ 1114111)
  split
  · split
    · rename_i h
      have hv := (Bool.and_eq_true _ _ ▸ h : _ ∧ _).2
      unfold Utf8.valid at hv
      simp only [Bool.or_eq_true, Bool.and_eq_true, decide_eq_true_eq] at hv
      dsimp only
      omega
    · exact (by decide : (65533 : Nat) ≤ 1114111)
  · exact (by decide : (65533 : Nat) ≤ 1114111)
theorem rnL_run (s : ByteArray) : ∀ (b i : Nat), Run (rnL s b i)
  | 0, _ => fun c hc => by cases hc
  | b + 1, i => fun c hc => by
    unfold rnL at hc
    split at hc
    · rcases List.mem_cons.1 hc with rfl | hc
      · have := decode_le s i
        exact ⟨by omega, by omega⟩
      · exact rnL_run s b _ c hc
    · cases hc
theorem rnL_plain (s : ByteArray) (h : ∀ c ∈ btL s, Pl c) : ∀ (b i : Nat), s.size ≤ i + b → rnL s b i = rest s i
  | 0, i, hb => by rw [rest_nil (by omega)]; rfl
  | b + 1, i, hb => by
    unfold rnL
    split
    · rename_i hi
      obtain ⟨c, hc, hr⟩ := rest_cons hi
      have hcl : (c.toNat : Int) ∈ btL s := by
        rw [← btL_rest]
        unfold rest at hr ⊢
        rw [List.drop_zero]
        have : (c.toNat : Int) ∈ List.map (fun c : UInt8 => (c.toNat : Int)) (List.drop i s.data.toList) := by rw [hr]; exact List.mem_cons_self
        obtain ⟨d, hd, e⟩ := List.mem_map.1 this
        exact List.mem_map.2 ⟨d, List.mem_of_mem_drop hd, e⟩
      have hlt := (h _ hcl).2
      have hg : s.get! (i + 0) = c := by
        have hc' : s[i]? = some c := hc
        rw [getElem?_pos s i hi] at hc'
        have e1 : s.get! (i + 0) = s.data[i]! := rfl
        have hi' : i < s.data.size := hi
        rw [e1, getElem!_pos s.data i hi']
        exact Option.some.inj hc'
      have hd : Utf8.decode s i = (c.toNat, 1) := by
        unfold Utf8.decode
        dsimp only
        rw [if_pos (by rw [hg]; omega), hg]
      rw [hd]
      dsimp only
      rw [rnL_plain s h b (i + 1) (by omega), hr]
    · rename_i hi
      rw [rest_nil (by omega)]
def runesT (P : Program) (t e : TypeId) : Bool :=
  match P.underlying t with
  | some (.slice e') => match P.underlying e with
    | some (.int .i32) => Nat.beq e' e
    | _ => false
  | _ => false
theorem runesT_run {t e : TypeId} (h : runesT P t e = true) : P.underlying t = some (.slice e) ∧ P.underlying e = some (.int .i32) := by
  unfold runesT at h
  split at h
  · rename_i e' he
    split at h
    · rename_i hk
      have := Nat.eq_of_beq_eq_true h
      subst this
      exact ⟨he, hk⟩
    · cases h
  · cases h
theorem CDo.runesR {src dst e : TypeId} {x : Operand} {s : ByteArray} (ho : o.op = .convert src dst x) (hs : isStringT P src = true) (hd : runesT P dst e = true) (hsz : (P.info? e).map (·.size) = some 1) (hx : ev fr x = some (.string s)) (hl : s.size ≤ 16777216) :
    CDo P o fr H (fun r H' => ∃ g, r = some (.slice (some ⟨g, 0, none⟩) (rnL s s.size 0).length (rnL s s.size 0).length) ∧ H.Le H' ∧ H.next ≤ g ∧ H'.get g = some (.row (runes (rnL s s.size 0)) e true)) := .mk fun B w0 ρ a w hsim hf next Q hn => by
  rw [ho] at hf
  have hxe : a.eval x = .string s := (ev_rel hf (x := x) (by simp [Op.operands]) hx).str
  obtain ⟨hd1, hd2⟩ := runesT_run hd
  have hW := rnL_len s s.size 0
  have hrl : (runes (rnL s s.size 0)).length = (rnL s s.size 0).length := List.length_map _
  have er : Conv.runesFrom s s.size 0 #[] = (runes (rnL s s.size 0)).toArray := by rw [runesFrom_rnL]; simp
  have ers : (Conv.runesFrom s s.size 0 #[]).size = (rnL s s.size 0).length := by rw [er]; simpa using hrl
  have hrun := run_runes_of_string (P := P) w src dst e s (isStringT_run hs) hd1 hd2 (by rw [ers]; omega)
  rw [ers, er] at hrun
  generalize hc : grownCap w (rnL s s.size 0).length 0 e = cap at hrun
  have hge : (rnL s s.size 0).length ≤ cap := by rw [← hc]; exact grownCap_ge w _ 0 e
  have hmx : cap ≤ maxLen := by rw [← hc]; exact grownCap_le_maxLen w _ 0 e (by unfold maxLen; omega)
  generalize hC : (runes (rnL s s.size 0)).toArray ++ Array.replicate (cap - (rnL s s.size 0).length) (Value.int .i32 0) = C at hrun
  have hCs : C.size = cap := by rw [← hC]; simp [hrl]; omega
  obtain ⟨ρ', hext, hs', hsp⟩ := new_row hsim.drew (cs := runes (rnL s s.size 0)) (C := C) (e := e) (n := 1) hsz (by omega) (fun j v hv => by
    refine ⟨v, ?_, ?_⟩
    · rw [← hC, Array.getElem?_append_left (by have := (List.getElem?_eq_some_iff.1 hv).1; simpa using this)]
      simpa using hv
    · obtain ⟨c, _, rfl⟩ := List.mem_map.1 (List.mem_of_getElem? hv)
      exact .int _ _)
  refine upon_value (c := .slice (some ⟨w.heap.size, 0, none⟩) (rnL s s.size 0).length cap) (w' := w.drew.alloc (.cells C e)) ?_ (hn ρ' _ _ _ _ ⟨H.next, rfl, GHeap.le_push _ _, Nat.le_refl _, GHeap.get_push_new _ _⟩ hext hs' fun y hy => ?_)
  · unfold execOp
    simp only [ho]
    refine v_run' ?_
    rw [hxe]
    exact hrun
  · cases hy
    have := VRel.slice (ρ := ρ') (g := H.next) (o := 0) (n := (rnL s s.size 0).length) (cap := cap) hsp hge (by show 0 + cap * 1 ≤ C.size; omega) hmx
    simpa using this
end
theorem CDo.runesW {P : Program} {o : Oper} {fr : Slots} {H : GHeap} {src dst e : TypeId} {x : Operand} {s : ByteArray} {W : List Int} (hW : rnL s s.size 0 = W) (ho : o.op = .convert src dst x) (hs : isStringT P src = true) (hd : runesT P dst e = true) (hsz : (P.info? e).map (·.size) = some 1) (hx : ev fr x = some (.string s)) (hl : s.size ≤ 16777216) :
    CDo P o fr H (fun r H' => ∃ g, r = some (.slice (some ⟨g, 0, none⟩) W.length W.length) ∧ H.Le H' ∧ H.next ≤ g ∧ H'.get g = some (.row (runes W) e true)) := hW ▸ CDo.runesR ho hs hd hsz hx hl
def Fm.hd : Fm → Nd
  | .tt => ⟨0, 0, []⟩
  | .ff => ⟨1, 0, []⟩
  | .rel s az => ⟨2, s, az⟩
  | .eql u v => ⟨3, 0, [u, v]⟩
  | .ex s _ => ⟨7, s, []⟩
  | .all s _ => ⟨8, s, []⟩
  | .bin k _ _ => ⟨k, 0, []⟩
theorem Fm.nodes_hd (p : Fm) : ∃ l, p.nodes = p.hd :: l := by cases p <;> exact ⟨_, rfl⟩
theorem Fm.hd_of {p : Fm} {L q : List Nd} {i : Nat} (h : L.drop i = p.nodes ++ q) : i < L.length ∧ L.getD i ndz = p.hd := by
  obtain ⟨l, hl⟩ := p.nodes_hd
  rw [hl, List.cons_append] at h
  have h0 : (L.drop i)[0]? = some p.hd := by rw [h]; rfl
  rw [List.getElem?_drop, Nat.add_zero] at h0
  exact ⟨(List.getElem?_eq_some_iff.1 h0).1, by rw [List.getD_eq_getElem?_getD, h0]; rfl⟩
theorem Fm.drop_of {p : Fm} {L q : List Nd} {i : Nat} (h : L.drop i = p.nodes ++ q) : L.drop (i + p.nodes.length) = q := by
  rw [← List.drop_drop, h, List.drop_left]
theorem drop_tl {L l : List Nd} {x : Nd} {i : Nat} (h : L.drop i = x :: l) : L.drop (i + 1) = l := by rw [← List.drop_drop, h]; rfl
theorem Fm.hd_s {p : Fm} (h : p.Lim) : 0 ≤ p.hd.s ∧ p.hd.s < 4 := by
  cases p with
  | rel s az => exact h.1
  | ex s p => exact ⟨h.1.1, by have := h.1.2; show s < 4; omega⟩
  | all s p => exact ⟨h.1.1, by have := h.1.2; show s < 4; omega⟩
  | _ => exact ⟨Int.le_refl 0, (by decide : (0 : Int) < 4)⟩
theorem Fm.of_0 {p : Fm} (h : p.Lim) (e : p.hd.k = 0) : p = .tt := by
  cases p with
  | tt => rfl
  | bin k p q => have := h.1; replace e : k = 0 := e; omega
  | _ => simp [Fm.hd] at e
theorem Fm.of_1 {p : Fm} (h : p.Lim) (e : p.hd.k = 1) : p = .ff := by
  cases p with
  | ff => rfl
  | bin k p q => have := h.1; replace e : k = 1 := e; omega
  | _ => simp [Fm.hd] at e
theorem Fm.of_2 {p : Fm} (h : p.Lim) (e : p.hd.k = 2) : ∃ s az, p = .rel s az := by
  cases p with
  | rel s az => exact ⟨s, az, rfl⟩
  | bin k p q => have := h.1; replace e : k = 2 := e; omega
  | _ => simp [Fm.hd] at e
theorem Fm.of_3 {p : Fm} (h : p.Lim) (e : p.hd.k = 3) : ∃ u v, p = .eql u v := by
  cases p with
  | eql u v => exact ⟨u, v, rfl⟩
  | bin k p q => have := h.1; replace e : k = 3 := e; omega
  | _ => simp [Fm.hd] at e
theorem Fm.of_7 {p : Fm} (h : p.Lim) (e : p.hd.k = 7) : ∃ s q, p = .ex s q := by
  cases p with
  | ex s q => exact ⟨s, q, rfl⟩
  | bin k p q => have := h.1; replace e : k = 7 := e; omega
  | _ => simp [Fm.hd] at e
theorem Fm.of_8 {p : Fm} (h : p.Lim) (e : p.hd.k = 8) : ∃ s q, p = .all s q := by
  cases p with
  | all s q => exact ⟨s, q, rfl⟩
  | bin k p q => have := h.1; replace e : k = 8 := e; omega
  | _ => simp [Fm.hd] at e
theorem Fm.of_bin {p : Fm} (e : ¬ (p.hd.k = 0 ∨ p.hd.k = 1 ∨ p.hd.k = 2 ∨ p.hd.k = 3 ∨ p.hd.k = 7 ∨ p.hd.k = 8)) : ∃ k q q', p = .bin k q q' := by
  cases p with
  | bin k q q' => exact ⟨k, q, q', rfl⟩
  | _ => simp [Fm.hd] at e
theorem AgN.turn {e : TypeId} {B g : Nat} {H H' : GHeap} {r : Nat → Option Addr} {L : List Nd} (h : AgN e B H r L) (st : St [g] H H') (hf : ∀ j, j < L.length → r j ≠ some ⟨g, 0, none⟩) : AgN e B H' r L := fun j hj => by
  rcases h j hj with q | ⟨x, q1, q2, q3⟩
  · exact .inl q
  · exact .inr ⟨x, q1, q2, st.same x _ ⟨fun e1 => hf j hj (by rw [q1, e1]), trivial⟩ q3⟩
theorem atx_snoc : ∀ (az : List Int) (v : Int), atx (az ++ [v]) = (if az.length > 0 then atx az ++ [44] else []) ++ vtx v
  | [], v => by simp [atx, ctx]
  | a :: az, v => by
    have hc : ∀ l : List Int, ctx (l ++ [v]) = ctx l ++ 44 :: vtx v := by
      intro l
      induction l with
      | nil => simp [ctx]
      | cons b l ih => simp [ctx, ih]
    rw [if_pos (by simp)]
    simp [atx, hc]
theorem take_gD {az : List Int} {k : Nat} (h : k < az.length) : az.take (k + 1) = az.take k ++ [az.getD k 0] := by
  rw [List.take_succ_eq_append_getElem h]
  simp [List.getD_eq_getElem?_getD, h]
theorem atx_len (az : List Int) : 3 * az.length ≤ (atx az).length + 1 ∧ (atx az).length ≤ 3 * az.length := by
  have hc : ∀ l : List Int, (ctx l).length = 3 * l.length := by
    intro l
    induction l with
    | nil => simp [ctx]
    | cons b l ih => simp only [ctx, vtx, List.length_cons, List.length_append, List.length_nil] at ih ⊢; omega
  cases az with
  | nil => simp [atx]
  | cons b l => have := hc l; simp only [atx, vtx, List.length_cons, List.length_append, List.length_nil] at this ⊢; omega
theorem Fm.text_len : ∀ p : Fm, (∀ x ∈ p.nodes, x.Ok) → p.text.length ≤ 10 * p.nodes.length
  | .tt, _ => by simp [Fm.text, Fm.nodes]
  | .ff, _ => by simp [Fm.text, Fm.nodes]
  | .rel s az, h => by
    have h1 := (h ⟨2, s, az⟩ (by simp [Fm.nodes])).2
    rw [if_pos rfl] at h1
    have hc : ∀ l : List Int, (ctx l).length ≤ 3 * l.length := by
      intro l
      induction l with
      | nil => simp [ctx]
      | cons b l ih => simp only [ctx, vtx, List.length_cons, List.length_append, List.length_nil] at ih ⊢; omega
    have ha : (atx az).length ≤ 3 * az.length := by
      cases az with
      | nil => simp [atx]
      | cons b l => have := hc l; simp only [atx, vtx, List.length_cons, List.length_append, List.length_nil] at this ⊢; omega
    have h2 : az.length ≤ 2 := h1.2
    simp only [Fm.text, Fm.nodes, List.length_cons, List.length_append, List.length_nil]
    omega
  | .eql u v, _ => by simp [Fm.text, Fm.nodes, vtx]
  | .ex s p, h => by
    have := p.text_len fun x hx => h x (by simp [Fm.nodes, hx])
    simp only [Fm.text, Fm.nodes, List.length_cons]
    omega
  | .all s p, h => by
    have := p.text_len fun x hx => h x (by simp [Fm.nodes, hx])
    simp only [Fm.text, Fm.nodes, List.length_cons]
    omega
  | .bin k p q, h => by
    have h1 := p.text_len fun x hx => h x (by simp [Fm.nodes, hx])
    have h2 := q.text_len fun x hx => h x (by simp [Fm.nodes, hx])
    simp only [Fm.text, Fm.nodes, List.length_cons, List.length_append, List.length_nil]
    omega
end Go.GL
namespace Go.Proofs.YtdnjnligclkkgaaDoor
open Go Go.GL Go.RowKit Go.Proofs
theorem sl_63_Uh : sliceT Tryd.prog 63 = some (5, 1) := by kernel_rfl
theorem ze_5_Uh : zeroT Tryd.prog 5 = some ([.int .u8 0], 1) := by kernel_rfl
theorem by_5_Uh : (Tryd.prog.info? 5).map (·.bytes) = some 1 := by kernel_rfl
theorem variable_c {v : Int} {H : GHeap} (h0 : 0 ≤ v := by omega) (h1 : v < 10 := by omega) :
    GCalls Tryd.prog 43 [.int .i64 v] H (Ret (.string (⟨#[118]⟩ ++ decB v.toNat)) H) := by
  have _ := decB_size v.toNat
  refine GCalls.body (N := 6) (rs := [.tmp 2]) Tryd.func43 rfl rfl rfl rfl (fun Qx a hend => ?_)
  refine .fg [0] rfl ?_
  have _ := GHeap.Le.refl H
  refine .seq (fun K1 b => .region (.mv rfl (.nil (b _ _ (.seq (fun K2 c => .region (.mv rfl ?_)))))))
  refine .callQ rfl rfl rfl rfl @Tryd.call42 rfl (fmtZ_c) ?_
  refine .q rfl (.strAdd rfl rfl (by show 1 + _ ≤ _; omega)) ?_
  refine .mv rfl (.nil (c _ _ (.ret (a _ _ (⟨_, rfl, ?_⟩)))))
  exact .of rfl
theorem btL_var {v : Int} (h : 0 ≤ v ∧ v < 10) : btL (⟨#[118]⟩ ++ decB v.toNat) = vtx v := by rw [btL_app, btL_dec h]; rfl
def TxQ (bs : List Int) (p : Fm) (i gO : Nat) (H : GHeap) (v : Value) (H' : GHeap) : Prop := ∃ (gO' m : Nat) (j : Int), v = .tuple #[.slice (some ⟨gO', 0, none⟩) m m, .int .i64 j] ∧ m = (bs ++ p.text).length ∧ j = ((i + p.nodes.length : Nat) : Int) ∧ St [gO] H H' ∧ H.next ≤ gO' ∧ H'.get gO' = some (.row (u8s (bs ++ p.text)) 5 true)
def TextSpec (n : Nat) : Prop := ∀ {p : Fm} {gL i gO B m : Nat} {j : Int} {a : Option Addr} {L q : List Nd} {r : Nat → Option Addr} {bs : List Int} {H : GHeap} (_ : p.nodes.length < n) (_ : p.Lim) (_ : L.drop i = p.nodes ++ q) (_ : L.length ≤ 40) (_ : H.get gL = some (.row (ndV r L) 38 true)) (_ : AgN 2 B H r L)
    (_ : NO H gO (u8s bs) 5 bs.length) (_ : gL ≠ gO) (_ : ∀ j, j < L.length → r j ≠ some ⟨gO, 0, none⟩) (_ : bs.length + p.text.length ≤ 1048576) (_ : m = bs.length) (_ : a = nz m gO) (_ : j = (i : Int)),
    GCalls Tryd.prog 39 [.slice a m m, .slice (some ⟨gL, 0, none⟩) L.length L.length, .int .i64 j] H (TxQ bs p i gO H)
set_option maxHeartbeats 8000000 in
theorem formulaText_step {n : Nat} (ih : TextSpec n) : TextSpec (n + 1) := by
  intro p gL i gO B m j a L q r bs H hn hp hd hl hL hA no_O hne hfar hbl em ea ej
  subst em ea ej
  obtain ⟨hi, hx⟩ := Fm.hd_of hd
  obtain ⟨hs0, hs1⟩ := Fm.hd_s hp
  have hdz := decB_size p.hd.s.toNat
  have hgL := GHeap.ltg hL
  have sA := ndV_slA hL
  have hm := ndV_mem hL (i := i) hi
  rw [hx] at hm
  have hIs : Ints H (r i) p.hd.az := by have := (hA i hi).ints; rw [hx] at this; exact this
  refine GCalls.body (N := 138) (rs := [.tmp 6, .tmp 7]) Tryd.func39 rfl rfl rfl rfl (fun Qx hret hend => ?_)
  refine .fg [0, 1, 2] rfl ?_
  have lt_hL := GHeap.ltg hL
  have hst := St.refl [gO] H
  refine .seq (fun K1 hK1 => .region (.mv rfl (.mv rfl (.nil (hK1 _ _ (.seq (fun K2 hK2 => .region (.mv rfl (.mv rfl ?_)))))))))
  refine .q rfl (.idx sl_22_Ub sA (by omega) rfl rfl (by omega) (by omega) rfl) ?_
  refine .mv rfl (.nil (hK2 _ _ (.seq (fun K3 hK3 => .region (.mv rfl (.q rfl (.aD rfl rfl rfl) (.mv rfl (.nil (hK3 _ _ (.seq (fun K4 hK4 => .region (.mv rfl (.q rfl (.nilCheck rfl) (.q rfl (.fieldAddr fo_38_1_Ub rfl) (.q rfl (.load on_2_A rfl (hm.2 1 _ rfl)) ?_)))))))))))))))
  refine .callQ rfl rfl rfl rfl @Tryd.call42 rfl (fmtZ_c hs0 (by omega)) ?_
  refine .mv rfl (.nil (hK4 _ _ (.seq (fun K5 hK5 => .seq (fun K6 hK6 => .region (.mv rfl (.q rfl (.nilCheck rfl) (.q rfl (.fieldAddr fo_38_0_Ub rfl) (.q rfl (.load on_2_A rfl (hm.2 0 _ rfl)) (.nil (hK6 _ _ (.block (.seq (fun K7 hK7 => .region (.q rfl (.cmp rfl rfl rfl) ?_)))))))))))))))
  refine .mv rfl (.nil (hK7 _ _ ?_))
  refine .cond rfl ?_ ?_ <;> intro h26
  ·
   simp only [sps] at h26
   refine .seq (fun K8 hK8 => .region (.mv rfl ?_))
   have lt_no_O := no_O.lt
   refine .R rfl (.litA rfl sl_63_Uh ze_5_Uh rfl rfl rfl rfl) ?_
   rintro _ H29 ⟨g29, rfl, le29, ge29, at29⟩
   have nx_H29 := le29.1
   replace hst := hst.le le29
   replace hL := le29.2 _ _ hL
   replace no_O := no_O.le le29
   have lt_at29 := GHeap.ltg at29
   refine .R rfl (.appendUN rfl sl_63_Uh ze_5_Uh rfl by_5_Uh sl_63_Uh rfl rfl no_O (by assumption) rfl (by omega) (by omega)) ?_
   rintro _ H30 ⟨g30, rfl, st30, ge30, at30⟩
   have nx_H30 := st30.nx
   replace hst := hst.sA st30
   have ne_gL_gO : NE gL gO := .a
   replace hL := st30.s hL ne_gL_gO.ne
   replace at29 := st30.s at29
   have lt_at30 := GHeap.ltg at30
   refine .mv rfl (.mv rfl (.mv rfl (.nil (hK8 _ _ (.ret (hret _ _ (⟨_, _, rfl, rfl, ?_⟩)))))))
   first
   | exact ⟨g136, _, _, rfl, by rw [List.length_append, htl]; omega, by rw [hnl, hjX]; omega, hst, by omega, e9 ▸ at136⟩
   | (obtain rfl := Fm.of_0 hp h26; exact ⟨g30, _, _, rfl, by simp [Fm.text], by simp [Fm.nodes], hst, by omega, at30⟩)
   | (obtain rfl := Fm.of_1 hp h32; exact ⟨g36, _, _, rfl, by simp [Fm.text], by simp [Fm.nodes], hst, by omega, at36⟩)
   | exact ⟨g67, _, _, rfl, by rw [List.length_append, htl]; rw [List.take_length] at hyl; omega, by simp [Fm.nodes], hst, by omega, (show bs ++ (Fm.rel s az).text = ys ++ [41] by rw [hy, List.take_length]; simp [Fm.text]) ▸ at67⟩
   | exact ⟨gZ, _, _, rfl, by rw [hmZ, e9t]; simp, by rw [hjZ, e9n, List.length_cons]; omega, hst, by omega, by rw [e9t]; simpa using atZ⟩
   | exact ⟨g88, _, _, rfl, by rw [List.length_append]; omega, by simp [Fm.nodes], hst, by omega, at88⟩
  simp only [sps] at h26
  refine .seq (fun K9 hK9 => .region (.q rfl (.cmp rfl rfl rfl) (.mv rfl (.nil (hK9 _ _ ?_)))))
  refine .cond rfl ?_ ?_ <;> intro h32
  ·
   simp only [sps] at h32
   refine .seq (fun K10 hK10 => .region (.mv rfl ?_))
   have lt_no_O := no_O.lt
   refine .R rfl (.litA rfl sl_63_Uh ze_5_Uh rfl rfl rfl rfl) ?_
   rintro _ H35 ⟨g35, rfl, le35, ge35, at35⟩
   have nx_H35 := le35.1
   replace hst := hst.le le35
   replace hL := le35.2 _ _ hL
   replace no_O := no_O.le le35
   have lt_at35 := GHeap.ltg at35
   refine .R rfl (.appendUN rfl sl_63_Uh ze_5_Uh rfl by_5_Uh sl_63_Uh rfl rfl no_O (by assumption) rfl (by omega) (by omega)) ?_
   rintro _ H36 ⟨g36, rfl, st36, ge36, at36⟩
   have nx_H36 := st36.nx
   replace hst := hst.sA st36
   have ne_gL_gO : NE gL gO := .a
   replace hL := st36.s hL ne_gL_gO.ne
   replace at35 := st36.s at35
   have lt_at36 := GHeap.ltg at36
   refine .mv rfl (.mv rfl (.mv rfl (.nil (hK10 _ _ (.ret (hret _ _ (⟨_, _, rfl, rfl, ?_⟩)))))))
   first
   | exact ⟨g136, _, _, rfl, by rw [List.length_append, htl]; omega, by rw [hnl, hjX]; omega, hst, by omega, e9 ▸ at136⟩
   | (obtain rfl := Fm.of_0 hp h26; exact ⟨g30, _, _, rfl, by simp [Fm.text], by simp [Fm.nodes], hst, by omega, at30⟩)
   | (obtain rfl := Fm.of_1 hp h32; exact ⟨g36, _, _, rfl, by simp [Fm.text], by simp [Fm.nodes], hst, by omega, at36⟩)
   | exact ⟨g67, _, _, rfl, by rw [List.length_append, htl]; rw [List.take_length] at hyl; omega, by simp [Fm.nodes], hst, by omega, (show bs ++ (Fm.rel s az).text = ys ++ [41] by rw [hy, List.take_length]; simp [Fm.text]) ▸ at67⟩
   | exact ⟨gZ, _, _, rfl, by rw [hmZ, e9t]; simp, by rw [hjZ, e9n, List.length_cons]; omega, hst, by omega, by rw [e9t]; simpa using atZ⟩
   | exact ⟨g88, _, _, rfl, by rw [List.length_append]; omega, by simp [Fm.nodes], hst, by omega, at88⟩
  simp only [sps] at h32
  refine .seq (fun K11 hK11 => .region (.q rfl (.cmp rfl rfl rfl) (.mv rfl (.nil (hK11 _ _ ?_)))))
  refine .cond rfl ?_ ?_ <;> intro h38
  ·
   simp only [sps] at h38
   obtain ⟨s, az, rfl⟩ := Fm.of_2 hp h38
   have hal := atx_len az
   have hz : (Fm.rel s az).hd.az.length = az.length := rfl
   have htl : (Fm.rel s az).text.length = (atx az).length + 4 := by simp [Fm.text]
   have e1 : btL (⟨#[82]⟩ ++ decB (Fm.rel s az).hd.s.toNat ++ ⟨#[40]⟩) = [82, 48 + s, 40] := by rw [btL_app, btL_app, btL_dec ⟨hs0, by omega⟩]; rfl
   have e2 : (⟨#[82]⟩ ++ decB (Fm.rel s az).hd.s.toNat ++ ⟨#[40]⟩ : ByteArray).size = 3 := by rw [← btL_size, e1]; rfl
   have e4 : bs.length + (⟨#[82]⟩ ++ decB (Fm.rel s az).hd.s.toNat ++ ⟨#[40]⟩ : ByteArray).size = (bs ++ [82, 48 + s, 40]).length := by rw [e2]; simp
   refine .seq (fun K12 hK12 => .region (.mv rfl ?_))
   have lt_no_O := no_O.lt
   refine .mv rfl ?_
   refine .q rfl (.strAdd rfl rfl (by show 1 + _ ≤ _; omega)) ?_
   refine .q rfl (.strAdd rfl rfl (by rw [ByteArray.size_append]; show 1 + _ + 1 ≤ _; omega)) ?_
   refine .R rfl (.appendUS rfl sl_63_Uh ze_5_Uh rfl by_5_Uh st_9_Tm rfl rfl no_O rfl (by omega) (by omega) (by omega)) ?_
   rintro _ H44 ⟨g44, rfl, st44, ge44, at44⟩
   have nx_H44 := st44.nx
   replace hst := hst.sA st44
   have ne_gL_gO : NE gL gO := .a
   replace hL := st44.s hL ne_gL_gO.ne
   have lt_at44 := GHeap.ltg at44
   rw [e1] at at44
   refine .mv rfl (.nil (hK12 _ _ (.seq (fun K13 hK13 => .seq (fun K14 hK14 => .region (.mv rfl (.q rfl (.nilCheck rfl) (.q rfl (.fieldAddr fo_38_2_Ub rfl) ?_))))))))
   have hm2 := ndV_mem hL (i := i) hi
   rw [hx] at hm2
   refine .q rfl (.load (v := .slice (r i) az.length az.length) on_36_Ub rfl (hm2.2 2 _ rfl)) (.q rfl (.len sl_36_A rfl) (.mv rfl (.nil (hK14 _ _ (.block ?_)))))
   refine .loopF (σ := Nat × List Int × Nat × Nat) [2, 48, 49] (fun (k, ys, gL0, nL0) => [(50, some (.int .i64 (k : Int))), (0, some (.slice (some ⟨gL0, 0, none⟩) nL0 nL0))]) (fun (k, ys, gL0, nL0) H' => St [g44] H44 H' ∧ H'.get gL0 = some (.row (u8s ys) 5 true) ∧ (gL0 = g44 ∨ H44.next ≤ gL0) ∧ nL0 = ys.length ∧ k ≤ az.length ∧ ys = bs ++ [82, 48 + s, 40] ++ atx (az.take k)) (fun (k, ys, gL0, nL0) => az.length - k) ((0, bs ++ [82, 48 + s, 40], _, _)) rfl (.p rfl) ?_ ?_
   ·
    refine ⟨.refl _ _, by first | assumption | exact at44 | simpa using at44, .inl rfl, by first | rfl | assumption | simp | omega, ?_⟩
    exact ⟨by omega, by simp [atx]⟩
   rintro ⟨k, ys, gL0, nL0⟩ HL1 ⟨lst1, at_L0, pl_L0, ln_L0, hI⟩ KL1 hKL1
   dsimp only [cA, nA]
   have nx_HL1 := lst1.nx
   replace hst := hst.sA lst1
   replace hL := lst1.s hL
   have lt_at_L0 := GHeap.ltg at_L0
   obtain ⟨hk, hy⟩ := hI
   have hI1 : Ints HL1 (r i) az := by have := ((hA.turn hst hfar) i hi).ints; rw [hx] at this; exact this
   have hta := (atx_len (az.take k)).2
   have hyl : ys.length = bs.length + 3 + (atx (az.take k)).length := by rw [hy]; simp; omega
   have htk : (az.take k).length = k := by rw [List.length_take]; omega
   refine .seq (fun K15 hK15 => .region (.q rfl (.cmp rfl rfl rfl) (.nil (hK15 _ _ (.seq (fun K16 hK16 => ?_))))))
   refine .cond rfl ?_ ?_ <;> intro h51
   ·
    simp only [sps] at h51
    have hv := hp.2 _ (getD_mem (xs := az) (i := k) (by omega))
    have hvl : (vtx (az.getD k 0)).length = 2 := rfl
    have e5 : btL (⟨#[118]⟩ ++ decB (az.getD k 0).toNat) = vtx (az.getD k 0) := btL_var ⟨hv.1, by have := hv.2; omega⟩
    have e6 : (⟨#[118]⟩ ++ decB (az.getD k 0).toNat : ByteArray).size = 2 := by rw [← btL_size, e5]; rfl
    refine .skip (hK16 _ _ (.seq (fun K17 hK17 => .block (.seq (fun K18 hK18 => .region (.mv rfl (.q rfl (.iN sl_36_A rfl rfl) (.q rfl (.lI on_2_A rfl) (.mv rfl (.mv rfl (.nil (hK18 _ _ (.seq (fun K19 hK19 => .seq (fun K20 hK20 => .region ?_)))))))))))))))
    refine .mv rfl (.q rfl (.cmp rfl rfl rfl) (.nil (hK20 _ _ ?_)))
    refine .cond rfl ?_ ?_ <;> intro h56
    ·
     simp only [sps] at h56
     refine .region (.mv rfl ?_)
     refine .R rfl (.litA rfl sl_63_Uh ze_5_Uh rfl rfl rfl rfl) ?_
     rintro _ H58 ⟨g58, rfl, le58, ge58, at58⟩
     have nx_H58 := le58.1
     replace hst := hst.le le58
     replace lst1 := lst1.le le58
     replace hL := le58.2 _ _ hL
     replace at_L0 := le58.2 _ _ at_L0
     have lt_at58 := GHeap.ltg at58
     refine .R rfl (.appendUNr rfl sl_63_Uh ze_5_Uh rfl by_5_Uh sl_63_Uh rfl rfl at_L0 (by assumption) (by omega) (by omega) (by omega)) ?_
     rintro _ H59 ⟨g59, rfl, st59, ge59, at59⟩
     have nx_H59 := st59.nx
     replace hst := hst.sA st59
     replace lst1 := lst1.sA st59
     have ne_gL_gL0 : NE gL gL0 := .a
     replace hL := st59.s hL ne_gL_gL0.ne
     replace at58 := st59.s at58
     have lt_at59 := GHeap.ltg at59
     obtain ⟨yb, hyb⟩ : ∃ l : List Int, l = ys ++ [44] := ⟨_, rfl⟩
     rw [← hyb] at at59
     have hyc : yb = bs ++ [82, 48 + s, 40] ++ (if (az.take k).length > 0 then atx (az.take k) ++ [44] else []) := by rw [if_pos (by omega), hyb, hy]; simp
     have hybl : yb.length = ys.length + 1 := by rw [hyb]; simp
     refine .mv rfl (.nil (hK19 _ _ (.region (.mv rfl (.mv rfl ?_)))))
     refine .callQ rfl rfl rfl rfl @Tryd.call43 rfl (variable_c hv.1 (by have := hv.2; omega)) ?_
     refine .R rfl (.appendUSr rfl sl_63_Uh ze_5_Uh rfl by_5_Uh st_9_Tm rfl rfl at59 (by omega) (by omega) (by omega)) ?_
     rintro _ H63 ⟨g63, rfl, st63, ge63, at63⟩
     have nx_H63 := st63.nx
     replace hst := hst.sA st63
     replace lst1 := lst1.sA st63
     replace hL := st63.s hL
     replace at58 := st63.s at58
     have lt_at63 := GHeap.ltg at63
     rw [e5] at at63
     refine .mv rfl (.nil (hK17 _ _ (.region (.q rfl (.aD rfl rfl rfl) (.mv rfl (.nil ?_))))))
     refine hKL1 ((k + 1, yb ++ vtx (az.getD k 0), _, _)) _ _ ?_ ?_ (.p rfl)
     ·
      refine ⟨lst1, by assumption, by omega, by first | omega | (simp only [List.length_append, List.length_cons, List.length_nil] <;> omega), ?_⟩
      exact ⟨by omega, by rw [take_gD (by omega), atx_snoc, hyc]; simp⟩
     (dsimp only; omega)
    simp only [sps] at h56
    obtain ⟨yb, hyb⟩ : ∃ l : List Int, l = ys := ⟨_, rfl⟩
    rw [← hyb] at at_L0
    have hk0 : k = 0 := by omega
    have hyc : yb = bs ++ [82, 48 + s, 40] ++ (if (az.take k).length > 0 then atx (az.take k) ++ [44] else []) := by rw [if_neg (by omega), hyb, hy, hk0]; simp [atx]
    have hybl : yb.length = ys.length := by rw [hyb]
    refine .skip (hK19 _ _ (.region (.mv rfl (.mv rfl ?_))))
    refine .callQ rfl rfl rfl rfl @Tryd.call43 rfl (variable_c hv.1 (by have := hv.2; omega)) ?_
    refine .R rfl (.appendUSr rfl sl_63_Uh ze_5_Uh rfl by_5_Uh st_9_Tm rfl rfl at_L0 (by omega) (by omega) (by omega)) ?_
    rintro _ H63x2 ⟨g63x2, rfl, st63x2, ge63x2, at63x2⟩
    have nx_H63x2 := st63x2.nx
    replace hst := hst.sA st63x2
    replace lst1 := lst1.sA st63x2
    have ne_gL_gL0 : NE gL gL0 := .a
    replace hL := st63x2.s hL ne_gL_gL0.ne
    have lt_at63x2 := GHeap.ltg at63x2
    rw [e5] at at63x2
    refine .mv rfl (.nil (hK17 _ _ (.region (.q rfl (.aD rfl rfl rfl) (.mv rfl (.nil ?_))))))
    refine hKL1 ((k + 1, yb ++ vtx (az.getD k 0), _, _)) _ _ ?_ ?_ (.p rfl)
    ·
     refine ⟨lst1, by assumption, by omega, by first | omega | (simp only [List.length_append, List.length_cons, List.length_nil] <;> omega), ?_⟩
     exact ⟨by omega, by rw [take_gD (by omega), atx_snoc, hyc]; simp⟩
    (dsimp only; omega)
   simp only [sps] at h51
   obtain rfl : k = az.length := by omega
   refine .exit (hK13 _ _ (.seq (fun K21 hK21 => .region (.mv rfl ?_))))
   refine .R rfl (.litA rfl sl_63_Uh ze_5_Uh rfl rfl rfl rfl) ?_
   rintro _ H66 ⟨g66, rfl, le66, ge66, at66⟩
   have nx_H66 := le66.1
   replace hst := hst.le le66
   replace lst1 := lst1.le le66
   replace hL := le66.2 _ _ hL
   replace at_L0 := le66.2 _ _ at_L0
   have lt_at66 := GHeap.ltg at66
   refine .R rfl (.appendUNr rfl sl_63_Uh ze_5_Uh rfl by_5_Uh sl_63_Uh rfl rfl at_L0 (by assumption) (by omega) (by omega) (by omega)) ?_
   rintro _ H67 ⟨g67, rfl, st67, ge67, at67⟩
   have nx_H67 := st67.nx
   replace hst := hst.sA st67
   replace lst1 := lst1.sA st67
   have ne_gL_gL0 : NE gL gL0 := .a
   replace hL := st67.s hL ne_gL_gL0.ne
   replace at66 := st67.s at66
   have lt_at67 := GHeap.ltg at67
   refine .mv rfl (.mv rfl (.mv rfl (.nil (hK21 _ _ (.ret (hret _ _ (⟨_, _, rfl, rfl, ?_⟩)))))))
   first
   | exact ⟨g136, _, _, rfl, by rw [List.length_append, htl]; omega, by rw [hnl, hjX]; omega, hst, by omega, e9 ▸ at136⟩
   | (obtain rfl := Fm.of_0 hp h26; exact ⟨g30, _, _, rfl, by simp [Fm.text], by simp [Fm.nodes], hst, by omega, at30⟩)
   | (obtain rfl := Fm.of_1 hp h32; exact ⟨g36, _, _, rfl, by simp [Fm.text], by simp [Fm.nodes], hst, by omega, at36⟩)
   | exact ⟨g67, _, _, rfl, by rw [List.length_append, htl]; rw [List.take_length] at hyl; omega, by simp [Fm.nodes], hst, by omega, (show bs ++ (Fm.rel s az).text = ys ++ [41] by rw [hy, List.take_length]; simp [Fm.text]) ▸ at67⟩
   | exact ⟨gZ, _, _, rfl, by rw [hmZ, e9t]; simp, by rw [hjZ, e9n, List.length_cons]; omega, hst, by omega, by rw [e9t]; simpa using atZ⟩
   | exact ⟨g88, _, _, rfl, by rw [List.length_append]; omega, by simp [Fm.nodes], hst, by omega, at88⟩
  simp only [sps] at h38
  refine .seq (fun K22 hK22 => .region (.q rfl (.cmp rfl rfl rfl) (.mv rfl (.nil (hK22 _ _ ?_)))))
  refine .cond rfl ?_ ?_ <;> intro h69
  ·
   simp only [sps] at h69
   obtain ⟨u, v, rfl⟩ := Fm.of_3 hp h69
   obtain ⟨⟨hu0, hu1⟩, hv0, hv1⟩ := id hp
   have e1 : btL (⟨#[118]⟩ ++ decB u.toNat ++ ⟨#[61]⟩ ++ (⟨#[118]⟩ ++ decB v.toNat)) = vtx u ++ 61 :: vtx v := by rw [btL_app, btL_app, btL_var ⟨hu0, by omega⟩, btL_var ⟨hv0, by omega⟩]; rfl
   have e2 : (⟨#[118]⟩ ++ decB u.toNat ++ ⟨#[61]⟩ ++ (⟨#[118]⟩ ++ decB v.toNat) : ByteArray).size = 5 := by rw [← btL_size, e1]; rfl
   have z1 := decB_size u.toNat
   have z2 := decB_size v.toNat
   have hz2 : ([u, v] : List Int).length = 2 := rfl
   have htl : (Fm.eql u v).text.length = 5 := by simp [Fm.text, vtx]
   refine .seq (fun K23 hK23 => ?_)
   refine .regionDB mo_E (.qs [0, 1, 2, 3, 4, 5, 6, 9, 10, 11, 12, 13, 14, 18] (.c 7 1 (.q 8 (.c 15 1 (.q 16 (.c 17 1 (.q 19 (.q 20 (.done))))))))) (by kernel_rfl) (GHeap.le_erase H gO) ?_
   have hbl := GHeap.le_erase H gO
   have hLB := GHeap.get_erase_of (g := gO) hL hne
   have hmB := ndV_mem hLB (i := i) hi
   rw [hx] at hmB
   have hIB : Ints (H.set gO none) (r i) [u, v] := by have := ((hA.turn (H' := H.set gO none) St.of_set hfar) i hi).ints; rw [hx] at this; exact this
   refine .qB rfl hbl (.move rfl) ?_
   have lt_no_O := no_O.lt
   refine .qB rfl hbl (.move rfl) (.qB rfl hbl (.nilCheck rfl) (.qB rfl hbl (.fieldAddr fo_38_2_Ub rfl) (.qB rfl hbl (.load (v := .slice (r i) 2 2) on_36_Ub rfl (hmB.2 2 _ rfl)) ?_)))
   refine .qB rfl hbl (.idxN (j := 0) sl_36_A (by assumption) rfl rfl (by omega)) ?_
   refine .qB rfl hbl (.lI on_2_A rfl) (.qB rfl hbl (.move rfl) (.qB rfl hbl (.nilCheck rfl) (.qB rfl hbl (.fieldAddr fo_38_2_Ub rfl) (.qB rfl hbl (.load (v := .slice (r i) 2 2) on_36_Ub rfl (hmB.2 2 _ rfl)) ?_))))
   refine .qB rfl hbl (.idxN (j := 1) sl_36_A (by assumption) rfl rfl (by omega)) ?_
   refine .qB rfl hbl (.lI on_2_A rfl) (.qB rfl hbl (.move rfl) ?_)
   refine .callQ1 rfl rfl rfl rfl rfl @Tryd.call43 rfl (variable_c (v := u) hu0 (by omega)) hbl ?_
   refine .qB rfl hbl (.strAdd rfl rfl (by rw [ByteArray.size_append]; show 1 + _ + 1 ≤ _; omega)) ?_
   refine .callQ1 rfl rfl rfl rfl rfl @Tryd.call43 rfl (variable_c (v := v) hv0 (by omega)) hbl ?_
   refine .qB rfl hbl (.strAdd rfl rfl (by rw [ByteArray.size_append, ByteArray.size_append, ByteArray.size_append]; show 1 + _ + 1 + (1 + _) ≤ _; omega)) ?_
   refine .c1 rfl rfl rfl rfl (.appendUS rfl sl_63_Uh ze_5_Uh rfl by_5_Uh st_9_Tm rfl rfl no_O rfl (by omega) (by omega) (by omega)) ?_
   rintro _ H88 ⟨g88, rfl, st88, ge88, at88⟩
   refine ⟨(hbl.erase_st st88), ?_⟩
   have nx_H88 := st88.nx
   replace hst := hst.sA st88
   have ne_gL_gO : NE gL gO := .a
   replace hL := st88.s hL ne_gL_gO.ne
   have lt_at88 := GHeap.ltg at88
   replace hbl := hbl.erase_st st88
   rw [e1] at at88
   refine .qB rfl hbl (.assign rfl) (.qB rfl hbl (.assign rfl) (.done (hK23 _ _ (.ret (hret _ _ (⟨_, _, rfl, rfl, ?_⟩))))))
   first
   | exact ⟨g136, _, _, rfl, by rw [List.length_append, htl]; omega, by rw [hnl, hjX]; omega, hst, by omega, e9 ▸ at136⟩
   | (obtain rfl := Fm.of_0 hp h26; exact ⟨g30, _, _, rfl, by simp [Fm.text], by simp [Fm.nodes], hst, by omega, at30⟩)
   | (obtain rfl := Fm.of_1 hp h32; exact ⟨g36, _, _, rfl, by simp [Fm.text], by simp [Fm.nodes], hst, by omega, at36⟩)
   | exact ⟨g67, _, _, rfl, by rw [List.length_append, htl]; rw [List.take_length] at hyl; omega, by simp [Fm.nodes], hst, by omega, (show bs ++ (Fm.rel s az).text = ys ++ [41] by rw [hy, List.take_length]; simp [Fm.text]) ▸ at67⟩
   | exact ⟨gZ, _, _, rfl, by rw [hmZ, e9t]; simp, by rw [hjZ, e9n, List.length_cons]; omega, hst, by omega, by rw [e9t]; simpa using atZ⟩
   | exact ⟨g88, _, _, rfl, by rw [List.length_append]; omega, by simp [Fm.nodes], hst, by omega, at88⟩
  simp only [sps] at h69
  refine .seq (fun K24 hK24 => .seq (fun K25 hK25 => .region (.q rfl (.cmp rfl rfl rfl) (.mv rfl (.nil (hK25 _ _ ?_))))))
  refine .cond rfl ?_ ?_ <;> intro h90
  ·
   simp only [sps] at h90
   obtain ⟨d9, c9, s9, p9, e9k, e9s, e9t, e9n, e9l, e9d, e9z, e9c⟩ : ∃ (d9 : Nat) (c9 : UInt8) (s9 : Int) (p9 : Fm), p.hd.k = 7 + d9 ∧ p.hd.s = s9 ∧ p.text = (c9.toNat : Int) :: (48 + s9) :: 46 :: p9.text ∧ p.nodes = p.hd :: p9.nodes ∧ p9.Lim ∧ d9 ≤ 2 ∧ 1 ≤ ((⟨#[69, 65]⟩ : ByteArray).extract d9 2).size ∧ ((⟨#[69, 65]⟩ : ByteArray).extract d9 2).extract 0 1 = ⟨#[c9]⟩ := by
     rcases (show p.hd.k = 7 ∨ p.hd.k = 8 by omega) with h9 | h9
     · (obtain ⟨s, p', rfl⟩ := Fm.of_7 hp h9; exact ⟨0, 69, s, p', (by decide : (7 : Int) = 7 + ((0 : Nat) : Int)), rfl, rfl, rfl, hp.2, by decide, by decide +kernel, by decide +kernel⟩)
     · (obtain ⟨s, p', rfl⟩ := Fm.of_8 hp h9; exact ⟨1, 65, s, p', (by decide : (8 : Int) = 7 + ((1 : Nat) : Int)), rfl, rfl, rfl, hp.2, by decide, by decide +kernel, by decide +kernel⟩)
   have e1 : btL (⟨#[c9]⟩ ++ decB p.hd.s.toNat ++ ⟨#[46]⟩) = [(c9.toNat : Int), 48 + s9, 46] := by rw [btL_app, btL_app, btL_dec ⟨hs0, by omega⟩, e9s]; rfl
   have e2 : (⟨#[c9]⟩ ++ decB p.hd.s.toNat ++ ⟨#[46]⟩ : ByteArray).size = 3 := by rw [← btL_size, e1]; rfl
   have e3 : (bs ++ [(c9.toNat : Int), 48 + s9, 46]).length = bs.length + 3 := by simp
   have htl : p.text.length = p9.text.length + 3 := by rw [e9t]; rfl
   have hnl : p.nodes.length = p9.nodes.length + 1 := by rw [e9n]; rfl
   refine .skip (hK24 _ _ ?_)
   refine .cond rfl ?_ ?_ <;> intro h90
   ·
    simp only [sps] at h90
    obtain ⟨d9, c9, s9, p9, e9k, e9s, e9t, e9n, e9l, e9d, e9z, e9c⟩ : ∃ (d9 : Nat) (c9 : UInt8) (s9 : Int) (p9 : Fm), p.hd.k = 7 + d9 ∧ p.hd.s = s9 ∧ p.text = (c9.toNat : Int) :: (48 + s9) :: 46 :: p9.text ∧ p.nodes = p.hd :: p9.nodes ∧ p9.Lim ∧ d9 ≤ 2 ∧ 1 ≤ ((⟨#[69, 65]⟩ : ByteArray).extract d9 2).size ∧ ((⟨#[69, 65]⟩ : ByteArray).extract d9 2).extract 0 1 = ⟨#[c9]⟩ := by
      rcases (show p.hd.k = 7 ∨ p.hd.k = 8 by omega) with h9 | h9
      · (obtain ⟨s, p', rfl⟩ := Fm.of_7 hp h9; exact ⟨0, 69, s, p', (by decide : (7 : Int) = 7 + ((0 : Nat) : Int)), rfl, rfl, rfl, hp.2, by decide, by decide +kernel, by decide +kernel⟩)
      · (obtain ⟨s, p', rfl⟩ := Fm.of_8 hp h9; exact ⟨1, 65, s, p', (by decide : (8 : Int) = 7 + ((1 : Nat) : Int)), rfl, rfl, rfl, hp.2, by decide, by decide +kernel, by decide +kernel⟩)
    have e1 : btL (⟨#[c9]⟩ ++ decB p.hd.s.toNat ++ ⟨#[46]⟩) = [(c9.toNat : Int), 48 + s9, 46] := by rw [btL_app, btL_app, btL_dec ⟨hs0, by omega⟩, e9s]; rfl
    have e2 : (⟨#[c9]⟩ ++ decB p.hd.s.toNat ++ ⟨#[46]⟩ : ByteArray).size = 3 := by rw [← btL_size, e1]; rfl
    have e3 : (bs ++ [(c9.toNat : Int), 48 + s9, 46]).length = bs.length + 3 := by simp
    have htl : p.text.length = p9.text.length + 3 := by rw [e9t]; rfl
    have hnl : p.nodes.length = p9.nodes.length + 1 := by rw [e9n]; rfl
    refine .seq (fun K26 hK26 => .region (.mv rfl ?_))
    have lt_no_O := no_O.lt
    refine .mv rfl (.q rfl (.nilCheck rfl) (.q rfl (.fieldAddr fo_38_0_Ub rfl) (.q rfl (.load on_2_A rfl (hm.2 0 _ rfl)) ?_)))
    refine .q rfl (.sub (r := (d9 : Int)) rfl rfl (by omega) (by omega) (by omega)) ?_
    refine .q rfl (.sliceStr (s := ⟨#[69, 65]⟩) (l := d9) (h := 2) st_9_Tm rfl ⟨_, rfl⟩ rfl e9d (Nat.le_refl 2)) ?_
    refine .q rfl (.sliceStrE (l := 0) (h := 1) e9c st_9_Tm rfl rfl ⟨_, rfl⟩ (by omega) e9z) ?_
    refine .mv rfl ?_
    refine .q rfl (.strAdd rfl rfl (by show 1 + _ ≤ _; omega)) ?_
    refine .q rfl (.strAdd rfl rfl (by rw [ByteArray.size_append]; show 1 + _ + 1 ≤ _; omega)) ?_
    refine .R rfl (.appendUS rfl sl_63_Uh ze_5_Uh rfl by_5_Uh st_9_Tm rfl rfl no_O rfl (by omega) (by omega) (by omega)) ?_
    rintro _ H104 ⟨g104, rfl, st104, ge104, at104⟩
    have nx_H104 := st104.nx
    replace hst := hst.sA st104
    have ne_gL_gO : NE gL gO := .a
    replace hL := st104.s hL ne_gL_gO.ne
    have lt_at104 := GHeap.ltg at104
    rw [e1] at at104
    have hg5 := at104
    refine .mv rfl (.mv rfl ?_)
    refine .call rfl rfl rfl rfl @Tryd.call39 rfl (ih (p := p9) (q := q) (bs := bs ++ [(c9.toNat : Int), 48 + s9, 46]) (by omega) e9l (drop_tl (by rw [hd, e9n]; rfl)) hl hL (hA.turn hst hfar) (NO.of hg5 (by omega)) (by omega) (hA.far (by omega)) (by omega) (by omega) (by rw [nz_pos (by omega)]) (by omega)) ?_
    rintro _ H107 ⟨gZ, mZ, jZ, rfl, hmZ, hjZ, st107, geZ, atZ⟩
    have nx_H107 := st107.nx
    replace hst := hst.sA st107
    replace hL := st107.s hL
    have lt_atZ := GHeap.ltg atZ
    refine .q rfl (.extract rfl rfl) (.q rfl (.extract rfl rfl) (.mv rfl (.mv rfl (.nil (hK26 _ _ (.ret (hret _ _ (⟨_, _, rfl, rfl, ?_⟩))))))))
    first
    | exact ⟨g136, _, _, rfl, by rw [List.length_append, htl]; omega, by rw [hnl, hjX]; omega, hst, by omega, e9 ▸ at136⟩
    | (obtain rfl := Fm.of_0 hp h26; exact ⟨g30, _, _, rfl, by simp [Fm.text], by simp [Fm.nodes], hst, by omega, at30⟩)
    | (obtain rfl := Fm.of_1 hp h32; exact ⟨g36, _, _, rfl, by simp [Fm.text], by simp [Fm.nodes], hst, by omega, at36⟩)
    | exact ⟨g67, _, _, rfl, by rw [List.length_append, htl]; rw [List.take_length] at hyl; omega, by simp [Fm.nodes], hst, by omega, (show bs ++ (Fm.rel s az).text = ys ++ [41] by rw [hy, List.take_length]; simp [Fm.text]) ▸ at67⟩
    | exact ⟨gZ, _, _, rfl, by rw [hmZ, e9t]; simp, by rw [hjZ, e9n, List.length_cons]; omega, hst, by omega, by rw [e9t]; simpa using atZ⟩
    | exact ⟨g88, _, _, rfl, by rw [List.length_append]; omega, by simp [Fm.nodes], hst, by omega, at88⟩
   simp only [sps] at h90; omega
  simp only [sps] at h90
  refine .region (.q rfl (.cmp rfl rfl rfl) (.mv rfl (.nil (hK24 _ _ ?_))))
  refine .cond rfl ?_ ?_ <;> intro h90
  ·
   simp only [sps] at h90
   obtain ⟨d9, c9, s9, p9, e9k, e9s, e9t, e9n, e9l, e9d, e9z, e9c⟩ : ∃ (d9 : Nat) (c9 : UInt8) (s9 : Int) (p9 : Fm), p.hd.k = 7 + d9 ∧ p.hd.s = s9 ∧ p.text = (c9.toNat : Int) :: (48 + s9) :: 46 :: p9.text ∧ p.nodes = p.hd :: p9.nodes ∧ p9.Lim ∧ d9 ≤ 2 ∧ 1 ≤ ((⟨#[69, 65]⟩ : ByteArray).extract d9 2).size ∧ ((⟨#[69, 65]⟩ : ByteArray).extract d9 2).extract 0 1 = ⟨#[c9]⟩ := by
     rcases (show p.hd.k = 7 ∨ p.hd.k = 8 by omega) with h9 | h9
     · (obtain ⟨s, p', rfl⟩ := Fm.of_7 hp h9; exact ⟨0, 69, s, p', (by decide : (7 : Int) = 7 + ((0 : Nat) : Int)), rfl, rfl, rfl, hp.2, by decide, by decide +kernel, by decide +kernel⟩)
     · (obtain ⟨s, p', rfl⟩ := Fm.of_8 hp h9; exact ⟨1, 65, s, p', (by decide : (8 : Int) = 7 + ((1 : Nat) : Int)), rfl, rfl, rfl, hp.2, by decide, by decide +kernel, by decide +kernel⟩)
   have e1 : btL (⟨#[c9]⟩ ++ decB p.hd.s.toNat ++ ⟨#[46]⟩) = [(c9.toNat : Int), 48 + s9, 46] := by rw [btL_app, btL_app, btL_dec ⟨hs0, by omega⟩, e9s]; rfl
   have e2 : (⟨#[c9]⟩ ++ decB p.hd.s.toNat ++ ⟨#[46]⟩ : ByteArray).size = 3 := by rw [← btL_size, e1]; rfl
   have e3 : (bs ++ [(c9.toNat : Int), 48 + s9, 46]).length = bs.length + 3 := by simp
   have htl : p.text.length = p9.text.length + 3 := by rw [e9t]; rfl
   have hnl : p.nodes.length = p9.nodes.length + 1 := by rw [e9n]; rfl
   refine .seq (fun K27 hK27 => .region (.mv rfl ?_))
   have lt_no_O := no_O.lt
   refine .mv rfl (.q rfl (.nilCheck rfl) (.q rfl (.fieldAddr fo_38_0_Ub rfl) (.q rfl (.load on_2_A rfl (hm.2 0 _ rfl)) ?_)))
   refine .q rfl (.sub (r := (d9 : Int)) rfl rfl (by omega) (by omega) (by omega)) ?_
   refine .q rfl (.sliceStr (s := ⟨#[69, 65]⟩) (l := d9) (h := 2) st_9_Tm rfl ⟨_, rfl⟩ rfl e9d (Nat.le_refl 2)) ?_
   refine .q rfl (.sliceStrE (l := 0) (h := 1) e9c st_9_Tm rfl rfl ⟨_, rfl⟩ (by omega) e9z) ?_
   refine .mv rfl ?_
   refine .q rfl (.strAdd rfl rfl (by show 1 + _ ≤ _; omega)) ?_
   refine .q rfl (.strAdd rfl rfl (by rw [ByteArray.size_append]; show 1 + _ + 1 ≤ _; omega)) ?_
   refine .R rfl (.appendUS rfl sl_63_Uh ze_5_Uh rfl by_5_Uh st_9_Tm rfl rfl no_O rfl (by omega) (by omega) (by omega)) ?_
   rintro _ H104x2 ⟨g104x2, rfl, st104x2, ge104x2, at104x2⟩
   have nx_H104x2 := st104x2.nx
   replace hst := hst.sA st104x2
   have ne_gL_gO : NE gL gO := .a
   replace hL := st104x2.s hL ne_gL_gO.ne
   have lt_at104x2 := GHeap.ltg at104x2
   rw [e1] at at104x2
   have hg5 := at104x2
   refine .mv rfl (.mv rfl ?_)
   refine .call rfl rfl rfl rfl @Tryd.call39 rfl (ih (p := p9) (q := q) (bs := bs ++ [(c9.toNat : Int), 48 + s9, 46]) (by omega) e9l (drop_tl (by rw [hd, e9n]; rfl)) hl hL (hA.turn hst hfar) (NO.of hg5 (by omega)) (by omega) (hA.far (by omega)) (by omega) (by omega) (by rw [nz_pos (by omega)]) (by omega)) ?_
   rintro _ H107x2 ⟨gZ, mZ, jZ, rfl, hmZ, hjZ, st107x2, geZ, atZ⟩
   have nx_H107x2 := st107x2.nx
   replace hst := hst.sA st107x2
   replace hL := st107x2.s hL
   have lt_atZ := GHeap.ltg atZ
   refine .q rfl (.extract rfl rfl) (.q rfl (.extract rfl rfl) (.mv rfl (.mv rfl (.nil (hK27 _ _ (.ret (hret _ _ (⟨_, _, rfl, rfl, ?_⟩))))))))
   first
   | exact ⟨g136, _, _, rfl, by rw [List.length_append, htl]; omega, by rw [hnl, hjX]; omega, hst, by omega, e9 ▸ at136⟩
   | (obtain rfl := Fm.of_0 hp h26; exact ⟨g30, _, _, rfl, by simp [Fm.text], by simp [Fm.nodes], hst, by omega, at30⟩)
   | (obtain rfl := Fm.of_1 hp h32; exact ⟨g36, _, _, rfl, by simp [Fm.text], by simp [Fm.nodes], hst, by omega, at36⟩)
   | exact ⟨g67, _, _, rfl, by rw [List.length_append, htl]; rw [List.take_length] at hyl; omega, by simp [Fm.nodes], hst, by omega, (show bs ++ (Fm.rel s az).text = ys ++ [41] by rw [hy, List.take_length]; simp [Fm.text]) ▸ at67⟩
   | exact ⟨gZ, _, _, rfl, by rw [hmZ, e9t]; simp, by rw [hjZ, e9n, List.length_cons]; omega, hst, by omega, by rw [e9t]; simpa using atZ⟩
   | exact ⟨g88, _, _, rfl, by rw [List.length_append]; omega, by simp [Fm.nodes], hst, by omega, at88⟩
  simp only [sps] at h90
  refine .skip (hK5 _ _ (.seq (fun K28 hK28 => .region ?_)))
  obtain ⟨k, p1, p2, rfl⟩ := Fm.of_bin (p := p) (by omega)
  obtain ⟨hk4, hp1, hp2⟩ := id hp
  have htl : (Fm.bin k p1 p2).text.length = p1.text.length + p2.text.length + 3 := by simp [Fm.text]; omega
  have hnl : (Fm.bin k p1 p2).nodes.length = p1.nodes.length + p2.nodes.length + 1 := by simp [Fm.nodes]
  have e3 : (bs ++ [(40 : Int)]).length = bs.length + 1 := by simp
  have hd1 : L.drop (i + 1) = p1.nodes ++ (p2.nodes ++ q) := drop_tl (x := ⟨k, 0, []⟩) (by rw [hd]; simp [Fm.nodes])
  have hd2 := Fm.drop_of hd1
  obtain ⟨b9, hb9, hs9⟩ : ∃ b : UInt8, (⟨#[38, 124, 62]⟩ : ByteArray)[(k - 4).toNat]? = some b ∧ (b.toNat : Int) = sgn k := by
    rcases hk4 with rfl | rfl | rfl
    · exact ⟨38, rfl, rfl⟩
    · exact ⟨124, rfl, rfl⟩
    · exact ⟨62, rfl, rfl⟩
  refine .mv rfl ?_
  have lt_no_O := no_O.lt
  refine .R rfl (.litA rfl sl_63_Uh ze_5_Uh rfl rfl rfl rfl) ?_
  rintro _ H112 ⟨g112, rfl, le112, ge112, at112⟩
  have nx_H112 := le112.1
  replace hst := hst.le le112
  replace hL := le112.2 _ _ hL
  replace no_O := no_O.le le112
  have lt_at112 := GHeap.ltg at112
  refine .R rfl (.appendUN rfl sl_63_Uh ze_5_Uh rfl by_5_Uh sl_63_Uh rfl rfl no_O (by assumption) rfl (by omega) (by omega)) ?_
  rintro _ H113 ⟨g113, rfl, st113, ge113, at113⟩
  have nx_H113 := st113.nx
  replace hst := hst.sA st113
  have ne_gL_gO : NE gL gO := .a
  replace hL := st113.s hL ne_gL_gO.ne
  replace at112 := st113.s at112
  have lt_at113 := GHeap.ltg at113
  have hg6 := at113
  refine .mv rfl (.mv rfl ?_)
  refine .call rfl rfl rfl rfl @Tryd.call39 rfl (ih (p := p1) (q := p2.nodes ++ q) (bs := bs ++ [40]) (by omega) hp1 hd1 hl hL (hA.turn hst hfar) (NO.of hg6 (by omega)) (by omega) (hA.far (by omega)) (by omega) (by omega) (by rw [nz_pos (by omega)]) (by omega)) ?_
  rintro _ H116 ⟨gY, mY, jY, rfl, hmY, hjY, st116, geY, atY⟩
  have nx_H116 := st116.nx
  replace hst := hst.sA st116
  replace hL := st116.s hL
  replace at112 := st116.s at112
  have lt_atY := GHeap.ltg atY
  refine .mv rfl (.q rfl (.extract rfl rfl) (.q rfl (.extract rfl rfl) (.mv rfl (.mv rfl (.nil (hK28 _ _ (.seq (fun K29 hK29 => .region ?_))))))))
  have hm3 := ndV_mem hL (i := i) hi
  rw [hx] at hm3
  have e6 : (bs ++ [40] ++ p1.text).length = bs.length + 1 + p1.text.length := by simp; omega
  have e7 : (bs ++ [40] ++ p1.text ++ [(b9.toNat : Int)]).length = bs.length + 1 + p1.text.length + 1 := by simp; omega
  refine .mv rfl (.mv rfl (.q rfl (.nilCheck rfl) (.q rfl (.fieldAddr fo_38_0_Ub rfl) (.q rfl (.load (v := .int .i64 k) on_2_A rfl (hm3.2 0 _ rfl)) ?_))))
  refine .q rfl (.sub (r := k - 4) rfl rfl (by omega) (by omega) (by omega)) ?_
  refine .q rfl (.indexStr st_9_Tm rfl rfl (by omega) hb9) ?_
  refine .R rfl (.litA rfl sl_63_Uh ze_5_Uh rfl rfl rfl rfl) ?_
  rintro _ H127 ⟨g127, rfl, le127, ge127, at127⟩
  have nx_H127 := le127.1
  replace hst := hst.le le127
  replace hL := le127.2 _ _ hL
  replace at112 := le127.2 _ _ at112
  replace atY := le127.2 _ _ atY
  have lt_at127 := GHeap.ltg at127
  refine .R rfl (.appendUNr rfl sl_63_Uh ze_5_Uh rfl by_5_Uh sl_63_Uh rfl rfl atY (by assumption) (by omega) (by omega) (by omega)) ?_
  rintro _ H128 ⟨g128, rfl, st128, ge128, at128⟩
  have nx_H128 := st128.nx
  replace hst := hst.sA st128
  replace hL := st128.s hL
  replace at112 := st128.s at112
  replace at127 := st128.s at127
  have lt_at128 := GHeap.ltg at128
  have hg7 := at128
  refine .mv rfl (.mv rfl ?_)
  refine .call rfl rfl rfl rfl @Tryd.call39 rfl (ih (p := p2) (q := q) (i := i + 1 + p1.nodes.length) (bs := bs ++ [40] ++ p1.text ++ [(b9.toNat : Int)]) (by omega) hp2 hd2 hl hL (hA.turn hst hfar) (NO.of hg7 (by omega)) (by omega) (hA.far (by omega)) (by omega) (by omega) (by rw [nz_pos (by omega)]) (by omega)) ?_
  rintro _ H131 ⟨gX, mX, jX, rfl, hmX, hjX, st131, geX, atX⟩
  have nx_H131 := st131.nx
  replace hst := hst.sA st131
  replace hL := st131.s hL
  replace at112 := st131.s at112
  replace at127 := st131.s at127
  have lt_atX := GHeap.ltg atX
  refine .mv rfl (.q rfl (.extract rfl rfl) (.q rfl (.extract rfl rfl) (.mv rfl (.mv rfl (.nil (hK29 _ _ (.seq (fun K30 hK30 => .region ?_))))))))
  have e8 : (bs ++ [40] ++ p1.text ++ [(b9.toNat : Int)] ++ p2.text).length = bs.length + 1 + p1.text.length + 1 + p2.text.length := by simp; omega
  have e9 : bs ++ (Fm.bin k p1 p2).text = bs ++ [40] ++ p1.text ++ [(b9.toNat : Int)] ++ p2.text ++ [41] := by rw [hs9]; simp [Fm.text]
  refine .mv rfl ?_
  refine .R rfl (.litA rfl sl_63_Uh ze_5_Uh rfl rfl rfl rfl) ?_
  rintro _ H135 ⟨g135, rfl, le135, ge135, at135⟩
  have nx_H135 := le135.1
  replace hst := hst.le le135
  replace hL := le135.2 _ _ hL
  replace at112 := le135.2 _ _ at112
  replace at127 := le135.2 _ _ at127
  replace atX := le135.2 _ _ atX
  have lt_at135 := GHeap.ltg at135
  refine .R rfl (.appendUNr rfl sl_63_Uh ze_5_Uh rfl by_5_Uh sl_63_Uh rfl rfl atX (by assumption) (by omega) (by omega) (by omega)) ?_
  rintro _ H136 ⟨g136, rfl, st136, ge136, at136⟩
  have nx_H136 := st136.nx
  replace hst := hst.sA st136
  replace hL := st136.s hL
  replace at112 := st136.s at112
  replace at127 := st136.s at127
  replace at135 := st136.s at135
  have lt_at136 := GHeap.ltg at136
  refine .mv rfl (.mv rfl (.mv rfl (.nil (hK30 _ _ (.ret (hret _ _ (⟨_, _, rfl, rfl, ?_⟩)))))))
  first
  | exact ⟨g136, _, _, rfl, by rw [List.length_append, htl]; omega, by rw [hnl, hjX]; omega, hst, by omega, e9 ▸ at136⟩
  | (obtain rfl := Fm.of_0 hp h26; exact ⟨g30, _, _, rfl, by simp [Fm.text], by simp [Fm.nodes], hst, by omega, at30⟩)
  | (obtain rfl := Fm.of_1 hp h32; exact ⟨g36, _, _, rfl, by simp [Fm.text], by simp [Fm.nodes], hst, by omega, at36⟩)
  | exact ⟨g67, _, _, rfl, by rw [List.length_append, htl]; rw [List.take_length] at hyl; omega, by simp [Fm.nodes], hst, by omega, (show bs ++ (Fm.rel s az).text = ys ++ [41] by rw [hy, List.take_length]; simp [Fm.text]) ▸ at67⟩
  | exact ⟨gZ, _, _, rfl, by rw [hmZ, e9t]; simp, by rw [hjZ, e9n, List.length_cons]; omega, hst, by omega, by rw [e9t]; simpa using atZ⟩
  | exact ⟨g88, _, _, rfl, by rw [List.length_append]; omega, by simp [Fm.nodes], hst, by omega, at88⟩
end Go.Proofs.YtdnjnligclkkgaaDoor
namespace Go.GL
end Go.GL
namespace Go.GL
def Con.z : Con := ⟨0, []⟩
def conV (r : Nat → Option Addr) (cs : List Con) : List Value := (List.range cs.length).flatMap fun i => (cs.getD i .z).cells ⟨r i⟩
structure ConsAt (T e : TypeId) (b0 : Nat) (H : GHeap) (g : Nat) (r : Nat → Option Addr) (cs : List Con) : Prop where
  hd : H.get g = some (.row (conV r cs) T true)
  rows : OwnL b0 H e r (cs.map Con.lg)
structure GathC (T1 T2 Tx e : TypeId) (go gx b0 e0 : Nat) (x : Int) (pre : List Con) (b : Nat) (fs : List (List Int)) (gF : Nat) (H : GHeap) : Prop where
  hd : H.get go = some (.row [.slice (some ⟨gF, 0, none⟩) (pre ++ fs.map fun l => (⟨x, l⟩ : Con)).length (pre ++ fs.map fun l => (⟨x, l⟩ : Con)).length] T1 true)
  ix : H.get gx = some (.row [.int .i64 x] Tx true)
  rows : ∃ r, H.get gF = some (.row (conV r (pre ++ fs.map fun l => (⟨x, l⟩ : Con))) T2 true) ∧ OwnL b0 H e r ((pre ++ fs.map fun l => (⟨x, l⟩ : Con)).map Con.lg) ∧ ∀ i, i < (pre ++ fs.map fun l => (⟨x, l⟩ : Con)).length → ∀ g, r i = some ⟨g, 0, none⟩ → g < e0 ∨ b ≤ g
end Go.GL
namespace Go.GL
structure RowsN (b : Nat) (H : GHeap) (r : Nat → Option Addr) (cs : List Con) (gL : Nat) : Prop where
  row : ∀ i, i < cs.length → ∃ g e, r i = some ⟨g, 0, none⟩ ∧ b ≤ g ∧ g ≠ gL ∧ H.get g = some (.row (ints (cs.getD i .z).lg) e true)
end Go.GL
namespace Go.GL
end Go.GL
namespace Go.GL
structure StK (lo hi : Nat) (H H' : GHeap) : Prop where
  nx : H.next ≤ H'.next
  same : ∀ k o, ¬ (lo ≤ k ∧ k < hi) → H.get k = some o → H'.get k = some o
theorem StK.refl (lo hi : Nat) (H : GHeap) : StK lo hi H H := ⟨Nat.le_refl _, fun _ _ _ h => h⟩
theorem StK.st {lo hi g : Nat} {A B C : GHeap} (h : StK lo hi A B) (s : St [g] B C) (h1 : lo ≤ g) (h2 : g < hi) : StK lo hi A C := ⟨Nat.le_trans h.nx s.nx, fun k o hk ho => s.same k o ⟨fun e => hk (by subst e; exact ⟨h1, h2⟩), trivial⟩ (h.same k o hk ho)⟩
theorem StK.le_left {lo hi : Nat} {A B C : GHeap} (h : A.Le B) (k : StK lo hi B C) (hA : A.next ≤ lo) : A.Le C :=
  ⟨Nat.le_trans h.1 k.nx, fun g o ho => k.same g o (by have := GHeap.ltg ho; omega) (h.2 g o ho)⟩
theorem Keep.stK {b lo hi : Nat} {H0 H H' : GHeap} (k : Keep b H0 H) (h : StK lo hi H H') (hg : ∀ k, b ≤ k → k < H0.next → ¬ (lo ≤ k ∧ k < hi)) : Keep b H0 H' := fun g o hb h1 => h.same g o (hg g hb (GHeap.ltg h1)) (k g o hb h1)
def conTot (cs : List Con) (j : Nat) : Nat := j + sumL ((cs.map Con.lg).take j)
structure ConsOk (cs : List Con) : Prop where
  len : cs.length ≤ 400
  sm : ∀ i, i < cs.length → (cs.getD i .z).Small
  tot : conTot cs cs.length ≤ 3600
end Go.GL
namespace Go.GL
open Go.RowKit
theorem GCalls.hold {P : Program} {f : FuncId} {args : List Value} {H : GHeap} {Q : Value → GHeap → Prop} (h : ∀ H', H.Le H' → H'.next = H.next + 1 → H'.get H.next = none → GCalls P f args H' Q) : GCalls P f args H Q := fun B w0 ρ cargs w hs hl =>
  h ⟨H.objs ++ [none]⟩ ⟨by simp [GHeap.next], fun g o hg => by
    have hl : g < H.objs.length := GHeap.ltg hg
    unfold GHeap.get at hg ⊢
    rwa [List.getElem?_append_left hl]⟩ (by simp [GHeap.next]) (by unfold GHeap.get GHeap.next; simp) B w0 ρ cargs w hs.hold hl
theorem St.le_none {g : Nat} {H H' : GHeap} (s : St [g] H H') (h : H.get g = none) : H.Le H' := ⟨s.nx, fun k o hk => s.same k o ⟨fun e => (by rw [e, h] at hk; cases hk), trivial⟩ hk⟩
theorem AgN.nowhere {e : TypeId} {B g : Nat} {H : GHeap} {r : Nat → Option Addr} {L : List Nd} (h : AgN e B H r L) (hn : H.get g = none) : ∀ j, j < L.length → r j ≠ some ⟨g, 0, none⟩ := fun j hj q => by
  rcases h j hj with ⟨h1, _⟩ | ⟨x, h1, _, h3⟩
  · rw [h1] at q; cases q
  · rw [h1] at q; cases q; rw [hn] at h3; cases h3
def AzB (N : Nat) (L : List Nd) : Prop := ∀ x ∈ L, x.az.length ≤ N
theorem AzB.get {N : Nat} {L : List Nd} (h : AzB N L) {i : Nat} (hi : i < L.length) : (L.getD i ndz).az.length ≤ N := by
  rw [show L.getD i ndz = L[i] by simp [List.getD_eq_getElem?_getD, hi]]
  exact h _ (List.getElem_mem hi)
theorem AzB.snoc {N : Nat} {L : List Nd} {x : Nd} (h : AzB N L) (hx : x.az.length ≤ N) : AzB N (L ++ [x]) := fun y hy => by
  rcases List.mem_append.1 hy with hy | hy
  · exact h y hy
  · rw [List.mem_singleton.1 hy]; exact hx
theorem AzB.set {N : Nat} {L : List Nd} {x : Nd} {i : Nat} (h : AzB N L) (hx : x.az.length ≤ N) : AzB N (L.set i x) := fun y hy => by
  rcases List.mem_or_eq_of_mem_set hy with hy | rfl
  · exact h y hy
  · exact hx
theorem Rd.vars_az : ∀ (n : Nat) (r : Rd) (az : List Int), (r.vars n az).2.length ≤ az.length + r.u.length
  | 0, _, _ => by unfold Rd.vars; exact Nat.le_add_right _ _
  | n + 1, r, az => by
    unfold Rd.vars
    split
    · rename_i q
      obtain ⟨_, c, h1, _⟩ := q
      have hl : 1 ≤ r.u.length := by cases e : r.u with | nil => rw [e] at h1; cases h1 | cons _ _ => simp
      have h2 := Rd.vars_az n (if az.length > 0 then r.want 44 else r).var.2 (az ++ [(if az.length > 0 then r.want 44 else r).var.1])
      have h3 := Rd.var_len (if az.length > 0 then r.want 44 else r)
      have h4 : (if az.length > 0 then r.want 44 else r).u.length ≤ r.u.length := by
        split
        · exact Rd.want_len _ _
        · exact Nat.le_refl _
      rw [List.length_append, List.length_singleton] at h2
      omega
    · dsimp only; omega
theorem Rd.argu_az (r : Rd) : r.argu.2.length ≤ r.u.length := by
  unfold Rd.argu
  have h1 := Rd.vars_az (r.want 40).u.length (r.want 40) []
  have h2 := Rd.want_len r 40
  dsimp only
  rw [List.length_nil] at h1
  omega
theorem Rd.form_az : ∀ (n : Nat) (r : Rd) (N : Nat), AzB N r.L → r.u.length ≤ N → 2 ≤ N → AzB N (r.form n).L
  | 0, _, _, h, _, _ => h
  | n + 1, r, N, h, hu, hN => by
    by_cases q : r.bad = true ∨ r.L.length = 40
    · rw [Rd.form_fail q]; exact h
    have e1 : (Rd.mk r.u (r.L ++ [⟨0, 0, []⟩]) r.bad).take.2.u.length ≤ N := Nat.le_trans (Rd.take_len _) hu
    have e2 : AzB N (Rd.mk r.u (r.L ++ [⟨0, 0, []⟩]) r.bad).take.2.L := by rw [Rd.take_L]; exact h.snoc (Nat.zero_le _)
    generalize e0 : Rd.mk r.u (r.L ++ [⟨0, 0, []⟩]) r.bad = r0 at e1 e2
    replace e0 := e0.symm
    by_cases c1 : r0.take.1 = 84
    · rw [Rd.form_84 q e0 c1]; exact AzB.set e2 (Nat.zero_le _)
    by_cases c2 : r0.take.1 = 70
    · rw [Rd.form_70 q e0 c2]; exact AzB.set e2 (Nat.zero_le _)
    by_cases c3 : r0.take.1 = 82
    · rw [Rd.form_82 q e0 c3]
      refine AzB.set (by rw [Rd.argu_L, Rd.dg_L]; exact e2) ?_
      have h1 := Rd.argu_az (r0.take.2.dg 4).2
      have h2 := Rd.dg_len r0.take.2 4
      show (r0.take.2.dg 4).2.argu.2.length ≤ N
      omega
    by_cases c4 : r0.take.1 = 118
    · rw [Rd.form_118 q e0 c4]
      exact AzB.set (by rw [Rd.var_L, Rd.want_L, Rd.dg_L]; exact e2) hN
    have d3 := Rd.dg_len r0.take.2 3
    have w3 := Rd.want_len (r0.take.2.dg 3).2 46
    have h2 := Rd.form_az n ((r0.take.2.dg 3).2.want 46) N (by rw [Rd.want_L, Rd.dg_L]; exact e2) (by omega) hN
    by_cases c5 : r0.take.1 = 69
    · rw [Rd.form_69 q e0 c5]; exact AzB.set h2 (Nat.zero_le _)
    by_cases c6 : r0.take.1 = 65
    · rw [Rd.form_65 q e0 c6]; exact AzB.set h2 (Nat.zero_le _)
    by_cases c7 : r0.take.1 = 40
    · have l1 := Rd.form_len n r0.take.2
      have l2 := Rd.conn_len (Rd.form n r0.take.2)
      have h3 := Rd.form_az n r0.take.2 N e2 e1 hN
      have h4 := Rd.form_az n (Rd.form n r0.take.2).conn.2 N (by rw [Rd.conn_L]; exact h3) (by omega) hN
      rw [Rd.form_40c q e0 c7]
      exact AzB.set (by rw [Rd.want_L]; exact h4) (Nat.zero_le _)
    · rw [Rd.form_no q e0 (by omega)]; exact AzB.set e2 (Nat.zero_le _)
theorem Rd.args_az : ∀ (n : Nat) (r : Rd) (az : List Int), (r.args n az).2.length ≤ az.length + r.u.length
  | 0, _, _ => by unfold Rd.args; exact Nat.le_add_right _ _
  | n + 1, r, az => by
    by_cases q : r.at118
    · have hl : 1 ≤ r.u.length := by cases e : r.u with | nil => rw [Rd.at118, e] at q; cases q.2 | cons _ _ => simp
      have h1 : (r.want 118).dig.2.u.length ≤ r.u.length - 1 := by rw [Rd.dig_drop, Rd.want_drop, List.length_drop, List.length_drop]; omega
      have h3 := Rd.want_len (r.want 118).dig.2 44
      unfold Rd.args
      rw [if_pos (show r.bad = false ∧ r.u.head? = some 118 from q)]
      split
      · split
        · have h2 := Rd.args_az n ((r.want 118).dig.2.want 44) (az ++ [(r.want 118).dig.1])
          rw [List.length_append, List.length_singleton] at h2
          omega
        · have h2 := Rd.args_az n ((r.want 118).dig.2.want 44).fail (az ++ [(r.want 118).dig.1])
          rw [List.length_append, List.length_singleton] at h2
          have e : ((r.want 118).dig.2.want 44).fail.u = ((r.want 118).dig.2.want 44).u := rfl
          rw [e] at h2
          omega
      · dsimp only; rw [List.length_append, List.length_singleton]; omega
    · rw [Rd.args_stop q]; dsimp only; omega
theorem AzB.put {N : Nat} {r : Rd} {x : Nd} (h : AzB N r.L) (hx : x.az.length ≤ N) : AzB N (r.put x).L := by
  unfold Rd.put
  split
  · exact h
  · exact h.snoc hx
theorem AzB.kind {N : Nat} {r : Rd} {i : Nat} {k : Int} (h : AzB N r.L) : AzB N (r.kind i k).L := by
  unfold Rd.kind
  split
  · exact AzB.set h (Nat.zero_le _)
  · exact h
theorem AzB.sign {N : Nat} {r : Rd} {i : Nat} (h : AzB N r.L) : AzB N (r.sign i).L := by
  have h1 : AzB N r.take.2.L := by rw [Rd.take_L]; exact h
  unfold Rd.sign
  split
  · exact h1
  split
  · exact h1.kind
  split
  · exact h1.kind
  · exact h1
theorem Rd.read_az : ∀ (n : Nat) (r : Rd) (N : Nat), AzB N r.L → r.u.length ≤ N → 2 ≤ N → AzB N (r.read n).L
  | 0, _, _, h, _, _ => h
  | n + 1, r, N, h, hu, hN => by
    have e1 : r.take.2.u.length ≤ N := Nat.le_trans r.take_len hu
    have e2 : AzB N r.take.2.L := by rw [Rd.take_L]; exact h
    have q : ∀ k : Int, AzB N (r.take.2.quan k).L := fun k => by
      unfold Rd.quan
      rw [Rd.want_L]
      exact AzB.put (by rw [Rd.dig_L]; exact e2) (Nat.zero_le _)
    have q2 : ∀ k : Int, (r.take.2.quan k).u.length ≤ N := fun k => by
      unfold Rd.quan
      have h1 := Rd.want_len (r.take.2.dig.2.put ⟨k, r.take.2.dig.1, []⟩) 46
      rw [Rd.put_u] at h1
      have h2 := Rd.dig_len r.take.2
      omega
    unfold Rd.read
    split
    · exact h
    split
    · exact AzB.put e2 (Nat.zero_le _)
    split
    · exact AzB.put e2 (Nat.zero_le _)
    split
    · unfold Rd.rel
      refine AzB.put (by rw [Rd.want_L, Rd.args_L, Rd.want_L, Rd.dig_L]; exact e2) ?_
      have h1 := Rd.args_az (r.take.2.dig.2.want 40).u.length (r.take.2.dig.2.want 40) []
      have h2 := Rd.want_len r.take.2.dig.2 40
      have h3 := Rd.dig_len r.take.2
      rw [List.length_nil] at h1
      dsimp only
      omega
    split
    · unfold Rd.equ
      exact AzB.put (by rw [Rd.dig_L, Rd.want_L, Rd.want_L, Rd.dig_L]; exact e2) hN
    split
    · exact Rd.read_az n _ N (q 7) (q2 7) hN
    split
    · exact Rd.read_az n _ N (q 8) (q2 8) hN
    split
    · have l1 := Rd.read_len n (r.take.2.put ⟨4, 0, []⟩)
      rw [Rd.put_u] at l1
      have l2 := Rd.sign_len ((r.take.2.put ⟨4, 0, []⟩).read n) r.L.length
      rw [Rd.want_L]
      exact Rd.read_az n _ N (AzB.sign (Rd.read_az n _ N (AzB.put e2 (Nat.zero_le _)) (by rw [Rd.put_u]; exact e1) hN)) (by omega) hN
    · exact e2
theorem AgN.back {e : TypeId} {B g k : Nat} {H : GHeap} {r : Nat → Option Addr} {L : List Nd} (h : AgN e B ((H.set g none).set k none) r L) : AgN e B H r L := fun i hi => by
  rcases h i hi with q | ⟨x, q1, q2, q3⟩
  · exact .inl q
  · exact .inr ⟨x, q1, q2, (GHeap.get_erase (GHeap.get_erase q3).2).2⟩
def NdsV (T : TypeId) (H : GHeap) (a : Option Addr) (r : Nat → Option Addr) (L : List Nd) : Prop := L = [] ∨ ∃ g, a = some ⟨g, 0, none⟩ ∧ H.get g = some (.row (ndV r L) T true) ∧ ∀ i, i < L.length → Ints H (r i) (L.getD i ndz).az
structure NdsAt (T e : TypeId) (b : Nat) (H : GHeap) (g : Nat) (r : Nat → Option Addr) (L : List Nd) : Prop where
  hd : H.get g = some (.row (ndV r L) T true)
  rows : AgN e b H r L
  inj : ∀ i j, i < L.length → j < L.length → r i = r j → r i ≠ none → i = j
theorem AgN.keep {e : TypeId} {b b' : Nat} {H H' : GHeap} {r : Nat → Option Addr} {L : List Nd} (h : AgN e b H r L) (k : Keep b' H H') (hb : b' ≤ b) : AgN e b H' r L := fun i hi => by
  rcases h i hi with q | ⟨x, q1, q2, q3⟩
  · exact .inl q
  · exact .inr ⟨x, q1, q2, k x _ (by omega) q3⟩
def NdsR (T e : TypeId) (b : Nat) (H : GHeap) (a : Option Addr) (r : Nat → Option Addr) (L : List Nd) : Prop := (L = [] ∧ a = none) ∨ ∃ g, a = some ⟨g, 0, none⟩ ∧ b ≤ g ∧ NdsAt T e b H g r L
theorem NdsR.keep {T e : TypeId} {b b' : Nat} {H H' : GHeap} {a : Option Addr} {r : Nat → Option Addr} {L : List Nd} (h : NdsR T e b H a r L) (k : Keep b' H H') (hb : b' ≤ b) : NdsR T e b' H' a r L := h.imp id fun ⟨g, h1, h2, h3⟩ => ⟨g, h1, by omega, ⟨k g _ (by omega) h3.hd, fun i hi => by
  rcases (h3.rows.keep k hb) i hi with q | ⟨x, q1, q2, q3⟩
  · exact .inl q
  · exact .inr ⟨x, q1, by omega, q3⟩, h3.inj⟩⟩
theorem NdsAt.view {T e : TypeId} {b g : Nat} {H : GHeap} {r : Nat → Option Addr} {L : List Nd} (h : NdsAt T e b H g r L) : NdsV T H (some ⟨g, 0, none⟩) r L := .inr ⟨g, rfl, h.hd, fun i hi => (h.rows i hi).ints⟩
theorem NdsR.view {T e : TypeId} {b : Nat} {H : GHeap} {a : Option Addr} {r : Nat → Option Addr} {L : List Nd} (h : NdsR T e b H a r L) : NdsV T H a r L := by
  rcases h with ⟨h, _⟩ | ⟨g, rfl, _, h⟩
  · exact .inl h
  · exact h.view
def NdsS (T e : TypeId) (b : Nat) (H : GHeap) (a : Option Addr) (r : Nat → Option Addr) (L : List Nd) : Prop := (L = [] ∧ a = none) ∨ ∃ g, a = some ⟨g, 0, none⟩ ∧ b ≤ g ∧ H.get g = some (.row (ndV r L) T true) ∧ AgN e b H r L
theorem NdsS.keep {T e : TypeId} {b b' : Nat} {H H' : GHeap} {a : Option Addr} {r : Nat → Option Addr} {L : List Nd} (h : NdsS T e b H a r L) (k : Keep b' H H') (hb : b' ≤ b) : NdsS T e b' H' a r L := h.imp id fun ⟨g, h1, h2, h3, h4⟩ => ⟨g, h1, by omega, k g _ (by omega) h3, fun i hi => by
  rcases (h4.keep k hb) i hi with q | ⟨x, q1, q2, q3⟩
  · exact .inl q
  · exact .inr ⟨x, q1, by omega, q3⟩⟩
theorem NdsS.view {T e : TypeId} {b : Nat} {H : GHeap} {a : Option Addr} {r : Nat → Option Addr} {L : List Nd} (h : NdsS T e b H a r L) : NdsV T H a r L := by
  rcases h with ⟨h, _⟩ | ⟨g, rfl, _, h1, h2⟩
  · exact .inl h
  · exact .inr ⟨g, rfl, h1, fun i hi => (h2 i hi).ints⟩
def NdsW (T e : TypeId) (lo hi : Nat) (H : GHeap) (a : Option Addr) (r : Nat → Option Addr) (L : List Nd) : Prop := (L = [] ∧ a = none) ∨ ∃ g, a = some ⟨g, 0, none⟩ ∧ lo ≤ g ∧ g < hi ∧ NdsAt T e lo H g r L ∧ ∀ i, i < L.length → ∀ x, r i = some ⟨x, 0, none⟩ → x < hi
theorem AgN.side {e : TypeId} {b : Nat} {H : GHeap} {r : Nat → Option Addr} {L : List Nd} (h : AgN e b H r L) : ∀ i, i < L.length → ∀ x, r i = some ⟨x, 0, none⟩ → x < H.next := fun i hi x hx => by
  rcases h i hi with ⟨q, _⟩ | ⟨y, q1, _, q3⟩
  · rw [q] at hx; cases hx
  · rw [q1] at hx; cases hx; exact GHeap.ltg q3
theorem NdsW.of_r {T e : TypeId} {b : Nat} {H0 H : GHeap} {a : Option Addr} {r : Nat → Option Addr} {L : List Nd} (h : NdsR T e b H0 a r L) (k : Keep b H0 H) : NdsW T e b H0.next H a r L := h.imp id fun ⟨g, h1, h2, h3⟩ => ⟨g, h1, h2, GHeap.ltg h3.hd, ⟨k g _ h2 h3.hd, h3.rows.keep k (Nat.le_refl _), h3.inj⟩, h3.rows.side⟩
structure StA (a : Option Addr) (H H' : GHeap) : Prop where
  nx : H.next ≤ H'.next
  same : ∀ k o, a ≠ some ⟨k, 0, none⟩ → H.get k = some o → H'.get k = some o
theorem StK.stA {lo hi : Nat} {a : Option Addr} {A B C : GHeap} (h : StK lo hi A B) (s : StA a B C) (ha : ∀ g, a = some ⟨g, 0, none⟩ → lo ≤ g ∧ g < hi) : StK lo hi A C := ⟨Nat.le_trans h.nx s.nx, fun k o hk ho => s.same k o (fun e => hk (ha k e)) (h.same k o hk ho)⟩
theorem ndV_set1 {r : Nat → Option Addr} {L : List Nd} {i w : Nat} {v : Value} {x : Nd} (hi : i < L.length) (hw : w < 3) (hx : ∀ c, c < 3 → ((x.cells (r i))[c]? = if c = w then some v else ((L.getD i ndz).cells (r i))[c]?)) : (ndV r L).set (0 + (i : Int).toNat * 3 + w) v = ndV r (L.set i x) := by
  refine List.ext_getElem? fun t => ?_
  have hl := length_ndV r L
  have hl2 : (ndV r (L.set i x)).length = L.length * 3 := by rw [length_ndV, List.length_set]
  rw [Int.toNat_natCast, Nat.zero_add, List.getElem?_set]
  by_cases ht : t < L.length * 3
  · have hd : t = t / 3 * 3 + t % 3 := by omega
    have hc : t % 3 < 3 := Nat.mod_lt _ (by decide)
    have hq : t / 3 < L.length := by omega
    generalize t / 3 = q at hd hq
    generalize t % 3 = c at hd hc
    subst hd
    rw [ndV_get (L := L.set i x) (by rw [List.length_set]; exact hq) hc, ndV_get hq hc, getD_setN hi]
    by_cases e : q = i
    · subst e
      rw [if_pos rfl, hx c hc]
      by_cases ec : c = w
      · subst ec; rw [if_pos rfl, if_pos (by omega), if_pos rfl]
      · rw [if_neg (by omega), if_neg ec]
    · rw [if_neg e, if_neg (by omega)]
  · rw [if_neg (by omega), List.getElem?_eq_none (by omega), List.getElem?_eq_none (by omega)]
theorem ndV_setk {r : Nat → Option Addr} {L : List Nd} {i : Nat} {v : Int} (hi : i < L.length) : (ndV r L).set (0 + (i : Int).toNat * 3 + 0) (.int .i64 v) = ndV r (L.set i ⟨v, (L.getD i ndz).s, (L.getD i ndz).az⟩) := ndV_set1 hi (by decide) fun c hc => by
  rcases (by omega : c = 0 ∨ c = 1 ∨ c = 2) with rfl | rfl | rfl <;> rfl
theorem ndV_sets {r : Nat → Option Addr} {L : List Nd} {i : Nat} {v : Int} (hi : i < L.length) : (ndV r L).set (0 + (i : Int).toNat * 3 + 1) (.int .i64 v) = ndV r (L.set i ⟨(L.getD i ndz).k, v, (L.getD i ndz).az⟩) := ndV_set1 hi (by decide) fun c hc => by
  rcases (by omega : c = 0 ∨ c = 1 ∨ c = 2) with rfl | rfl | rfl <;> rfl
theorem ndV_len {r : Nat → Option Addr} {L L' : List Nd} (hl : L.length = L'.length) (h : ∀ i, i < L.length → (L.getD i ndz).k = (L'.getD i ndz).k ∧ (L.getD i ndz).s = (L'.getD i ndz).s ∧ (L.getD i ndz).az.length = (L'.getD i ndz).az.length) : ndV r L = ndV r L' := by
  unfold ndV
  rw [← hl]
  refine flatMap_congr' fun i hi => ?_
  obtain ⟨h1, h2, h3⟩ := h i (List.mem_range.1 hi)
  unfold Nd.cells
  rw [h1, h2, h3]
theorem ndV_setlen {r : Nat → Option Addr} {L : List Nd} {i : Nat} {k s : Int} {l l' : List Int} (hi : i < L.length) (h : l.length = l'.length) : ndV r (L.set i ⟨k, s, l⟩) = ndV r (L.set i ⟨k, s, l'⟩) := by
  refine ndV_len (by simp) fun j _ => ?_
  rw [getD_setN hi, getD_setN hi]
  split
  · exact ⟨rfl, rfl, h⟩
  · exact ⟨rfl, rfl, rfl⟩
def ndTot (L : List Nd) (j : Nat) : Nat := j * 2 + sumL ((L.map Nd.az).take j)
theorem getD_az {L : List Nd} {i : Nat} : (L.map Nd.az).getD i [] = (L.getD i ndz).az := by
  rw [List.getD_eq_getElem?_getD, List.getD_eq_getElem?_getD, List.getElem?_map]
  cases L[i]? <;> rfl
theorem ndTot_succ {L : List Nd} {j : Nat} (h : j < L.length) : ndTot L (j + 1) = ndTot L j + 2 + (L.getD j ndz).az.length := by
  unfold ndTot
  rw [sumL_take_succ (by rw [List.length_map]; exact h), getD_az]
  omega
theorem ndTot_le {L : List Nd} {j : Nat} (h : j ≤ L.length) : ndTot L j ≤ ndTot L L.length := by
  have := sumL_take_le (xss := L.map Nd.az) (k := j)
  unfold ndTot
  rw [List.take_of_length_le (i := L.length) (by rw [List.length_map]; omega)]
  omega
def markN (L : List Nd) (k : Int) : List Nd := (List.range L.length).map fun j => (⟨k + ndTot L j, k + ndTot L j + 1, seqL (k + ndTot L j + 2) (L.getD j ndz).az.length⟩ : Nd)
@[simp] theorem length_markN (L : List Nd) (k : Int) : (markN L k).length = L.length := by simp [markN]
theorem markN_get {L : List Nd} {k : Int} {j : Nat} (h : j < L.length) : (markN L k).getD j ndz = ⟨k + ndTot L j, k + ndTot L j + 1, seqL (k + ndTot L j + 2) (L.getD j ndz).az.length⟩ := by simp [markN, List.getD_eq_getElem?_getD, h]
theorem eq_of_getDN {xs ys : List Nd} (hl : xs.length = ys.length) (h : ∀ i, i < xs.length → xs.getD i ndz = ys.getD i ndz) : xs = ys := by
  apply List.ext_getElem hl
  intro i h1 h2
  have := h i h1
  simpa [List.getD_eq_getElem?_getD, h1, h2] using this
theorem AgN.set1 {e : TypeId} {b : Nat} {H H' : GHeap} {r : Nat → Option Addr} {L : List Nd} {i : Nat} {x : Nd} (h : AgN e b H r L) (inj : ∀ i j, i < L.length → j < L.length → r i = r j → r i ≠ none → i = j) (s : StA (r i) H H') (hi : i < L.length) (hx : Ag e b H' (r i) x.az) : AgN e b H' r (L.set i x) := fun j hj => by
  rw [List.length_set] at hj
  rw [getD_setN hi]
  by_cases ej : j = i
  · subst ej; rw [if_pos rfl]; exact hx
  · rw [if_neg ej]
    rcases h j hj with q | ⟨g, q1, q2, q3⟩
    · exact .inl q
    · exact .inr ⟨g, q1, q2, s.same g _ (fun e1 => ej (inj j i hj hi (by rw [q1, e1]) (by rw [q1]; simp))) q3⟩
open Classical in
noncomputable def pfL (s : ByteArray) : List Nd := bif B (GoodS (btL s)) then (rdS (btL s)).L else []
noncomputable def pfC (s : ByteArray) : Int := bif B (GoodS (btL s)) then 0 else 6
theorem pf_no {s : ByteArray} (h : ¬ GoodS (btL s)) : pfL s = [] ∧ pfC s = 6 := by unfold pfL pfC; rw [B_false h]; exact ⟨rfl, rfl⟩
theorem pf_yes {s : ByteArray} (h : GoodS (btL s)) : pfL s = (rdS (btL s)).L ∧ pfC s = 0 := by unfold pfL pfC; rw [B_true h]; exact ⟨rfl, rfl⟩
theorem good_iff (s : ByteArray) : GoodI (btL s) (rnL s s.size 0) ↔ GoodS (btL s) :=
  ⟨fun h => (good_is h).1, fun h => (good_si (fun hp => by rw [rnL_plain s hp s.size 0 (by omega), btL_rest]) h).1⟩
theorem good_L {s : ByteArray} (h : GoodS (btL s)) : (rdI (rnL s s.size 0)).L = (rdS (btL s)).L := (good_si (fun hp => by rw [rnL_plain s hp s.size 0 (by omega), btL_rest]) h).2
theorem good_pick {T W : List Int} (h1 : (rdI W).bad = false) (h3 : IsF (rdI W).L) (h2 : (rdI W).u = []) : ∃ p : Fm, p.Ok ∧ p.Lim ∧ p.nodes = (rdI W).L ∧ (GoodI T W ↔ p.text = T) := by
  by_cases g : GoodI T W
  · obtain ⟨_, _, _, p, p1, p2, p3⟩ := id g
    exact ⟨p, p1, p.lim p1 fun x hx => h3.2.1 x (by rw [← p2]; exact hx), p2, ⟨fun _ => p3, fun _ => g⟩⟩
  · obtain ⟨_, _, p, p1, p2⟩ := Rd.form_sound (W.length + 1) ⟨W, [], false⟩ (Nat.lt_succ_self _) h1
    replace p2 : (rdI W).L = p.nodes := p2
    exact ⟨p, p1, p.lim p1 fun x hx => h3.2.1 x (by rw [p2]; exact hx), p2.symm, ⟨fun q => absurd q g, fun q => absurd ⟨h1, h2, h3, p, p1, p2.symm, q⟩ g⟩⟩
theorem Nd.Ok.len {x : Nd} (h : x.Ok) : x.az.length ≤ 2 := by
  have := h.2
  split at this
  · exact this.2
  split at this
  · omega
  split at this <;> omega
theorem pfL_ok (s : ByteArray) : (pfL s).length ≤ 40 ∧ (∀ i, i < (pfL s).length → ((pfL s).getD i ndz).az.length ≤ 2) ∧ ndTot (pfL s) (pfL s).length ≤ 160 := by
  have key : ∀ L : List Nd, L.length ≤ 40 → (∀ i, i < L.length → (L.getD i ndz).az.length ≤ 2) → L.length ≤ 40 ∧ (∀ i, i < L.length → (L.getD i ndz).az.length ≤ 2) ∧ ndTot L L.length ≤ 160 := fun L h1 h2 => by
    refine ⟨h1, h2, ?_⟩
    have := sumL_le (m := 2) (xss := L.map Nd.az) (fun i => by
      rw [getD_az]
      by_cases hi : i < L.length
      · exact h2 i hi
      · rw [List.getD_eq_getElem?_getD, List.getElem?_eq_none (by omega)]; simp)
    rw [List.length_map] at this
    unfold ndTot
    rw [List.take_of_length_le (by rw [List.length_map]; omega)]
    omega
  by_cases h : GoodS (btL s)
  · rw [(pf_yes h).1]
    exact key _ h.2.2.1.2 fun i hi => (all_nd.1 h.2.2.2.1 i hi).len
  · rw [(pf_no h).1]
    exact key [] (by simp) (fun i hi => by simp at hi)
end Go.GL
namespace Go.Proofs.YtdnjnligclkkgaaDoor
open Go Go.GL Go.RowKit Go.Proofs
theorem bt_30_Uj : buildT Tryd.prog 30 = some ([.string ⟨#[]⟩, .int .i64 0, .slice none 0 0, .bool false], [(0, 1), (1, 1), (2, 1), (3, 1)]) := by kernel_rfl
theorem sz_30_Uj : (Tryd.prog.info? 30).map (·.size) = some 4 := by kernel_rfl
theorem byt_63_Uj : bytesT Tryd.prog 63 = true := by kernel_rfl
theorem sz_21_Uj : (Tryd.prog.info? 21).map (·.size) = some 1 := by kernel_rfl
theorem bt_52_Uj : buildT Tryd.prog 52 = some ([.slice none 0 0, .slice none 0 0, .bool false], [(0, 1), (1, 1), (2, 1)]) := by kernel_rfl
theorem sz_52_Uj : (Tryd.prog.info? 52).map (·.size) = some 3 := by kernel_rfl
theorem l29Read_all : ∀ n, ReadSpec n
  | 0 => fun _ _ _ hn _ => absurd hn (Nat.not_lt_zero _)
  | n + 1 => l29Read_step (l29Read_all n)
theorem formula_all : ∀ n, FormSpec n
  | 0 => fun _ _ _ _ hn _ => absurd hn (Nat.not_lt_zero _)
  | n + 1 => formula_step (formula_all n)
theorem formulaText_all : ∀ n, TextSpec n
  | 0 => fun hn _ _ _ _ _ _ _ _ _ _ _ _ => absurd hn (Nat.not_lt_zero _)
  | n + 1 => formulaText_step (formulaText_all n)
theorem specIsFormula0_c {a : Option Addr} {H : GHeap} : GCalls Tryd.prog 10 [.slice a 0 0] H (Ret (.bool (B (IsF []))) H) := by
  refine GCalls.body (N := 25) (rs := [.tmp 2]) Tryd.func10 rfl rfl rfl rfl (fun Qx b hend => ?_)
  refine .fg [0] rfl ?_
  refine .seq (fun K1 c => .region (.mv rfl (.nil (c _ _ (.seq (fun K2 hK2 => .seq (fun K3 d => .region (.mv rfl (.q rfl (.len sl_22_Uc rfl) ?_)))))))))
  refine .callQ rfl rfl rfl rfl @Tryd.call21 rfl (l01In_c) ?_
  refine .q rfl (.not rfl) (.nil (d _ _ ?_))
  refine .cond rfl ?_ ?_ <;> intro h7
  ·
   try simp only [sps] at h7
   refine .seq (fun K4 e => .region (.mv rfl (.nil (e _ _ (.ret (b _ _ (⟨_, rfl, ?_⟩)))))))
   exact .of (congrArg _ (B_false (IsF.no (by simp))))
  simp only [inR, sps] at h7; omega
theorem isFormula0_c {a : Option Addr} {H : GHeap} : GCalls Tryd.prog 25 [.slice a 0 0] H (Ret (.bool (B (IsF []))) H) := by
  refine GCalls.body (N := 24) (rs := [.tmp 2]) Tryd.func25 rfl rfl rfl rfl (fun Qx b hend => ?_)
  refine .fg [0] rfl ?_
  refine .seq (fun K1 c => .region (.mv rfl (.nil (c _ _ (.seq (fun K2 hK2 => .seq (fun K3 d => .region (.mv rfl (.q rfl (.len sl_22_Uc rfl) ?_)))))))))
  refine .callQ rfl rfl rfl rfl @Tryd.call36 rfl (inRange_c) ?_
  refine .q rfl (.not rfl) (.nil (d _ _ ?_))
  refine .cond rfl ?_ ?_ <;> intro h7
  ·
   try simp only [sps] at h7
   refine .seq (fun K4 e => .region (.mv rfl (.nil (e _ _ (.ret (b _ _ (⟨_, rfl, ?_⟩)))))))
   exact .of (congrArg _ (B_false (IsF.no (by simp))))
  simp only [inR, sps] at h7; omega
theorem specIsFormulaN_c {g n : Nat} {L : List Nd} {r : Nat → Option Addr} {b0 : Nat} {H : GHeap} (hno : NO H g (ndV r L) 38 L.length) (hA : AgN 2 b0 H r L) (hB : AzB 1048576 L) (hl : L.length ≤ 40) (hn : n = L.length := by rfl) :
    GCalls Tryd.prog 10 [.slice (nz n g) n n] H (Ret (.bool (B (IsF L))) H) := by
  subst hn
  by_cases h0 : L.length = 0
  · obtain rfl := List.eq_nil_of_length_eq_zero h0
    exact specIsFormula0_c
  · rw [nz_pos (by omega)]
    exact specIsFormula_c (hno.get (by omega)) (fun i hi => (hA i hi).ints) (fun i hi => hB.get hi) (by omega)
theorem isFormulaN_c {g n : Nat} {L : List Nd} {r : Nat → Option Addr} {b0 : Nat} {H : GHeap} (hno : NO H g (ndV r L) 38 L.length) (hA : AgN 2 b0 H r L) (hB : AzB 1048576 L) (hl : L.length ≤ 40) (hn : n = L.length := by rfl) :
    GCalls Tryd.prog 25 [.slice (nz n g) n n] H (Ret (.bool (B (IsF L))) H) := by
  subst hn
  by_cases h0 : L.length = 0
  · obtain rfl := List.eq_nil_of_length_eq_zero h0
    exact isFormula0_c
  · rw [nz_pos (by omega)]
    exact isFormula_c (hno.get (by omega)) (fun i hi => (hA i hi).ints) (fun i hi => hB.get hi) (by omega)
theorem rdS_facts {T : List Int} (h : T.length ≤ 1048576) : (rdS T).L.length ≤ 40 ∧ AzB 1048576 (rdS T).L := ⟨Rd.read_40 _ _ (Nat.zero_le _), Rd.read_az _ _ _ (fun x hx => by cases hx) h (by decide)⟩
theorem rdI_facts {W : List Int} (h : W.length ≤ 1048576) : (rdI W).L.length ≤ 40 ∧ AzB 1048576 (rdI W).L := ⟨(Rd.form_40 _ _ (Nat.zero_le _)).2, Rd.form_az _ _ _ (fun x hx => by cases hx) h (by decide)⟩
set_option maxHeartbeats 4000000 in
theorem specParse0_c {s : ByteArray} {gL : Nat} {H : GHeap} (hg : gL < H.next) (hn : H.get gL = none) (hs : s.size ≤ 1048576) :
    GCalls Tryd.prog 4 [.string s] H (fun v H' => H.Le H' ∧ ∃ a r, v = .tuple #[.slice a (pfL s).length (pfL s).length, .int .i64 (pfC s)] ∧ NdsS 38 2 gL H' a r (pfL s)) := by
  have hT : (btL s).length ≤ 1048576 := by rw [btL_size]; exact hs
  obtain ⟨a1, o⟩ := rdS_facts hT
  refine GCalls.body (N := 35) (rs := [.tmp 2, .tmp 3]) Tryd.func4 rfl rfl rfl rfl (fun Qx c hend => ?_)
  refine .fg [0] rfl ?_
  have b := St.refl [gL] H
  refine .seq (fun K1 y => .region (.mv rfl (.mv rfl (.nil (y _ _ (.seq (fun K2 m => .region (.mv rfl (.q rfl (.build bt_30_Uj rfl rfl rfl) ?_)))))))))
  refine .R rfl (.boxR rfl sz_30_Uj rfl) ?_
  rintro _ _ ⟨g7, rfl, l, _, f⟩
  have _ := l.1
  replace b := b.le l
  have _ := GHeap.ltg f
  have k : MemN _ _ _ _ _ := ⟨rfl, Mem.of_get f⟩
  refine .mv rfl (.nil (m _ _ (.seq (fun K3 a0 => .region (.mv rfl ?_)))))
  refine .call rfl rfl rfl rfl @Tryd.call9 rfl (l29Read_all ((btL s).length + 1) (B := gL) (gL := gL) (r := ⟨btL s, [], false⟩) (rr := fun _ => none) ⟨⟨0, Nat.zero_le _, btL_rest s, f⟩, NO.start (by omega) rfl rfl, by omega, fun i hi => by cases hi⟩ hs (Nat.zero_le _) (Nat.lt_succ_self _) (by omega)) ?_
  rintro _ H9 ⟨rfl, j, gP, rP, _, hrP⟩
  replace hrP : RdN 30 38 2 gL H9 g7 gP s (rdS (btL s)) rP := hrP
  obtain ⟨⟨_, _, huP, atP⟩, noP, _, agP⟩ := id hrP
  have _ := j.nx
  replace b := b.sA j
  have _ := GHeap.ltg atP
  clear k
  have k : MemN _ _ _ _ _ := ⟨rfl, Mem.of_get f⟩
  refine .nil (a0 _ _ (.seq (fun K4 t => .seq (fun K5 g => .region (.mv rfl (.q rfl (.nilCheck rfl) (.q rfl (.fieldAddr fo_30_3_Ua rfl) ?_)))))))
  refine .q rfl (.load on_4_Uf rfl (by first | assumption | exact Mem.of_get atP 3 _ rfl)) ?_
  refine .mv rfl ?_
  refine .split (fun d => ?_) (fun d => ?_)
  ·
   have hno : ¬ GoodS (btL s) := fun q => by have := q.1; rw [d] at this; cases this
   refine .z rfl (.z rfl (.z rfl (.z rfl (.z rfl (.z rfl (.z rfl (.q rfl (.pickT rfl rfl) (.mv rfl (.z rfl (.z rfl (.z rfl (.z rfl (.z rfl (.z rfl (.q rfl (.pickT rfl rfl) ?_)))))))))))))))
   refine .nil (g _ _ ?_)
   refine .condT rfl ?_
   refine .seq (fun K6 w => .region (.mv rfl (.mv rfl (.nil (w _ _ (.ret (c _ _ (⟨_, _, rfl, rfl, ?_⟩))))))))
   first
   | (obtain ⟨e1, e2⟩ := pf_no hno; rw [e1, e2]; exact ⟨b.le_none hn, none, fun _ => none, rfl, .inl ⟨rfl, rfl⟩⟩)
   | (obtain ⟨e1, e2⟩ := pf_yes hye; rw [e1, e2]; have h1 := hye.2.2.1.1; exact ⟨b.le_none hn, _, rP, rfl, .inr ⟨gP, nz_pos (by omega), by omega, noP.get (by omega), agP.back⟩⟩)
  try simp only [sps] at d
  refine .qg rfl (.move rfl) (.qg rfl (.nilCheck rfl) (.qg rfl (.fieldAddr fo_30_1_Ua rfl) ?_))
  refine .qg rfl (.load on_3_Ua rfl (by first | assumption | exact Mem.of_get atP 1 _ rfl)) ?_
  refine .qg rfl (.move rfl) (.qg rfl (.lenStr st_9_Ua rfl) (.qg rfl (.cmp rfl rfl rfl) (.q rfl (.pickF rfl rfl) (.mv rfl ?_))))
  refine .split (fun h => ?_) (fun h => ?_)
  ·
   simp only [sps] at h
   have hno : ¬ GoodS (btL s) := fun q => by have := q.2.1; rw [← huP] at this; have := congrArg List.length this; rw [rest_len, List.length_nil] at this; omega
   refine .z rfl (.z rfl (.z rfl (.z rfl (.z rfl (.z rfl (.q rfl (.pickT rfl rfl) (.nil (g _ _ ?_))))))))
   refine .condT rfl ?_
   refine .seq (fun K7 a2 => .region (.mv rfl (.mv rfl (.nil (a2 _ _ (.ret (c _ _ (⟨_, _, rfl, rfl, ?_⟩))))))))
   first
   | (obtain ⟨e1, e2⟩ := pf_no hno; rw [e1, e2]; exact ⟨b.le_none hn, none, fun _ => none, rfl, .inl ⟨rfl, rfl⟩⟩)
   | (obtain ⟨e1, e2⟩ := pf_yes hye; rw [e1, e2]; have h1 := hye.2.2.1.1; exact ⟨b.le_none hn, _, rP, rfl, .inr ⟨gP, nz_pos (by omega), by omega, noP.get (by omega), agP.back⟩⟩)
  simp only [sps] at h
  have p : (rdS (btL s)).u = [] := by rw [← huP]; exact rest_nil (by omega)
  refine .qg rfl (.move rfl) (.qg rfl (.nilCheck rfl) (.qg rfl (.fieldAddr fo_30_2_Uc rfl) ?_))
  refine .qg rfl (.load on_22_Uc rfl (by first | assumption | exact Mem.of_get atP 2 _ rfl)) ?_
  refine .callQg rfl rfl rfl rfl rfl rfl @Tryd.call10 rfl (specIsFormulaN_c noP agP.back o a1) ?_
  refine .qg rfl (.not rfl) (.q rfl (.pickF rfl rfl) (.nil (g _ _ ?_)))
  refine .cond rfl ?_ ?_ <;> intro e
  ·
   have hno : ¬ GoodS (btL s) := fun q => by rw [B_true q.2.2] at e; simp at e
   refine .seq (fun K8 n => .region (.mv rfl (.mv rfl (.nil (n _ _ (.ret (c _ _ (⟨_, _, rfl, rfl, ?_⟩))))))))
   first
   | (obtain ⟨e1, e2⟩ := pf_no hno; rw [e1, e2]; exact ⟨b.le_none hn, none, fun _ => none, rfl, .inl ⟨rfl, rfl⟩⟩)
   | (obtain ⟨e1, e2⟩ := pf_yes hye; rw [e1, e2]; have h1 := hye.2.2.1.1; exact ⟨b.le_none hn, _, rP, rfl, .inr ⟨gP, nz_pos (by omega), by omega, noP.get (by omega), agP.back⟩⟩)
  have hF : IsF (rdS (btL s)).L := Classical.byContradiction fun q => by rw [B_false q] at e; simp at e
  have hye : GoodS (btL s) := ⟨by simpa using d, p, hF⟩
  refine .skip (t _ _ (.seq (fun K9 x => .region (.mv rfl (.q rfl (.nilCheck rfl) (.q rfl (.fieldAddr fo_30_2_Uc rfl) ?_))))))
  refine .q rfl (.load on_22_Uc rfl (by first | assumption | exact Mem.of_get atP 2 _ rfl)) ?_
  refine .mv rfl (.mv rfl (.nil (x _ _ (.ret (c _ _ (⟨_, _, rfl, rfl, ?_⟩))))))
  first
  | (obtain ⟨e1, e2⟩ := pf_no hno; rw [e1, e2]; exact ⟨b.le_none hn, none, fun _ => none, rfl, .inl ⟨rfl, rfl⟩⟩)
  | (obtain ⟨e1, e2⟩ := pf_yes hye; rw [e1, e2]; have h1 := hye.2.2.1.1; exact ⟨b.le_none hn, _, rP, rfl, .inr ⟨gP, nz_pos (by omega), by omega, noP.get (by omega), agP.back⟩⟩)
theorem specParse_c {s : ByteArray} {H : GHeap} (hs : s.size ≤ 1048576 := by omega) :
    GCalls Tryd.prog 4 [.string s] H (fun v H' => H.Le H' ∧ ∃ a r, v = .tuple #[.slice a (pfL s).length (pfL s).length, .int .i64 (pfC s)] ∧ NdsS 38 2 H.next H' a r (pfL s)) :=
  GCalls.hold fun Hh h1 h2 h3 => (specParse0_c (gL := H.next) (by omega) h3 hs).mono fun _ _ ⟨k1, k2⟩ => ⟨h1.trans k1, k2⟩
theorem textOf0_c {p : Fm} {gL gO B : Nat} {L : List Nd} {r : Nat → Option Addr} {H : GHeap} (hg : gO < H.next) (hn : H.get gO = none) (hp : p.Lim) (hpn : p.nodes = L) (hl : L.length ≤ 40) (hok : ∀ x ∈ L, x.Ok) (hL : H.get gL = some (.row (ndV r L) 38 true)) (hA : AgN 2 B H r L) :
    GCalls Tryd.prog 26 [.slice (some ⟨gL, 0, none⟩) L.length L.length] H (fun v H' => v = .string (bytesOf p.text) ∧ H.Le H') := by
  have _ := p.text_len (by rw [hpn]; exact hok)
  have _ : p.nodes.length ≤ 40 := by rw [hpn]; exact hl
  have h : 0 < p.text.length := by cases p <;> simp [Fm.text, vtx]
  have _ : gL ≠ gO := fun e => by rw [e, hn] at hL; cases hL
  refine GCalls.body (N := 12) (rs := [.tmp 2]) Tryd.func26 rfl rfl rfl rfl (fun Qx a hend => ?_)
  refine .fg [0] rfl ?_
  have _ := GHeap.ltg hL
  have c := St.refl [gO] H
  refine .seq (fun K1 d => .region (.mv rfl (.nil (d _ _ (.seq (fun K2 f => .region (.mv rfl ?_)))))))
  refine .call rfl rfl rfl rfl @Tryd.call39 rfl (formulaText_all (p.nodes.length + 1) (p := p) (i := 0) (q := []) (bs := []) (gO := gO) (Nat.lt_succ_self _) hp (by rw [List.append_nil, List.drop_zero, hpn]) hl hL hA (NO.start hg rfl rfl) (fun e => by rw [e, hn] at hL; cases hL) (hA.nowhere hn) (by rw [List.length_nil]; omega) rfl rfl rfl) ?_
  rintro _ _ ⟨_, _, _, rfl, hmZ, _, b, _, atZ⟩
  rw [List.nil_append] at hmZ atZ
  subst hmZ
  have _ := b.nx
  replace c := c.sA b
  replace hL := b.s hL
  have _ := GHeap.ltg atZ
  refine .mv rfl (.q rfl (.extract rfl rfl) (.q rfl (.extract rfl rfl) (.mv rfl (.mv rfl (.nil (f _ _ (.seq (fun K3 g => .region (.mv rfl (.q rfl (.bytesStr (ns := p.text) byt_63_Uj st_9_Ua rfl rfl h (u8_cells atZ)) (.mv rfl (.nil (g _ _ (.ret (a _ _ (⟨_, rfl, ?_⟩))))))))))))))))
  exact ⟨rfl, c.le_none hn⟩
theorem textOf_c {p : Fm} {gL B : Nat} {L : List Nd} {r : Nat → Option Addr} {H : GHeap} (hp : p.Lim) (hpn : p.nodes = L) (hl : L.length ≤ 40) (hok : ∀ x ∈ L, x.Ok) (hL : H.get gL = some (.row (ndV r L) 38 true)) (hA : AgN 2 B H r L) :
    GCalls Tryd.prog 26 [.slice (some ⟨gL, 0, none⟩) L.length L.length] H (Ret (.string (bytesOf p.text)) H) :=
  GCalls.ret rfl (GCalls.hold fun Hh h1 h2 h3 => (textOf0_c (gO := H.next) (by omega) h3 hp hpn hl hok (h1.2 _ _ hL) (hA.le h1)).mono fun _ _ ⟨k1, k2⟩ => ⟨k1.symm, h1.trans k2⟩)
theorem textOfN_c {p : Fm} {gL b0 n : Nat} {L : List Nd} {r : Nat → Option Addr} {H : GHeap} (hp : p.Lim) (hpn : p.nodes = L) (hl : L.length ≤ 40) (hok : ∀ x ∈ L, x.Ok) (hL : NO H gL (ndV r L) 38 L.length) (hA : AgN 2 b0 H r L) (h1 : 1 ≤ L.length) (hn : n = L.length := by rfl) :
    GCalls Tryd.prog 26 [.slice (nz n gL) n n] H (Ret (.string (bytesOf p.text)) H) := by
  subst hn
  rw [nz_pos (by omega)]
  exact textOf_c hp hpn hl hok (hL.get (by omega)) hA
set_option maxHeartbeats 4000000 in
theorem parseFormula0_c {s : ByteArray} {gL : Nat} {H : GHeap} (hg : gL < H.next) (hn : H.get gL = none) (hs : s.size ≤ 1048576) :
    GCalls Tryd.prog 11 [.string s] H (fun v H' => H.Le H' ∧ ∃ a r, v = .tuple #[.slice a (pfL s).length (pfL s).length, .bool (B (GoodS (btL s)))] ∧ NdsR 38 2 gL H' a r (pfL s)) := by
  obtain ⟨W, hWe⟩ : ∃ W, rnL s s.size 0 = W := ⟨_, rfl⟩
  have _ : W.length ≤ s.size := by rw [← hWe]; exact rnL_len s s.size 0
  have hWr : Run W := by rw [← hWe]; exact rnL_run s s.size 0
  have hgi := good_iff s
  rw [hWe] at hgi
  obtain ⟨a1, a5⟩ := rdI_facts (W := W) (by omega)
  refine GCalls.body (N := 44) (rs := [.tmp 2, .tmp 3]) Tryd.func11 rfl rfl rfl rfl (fun Qx d hend => ?_)
  refine .fg [0] rfl ?_
  have b := St.refl [gL] H
  refine .seq (fun K1 b3 => .region (.mv rfl (.mv rfl (.nil (b3 _ _ (.seq (fun K2 a3 => .region (.mv rfl ?_))))))))
  refine .R rfl (.runesW hWe rfl st_9_Ua (dst := 50) (e := 21) (by kernel_rfl) sz_21_Uj rfl (by omega)) ?_
  rintro _ _ ⟨g6, rfl, a0, _, g⟩
  have _ := a0.1
  replace b := b.le a0
  have _ := GHeap.ltg g
  refine .q rfl (.build bt_52_Uj rfl rfl rfl) ?_
  refine .R rfl (.boxR rfl sz_52_Uj rfl) ?_
  rintro _ _ ⟨g8, rfl, t, _, l⟩
  have _ := t.1
  replace b := b.le t
  replace g := t.2 _ _ g
  have _ := GHeap.ltg l
  have y : MemN _ _ _ _ _ := ⟨rfl, Mem.of_get l⟩
  refine .mv rfl (.nil (a3 _ _ (.seq (fun K3 b5 => .region (.mv rfl ?_)))))
  refine .call rfl rfl rfl rfl @Tryd.call24 rfl (formula_all (W.length + 1) (B := gL) (W := W) (gT := g6) (gL := gL) (r := ⟨W, [], false⟩) (rr := fun _ => none) ⟨⟨0, Nat.zero_le _, rfl, l, g⟩, NO.start (by omega) rfl rfl, by omega, by omega, by omega, fun i hi => (by cases hi), fun i j hi => (by cases hi)⟩ hWr (by omega) (Nat.zero_le _) (Nat.lt_succ_self _) (by omega)) ?_
  rintro _ b4 ⟨rfl, f, gP, rP, _, hrP⟩
  replace hrP : RdP' gL b4 g8 g6 gP W (rdI W) rP := hrP
  obtain ⟨⟨_, _, huP, atP, _⟩, noP, _, _, _, agP, injP⟩ := id hrP
  have _ := f.nx
  replace b := b.sA f
  replace g := f.same _ _ ⟨(by first | assumption | omega), (by first | assumption | omega), trivial⟩ g
  have _ := GHeap.ltg atP
  clear y
  have y : MemN _ _ _ _ _ := ⟨rfl, Mem.of_get l⟩
  refine .nil (b5 _ _ (.seq (fun K4 b0 => .seq (fun K5 k => .region (.mv rfl (.q rfl (.nilCheck rfl) (.q rfl (.fieldAddr fo_52_2_Ud rfl) ?_)))))))
  refine .q rfl (.load on_4_Uf rfl (by first | assumption | exact Mem.of_get atP 2 _ rfl)) ?_
  refine .mv rfl ?_
  refine .split (fun n => ?_) (fun n => ?_)
  ·
   have hno : ¬ GoodI (btL s) W := fun q => by have := q.1; rw [n] at this; cases this
   refine .z rfl (.z rfl (.z rfl (.z rfl (.z rfl (.z rfl (.q rfl (.pickT rfl rfl) (.mv rfl (.z rfl (.z rfl (.z rfl (.z rfl (.z rfl (.z rfl (.q rfl (.pickT rfl rfl) (.mv rfl ?_)))))))))))))))
   refine .z rfl (.z rfl (.z rfl (.z rfl (.z rfl (.z rfl (.z rfl (.q rfl (.pickT rfl rfl) (.nil (k _ _ ?_)))))))))
   refine .condT rfl ?_
   refine .seq (fun K6 b1 => .region (.mv rfl (.mv rfl (.nil (b1 _ _ (.ret (d _ _ (⟨_, _, rfl, rfl, ?_⟩))))))))
   first
   | (rw [B_false (fun q => hno (hgi.2 q)), (pf_no fun q => hno (hgi.2 q)).1]; exact ⟨b.le_none hn, none, fun _ => none, rfl, .inl ⟨rfl, rfl⟩⟩)
   | (rw [B_true hye, (pf_yes hye).1, ← heL]; exact ⟨b.le_none hn, _, rP, rfl, .inr ⟨gP, nz_pos (by omega), by omega, noP.get (by omega), agP.back, injP⟩⟩)
  try simp only [sps] at n
  refine .qg rfl (.move rfl) (.qg rfl (.nilCheck rfl) (.qg rfl (.fieldAddr fo_52_0_Ud rfl) ?_))
  refine .qg rfl (.load on_50_Ud rfl (by first | assumption | exact Mem.of_get atP 0 _ rfl)) ?_
  refine .qg rfl (.len sl_50_Ud rfl) (.qg rfl (.cmp rfl rfl rfl) (.q rfl (.pickF rfl rfl) (.mv rfl ?_)))
  refine .split (fun w => ?_) (fun w => ?_)
  ·
   simp only [sps] at w
   have hno : ¬ GoodI (btL s) W := fun q => by have := q.2.1; rw [← huP] at this; have := congrArg List.length this; rw [List.length_drop, List.length_nil] at this; omega
   refine .z rfl (.z rfl (.z rfl (.z rfl (.z rfl (.z rfl (.q rfl (.pickT rfl rfl) (.mv rfl (.z rfl (.z rfl (.z rfl (.z rfl (.z rfl (.z rfl (.z rfl (.q rfl (.pickT rfl rfl) ?_)))))))))))))))
   refine .nil (k _ _ ?_)
   refine .condT rfl ?_
   refine .seq (fun K7 b6 => .region (.mv rfl (.mv rfl (.nil (b6 _ _ (.ret (d _ _ (⟨_, _, rfl, rfl, ?_⟩))))))))
   first
   | (rw [B_false (fun q => hno (hgi.2 q)), (pf_no fun q => hno (hgi.2 q)).1]; exact ⟨b.le_none hn, none, fun _ => none, rfl, .inl ⟨rfl, rfl⟩⟩)
   | (rw [B_true hye, (pf_yes hye).1, ← heL]; exact ⟨b.le_none hn, _, rP, rfl, .inr ⟨gP, nz_pos (by omega), by omega, noP.get (by omega), agP.back, injP⟩⟩)
  simp only [sps] at w
  have a7 : (rdI W).u = [] := by rw [← huP]; exact List.drop_eq_nil_of_le (by omega)
  refine .qg rfl (.move rfl) (.qg rfl (.nilCheck rfl) (.qg rfl (.fieldAddr fo_52_1_Ug rfl) ?_))
  refine .qg rfl (.load on_22_Uc rfl (by first | assumption | exact Mem.of_get atP 1 _ rfl)) ?_
  refine .callQg rfl rfl rfl rfl rfl rfl @Tryd.call25 rfl (isFormulaN_c noP agP.back a5 a1) ?_
  refine .qg rfl (.not rfl) (.q rfl (.pickF rfl rfl) (.mv rfl ?_))
  refine .split (fun h => ?_) (fun h => ?_)
  ·
   have hno : ¬ GoodI (btL s) W := fun q => by rw [B_true q.2.2.1] at h; simp at h
   refine .z rfl (.z rfl (.z rfl (.z rfl (.z rfl (.z rfl (.z rfl (.q rfl (.pickT rfl rfl) (.nil (k _ _ ?_)))))))))
   refine .condT rfl ?_
   refine .seq (fun K8 a2 => .region (.mv rfl (.mv rfl (.nil (a2 _ _ (.ret (d _ _ (⟨_, _, rfl, rfl, ?_⟩))))))))
   first
   | (rw [B_false (fun q => hno (hgi.2 q)), (pf_no fun q => hno (hgi.2 q)).1]; exact ⟨b.le_none hn, none, fun _ => none, rfl, .inl ⟨rfl, rfl⟩⟩)
   | (rw [B_true hye, (pf_yes hye).1, ← heL]; exact ⟨b.le_none hn, _, rP, rfl, .inr ⟨gP, nz_pos (by omega), by omega, noP.get (by omega), agP.back, injP⟩⟩)
  have hF : IsF (rdI W).L := Classical.byContradiction fun q => by rw [B_false q] at h; simp at h
  have a6 := hF.1.1
  obtain ⟨p, a4, a8, a9, x⟩ := good_pick (T := btL s) (W := W) (by simpa using n) hF a7
  refine .qg rfl (.move rfl) (.qg rfl (.nilCheck rfl) (.qg rfl (.fieldAddr fo_52_1_Ug rfl) ?_))
  refine .qg rfl (.load on_22_Uc rfl (by first | assumption | exact Mem.of_get atP 1 _ rfl)) ?_
  refine .callQg rfl rfl rfl rfl rfl rfl @Tryd.call26 rfl (textOfN_c a8 a9 a1 hF.2.1 noP agP.back a6) ?_
  refine .qg rfl (.move rfl) (.qg rfl (.strCmp rfl rfl rfl) (.q rfl (.pickF rfl rfl) (.nil (k _ _ ?_))))
  refine .cond rfl ?_ ?_ <;> intro m
  ·
   simp only [sps] at m
   have hno : ¬ GoodI (btL s) W := fun q => m (ba_iff.2 (by rw [x.1 q, bytesOf_btL]))
   refine .seq (fun K9 b2 => .region (.mv rfl (.mv rfl (.nil (b2 _ _ (.ret (d _ _ (⟨_, _, rfl, rfl, ?_⟩))))))))
   first
   | (rw [B_false (fun q => hno (hgi.2 q)), (pf_no fun q => hno (hgi.2 q)).1]; exact ⟨b.le_none hn, none, fun _ => none, rfl, .inl ⟨rfl, rfl⟩⟩)
   | (rw [B_true hye, (pf_yes hye).1, ← heL]; exact ⟨b.le_none hn, _, rP, rfl, .inr ⟨gP, nz_pos (by omega), by omega, noP.get (by omega), agP.back, injP⟩⟩)
  simp only [sps] at m
  have hye : GoodS (btL s) := hgi.1 (x.2 (by rw [← ba_iff.1 m, btL_bytesOf (fun c hc => by have := p.plain a4 c hc; exact ⟨this.1, by have := this.2; omega⟩)]))
  have heL := good_L hye
  rw [hWe] at heL
  refine .skip (b0 _ _ (.seq (fun K10 o => .region (.mv rfl (.q rfl (.nilCheck rfl) (.q rfl (.fieldAddr fo_52_1_Ug rfl) ?_))))))
  refine .q rfl (.load on_22_Uc rfl (by first | assumption | exact Mem.of_get atP 1 _ rfl)) ?_
  refine .mv rfl (.mv rfl (.nil (o _ _ (.ret (d _ _ (⟨_, _, rfl, rfl, ?_⟩))))))
  first
  | (rw [B_false (fun q => hno (hgi.2 q)), (pf_no fun q => hno (hgi.2 q)).1]; exact ⟨b.le_none hn, none, fun _ => none, rfl, .inl ⟨rfl, rfl⟩⟩)
  | (rw [B_true hye, (pf_yes hye).1, ← heL]; exact ⟨b.le_none hn, _, rP, rfl, .inr ⟨gP, nz_pos (by omega), by omega, noP.get (by omega), agP.back, injP⟩⟩)
theorem parseFormula_c {s : ByteArray} {H : GHeap} (hs : s.size ≤ 1048576 := by omega) :
    GCalls Tryd.prog 11 [.string s] H (fun v H' => H.Le H' ∧ ∃ a r, v = .tuple #[.slice a (pfL s).length (pfL s).length, .bool (B (GoodS (btL s)))] ∧ NdsR 38 2 H.next H' a r (pfL s)) :=
  GCalls.hold fun Hh h1 h2 h3 => (parseFormula0_c (gL := H.next) (by omega) h3 hs).mono fun _ _ ⟨k1, k2⟩ => ⟨h1.trans k1, k2⟩
theorem implParse_c {s : ByteArray} {H : GHeap} (hs : s.size ≤ 1048576 := by omega) :
    GCalls Tryd.prog 5 [.string s] H (fun v H' => H.Le H' ∧ ∃ a r, v = .tuple #[.slice a (pfL s).length (pfL s).length, .int .i64 (pfC s)] ∧ NdsR 38 2 H.next H' a r (pfL s)) := by
  refine GCalls.body (N := 14) (rs := [.tmp 2, .tmp 3]) Tryd.func5 rfl rfl rfl rfl (fun Qx c hend => ?_)
  refine .fg [0] rfl ?_
  have b := GHeap.Le.refl H
  refine .seq (fun K1 f => .region (.mv rfl (.mv rfl (.nil (f _ _ (.seq (fun K2 g => .region (.mv rfl ?_))))))))
  refine .call rfl rfl rfl rfl @Tryd.call11 rfl (parseFormula_c) ?_
  rintro _ H8 ⟨e, a8, r8, rfl, v8⟩
  have _ := e.1
  replace b := b.trans e
  have _ := v8
  have _ : Keep H.next H8 H8 := fun _ _ _ h => h
  have _ := v8.view
  refine .mv rfl (.q rfl (.extract rfl rfl) (.q rfl (.extract rfl rfl) (.mv rfl (.mv rfl (.nil (g _ _ (.seq (fun K3 i => .seq (fun K4 l => .region (.mv rfl (.q rfl (.not rfl) (.nil (l _ _ ?_)))))))))))))
  refine .cond rfl ?_ ?_ <;> intro d
  ·
   have hno : ¬ GoodS (btL s) := fun q => by rw [B_true q] at d; simp at d
   refine .seq (fun K5 j => .region (.mv rfl (.mv rfl (.nil (j _ _ (.ret (c _ _ (⟨_, _, rfl, rfl, ?_⟩))))))))
   first
   | (obtain ⟨e1, e2⟩ := pf_no hno; rw [e1, e2]; exact ⟨b, none, fun _ => none, rfl, .inl ⟨rfl, rfl⟩⟩)
   | (rw [(pf_yes hye).2]; exact ⟨b, a8, r8, rfl, v8⟩)
  have hye : GoodS (btL s) := Classical.byContradiction fun q => by rw [B_false q] at d; simp at d
  refine .skip (i _ _ (.seq (fun K6 k => .region (.mv rfl (.mv rfl (.mv rfl (.nil (k _ _ (.ret (c _ _ (⟨_, _, rfl, rfl, ?_⟩)))))))))))
  first
  | (obtain ⟨e1, e2⟩ := pf_no hno; rw [e1, e2]; exact ⟨b, none, fun _ => none, rfl, .inl ⟨rfl, rfl⟩⟩)
  | (rw [(pf_yes hye).2]; exact ⟨b, a8, r8, rfl, v8⟩)
end Go.Proofs.YtdnjnligclkkgaaDoor
namespace Go.Proofs.YtdnjnligclkkgaaDoor
open Go Go.GL Go.RowKit Go.Proofs
theorem sz_2_U : (Tryd.prog.info? 2).map (·.size) = some 1 := by kernel_rfl
theorem markInt64S_own {g : Nat} {e : TypeId} {xs : List Int} {k : Int} {H : GHeap} (at0 : H.get g = some (.row (ints xs) e true)) (hk : 0 ≤ k) (hk' : k + xs.length ≤ 9223372036854775000) :
    GCalls Tryd.prog 13 [.slice (some ⟨g, 0, none⟩) xs.length xs.length, .int .i64 k] H (fun v H' => v = .int .i64 (k + xs.length) ∧ St [g] H H' ∧ H'.get g = some (.row (ints (seqL k xs.length)) e true)) := by
  refine GCalls.body (N := 19) (rs := [.tmp 4]) Tryd.func13 rfl rfl rfl rfl (fun Qx h hend => ?_)
  refine .fg [0, 1] rfl ?_
  refine .seq (fun K1 l => .region (.mv rfl (.nil (l _ _ (.seq (fun K2 m => .seq (fun K3 o => .region (.mv rfl (.nil (o _ _ (.block ?_)))))))))))
  refine .loopF (σ := Nat × Int × List Int) [0] (fun (i, q, ys) => [(5, some (.int .i64 (i : Int))), (1, some (.int .i64 q))]) (fun (i, q, ys) H' => St [g] H H' ∧ H'.get g = some (.row (ints ys) e true) ∧ i ≤ xs.length ∧ q = k + i ∧ ys.length = xs.length ∧ ∀ j, j < i → ys.getD j 0 = k + j) (fun (i, q, ys) => xs.length - i) ((0, k, xs)) rfl (.p rfl) ?_ ?_
  ·
   refine ⟨.refl _ _, by first | assumption | exact at0 | simpa using at0, ?_⟩
   exact ⟨by omega, by omega, rfl, fun _ _ => by omega⟩
  rintro ⟨i, q, ys⟩ _ ⟨c, a, hI⟩ _ f
  dsimp only [cA, nA]
  obtain ⟨_, hq, hyl, ha⟩ := hI
  have _ := SlA.of_ints a hyl
  refine .seq (fun K4 s => .seq (fun K5 r => .region (.mv rfl (.mv rfl (.q rfl (.len sl_36_A rfl) (.q rfl (.cmp rfl rfl rfl) (.nil (r _ _ ?_))))))))
  refine .cond rfl ?_ ?_ <;> intro h9
  ·
   try simp only [sps] at h9
   refine .skip (s _ _ (.seq (fun K6 t => .block (.seq (fun K7 u => .region (.mv rfl (.mv rfl (.mv rfl ?_))))))))
   refine .q rfl (.idxN sl_36_A (by first | assumption | exact SlA.of_row a (by first | rfl | (simp; done) | (simp <;> omega))) rfl rfl (by omega)) ?_
   refine .r0 rfl rfl (.storeI rfl sz_2_U rfl rfl (by assumption) (by first | omega | (simp <;> omega))) ?_
   rintro _ _ ⟨rfl, b, d⟩
   have _ := b.nx
   replace c := c.sA b
   have _ := GHeap.ltg d
   refine .nil (u _ _ (.region (.mv rfl (.q rfl (.aD rfl rfl rfl) (.mv rfl (.nil (t _ _ (.region (.mv rfl (.q rfl (.aD rfl rfl rfl) (.mv rfl (.nil ?_))))))))))))
   refine f ((i + 1, q + 1, ys.set (0 + i) q)) _ _ ?_ ?_ (.p rfl)
   ·
    refine ⟨c, by assumption, ?_⟩
    refine ⟨by omega, by omega, by simpa using hyl, fun j hj => ?_⟩
    rw [Nat.zero_add, getD_set (by omega)]
    split
    · rename_i e; rw [e]; exact hq
    · exact ha j (by omega)
   (dsimp only; omega)
  try simp only [sps] at h9
  refine .exit (m _ _ (.seq (fun K8 n => .region (.mv rfl (.mv rfl (.nil (n _ _ (.ret (h _ _ (⟨_, rfl, ?_⟩))))))))))
  obtain rfl : ys = seqL k xs.length := eq_of_getD (by rw [hyl, length_seqL]) fun j hj => by rw [length_seqL] at hj; rw [ha j (by omega), seqL_get hj]
  obtain rfl : i = xs.length := by omega
  exact ⟨by rw [hq], c, a⟩
theorem markInt64S_nil {a : Option Addr} {k : Int} {H : GHeap} (hk : 0 ≤ k) (hk' : k ≤ 9223372036854775000) :
    GCalls Tryd.prog 13 [.slice a 0 0, .int .i64 k] H (fun v H' => v = .int .i64 k ∧ H' = H) := by
  refine GCalls.body (N := 19) (rs := [.tmp 4]) Tryd.func13 rfl rfl rfl rfl (fun Qx b hend => ?_)
  refine .fg [0, 1] rfl ?_
  refine .seq (fun K1 c => .region (.mv rfl (.nil (c _ _ (.seq (fun K2 d => .seq (fun K3 e => .region (.mv rfl (.nil (e _ _ (.block ?_)))))))))))
  refine .loopF (σ := Unit) [0] (fun u => [(5, some (.int .i64 0)), (1, some (.int .i64 k))]) (fun u H' => H = H' ∧ True) (fun u => 0) (()) rfl (.p rfl) ?_ ?_
  ·
   refine ⟨rfl, ?_⟩
   exact trivial
  rintro u _ ⟨rfl, _⟩ _ _
  dsimp only [cA, nA]
  refine .seq (fun K4 hK4 => .seq (fun K5 f => .region (.mv rfl (.mv rfl (.q rfl (.len sl_36_A rfl) (.q rfl (.cmp rfl rfl rfl) (.nil (f _ _ ?_))))))))
  refine .cond rfl ?_ ?_ <;> intro h9
  ·
   exact absurd h9 (by simp)
  try simp only [sps] at h9
  refine .exit (d _ _ (.seq (fun K6 g => .region (.mv rfl (.mv rfl (.nil (g _ _ (.ret (b _ _ (⟨_, rfl, ?_⟩))))))))))
  exact ⟨rfl, rfl⟩
end Go.Proofs.YtdnjnligclkkgaaDoor
namespace Go.Proofs.YtdnjnligclkkgaaDoor
open Go Go.GL Go.RowKit Go.Proofs
theorem sz_38_Ui : (Tryd.prog.info? 38).map (·.size) = some 3 := by kernel_rfl
theorem fo_38_0_Ui : fieldOff Tryd.prog 38 0 = some 0 := by kernel_rfl
theorem fo_38_1_Ui : fieldOff Tryd.prog 38 1 = some 1 := by kernel_rfl
theorem fo_38_2_Ui : fieldOff Tryd.prog 38 2 = some 2 := by kernel_rfl
theorem on_36_Ui : oneT Tryd.prog 36 = true := by kernel_rfl
theorem sl_22_Ui : sliceT Tryd.prog 22 = some (38, 3) := by kernel_rfl
theorem ag_38_Ui : aggT Tryd.prog 38 = some 3 := by kernel_rfl
theorem heldRowV_c {a : Option Addr} {n : Nat} {k q : Int} {H : GHeap} (hi : Ints H a (seqL k n)) (hk : 0 ≤ k) (hk' : k + n ≤ 9223372036854775000) (hq : q = k := by omega) :
    GCalls Tryd.prog 14 [.slice a n n, .int .i64 q] H (Ret (.int .i64 (k + n)) H) := by
  subst hq
  have hl : (seqL q n).length = n := length_seqL q n
  have hsl : SlA H a n (fun i => .int .i64 ((seqL q n).getD i 0)) := by have hi' := hi; unfold Ints at hi'; rw [hl] at hi'; exact hi'
  refine GCalls.body (N := 21) (rs := [.tmp 4]) Tryd.func14 rfl rfl rfl rfl (fun Qx b hend => ?_)
  refine .fg [0, 1] rfl ?_
  refine .seq (fun K1 h => .region (.mv rfl (.nil (h _ _ (.seq (fun K2 f => .seq (fun K3 j => .region (.mv rfl (.nil (j _ _ (.block ?_)))))))))))
  refine .loopF (σ := Nat × Int) [0] (fun (i, p) => [(5, some (.int .i64 (i : Int))), (1, some (.int .i64 p))]) (fun (i, p) H' => H = H' ∧ i ≤ n ∧ p = q + i) (fun (i, p) => n - i) ((0, q)) rfl (.p rfl) ?_ ?_
  ·
   refine ⟨rfl, ?_⟩
   exact ⟨by omega, by omega⟩
  rintro ⟨i, p⟩ _ ⟨rfl, hI⟩ _ d
  dsimp only [cA, nA]
  obtain ⟨hi, hq⟩ := hI
  refine .seq (fun K4 m => .seq (fun K5 l => .region (.mv rfl (.mv rfl (.q rfl (.len sl_36_A rfl) (.q rfl (.cmp rfl rfl rfl) (.nil (l _ _ ?_))))))))
  refine .cond rfl ?_ ?_ <;> intro h9
  ·
   try simp only [sps] at h9
   refine .skip (m _ _ (.seq (fun K6 o => .block (.seq (fun K7 s => .seq (fun K8 g => .region (.mv rfl (.mv rfl ?_))))))))
   refine .q rfl (.idxN sl_36_A hsl rfl rfl (by omega)) ?_
   refine .q rfl (.loadE on_2_A hsl rfl (by omega)) ?_
   refine .mv rfl (.q rfl (.cmp rfl rfl rfl) (.nil (g _ _ ?_)))
   refine .cond rfl ?_ ?_ <;> intro c
   ·
    simp only [sps] at c
    rw [seqL_get (by omega)] at c
    refine .seq (fun K9 r => .region (.mv rfl (.nil (r _ _ (.ret (b _ _ (⟨_, rfl, ?_⟩)))))))
    exact absurd hq.symm (by omega)
   try simp only [sps] at c
   refine .skip (s _ _ (.region (.mv rfl (.q rfl (.aD rfl rfl rfl) (.mv rfl (.nil (o _ _ (.region (.mv rfl (.q rfl (.aD rfl rfl rfl) (.mv rfl (.nil ?_))))))))))))
   refine d ((i + 1, p + 1)) _ _ ?_ ?_ (.p rfl)
   ·
    refine ⟨rfl, ?_⟩
    exact ⟨by omega, by omega⟩
   (dsimp only; omega)
  try simp only [sps] at h9
  refine .exit (f _ _ (.seq (fun K10 e => .region (.mv rfl (.mv rfl (.nil (e _ _ (.ret (b _ _ (⟨_, rfl, ?_⟩))))))))))
  obtain rfl : i = n := by omega
  exact .of (by rw [hq])
theorem markRow_c {e : TypeId} {B : Nat} {a : Option Addr} {xs : List Int} {k : Int} {H : GHeap} (h : Ag e B H a xs) (hk : 0 ≤ k) (hk' : k + xs.length ≤ 9223372036854775000) :
    GCalls Tryd.prog 13 [.slice a xs.length xs.length, .int .i64 k] H (fun v H' => v = .int .i64 (k + xs.length) ∧ StA a H H' ∧ Ag e B H' a (seqL k xs.length)) := by
  rcases h with ⟨rfl, rfl⟩ | ⟨g, rfl, h1, h2⟩
  · exact (markInt64S_nil hk (by simp at hk'; exact hk')).mono fun v H' ⟨h1, h2⟩ => by
      subst h2
      exact ⟨by rw [h1]; simp, ⟨Nat.le_refl _, fun _ _ _ h => h⟩, .inl ⟨rfl, rfl⟩⟩
  · exact (markInt64S_own h2 hk hk').mono fun v H' ⟨h3, h4, h5⟩ => ⟨h3, ⟨h4.nx, fun k o hk ho => h4.same k o ⟨fun e => hk (by rw [e]), trivial⟩ ho⟩, .inr ⟨g, rfl, h1, h5⟩⟩
theorem eqNode_c {x : Nd} {a a' : Option Addr} {H : GHeap} (h1 : Ints H a x.az := by assumption) (h2 : Ints H a' x.az := by assumption) (hl : x.az.length ≤ 1048576 := by omega) :
    GCalls Tryd.prog 12 [.agg (x.cells a).toArray, .agg (x.cells a').toArray] H (Ret (.bool true) H) := by
  refine GCalls.ret rfl ?_
  refine GCalls.body (N := 21) (rs := [.tmp 4]) Tryd.func12 rfl rfl rfl rfl (fun Qx h hend => ?_)
  refine .fg [0, 1] rfl ?_
  have d := GHeap.Le.refl H
  have b := h1
  have c := h2
  refine .seq (fun K1 s => .region ?_)
  refine .R rfl (.boxR rfl sz_38_Ui rfl) ?_
  rintro _ _ ⟨_, rfl, k, _, e⟩
  have _ := k.1
  replace d := d.trans k
  have _ := GHeap.ltg e
  replace h1 := b.mono d
  replace h2 := c.mono d
  have j : MemN _ _ _ _ _ := ⟨rfl, Mem.of_get e⟩
  refine .R rfl (.boxR rfl sz_38_Ui rfl) ?_
  rintro _ _ ⟨_, rfl, g, _, f⟩
  have _ := g.1
  replace d := d.trans g
  replace e := g.2 _ _ e
  have _ := GHeap.ltg f
  replace h1 := b.mono d
  replace h2 := c.mono d
  clear j
  have j : MemN _ _ _ _ _ := ⟨rfl, Mem.of_get e⟩
  have _ : MemN _ _ _ _ _ := ⟨rfl, Mem.of_get f⟩
  refine .mv rfl (.nil (s _ _ (.seq (fun K2 n => .seq (fun K3 t => .region (.q rfl (.fieldAddr fo_38_0_Ui rfl) ?_))))))
  refine .q rfl (.load on_2_A rfl (by first | assumption | exact Mem.of_get e 0 _ rfl)) ?_
  refine .q rfl (.fieldAddr fo_38_0_Ui rfl) ?_
  refine .q rfl (.load on_2_A rfl (by first | assumption | exact Mem.of_get f 0 _ rfl)) ?_
  refine .q rfl (.cmp rfl rfl rfl) (.nil (t _ _ ?_))
  refine .cond rfl ?_ ?_ <;> intro h9
  ·
   simp at h9
  try simp only [sps] at h9
  refine .skip (n _ _ (.seq (fun K4 p => .seq (fun K5 o => .region (.q rfl (.fieldAddr fo_38_1_Ui rfl) ?_)))))
  refine .q rfl (.load on_2_A rfl (by first | assumption | exact Mem.of_get e 1 _ rfl)) ?_
  refine .q rfl (.fieldAddr fo_38_1_Ui rfl) ?_
  refine .q rfl (.load on_2_A rfl (by first | assumption | exact Mem.of_get f 1 _ rfl)) ?_
  refine .q rfl (.cmp rfl rfl rfl) (.nil (o _ _ ?_))
  refine .cond rfl ?_ ?_ <;> intro i
  ·
   simp at i
  try simp only [sps] at i
  refine .skip (p _ _ (.seq (fun K6 r => .seq (fun K7 u => .region (.q rfl (.fieldAddr fo_38_2_Ui rfl) ?_)))))
  refine .q rfl (.load on_36_Ui rfl (by first | assumption | exact Mem.of_get e 2 _ rfl)) ?_
  refine .q rfl (.fieldAddr fo_38_2_Ui rfl) ?_
  refine .q rfl (.load on_36_Ui rfl (by first | assumption | exact Mem.of_get f 2 _ rfl)) ?_
  refine .callQ rfl rfl rfl rfl @Tryd.call27 rfl (eqInt64S_c) ?_
  refine .q rfl (.not rfl) (.nil (u _ _ ?_))
  refine .cond rfl ?_ ?_ <;> intro l
  ·
   simp at l
  try simp only [sps] at l
  refine .skip (r _ _ (.seq (fun K8 m => .region (.mv rfl (.nil (m _ _ (.ret (h _ _ (⟨_, rfl, ?_⟩)))))))))
  exact ⟨rfl, d⟩
theorem eqNodeS0_c {a a' : Option Addr} {H : GHeap} : GCalls Tryd.prog 6 [.slice a 0 0, .slice a' 0 0] H (Ret (.bool true) H) := by
  refine GCalls.ret rfl ?_
  refine GCalls.body (N := 27) (rs := [.tmp 4]) Tryd.func6 rfl rfl rfl rfl (fun Qx d hend => ?_)
  refine .fg [0, 1] rfl ?_
  have c := GHeap.Le.refl H
  refine .seq (fun K1 g => .region (.mv rfl (.nil (g _ _ (.seq (fun K2 j => .seq (fun K3 l => .region (.mv rfl (.q rfl (.len sl_22_Ui rfl) (.mv rfl (.q rfl (.len sl_22_Ui rfl) (.q rfl (.cmp rfl rfl rfl) (.nil (l _ _ ?_))))))))))))))
  refine .cond rfl ?_ ?_ <;> intro f
  ·
   exact absurd f (by simp)
  try simp only [sps] at f
  refine .skip (j _ _ (.seq (fun K4 n => .seq (fun K5 m => .region (.mv rfl (.nil (m _ _ (.block ?_))))))))
  refine .loopF (σ := Nat) [0, 1] (fun i => [(5, some (.int .i64 (i : Int)))]) (fun i H' => St [] H H' ∧ i = 0) (fun i => i) (0) rfl (.p rfl) ?_ ?_
  ·
   refine ⟨.refl _ _, ?_⟩
   rfl
  rintro i _ ⟨b, _⟩ _ _
  dsimp only [cA, nA]
  have _ := b.nx
  replace c := c.st b (fun k hk => trivial)
  refine .seq (fun K6 hK6 => .seq (fun K7 o => .region (.mv rfl (.mv rfl (.q rfl (.len sl_22_Ui rfl) (.q rfl (.cmp rfl rfl rfl) (.nil (o _ _ ?_))))))))
  refine .cond rfl ?_ ?_ <;> intro e
  ·
   simp only [sps] at e; omega
  try simp only [sps] at e
  refine .exit (n _ _ (.seq (fun K8 h => .region (.mv rfl (.nil (h _ _ (.ret (d _ _ (⟨_, rfl, ?_⟩)))))))))
  exact ⟨rfl, c⟩
set_option maxHeartbeats 4000000 in
theorem eqNodeS1_c {T T' : TypeId} {g g' : Nat} {r r' : Nat → Option Addr} {L : List Nd} {H : GHeap} (h1 : H.get g = some (.row (ndV r L) T true)) (h2 : H.get g' = some (.row (ndV r' L) T' true)) (h3 : ∀ i, i < L.length → Ints H (r i) (L.getD i ndz).az) (h4 : ∀ i, i < L.length → Ints H (r' i) (L.getD i ndz).az) (hl : L.length ≤ 1048576) (hs : ∀ i, i < L.length → (L.getD i ndz).az.length ≤ 1048576) :
    GCalls Tryd.prog 6 [.slice (some ⟨g, 0, none⟩) L.length L.length, .slice (some ⟨g', 0, none⟩) L.length L.length] H (Ret (.bool true) H) := by
  refine GCalls.ret rfl ?_
  have hA : SlA H (some ⟨g, 0, none⟩) (L.length * 3) _ := SlA.of_row h1 (length_ndV _ _)
  have hB : SlA H (some ⟨g', 0, none⟩) (L.length * 3) _ := SlA.of_row h2 (length_ndV _ _)
  refine GCalls.body (N := 27) (rs := [.tmp 4]) Tryd.func6 rfl rfl rfl rfl (fun Qx j hend => ?_)
  refine .fg [0, 1] rfl ?_
  have b := GHeap.Le.refl H
  have d := hA
  have a := hB
  refine .seq (fun K1 a0 => .region (.mv rfl (.nil (a0 _ _ (.seq (fun K2 s => .seq (fun K3 a2 => .region (.mv rfl (.q rfl (.len sl_22_Ui rfl) (.mv rfl (.q rfl (.len sl_22_Ui rfl) (.q rfl (.cmp rfl rfl rfl) (.nil (a2 _ _ ?_))))))))))))))
  refine .cond rfl ?_ ?_ <;> intro n
  ·
   exact absurd n (by simp)
  try simp only [sps] at n
  refine .skip (s _ _ (.seq (fun K4 w => .seq (fun K5 t => .region (.mv rfl (.nil (t _ _ (.block ?_))))))))
  refine .loopF (σ := Nat) [0, 1] (fun i => [(5, some (.int .i64 (i : Int)))]) (fun i H' => St [] H H' ∧ i ≤ L.length) (fun i => L.length - i) (0) rfl (.p rfl) ?_ ?_
  ·
   refine ⟨.refl _ _, ?_⟩
   omega
  rintro i _ ⟨e, _⟩ _ h
  dsimp only [cA, nA]
  have _ := e.nx
  replace b := b.st e (fun k hk => trivial)
  replace hA := d.mono b
  replace hB := a.mono b
  refine .seq (fun K6 x => .seq (fun K7 a4 => .region (.mv rfl (.mv rfl (.q rfl (.len sl_22_Ui rfl) (.q rfl (.cmp rfl rfl rfl) (.nil (a4 _ _ ?_))))))))
  refine .cond rfl ?_ ?_ <;> intro l
  ·
   simp only [sps] at l
   have u := hs i (by omega)
   have a1 : MemN _ _ _ _ _ := ⟨(ndV_mem h1 (i := i) (by omega)).1, (ndV_mem h1 (i := i) (by omega)).2.mono b⟩
   have y : MemN _ _ _ _ _ := ⟨(ndV_mem h2 (i := i) (by omega)).1, (ndV_mem h2 (i := i) (by omega)).2.mono b⟩
   have a3 := (h3 i (by omega)).mono b
   have v := (h4 i (by omega)).mono b
   refine .skip (x _ _ (.seq (fun K8 o => .block (.seq (fun K9 z => ?_)))))
   refine .regionD mo_E (.qs [0, 1, 2, 3, 4, 5, 6, 7] (.c 8 0 (.q 9 (.done)))) (by kernel_rfl) ?_
   refine .mv rfl rfl (.mv rfl rfl ?_)
   refine .q rfl (.idx sl_22_Ui hA (by omega) rfl rfl (by omega) (by omega) rfl) ?_
   refine .q rfl (.loadM ag_38_Ui rfl a1) (.mv rfl rfl (.mv rfl rfl ?_))
   refine .q rfl (.idx sl_22_Ui hB (by omega) rfl rfl (by omega) (by omega) rfl) ?_
   refine .q rfl (.loadM ag_38_Ui rfl y) ?_
   refine .callQ0 rfl rfl rfl rfl rfl @Tryd.call12 rfl (eqNode_c a3 v u) ?_
   refine .q rfl (.not rfl) (.done (z _ _ ?_))
   refine .cond rfl ?_ ?_ <;> intro m
   ·
    simp at m
   try simp only [sps] at m
   refine .skip (o _ _ (.region (.mv rfl (.q rfl (.aD rfl rfl rfl) (.mv rfl (.nil ?_))))))
   refine h (i + 1) _ _ ?_ ?_ (.p rfl)
   ·
    refine ⟨e, ?_⟩
    omega
   omega
  try simp only [sps] at l
  refine .exit (w _ _ (.seq (fun K10 f => .region (.mv rfl (.nil (f _ _ (.ret (j _ _ (⟨_, rfl, ?_⟩)))))))))
  exact ⟨rfl, b⟩
theorem eqNodeS_c {T T' : TypeId} {a a' : Option Addr} {r r' : Nat → Option Addr} {L : List Nd} {H : GHeap} (h1 : NdsV T H a r L := by assumption) (h2 : NdsV T' H a' r' L := by assumption) (hl : L.length ≤ 40 := by omega) (hs : ∀ i, i < L.length → (L.getD i ndz).az.length ≤ 2 := by assumption) :
    GCalls Tryd.prog 6 [.slice a L.length L.length, .slice a' L.length L.length] H (Ret (.bool true) H) := by
  rcases h1 with rfl | ⟨g, rfl, h1, h3⟩
  · exact eqNodeS0_c
  · rcases h2 with rfl | ⟨g', rfl, h2, h4⟩
    · exact eqNodeS0_c
    · exact eqNodeS1_c h1 h2 h3 h4 (by omega) (fun i hi => by have := hs i hi; omega)
theorem heldNodeS0_c {a : Option Addr} {k : Int} {H : GHeap} (hk : 0 ≤ k) (hk' : k ≤ 9223372036854775000) : GCalls Tryd.prog 8 [.slice a 0 0, .int .i64 k] H (Ret (.int .i64 k) H) := by
  refine GCalls.ret rfl ?_
  refine GCalls.body (N := 40) (rs := [.tmp 4]) Tryd.func8 rfl rfl rfl rfl (fun Qx d hend => ?_)
  refine .fg [0, 1] rfl ?_
  have c := GHeap.Le.refl H
  refine .seq (fun K1 e => .region (.mv rfl (.nil (e _ _ (.seq (fun K2 f => .seq (fun K3 g => .region (.mv rfl (.nil (g _ _ (.block ?_)))))))))))
  refine .loopF (σ := Nat) [0] (fun i => [(5, some (.int .i64 (i : Int))), (1, some (.int .i64 k))]) (fun i H' => St [] H H' ∧ i = 0) (fun i => i) (0) rfl (.p rfl) ?_ ?_
  ·
   refine ⟨.refl _ _, ?_⟩
   rfl
  rintro i _ ⟨b, _⟩ _ _
  dsimp only [cA, nA]
  have _ := b.nx
  replace c := c.st b (fun k hk => trivial)
  refine .seq (fun K4 hK4 => .seq (fun K5 h => .region (.mv rfl (.mv rfl (.q rfl (.len sl_22_Ui rfl) (.q rfl (.cmp rfl rfl rfl) (.nil (h _ _ ?_))))))))
  refine .cond rfl ?_ ?_ <;> intro h9
  ·
   simp only [sps] at h9; omega
  try simp only [sps] at h9
  refine .exit (f _ _ (.seq (fun K6 j => .region (.mv rfl (.mv rfl (.nil (j _ _ (.ret (d _ _ (⟨_, rfl, ?_⟩))))))))))
  exact ⟨rfl, c⟩
set_option maxHeartbeats 4000000 in
theorem heldNodeS1_c {T : TypeId} {g : Nat} {r : Nat → Option Addr} {L : List Nd} {k : Int} {H : GHeap} (h1 : H.get g = some (.row (ndV r (markN L k)) T true)) (h3 : ∀ i, i < L.length → Ints H (r i) ((markN L k).getD i ndz).az) (hk : 0 ≤ k) (hk' : k + ndTot L L.length ≤ 9223372036854775000) (hl : L.length ≤ 1048576) :
    GCalls Tryd.prog 8 [.slice (some ⟨g, 0, none⟩) L.length L.length, .int .i64 k] H (Ret (.int .i64 (k + ndTot L L.length)) H) := by
  refine GCalls.ret rfl ?_
  have hA : SlA H (some ⟨g, 0, none⟩) (L.length * 3) _ := SlA.of_row h1 ((length_ndV _ _).trans (by rw [length_markN]))
  refine GCalls.body (N := 40) (rs := [.tmp 4]) Tryd.func8 rfl rfl rfl rfl (fun Qx s hend => ?_)
  refine .fg [0, 1] rfl ?_
  have c := GHeap.Le.refl H
  have a := hA
  refine .seq (fun K1 a4 => .region (.mv rfl (.nil (a4 _ _ (.seq (fun K2 x => .seq (fun K3 a5 => .region (.mv rfl (.nil (a5 _ _ (.block ?_)))))))))))
  refine .loopF (σ := Nat × Int) [0] (fun (i, q) => [(5, some (.int .i64 (i : Int))), (1, some (.int .i64 q))]) (fun (i, q) H' => St [] H H' ∧ i ≤ L.length ∧ q = k + ndTot L i) (fun (i, q) => L.length - i) ((0, k)) rfl (.p rfl) ?_ ?_
  ·
   refine ⟨.refl _ _, ?_⟩
   exact ⟨by omega, by simp [ndTot, sumL]⟩
  rintro ⟨i, q⟩ _ ⟨b, hI⟩ _ o
  dsimp only [cA, nA]
  have _ := b.nx
  replace c := c.st b (fun k hk => trivial)
  replace hA := a.mono c
  obtain ⟨_, hq⟩ := hI
  refine .seq (fun K4 a1 => .seq (fun K5 z => .region (.mv rfl (.mv rfl (.q rfl (.len sl_22_Ui rfl) (.q rfl (.cmp rfl rfl rfl) (.nil (z _ _ ?_))))))))
  refine .cond rfl ?_ ?_ <;> intro h9
  ·
   simp only [sps] at h9
   have _ := ndTot_succ (L := L) (j := i) (by omega)
   have _ := ndTot_le (L := L) (j := i + 1) (by omega)
   have a0 := markN_get (L := L) (k := k) (j := i) (by omega)
   have m := (ndV_mem h1 (i := i) (by rw [length_markN]; omega)).2.mono c
   have c0 := m 0 _ rfl
   have c1 := m 1 _ rfl
   have c2 := m 2 _ rfl
   have w := (h3 i (by omega)).mono c
   rw [a0] at c0 c1 c2 w
   rw [show (seqL (k + ndTot L i + 2) (L.getD i ndz).az.length).length = (L.getD i ndz).az.length from length_seqL _ _] at c2
   refine .skip (a1 _ _ (.seq (fun K6 a2 => .block (.seq (fun K7 a6 => .seq (fun K8 y => .region (.mv rfl (.mv rfl ?_))))))))
   refine .q rfl (.idx sl_22_Ui hA (by omega) rfl rfl (by omega) (by omega) rfl) ?_
   refine .q rfl (.fieldAddr fo_38_0_Ui rfl) (.q rfl (.load on_2_A rfl c0) (.mv rfl (.q rfl (.cmp rfl rfl rfl) (.nil (y _ _ ?_)))))
   refine .cond rfl ?_ ?_ <;> intro u
   ·
    simp only [sps] at u; omega
   try simp only [sps] at u
   refine .skip (a6 _ _ (.seq (fun K9 a3 => .region (.mv rfl (.q rfl (.aD rfl rfl rfl) (.mv rfl (.nil (a3 _ _ (.seq (fun K10 e => .seq (fun K11 n => .region (.mv rfl (.mv rfl ?_)))))))))))))
   refine .q rfl (.idx sl_22_Ui hA (by omega) rfl rfl (by omega) (by omega) rfl) ?_
   refine .q rfl (.fieldAddr fo_38_1_Ui rfl) (.q rfl (.load on_2_A rfl c1) (.mv rfl (.q rfl (.cmp rfl rfl rfl) (.nil (n _ _ ?_)))))
   refine .cond rfl ?_ ?_ <;> intro t
   ·
    simp only [sps] at t; omega
   try simp only [sps] at t
   refine .skip (e _ _ (.seq (fun K12 f => .region (.mv rfl (.q rfl (.aD rfl rfl rfl) (.mv rfl (.nil (f _ _ (.seq (fun K13 h => .region (.mv rfl (.mv rfl ?_))))))))))))
   refine .q rfl (.idx sl_22_Ui hA (by omega) rfl rfl (by omega) (by omega) rfl) ?_
   refine .q rfl (.fieldAddr fo_38_2_Ui rfl) (.q rfl (.load on_36_Ui rfl c2) (.mv rfl ?_))
   refine .callQ rfl rfl rfl rfl @Tryd.call14 rfl (heldRowV_c w (by omega) (by omega)) ?_
   refine .mv rfl (.nil (h _ _ (.seq (fun K14 d => .region (.mv rfl (.q rfl (.cmp rfl rfl rfl) (.nil (d _ _ ?_))))))))
   refine .cond rfl ?_ ?_ <;> intro v
   ·
    simp only [sps] at v; omega
   try simp only [sps] at v
   refine .skip (a2 _ _ (.region (.mv rfl (.q rfl (.aD rfl rfl rfl) (.mv rfl (.nil ?_))))))
   refine o ((i + 1, _)) _ _ ?_ ?_ (.p rfl)
   ·
    refine ⟨b, ?_⟩
    exact ⟨by omega, by rw [ndTot_succ (by omega)]; omega⟩
   (dsimp only; omega)
  try simp only [sps] at h9
  refine .exit (x _ _ (.seq (fun K15 l => .region (.mv rfl (.mv rfl (.nil (l _ _ (.ret (s _ _ (⟨_, rfl, ?_⟩))))))))))
  obtain rfl : i = L.length := by omega
  rw [hq]
  exact ⟨rfl, c⟩
set_option maxHeartbeats 4000000 in
theorem markNodeS1_c {T e : TypeId} {g lo hi : Nat} {r : Nat → Option Addr} {L : List Nd} {k : Int} {H : GHeap} (hT : (T != e) = true) (h1 : NdsAt T e lo H g r L) (hg : lo ≤ g) (hg' : g < hi) (hs : ∀ i, i < L.length → ∀ x, r i = some ⟨x, 0, none⟩ → x < hi) (hk : 0 ≤ k) (hk' : k + ndTot L L.length ≤ 9223372036854775000) (hl : L.length ≤ 1048576) :
    GCalls Tryd.prog 7 [.slice (some ⟨g, 0, none⟩) L.length L.length, .int .i64 k] H (fun v H' => v = .int .i64 (k + ndTot L L.length) ∧ StK lo hi H H' ∧ NdsAt T e lo H' g r (markN L k)) := by
  refine GCalls.body (N := 34) (rs := [.tmp 4]) Tryd.func7 rfl rfl rfl rfl (fun Qx z hend => ?_)
  refine .fg [0, 1] rfl ?_
  refine .seq (fun K1 a7 => .region (.mv rfl (.nil (a7 _ _ (.seq (fun K2 a2 => .seq (fun K3 a8 => .region (.mv rfl (.nil (a8 _ _ (.block ?_)))))))))))
  refine .loopF (σ := Nat × Int × List Nd) [0] (fun (i, q, ys) => [(5, some (.int .i64 (i : Int))), (1, some (.int .i64 q))]) (fun (i, q, ys) H' => i ≤ L.length ∧ q = k + ndTot L i ∧ ys.length = L.length ∧ StK lo hi H H' ∧ NdsAt T e lo H' g r ys ∧ (∀ j, j < i → ys.getD j ndz = (markN L k).getD j ndz) ∧ ∀ j, i ≤ j → ys.getD j ndz = L.getD j ndz) (fun (i, q, ys) => L.length - i) ((0, k, L)) rfl (.p rfl) ?_ ?_
  ·
   exact ⟨by omega, by simp [ndTot, sumL], rfl, .refl _ _ _, h1, fun _ _ => by omega, fun _ _ => rfl⟩
  rintro ⟨i, q, ys⟩ HL1 hI _ w
  dsimp only [cA, nA]
  obtain ⟨_, hq, hyl, hK, hC, hA, hB⟩ := hI
  have hd := hC.hd
  have hsl : SlA HL1 (some ⟨g, 0, none⟩) (L.length * 3) _ := SlA.of_row hd ((length_ndV _ _).trans (by rw [hyl]))
  refine .seq (fun K4 a4 => .seq (fun K5 a3 => .region (.mv rfl (.mv rfl (.q rfl (.len sl_22_Ui rfl) (.q rfl (.cmp rfl rfl rfl) (.nil (a3 _ _ ?_))))))))
  refine .cond rfl ?_ ?_ <;> intro h9
  ·
   simp only [sps] at h9
   have _ := ndTot_succ (L := L) (j := i) (by omega)
   have _ := ndTot_le (L := L) (j := i + 1) (by omega)
   have hfr : ∀ j, j < ys.length → r j ≠ some ⟨g, 0, none⟩ := fun j hj q => by
     rcases hC.rows j hj with ⟨q1, _⟩ | ⟨y, q1, _, q3⟩
     · rw [q1] at q; cases q
     · rw [q1] at q
       cases q
       rw [hd] at q3
       injection Option.some.inj q3 with _ q5
       subst q5
       simp at hT
   have hne := hfr i (by omega)
   have hyi := hB i (Nat.le_refl _)
   refine .skip (a4 _ _ (.seq (fun K6 a5 => .block (.seq (fun K7 a9 => .region (.mv rfl (.mv rfl (.mv rfl ?_))))))))
   refine .q rfl (.idx sl_22_Ui hsl (by omega) rfl rfl (by omega) (by omega) rfl) ?_
   refine .q rfl (.fieldAddr fo_38_0_Ui rfl) ?_
   refine .r0 rfl rfl (.storeR rfl sz_2_U rfl rfl rfl (by assumption) (by rw [length_ndV, Int.toNat_natCast]; omega)) ?_
   rintro _ m ⟨rfl, c, d⟩
   have _ := c.nx
   have _ := GHeap.ltg d
   rw [ndV_setk (by omega), hyi] at d
   have o : SlA m (some ⟨g, 0, none⟩) (L.length * 3) _ := SlA.of_row d ((length_ndV _ _).trans (by rw [List.length_set, hyl]))
   refine .nil (a9 _ _ (.seq (fun K8 a1 => .region (.mv rfl (.q rfl (.aD rfl rfl rfl) (.mv rfl (.nil (a1 _ _ (.seq (fun K9 a6 => .region (.mv rfl (.mv rfl (.mv rfl ?_)))))))))))))
   refine .q rfl (.idx sl_22_Ui o (by omega) rfl rfl (by omega) (by omega) rfl) ?_
   refine .q rfl (.fieldAddr fo_38_1_Ui rfl) ?_
   refine .r0 rfl rfl (.storeR rfl sz_2_U rfl rfl rfl (by assumption) (by rw [length_ndV, List.length_set, Int.toNat_natCast]; omega)) ?_
   rintro _ f ⟨rfl, b, a⟩
   have _ := b.nx
   have _ := GHeap.ltg a
   rw [ndV_sets (by rw [List.length_set]; omega), getD_setN (by omega), if_pos rfl, List.set_set] at a
   have s : SlA f (some ⟨g, 0, none⟩) (L.length * 3) _ := SlA.of_row a ((length_ndV _ _).trans (by rw [List.length_set, hyl]))
   have c2 : f.cell g (0 + (i : Int).toNat * 3 + 2) = some (.slice (r i) (L.getD i ndz).az.length (L.getD i ndz).az.length) := by
     have a0 := (ndV_mem a (i := i) (by rw [List.length_set]; omega)).2 2 _ rfl
     rw [getD_setN (by omega), if_pos rfl] at a0
     exact a0
   have hag := ((hC.rows.turn c hfr).turn b hfr) i (by omega)
   rw [hyi] at hag
   refine .nil (a6 _ _ (.seq (fun K10 n => .region (.mv rfl (.q rfl (.aD rfl rfl rfl) (.mv rfl (.nil (n _ _ (.region (.mv rfl (.mv rfl ?_)))))))))))
   refine .q rfl (.idx sl_22_Ui s (by omega) rfl rfl (by omega) (by omega) rfl) ?_
   refine .q rfl (.fieldAddr fo_38_2_Ui rfl) (.q rfl (.load on_36_Ui rfl c2) (.mv rfl ?_))
   refine .call rfl rfl rfl rfl @Tryd.call13 rfl (markRow_c hag (by omega) (by omega)) ?_
   rintro _ _ ⟨rfl, h, t⟩
   refine .mv rfl (.nil (a5 _ _ (.region (.mv rfl (.q rfl (.aD rfl rfl rfl) (.mv rfl (.nil ?_)))))))
   refine w ((i + 1, _, ys.set i ⟨q, q + 1, seqL (q + 1 + 1) (L.getD i ndz).az.length⟩)) _ _ ?_ ?_ (.p rfl)
   ·
    refine ⟨by omega, by rw [ndTot_succ (by omega)]; omega, by rw [List.length_set]; exact hyl, ((hK.st c hg hg').st b hg hg').stA h (fun x hx => ⟨?_, hs i (by omega) x hx⟩), ⟨?_, ?_, ?_⟩, fun j hj => ?_, fun j hj => ?_⟩
    · rcases hC.rows i (by omega) with ⟨q1, _⟩ | ⟨y, q1, q2, _⟩
      · rw [q1] at hx; cases hx
      · rw [q1] at hx; cases hx; exact q2
    · rw [← ndV_setlen (l := (L.getD i ndz).az) (by omega) (by rw [length_seqL])]
      exact h.same _ _ hne a
    · exact AgN.set1 (((hC.rows.turn c hfr).turn b hfr)) hC.inj h (by omega) t
    · rw [List.length_set]; exact hC.inj
    · rw [getD_setN (by omega)]
      split
      · rename_i e; subst e
        rw [markN_get (by omega), hq, show k + (ndTot L j : Int) + 1 + 1 = k + ndTot L j + 2 by omega]
      · exact hA j (by omega)
    · rw [getD_setN (by omega), if_neg (by omega)]
      exact hB j (by omega)
   (dsimp only; omega)
  try simp only [sps] at h9
  refine .exit (a2 _ _ (.seq (fun K11 u => .region (.mv rfl (.mv rfl (.nil (u _ _ (.ret (z _ _ (⟨_, rfl, ?_⟩))))))))))
  obtain rfl : i = L.length := by omega
  obtain rfl : ys = markN L k := eq_of_getDN (by rw [hyl, length_markN]) fun j hj => hA j (by omega)
  exact ⟨by rw [hq], hK, hC⟩
theorem markNodeS0_c {a : Option Addr} {k : Int} {H : GHeap} (hk : 0 ≤ k) (hk' : k ≤ 9223372036854775000) : GCalls Tryd.prog 7 [.slice a 0 0, .int .i64 k] H (fun v H' => v = .int .i64 k ∧ H' = H) := by
  refine GCalls.body (N := 34) (rs := [.tmp 4]) Tryd.func7 rfl rfl rfl rfl (fun Qx b hend => ?_)
  refine .fg [0, 1] rfl ?_
  refine .seq (fun K1 c => .region (.mv rfl (.nil (c _ _ (.seq (fun K2 d => .seq (fun K3 e => .region (.mv rfl (.nil (e _ _ (.block ?_)))))))))))
  refine .loopF (σ := Unit) [0] (fun u => [(5, some (.int .i64 0)), (1, some (.int .i64 k))]) (fun u H' => H = H' ∧ True) (fun u => 0) (()) rfl (.p rfl) ?_ ?_
  ·
   refine ⟨rfl, ?_⟩
   exact trivial
  rintro u _ ⟨rfl, _⟩ _ _
  dsimp only [cA, nA]
  refine .seq (fun K4 hK4 => .seq (fun K5 f => .region (.mv rfl (.mv rfl (.q rfl (.len sl_22_Ui rfl) (.q rfl (.cmp rfl rfl rfl) (.nil (f _ _ ?_))))))))
  refine .cond rfl ?_ ?_ <;> intro h9
  ·
   exact absurd h9 (by simp)
  try simp only [sps] at h9
  refine .exit (d _ _ (.seq (fun K6 g => .region (.mv rfl (.mv rfl (.nil (g _ _ (.ret (b _ _ (⟨_, rfl, ?_⟩))))))))))
  exact ⟨rfl, rfl⟩
theorem markNodeS_c {T e : TypeId} {a : Option Addr} {lo hi : Nat} {r : Nat → Option Addr} {L : List Nd} {k : Int} {H : GHeap} (w : NdsW T e lo hi H a r L := by assumption) (hT : (T != e) = true := by rfl) (hk : 0 ≤ k := by omega) (hk' : k + ndTot L L.length ≤ 9223372036854775000 := by omega) (hl : L.length ≤ 40 := by omega) :
    GCalls Tryd.prog 7 [.slice a L.length L.length, .int .i64 k] H (fun v H' => v = .int .i64 (k + ndTot L L.length) ∧ StK lo hi H H' ∧ NdsR T e lo H' a r (markN L k)) := by
  rcases w with ⟨rfl, rfl⟩ | ⟨g, rfl, w1, w2, w3, w4⟩
  · refine (markNodeS0_c hk (by omega)).mono fun v H' ⟨h1, h2⟩ => ?_
    subst h2
    exact ⟨by rw [h1]; simp [ndTot, sumL], .refl _ _ _, .inl ⟨rfl, rfl⟩⟩
  · exact (markNodeS1_c hT w3 w1 w2 w4 hk hk' (by omega)).mono fun v H' ⟨h1, h2, h3⟩ => ⟨h1, h2, .inr ⟨g, rfl, w1, h3⟩⟩
theorem heldNodeS_c {T : TypeId} {a : Option Addr} {r : Nat → Option Addr} {L : List Nd} {k : Int} {H : GHeap} (h : NdsV T H a r (markN L k) := by assumption) (hk : 0 ≤ k := by omega) (hk' : k + ndTot L L.length ≤ 9223372036854775000 := by omega) (hl : L.length ≤ 40 := by omega) :
    GCalls Tryd.prog 8 [.slice a L.length L.length, .int .i64 k] H (Ret (.int .i64 (k + ndTot L L.length)) H) := by
  rcases h with h | ⟨g, rfl, h1, h3⟩
  · have h0 := congrArg List.length h
    rw [length_markN] at h0
    obtain rfl : L = [] := List.eq_nil_of_length_eq_zero h0
    rw [show k + (ndTot ([] : List Nd) ([] : List Nd).length : Int) = k by simp [ndTot, sumL]]
    exact heldNodeS0_c hk (by omega)
  · exact heldNodeS1_c h1 (fun i hi => h3 i (by rw [length_markN]; exact hi)) hk hk' (by omega)
end Go.Proofs.YtdnjnligclkkgaaDoor
namespace Go.Proofs.YtdnjnligclkkgaaDoor
open Go Go.GL Go.RowKit Go.Proofs
set_option maxHeartbeats 40000000 in
theorem lawParseFormula_c {s : ByteArray} {H : GHeap} :
    GCalls Tryd.prog 3 [.string s] H (fun v _ => v = .bool true) := by
  obtain ⟨_, _, _⟩ := pfL_ok s
  refine GCalls.body (N := 66) (rs := [.tmp 2]) Tryd.func3 rfl rfl rfl rfl (fun Qx b hend => ?_)
  refine .fg [0] rfl ?_
  have g := GHeap.Le.refl H
  refine .seq (fun K1 e3 => .region (.mv rfl (.nil (e3 _ _ (.seq (fun K2 d8 => .seq (fun K3 e4 => .region (.mv rfl (.q rfl (.lenStr st_9_Ua rfl) (.q rfl (.cmp rfl rfl rfl) (.nil (e4 _ _ ?_))))))))))))
  refine .cond rfl ?_ ?_ <;> intro c9
  ·
   try simp only [sps] at c9
   refine .seq (fun K4 e0 => .region (.mv rfl (.nil (e0 _ _ (.ret (b _ _ (⟨_, rfl, ?_⟩)))))))
   first
   | exact rfl
   | exact absurd trivial (by assumption)
   | contradiction
   | (exfalso; omega)
  simp only [sps] at c9
  refine .skip (d8 _ _ (.seq (fun K5 d9 => .region (.mv rfl ?_))))
  refine .call rfl rfl rfl rfl @Tryd.call4 rfl (specParse_c) ?_
  rintro _ u ⟨p, _, _, rfl, f⟩
  have _ := p.1
  replace g := g.trans p
  have c := f
  have a : Keep H.next u u := fun _ _ _ h => h
  have o := f.view
  refine .mv rfl (.q rfl (.extract rfl rfl) (.q rfl (.extract rfl rfl) (.mv rfl (.mv rfl (.nil (d9 _ _ (.seq (fun K6 e1 => .region (.mv rfl ?_)))))))))
  refine .call rfl rfl rfl rfl @Tryd.call5 rfl (implParse_c) ?_
  rintro _ c7 ⟨m, _, _, rfl, c8⟩
  have _ := m.1
  replace g := g.trans m
  replace a := Keep.le a m
  replace f := c.keep a (Nat.le_refl _)
  have n := c8
  have j : Keep u.next c7 c7 := fun _ _ _ h => h
  clear o
  have o := f.view
  have _ := c8.view
  refine .mv rfl (.q rfl (.extract rfl rfl) (.q rfl (.extract rfl rfl) (.mv rfl (.mv rfl (.nil (e1 _ _ (.seq (fun K7 e5 => .seq (fun K8 c5 => .region (.mv rfl (.mv rfl ?_)))))))))))
  refine .callQ rfl rfl rfl rfl @Tryd.call6 rfl (eqNodeS_c) ?_
  refine .q rfl (.not rfl) (.mv rfl ?_)
  refine .split (fun b1 => ?_) (fun b1 => ?_)
  ·
   try simp only [sps] at b1
   refine .z rfl (.z rfl (.z rfl (.q rfl (.pickT rfl rfl) (.nil (c5 _ _ ?_)))))
   refine .condT rfl ?_
   refine .seq (fun K9 e2 => .region (.mv rfl (.nil (e2 _ _ (.ret (b _ _ (⟨_, rfl, ?_⟩)))))))
   first
   | exact rfl
   | exact absurd trivial (by assumption)
   | contradiction
   | (exfalso; omega)
  try simp only [sps] at b1
  refine .qg rfl (.move rfl) (.qg rfl (.move rfl) (.qg rfl (.cmp rfl rfl rfl) (.q rfl (.pickF rfl rfl) (.nil (c5 _ _ ?_)))))
  refine .cond rfl ?_ ?_ <;> intro d4
  ·
   try simp only [sps] at d4
   refine .seq (fun K10 a1 => .region (.mv rfl (.nil (a1 _ _ (.ret (b _ _ (⟨_, rfl, ?_⟩)))))))
   first
   | exact rfl
   | exact absurd trivial (by assumption)
   | contradiction
   | (exfalso; omega)
  try simp only [sps] at d4
  refine .skip (e5 _ _ (.seq (fun K11 c0 => .region (.mv rfl (.nil (c0 _ _ (.seq (fun K12 a7 => .region (.mv rfl (.mv rfl ?_))))))))))
  have _ := NdsW.of_r n j
  refine .call rfl rfl rfl rfl @Tryd.call7 rfl (markNodeS_c) ?_
  rintro _ b5 ⟨rfl, w, t⟩
  have i := w
  have _ := i.nx
  replace g := StK.le_left g i (by omega)
  replace a := Keep.stK a i (fun k hb hk => by omega)
  replace f := c.keep a (Nat.le_refl _)
  clear o
  have o := f.view
  have l := t
  have d : Keep u.next b5 b5 := fun _ _ _ h => h
  have d2 := t.view
  refine .mv rfl (.nil (a7 _ _ (.seq (fun K13 b4 => .region (.mv rfl (.nil (b4 _ _ (.seq (fun K14 y => .region (.mv rfl (.mv rfl ?_)))))))))))
  refine .callQ rfl rfl rfl rfl @Tryd.call8 rfl (heldNodeS_c) ?_
  refine .mv rfl (.nil (y _ _ (.seq (fun K15 b3 => .seq (fun K16 c1 => .region (.mv rfl (.q rfl (.cmp rfl rfl rfl) (.nil (c1 _ _ ?_)))))))))
  refine .cond rfl ?_ ?_ <;> intro d5
  ·
   try simp only [sps] at d5
   refine .seq (fun K17 a3 => .region (.mv rfl (.nil (a3 _ _ (.ret (b _ _ (⟨_, rfl, ?_⟩)))))))
   first
   | exact rfl
   | exact absurd trivial (by assumption)
   | contradiction
   | (exfalso; omega)
  try simp only [sps] at d5
  refine .skip (b3 _ _ (.seq (fun K18 a8 => .seq (fun K19 a9 => .region (.mv rfl (.mv rfl (.q rfl (.cmp rfl rfl rfl) (.nil (a9 _ _ ?_)))))))))
  refine .cond rfl ?_ ?_ <;> intro d1
  ·
   try simp only [sps] at d1
   refine .seq (fun K20 b7 => .region (.mv rfl (.nil (b7 _ _ (.ret (b _ _ (⟨_, rfl, ?_⟩)))))))
   first
   | exact rfl
   | exact absurd trivial (by assumption)
   | contradiction
   | (exfalso; omega)
  try simp only [sps] at d1
  refine .skip (a8 _ _ (.seq (fun K21 a5 => .region (.mv rfl ?_))))
  refine .call rfl rfl rfl rfl @Tryd.call5 rfl (implParse_c) ?_
  rintro _ d3 ⟨e, _, _, rfl, d7⟩
  have _ := e.1
  replace g := g.trans e
  replace a := Keep.le a e
  replace f := c.keep a (Nat.le_refl _)
  replace d := Keep.le d e
  replace t := l.keep d (Nat.le_refl _)
  have _ := d7
  have _ : Keep b5.next d3 d3 := fun _ _ _ h => h
  clear o
  have o := f.view
  clear d2
  have d2 := t.view
  have _ := d7.view
  refine .mv rfl (.q rfl (.extract rfl rfl) (.q rfl (.extract rfl rfl) (.mv rfl (.mv rfl (.nil (a5 _ _ (.seq (fun K22 x => .seq (fun K23 r => .region (.mv rfl (.mv rfl ?_)))))))))))
  refine .callQ rfl rfl rfl rfl @Tryd.call6 rfl (eqNodeS_c) ?_
  refine .q rfl (.not rfl) (.mv rfl ?_)
  refine .split (fun c2 => ?_) (fun c2 => ?_)
  ·
   try simp only [sps] at c2
   refine .z rfl (.z rfl (.z rfl (.q rfl (.pickT rfl rfl) (.nil (r _ _ ?_)))))
   refine .condT rfl ?_
   refine .seq (fun K24 b2 => .region (.mv rfl (.nil (b2 _ _ (.ret (b _ _ (⟨_, rfl, ?_⟩)))))))
   first
   | exact rfl
   | exact absurd trivial (by assumption)
   | contradiction
   | (exfalso; omega)
  try simp only [sps] at c2
  refine .qg rfl (.move rfl) (.qg rfl (.move rfl) (.qg rfl (.cmp rfl rfl rfl) (.q rfl (.pickF rfl rfl) (.nil (r _ _ ?_)))))
  refine .cond rfl ?_ ?_ <;> intro d0
  ·
   try simp only [sps] at d0
   refine .seq (fun K25 a6 => .region (.mv rfl (.nil (a6 _ _ (.ret (b _ _ (⟨_, rfl, ?_⟩)))))))
   first
   | exact rfl
   | exact absurd trivial (by assumption)
   | contradiction
   | (exfalso; omega)
  try simp only [sps] at d0
  refine .skip (x _ _ (.seq (fun K26 a4 => .region (.mv rfl (.nil (a4 _ _ (.seq (fun K27 b8 => .region (.mv rfl (.mv rfl ?_))))))))))
  refine .callQ rfl rfl rfl rfl @Tryd.call8 rfl (heldNodeS_c) ?_
  refine .mv rfl (.nil (b8 _ _ (.seq (fun K28 c3 => .seq (fun K29 a0 => .region (.mv rfl (.q rfl (.cmp rfl rfl rfl) (.nil (a0 _ _ ?_)))))))))
  refine .cond rfl ?_ ?_ <;> intro d6
  ·
   try simp only [sps] at d6
   refine .seq (fun K30 a2 => .region (.mv rfl (.nil (a2 _ _ (.ret (b _ _ (⟨_, rfl, ?_⟩)))))))
   first
   | exact rfl
   | exact absurd trivial (by assumption)
   | contradiction
   | (exfalso; omega)
  try simp only [sps] at d6
  refine .skip (c3 _ _ (.seq (fun K31 b0 => .seq (fun K32 b6 => .region (.mv rfl (.mv rfl (.q rfl (.cmp rfl rfl rfl) (.nil (b6 _ _ ?_)))))))))
  refine .cond rfl ?_ ?_ <;> intro c6
  ·
   try simp only [sps] at c6
   refine .seq (fun K33 c4 => .region (.mv rfl (.nil (c4 _ _ (.ret (b _ _ (⟨_, rfl, ?_⟩)))))))
   first
   | exact rfl
   | exact absurd trivial (by assumption)
   | contradiction
   | (exfalso; omega)
  try simp only [sps] at c6
  refine .skip (b0 _ _ (.seq (fun K34 b9 => .region (.mv rfl (.nil (b9 _ _ (.ret (b _ _ (⟨_, rfl, ?_⟩)))))))))
  first
  | exact rfl
  | exact absurd trivial (by assumption)
  | contradiction
  | (exfalso; omega)
end Go.Proofs.YtdnjnligclkkgaaDoor
