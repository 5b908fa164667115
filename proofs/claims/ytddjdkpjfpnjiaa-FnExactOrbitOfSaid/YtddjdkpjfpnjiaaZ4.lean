/- The quiet operations over ghost values are sound. No condition. -/
import Derived.Test.YtddjdkpjfpnjiaaZ3
import Derived.WalkSpells
import Derived.IntWalk
set_option linter.unusedSectionVars false
namespace Go.GL
open Go.RowKit

section
variable {P : Program} {B : Nat} {w0 : World} {ρ : Place} {H : GHeap} {w : World} {fr : Slots} {a : Act}

theorem ev_rel {L : Array Operand} (hf : ∀ t u, Operand.tmp t ∈ L → fr.get t = some u → VRel ρ u (a.eval (.tmp t))) {x : Operand} {u : Value} (hx : x ∈ L) (h : ev fr x = some u) : VRel ρ u (a.eval x) := by
  cases x with
  | tmp t => exact hf t u hx h
  | const v =>
    unfold ev at h
    cases hfl : flat v with
    | false => simp [hfl] at h
    | true =>
      simp [hfl] at h
      subst h
      exact .flat hfl
  | func f =>
    simp only [ev, Option.some.injEq] at h
    subst h
    exact .func _ rfl fun i h₁ _ => by simp at h₁
  | global g => simp [ev] at h

theorem evs_rel {L : Array Operand} (hf : ∀ t u, Operand.tmp t ∈ L → fr.get t = some u → VRel ρ u (a.eval (.tmp t))) :
    ∀ {xs : List Operand} {us : List Value}, (∀ x ∈ xs, x ∈ L) → evs fr xs = some us → LRel ρ us (xs.map a.eval)
  | [], us, _, h => by simp only [evs, Option.some.injEq] at h; subst h; exact .nil ρ
  | x :: xs, us, hx, h => by
    unfold evs at h
    split at h
    · cases h
    · rename_i v hv
      split at h
      · cases h
      · rename_i vs hvs
        simp only [Option.some.injEq] at h
        subst h
        exact .cons (ev_rel hf (hx x (by simp)) hv) (evs_rel hf (fun y hy => hx y (by simp [hy])) hvs)

theorem Sim.cell (hs : Sim P B w0 ρ H w) {g o : Nat} {v : Value} {s : Spot} (hg : ρ g = some s) (hc : H.cell g o = some v) : ∃ c, w.cell? ⟨s.blk, s.base + o, none⟩ = some c ∧ VRel ρ v c := by
  unfold GHeap.cell at hc
  split at hc
  · rename_i cs e own hget
    obtain ⟨s', C, fz, h1, h2, h3, h4, h5, _⟩ := hs.live _ _ hget
    rw [hg] at h1
    cases h1
    obtain ⟨c, hC, hr⟩ := h5 o v hc
    refine ⟨c, ?_, hr⟩
    simp [World.cell?, h2, hC]
  · cases hc

theorem add_mk (b o k : Nat) : (⟨b, o, none⟩ : Addr).add k = ⟨b, o + k, none⟩ := by unfold Addr.add; split <;> simp_all

theorem VRel.ptr_inv {ρ : Place} {g o : Nat} {c : Value} (h : VRel ρ (.pointer (some ⟨g, o, none⟩)) c) : ∃ s, ρ g = some s ∧ c = .pointer (some ⟨s.blk, s.base + o, none⟩) := by
  cases h with
  | ptr h => exact ⟨_, h, rfl⟩
theorem VRel.ptr_some {ρ : Place} {a : Addr} {c : Value} (h : VRel ρ (.pointer (some a)) c) : ∃ b, c = .pointer (some b) := by
  cases h with
  | ptr h => exact ⟨_, rfl⟩
theorem VRel.int_inv {ρ : Place} {k : IntKind} {n : Int} {c : Value} (h : VRel ρ (.int k n) c) : c = .int k n := by cases h; rfl
theorem VRel.bool_inv {ρ : Place} {b : Bool} {c : Value} (h : VRel ρ (.bool b) c) : c = .bool b := by cases h; rfl
theorem VRel.string_inv {ρ : Place} {s : ByteArray} {c : Value} (h : VRel ρ (.string s) c) : c = .string s := by cases h; rfl
theorem VRel.nilSlice_inv {ρ : Place} {n m : Nat} {c : Value} (h : VRel ρ (.slice none n m) c) : n = 0 ∧ m = 0 ∧ c = .slice none 0 0 := by cases h; exact ⟨rfl, rfl, rfl⟩
theorem VRel.slice_inv {ρ : Place} {g o n m : Nat} {c : Value} (h : VRel ρ (.slice (some ⟨g, o, none⟩) n m) c) :
    m = n ∧ ∃ s, ρ g = some s ∧ ((∃ cap, c = .slice (some ⟨s.blk, s.base + o, none⟩) n cap ∧ n ≤ cap ∧ s.base + o + cap * s.esz ≤ s.csize ∧ cap ≤ maxLen) ∨ (n = 0 ∧ ∃ a', c = .slice (some a') 0 0)) := by
  cases h with
  | slice h hn hc hm => exact ⟨rfl, _, h, .inl ⟨_, rfl, hn, hc, hm⟩⟩
  | empty h => exact ⟨rfl, _, h, .inr ⟨rfl, _, rfl⟩⟩
theorem VRel.slice_len {ρ : Place} {a : Option Addr} {n m : Nat} {c : Value} (h : VRel ρ (.slice a n m) c) : m = n ∧ ∃ a' cap, c = .slice a' n cap ∧ n ≤ cap ∧ (a'.isNone = a.isNone) := by
  cases h with
  | slice h hn hc hm => exact ⟨rfl, _, _, rfl, hn, rfl⟩
  | empty h => exact ⟨rfl, _, _, rfl, Nat.le_refl _, rfl⟩
  | nilSlice => exact ⟨rfl, _, _, rfl, Nat.le_refl _, rfl⟩

theorem flat1_eq {ρ : Place} {v c : Value} (h : VRel ρ v c) (hf : flat1 v = true) : c = v := by
  cases h <;> first | rfl | (simp [flat1] at hf)
theorem flat_agg_eq {ρ : Place} {as : Array Value} {c : Value} (h : VRel ρ (.agg as) c) (hf : flat (.agg as) = true) : c = .agg as := by
  cases h with
  | agg hs h =>
    rename_i ds
    congr 1
    refine Array.ext hs.symm fun i h₁ h₂ => ?_
    exact flat1_eq (h i h₂ h₁) (List.all_eq_true.1 hf _ (by simp))

theorem loadCellsFrom_run (b : Addr) : ∀ (n i : Nat) (acc : Array Value) (cs : List Value), cs.length = n → (∀ j c, cs[j]? = some c → w.cell? (b.add (i + j)) = some c) → (loadCellsFrom b i n acc).run P w = .ok (acc ++ cs.toArray) w
  | 0, i, acc, cs, hl, _ => by
    have : cs = [] := List.eq_nil_of_length_eq_zero hl
    subst this
    simp [loadCellsFrom]
  | n + 1, i, acc, cs, hl, h => by
    cases cs with
    | nil => simp at hl
    | cons c cs =>
      have h0 := h 0 c rfl
      simp only [Nat.add_zero] at h0
      unfold loadCellsFrom
      simp only [Sem.run_bind, load, Sem.run, h0, Result.andThen_ok]
      rw [loadCellsFrom_run b n (i + 1) (acc.push c) cs (by simpa using hl) (fun j c' hj => by
        have := h (j + 1) c' (by simpa using hj)
        rw [show i + 1 + j = i + (j + 1) by omega]
        exact this)]
      congr 1
      apply Array.toList_inj.1
      simp

theorem setAll_rel {ρ : Place} : ∀ {vs cs : List Value} (hv : LRel ρ vs cs) {z y : List Value} (hz : LRel ρ z y) (o : Nat), LRel ρ (setAll z o vs) (setAll y o cs)
  | [], [], _, z, y, hz, o => hz
  | [], c :: cs, hv, z, y, hz, o => by simp [LRel] at hv
  | v :: vs, [], hv, z, y, hz, o => by simp [LRel] at hv
  | v :: vs, c :: cs, hv, z, y, hz, o => by
    unfold setAll
    refine setAll_rel ⟨by simpa using hv.1, fun i a b ha hb => hv.2 (i + 1) a b (by simpa using ha) (by simpa using hb)⟩ ⟨by simp [hz.1], fun i a b ha hb => ?_⟩ (o + 1)
    rw [List.getElem?_set] at ha hb
    by_cases h : o = i
    · subst h
      simp only [if_true] at ha hb
      split at ha
      · split at hb
        · simp only [Option.some.injEq] at ha hb
          subst ha; subst hb
          exact hv.2 0 _ _ rfl rfl
        · cases hb
      · cases ha
    · simp only [h, if_false] at ha hb
      exact hz.2 i a b ha hb

theorem setAll_eq : ∀ (vs : List Value) (cs : Array Value) (off k : Nat), (vs.zipIdx k).foldl (fun (cs : Array Value) (x : Value × Nat) => cs.setIfInBounds (off + x.2) x.1) cs = (setAll cs.toList (off + k) vs).toArray
  | [], cs, off, k => by simp [setAll]
  | v :: vs, cs, off, k => by
    simp only [List.zipIdx_cons, List.foldl_cons]
    rw [setAll_eq vs _ off (k + 1)]
    simp only [setAll, Array.toList_setIfInBounds, Nat.add_assoc]
theorem length_setAll : ∀ (vs cs : List Value) (o : Nat), (setAll cs o vs).length = cs.length
  | [], cs, o => rfl
  | v :: vs, cs, o => by simp [setAll, length_setAll vs]

theorem fill_rel {ρ : Place} (pl : Nat → Option (Nat × Nat)) : ∀ (is : List Nat) {vs us : List Value} {z cs : List Value} {y : List Value} (hv : LRel ρ vs us) (hz : LRel ρ z y), fillL pl z (is.zip vs) = some cs →
      ∃ ds : List Value, Instr.fill pl y.toArray (is.zip us) = some ds.toArray ∧ LRel ρ cs ds
  | [], vs, us, z, cs, y, hv, hz, h => by
    simp only [List.zip_nil_left, fillL, Option.some.injEq] at h
    subst h
    exact ⟨y, by simp [Instr.fill], hz⟩
  | i :: is, vs, us, z, cs, y, hv, hz, h => by
    match vs, us, hv with
    | [], [], _ =>
      simp only [List.zip_nil_right, fillL, Option.some.injEq] at h
      subst h
      exact ⟨y, by simp [Instr.fill], hz⟩
    | v :: vs, u :: us, hv =>
      simp only [List.zip_cons_cons] at h ⊢
      unfold fillL at h
      have hvu : VRel ρ v u := hv.2 0 _ _ rfl rfl
      have hcells := hvu.cells
      have hsz : u.cells.size = v.cells.size := by simpa using hcells.1.symm
      split at h
      · cases h
      · rename_i off size hp
        cases hb : (Nat.beq v.cells.size size && Nat.ble (off + v.cells.size) z.length) with
        | false => simp [hb] at h
        | true =>
          simp only [hb, cond_true] at h
          simp only [Bool.and_eq_true] at hb
          have hb1 : v.cells.size = size := Nat.eq_of_beq_eq_true hb.1
          have hb2 : off + v.cells.size ≤ z.length := Nat.le_of_ble_eq_true hb.2
          have hset := setAll_rel hcells hz off
          obtain ⟨ds, hd, hr⟩ := fill_rel pl is (vs := vs) (us := us) ⟨by simpa using hv.1, fun j a b ha hb => hv.2 (j + 1) a b (by simpa using ha) (by simpa using hb)⟩ hset h
          refine ⟨ds, ?_, hr⟩
          unfold Instr.fill
          have e1 : ¬ (u.cells.size ≠ size ∨ off + u.cells.size > y.length) := by rw [hsz]; have := hz.1; omega
          have e2 := setAll_eq u.cells.toList y.toArray off 0
          simp only [Nat.add_zero, List.toList_toArray] at e2
          simp only [hp]
          have e3 : (u.cells.zipIdx.foldl (fun (cs : Array Value) (x : Value × Nat) => cs.setIfInBounds (off + x.2) x.1) y.toArray) = (setAll y off u.cells.toList).toArray := by
            rw [← e2, ← Array.foldl_toList, Array.toList_zipIdx]
          have e4 : (decide (u.cells.size ≠ size) || decide (off + u.cells.size > y.toArray.size)) = false := by simp at e1 ⊢; omega
          simp only [e4, Bool.false_eq_true, if_false]
          rw [e3]
          exact hd
    | [], u :: us, hv => simp [LRel] at hv
    | v :: vs, [], hv => simp [LRel] at hv
end
end Go.GL
