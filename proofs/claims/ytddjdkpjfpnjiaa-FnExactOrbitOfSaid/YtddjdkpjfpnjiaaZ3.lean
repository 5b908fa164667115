/- Ghost heaps: values and heaps whose block numbers are the prover's own, and the relation between them and the model's worlds. No condition. -/
import Derived.Test.YtddjdkpjfpnjiaaZ2
import Derived.WalkKit
import Derived.Orders
import Derived.Deep.MidRow
set_option linter.unusedSectionVars false
namespace Go.GL
open Go.RowKit

structure Spot where
  blk : Nat
  base : Nat
  csize : Nat
  esz : Nat

abbrev Place := Nat → Option Spot

inductive VRel (ρ : Place) : Value → Value → Prop
  | bool (b : Bool) : VRel ρ (.bool b) (.bool b)
  | int (k : IntKind) (n : Int) : VRel ρ (.int k n) (.int k n)
  | string (s : ByteArray) : VRel ρ (.string s) (.string s)
  | nilPtr : VRel ρ (.pointer none) (.pointer none)
  | ptr {g o : Nat} {s : Spot} (h : ρ g = some s) : VRel ρ (.pointer (some ⟨g, o, none⟩)) (.pointer (some ⟨s.blk, s.base + o, none⟩))
  | nilSlice : VRel ρ (.slice none 0 0) (.slice none 0 0)
  | slice {g o n cap : Nat} {s : Spot} (h : ρ g = some s) (hn : n ≤ cap) (hc : s.base + o + cap * s.esz ≤ s.csize) (hm : cap ≤ maxLen) :
      VRel ρ (.slice (some ⟨g, o, none⟩) n n) (.slice (some ⟨s.blk, s.base + o, none⟩) n cap)
  | empty {g o : Nat} {s : Spot} {a' : Addr} (h : ρ g = some s) : VRel ρ (.slice (some ⟨g, o, none⟩) 0 0) (.slice (some a') 0 0)
  | nilMap : VRel ρ (.map none) (.map none)
  | map {g : Nat} {s : Spot} (h : ρ g = some s) : VRel ρ (.map (some g)) (.map (some s.blk))
  | chan {g : Nat} {s : Spot} (h : ρ g = some s) : VRel ρ (.chan (some g)) (.chan (some s.blk))
  | nilFunc : VRel ρ .nilFunc .nilFunc
  | nilIface : VRel ρ .nilIface .nilIface
  | iface (t : TypeId) {v c : Value} (h : VRel ρ v c) : VRel ρ (.iface t v) (.iface t c)
  | func (fn : Fn) {cs ds : Array Value} (hs : cs.size = ds.size) (h : ∀ (i : Nat) (h₁ : i < cs.size) (h₂ : i < ds.size), VRel ρ cs[i] ds[i]) : VRel ρ (.func fn #[] cs) (.func fn #[] ds)
  | bound (fn : Fn) {cs ds : Array Value} (hs : cs.size = ds.size) (h : ∀ (i : Nat) (h₁ : i < cs.size) (h₂ : i < ds.size), VRel ρ cs[i] ds[i]) : VRel ρ (.func fn cs #[]) (.func fn ds #[])
  | agg {cs ds : Array Value} (hs : cs.size = ds.size) (h : ∀ (i : Nat) (h₁ : i < cs.size) (h₂ : i < ds.size), VRel ρ cs[i] ds[i]) : VRel ρ (.agg cs) (.agg ds)
  | tuple {cs ds : Array Value} (hs : cs.size = ds.size) (h : ∀ (i : Nat) (h₁ : i < cs.size) (h₂ : i < ds.size), VRel ρ cs[i] ds[i]) : VRel ρ (.tuple cs) (.tuple ds)

def Ext (ρ ρ' : Place) : Prop := ∀ g s, ρ g = some s → ρ' g = some s
theorem Ext.refl (ρ : Place) : Ext ρ ρ := fun _ _ h => h
theorem Ext.trans {a b c : Place} (h : Ext a b) (k : Ext b c) : Ext a c := fun g s hs => k g s (h g s hs)

theorem VRel.mono {ρ ρ' : Place} (he : Ext ρ ρ') {v c : Value} (h : VRel ρ v c) : VRel ρ' v c := by
  induction h with
  | bool b => exact .bool b
  | int k n => exact .int k n
  | string s => exact .string s
  | nilPtr => exact .nilPtr
  | ptr h => exact .ptr (he _ _ h)
  | nilSlice => exact .nilSlice
  | slice h hn hc hm => exact .slice (he _ _ h) hn hc hm
  | empty h => exact .empty (he _ _ h)
  | nilMap => exact .nilMap
  | map h => exact .map (he _ _ h)
  | chan h => exact .chan (he _ _ h)
  | nilFunc => exact .nilFunc
  | nilIface => exact .nilIface
  | iface t _ ih => exact .iface t ih
  | func fn hs _ ih => exact .func fn hs ih
  | bound fn hs _ ih => exact .bound fn hs ih
  | agg hs _ ih => exact .agg hs ih
  | tuple hs _ ih => exact .tuple hs ih

def LRel (ρ : Place) (vs cs : List Value) : Prop := vs.length = cs.length ∧ ∀ (i : Nat) (v c : Value), vs[i]? = some v → cs[i]? = some c → VRel ρ v c

theorem LRel.nil (ρ : Place) : LRel ρ [] [] := ⟨rfl, fun _ _ _ h => by simp at h⟩
theorem LRel.cons {ρ : Place} {v c : Value} {vs cs : List Value} (h : VRel ρ v c) (t : LRel ρ vs cs) : LRel ρ (v :: vs) (c :: cs) := by
  refine ⟨by simp [t.1], fun i v' c' hv hc => ?_⟩
  cases i with
  | zero => simp at hv hc; subst hv; subst hc; exact h
  | succ i => exact t.2 i v' c' (by simpa using hv) (by simpa using hc)
theorem LRel.mono {ρ ρ' : Place} (he : Ext ρ ρ') {vs cs : List Value} (h : LRel ρ vs cs) : LRel ρ' vs cs := ⟨h.1, fun i v c hv hc => (h.2 i v c hv hc).mono he⟩
theorem LRel.get {ρ : Place} {vs cs : List Value} (h : LRel ρ vs cs) {i : Nat} {v : Value} (hv : vs[i]? = some v) : ∃ c, cs[i]? = some c ∧ VRel ρ v c := by
  have hi : i < vs.length := (List.getElem?_eq_some_iff.1 hv).1
  have hc : cs[i]? = some (cs[i]'(h.1 ▸ hi)) := List.getElem?_eq_getElem _
  exact ⟨_, hc, h.2 i v _ hv hc⟩
theorem LRel.append {ρ : Place} {vs cs vs' cs' : List Value} (h : LRel ρ vs cs) (h' : LRel ρ vs' cs') : LRel ρ (vs ++ vs') (cs ++ cs') := by
  refine ⟨by simp [h.1, h'.1], fun i v c hv hc => ?_⟩
  by_cases hi : i < vs.length
  · rw [List.getElem?_append_left hi] at hv
    rw [List.getElem?_append_left (by rw [← h.1]; exact hi)] at hc
    exact h.2 i v c hv hc
  · rw [List.getElem?_append_right (by omega)] at hv
    rw [List.getElem?_append_right (by rw [← h.1]; omega), ← h.1] at hc
    exact h'.2 _ v c hv hc

theorem VRel.agg_of {ρ : Place} {vs cs : List Value} (h : LRel ρ vs cs) : VRel ρ (.agg vs.toArray) (.agg cs.toArray) :=
  .agg (by simpa using h.1) fun i h₁ h₂ => h.2 i _ _ (by simp at h₁; simp [List.getElem?_eq_getElem h₁]) (by simp at h₂; simp [List.getElem?_eq_getElem h₂])
theorem VRel.tuple_of {ρ : Place} {vs cs : List Value} (h : LRel ρ vs cs) : VRel ρ (.tuple vs.toArray) (.tuple cs.toArray) :=
  .tuple (by simpa using h.1) fun i h₁ h₂ => h.2 i _ _ (by simp at h₁; simp [List.getElem?_eq_getElem h₁]) (by simp at h₂; simp [List.getElem?_eq_getElem h₂])

theorem VRel.agg_inv {ρ : Place} {cs : Array Value} {c : Value} (h : VRel ρ (.agg cs) c) : ∃ ds : Array Value, c = .agg ds ∧ LRel ρ cs.toList ds.toList := by
  cases h with
  | agg hs h =>
    rename_i ds
    refine ⟨ds, rfl, by simpa using hs, fun i v c hv hc => ?_⟩
    simp only [Array.getElem?_toList] at hv hc
    obtain ⟨h₁, e₁⟩ := Array.getElem?_eq_some_iff.1 hv
    obtain ⟨h₂, e₂⟩ := Array.getElem?_eq_some_iff.1 hc
    subst e₁; subst e₂
    exact h i h₁ h₂
theorem VRel.tuple_inv {ρ : Place} {cs : Array Value} {c : Value} (h : VRel ρ (.tuple cs) c) : ∃ ds : Array Value, c = .tuple ds ∧ LRel ρ cs.toList ds.toList := by
  cases h with
  | tuple hs h =>
    rename_i ds
    refine ⟨ds, rfl, by simpa using hs, fun i v c hv hc => ?_⟩
    simp only [Array.getElem?_toList] at hv hc
    obtain ⟨h₁, e₁⟩ := Array.getElem?_eq_some_iff.1 hv
    obtain ⟨h₂, e₂⟩ := Array.getElem?_eq_some_iff.1 hc
    subst e₁; subst e₂
    exact h i h₁ h₂
def flat1 : Value → Bool
  | .bool _ | .int .. | .string _ | .pointer none | .map none | .nilFunc | .nilIface => true
  | .slice none 0 0 => true
  | _ => false
def flat : Value → Bool
  | .agg cs => cs.toList.all flat1
  | .tuple cs => cs.toList.all flat1
  | v => flat1 v
theorem VRel.flat1 {ρ : Place} {v : Value} (h : flat1 v = true) : VRel ρ v v := by
  unfold GL.flat1 at h
  split at h <;> first | constructor | cases h
theorem VRel.flat {ρ : Place} {v : Value} (h : flat v = true) : VRel ρ v v := by
  unfold GL.flat at h
  split at h
  · rename_i cs
    exact .agg rfl fun i h₁ _ => .flat1 (List.all_eq_true.1 h _ (by simp))
  · rename_i cs
    exact .tuple rfl fun i h₁ _ => .flat1 (List.all_eq_true.1 h _ (by simp))
  · exact .flat1 h

theorem VRel.oneCell {ρ : Place} {v c : Value} (h : VRel ρ v c) : c.oneCell' = v.oneCell' := by
  cases h <;> rfl
theorem VRel.cells {ρ : Place} {v c : Value} (h : VRel ρ v c) : LRel ρ v.cells.toList c.cells.toList := by
  have one : ∀ {v c : Value}, VRel ρ v c → LRel ρ [v] [c] := fun h => .cons h (.nil ρ)
  cases h with
  | agg hs h => exact (VRel.agg hs h).agg_inv.elim fun _ hx => by cases hx.1; exact hx.2
  | bool b => exact one (.bool b)
  | int k n => exact one (.int k n)
  | string s => exact one (.string s)
  | nilPtr => exact one .nilPtr
  | ptr h => exact one (.ptr h)
  | nilSlice => exact one .nilSlice
  | slice h hn hc hm => exact one (.slice h hn hc hm)
  | empty h => exact one (.empty h)
  | nilMap => exact one .nilMap
  | map h => exact one (.map h)
  | chan h => exact one (.chan h)
  | nilFunc => exact one .nilFunc
  | nilIface => exact one .nilIface
  | iface t h => exact one (.iface t h)
  | func fn hs h => exact one (.func fn hs h)
  | bound fn hs h => exact one (.bound fn hs h)
  | tuple hs h => exact one (.tuple hs h)

inductive GObj where
  | row (cells : List Value) (elem : TypeId) (own : Bool)
  | map (es : List (Value × Value))
  | oth (R : Place → Nat → Obj → Prop) (mono : ∀ ρ ρ' l x, Ext ρ ρ' → R ρ l x → R ρ' l x) (back : ∀ ρ ρ' l x y, Ext ρ ρ' → R ρ' l x → R ρ l y → R ρ l x)

structure GHeap where
  objs : List (Option GObj)

namespace GHeap
def get (H : GHeap) (g : Nat) : Option GObj := (H.objs[g]?).join
def next (H : GHeap) : Nat := H.objs.length
def push (H : GHeap) (o : GObj) : GHeap := ⟨H.objs ++ [some o]⟩
def set (H : GHeap) (g : Nat) (o : Option GObj) : GHeap := ⟨H.objs.set g o⟩
def cell (H : GHeap) (g o : Nat) : Option Value :=
  match H.get g with
  | some (.row cs _ _) => cs[o]?
  | _ => none

def Le (H H' : GHeap) : Prop := H.next ≤ H'.next ∧ ∀ g o, H.get g = some o → H'.get g = some o
theorem Le.refl (H : GHeap) : H.Le H := ⟨Nat.le_refl _, fun _ _ h => h⟩
theorem Le.trans {a b c : GHeap} (h : a.Le b) (k : b.Le c) : a.Le c := ⟨Nat.le_trans h.1 k.1, fun g o hg => k.2 g o (h.2 g o hg)⟩

theorem ltg {H : GHeap} {g : Nat} {o : GObj} (h : H.get g = some o) : g < H.next := by
  unfold get at h
  unfold next
  rcases Nat.lt_or_ge g H.objs.length with hl | hl
  · exact hl
  · rw [List.getElem?_eq_none hl] at h; cases h
@[simp] theorem next_push (H : GHeap) (o : GObj) : (H.push o).next = H.next + 1 := by simp [next, push]
@[simp] theorem next_set (H : GHeap) (g : Nat) (o : Option GObj) : (H.set g o).next = H.next := by simp [next, set]
@[simp] theorem get_push_new (H : GHeap) (o : GObj) : (H.push o).get H.next = some o := by simp [get, push, next]
theorem get_push_of {H : GHeap} {o : GObj} {g : Nat} {x : GObj} (h : H.get g = some x) : (H.push o).get g = some x := by
  have hl := ltg h
  unfold get push at *
  simp only
  rw [List.getElem?_append_left hl]
  exact h
theorem get_push_lt {H : GHeap} {o : GObj} {g : Nat} (hl : g < H.next) : (H.push o).get g = H.get g := by
  unfold get push next at *
  simp only
  rw [List.getElem?_append_left hl]
theorem le_push (H : GHeap) (o : GObj) : H.Le (H.push o) := ⟨by simp, fun _ _ h => get_push_of h⟩
theorem get_set_ne {H : GHeap} {g g' : Nat} {o : Option GObj} (h : g ≠ g') : (H.set g o).get g' = H.get g' := by
  unfold get set
  simp only
  rw [List.getElem?_set_ne h]
theorem get_set_eq {H : GHeap} {g : Nat} {o : Option GObj} (h : g < H.next) : (H.set g o).get g = o := by
  unfold get set next at *
  simp only
  rw [List.getElem?_set_self h]
  rfl
theorem cell_of {H : GHeap} {g o : Nat} {cs : List Value} {e : TypeId} {own : Bool} (h : H.get g = some (.row cs e own)) : H.cell g o = cs[o]? := by
  simp [cell, h]
theorem Le.cell {H H' : GHeap} (h : H.Le H') {g o : Nat} {v : Value} (hc : H.cell g o = some v) : H'.cell g o = some v := by
  unfold GHeap.cell at *
  split at hc
  · rename_i hg; rw [h.2 _ _ hg]; exact hc
  · cases hc
end GHeap

def LiveRow (P : Program) (B : Nat) (ρ : Place) (w : World) (g : Nat) (cells : List Value) (elem : TypeId) (own : Bool) : Prop :=
  ∃ (s : Spot) (C : Array Value) (fz : Nat × Nat), ρ g = some s ∧ w.heap[s.blk]? = some (.cells C elem fz) ∧ C.size = s.csize ∧ s.base + cells.length ≤ C.size ∧
    (∀ (i : Nat) (v : Value), cells[i]? = some v → ∃ c, C[s.base + i]? = some c ∧ VRel ρ v c) ∧
    (own = true → fz = (0, 0) ∧ B ≤ s.blk) ∧ (own = false → s.blk < B) ∧ (own = true → (P.info? elem).map (·.size) = some s.esz)

def LiveMap (B : Nat) (ρ : Place) (w : World) (g : Nat) (es : List (Value × Value)) : Prop :=
  ∃ (s : Spot) (E : Array MapEntry) (clock : Nat), ρ g = some s ∧ w.heap[s.blk]? = some (.map E clock) ∧ B ≤ s.blk ∧ es.length = E.size ∧
    ∀ (i : Nat) (k v : Value), es[i]? = some (k, v) → ∃ e : MapEntry, E[i]? = some e ∧ VRel ρ k e.key ∧ VRel ρ v e.val

def LiveOth (B : Nat) (ρ : Place) (w : World) (g : Nat) (R : Place → Nat → Obj → Prop) : Prop := ∃ (s : Spot) (x : Obj), ρ g = some s ∧ w.heap[s.blk]? = some x ∧ B ≤ s.blk ∧ R ρ s.blk x

def Live (P : Program) (B : Nat) (ρ : Place) (w : World) (g : Nat) : GObj → Prop
  | .row cells elem own => LiveRow P B ρ w g cells elem own
  | .map es => LiveMap B ρ w g es
  | .oth R _ _ => LiveOth B ρ w g R

def GObj.isOwn : GObj → Bool
  | .row _ _ own => own
  | .map _ => true
  | .oth _ _ _ => true

structure Sim (P : Program) (B : Nat) (w0 : World) (ρ : Place) (H : GHeap) (w : World) : Prop where
  dom : ∀ g, H.next ≤ g → ρ g = none
  live : ∀ g o, H.get g = some o → Live P B ρ w g o
  apart : ∀ g g' o o' s s', H.get g = some o → H.get g' = some o' → o.isOwn = true → o'.isOwn = true → g ≠ g' → ρ g = some s → ρ g' = some s' → s.blk ≠ s'.blk
  base : B ≤ w.heap.size
  below : Below B w0 w

theorem Live.own {P : Program} {B : Nat} {ρ : Place} {w : World} {g : Nat} {o : GObj} (h : Live P B ρ w g o) (ho : o.isOwn = true) : ∃ s, ρ g = some s ∧ B ≤ s.blk ∧ s.blk < w.heap.size := by
  cases o with
  | row cells elem own =>
    obtain ⟨s, C, fz, h1, h2, _, _, _, h6, _⟩ := h
    exact ⟨s, h1, (h6 ho).2, (Array.getElem?_eq_some_iff.1 h2).1⟩
  | map es =>
    obtain ⟨s, E, cl, h1, h2, h3, _⟩ := h
    exact ⟨s, h1, h3, (Array.getElem?_eq_some_iff.1 h2).1⟩
  | oth R _ _ =>
    obtain ⟨s, x, h1, h2, h3, _⟩ := h
    exact ⟨s, h1, h3, (Array.getElem?_eq_some_iff.1 h2).1⟩

theorem Live.keep {P : Program} {B : Nat} {ρ ρ' : Place} {w w' : World} {g : Nat} {o : GObj} (h : Live P B ρ w g o) (he : Ext ρ ρ')
    (hb : ∀ s, ρ g = some s → w'.heap[s.blk]? = w.heap[s.blk]?) : Live P B ρ' w' g o := by
  cases o with
  | row cells elem own =>
    obtain ⟨s, C, fz, h1, h2, h3, h4, h5, h6⟩ := h
    exact ⟨s, C, fz, he _ _ h1, by rw [hb s h1]; exact h2, h3, h4, fun i v hv => let ⟨c, hc, hr⟩ := h5 i v hv; ⟨c, hc, hr.mono he⟩, h6⟩
  | map es =>
    obtain ⟨s, E, cl, h1, h2, h3, h4, h5⟩ := h
    exact ⟨s, E, cl, he _ _ h1, by rw [hb s h1]; exact h2, h3, h4, fun i k v hv => let ⟨e, h6, h7, h8⟩ := h5 i k v hv; ⟨e, h6, h7.mono he, h8.mono he⟩⟩
  | oth R m _ =>
    obtain ⟨s, x, h1, h2, h3, h4⟩ := h
    exact ⟨s, x, he _ _ h1, by rw [hb s h1]; exact h2, h3, m _ _ _ _ he h4⟩

theorem Sim.drew {P : Program} {B : Nat} {w0 : World} {ρ : Place} {H : GHeap} {w : World} (h : Sim P B w0 ρ H w) : Sim P B w0 ρ H { w with drawn := w.drawn + 1 } :=
  ⟨h.dom, fun g o hg => (h.live g o hg).keep (.refl ρ) fun _ _ => rfl, h.apart, h.base, ⟨h.below.os, h.below.tape, h.below.output, h.below.size, h.below.block⟩⟩

theorem Sim.fewer {P : Program} {B : Nat} {w0 : World} {ρ : Place} {H H' : GHeap} {w : World} (h : Sim P B w0 ρ H w) (hn : H'.next = H.next)
    (hs : ∀ g o, H'.get g = some o → H.get g = some o) : Sim P B w0 ρ H' w :=
  ⟨fun g hg => h.dom g (hn ▸ hg), fun g o hg => h.live g o (hs g o hg), fun g g' o o' s s' h1 h2 => h.apart g g' o o' s s' (hs _ _ h1) (hs _ _ h2), h.base, h.below⟩

theorem VRel.back {ρ ρ' : Place} (he : Ext ρ ρ') {v c c0 : Value} (h : VRel ρ' v c) (h0 : VRel ρ v c0) : VRel ρ v c := by
  have one : ∀ {g : Nat} {s s0 : Spot}, ρ' g = some s → ρ g = some s0 → ρ g = some s := fun h k => by
    have := he _ _ k
    rw [h] at this
    rw [k, Option.some.inj this]
  induction h generalizing c0 with
  | bool b => exact .bool b
  | int k n => exact .int k n
  | string s => exact .string s
  | nilPtr => exact .nilPtr
  | ptr h => cases h0 with | ptr k => exact .ptr (one h k)
  | nilSlice => exact .nilSlice
  | slice h hn hc hm =>
    cases h0 with
    | slice k _ _ _ => exact .slice (one h k) hn hc hm
    | empty k => exact .slice (one h k) hn hc hm
  | empty h =>
    cases h0 with
    | slice k _ _ _ => exact .empty k
    | empty k => exact .empty k
  | nilMap => exact .nilMap
  | map h => cases h0 with | map k => exact .map (one h k)
  | chan h => cases h0 with | chan k => exact .chan (one h k)
  | nilFunc => exact .nilFunc
  | nilIface => exact .nilIface
  | iface t _ ih => cases h0 with | iface _ h0 => exact .iface t (ih h0)
  | func fn hs _ ih =>
    refine .func fn hs fun i h₁ h₂ => ?_
    cases h0 with
    | func _ hs0 h0 => exact ih i h₁ h₂ (h0 i h₁ (by omega))
    | bound _ hs0 h0 => exact absurd h₁ (Nat.not_lt_zero i)
  | bound fn hs _ ih =>
    refine .bound fn hs fun i h₁ h₂ => ?_
    cases h0 with
    | bound _ hs0 h0 => exact ih i h₁ h₂ (h0 i h₁ (by omega))
    | func _ hs0 h0 => exact absurd h₁ (Nat.not_lt_zero i)
  | agg hs _ ih => cases h0 with | agg hs0 h0 => exact .agg hs fun i h₁ h₂ => ih i h₁ h₂ (h0 i h₁ (by omega))
  | tuple hs _ ih => cases h0 with | tuple hs0 h0 => exact .tuple hs fun i h₁ h₂ => ih i h₁ h₂ (h0 i h₁ (by omega))

theorem Sim.drop {P : Program} {B : Nat} {w0 : World} {ρ ρ' : Place} {H H' : GHeap} {w w' : World} (h : Sim P B w0 ρ' H' w') (h0 : Sim P B w0 ρ H w) (he : Ext ρ ρ') (hle : H.Le H') :
    Sim P B w0 ρ H w' := by
  refine ⟨h0.dom, fun g o hg => ?_, fun g g' o o' s s' h1 h2 h3 h4 h5 h6 h7 => ?_, h.base, h.below⟩
  · have hold := h0.live g o hg
    have hnew := h.live g o (hle.2 g o hg)
    cases o with
    | row cells elem own =>
      obtain ⟨s, C, fz, h1, h2, h3, h4, h5, h6⟩ := hnew
      obtain ⟨s0, C0, fz0, k1, k2, k3, k4, k5, k6⟩ := hold
      obtain rfl : s = s0 := by have := he _ _ k1; rw [h1] at this; exact Option.some.inj this
      refine ⟨s, C, fz, k1, h2, h3, h4, fun i v hv => ?_, h6⟩
      obtain ⟨c, hc, hr⟩ := h5 i v hv
      obtain ⟨c0, _, hr0⟩ := k5 i v hv
      exact ⟨c, hc, hr.back he hr0⟩
    | map es =>
      obtain ⟨s, E, cl, h1, h2, h3, h4, h5⟩ := hnew
      obtain ⟨s0, E0, cl0, k1, k2, k3, k4, k5⟩ := hold
      obtain rfl : s = s0 := by have := he _ _ k1; rw [h1] at this; exact Option.some.inj this
      refine ⟨s, E, cl, k1, h2, h3, h4, fun i k v hv => ?_⟩
      obtain ⟨e, h6, h7, h8⟩ := h5 i k v hv
      obtain ⟨e0, _, k7, k8⟩ := k5 i k v hv
      exact ⟨e, h6, h7.back he k7, h8.back he k8⟩
    | oth R _ b =>
      obtain ⟨s, x, h1, h2, h3, h4⟩ := hnew
      obtain ⟨s0, x0, k1, k2, k3, k4⟩ := hold
      obtain rfl : s = s0 := by have := he _ _ k1; rw [h1] at this; exact Option.some.inj this
      exact ⟨s, x, k1, h2, h3, b _ _ _ _ _ he h4 k4⟩
  · exact h.apart g g' o o' s s' (hle.2 _ _ h1) (hle.2 _ _ h2) h3 h4 h5 (he _ _ h6) (he _ _ h7)
end Go.GL
namespace Go.GL
def kvT (t : List Int) : Value := .agg (t.map (Value.int .i64)).toArray
structure KeyT (P : Program) (k : TypeId) (n : Nat) : Prop where
  st : ∃ fs, P.underlying k = some (.struct fs)
  eq : ∀ s t : List Int, s.length = n → t.length = n → ∀ w, (Op.equal k (kvT s) (kvT t)).run P w = .ok (s == t) w
  ck : ∀ (b : Bool) (s : List Int), s.length = n → ∀ w, (Instr.checkKey b 10000 k (kvT s)).run P w = .ok () w
end Go.GL
namespace Go.GL
open Go.RowKit

abbrev Slots := List (Nat × Option Value)

def Slots.get : Slots → Nat → Option Value
  | [], _ => none
  | (s, v) :: r, t => bif Nat.beq s t then v else Slots.get r t

def ev (fr : Slots) : Operand → Option Value
  | .tmp t => Slots.get fr t
  | .const v => bif flat v then some v else none
  | .func f => some (.func (.func f) #[] #[])
  | .global _ => none

def evs (fr : Slots) : List Operand → Option (List Value)
  | [] => some []
  | x :: r => match ev fr x with
    | none => none
    | some v => match evs fr r with
      | none => none
      | some vs => some (v :: vs)

def fieldOff (P : Program) (s : TypeId) (f : Nat) : Option Nat :=
  match P.underlying s with
  | some (.struct fs) => match fs[f]? with
    | some fd => match P.info? fd.type with
      | some i => if i.size = 0 then none else some fd.offset
      | none => none
    | none => none
  | _ => none
def oneT (P : Program) (t : TypeId) : Bool :=
  match P.underlying t with
  | some (.struct _) | some (.array ..) | none => false
  | _ => true
def aggT (P : Program) (t : TypeId) : Option Nat :=
  match P.underlying t with
  | some (.struct _) | some (.array ..) => (P.info? t).map (·.size)
  | _ => none
def sliceT (P : Program) (t : TypeId) : Option (TypeId × Nat) :=
  match P.underlying t with
  | some (.slice e) => (P.info? e).map fun i => (e, i.size)
  | _ => none
def isStringT (P : Program) (t : TypeId) : Bool := match P.underlying t with | some .string => true | _ => false
theorem oneT_run {P : Program} {t : TypeId} (h : oneT P t = true) (w : World) : (isAgg t).run P w = .ok false w := by
  unfold oneT at h
  cases hu : P.underlying t with
  | none => simp [hu] at h
  | some d =>
    simp only [isAgg, Sem.run_bind, run_underlying hu, Result.andThen_ok]
    rw [hu] at h
    cases d <;> first | rfl | (simp at h)
theorem aggT_run {P : Program} {t : TypeId} {n : Nat} (h : aggT P t = some n) (w : World) : (isAgg t).run P w = .ok true w ∧ (sizeOf t).run P w = .ok n w := by
  unfold aggT at h
  split at h
  · rename_i hu
    simp only [Option.map_eq_some_iff] at h
    obtain ⟨i, hi, rfl⟩ := h
    exact ⟨by simp [isAgg, run_underlying hu], by simp [sizeOf, typeInfo, hi]⟩
  · rename_i hu
    simp only [Option.map_eq_some_iff] at h
    obtain ⟨i, hi, rfl⟩ := h
    exact ⟨by simp [isAgg, run_underlying hu], by simp [sizeOf, typeInfo, hi]⟩
  · cases h
theorem sliceT_run {P : Program} {t e : TypeId} {n : Nat} (h : sliceT P t = some (e, n)) : P.underlying t = some (.slice e) ∧ ∃ i, P.info? e = some i ∧ i.size = n := by
  unfold sliceT at h
  split at h
  · rename_i hu
    simp only [Option.map_eq_some_iff, Prod.mk.injEq] at h
    obtain ⟨i, hi, rfl, rfl⟩ := h
    exact ⟨hu, i, hi, rfl⟩
  · cases h
theorem isStringT_run {P : Program} {t : TypeId} (h : isStringT P t = true) : P.underlying t = some .string := by
  unfold isStringT at h
  split at h
  · assumption
  · cases h
theorem fieldOff_run {P : Program} {s : TypeId} {f k : Nat} (h : fieldOff P s f = some k) :
    ∃ fs fd i, P.underlying s = some (.struct fs) ∧ fs[f]? = some fd ∧ P.info? fd.type = some i ∧ i.size ≠ 0 ∧ fd.offset = k := by
  unfold fieldOff at h
  split at h
  · rename_i fs hu
    split at h
    · rename_i fd hf
      split at h
      · rename_i i hi
        split at h
        · cases h
        · rename_i h0
          exact ⟨fs, fd, i, hu, hf, hi, h0, Option.some.inj h⟩
      · cases h
    · cases h
  · cases h

def cmpI : BinOp → Int → Int → Option Bool
  | .eql, a, b => some (a == b)
  | .neq, a, b => some (a != b)
  | .lss, a, b => some (decide (a < b))
  | .leq, a, b => some (decide (a ≤ b))
  | .gtr, a, b => some (decide (a > b))
  | .geq, a, b => some (decide (a ≥ b))
  | _, _, _ => none
def arithI : BinOp → IntKind → Int → Int → Option Int
  | .add, k, a, b => some (k.wrap (a + b))
  | .sub, k, a, b => some (k.wrap (a - b))
  | .mul, k, a, b => some (k.wrap (a * b))
  | _, _, _, _ => none
def buildT (P : Program) (t : TypeId) : Option (List Value × List (Nat × Nat)) :=
  match P.underlying t, (P.info? t).bind (·.zero) with
  | some (.struct fs), some z => (fs.toList.mapM fun (f : Field) => (P.info? f.type).map fun (i : TypeInfo) => (f.offset, i.size)).map fun ps => (z.cells.toList, ps)
  | _, _ => none
def setAll : List Value → Nat → List Value → List Value
  | cs, _, [] => cs
  | cs, o, v :: r => setAll (cs.set o v) (o + 1) r
def fillL (places : Nat → Option (Nat × Nat)) : List Value → List (Nat × Value) → Option (List Value)
  | cs, [] => some cs
  | cs, (i, v) :: r =>
    match places i with
    | none => none
    | some (off, size) => bif Nat.beq v.cells.size size && Nat.ble (off + v.cells.size) cs.length then fillL places (setAll cs off v.cells.toList) r else none

inductive MStep (P : Program) (fr : Slots) (H : GHeap) : Op → Value → Prop
  | move {x : Operand} {v : Value} (h : ev fr x = some v) : MStep P fr H (.move x) v
  | assign {x : Operand} {v : Value} (h : ev fr x = some v) : MStep P fr H (.assign x) v
  | pickT {c a b : Operand} {v : Value} (hc : ev fr c = some (.bool true)) (h : ev fr a = some v) : MStep P fr H (.pick c a b) v
  | pickF {c a b : Operand} {v : Value} (hc : ev fr c = some (.bool false)) (h : ev fr b = some v) : MStep P fr H (.pick c a b) v
  | nilCheck {x : Operand} {a : Addr} (h : ev fr x = some (.pointer (some a))) : MStep P fr H (.nilCheck x) (.pointer (some a))
  | fieldAddr {s : TypeId} {x : Operand} {f g o k : Nat} (hk : fieldOff P s f = some k) (h : ev fr x = some (.pointer (some ⟨g, o, none⟩))) : MStep P fr H (.fieldAddr s x f) (.pointer (some ⟨g, o + k, none⟩))
  | load {t : TypeId} {x : Operand} {g o : Nat} {v : Value} (ht : oneT P t = true) (h : ev fr x = some (.pointer (some ⟨g, o, none⟩))) (hc : H.cell g o = some v) : MStep P fr H (.load t x) v
  | loadN {t : TypeId} {x : Operand} {g o n : Nat} {vs : List Value} (ht : aggT P t = some n) (h : ev fr x = some (.pointer (some ⟨g, o, none⟩))) (hn : vs.length = n) (hc : ∀ i v, vs[i]? = some v → H.cell g (o + i) = some v) :
      MStep P fr H (.load t x) (.agg vs.toArray)
  | indexAddr {t e : TypeId} {x i : Operand} {g o n sz : Nat} {k : IntKind} {j : Int} (ht : sliceT P t = some (e, sz)) (h : ev fr x = some (.slice (some ⟨g, o, none⟩) n n)) (hi : ev fr i = some (.int k j)) (h0 : 0 ≤ j) (h1 : j < n) :
      MStep P fr H (.indexAddr t x i) (.pointer (some ⟨g, o + j.toNat * sz, none⟩))
  | len {t e : TypeId} {x : Operand} {a : Option Addr} {n sz : Nat} (ht : sliceT P t = some (e, sz)) (h : ev fr x = some (.slice a n n)) : MStep P fr H (.call { callee := .builtin .len, args := #[x], argTypes := #[t] }) (.int .i64 n)
  | cmp {op : BinOp} {t u : TypeId} {x y : Operand} {k : IntKind} {a b : Int} {r : Bool} (hx : ev fr x = some (.int k a)) (hy : ev fr y = some (.int k b)) (hr : cmpI op a b = some r) : MStep P fr H (.binOp op t x y u) (.bool r)
  | arith {op : BinOp} {t u : TypeId} {x y : Operand} {k : IntKind} {a b r : Int} (hx : ev fr x = some (.int k a)) (hy : ev fr y = some (.int k b)) (hr : arithI op k a b = some r) : MStep P fr H (.binOp op t x y u) (.int k r)
  | aggNe {t u : TypeId} {x y : Operand} {as bs : Array Value} {r : Bool} (hg : P.eqGuardType P.depth t = false) (hx : ev fr x = some (.agg as)) (hy : ev fr y = some (.agg bs)) (ha : flat (.agg as) = true) (hb : flat (.agg bs) = true)
      (hr : ∀ w, (Op.equal t (.agg as) (.agg bs)).run P w = .ok r w) : MStep P fr H (.binOp .neq t x y u) (.bool !r)
  | not {t : TypeId} {x : Operand} {b : Bool} (h : ev fr x = some (.bool b)) : MStep P fr H (.unOp .not t x) (.bool !b)
  | build {t : TypeId} {parts : Array (Nat × Operand)} {z : List Value} {ps : List (Nat × Nat)} {vs : List Value} {cs : List Value} (ht : buildT P t = some (z, ps)) (hz : z.all flat1 = true)
      (hv : evs fr (parts.toList.map (·.2)) = some vs) (hc : fillL (ps[·]?) z ((parts.toList.map (·.1)).zip vs) = some cs) : MStep P fr H (.build t parts) (.agg cs.toArray)
  | extract {x : Operand} {ix : Nat} {vs : Array Value} {v : Value} (h : ev fr x = some (.tuple vs)) (hv : vs[ix]? = some v) : MStep P fr H (.extract x ix) v

end Go.GL
