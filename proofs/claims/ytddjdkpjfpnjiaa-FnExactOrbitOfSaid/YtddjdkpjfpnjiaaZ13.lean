/- The call of a law whose code starts goroutines. No condition. -/
import Derived.Test.YtddjdkpjfpnjiaaZ12
import Derived.Conc.LeavingOf
set_option linter.unusedSectionVars false
namespace Go.GL
open Go.RowKit Go.WideShapes Go.ChangeShapes Go.Deep Go.Conc
variable [MainFlag]
theorem law_goods {P : Program} {f : FuncId} {fn : Func} {ts : List TypeId} {tb : TypeId} {R : GHeap → List Value → Prop} (hm : MainFlag.main = true) (hin : P.inits.idxOf? f = none) (hI : ImpAll P ts R) (hp : fn.params = ts.toArray)
    (hc : ∀ H gs, R H gs → GCalls P f gs H fun v _ => v = .bool true)
    {T : Type} {enc : TypeId × Value → T} {W : World} {base : Nat} {args : Array Value} {s : ChangeSpec} {apart fresh handsOn again : Bool} {ds gs : List (DataW T)} {before : List MemPlace}
    (hval : ∀ (j : Nat) t v, fn.params[j]? = some t → args[j]? = some v → Value.okWide P W .any base t v)
    (hW : DataW.Whole enc P fn.params.toList s.vars apart W args.toList ds gs before)
    (hl : laidOutB P = true) (hr : readB P fn.params.toList = true) (hv : s.vars = []) (hrt : fn.resultTypes = #[tb]) (htb : P.underlying tb = some .bool)
    (hs : ∀ ds : List (DataW T), ds.length = ts.length → (s.fn T ds).results = [.lit (.bool true)] ∧ (s.fn T ds).args = ds ∧ (s.fn T ds).vars = []) :
    ∃ M last o w' t', runNT P (M + 1) (solo (G (Frame.enter P f args .normal) []) W) #[] = (.ended o w', t') ∧ runN P M (solo (G (Frame.enter P f args .normal) []) W) = .next last ∧
      step P last = .ended o w' ∧ Conc.Good P (fun v W' => s.post enc P fn apart fresh handsOn again W args v W') last o w' t' := by
  have hWW := hW
  obtain ⟨p, q, hA, _⟩ := hW
  rw [hp] at hA
  obtain ⟨hlen, ρ, H, gs', hs', _, _, hrel, hR⟩ := hI.imp (base := base) (Sim.start P W) (Nat.le_refl _) (by simpa using hA) (fun j t v ht hj => hval j t v (by rw [hp]; simpa using ht) (by simpa using hj))
  have hcall := (hc H gs' hR) _ _ ρ args.toList W hs' hrel
  rw [Array.toArray_toList] at hcall
  have hg := hcall true (Goods P fun v W' => s.post enc P fn apart fresh handsOn again W args v W') (goods_closed _ hm) [] fun fr v w' hQ hfn hl' => by
    obtain ⟨_, c, ρ', _, he, hv', _, hsim, hrv⟩ := hQ
    subst hv'
    cases hrv
    cases he
    obtain ⟨hmode, hd, hk, fn', hf, hres⟩ := hl'
    refine goods_end rfl (v := .bool true) (fun d => ⟨seen P fr.fn ((results fn' fr.tmps).events P (w'.at d) #[]), ?_, fun e he => calm_results.events _ _ #[] calmA_nil e (mem_seen he)⟩) fun d => law_post hl hr hv hrt htb hWW (hs ds hlen).1 (hs ds hlen).2.1 (hs ds hlen).2.2 (hsim.at d).below
    simp [G, stepG, unwind, doReturn, hmode, hd, hk, hf, hres d, GStep.after, hfn ▸ hin]
  exact hg W.drawn #[G (Frame.enter P f args .normal) []] none #[] (fun _ => 0) rfl ⟨fun i g hi hgi => by
    match i with
    | 0 => exact absurd rfl hi
    | _ + 1 => simp at hgi, fun _ => rfl⟩ old_nil
end Go.GL
