/- Shadow, part 23: contracts from nothing: what gives its argument back; closed calls. -/
import Derived.Test.YteoefjahcbfpeaaShQ
namespace Go.Sh
open Go

theorem says_back {P : Program} {g : FuncId} {fn : Func} (hf : P.funcs[g]? = some fn) (hname : (fn.name == "runtime.NumGoroutine") = false) (hb : fn.body.isNone = true) (hn : Extern.findNext fn = none)
    (he : Extern.find fn = some Extern.AbiNoEscape.same) {m : Map} {A : AHeap} {W : World} {args args' : Array Value} (hS : Sim P m A W) (ha : ARel m args args') (hs : args.size = 1) :
    PrimSays P m A W A (args.getD 0 undef) g args' := by
  have h1 := ha.size
  have h2 : args[0]? = some (args.getD 0 undef) := by simp [Array.getD, hs]
  have h3 : args'[0]? = some (args'.getD 0 undef) := by simp [Array.getD, ← h1, hs]
  refine .inl ⟨args'.getD 0 undef, m, W, ?_, ha.at 0 _ _ h2 h3, hS, Step.refl m A W⟩
  obtain ⟨x, hx⟩ : ∃ x, args' = #[x] := by
    obtain ⟨l⟩ := args'
    match l, h1 with
    | [], h => simp [hs] at h
    | [x], _ => exact ⟨x, rfl⟩
    | _ :: _ :: _, h => simp [hs] at h
  subst hx
  rw [run_callFunc_extern hf hname hb hn he]
  rfl

def A00 : AHeap := ⟨.nil, 0⟩
theorem get_A00 (b : Nat) : A00.get b = none := rfl
theorem sim_A00 (P : Program) (W : World) : Sim P (fun _ => none) A00 W :=
  ⟨(by intro b en h; cases h), (by intro b en h; cases h), (by intro b en r h; cases h), (by intro b en l h; cases h), (by intro b en o b' en' o' h; cases h)⟩

theorem says_closed {K0 : Ctx} (hK0 : CtxOK K0) {n : Nat} {g : FuncId} {A1 : AHeap} {b : Bool} (h : (rec K0 n).call g #[] A00 = some (.bool b, A1)) {m : Map} {A : AHeap} {W : World} (hS : Sim K0.P m A W) :
    PrimSays K0.P m A W A (.bool b) g #[] := by
  obtain ⟨h1, h2⟩ := (recOK_all hK0 n).call g #[] A00 _ A1 h (fun _ => none) #[] W (sim_A00 _ W) ⟨rfl, fun i v v' hv => by simp at hv⟩
  refine .inr ⟨h1, h2.mono ?_⟩
  rintro en w' ⟨v', m', rfl, hv, _, hst⟩
  cases hv
  have hg : ∀ c, c < W.heap.size → w'.heap[c]? = W.heap[c]? := fun c hc => hst.frame c hc fun b en o h => (by cases h)
  refine ⟨.bool b, m, rfl, .bool b, ?_, ?_⟩
  · refine ⟨hS.dom, fun b en hb => Nat.lt_of_lt_of_le (hS.lt b en hb) hst.size, fun b en r hb hr h0 => ?_, fun b en l hb hl => ?_, hS.own⟩
    · obtain ⟨cs, fr, ⟨te, k1, hte⟩, k2⟩ := hS.row b en r hb hr h0
      exact ⟨cs, fr, ⟨te, by rw [hg _ (hS.lt b en hb)]; exact k1, hte⟩, k2⟩
    · obtain ⟨lo, k1, k2⟩ := hS.loop b en l hb hl
      exact ⟨lo, by rw [hg _ (hS.lt b en hb)]; exact k1, k2⟩
  · exact ⟨Map.le.refl m, Nat.le_refl _, hst.size, hst.tape, hst.os, hst.output, fun c hc _ => hg c hc, fun b en hb _ => ⟨b, en, hb, rfl⟩, fun b en o hb ho hw _ => ⟨b, en, o, hb, ho, hw, rfl⟩, hst.loops⟩
end Go.Sh
