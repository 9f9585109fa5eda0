/- Shadow, part 19: single operations, calls, rounds, ranges over functions: what is to be shown. -/
import Derived.Test.YteoefjahcbfpeaaShR
namespace Go.Sh
open Go

section
variable {K : Ctx}

/-- An operation that calls nobody. -/
def evB (P : Program) (o : Op) (ρ : Operand → Value) (A : AHeap) : Option (Value × AHeap) :=
  match aPure P o ρ with
  | some v => some (v, A)
  | none =>
    match aRead P A o ρ with
    | some v => some (v, A)
    | none => aEff P A o ρ

def isCallV : Op → Bool
  | .call { callee := .value _, .. } => true
  | _ => false

theorem evOp_b {r : Rec} {o : Op} (h : isCallV o = false) {e : Env} {A : AHeap} : evOp K r o e A = if o.operands.toList.all okOpd then evB K.P o (opv e) A else none := by
  unfold evOp
  split
  · split
    · simp [isCallV] at h
    · rfl
  · rfl

theorem OpW_b {o : Op} (h : isCallV o = false) {e : Env} {A : AHeap} {Q : Value → AHeap → Prop} : OpW K o e A Q ↔ o.operands.toList.all okOpd = true ∧ ∃ v A', evB K.P o (opv e) A = some (v, A') ∧ Q v A' := by
  unfold OpW
  constructor
  · rintro ⟨n, v, A', h1, hq⟩
    rw [evOp_b h] at h1
    split at h1
    · rename_i hok; exact ⟨hok, v, A', h1, hq⟩
    · cases h1
  · rintro ⟨hok, v, A', h1, hq⟩
    exact ⟨0, v, A', by rw [evOp_b h, if_pos hok]; exact h1, hq⟩

/-- What looks at no memory. -/
theorem OpW_pure {o : Op} {e : Env} {A : AHeap} {Q : Value → AHeap → Prop} {v : Value} (h : isCallV o = false) (hok : o.operands.toList.all okOpd = true) (hv : aPure K.P o (opv e) = some v) (hq : Q v A) : OpW K o e A Q :=
  (OpW_b h).2 ⟨hok, v, A, by simp only [evB, hv], hq⟩

theorem OpW_call {f : Operand} {xs : Array Operand} {tys : Array TypeId} {e : Env} {A : AHeap} {Q : Value → AHeap → Prop} :
    OpW K (.call { callee := .value f, args := xs, argTypes := tys }) e A Q ↔ (Op.call { callee := .value f, args := xs, argTypes := tys }).operands.toList.all okOpd = true ∧ CalV K (opv e f) (xs.map (opv e)) A Q := by
  unfold OpW CalV evOp
  constructor
  · rintro ⟨n, v, A', h1, hq⟩
    split at h1
    · rename_i hok; exact ⟨hok, n, v, A', h1, hq⟩
    · cases h1
  · rintro ⟨hok, n, v, A', h1, hq⟩
    exact ⟨n, v, A', by rw [if_pos hok]; exact h1, hq⟩

theorem CalV_func {g : FuncId} {fs cs as : Array Value} {A : AHeap} {Q : Value → AHeap → Prop} : CalV K (.func (.func g) fs cs) as A Q ↔ CalF K g (fs ++ as ++ cs) A Q := Iff.rfl
theorem CalV_yield {l : Nat} {fs cs as : Array Value} {A : AHeap} {Q : Value → AHeap → Prop} : CalV K (.func (.yield l) fs cs) as A Q ↔ Rnd K l (fs ++ as) A Q := Iff.rfl

theorem CalF_cal {g : FuncId} {as : Array Value} {A : AHeap} {Q : Value → AHeap → Prop} (h : K.prim g as A = none) : CalF K g as A Q ↔ Cal K g as A Q := by
  unfold CalF Cal callF
  rw [h]
theorem CalF_prim {g : FuncId} {as : Array Value} {A A' : AHeap} {v : Value} {Q : Value → AHeap → Prop} (h : K.prim g as A = some (v, A')) (hq : Q v A') : CalF K g as A Q :=
  ⟨0, v, A', by unfold callF; rw [h], hq⟩

/-- What a function's end hands back. -/
def Ret (K : Ctx) (rs : List ResultVar) (Q : Value → AHeap → Prop) (_ : Hold Q := ()) : AExit → Env → AHeap → Prop
  | .exit _, _, _ => False
  | _, e, A => ∃ vs, aResults K A e rs = some vs ∧ Q (oneOr vs) A

def argEnv (as : Array Value) : Env := fun t => as.getD t undef

theorem Cal_of {g : FuncId} {fn : Func} {c : Code} {as : Array Value} {A : AHeap} {Q : Value → AHeap → Prop} {nt : Nat} {rs : List ResultVar} (hf : K.funcs g = some fn) (hb : fn.body = some c)
    (hn : fn.ntmps = nt) (hrs : fn.results.toList = rs) (hs : as.size ≤ nt) (h : Cod K c nt (argEnv as) A (Ret K rs Q)) : Cal K g as A Q := by
  subst hn; subst hrs
  obtain ⟨n, x, e', A', h, hq⟩ := h
  cases x with
  | exit id => exact hq.elim
  | normal =>
    obtain ⟨vs, h1, h2⟩ := hq
    exact ⟨n + 1, oneOr vs, A', by simp only [rec, stepRec, hf, hb, hs, if_true]; unfold argEnv at h; rw [h]; simp [h1], h2⟩
  | ret =>
    obtain ⟨vs, h1, h2⟩ := hq
    exact ⟨n + 1, oneOr vs, A', by simp only [rec, stepRec, hf, hb, hs, if_true]; unfold argEnv at h; rw [h]; simp [h1], h2⟩

/-! ### Rounds -/

def Rd2 (l : Nat) (Q : Value → AHeap → Prop) : AExit → Env → AHeap → Prop
  | x, _, A => ∃ lo, getLoopA A l = some lo ∧ Q (.bool x.jump.isNone) (A.set l (.loop { lo with state := if x.jump.isNone then .ready else .done, pending := x.jump }))

def Rd1 (K : Ctx) (l : Nat) (body : Code) (nt : Nat) (Q : Value → AHeap → Prop) : AExit → Env → AHeap → Prop
  | .normal, e, A => ∃ lo, getLoopA A l = some lo ∧ lo.state = .ready ∧ Cod K body nt e (A.set l (.loop { lo with state := .busy })) (Rd2 l Q)
  | _, _, _ => False

theorem Rnd_of {l : Nat} {lo : ALoop} {as : Array Value} {A : AHeap} {Q : Value → AHeap → Prop} {e1 : Env} (hl : getLoopA A l = some lo) (hs : as.size = lo.params.size)
    (hb : bindAll lo.nt lo.env lo.params.toList as.toList = some e1) (h : Cod K lo.assign lo.nt e1 A (Rd1 K l lo.body lo.nt Q)) : Rnd K l as A Q := by
  obtain ⟨n, x, e2, A2, h, hq⟩ := h
  cases x with
  | exit id => exact hq.elim
  | ret => exact hq.elim
  | normal =>
    obtain ⟨lo2, h1, h2, k, x, e4, A4, h3, lo4, h4, h5⟩ := hq
    refine ⟨max n k + 1, _, _, ?_, h5⟩
    have i1 := (rec_le (K := K) (Nat.le_max_left n k)).code _ _ _ _ _ h
    have i3 := (rec_le (K := K) (Nat.le_max_right n k)).code _ _ _ _ _ h3
    simp only [rec, stepRec, hl, hs, if_true, hb, i1, h1, h2, i3, h4]

/-- Behind a range over a function. -/
def Rng (l : Nat) (e : Env) (Q : AExit → Env → AHeap → Prop) : Value → AHeap → Prop := fun _ A2 =>
  ∃ lo, getLoopA A2 l = some lo ∧ lo.state ≠ .busy ∧
    (match lo.pending with
    | none => Q .normal e (A2.set l (.loop { lo with state := .exhausted }))
    | some .ret => Q .ret e (A2.set l (.loop { lo with state := .exhausted }))
    | some (.exit id) => Q (.exit id) e (A2.set l (.loop { lo with state := .exhausted }))
    | _ => False)

theorem Cod_rangeFunc {f : Operand} {ps : Array Tmp} {assign body : Code} {nt : Nat} {e : Env} {A : AHeap} {Q : AExit → Env → AHeap → Prop} {g : FuncId} {fs cs : Array Value} (hok : okOpd f = true)
    (hf : opv e f = .func (.func g) fs cs) (h : Cal K g (fs ++ #[.func (.yield A.next) #[] #[]] ++ cs) (A.alloc (.loop ⟨.ready, none, e, nt, ps, assign, body⟩)) (Rng A.next e Q)) :
    Cod K (.rangeFunc f ps assign body) nt e A Q := by
  obtain ⟨n, v, A2, h, lo, h1, h2, h3⟩ := h
  split at h3
  · rename_i hp
    exact ⟨n + 1, .normal, e, _, by simp only [rec, stepRec, hok, hf, if_true, h, h1, h2, if_false, hp], h3⟩
  · rename_i hp
    exact ⟨n + 1, .ret, e, _, by simp only [rec, stepRec, hok, hf, if_true, h, h1, h2, if_false, hp], h3⟩
  · rename_i id hp
    exact ⟨n + 1, .exit id, e, _, by simp only [rec, stepRec, hok, hf, if_true, h, h1, h2, if_false, hp], h3⟩
  · exact h3.elim

/-! ### Regions that draw -/

theorem aEff_none {P : Program} {o : Op} (hc : isCallV o = false) (h : kindS P o ≠ 3) (A : AHeap) (ρ : Operand → Value) : aEff P A o ρ = none := by
  cases o with
  | call c =>
    obtain ⟨cal, xs, tys⟩ := c
    cases cal with
    | value f => simp [isCallV] at hc
    | builtin b => cases b <;> first | (simp [kindS] at h; done) | (simp only [aEff]; done) | (simp only [aEff]; split <;> simp_all)
    | _ => simp [aEff]
  | convert s d x =>
    simp only [aEff, aStrBytes]
    split
    · rename_i e str hs hd hx
      exact absurd (by simp [kindS, hd]) h
    · rfl
  | _ => first | rfl | (simp [kindS] at h; done)

theorem aRead_none {P : Program} {o : Op} (h : kindS P o = 1) (A : AHeap) (ρ : Operand → Value) : aRead P A o ρ = none := by
  cases o with
  | convert s d x => simp only [kindS] at h; split at h <;> cases h
  | _ => first | rfl | (simp [kindS] at h; done)

theorem evK_eq {r : Rec} {o : Op} {e : Env} {A : AHeap} : evK K r o e A = evOp K r o e A := by
  unfold evK
  split
  · rfl
  · rename_i hk
    have hcall : isCallV o = false := by
      cases o with
      | call c =>
        obtain ⟨cal, xs, tys⟩ := c
        cases cal with
        | value f => simp [kindS] at hk
        | _ => rfl
      | _ => rfl
    rw [evOp_b hcall]
    split
    · unfold evB
      rw [aEff_none hcall hk]
      split
      · rename_i h1
        rw [aRead_none h1]
        cases aPure K.P o (opv e) <;> rfl
      · unfold evPR
        cases aPure K.P o (opv e) with
        | some v => rfl
        | none => cases aRead K.P A o (opv e) <;> rfl
    · rfl

theorem evTrace_ops {r : Rec} {ops : Array Oper} {nt : Nat} : ∀ (rest : List Oper) (e : Env) (A : AHeap), (evTrace K r ops nt rest e A).map (·.2) = evOps K r ops nt rest e A := by
  intro rest
  induction rest with
  | nil => intro e A; rfl
  | cons o rest ih =>
    intro e A
    simp only [evTrace, evOps, evK_eq]
    split
    · cases evOp K r o.op e A with
      | none => rfl
      | some x =>
        obtain ⟨v, A1⟩ := x
        simp only
        cases putD nt e o.dst v with
        | none => rfl
        | some e1 =>
          simp only [← ih e1 A1]
          cases evTrace K r ops nt rest e1 A1 with
          | none => rfl
          | some x => rfl
    · cases putD nt e o.dst undef with
      | none => rfl
      | some e1 =>
        simp only [← ih e1 A]
        cases evTrace K r ops nt rest e1 A with
        | none => rfl
        | some x => rfl

/-- A region that draws, of which no reading operation's place is open. -/
theorem Cod_draw {id : Nat} {ops : Array Oper} {nt : Nat} {e : Env} {A : AHeap} {Q : AExit → Env → AHeap → Prop} (hd : drawOk K.P ops = true) (ho : openPairs K.P ops = []) :
    Cod K (.region id ops true) nt e A Q ↔ Ops K ops nt ops.toList e A (Q .normal) := by
  have key : ∀ r : Rec, evDraw K r ops nt e A = evOps K r ops nt ops.toList e A := by
    intro r
    rw [← evTrace_ops]
    unfold evDraw
    rw [if_pos hd]
    cases evTrace K r ops nt ops.toList e A with
    | none => rfl
    | some x => obtain ⟨T, eN, AN⟩ := x; simp [ho]
  constructor
  · rintro ⟨n, x, e', A', h, hq⟩
    cases n with
    | zero => simp [rec] at h
    | succ n =>
      simp only [rec, stepRec, if_true] at h
      rw [key] at h
      split at h
      · rename_i e1 A1 h1
        simp only [Option.some.injEq, Prod.mk.injEq] at h
        obtain ⟨rfl, rfl, rfl⟩ := h
        exact ⟨n, _, _, h1, hq⟩
      · cases h
  · rintro ⟨n, e', A', h, hq⟩
    refine ⟨n + 1, .normal, e', A', ?_, hq⟩
    simp only [rec, stepRec, if_true]
    rw [key, h]
end
end Go.Sh
