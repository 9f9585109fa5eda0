/- Shadow, part 14: one operation of the abstract machine, and of the model. -/
import Derived.Test.YteoefjahcbfpeaaShM
import Derived.TacticsIn
namespace Go.Sh
open Go

/-- The widest fence; within a round or not. -/
def FW (rd : Option Nat) : Fence := { Fence.wide with round := rd }

theorem FW_fn (rd : Option Nat) (f : FuncId) : (FW rd).fn f := trivial
theorem FW_depth (rd : Option Nat) : ((FW rd).depth.isSome = true) = False := by simp [FW, Fence.wide]

/-- The marks of ranges over functions among the deferred calls: blocks of which nobody knows. -/
def Marks (lo : Nat) (m : Map) (W : World) : List Deferred → Prop
  | [] => True
  | d :: ds => (∃ D, d.target = .collected D ∧ W.heap[D]? = some (.deferred (some [])) ∧ Free m D ∧ lo ≤ D ∧ (∀ d' ∈ ds, d'.target ≠ .collected D)) ∧ Marks lo m W ds

theorem Marks.step {lo : Nat} {m m' : Map} {A A' : AHeap} {W W' : World} (h : Step m A W m' A' W') : ∀ {ds : List Deferred}, Marks lo m W ds → Marks lo m' W' ds
  | [], _ => trivial
  | d :: ds, ⟨⟨D, h1, h2, h3, h4⟩, hr⟩ => by
    obtain ⟨f1, f2⟩ := h.free h3 (lt_of_get h2)
    exact ⟨⟨D, h1, by rw [f2]; exact h2, f1, h4⟩, hr.step h⟩

theorem Marks.drew {lo : Nat} {m : Map} {W : World} (n : Nat) : ∀ {ds : List Deferred}, Marks lo m W ds → Marks lo m { W with drawn := n } ds
  | [], _ => trivial
  | _ :: _, ⟨⟨D, h1, h2, h3, h4⟩, hr⟩ => ⟨⟨D, h1, h2, h3, h4⟩, hr.drew n⟩

def RdOK (W : World) (rd : Option Nat) : Prop := ∀ l, rd = some l → ∃ lo, W.heap[l]? = some (.loop lo)
theorem RdOK.step {m m' : Map} {A A' : AHeap} {W W' : World} (h : Step m A W m' A' W') {rd : Option Nat} (hr : RdOK W rd) : RdOK W' rd :=
  fun l e => let ⟨lo, x⟩ := hr l e; h.loops l lo x

/-- The state of an activation. -/
structure St (P : Program) (lo : Nat) (m : Map) (nt : Nat) (e : Env) (A : AHeap) (a : Act) (W : World) (rd : Option Nat) : Prop where
  sim : Sim P m A W
  env : ERel m nt e a.tmps
  marks : Marks lo m W a.defers
  rd : RdOK W rd
  low : lo ≤ W.heap.size

theorem ERel.opv {m : Map} {nt : Nat} {e : Env} {a : Act} (h : ERel m nt e a.tmps) {x : Operand} (hx : okOpd x = true) : VRel m (opv e x) (a.eval x) := by
  cases x with
  | tmp t => exact h.val t
  | const v => exact VRel.flat hx
  | global g => simp [okOpd] at hx
  | func f => exact VRel.flat (v := .func (.func f) #[] #[]) rfl

theorem ERel.rels {m : Map} {nt : Nat} {e : Env} {a : Act} (h : ERel m nt e a.tmps) {o : Op} (ho : o.operands.toList.all okOpd = true) : Rels m (Sh.opv e) a.eval o :=
  fun x hx => h.opv ((List.all_eq_true.1 ho) x hx)

theorem undef_rel (m : Map) : VRel m undef undef := VRel.flat (v := .tuple #[]) rfl

theorem getD_set (t : Array Value) (d i : Nat) (v : Value) (hd : d < t.size) : (t.setIfInBounds d v).getD i undef = if i = d then v else t.getD i undef := by
  simp only [Array.getD_eq_getD_getElem?, Array.getElem?_setIfInBounds]
  by_cases h : d = i
  · subst h; simp [hd]
  · simp [h, Ne.symm h]

theorem ERel.put {m : Map} {nt : Nat} {e e' : Env} {a : Act} (h : ERel m nt e a.tmps) {d : Option Tmp} {v v' : Value} (hv : VRel m v v') (hp : putD nt e d v = some e') :
    ERel m nt e' (a.put d v').tmps := by
  cases d with
  | none => simp only [putD, Option.some.injEq] at hp; subst hp; exact h
  | some d =>
    simp only [putD] at hp
    split at hp
    · rename_i hd
      simp only [Option.some.injEq] at hp
      subst hp
      refine ⟨by simp [Act.put, h.size], fun t => ?_⟩
      show VRel m (Env.put e d v t) ((a.tmps.setIfInBounds d v').getD t undef)
      rw [getD_set _ _ _ _ (by rw [h.size]; exact hd)]
      unfold Env.put
      by_cases ht : t = d
      · simp [ht, hv]
      · rw [if_neg ht, if_neg ht]; exact h.val t
    · cases hp

theorem put_defers (a : Act) (d : Option Tmp) (v : Value) : (a.put d v).defers = a.defers := by cases d <;> rfl

theorem yielded_eq {m : Map} {nt : Nat} {e : Env} {a : Act} (h : ERel m nt e a.tmps) (ops : Array Oper) (j : Nat) : yielded ops a.tmps j = yieldedA ops e j := by
  unfold yielded yieldedA
  cases hd : (ops[j]?).bind (·.dst) with
  | none => rfl
  | some d =>
    simp only [Option.bind_some]
    have hv := h.val d
    rw [Array.getD_eq_getD_getElem?] at hv
    cases ht : a.tmps[d]? with
    | none =>
      rw [ht] at hv
      simp only [Option.getD_none] at hv
      generalize e d = u at hv
      cases hv
      rfl
    | some v =>
      rw [ht] at hv
      simp only [Option.getD_some] at hv
      generalize e d = u at hv
      cases hv <;> rfl

theorem wanted_eq {m : Map} {nt : Nat} {e : Env} {a : Act} (h : ERel m nt e a.tmps) (ops : Array Oper) (o : Oper) :
    Region.wanted o (yielded ops a.tmps) = Region.wanted o (yieldedA ops e) := by
  unfold Region.wanted
  cases o.guard with
  | none => rfl
  | some g => obtain ⟨j, want⟩ := g; simp only [yielded_eq h]

/-! ### What calls come to -/

def CallPost (P : Program) (m : Map) (A : AHeap) (W : World) (A' : AHeap) (v : Value) : Ending → World → Prop :=
  fun en w' => ∃ v' m', en = .returned v' ∧ VRel m' v v' ∧ Sim P m' A' w' ∧ Step m A W m' A' w'

def AExit.exit' : AExit → Exit
  | .normal => .normal
  | .ret => .ret
  | .exit id => .exit id

def Post (P : Program) (lo : Nat) (m : Map) (A : AHeap) (W : World) (rd : Option Nat) (nt : Nat) (x : AExit) (e' : Env) (A' : AHeap) : Exit → Act → World → Prop :=
  fun ex a' w' => ex = x.exit' ∧ ∃ m', St P lo m' nt e' A' a' w' rd ∧ Step m A W m' A' w'

/-- A loop from its round's head on. -/
def LoopFrom (F : Fence) (P : Program) (c : Code) (Q : Exit → Act → World → Prop) (a : Act) (w : World) : Prop :=
  ∀ (b : Frame) (k : List Item) (cs : List Frame), b.roundOf = F.round → F.fn b.fn → F.room (cs.length + 1 + 0) →
    ∃ e a' w', Q e a' w' ∧ ArrivesIn (Machine.fenced P F) P (lone (b.atR a (.code c :: .inLoop c :: k)) cs w) b k cs e a' w'

/-- A function that is taken by a contract. -/
def PrimSays (P : Program) (m : Map) (A : AHeap) (W : World) (A' : AHeap) (v : Value) (g : FuncId) (args' : Array Value) : Prop :=
  (∃ v' m' W', (callFunc g args').run P W = .ok (.value v') W' ∧ VRel m' v v' ∧ Sim P m' A' W' ∧ Step m A W m' A' W') ∨
  ((callFunc g args').run P W = .ok (.enter g args') W ∧ CallsIn (FW none) 0 P g args' W (CallPost P m A W A' v))

structure CtxOK (K : Ctx) : Prop where
  same : ∀ a b, K.same a b = true → a = b
  follows : K.P.follows .mixedOrders = true
  funcs : ∀ g fn, K.funcs g = some fn → K.P.funcs[g]? = some fn ∧ (fn.name == "runtime.NumGoroutine") = false
  prim : ∀ g args A v A', K.prim g args A = some (v, A') → ∀ m args' W, Sim K.P m A W → ARel m args args' → PrimSays K.P m A W A' v g args'

structure RecOK (K : Ctx) (r : Rec) : Prop where
  code : ∀ c nt e A x e' A', r.code c nt e A = some (x, e', A') → ∀ lo m a W rd, St K.P lo m nt e A a W rd → c.wpIn (FW rd) 0 K.P (Post K.P lo m A W rd nt x e' A') a W
  loop : ∀ c nt e A x e' A', r.loop c nt e A = some (x, e', A') → ∀ lo m a W rd, St K.P lo m nt e A a W rd → LoopFrom (FW rd) K.P c (Post K.P lo m A W rd nt x e' A') a W
  call : ∀ g args A v A', r.call g args A = some (v, A') → ∀ m args' W, Sim K.P m A W → ARel m args args' →
    (callFunc g args').run K.P W = .ok (.enter g args') W ∧ CallsIn (FW none) 0 K.P g args' W (CallPost K.P m A W A' v)
  round : ∀ l args A v A', r.round l args A = some (v, A') → ∀ m args' W en, Sim K.P m A W → ARel m args args' → m l = some en →
    ∃ f tmps assign body, (Instr.yield en.c args').run K.P W = .ok (.round en.c f tmps assign body) W ∧ RoundIn (FW none) 0 K.P en.c f tmps assign body W (CallPost K.P m A W A' v)

section
variable {K : Ctx} {r : Rec}

theorem run_resolve_value {P : Program} {W : World} {ρ : Operand → Value} {f : Operand} {xs : Array Operand} {tys : Array TypeId} {ty : TypeId} {fn : Fn} {fs cs : Array Value} (h : ρ f = .func fn fs cs) :
    (resolve ρ { callee := .value f, args := xs, argTypes := tys } ty).run P W = .ok { target := .fn fn cs, args := fs ++ xs.map ρ } W := by
  simp [resolve, h, Deferred.ofValue]

theorem ARel.append {m : Map} {a b c d : Array Value} (h : ARel m a b) (k : ARel m c d) : ARel m (a ++ c) (b ++ d) := by
  have := LRel.append h k
  simpa [ARel] using this

/-- A call of a function value. -/
theorem sim_callV (hK : CtxOK K) (hr : RecOK K r) {fv fv' v : Value} {args args' : Array Value} {A A' : AHeap} (h : callV K r fv args A = some (v, A')) {m : Map} {W : World} (hS : Sim K.P m A W)
    (hf : VRel m fv fv') (ha : ARel m args args') (rd : Option Nat) {a : Act} {dst : Option Tmp} {next : Act → World → Prop} {Q : Exit → Act → World → Prop} {o : Oper} (hod : o.dst = dst)
    (hnext : ∀ m' v' W', VRel m' v v' → Sim K.P m' A' W' → Step m A W m' A' W' → next (a.put dst v') W') :
    ∃ fn fs cs, fv' = .func fn fs cs ∧ o.uponIn (FW rd) 0 K.P a next Q ((invoke (.fn fn cs) (fs ++ args')).run K.P W) := by
  subst hod
  unfold callV at h
  split at h
  · rename_i g first captured
    cases hf with
    | func hfn hn hs hn' hs' =>
      cases hfn
      rename_i fs' cs'
      refine ⟨.func g, fs', cs', rfl, ?_⟩
      have hargs : ARel m (first ++ args ++ captured) (fs' ++ args' ++ cs') := ((ARel.of hn hs).append ha).append (ARel.of hn' hs')
      have hinv : invoke (.fn (.func g) cs') (fs' ++ args') = callFunc g (fs' ++ args' ++ cs') := rfl
      rw [hinv]
      have enter : (callFunc g (fs' ++ args' ++ cs')).run K.P W = .ok (.enter g (fs' ++ args' ++ cs')) W → CallsIn (FW none) 0 K.P g (fs' ++ args' ++ cs') W (CallPost K.P m A W A' v) →
          o.uponIn (FW rd) 0 K.P a next Q ((callFunc g (fs' ++ args' ++ cs')).run K.P W) := by
        intro h1 h2
        rw [h1, Oper.uponIn_enter]
        refine ⟨fun h => by simp [FW, Fence.wide] at h, ?_⟩
        have h3 : CallsIn (FW rd) 0 K.P g (fs' ++ args' ++ cs') W (CallPost K.P m A W A' v) := h2
        refine h3.mono ?_
        rintro en w' ⟨v', m', rfl, h4, h5, h6⟩
        exact hnext m' v' w' h4 h5 h6
      unfold callF at h
      split at h
      · rename_i y hy
        simp only [Option.some.injEq] at h
        subst h
        rcases hK.prim g _ A v A' hy m _ W hS hargs with ⟨v', m', W', h1, h2, h3, h4⟩ | ⟨h1, h2⟩
        · rw [h1, Oper.uponIn_value]
          exact hnext m' v' W' h2 h3 h4
        · exact enter h1 h2
      · obtain ⟨h1, h2⟩ := hr.call g _ A v A' h m _ W hS hargs
        exact enter h1 h2
  · rename_i l first captured
    cases hf with
    | func hfn hn hs hn' hs' =>
      cases hfn with
      | yield hl =>
        rename_i fs' cs' en
        refine ⟨.yield en.c, fs', cs', rfl, ?_⟩
        have hargs : ARel m (first ++ args) (fs' ++ args') := (ARel.of hn hs).append ha
        obtain ⟨f, tmps, assign, body, h1, h2⟩ := hr.round l _ A v A' h m _ W en hS hargs hl
        have hinv : invoke (.fn (.yield en.c) cs') (fs' ++ args') = Instr.yield en.c (fs' ++ args') := rfl
        rw [hinv, h1, Oper.uponIn_round]
        refine ⟨fun h => by simp [FW, Fence.wide] at h, ?_⟩
        have h3 : RoundIn (FW rd) 0 K.P en.c f tmps assign body W (CallPost K.P m A W A' v) := h2
        refine h3.mono ?_
        rintro e' w' ⟨v', m', rfl, h4, h5, h6⟩
        exact hnext m' v' w' h4 h5 h6
  · cases h

/-- One operation whose guard lets it. -/
theorem sim_op' (hK : CtxOK K) (hr : RecOK K r) {o : Oper} {e : Env} {A A' : AHeap} {v : Value} (h : evOp K r o.op e A = some (v, A')) {m : Map} {a : Act} {W : World}
    (hS : Sim K.P m A W) (hrel : Rels m (opv e) a.eval o.op) (rd : Option Nat) {next : Act → World → Prop} {Q : Exit → Act → World → Prop}
    (hnext : ∀ m' v' W', VRel m' v v' → Sim K.P m' A' W' → Step m A W m' A' W' → next (a.put o.dst v') W') :
    o.wpIn (FW rd) 0 K.P a W next Q := by
  refine ⟨fun f _ => trivial, ?_⟩
  obtain ⟨dst, op, ty, pos, after, guard⟩ := o
  simp only at h hnext hrel
  unfold evOp at h
  split at h
  · rename_i hok
    have hsem : (∀ c, op ≠ .defer c) → Oper.semAt (FW rd).round a.eval { dst := dst, op := op, type := ty, pos := pos, after := after, guard := guard } =
        execOp a.eval { dst := dst, op := op, type := ty, pos := pos, after := after, guard := guard } := fun hd => Oper.semAt_eq _ _ _ hd
    split at h
    · rename_i f xs tys
      rw [hsem (by intro c e; cases e)]
      have hf := hrel f (by simp [Op.operands, Call.operands])
      have ha : ARel m (xs.map (opv e)) (xs.map a.eval) := ARel.map fun x hx => hrel x (by simp [Op.operands, Call.operands]; exact .inr (by simpa using hx))
      obtain ⟨fn, fs, cs, hfv, hup⟩ := sim_callV hK hr h hS hf ha rd (a := a) (dst := dst) (next := next) (Q := Q)
        (o := { dst := dst, op := .call ⟨.value f, xs, tys⟩, type := ty, pos := pos, after := after, guard := guard }) rfl hnext
      have hex : (execOp a.eval { dst := dst, op := .call ⟨.value f, xs, tys⟩, type := ty, pos := pos, after := after, guard := guard }).run K.P W =
          (invoke (.fn fn cs) (fs ++ xs.map a.eval)).run K.P W := by
        simp only [execOp, Sem.run_bind, run_resolve_value hfv, Result.andThen]
      rw [hex]
      exact hup
    · have hnd : ∀ c, op ≠ .defer c := by
        intro c e
        subst e
        simp [aPure, aRead, aEff] at h
      rw [hsem hnd]
      split at h
      · rename_i u hu
        simp only [Option.some.injEq, Prod.mk.injEq] at h
        obtain ⟨rfl, rfl⟩ := h
        obtain ⟨v', hv, hvr⟩ := sim_pure (o := { dst := dst, op := op, type := ty, pos := pos, after := after, guard := guard }) hu hrel
        rw [hv W, Oper.uponIn_value]
        exact hnext m v' W hvr hS (Step.refl _ _ _)
      · split at h
        · rename_i u hu
          simp only [Option.some.injEq, Prod.mk.injEq] at h
          obtain ⟨rfl, rfl⟩ := h
          obtain ⟨v', hv, hvr⟩ := sim_read (o := { dst := dst, op := op, type := ty, pos := pos, after := after, guard := guard }) hu hS hrel
          rw [hv, Oper.uponIn_value]
          exact hnext m v' W hvr hS (Step.refl _ _ _)
        · obtain ⟨nx, m', W', h1, h2, h3, h4⟩ := sim_eff (o := { dst := dst, op := op, type := ty, pos := pos, after := after, guard := guard }) h hS hrel
          rw [h1]
          rcases h2 with ⟨v', rfl, hvr⟩ | ⟨rfl, rfl⟩
          · rw [Oper.uponIn_value]
            exact hnext m' v' W' hvr h3 h4
          · rw [Oper.uponIn_skip]
            exact hnext m' undef W' (undef_rel m') h3 h4
  · cases h

theorem evOp_ok {o : Op} {e : Env} {A : AHeap} {x : Value × AHeap} (h : evOp K r o e A = some x) : o.operands.toList.all okOpd = true := by
  unfold evOp at h
  split at h
  · assumption
  · cases h

theorem sim_op (hK : CtxOK K) (hr : RecOK K r) {o : Oper} {e : Env} {A A' : AHeap} {v : Value} (h : evOp K r o.op e A = some (v, A')) {m : Map} {nt : Nat} {a : Act} {W : World}
    (hS : Sim K.P m A W) (he : ERel m nt e a.tmps) (rd : Option Nat) {next : Act → World → Prop} {Q : Exit → Act → World → Prop}
    (hnext : ∀ m' v' W', VRel m' v v' → Sim K.P m' A' W' → Step m A W m' A' W' → next (a.put o.dst v') W') :
    o.wpIn (FW rd) 0 K.P a W next Q := sim_op' hK hr h hS (he.rels (evOp_ok h)) rd hnext

/-- An operation that turns no memory. -/
theorem sim_pr {o : Oper} {e : Env} {A : AHeap} {v : Value} (h : aPure K.P o.op (opv e) = some v ∨ aRead K.P A o.op (opv e) = some v) {m : Map} {a : Act} {W : World}
    (hS : Sim K.P m A W) (hrel : Rels m (opv e) a.eval o.op) (rd : Option Nat) {next : Act → World → Prop} {Q : Exit → Act → World → Prop}
    (hnext : ∀ v', VRel m v v' → next (a.put o.dst v') W) : o.wpIn (FW rd) 0 K.P a W next Q := by
  refine ⟨fun f _ => trivial, ?_⟩
  have hnd : ∀ c, o.op ≠ .defer c := by
    intro c e
    simp [e, aPure, aRead] at h
  rw [Oper.semAt_eq _ _ _ hnd]
  rcases h with h | h
  · obtain ⟨v', hv, hvr⟩ := sim_pure h hrel
    rw [hv W, Oper.uponIn_value]
    exact hnext v' hvr
  · obtain ⟨v', hv, hvr⟩ := sim_read h hS hrel
    rw [hv, Oper.uponIn_value]
    exact hnext v' hvr

/-- The operations of a region, one behind the other. -/
theorem sim_ops (hK : CtxOK K) (hr : RecOK K r) {ops : Array Oper} {nt : Nat} {rd : Option Nat} {Q : Exit → Act → World → Prop} : ∀ (rest : List Oper) (e : Env) (A : AHeap) (e' : Env) (A' : AHeap),
    evOps K r ops nt rest e A = some (e', A') → ∀ (lo : Nat) (m : Map) (a : Act) (W : World), St K.P lo m nt e A a W rd →
    (∀ m' a' W', St K.P lo m' nt e' A' a' W' rd → Step m A W m' A' W' → Q .normal a' W') → wpListIn (FW rd) 0 K.P ops Q rest a W := by
  intro rest
  induction rest with
  | nil =>
    intro e A e' A' h lo m a W hst hQ
    simp only [evOps, Option.some.injEq, Prod.mk.injEq] at h
    obtain ⟨rfl, rfl⟩ := h
    exact hQ m a W hst (Step.refl _ _ _)
  | cons o rest ih =>
    intro e A e' A' h lo m a W hst hQ
    simp only [evOps] at h
    simp only [wpListIn]
    rw [wanted_eq hst.env]
    split at h
    · rename_i hw
      rw [if_pos hw]
      split at h
      · rename_i v A1 hv
        split at h
        · rename_i e1 he1
          refine sim_op hK hr hv hst.sim hst.env rd ?_
          intro m' v' W' hvr hS' hst'
          refine ih e1 A1 e' A' h lo m' _ W' ⟨hS', (hst.env.mono hst'.mono).put hvr he1, ?_, hst.rd.step hst', Nat.le_trans hst.low hst'.size⟩ ?_
          · rw [put_defers]; exact hst.marks.step hst'
          · intro m2 a2 W2 h2 h3
            exact hQ m2 a2 W2 h2 (hst'.trans h3)
        · cases h
      · cases h
    · rename_i hw
      rw [if_neg hw]
      split at h
      · rename_i e1 he1
        refine ⟨fun f _ => trivial, ?_⟩
        refine ih e1 A e' A' h lo m _ W ⟨hst.sim, hst.env.put (undef_rel m) he1, ?_, hst.rd, hst.low⟩ hQ
        rw [put_defers]; exact hst.marks
      · cases h
end
end Go.Sh
