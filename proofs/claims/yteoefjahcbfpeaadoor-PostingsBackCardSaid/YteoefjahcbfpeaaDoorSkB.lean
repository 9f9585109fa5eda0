import Derived.Test.YteoefjahcbfpeaaDoorSkA
import Derived.Conc.MuLone
import Derived.Carry
/- Shadow, part 17: the machine, whole. -/
namespace Go.Sh
open Go

section
variable {K : Ctx} {r : Rec}

theorem exit'_normal (x : AExit) : x.exit' = .normal ↔ x = .normal := by cases x <;> simp [AExit.exit']

theorem run_enterLoop_inner {P : Program} {w : World} {l : Nat} {lo : Loop} (h : w.heap[l]? = some (.loop lo)) (fn : FuncId) (tmps : Array Value) (ps : Array Tmp) (assign body : Code) :
    (Instr.enterLoop fn tmps ps assign body (some l)).run P w =
      .ok (w.heap.size, []) (w.alloc (.loop { state := .ready, pending := none, fn, tmps, params := ps, assign, body, defers := lo.defers })) := by
  unfold Instr.enterLoop
  simp only [Sem.run_bind, run_newObj_alloc, run_getLoop h, Result.andThen, Sem.run_pure]

theorem sim_getLoop {m : Map} {A : AHeap} {W : World} (hS : Sim K.P m A W) {l : Nat} {lo : ALoop} (h : getLoopA A l = some lo) {en : Ent} (hm : m l = some en) : LoopRel m lo en W := by
  unfold getLoopA at h
  split at h
  · rename_i lo' hg
    simp only [Option.some.injEq] at h
    subst h
    exact hS.loop l en _ hm hg
  · cases h

theorem getLoopA_get {A : AHeap} {l : Nat} {lo : ALoop} (h : getLoopA A l = some lo) : A.get l = some (.loop lo) := by
  unfold getLoopA at h
  split at h
  · rename_i lo' hg; simp only [Option.some.injEq] at h; subst h; exact hg
  · cases h

/-- A loop's record turns. -/
theorem sim_setLoop {m : Map} {A : AHeap} {W : World} (hS : Sim K.P m A W) {l : Nat} {lo : ALoop} (h : getLoopA A l = some lo) {en : Ent} (hm : m l = some en) {lc : Loop} (hc : W.heap[en.c]? = some (.loop lc))
    {lo' : ALoop} {lc' : Loop} (hr : lc'.state = lo'.state ∧ lc'.pending = lo'.pending ∧ lc'.params = lo'.params ∧ lc'.assign = lo'.assign ∧ lc'.body = lo'.body ∧ ERel m lo'.nt lo'.env lc'.tmps) :
    Sim K.P m (A.set l (.loop lo')) (W.putObj en.c (.loop lc')) ∧ Step m A W m (A.set l (.loop lo')) (W.putObj en.c (.loop lc')) := by
  have hput : W.putObj en.c (.loop lc') = putB W en.c (.loop lc') := rfl
  rw [hput]
  refine hS.write (o := .loop lo) (o' := .loop lo') hm (getLoopA_get h) rfl ?_ rfl ?_ ?_ ?_
  · intro j
    rw [AHeap.get_set]
    split
    · rfl
    · rw [if_neg (by simp [AObj.chain])]
  · intro r hr'; cases hr'
  · intro l' hl'
    simp only [AObj.loop.injEq] at hl'
    subst hl'
    refine ⟨lc', ?_, hr⟩
    rw [← hput]
    exact World.putObj_heap_same (lt_of_get hc)
  · intro _ _; exact ⟨lc', rfl⟩

theorem ERel.bind {m : Map} : ∀ (ps : List Tmp) (vs vs' : List Value) (nt : Nat) (e e1 : Env) (tmps : Array Value), ps.length = vs.length → LRel m vs vs' → ERel m nt e tmps → bindAll nt e ps vs = some e1 →
    ERel m nt e1 ((ps.zip vs').foldl (fun tmps (t, a) => tmps.setIfInBounds t a) tmps) := by
  intro ps
  induction ps with
  | nil =>
    intro vs vs' nt e e1 tmps _ _ he h
    simp only [bindAll, Option.some.injEq] at h
    subst h
    simpa using he
  | cons p ps ih =>
    intro vs vs' nt e e1 tmps hl hv he h
    cases vs with
    | nil => simp at hl
    | cons v vs =>
      cases vs' with
      | nil => have := hv.1; simp at this
      | cons v' vs' =>
        simp only [bindAll] at h
        split at h
        · rename_i hp
          have h0 : VRel m v v' := hv.2 0 v v' rfl rfl
          have h1 : LRel m vs vs' := ⟨by simpa using hv.1, fun i x y hx hy => hv.2 (i + 1) x y (by simpa using hx) (by simpa using hy)⟩
          have h2 := ERel.put (a := { tmps := tmps, defers := [] }) (d := some p) he h0 (e' := e.put p v) (by simp [putD, hp])
          exact ih vs vs' nt _ e1 _ (by simpa using hl) h1 h2 h
        · cases h

theorem Post.map {P : Program} {lo : Nat} {m : Map} {A : AHeap} {W : World} {rd : Option Nat} {nt : Nat} {x : AExit} {e' : Env} {A' : AHeap} {ex : Exit} {a' : Act} {w' : World}
    (hp : Post P lo m A W rd nt x e' A' ex a' w') : ex = x.exit' ∧ ∃ m', St P lo m' nt e' A' a' w' rd ∧ Step m A W m' A' w' := hp

theorem step_loop (hr : RecOK K r) : ∀ c nt e A x e' A', (stepRec K r).loop c nt e A = some (x, e', A') → ∀ lo m a W rd, St K.P lo m nt e A a W rd → LoopFrom (FW rd) K.P c (Post K.P lo m A W rd nt x e' A') a W := by
  intro c nt e A x e' A' h lo m a W rd hst
  simp only [stepRec] at h
  refine loop_round ?_
  split at h
  · rename_i e1 A1 h1
    refine wpIn_mono (hr.code c nt e A _ e1 A1 h1 lo m a W rd hst) ?_
    rintro ex a1 w1 ⟨rfl, m1, h2, h3⟩
    exact LoopFrom.mono (hr.loop c nt e1 A1 x e' A' h lo m1 a1 w1 rd h2) fun _ _ _ => Post.weaken h3
  · rename_i y hy
    refine wpIn_mono (hr.code c nt e A x e' A' h lo m a W rd hst) ?_
    rintro ex a1 w1 hp
    have hx : x ≠ .normal := by
      rintro rfl
      exact hy _ _ h
    obtain ⟨rfl, m1, h2, h3⟩ := hp
    cases x with
    | normal => exact absurd rfl hx
    | ret => exact ⟨rfl, m1, h2, h3⟩
    | exit id => exact ⟨rfl, m1, h2, h3⟩

theorem step_call (hK : CtxOK K) (hr : RecOK K r) : ∀ g args A v A', (stepRec K r).call g args A = some (v, A') → ∀ m args' W, Sim K.P m A W → ARel m args args' →
    (callFunc g args').run K.P W = .ok (.enter g args') W ∧ CallsIn (FW none) 0 K.P g args' W (CallPost K.P m A W A' v) := by
  intro g args A v A' h m args' W hS ha
  simp only [stepRec] at h
  split at h
  · rename_i fn hfn
    obtain ⟨hf, hname⟩ := hK.funcs g fn hfn
    split at h
    · rename_i c hb
      split at h
      · rename_i hsz
        refine ⟨MuLone.run_callFunc_enter hf hname hb args' W, ?_⟩
        have hst : St K.P W.heap.size m fn.ntmps (fun t => args.getD t undef) A { tmps := args' ++ Array.replicate (fn.ntmps - args'.size) undef, defers := [] } W none := by
          refine ⟨hS, ⟨by simp; have := ha.size; omega, fun t => ?_⟩, trivial, (fun l hl => by cases hl), Nat.le_refl _⟩
          simp only [Array.getD_eq_getD_getElem?]
          by_cases ht : t < args.size
          · rw [Array.getElem?_append_left (by rw [← ha.size]; exact ht)]
            rw [Array.getElem?_eq_getElem ht, Array.getElem?_eq_getElem (by rw [← ha.size]; exact ht)]
            exact ha.at t _ _ (Array.getElem?_eq_getElem ht) (Array.getElem?_eq_getElem (by rw [← ha.size]; exact ht))
          · rw [Array.getElem?_eq_none (by omega), Array.getElem?_append_right (by rw [← ha.size]; omega)]
            simp only [Option.getD_none, Array.getElem?_replicate]
            split <;> exact undef_rel m
        refine callsIn_of_wp_marks hf hb (FW_fn _ _) ?_ rfl
        split at h
        · cases h
        · rename_i x e' A1 hx hrun
          simp only [Option.map_eq_some_iff, Prod.mk.injEq] at h
          obtain ⟨vs, hvs, rfl, rfl⟩ := h
          refine wpIn_mono (hr.code c _ _ _ _ _ _ hrun W.heap.size m _ W none hst) ?_
          rintro ex a1 w1 ⟨rfl, m1, h2, h3⟩
          have hl : LeavesInM (FW none) 0 K.P fn a1.tmps (CallPost K.P m A W A1 (oneOr vs)) a1.defers .returning w1 :=
            leaves_marks h2.env hvs (fun v' w' k1 k2 k3 => ⟨v', m1, rfl, k1, k2, k3⟩) a1.defers w1 h2.sim h3 h2.marks
          cases x with
          | normal => exact hl
          | ret => exact hl
          | exit id => exact (hx id rfl).elim
        · cases h
      · cases h
    · cases h
  · cases h

theorem step_round (hr : RecOK K r) : ∀ l args A v A', (stepRec K r).round l args A = some (v, A') → ∀ m args' W en, Sim K.P m A W → ARel m args args' → m l = some en →
    ∃ f tmps assign body, (Instr.yield en.c args').run K.P W = .ok (.round en.c f tmps assign body) W ∧ RoundIn (FW none) 0 K.P en.c f tmps assign body W (CallPost K.P m A W A' v) := by
  intro l args A v A' h m args' W en hS ha hl
  simp only [stepRec] at h
  split at h
  · rename_i lo hlo
    obtain ⟨lc, hc, hst, hpe, hps, has, hbo, henv⟩ := sim_getLoop hS hlo hl
    split at h
    · rename_i hsz
      split at h
      · rename_i e1 he1
        split at h
        · rename_i e2 A2 hrun2
          split at h
          · rename_i lo2 hlo2
            split at h
            · rename_i hready
              split at h
              · rename_i x e4 A4 hrun4
                split at h
                · rename_i lo4 hlo4
                  simp only [Option.some.injEq, Prod.mk.injEq] at h
                  obtain ⟨rfl, rfl⟩ := h
                  have hy := run_yield (P := K.P) hc (args := args') (by rw [hps, ← ha.size]; exact hsz)
                  refine ⟨_, _, _, _, hy, ?_⟩
                  refine roundIn_of_wpIn (FW_fn _ _) ?_
                  have e0 : ERel m lo.nt e1 ((lc.params.zip args').foldl (fun tmps (t, a) => tmps.setIfInBounds t a) lc.tmps) := by
                    rw [hps, ← Array.foldl_toList, Array.toList_zip]
                    exact ERel.bind _ _ _ _ _ _ _ (by simpa using hsz.symm) ha henv he1
                  have st0 : St K.P W.heap.size m lo.nt e1 A { tmps := (lc.params.zip args').foldl (fun tmps (t, a) => tmps.setIfInBounds t a) lc.tmps, defers := [] } W (some en.c) :=
                    ⟨hS, e0, trivial, (fun l' hl' => by cases hl'; exact ⟨lc, hc⟩), Nat.le_refl _⟩
                  rw [has, hbo]
                  refine wpIn_mono (hr.code _ _ _ _ _ _ _ hrun2 W.heap.size m _ W (some en.c) st0) ?_
                  rintro ex a1 w1 ⟨rfl, m1, h2, h3⟩
                  have hl1 := h3.mono _ _ hl
                  obtain ⟨lc1, hc1, hst1, hpe1, hps1, has1, hbo1, henv1⟩ := sim_getLoop h2.sim hlo2 hl1
                  refine ⟨w1.putObj en.c (.loop { lc1 with state := .busy }), run_beginRound hc1 (by rw [hst1]; exact hready), ?_⟩
                  obtain ⟨k1, k2⟩ := sim_setLoop h2.sim hlo2 hl1 hc1 (lo' := { lo2 with state := .busy }) (lc' := { lc1 with state := .busy }) ⟨rfl, hpe1, hps1, has1, hbo1, henv1⟩
                  have st1 : St K.P W.heap.size m1 lo.nt e2 (A2.set l (.loop { lo2 with state := .busy })) a1 (w1.putObj en.c (.loop { lc1 with state := .busy })) (some en.c) :=
                    ⟨k1, h2.env, h2.marks.step k2, h2.rd.step k2, Nat.le_trans h2.low k2.size⟩
                  refine wpIn_mono (hr.code _ _ _ _ _ _ _ hrun4 W.heap.size m1 a1 _ (some en.c) st1) ?_
                  rintro ex a5 w5 ⟨rfl, m5, h5, h6⟩
                  have hl5 := h6.mono _ _ hl1
                  obtain ⟨lc5, hc5, hst5, hpe5, hps5, has5, hbo5, henv5⟩ := sim_getLoop h5.sim hlo4 hl5
                  obtain ⟨j1, j2⟩ := sim_setLoop h5.sim hlo4 hl5 hc5 (lo' := { lo4 with state := if x.jump.isNone then .ready else .done, pending := x.jump })
                    (lc' := { lc5 with state := if x.jump.isNone then .ready else .done, pending := x.jump }) ⟨rfl, rfl, hps5, has5, hbo5, henv5⟩
                  have hend := run_endRound (P := K.P) x.jump hc5
                  have hfin : CallPost K.P m A W (A4.set l (.loop { lo4 with state := if x.jump.isNone then .ready else .done, pending := x.jump })) (.bool x.jump.isNone) (.returned (.bool x.jump.isNone))
                      (w5.putObj en.c (.loop { lc5 with state := if x.jump.isNone then .ready else .done, pending := x.jump })) :=
                    ⟨_, m5, rfl, .bool _, j1, ((h3.trans k2).trans h6).trans j2⟩
                  cases x with
                  | normal => exact ⟨_, _, hend, hfin⟩
                  | ret => exact ⟨_, _, hend, hfin⟩
                  | exit id => exact ⟨_, _, hend, hfin⟩
                · cases h
              · cases h
            · cases h
          · cases h
        · cases h
      · cases h
    · cases h
  · cases h

/-- What a region that draws its order comes to. -/
def DrawOK (K : Ctx) (r : Rec) : Prop := ∀ ops nt e A e' A', evDraw K r ops nt e A = some (e', A') → ∀ (id lo : Nat) (m : Map) (a : Act) (W : World) (rd : Option Nat) (Q : Exit → Act → World → Prop), St K.P lo m nt e A a W rd →
  (∀ m' a' W', St K.P lo m' nt e' A' a' W' rd → Step m A W m' A' W' → Q .normal a' W') → (Code.region id ops true).wpIn (FW rd) 0 K.P Q a W

theorem sim_rangeFunc (hr : RecOK K r) {f : Operand} {ps : Array Tmp} {assign body : Code} {nt : Nat} {e : Env} {A : AHeap} {x : AExit} {e' : Env} {A' : AHeap}
    (h : (stepRec K r).code (.rangeFunc f ps assign body) nt e A = some (x, e', A')) {lo : Nat} {m : Map} {a : Act} {W : World} {rd : Option Nat} (hst : St K.P lo m nt e A a W rd) :
    (Code.rangeFunc f ps assign body).wpIn (FW rd) 0 K.P (Post K.P lo m A W rd nt x e' A') a W := by
  simp only [stepRec] at h
  split at h
  · rename_i hok
    split at h
    · rename_i g first captured hfv
      split at h
      · rename_i v2 A2 hcall
        split at h
        · rename_i lo2 hlo2
          split at h
          · cases h
          · rename_i hbusy
            have hv := hst.env.opv hok
            rw [hfv] at hv
            generalize hfc : a.eval f = fv' at hv
            cases hv with
            | func hfn hn hs hn' hs' =>
              cases hfn
              rename_i fs' cs'
              refine wpIn_rangeFunc fun fn _ => ?_
              -- the record is laid
              have hlay : ∃ (l : Nat) (mark : List Deferred) (w1 : World) (m1 : Map) (en : Ent), (Instr.enterLoop fn a.tmps ps assign body (FW rd).round).run K.P W = .ok (l, mark) w1 ∧ m1 A.next = some en ∧ en.c = l ∧
                  Sim K.P m1 (A.alloc (.loop ⟨.ready, none, e, nt, ps, assign, body⟩)) w1 ∧ Step m A W m1 (A.alloc (.loop ⟨.ready, none, e, nt, ps, assign, body⟩)) w1 ∧ Marks lo m1 w1 (mark ++ a.defers) := by
                cases rd with
                | some l0 =>
                  obtain ⟨lc, hlc⟩ := hst.rd l0 rfl
                  obtain ⟨k1, k2⟩ := hst.sim.newLoop (l := ⟨.ready, none, e, nt, ps, assign, body⟩) (lo := { state := .ready, pending := none, fn, tmps := a.tmps, params := ps, assign, body, defers := lc.defers }) rfl rfl rfl rfl rfl hst.env
                  exact ⟨_, _, _, _, ⟨W.heap.size, 0, 0, 0, 0, true⟩, run_enterLoop_inner hlc fn a.tmps ps assign body, by simp [Map.ext], rfl, k1, k2, hst.marks.step k2⟩
                | none =>
                  obtain ⟨j1, j2⟩ := hst.sim.beside (.deferred (some []))
                  obtain ⟨k1, k2⟩ := j1.newLoop (l := ⟨.ready, none, e, nt, ps, assign, body⟩) (lo := { state := .ready, pending := none, fn, tmps := a.tmps, params := ps, assign, body, defers := W.heap.size }) rfl rfl rfl rfl rfl hst.env
                  refine ⟨_, _, _, _, ⟨(W.alloc (.deferred (some []))).heap.size, 0, 0, 0, 0, true⟩, run_enterLoop_outer fn a.tmps ps assign body, by simp [Map.ext], World.size_alloc _ _, k1, j2.trans k2, ?_⟩
                  have hfree : Free m W.heap.size := fun b en hb hc => by have := hst.sim.lt b en hb; omega
                  have hm : Marks lo m (W.alloc (.deferred (some []))) ({ target := .collected W.heap.size, args := #[] } :: a.defers) := by
                    refine ⟨⟨W.heap.size, rfl, World.alloc_heap_new _ _, hfree, hst.low, ?_⟩, hst.marks.step j2⟩
                    intro d' hd' ht
                    have : ∀ (ds : List Deferred), Marks lo m W ds → d' ∈ ds → False := by
                      intro ds
                      induction ds with
                      | nil => intro _ hd; simp at hd
                      | cons d ds ih =>
                        rintro ⟨⟨D, h1, h2, _⟩, hr⟩ hd
                        rcases List.mem_cons.1 hd with rfl | hd
                        · rw [ht] at h1
                          simp only [Target.collected.injEq] at h1
                          have := lt_of_get h2
                          omega
                        · exact ih hr hd
                    exact this _ hst.marks hd'
                  exact hm.step k2
              obtain ⟨l, mark, w1, m1, en, h1, h2, h3, h4, h5, h6⟩ := hlay
              subst h3
              have hres : (resolve a.eval (rangeCall f en.c) 0).run K.P w1 = .ok { target := .fn (.func g) cs', args := fs' ++ #[.func (.yield en.c) #[] #[]] } w1 := by
                have := run_resolve_value (P := K.P) (W := w1) (ρ := a.eval) (f := f) (xs := #[.const (.func (.yield en.c) #[] #[])]) (tys := #[]) (ty := 0) hfc
                simpa [rangeCall, Act.eval] using this
              have hargs : ARel m1 (first ++ #[.func (.yield A.next) #[] #[]] ++ captured) (fs' ++ #[.func (.yield en.c) #[] #[]] ++ cs') := by
                refine (((ARel.of hn hs).mono h5.mono).append ?_).append ((ARel.of hn' hs').mono h5.mono)
                exact LRel.cons (.func (.yield h2) rfl (fun i v v' h => by simp at h) rfl (fun i v v' h => by simp at h)) (LRel.nil _)
              obtain ⟨c1, c2⟩ := hr.call g _ _ _ _ hcall m1 _ w1 h4 hargs
              refine ⟨en.c, mark, w1, _, w1, g, _, w1, h1, hres, fun _ _ => trivial, c1, fun h => by simp [FW, Fence.wide] at h, ?_⟩
              have c3 : CallsIn (FW rd) 0 K.P g (fs' ++ #[.func (.yield en.c) #[] #[]] ++ cs') w1 (CallPost K.P m1 _ w1 A2 v2) := c2
              refine c3.mono ?_
              rintro en3 w3 ⟨v3, m3, rfl, _, k1, k2⟩
              have hl3 := k2.mono _ _ h2
              obtain ⟨lc, hc, hst3, hpe3, hps3, has3, hbo3, henv3⟩ := sim_getLoop k1 hlo2 hl3
              have hend := run_endLoop (P := K.P) hc (by rw [hst3]; exact hbusy)
              obtain ⟨j1, j2⟩ := sim_setLoop k1 hlo2 hl3 hc (lo' := { lo2 with state := .exhausted }) (lc' := { lc with state := .exhausted }) ⟨rfl, hpe3, hps3, has3, hbo3, henv3⟩
              have hall := (h5.trans k2).trans j2
              have hfin : ∀ (x : AExit), St K.P lo m3 nt e (A2.set A.next (.loop { lo2 with state := .exhausted })) { a with defers := mark ++ a.defers } (w3.putObj en.c (.loop { lc with state := .exhausted })) rd :=
                fun _ => ⟨j1, hst.env.mono hall.mono, (h6.step k2).step j2, hst.rd.step hall, Nat.le_trans hst.low hall.size⟩
              clear j1 j2
              generalize A2.set A.next (.loop { lo2 with state := .exhausted }) = A3 at hfin hall h
              generalize w3.putObj en.c (.loop { lc with state := .exhausted }) = W3 at hfin hall hend
              refine ⟨lc.pending, W3, hend, ?_⟩
              rw [hpe3]
              split at h
              · rename_i hp
                simp only [Option.some.injEq, Prod.mk.injEq] at h
                obtain ⟨rfl, rfl, rfl⟩ := h
                rw [hp]
                exact ⟨rfl, m3, hfin .normal, hall⟩
              · rename_i hp
                simp only [Option.some.injEq, Prod.mk.injEq] at h
                obtain ⟨rfl, rfl, rfl⟩ := h
                rw [hp]
                exact wpIn_ret ⟨rfl, m3, hfin .ret, hall⟩
              · rename_i id hp
                simp only [Option.some.injEq, Prod.mk.injEq] at h
                obtain ⟨rfl, rfl, rfl⟩ := h
                rw [hp]
                exact wpIn_exit ⟨rfl, m3, hfin .ret, hall⟩
              · cases h
        · cases h
      · cases h
    · cases h
  · cases h

theorem step_code (hK : CtxOK K) (hr : RecOK K r) (hd : DrawOK K r) : ∀ c nt e A x e' A', (stepRec K r).code c nt e A = some (x, e', A') → ∀ lo m a W rd, St K.P lo m nt e A a W rd →
    c.wpIn (FW rd) 0 K.P (Post K.P lo m A W rd nt x e' A') a W := by
  intro c nt e A x e' A' h lo m a W rd hst
  cases c with
  | rangeFunc f ps assign body => exact sim_rangeFunc hr h hst
  | skip =>
    simp only [stepRec, Option.some.injEq, Prod.mk.injEq] at h
    obtain ⟨rfl, rfl, rfl⟩ := h
    exact wpIn_skip ⟨rfl, m, hst, Step.refl _ _ _⟩
  | region id ops draw =>
    simp only [stepRec] at h
    split at h
    · rename_i e1 A1 h1
      simp only [Option.some.injEq, Prod.mk.injEq] at h
      obtain ⟨rfl, rfl, rfl⟩ := h
      cases draw with
      | true => exact hd ops nt e A _ _ (by simpa using h1) id lo m a W rd _ hst fun m' a' W' k1 k2 => ⟨rfl, m', k1, k2⟩
      | false => exact wpIn_region_list (sim_ops hK hr ops.toList e A _ _ (by simpa using h1) lo m a W hst fun m' a' W' k1 k2 => ⟨rfl, m', k1, k2⟩)
    · cases h
  | seq c1 c2 =>
    simp only [stepRec] at h
    refine wpIn_seq ?_
    split at h
    · rename_i e1 A1 h1
      refine wpIn_mono (hr.code c1 nt e A _ e1 A1 h1 lo m a W rd hst) ?_
      rintro ex a1 w1 ⟨rfl, m1, h2, h3⟩
      exact wpIn_mono (hr.code c2 nt e1 A1 x e' A' h lo m1 a1 w1 rd h2) fun _ _ _ => Post.weaken h3
    · rename_i y hy
      refine wpIn_mono (hr.code c1 nt e A x e' A' h lo m a W rd hst) ?_
      rintro ex a1 w1 ⟨rfl, m1, h2, h3⟩
      cases x with
      | normal => exact (hy _ _ h).elim
      | ret => exact ⟨rfl, m1, h2, h3⟩
      | exit id => exact ⟨rfl, m1, h2, h3⟩
  | cond o c1 c2 =>
    simp only [stepRec] at h
    split at h
    · rename_i hok
      have hv := hst.env.opv hok
      split at h
      · rename_i hb
        rw [hb] at hv
        generalize hfc : a.eval o = fv' at hv
        cases hv
        exact wpIn_cond_true hfc (hr.code c1 nt e A x e' A' h lo m a W rd hst)
      · rename_i hb
        rw [hb] at hv
        generalize hfc : a.eval o = fv' at hv
        cases hv
        exact wpIn_cond_false hfc (hr.code c2 nt e A x e' A' h lo m a W rd hst)
      · cases h
    · cases h
  | block id body =>
    simp only [stepRec] at h
    refine wpIn_block ?_
    split at h
    · rename_i id' e1 A1 h1
      refine wpIn_mono (hr.code body nt e A _ e1 A1 h1 lo m a W rd hst) ?_
      rintro ex a1 w1 ⟨rfl, m1, h2, h3⟩
      simp only [AExit.exit', Exit.inBlock]
      split at h
      · rename_i hid
        rw [if_pos hid]
        simp only [Option.some.injEq, Prod.mk.injEq] at h
        obtain ⟨rfl, rfl, rfl⟩ := h
        exact ⟨rfl, m1, h2, h3⟩
      · rename_i hid
        rw [if_neg hid]
        simp only [Option.some.injEq, Prod.mk.injEq] at h
        obtain ⟨rfl, rfl, rfl⟩ := h
        exact ⟨rfl, m1, h2, h3⟩
    · rename_i y hy
      refine wpIn_mono (hr.code body nt e A x e' A' h lo m a W rd hst) ?_
      rintro ex a1 w1 ⟨rfl, m1, h2, h3⟩
      cases x with
      | normal => exact ⟨rfl, m1, h2, h3⟩
      | ret => exact ⟨rfl, m1, h2, h3⟩
      | exit id => exact (hy _ _ _ h).elim
  | loop body =>
    simp only [stepRec] at h
    exact loop_start (hr.loop body nt e A x e' A' h lo m a W rd hst)
  | exit id =>
    simp only [stepRec, Option.some.injEq, Prod.mk.injEq] at h
    obtain ⟨rfl, rfl, rfl⟩ := h
    exact wpIn_exit ⟨rfl, m, hst, Step.refl _ _ _⟩
  | ret =>
    simp only [stepRec, Option.some.injEq, Prod.mk.injEq] at h
    obtain ⟨rfl, rfl, rfl⟩ := h
    exact wpIn_ret ⟨rfl, m, hst, Step.refl _ _ _⟩
  | scope _ => simp [stepRec] at h
  | label _ => simp [stepRec] at h
  | goto _ => simp [stepRec] at h
  | refuse _ => simp [stepRec] at h

theorem recOK (hK : CtxOK K) (hd : ∀ r, RecOK K r → DrawOK K r) : ∀ n, RecOK K (rec K n)
  | 0 => ⟨fun _ _ _ _ _ _ _ h => by simp [rec] at h, fun _ _ _ _ _ _ _ h => by simp [rec] at h, fun _ _ _ _ _ h => by simp [rec] at h, fun _ _ _ _ _ h => by simp [rec] at h⟩
  | n + 1 =>
    have ih := recOK hK hd n
    ⟨step_code hK ih (hd _ ih), step_loop ih, step_call hK ih, step_round ih⟩

/-- **The abstract machine's word holds of the model.** -/
theorem recOK_all (hK : CtxOK K) (n : Nat) : RecOK K (rec K n) :=
  recOK hK (fun _ hr _ _ _ _ _ _ h id lo m a W rd Q hst hQ => sim_draw hK hr h id lo m a W rd Q hst hQ) n
end
end Go.Sh

/- Shadow, part 18: more fuel, the same answer; what is to be shown of a piece of code. -/
namespace Go.Sh
open Go

structure Rec.le (r r' : Rec) : Prop where
  code : ∀ c nt e A x, r.code c nt e A = some x → r'.code c nt e A = some x
  loop : ∀ c nt e A x, r.loop c nt e A = some x → r'.loop c nt e A = some x
  call : ∀ g as A x, r.call g as A = some x → r'.call g as A = some x
  round : ∀ l as A x, r.round l as A = some x → r'.round l as A = some x

theorem Rec.le.refl (r : Rec) : r.le r := ⟨fun _ _ _ _ _ h => h, fun _ _ _ _ _ h => h, fun _ _ _ _ h => h, fun _ _ _ _ h => h⟩
theorem Rec.le.trans {a b c : Rec} (h : a.le b) (k : b.le c) : a.le c :=
  ⟨fun _ _ _ _ _ x => k.code _ _ _ _ _ (h.code _ _ _ _ _ x), fun _ _ _ _ _ x => k.loop _ _ _ _ _ (h.loop _ _ _ _ _ x), fun _ _ _ _ x => k.call _ _ _ _ (h.call _ _ _ _ x), fun _ _ _ _ x => k.round _ _ _ _ (h.round _ _ _ _ x)⟩

section
variable {K : Ctx} {r r' : Rec}

theorem callF_mono (h : r.le r') {g : FuncId} {as : Array Value} {A : AHeap} {x : Value × AHeap} (hx : callF K r g as A = some x) : callF K r' g as A = some x := by
  unfold callF at hx ⊢
  split at hx
  · exact hx
  · exact h.call _ _ _ _ hx

theorem callV_mono (h : r.le r') {fv : Value} {as : Array Value} {A : AHeap} {x : Value × AHeap} (hx : callV K r fv as A = some x) : callV K r' fv as A = some x := by
  unfold callV at hx ⊢
  split at hx
  · exact callF_mono h hx
  · exact h.round _ _ _ _ hx
  · cases hx

theorem evOp_mono (h : r.le r') {o : Op} {e : Env} {A : AHeap} {x : Value × AHeap} (hx : evOp K r o e A = some x) : evOp K r' o e A = some x := by
  unfold evOp at hx ⊢
  split at hx
  · rename_i hok
    rw [if_pos hok]
    split at hx
    · exact callV_mono h hx
    · exact hx
  · cases hx

theorem evOps_mono (h : r.le r') {ops : Array Oper} {nt : Nat} : ∀ (rest : List Oper) (e : Env) (A : AHeap) (x : Env × AHeap), evOps K r ops nt rest e A = some x → evOps K r' ops nt rest e A = some x := by
  intro rest
  induction rest with
  | nil => intro e A x hx; exact hx
  | cons o rest ih =>
    intro e A x hx
    simp only [evOps] at hx ⊢
    split at hx
    · rename_i hw
      rw [if_pos hw]
      split at hx
      · rename_i v A1 hv
        rw [evOp_mono h hv]
        simp only
        split at hx
        · rename_i e1 he; exact ih e1 A1 x hx
        · cases hx
      · cases hx
    · rename_i hw
      rw [if_neg hw]
      split at hx
      · rename_i e1 he; exact ih e1 A x hx
      · cases hx

theorem evK_mono (h : r.le r') {o : Op} {e : Env} {A : AHeap} {x : Value × AHeap} (hx : evK K r o e A = some x) : evK K r' o e A = some x := by
  unfold evK at hx ⊢
  split at hx
  · rename_i hk; rw [if_pos hk]; exact evOp_mono h hx
  · rename_i hk; rw [if_neg hk]; exact hx

theorem evTrace_mono (h : r.le r') {ops : Array Oper} {nt : Nat} : ∀ (rest : List Oper) (e : Env) (A : AHeap) (x : List TI × Env × AHeap), evTrace K r ops nt rest e A = some x → evTrace K r' ops nt rest e A = some x := by
  intro rest
  induction rest with
  | nil => intro e A x hx; exact hx
  | cons o rest ih =>
    intro e A x hx
    simp only [evTrace] at hx ⊢
    split at hx
    · rename_i hw
      rw [if_pos hw]
      split at hx
      · rename_i v A1 hv
        rw [evK_mono h hv]
        simp only
        split at hx
        · rename_i e1 he
          split at hx
          · rename_i T eN AN ht
            rw [ih e1 A1 _ ht]; exact hx
          · cases hx
        · cases hx
      · cases hx
    · rename_i hw
      rw [if_neg hw]
      split at hx
      · rename_i e1 he
        split at hx
        · rename_i T eN AN ht
          rw [ih e1 A _ ht]; exact hx
        · cases hx
      · cases hx

theorem evDraw_mono (h : r.le r') {ops : Array Oper} {nt : Nat} {e : Env} {A : AHeap} {x : Env × AHeap} (hx : evDraw K r ops nt e A = some x) : evDraw K r' ops nt e A = some x := by
  unfold evDraw at hx ⊢
  split at hx
  · rename_i hd
    rw [if_pos hd]
    split at hx
    · rename_i T eN AN ht
      rw [evTrace_mono h _ _ _ _ ht]; exact hx
    · cases hx
  · cases hx

theorem stepRec_mono (h : r.le r') : (stepRec K r).le (stepRec K r') := by
  refine ⟨?_, ?_, ?_, ?_⟩
  · intro c nt e A x hx
    cases c with
    | region id ops draw =>
      simp only [stepRec] at hx ⊢
      cases draw with
      | true =>
        simp only [if_true] at hx ⊢
        split at hx
        · rename_i e1 A1 h1; rw [evDraw_mono h h1]; exact hx
        · cases hx
      | false =>
        simp only [Bool.false_eq_true, if_false] at hx ⊢
        split at hx
        · rename_i e1 A1 h1; rw [evOps_mono h _ _ _ _ h1]; exact hx
        · cases hx
    | seq a b =>
      simp only [stepRec] at hx ⊢
      split at hx
      · rename_i e1 A1 h1
        rw [h.code _ _ _ _ _ h1]
        exact h.code _ _ _ _ _ hx
      · rename_i y hy
        rw [h.code _ _ _ _ _ hx]
        split
        · rename_i e1 A1 h1
          rw [← hx] at h1
          exact (hy _ _ h1).elim
        · rfl
    | cond o a b =>
      simp only [stepRec] at hx ⊢
      split at hx
      · rename_i hok
        rw [if_pos hok]
        split at hx
        · exact h.code _ _ _ _ _ hx
        · exact h.code _ _ _ _ _ hx
        · cases hx
      · cases hx
    | block id body =>
      simp only [stepRec] at hx ⊢
      split at hx
      · rename_i id' e1 A1 h1
        rw [h.code _ _ _ _ _ h1]
        exact hx
      · rename_i y hy
        rw [h.code _ _ _ _ _ hx]
        split
        · rename_i id' e1 A1 h1
          rw [← hx] at h1
          exact (hy _ _ _ h1).elim
        · rfl
    | loop body => exact h.loop _ _ _ _ _ hx
    | rangeFunc f ps assign body =>
      simp only [stepRec] at hx ⊢
      split at hx
      · rename_i hok
        rw [if_pos hok]
        split at hx
        · rename_i g first captured hf
          split at hx
          · rename_i v A2 hc
            rw [h.call _ _ _ _ hc]
            exact hx
          · cases hx
        · cases hx
      · cases hx
    | _ => exact hx
  · intro c nt e A x hx
    simp only [stepRec] at hx ⊢
    split at hx
    · rename_i e1 A1 h1
      rw [h.code _ _ _ _ _ h1]
      exact h.loop _ _ _ _ _ hx
    · rename_i y hy
      rw [h.code _ _ _ _ _ hx]
      split
      · rename_i e1 A1 h1
        rw [← hx] at h1
        exact (hy _ _ h1).elim
      · rfl
  · intro g as A x hx
    simp only [stepRec] at hx ⊢
    split at hx
    · rename_i fn hf
      split at hx
      · rename_i c hb
        split at hx
        · rename_i hs
          rw [if_pos hs]
          split at hx
          · cases hx
          · rename_i x' e1 A1 hne h1
            rw [h.code _ _ _ _ _ h1]
            split
            · rename_i id e2 A2 heq
              simp only [Option.some.injEq, Prod.mk.injEq] at heq
              obtain ⟨rfl, -, -⟩ := heq
              exact (hne _ rfl).elim
            · rename_i heq
              simp only [Option.some.injEq, Prod.mk.injEq] at heq
              obtain ⟨-, rfl, rfl⟩ := heq
              exact hx
            · rename_i heq; cases heq
          · cases hx
        · cases hx
      · cases hx
    · cases hx
  · intro l as A x hx
    simp only [stepRec] at hx ⊢
    split at hx
    · rename_i lo hlo
      split at hx
      · rename_i hs
        rw [if_pos hs]
        split at hx
        · rename_i e1 he1
          split at hx
          · rename_i e2 A2 h2
            rw [h.code _ _ _ _ _ h2]
            simp only
            split at hx
            · rename_i lo2 hlo2
              split at hx
              · rename_i hst
                rw [if_pos hst]
                split at hx
                · rename_i y e4 A4 h4
                  rw [h.code _ _ _ _ _ h4]
                  exact hx
                · cases hx
              · cases hx
            · cases hx
          · cases hx
        · cases hx
      · cases hx
    · cases hx

theorem rec_succ : ∀ n, (rec K n).le (rec K (n + 1))
  | 0 => ⟨fun _ _ _ _ _ h => by simp [rec] at h, fun _ _ _ _ _ h => by simp [rec] at h, fun _ _ _ _ h => by simp [rec] at h, fun _ _ _ _ h => by simp [rec] at h⟩
  | n + 1 => stepRec_mono (rec_succ n)

theorem rec_le {n k : Nat} (h : n ≤ k) : (rec K n).le (rec K k) := by
  induction k with
  | zero => have : n = 0 := by omega
            subst this; exact Rec.le.refl _
  | succ k ih =>
    by_cases hk : n = k + 1
    · subst hk; exact Rec.le.refl _
    · exact (ih (by omega)).trans (rec_succ k)
end

/-! ### What is to be shown -/

/-- A mark: the rewriter leaves alone what it is a mark of. -/
def Hold {α : Sort _} (_ : α) : Type := Unit

def Cod (K : Ctx) (c : Code) (nt : Nat) (e : Env) (A : AHeap) (Q : AExit → Env → AHeap → Prop) (_ : Hold c := ()) (_ : Hold Q := ()) : Prop := ∃ n x e' A', (rec K n).code c nt e A = some (x, e', A') ∧ Q x e' A'
def Lop (K : Ctx) (c : Code) (nt : Nat) (e : Env) (A : AHeap) (Q : AExit → Env → AHeap → Prop) (_ : Hold c := ()) (_ : Hold Q := ()) : Prop := ∃ n x e' A', (rec K n).loop c nt e A = some (x, e', A') ∧ Q x e' A'
def Cal (K : Ctx) (g : FuncId) (as : Array Value) (A : AHeap) (Q : Value → AHeap → Prop) (_ : Hold Q := ()) : Prop := ∃ n v A', (rec K n).call g as A = some (v, A') ∧ Q v A'
/-- A call, by a contract or walked. -/
def CalF (K : Ctx) (g : FuncId) (as : Array Value) (A : AHeap) (Q : Value → AHeap → Prop) (_ : Hold Q := ()) : Prop := ∃ n v A', callF K (rec K n) g as A = some (v, A') ∧ Q v A'
def CalV (K : Ctx) (fv : Value) (as : Array Value) (A : AHeap) (Q : Value → AHeap → Prop) (_ : Hold Q := ()) : Prop := ∃ n v A', callV K (rec K n) fv as A = some (v, A') ∧ Q v A'
def Rnd (K : Ctx) (l : Nat) (as : Array Value) (A : AHeap) (Q : Value → AHeap → Prop) (_ : Hold Q := ()) : Prop := ∃ n v A', (rec K n).round l as A = some (v, A') ∧ Q v A'
def OpW (K : Ctx) (o : Op) (e : Env) (A : AHeap) (Q : Value → AHeap → Prop) (_ : Hold Q := ()) : Prop := ∃ n v A', evOp K (rec K n) o e A = some (v, A') ∧ Q v A'
def Ops (K : Ctx) (ops : Array Oper) (nt : Nat) (rest : List Oper) (e : Env) (A : AHeap) (Q : Env → AHeap → Prop) (_ : Hold ops := ()) (_ : Hold rest := ()) (_ : Hold Q := ()) : Prop := ∃ n e' A', evOps K (rec K n) ops nt rest e A = some (e', A') ∧ Q e' A'
def PutW (nt : Nat) (e : Env) (d : Option Tmp) (v : Value) (Q : Env → Prop) (_ : Hold e := ()) (_ : Hold Q := ()) : Prop := ∃ e', putD nt e d v = some e' ∧ Q e'

section
variable {K : Ctx}

theorem Cod.mono {c : Code} {nt : Nat} {e : Env} {A : AHeap} {Q Q' : AExit → Env → AHeap → Prop} (h : Cod K c nt e A Q) (hq : ∀ x e' A', Q x e' A' → Q' x e' A') : Cod K c nt e A Q' :=
  let ⟨n, x, e', A', a, b⟩ := h; ⟨n, x, e', A', a, hq _ _ _ b⟩
theorem Lop.mono {c : Code} {nt : Nat} {e : Env} {A : AHeap} {Q Q' : AExit → Env → AHeap → Prop} (h : Lop K c nt e A Q) (hq : ∀ x e' A', Q x e' A' → Q' x e' A') : Lop K c nt e A Q' :=
  let ⟨n, x, e', A', a, b⟩ := h; ⟨n, x, e', A', a, hq _ _ _ b⟩
theorem Cal.mono {g : FuncId} {as : Array Value} {A : AHeap} {Q Q' : Value → AHeap → Prop} (h : Cal K g as A Q) (hq : ∀ v A', Q v A' → Q' v A') : Cal K g as A Q' :=
  let ⟨n, v, A', a, b⟩ := h; ⟨n, v, A', a, hq _ _ b⟩
theorem CalF.mono {g : FuncId} {as : Array Value} {A : AHeap} {Q Q' : Value → AHeap → Prop} (h : CalF K g as A Q) (hq : ∀ v A', Q v A' → Q' v A') : CalF K g as A Q' :=
  let ⟨n, v, A', a, b⟩ := h; ⟨n, v, A', a, hq _ _ b⟩
theorem CalV.mono {g : Value} {as : Array Value} {A : AHeap} {Q Q' : Value → AHeap → Prop} (h : CalV K g as A Q) (hq : ∀ v A', Q v A' → Q' v A') : CalV K g as A Q' :=
  let ⟨n, v, A', a, b⟩ := h; ⟨n, v, A', a, hq _ _ b⟩
theorem Rnd.mono {g : Nat} {as : Array Value} {A : AHeap} {Q Q' : Value → AHeap → Prop} (h : Rnd K g as A Q) (hq : ∀ v A', Q v A' → Q' v A') : Rnd K g as A Q' :=
  let ⟨n, v, A', a, b⟩ := h; ⟨n, v, A', a, hq _ _ b⟩

theorem Cod_skip {nt : Nat} {e : Env} {A : AHeap} {Q : AExit → Env → AHeap → Prop} : Cod K .skip nt e A Q ↔ Q .normal e A := by
  constructor
  · rintro ⟨n, x, e', A', h, hq⟩
    cases n with
    | zero => simp [rec] at h
    | succ n => simp only [rec, stepRec, Option.some.injEq, Prod.mk.injEq] at h; obtain ⟨rfl, rfl, rfl⟩ := h; exact hq
  · intro h; exact ⟨1, .normal, e, A, rfl, h⟩
theorem Cod_ret {nt : Nat} {e : Env} {A : AHeap} {Q : AExit → Env → AHeap → Prop} : Cod K .ret nt e A Q ↔ Q .ret e A := by
  constructor
  · rintro ⟨n, x, e', A', h, hq⟩
    cases n with
    | zero => simp [rec] at h
    | succ n => simp only [rec, stepRec, Option.some.injEq, Prod.mk.injEq] at h; obtain ⟨rfl, rfl, rfl⟩ := h; exact hq
  · intro h; exact ⟨1, .ret, e, A, rfl, h⟩
theorem Cod_exit {id nt : Nat} {e : Env} {A : AHeap} {Q : AExit → Env → AHeap → Prop} : Cod K (.exit id) nt e A Q ↔ Q (.exit id) e A := by
  constructor
  · rintro ⟨n, x, e', A', h, hq⟩
    cases n with
    | zero => simp [rec] at h
    | succ n => simp only [rec, stepRec, Option.some.injEq, Prod.mk.injEq] at h; obtain ⟨rfl, rfl, rfl⟩ := h; exact hq
  · intro h; exact ⟨1, .exit id, e, A, rfl, h⟩

/-- On behind a piece that ends. -/
def Seq (K : Ctx) (b : Code) (nt : Nat) (Q : AExit → Env → AHeap → Prop) (_ : Hold b := ()) (_ : Hold Q := ()) : AExit → Env → AHeap → Prop
  | .normal, e, A => Cod K b nt e A Q
  | x, e, A => Q x e A
@[simp] theorem Seq_normal {b : Code} {nt : Nat} {e : Env} {A : AHeap} {Q : AExit → Env → AHeap → Prop} : Seq K b nt Q () () .normal e A = Cod K b nt e A Q := rfl
@[simp] theorem Seq_ret {b : Code} {nt : Nat} {e : Env} {A : AHeap} {Q : AExit → Env → AHeap → Prop} : Seq K b nt Q () () .ret e A = Q .ret e A := rfl
@[simp] theorem Seq_exit {b : Code} {nt id : Nat} {e : Env} {A : AHeap} {Q : AExit → Env → AHeap → Prop} : Seq K b nt Q () () (.exit id) e A = Q (.exit id) e A := rfl

theorem Cod_seq {a b : Code} {nt : Nat} {e : Env} {A : AHeap} {Q : AExit → Env → AHeap → Prop} : Cod K (.seq a b) nt e A Q ↔ Cod K a nt e A (Seq K b nt Q) := by
  constructor
  · rintro ⟨n, x, e', A', h, hq⟩
    cases n with
    | zero => simp [rec] at h
    | succ n =>
      simp only [rec, stepRec] at h
      split at h
      · rename_i e1 A1 h1
        exact ⟨n, _, _, _, h1, n, x, e', A', h, hq⟩
      · rename_i y hy
        refine ⟨n, _, _, _, h, ?_⟩
        cases x with
        | normal => exact (hy _ _ h).elim
        | ret => exact hq
        | exit id => exact hq
  · rintro ⟨n, x, e1, A1, h, hq⟩
    cases x with
    | normal =>
      obtain ⟨k, x, e', A', h2, hq⟩ := hq
      refine ⟨max n k + 1, x, e', A', ?_, hq⟩
      have h1 := (rec_le (K := K) (Nat.le_max_left n k)).code _ _ _ _ _ h
      have h3 := (rec_le (K := K) (Nat.le_max_right n k)).code _ _ _ _ _ h2
      simp only [rec, stepRec, h1, h3]
    | ret => exact ⟨n + 1, _, _, _, by simp only [rec, stepRec, h], hq⟩
    | exit id => exact ⟨n + 1, _, _, _, by simp only [rec, stepRec, h], hq⟩

theorem Cod_cond {o : Operand} {a b : Code} {nt : Nat} {e : Env} {A : AHeap} {Q : AExit → Env → AHeap → Prop} :
    Cod K (.cond o a b) nt e A Q ↔ okOpd o = true ∧ ((opv e o = .bool true ∧ Cod K a nt e A Q) ∨ (opv e o = .bool false ∧ Cod K b nt e A Q)) := by
  constructor
  · rintro ⟨n, x, e', A', h, hq⟩
    cases n with
    | zero => simp [rec] at h
    | succ n =>
      simp only [rec, stepRec] at h
      split at h
      · rename_i hok
        refine ⟨hok, ?_⟩
        split at h
        · rename_i hb; exact .inl ⟨hb, n, x, e', A', h, hq⟩
        · rename_i hb; exact .inr ⟨hb, n, x, e', A', h, hq⟩
        · cases h
      · cases h
  · rintro ⟨hok, ⟨hb, n, x, e', A', h, hq⟩ | ⟨hb, n, x, e', A', h, hq⟩⟩
    · exact ⟨n + 1, x, e', A', by simp only [rec, stepRec, hok, hb, if_true, h], hq⟩
    · exact ⟨n + 1, x, e', A', by simp only [rec, stepRec, hok, hb, if_true, h], hq⟩

/-- Behind a block. -/
def Blk (id : Nat) (Q : AExit → Env → AHeap → Prop) (_ : Hold Q := ()) : AExit → Env → AHeap → Prop
  | .exit id', e, A => if id' = id then Q .normal e A else Q (.exit id') e A
  | x, e, A => Q x e A
@[simp] theorem Blk_normal {id : Nat} {e : Env} {A : AHeap} {Q : AExit → Env → AHeap → Prop} : Blk id Q () .normal e A = Q .normal e A := rfl
@[simp] theorem Blk_ret {id : Nat} {e : Env} {A : AHeap} {Q : AExit → Env → AHeap → Prop} : Blk id Q () .ret e A = Q .ret e A := rfl
@[simp] theorem Blk_exit {id id' : Nat} {e : Env} {A : AHeap} {Q : AExit → Env → AHeap → Prop} : Blk id Q () (.exit id') e A = if id' = id then Q .normal e A else Q (.exit id') e A := rfl

theorem Cod_block {id : Nat} {b : Code} {nt : Nat} {e : Env} {A : AHeap} {Q : AExit → Env → AHeap → Prop} : Cod K (.block id b) nt e A Q ↔ Cod K b nt e A (Blk id Q) := by
  constructor
  · rintro ⟨n, x, e', A', h, hq⟩
    cases n with
    | zero => simp [rec] at h
    | succ n =>
      simp only [rec, stepRec] at h
      split at h
      · rename_i id' e1 A1 h1
        refine ⟨n, _, _, _, h1, ?_⟩
        simp only [Blk_exit]
        split at h
        · rename_i hid; simp only [Option.some.injEq, Prod.mk.injEq] at h; obtain ⟨rfl, rfl, rfl⟩ := h; rw [if_pos hid]; exact hq
        · rename_i hid; simp only [Option.some.injEq, Prod.mk.injEq] at h; obtain ⟨rfl, rfl, rfl⟩ := h; rw [if_neg hid]; exact hq
      · rename_i y hy
        refine ⟨n, _, _, _, h, ?_⟩
        cases x with
        | normal => exact hq
        | ret => exact hq
        | exit id' => exact (hy _ _ _ h).elim
  · rintro ⟨n, x, e', A', h, hq⟩
    cases x with
    | normal => exact ⟨n + 1, _, _, _, by simp only [rec, stepRec, h], hq⟩
    | ret => exact ⟨n + 1, _, _, _, by simp only [rec, stepRec, h], hq⟩
    | exit id' =>
      simp only [Blk_exit] at hq
      split at hq
      · rename_i hid; exact ⟨n + 1, .normal, e', A', by simp only [rec, stepRec, h, hid, if_true], hq⟩
      · rename_i hid; exact ⟨n + 1, .exit id', e', A', by simp only [rec, stepRec, h, hid, if_false], hq⟩

theorem Cod_loop {b : Code} {nt : Nat} {e : Env} {A : AHeap} {Q : AExit → Env → AHeap → Prop} : Cod K (.loop b) nt e A Q ↔ Lop K b nt e A Q := by
  constructor
  · rintro ⟨n, x, e', A', h, hq⟩
    cases n with
    | zero => simp [rec] at h
    | succ n => exact ⟨n, x, e', A', h, hq⟩
  · rintro ⟨n, x, e', A', h, hq⟩; exact ⟨n + 1, x, e', A', h, hq⟩

/-- Round the loop again. -/
def Lps (K : Ctx) (b : Code) (nt : Nat) (Q : AExit → Env → AHeap → Prop) (_ : Hold b := ()) (_ : Hold Q := ()) : AExit → Env → AHeap → Prop
  | .normal, e, A => Lop K b nt e A Q
  | x, e, A => Q x e A
@[simp] theorem Lps_normal {b : Code} {nt : Nat} {e : Env} {A : AHeap} {Q : AExit → Env → AHeap → Prop} : Lps K b nt Q () () .normal e A = Lop K b nt e A Q := rfl
@[simp] theorem Lps_ret {b : Code} {nt : Nat} {e : Env} {A : AHeap} {Q : AExit → Env → AHeap → Prop} : Lps K b nt Q () () .ret e A = Q .ret e A := rfl
@[simp] theorem Lps_exit {b : Code} {nt id : Nat} {e : Env} {A : AHeap} {Q : AExit → Env → AHeap → Prop} : Lps K b nt Q () () (.exit id) e A = Q (.exit id) e A := rfl

theorem Lop_round {b : Code} {nt : Nat} {e : Env} {A : AHeap} {Q : AExit → Env → AHeap → Prop} (h : Cod K b nt e A (Lps K b nt Q)) : Lop K b nt e A Q := by
  obtain ⟨n, x, e1, A1, h, hq⟩ := h
  cases x with
  | normal =>
    obtain ⟨k, x, e', A', h2, hq⟩ := hq
    refine ⟨max n k + 1, x, e', A', ?_, hq⟩
    have h1 := (rec_le (K := K) (Nat.le_max_left n k)).code _ _ _ _ _ h
    have h3 := (rec_le (K := K) (Nat.le_max_right n k)).loop _ _ _ _ _ h2
    simp only [rec, stepRec, h1, h3]
  | ret => exact ⟨n + 1, _, _, _, by simp only [rec, stepRec, h], hq⟩
  | exit id => exact ⟨n + 1, _, _, _, by simp only [rec, stepRec, h], hq⟩

/-- Behind a loop's round. -/
def LpQ (I : Nat → Env → AHeap → Prop) (k : Nat) (Q : AExit → Env → AHeap → Prop) (_ : Hold I := ()) (_ : Hold Q := ()) : AExit → Env → AHeap → Prop
  | .normal, e, A => ∃ k' < k, I k' e A
  | x, e, A => Q x e A
theorem LpQ_ret {I : Nat → Env → AHeap → Prop} {k : Nat} {Q : AExit → Env → AHeap → Prop} {e : Env} {A : AHeap} : LpQ I k Q () () .ret e A = Q .ret e A := rfl
theorem LpQ_exit {I : Nat → Env → AHeap → Prop} {k id : Nat} {Q : AExit → Env → AHeap → Prop} {e : Env} {A : AHeap} : LpQ I k Q () () (.exit id) e A = Q (.exit id) e A := rfl

/-- A loop by what holds ahead of each round, and how many rounds are left at most. -/
theorem Lop_inv {b : Code} {nt : Nat} {Q : AExit → Env → AHeap → Prop} (I : Nat → Env → AHeap → Prop) (h : ∀ k e A, I k e A → Cod K b nt e A (LpQ I k Q)) :
    ∀ k e A, I k e A → Lop K b nt e A Q := by
  intro k
  induction k using Nat.strongRecOn with
  | ind k ih =>
    intro e A hI
    refine Lop_round ((h k e A hI).mono fun x e' A' hx => ?_)
    cases x with
    | normal => obtain ⟨k', hk, hI'⟩ := hx; exact ih k' hk e' A' hI'
    | ret => exact hx
    | exit id => exact hx

/-! ### Regions -/

theorem Ops_nil {ops : Array Oper} {nt : Nat} {e : Env} {A : AHeap} {Q : Env → AHeap → Prop} : Ops K ops nt [] e A Q ↔ Q e A := by
  constructor
  · rintro ⟨n, e', A', h, hq⟩
    simp only [evOps, Option.some.injEq, Prod.mk.injEq] at h
    obtain ⟨rfl, rfl⟩ := h
    exact hq
  · intro h; exact ⟨0, e, A, rfl, h⟩

theorem Ops_cons {ops : Array Oper} {nt : Nat} {d : Option Tmp} {o : Op} {ty : TypeId} {pos : String} {after : Array Edge} {rest : List Oper} {e : Env} {A : AHeap} {Q : Env → AHeap → Prop} :
    Ops K ops nt ({ dst := d, op := o, type := ty, pos := pos, after := after, guard := none } :: rest) e A Q ↔ OpW K o e A fun v A' => PutW nt e d v fun e' => Ops K ops nt rest e' A' Q := by
  constructor
  · rintro ⟨n, e', A', h, hq⟩
    simp only [evOps] at h
    split at h
    · split at h
      · rename_i v A1 hv
        split at h
        · rename_i e1 he1
          exact ⟨n, v, A1, hv, e1, he1, n, e', A', h, hq⟩
        · cases h
      · cases h
    · rename_i hw; exact absurd rfl hw
  · rintro ⟨n, v, A1, hv, e1, he1, k, e', A', h, hq⟩
    refine ⟨max n k, e', A', ?_, hq⟩
    have h1 := evOp_mono (rec_le (K := K) (Nat.le_max_left n k)) hv
    have h3 := evOps_mono (rec_le (K := K) (Nat.le_max_right n k)) _ _ _ _ h
    simp only [evOps, Region.wanted, if_true, h1, he1, h3]

/-- Of two ways the one that the condition says. -/
def Grd (c p q : Prop) (_ : Hold p := ()) (_ : Hold q := ()) : Prop := (c ∧ p) ∨ (¬ c ∧ q)

theorem Ops_guard {ops : Array Oper} {nt j : Nat} {want : Bool} {d : Option Tmp} {o : Op} {ty : TypeId} {pos : String} {after : Array Edge} {rest : List Oper} {e : Env} {A : AHeap} {Q : Env → AHeap → Prop} :
    Ops K ops nt ({ dst := d, op := o, type := ty, pos := pos, after := after, guard := some (j, want) } :: rest) e A Q ↔
      Grd (yieldedA ops e j = some want) (OpW K o e A fun v A' => PutW nt e d v fun e' => Ops K ops nt rest e' A' Q) (PutW nt e d undef fun e' => Ops K ops nt rest e' A Q) := by
  have hG : ∀ (c p q : Prop) [Decidable c], Grd c p q ↔ if c then p else q := by
    intro c p q _
    by_cases h : c <;> simp [Grd, h]
  rw [hG]
  constructor
  · rintro ⟨n, e', A', h, hq⟩
    simp only [evOps] at h
    split at h
    · rename_i hw
      simp only [Region.wanted, beq_iff_eq] at hw
      rw [if_pos hw]
      split at h
      · rename_i v A1 hv
        split at h
        · rename_i e1 he1
          exact ⟨n, v, A1, hv, e1, he1, n, e', A', h, hq⟩
        · cases h
      · cases h
    · rename_i hw
      simp only [Region.wanted, beq_iff_eq] at hw
      rw [if_neg hw]
      split at h
      · rename_i e1 he1
        exact ⟨e1, he1, n, e', A', h, hq⟩
      · cases h
  · intro h
    split at h
    · rename_i hw
      obtain ⟨n, v, A1, hv, e1, he1, k, e', A', h, hq⟩ := h
      refine ⟨max n k, e', A', ?_, hq⟩
      have h1 := evOp_mono (rec_le (K := K) (Nat.le_max_left n k)) hv
      have h3 := evOps_mono (rec_le (K := K) (Nat.le_max_right n k)) _ _ _ _ h
      simp only [evOps, Region.wanted, hw, beq_self_eq_true, if_true, h1, he1, h3]
    · rename_i hw
      obtain ⟨e1, he1, n, e', A', h, hq⟩ := h
      refine ⟨n, e', A', ?_, hq⟩
      have : (yieldedA ops e j == some want) = false := by simpa using hw
      simp only [evOps, Region.wanted, this, Bool.false_eq_true, if_false, he1, h]

theorem Cod_region {id : Nat} {ops : Array Oper} {nt : Nat} {e : Env} {A : AHeap} {Q : AExit → Env → AHeap → Prop} : Cod K (.region id ops false) nt e A Q ↔ Ops K ops nt ops.toList e A (Q .normal) := by
  constructor
  · rintro ⟨n, x, e', A', h, hq⟩
    cases n with
    | zero => simp [rec] at h
    | succ n =>
      simp only [rec, stepRec, Bool.false_eq_true, if_false] at h
      split at h
      · rename_i e1 A1 h1
        simp only [Option.some.injEq, Prod.mk.injEq] at h
        obtain ⟨rfl, rfl, rfl⟩ := h
        exact ⟨n, _, _, h1, hq⟩
      · cases h
  · rintro ⟨n, e', A', h, hq⟩
    exact ⟨n + 1, .normal, e', A', by simp only [rec, stepRec, Bool.false_eq_true, if_false, h], hq⟩

theorem PutW_some {nt : Nat} {e : Env} {d : Tmp} {v : Value} {Q : Env → Prop} : PutW nt e (some d) v Q ↔ d < nt ∧ Q (e.put d v) := by
  unfold PutW putD
  constructor
  · rintro ⟨e', h, hq⟩
    simp only at h
    split at h
    · rename_i hd; simp only [Option.some.injEq] at h; subst h; exact ⟨hd, hq⟩
    · cases h
  · rintro ⟨hd, hq⟩; exact ⟨_, if_pos hd, hq⟩
theorem PutW_none {nt : Nat} {e : Env} {v : Value} {Q : Env → Prop} : PutW nt e none v Q ↔ Q e := by
  unfold PutW putD
  constructor
  · rintro ⟨e', h, hq⟩; simp only [Option.some.injEq] at h; subst h; exact hq
  · intro hq; exact ⟨_, rfl, hq⟩
end
end Go.Sh

/- Shadow, part 19: single operations, calls, rounds, ranges over functions: what is to be shown. -/
namespace Go.Sh
open Go

section
variable {K : Ctx}

/-- An operation that calls nobody. -/
def evB (P : Program) (o : Op) (ρ : Operand → Value) (A : AHeap) : Option (Value × AHeap) :=
  match aPure P o ρ with
  | some v => some (v, A)
  | none =>
    match aRead P A o ρ with
    | some v => some (v, A)
    | none => aEff P A o ρ

def isCallV : Op → Bool
  | .call { callee := .value _, .. } => true
  | _ => false

theorem evOp_b {r : Rec} {o : Op} (h : isCallV o = false) {e : Env} {A : AHeap} : evOp K r o e A = if o.operands.toList.all okOpd then evB K.P o (opv e) A else none := by
  unfold evOp
  split
  · split
    · simp [isCallV] at h
    · rfl
  · rfl

theorem OpW_b {o : Op} (h : isCallV o = false) {e : Env} {A : AHeap} {Q : Value → AHeap → Prop} : OpW K o e A Q ↔ o.operands.toList.all okOpd = true ∧ ∃ v A', evB K.P o (opv e) A = some (v, A') ∧ Q v A' := by
  unfold OpW
  constructor
  · rintro ⟨n, v, A', h1, hq⟩
    rw [evOp_b h] at h1
    split at h1
    · rename_i hok; exact ⟨hok, v, A', h1, hq⟩
    · cases h1
  · rintro ⟨hok, v, A', h1, hq⟩
    exact ⟨0, v, A', by rw [evOp_b h, if_pos hok]; exact h1, hq⟩

/-- What looks at no memory. -/
theorem OpW_pure {o : Op} {e : Env} {A : AHeap} {Q : Value → AHeap → Prop} {v : Value} (h : isCallV o = false) (hok : o.operands.toList.all okOpd = true) (hv : aPure K.P o (opv e) = some v) (hq : Q v A) : OpW K o e A Q :=
  (OpW_b h).2 ⟨hok, v, A, by simp only [evB, hv], hq⟩

theorem OpW_call {f : Operand} {xs : Array Operand} {tys : Array TypeId} {e : Env} {A : AHeap} {Q : Value → AHeap → Prop} :
    OpW K (.call { callee := .value f, args := xs, argTypes := tys }) e A Q ↔ (Op.call { callee := .value f, args := xs, argTypes := tys }).operands.toList.all okOpd = true ∧ CalV K (opv e f) (xs.map (opv e)) A Q := by
  unfold OpW CalV evOp
  constructor
  · rintro ⟨n, v, A', h1, hq⟩
    split at h1
    · rename_i hok; exact ⟨hok, n, v, A', h1, hq⟩
    · cases h1
  · rintro ⟨hok, n, v, A', h1, hq⟩
    exact ⟨n, v, A', by rw [if_pos hok]; exact h1, hq⟩

theorem CalV_func {g : FuncId} {fs cs as : Array Value} {A : AHeap} {Q : Value → AHeap → Prop} : CalV K (.func (.func g) fs cs) as A Q ↔ CalF K g (fs ++ as ++ cs) A Q := Iff.rfl
theorem CalV_yield {l : Nat} {fs cs as : Array Value} {A : AHeap} {Q : Value → AHeap → Prop} : CalV K (.func (.yield l) fs cs) as A Q ↔ Rnd K l (fs ++ as) A Q := Iff.rfl

theorem CalF_cal {g : FuncId} {as : Array Value} {A : AHeap} {Q : Value → AHeap → Prop} (h : K.prim g as A = none) : CalF K g as A Q ↔ Cal K g as A Q := by
  unfold CalF Cal callF
  rw [h]
theorem CalF_prim {g : FuncId} {as : Array Value} {A A' : AHeap} {v : Value} {Q : Value → AHeap → Prop} (h : K.prim g as A = some (v, A')) (hq : Q v A') : CalF K g as A Q :=
  ⟨0, v, A', by unfold callF; rw [h], hq⟩

/-- What a function's end hands back. -/
def Ret (K : Ctx) (rs : List ResultVar) (Q : Value → AHeap → Prop) (_ : Hold Q := ()) : AExit → Env → AHeap → Prop
  | .exit _, _, _ => False
  | _, e, A => ∃ vs, aResults K A e rs = some vs ∧ Q (oneOr vs) A

def argEnv (as : Array Value) : Env := fun t => as.getD t undef

theorem Cal_of {g : FuncId} {fn : Func} {c : Code} {as : Array Value} {A : AHeap} {Q : Value → AHeap → Prop} {nt : Nat} {rs : List ResultVar} (hf : K.funcs g = some fn) (hb : fn.body = some c)
    (hn : fn.ntmps = nt) (hrs : fn.results.toList = rs) (hs : as.size ≤ nt) (h : Cod K c nt (argEnv as) A (Ret K rs Q)) : Cal K g as A Q := by
  subst hn; subst hrs
  obtain ⟨n, x, e', A', h, hq⟩ := h
  cases x with
  | exit id => exact hq.elim
  | normal =>
    obtain ⟨vs, h1, h2⟩ := hq
    exact ⟨n + 1, oneOr vs, A', by simp only [rec, stepRec, hf, hb, hs, if_true]; unfold argEnv at h; rw [h]; simp [h1], h2⟩
  | ret =>
    obtain ⟨vs, h1, h2⟩ := hq
    exact ⟨n + 1, oneOr vs, A', by simp only [rec, stepRec, hf, hb, hs, if_true]; unfold argEnv at h; rw [h]; simp [h1], h2⟩

/-! ### Rounds -/

def Rd2 (l : Nat) (Q : Value → AHeap → Prop) : AExit → Env → AHeap → Prop
  | x, _, A => ∃ lo, getLoopA A l = some lo ∧ Q (.bool x.jump.isNone) (A.set l (.loop { lo with state := if x.jump.isNone then .ready else .done, pending := x.jump }))

def Rd1 (K : Ctx) (l : Nat) (body : Code) (nt : Nat) (Q : Value → AHeap → Prop) : AExit → Env → AHeap → Prop
  | .normal, e, A => ∃ lo, getLoopA A l = some lo ∧ lo.state = .ready ∧ Cod K body nt e (A.set l (.loop { lo with state := .busy })) (Rd2 l Q)
  | _, _, _ => False

theorem Rnd_of {l : Nat} {lo : ALoop} {as : Array Value} {A : AHeap} {Q : Value → AHeap → Prop} {e1 : Env} (hl : getLoopA A l = some lo) (hs : as.size = lo.params.size)
    (hb : bindAll lo.nt lo.env lo.params.toList as.toList = some e1) (h : Cod K lo.assign lo.nt e1 A (Rd1 K l lo.body lo.nt Q)) : Rnd K l as A Q := by
  obtain ⟨n, x, e2, A2, h, hq⟩ := h
  cases x with
  | exit id => exact hq.elim
  | ret => exact hq.elim
  | normal =>
    obtain ⟨lo2, h1, h2, k, x, e4, A4, h3, lo4, h4, h5⟩ := hq
    refine ⟨max n k + 1, _, _, ?_, h5⟩
    have i1 := (rec_le (K := K) (Nat.le_max_left n k)).code _ _ _ _ _ h
    have i3 := (rec_le (K := K) (Nat.le_max_right n k)).code _ _ _ _ _ h3
    simp only [rec, stepRec, hl, hs, if_true, hb, i1, h1, h2, i3, h4]

/-- Behind a range over a function. -/
def Rng (l : Nat) (e : Env) (Q : AExit → Env → AHeap → Prop) : Value → AHeap → Prop := fun _ A2 =>
  ∃ lo, getLoopA A2 l = some lo ∧ lo.state ≠ .busy ∧
    (match lo.pending with
    | none => Q .normal e (A2.set l (.loop { lo with state := .exhausted }))
    | some .ret => Q .ret e (A2.set l (.loop { lo with state := .exhausted }))
    | some (.exit id) => Q (.exit id) e (A2.set l (.loop { lo with state := .exhausted }))
    | _ => False)

theorem Cod_rangeFunc {f : Operand} {ps : Array Tmp} {assign body : Code} {nt : Nat} {e : Env} {A : AHeap} {Q : AExit → Env → AHeap → Prop} {g : FuncId} {fs cs : Array Value} (hok : okOpd f = true)
    (hf : opv e f = .func (.func g) fs cs) (h : Cal K g (fs ++ #[.func (.yield A.next) #[] #[]] ++ cs) (A.alloc (.loop ⟨.ready, none, e, nt, ps, assign, body⟩)) (Rng A.next e Q)) :
    Cod K (.rangeFunc f ps assign body) nt e A Q := by
  obtain ⟨n, v, A2, h, lo, h1, h2, h3⟩ := h
  split at h3
  · rename_i hp
    exact ⟨n + 1, .normal, e, _, by simp only [rec, stepRec, hok, hf, if_true, h, h1, h2, if_false, hp], h3⟩
  · rename_i hp
    exact ⟨n + 1, .ret, e, _, by simp only [rec, stepRec, hok, hf, if_true, h, h1, h2, if_false, hp], h3⟩
  · rename_i id hp
    exact ⟨n + 1, .exit id, e, _, by simp only [rec, stepRec, hok, hf, if_true, h, h1, h2, if_false, hp], h3⟩
  · exact h3.elim

/-! ### Regions that draw -/

theorem aEff_none {P : Program} {o : Op} (hc : isCallV o = false) (h : kindS P o ≠ 3) (A : AHeap) (ρ : Operand → Value) : aEff P A o ρ = none := by
  cases o with
  | call c =>
    obtain ⟨cal, xs, tys⟩ := c
    cases cal with
    | value f => simp [isCallV] at hc
    | builtin b => cases b <;> first | (simp [kindS] at h; done) | (simp only [aEff]; done) | (simp only [aEff]; split <;> simp_all)
    | _ => simp [aEff]
  | convert s d x =>
    simp only [aEff, aStrBytes]
    split
    · rename_i e str hs hd hx
      exact absurd (by simp [kindS, hd]) h
    · rfl
  | _ => first | rfl | (simp [kindS] at h; done)

theorem aRead_none {P : Program} {o : Op} (h : kindS P o = 1) (A : AHeap) (ρ : Operand → Value) : aRead P A o ρ = none := by
  cases o with
  | convert s d x => simp only [kindS] at h; split at h <;> cases h
  | _ => first | rfl | (simp [kindS] at h; done)

theorem evK_eq {r : Rec} {o : Op} {e : Env} {A : AHeap} : evK K r o e A = evOp K r o e A := by
  unfold evK
  split
  · rfl
  · rename_i hk
    have hcall : isCallV o = false := by
      cases o with
      | call c =>
        obtain ⟨cal, xs, tys⟩ := c
        cases cal with
        | value f => simp [kindS] at hk
        | _ => rfl
      | _ => rfl
    rw [evOp_b hcall]
    split
    · unfold evB
      rw [aEff_none hcall hk]
      split
      · rename_i h1
        rw [aRead_none h1]
        cases aPure K.P o (opv e) <;> rfl
      · unfold evPR
        cases aPure K.P o (opv e) with
        | some v => rfl
        | none => cases aRead K.P A o (opv e) <;> rfl
    · rfl

theorem evTrace_ops {r : Rec} {ops : Array Oper} {nt : Nat} : ∀ (rest : List Oper) (e : Env) (A : AHeap), (evTrace K r ops nt rest e A).map (·.2) = evOps K r ops nt rest e A := by
  intro rest
  induction rest with
  | nil => intro e A; rfl
  | cons o rest ih =>
    intro e A
    simp only [evTrace, evOps, evK_eq]
    split
    · cases evOp K r o.op e A with
      | none => rfl
      | some x =>
        obtain ⟨v, A1⟩ := x
        simp only
        cases putD nt e o.dst v with
        | none => rfl
        | some e1 =>
          simp only [← ih e1 A1]
          cases evTrace K r ops nt rest e1 A1 with
          | none => rfl
          | some x => rfl
    · cases putD nt e o.dst undef with
      | none => rfl
      | some e1 =>
        simp only [← ih e1 A]
        cases evTrace K r ops nt rest e1 A with
        | none => rfl
        | some x => rfl

/-- A region that draws, of which no reading operation's place is open. -/
theorem Cod_draw {id : Nat} {ops : Array Oper} {nt : Nat} {e : Env} {A : AHeap} {Q : AExit → Env → AHeap → Prop} (hd : drawOk K.P ops = true) (ho : openPairs K.P ops = []) :
    Cod K (.region id ops true) nt e A Q ↔ Ops K ops nt ops.toList e A (Q .normal) := by
  have key : ∀ r : Rec, evDraw K r ops nt e A = evOps K r ops nt ops.toList e A := by
    intro r
    rw [← evTrace_ops]
    unfold evDraw
    rw [if_pos hd]
    cases evTrace K r ops nt ops.toList e A with
    | none => rfl
    | some x => obtain ⟨T, eN, AN⟩ := x; simp [ho]
  constructor
  · rintro ⟨n, x, e', A', h, hq⟩
    cases n with
    | zero => simp [rec] at h
    | succ n =>
      simp only [rec, stepRec, if_true] at h
      rw [key] at h
      split at h
      · rename_i e1 A1 h1
        simp only [Option.some.injEq, Prod.mk.injEq] at h
        obtain ⟨rfl, rfl, rfl⟩ := h
        exact ⟨n, _, _, h1, hq⟩
      · cases h
  · rintro ⟨n, e', A', h, hq⟩
    refine ⟨n + 1, .normal, e', A', ?_, hq⟩
    simp only [rec, stepRec, if_true]
    rw [key, h]
end
end Go.Sh

/- Shadow, part 20: single operations, in a form that rewrites. -/
namespace Go.Sh
set_option linter.unusedSimpArgs false
open Go

/-- There is an answer, and of it holds .. -/
def Out {α : Type} (o : Option α) (Q : α → Prop) (_ : Hold Q := ()) : Prop := ∃ v, o = some v ∧ Q v

section
variable {α β : Type}
theorem Out_some {v : α} {Q : α → Prop} : Out (some v) Q ↔ Q v := ⟨fun ⟨_, h, q⟩ => by cases h; exact q, fun q => ⟨v, rfl, q⟩⟩
theorem Out_none {Q : α → Prop} : Out none Q ↔ False := ⟨fun ⟨_, h, _⟩ => (by cases h), False.elim⟩
theorem Out_map {o : Option α} {f : α → β} {Q : β → Prop} : Out (o.map f) Q ↔ Out o fun a => Q (f a) := by
  cases o with
  | none => simp [Out]
  | some a => simp [Out]
theorem Out_guard {c : Prop} [Decidable c] {o : Option α} {Q : α → Prop} : Out (if c then o else none) Q ↔ c ∧ Out o Q := by
  by_cases h : c
  · simp [h]
  · simp [h, Out]
theorem Out_guard' {c : Prop} [Decidable c] {o : Option α} {Q : α → Prop} : Out (if c then none else o) Q ↔ ¬ c ∧ Out o Q := by
  by_cases h : c
  · simp [h, Out]
  · simp [h]
theorem Out_of {o : Option α} {Q : α → Prop} {v : α} (h : o = some v) (q : Q v) : Out o Q := ⟨v, h, q⟩
end

section
variable {K : Ctx}
theorem Ret_ret {rs : List ResultVar} {Q : Value → AHeap → Prop} {e : Env} {A : AHeap} : Ret K rs Q () .ret e A ↔ Out (aResults K A e rs) fun vs => Q (oneOr vs) A := Iff.rfl
theorem Ret_normal {rs : List ResultVar} {Q : Value → AHeap → Prop} {e : Env} {A : AHeap} : Ret K rs Q () .normal e A ↔ Out (aResults K A e rs) fun vs => Q (oneOr vs) A := Iff.rfl
theorem aResults_nil {A : AHeap} {e : Env} : aResults K A e [] = some [] := rfl
theorem aResults_tmp {A : AHeap} {e : Env} {t : Tmp} {rs : List ResultVar} : aResults K A e (.tmp t :: rs) = (aResults K A e rs).map (e t :: ·) := by
  simp only [aResults, aResult]; cases aResults K A e rs <;> rfl
theorem aResults_cell {A : AHeap} {e : Env} {a : Tmp} {t : TypeId} {rs : List ResultVar} {v : Value} (h : aLoadVar K.P A t (e a) = some v) : aResults K A e (.cell a t :: rs) = (aResults K A e rs).map (v :: ·) := by
  simp only [aResults, aResult, h]; cases aResults K A e rs <;> rfl
theorem oneOr_one {v : Value} : oneOr [v] = v := rfl
theorem oneOr_nil : oneOr [] = .tuple #[] := rfl
theorem oneOr_two {u v : Value} : oneOr [u, v] = .tuple #[u, v] := rfl

/-! ### Conditions -/

/-- Which way. -/
def Way (v : Value) (p q : Prop) (_ : Hold p := ()) (_ : Hold q := ()) : Prop := (v = .bool true ∧ p) ∨ (v = .bool false ∧ q)
theorem Way_true {p q : Prop} : Way (.bool true) p q ↔ p := by simp [Way]
theorem Way_false {p q : Prop} : Way (.bool false) p q ↔ q := by simp [Way]
theorem Way_dec {c : Prop} [Decidable c] {p q : Prop} : Way (.bool (decide c)) p q ↔ (c → p) ∧ (¬ c → q) := by
  by_cases h : c <;> simp [Way, h]
theorem Way_bool {b : Bool} {p q : Prop} : Way (.bool b) p q ↔ (b = true → p) ∧ (b = false → q) := by
  cases b <;> simp [Way]
theorem Grd_true {p q : Prop} : Grd True p q ↔ p := by simp [Grd]
theorem Grd_false {p q : Prop} : Grd False p q ↔ q := by simp [Grd]
theorem Grd_of {c p q : Prop} (h : c → p) (k : ¬ c → q) : Grd c p q := by
  by_cases hc : c
  · exact .inl ⟨hc, h hc⟩
  · exact .inr ⟨hc, k hc⟩
theorem Way_of {c : Prop} [Decidable c] {p q : Prop} (h : c → p) (k : ¬ c → q) : Way (.bool (decide c)) p q := Way_dec.2 ⟨h, k⟩
theorem Way_ofB {b : Bool} {p q : Prop} (h : b = true → p) (k : b = false → q) : Way (.bool b) p q := Way_bool.2 ⟨h, k⟩
theorem Cod_way {o : Operand} {a b : Code} {nt : Nat} {e : Env} {A : AHeap} {Q : AExit → Env → AHeap → Prop} :
    Cod K (.cond o a b) nt e A Q ↔ okOpd o = true ∧ Way (opv e o) (Cod K a nt e A Q) (Cod K b nt e A Q) := Cod_cond

/-! ### Operations -/
section
variable {e : Env} {A : AHeap} {Q : Value → AHeap → Prop}

theorem OpW_evB {o : Op} (h : isCallV o = false) : OpW K o e A Q ↔ o.operands.toList.all okOpd = true ∧ Out (evB K.P o (opv e) A) fun p => Q p.1 p.2 := by
  rw [OpW_b h]
  unfold Out
  constructor
  · rintro ⟨h1, v, A', h2, h3⟩; exact ⟨h1, (v, A'), h2, h3⟩
  · rintro ⟨h1, ⟨v, A'⟩, h2, h3⟩; exact ⟨h1, v, A', h2, h3⟩

theorem OpW_pure' {o : Op} (h : isCallV o = false) (h2 : aRead K.P A o (opv e) = none) (h3 : aEff K.P A o (opv e) = none) :
    OpW K o e A Q ↔ o.operands.toList.all okOpd = true ∧ Out (aPure K.P o (opv e)) fun v => Q v A := by
  rw [OpW_evB h]
  unfold evB
  rw [h2, h3]
  cases aPure K.P o (opv e) <;> simp [Out]
theorem OpW_read' {o : Op} (h : isCallV o = false) (h2 : aPure K.P o (opv e) = none) (h3 : aEff K.P A o (opv e) = none) :
    OpW K o e A Q ↔ o.operands.toList.all okOpd = true ∧ Out (aRead K.P A o (opv e)) fun v => Q v A := by
  rw [OpW_evB h]
  unfold evB
  rw [h2, h3]
  cases aRead K.P A o (opv e) <;> simp [Out]
theorem OpW_eff' {o : Op} (h : isCallV o = false) (h2 : aPure K.P o (opv e) = none) (h3 : aRead K.P A o (opv e) = none) :
    OpW K o e A Q ↔ o.operands.toList.all okOpd = true ∧ Out (aEff K.P A o (opv e)) fun p => Q p.1 p.2 := by
  rw [OpW_evB h]
  unfold evB
  rw [h2, h3]

theorem OpW_move {x : Operand} : OpW K (.move x) e A Q ↔ okOpd x = true ∧ Q (opv e x) A := by
  rw [OpW_pure' rfl rfl rfl]; simp [Op.operands, aPure, Out]
theorem OpW_assign {x : Operand} : OpW K (.assign x) e A Q ↔ okOpd x = true ∧ Q (opv e x) A := by
  rw [OpW_pure' rfl rfl rfl]; simp [Op.operands, aPure, Out]
theorem OpW_pick {c a b : Operand} : OpW K (.pick c a b) e A Q ↔ (okOpd c = true ∧ okOpd a = true ∧ okOpd b = true) ∧
    Out (match opv e c with | .bool t => some (if t then opv e a else opv e b) | _ => none) fun v => Q v A := by
  rw [OpW_pure' rfl rfl rfl]; exact and_congr (by simp [Op.operands]) Iff.rfl
theorem OpW_nilCheck {x : Operand} : OpW K (.nilCheck x) e A Q ↔ okOpd x = true ∧ Out (match opv e x with
    | .pointer (some a) => some (.pointer (some a))
    | .func (.func f) fs cs => some (.func (.func f) fs cs)
    | .iface t v => some (.iface t v)
    | _ => none) fun v => Q v A := by
  rw [OpW_pure' rfl rfl rfl]; exact and_congr (by simp [Op.operands]) Iff.rfl
theorem OpW_bin {op : BinOp} {t s : TypeId} {x y : Operand} : OpW K (.binOp op t x y s) e A Q ↔ (okOpd x = true ∧ okOpd y = true) ∧ Out (aBin K.P op t (isConst x || isConst y) (opv e x) (opv e y)) fun v => Q v A := by
  rw [OpW_pure' rfl rfl rfl]; exact and_congr (by simp [Op.operands]) Iff.rfl
theorem OpW_un {op : UnOp} {t : TypeId} {x : Operand} : OpW K (.unOp op t x) e A Q ↔ okOpd x = true ∧ Out (aUn op (opv e x)) fun v => Q v A := by
  rw [OpW_pure' rfl rfl rfl]; exact and_congr (by simp [Op.operands]) Iff.rfl
theorem OpW_mkI {t : TypeId} {x : Operand} : OpW K (.makeInterface t x) e A Q ↔ okOpd x = true ∧ Out (match K.P.underlying t with
    | some (.interface _) => none
    | some _ => some (.iface t (opv e x))
    | none => none) fun v => Q v A := by
  rw [OpW_pure' rfl rfl rfl]; exact and_congr (by simp [Op.operands]) Iff.rfl
theorem OpW_mkF {f : FuncId} {first captured : Array Operand} : OpW K (.makeFunc (.func f) first captured) e A Q ↔ (Op.makeFunc (.func f) first captured).operands.toList.all okOpd = true ∧ Q (.func (.func f) (first.map (opv e)) (captured.map (opv e))) A := by
  rw [OpW_pure' rfl rfl rfl]; simp [aPure, Out]
theorem OpW_fieldAddr {s f : Nat} {x : Operand} : OpW K (.fieldAddr s x f) e A Q ↔ okOpd x = true ∧ Out (aPure K.P (.fieldAddr s x f) (opv e)) fun v => Q v A := by
  rw [OpW_pure' rfl rfl rfl]; simp [Op.operands]
theorem OpW_field {s f : Nat} {x : Operand} : OpW K (.field s x f) e A Q ↔ okOpd x = true ∧ Out (aPure K.P (.field s x f) (opv e)) fun v => Q v A := by
  rw [OpW_pure' rfl rfl rfl]; simp [Op.operands]
theorem OpW_indexAddr {t : Nat} {x ix : Operand} : OpW K (.indexAddr t x ix) e A Q ↔ (okOpd x = true ∧ okOpd ix = true) ∧ Out (aPure K.P (.indexAddr t x ix) (opv e)) fun v => Q v A := by
  rw [OpW_pure' rfl rfl rfl]; simp [Op.operands]
theorem OpW_index {t : Nat} {x ix : Operand} : OpW K (.index t x ix) e A Q ↔ (okOpd x = true ∧ okOpd ix = true) ∧ Out (aPure K.P (.index t x ix) (opv e)) fun v => Q v A := by
  rw [OpW_pure' rfl rfl rfl]; simp [Op.operands]
theorem OpW_extract {x : Operand} {i : Nat} : OpW K (.extract x i) e A Q ↔ okOpd x = true ∧ Out (match opv e x with | .tuple vs => vs[i]? | _ => none) fun v => Q v A := by
  rw [OpW_pure' rfl rfl rfl]; exact and_congr (by simp [Op.operands]) Iff.rfl
theorem OpW_build {t : TypeId} {parts : Array (Nat × Operand)} : OpW K (.build t parts) e A Q ↔ (Op.build t parts).operands.toList.all okOpd = true ∧ Out (aBuild K.P t (parts.toList.map fun (i, x) => (i, opv e x))) fun v => Q v A := by
  rw [OpW_pure' rfl rfl rfl]; rfl
theorem OpW_len {x : Operand} {t : TypeId} : OpW K (.call { callee := .builtin .len, args := #[x], argTypes := #[t] }) e A Q ↔ okOpd x = true ∧ Out (aLen K.P t (opv e x)) fun v => Q v A := by
  rw [OpW_pure' rfl rfl rfl]; simp [Op.operands, Call.operands, aPure, aPureCall]
theorem OpW_load {t : Nat} {a : Operand} : OpW K (.load t a) e A Q ↔ okOpd a = true ∧ Out (aLoadVar K.P A t (opv e a)) fun v => Q v A := by
  rw [OpW_read' rfl rfl rfl]; simp [Op.operands, aRead]
theorem OpW_store {t : Nat} {a x : Operand} : OpW K (.store t a x) e A Q ↔ (okOpd a = true ∧ okOpd x = true) ∧ Out (aStoreVar K.P A t (opv e a) (opv e x)) fun A' => Q undef A' := by
  rw [OpW_eff' rfl rfl rfl]; simp only [aEff, Out_map]; simp [Op.operands]
theorem OpW_box {t : Nat} {x : Operand} : OpW K (.box t x) e A Q ↔ okOpd x = true ∧ Out (aNew K.P A t (opv e x)) fun p => Q p.1 p.2 := by
  rw [OpW_eff' rfl rfl rfl]; simp [Op.operands, aEff]
theorem OpW_alloc {t : Nat} : OpW K (.alloc t) e A Q ↔ Out (tzero K.P t) fun z => Out (if z.cells.toList.all simple then aNew K.P A t z else none) fun p => Q p.1 p.2 := by
  rw [OpW_eff' rfl rfl rfl]
  simp only [aEff]
  cases tzero K.P t with
  | none => simp [Op.operands, Out]
  | some z => simp [Op.operands, Out]
theorem OpW_buildSlice {t n : Nat} {parts : Array (Nat × Operand)} : OpW K (.buildSlice t n parts) e A Q ↔ (Op.buildSlice t n parts).operands.toList.all okOpd = true ∧
    Out (aBuildSlice K.P A t n (parts.toList.map fun (i, x) => (i, opv e x))) fun p => Q p.1 p.2 := by
  rw [OpW_eff' rfl rfl rfl]; rfl
theorem OpW_append {s x : Operand} {t tx : TypeId} : OpW K (.call { callee := .builtin .append, args := #[s, x], argTypes := #[t, tx] }) e A Q ↔ (okOpd s = true ∧ okOpd x = true) ∧
    Out (aAppend K.P A [t, tx] (opv e s) (opv e x)) fun p => Q p.1 p.2 := by
  rw [OpW_eff' rfl rfl rfl]; simp [Op.operands, Call.operands, aEff]
end
end

@[simp] theorem opv_tmp (e : Env) (t : Tmp) : opv e (.tmp t) = e t := rfl
@[simp] theorem opv_const (e : Env) (v : Value) : opv e (.const v) = v := rfl
@[simp] theorem opv_func (e : Env) (f : FuncId) : opv e (.func f) = .func (.func f) #[] #[] := rfl
theorem put_at (e : Env) (d t : Nat) (v : Value) : Env.put e d v t = if t = d then v else e t := rfl
theorem argEnv_at (as : Array Value) (t : Nat) : argEnv as t = as.getD t undef := rfl
theorem okOpd_tmp (t : Tmp) : okOpd (.tmp t) = true := rfl
theorem okOpd_func (f : FuncId) : okOpd (.func f) = true := rfl
theorem okOpd_const (v : Value) : okOpd (.const v) = flat v := rfl
theorem isConst_tmp (t : Tmp) : isConst (.tmp t) = false := rfl
theorem isConst_const (v : Value) : isConst (.const v) = true := rfl

section
variable {P : Program} {t : TypeId} {c : Bool} {k : IntKind} {a b : Int}
theorem aBin_add : aBin P .add t c (.int k a) (.int k b) = some (.int k (k.wrap (a + b))) := by simp [aBin, intBin]
theorem aBin_sub : aBin P .sub t c (.int k a) (.int k b) = some (.int k (k.wrap (a - b))) := by simp [aBin, intBin]
theorem aBin_mul : aBin P .mul t c (.int k a) (.int k b) = some (.int k (k.wrap (a * b))) := by simp [aBin, intBin]
theorem aBin_rem : aBin P .rem t c (.int k a) (.int k b) = if b = 0 then none else some (.int k (a.tmod b)) := by simp [aBin, intBin]
theorem aBin_eql : aBin P .eql t c (.int k a) (.int k b) = some (.bool (decide (a = b))) := by simp [aBin, intBin]; rfl
theorem aBin_neq : aBin P .neq t c (.int k a) (.int k b) = some (.bool (decide (a ≠ b))) := by simp [aBin, intBin]; rfl
theorem aBin_lss : aBin P .lss t c (.int k a) (.int k b) = some (.bool (decide (a < b))) := by simp [aBin, intBin]
theorem aBin_leq : aBin P .leq t c (.int k a) (.int k b) = some (.bool (decide (a ≤ b))) := by simp [aBin, intBin]
theorem aBin_gtr : aBin P .gtr t c (.int k a) (.int k b) = some (.bool (decide (b < a))) := by simp [aBin, intBin]
theorem aBin_geq : aBin P .geq t c (.int k a) (.int k b) = some (.bool (decide (b ≤ a))) := by simp [aBin, intBin]
end

def asB : Value → Option Bool
  | .bool b => some b
  | _ => none
theorem asB_bool (b : Bool) : asB (.bool b) = some b := rfl
theorem asB_undef : asB undef = none := rfl
theorem yieldedA_eq (ops : Array Oper) (e : Env) (j : Nat) : yieldedA ops e j = ((ops[j]?).bind (·.dst)).bind fun d => asB (e d) := by
  unfold yieldedA
  cases (ops[j]?).bind (·.dst) with
  | none => rfl
  | some d => simp only [Option.bind_some]; cases e d <;> rfl

section
variable {K : Ctx} {e : Env} {A : AHeap} {Q : Value → AHeap → Prop}
theorem OpW_callv {f : Operand} {xs : Array Operand} {tys : Array TypeId} :
    OpW K (.call { callee := .value f, args := xs, argTypes := tys }) e A Q ↔ (okOpd f = true ∧ xs.toList.all okOpd = true) ∧ CalV K (opv e f) (xs.map (opv e)) A Q := by
  rw [OpW_call]
  refine and_congr ?_ Iff.rfl
  simp [Op.operands, Call.operands, List.all_eq_true]
end

section
variable {P : Program} {t el : TypeId} {c : Bool}
theorem aBin_nil_neq (ht : P.underlying t = some (.pointer el)) (a : Option Addr) : aBin P .neq t c (.pointer a) (.pointer none) = some (.bool a.isSome) := by
  cases a with
  | none => simp [aBin, isNilIface, aEq, aEq0, ht]
  | some a => simp [aBin, isNilIface, aEq, aEq0, ht]
theorem aBin_nil_eql (ht : P.underlying t = some (.pointer el)) (a : Option Addr) : aBin P .eql t c (.pointer a) (.pointer none) = some (.bool a.isNone) := by
  cases a with
  | none => simp [aBin, isNilIface, aEq, aEq0, ht]
  | some a => simp [aBin, isNilIface, aEq, aEq0, ht]
end

section
variable {K : Ctx} {e : Env} {A : AHeap} {Q : Value → AHeap → Prop}
theorem OpW_mkFv {f : FuncId} {first captured : Array Operand} :
    OpW K (.makeFunc (.func f) first captured) e A Q ↔ (first.toList.all okOpd = true ∧ captured.toList.all okOpd = true) ∧ Q (.func (.func f) (first.map (opv e)) (captured.map (opv e))) A := by
  rw [OpW_mkF]
  refine and_congr ?_ Iff.rfl
  simp [Op.operands]
theorem OpW_buildv {t : TypeId} {parts : Array (Nat × Operand)} :
    OpW K (.build t parts) e A Q ↔ (parts.toList.all fun p => okOpd p.2) = true ∧ Out (aBuild K.P t (parts.toList.map fun p => (p.1, opv e p.2))) fun v => Q v A := by
  rw [OpW_build]
  refine and_congr ?_ Iff.rfl
  simp [Op.operands]
end

/-! ### Regions that draw, with readings whose place is open -/
def Trc (K : Ctx) (ops : Array Oper) (nt : Nat) (rest : List Oper) (e : Env) (A : AHeap) (Q : List TI → Env → AHeap → Prop) (_ : Hold ops := ()) (_ : Hold rest := ()) (_ : Hold Q := ()) : Prop :=
  ∃ n T e' A', evTrace K (rec K n) ops nt rest e A = some (T, e', A') ∧ Q T e' A'

section
variable {K : Ctx}
theorem Trc_nil {ops : Array Oper} {nt : Nat} {e : Env} {A : AHeap} {Q : List TI → Env → AHeap → Prop} : Trc K ops nt [] e A Q ↔ Q [] e A := by
  constructor
  · rintro ⟨n, T, e', A', h, hq⟩
    simp only [evTrace, Option.some.injEq, Prod.mk.injEq] at h
    obtain ⟨rfl, rfl, rfl⟩ := h
    exact hq
  · intro h; exact ⟨0, [], e, A, rfl, h⟩

theorem Trc_cons {ops : Array Oper} {nt : Nat} {d : Option Tmp} {o : Op} {ty : TypeId} {pos : String} {after : Array Edge} {rest : List Oper} {e : Env} {A : AHeap} {Q : List TI → Env → AHeap → Prop} :
    Trc K ops nt ({ dst := d, op := o, type := ty, pos := pos, after := after, guard := none } :: rest) e A Q ↔
      OpW K o e A fun v A' => PutW nt e d v fun e' => Trc K ops nt rest e' A' fun T eN AN => Q (⟨e, A, true, v⟩ :: T) eN AN := by
  constructor
  · rintro ⟨n, T, e', A', h, hq⟩
    simp only [evTrace, evK_eq] at h
    split at h
    · split at h
      · rename_i v A1 hv
        split at h
        · rename_i e1 he1
          split at h
          · rename_i T1 eN AN ht
            simp only [Option.some.injEq, Prod.mk.injEq] at h
            obtain ⟨rfl, rfl, rfl⟩ := h
            exact ⟨n, v, A1, hv, e1, he1, n, T1, _, _, ht, hq⟩
          · cases h
        · cases h
      · cases h
    · rename_i hw; exact absurd rfl hw
  · rintro ⟨n, v, A1, hv, e1, he1, k, T, e', A', h, hq⟩
    refine ⟨max n k, _, e', A', ?_, hq⟩
    have h1 := evOp_mono (rec_le (K := K) (Nat.le_max_left n k)) hv
    have h3 := evTrace_mono (rec_le (K := K) (Nat.le_max_right n k)) _ _ _ _ h
    simp only [evTrace, evK_eq, Region.wanted, if_true, h1, he1, h3]

theorem Cod_draw_of {id : Nat} {ops : Array Oper} {nt : Nat} {e : Env} {A : AHeap} {Q : AExit → Env → AHeap → Prop} {l : List (Nat × Nat)} (hd : drawOk K.P ops = true) (hop : openPairs K.P ops = l)
    (h : Trc K ops nt ops.toList e A fun T e' A' => (∀ ip ∈ l, stable K ops T A' ip = true) ∧ Q .normal e' A') : Cod K (.region id ops true) nt e A Q := by
  obtain ⟨n, T, e', A', h1, h2, h3⟩ := h
  refine ⟨n + 1, .normal, e', A', ?_, h3⟩
  have : evDraw K (rec K n) ops nt e A = some (e', A') := by
    unfold evDraw
    rw [if_pos hd, h1]
    simp only
    rw [if_pos (by rw [hop]; exact List.all_eq_true.2 h2)]
  simp only [rec, stepRec, if_true, this]

theorem stable_load {ops : Array Oper} {T : List TI} {AN H : AHeap} {i p a : Nat} {ty : TypeId} {t : TI} {o : Oper} (hs : ∀ v, K.same v v = true) (h0 : T[i]? = some t) (ho : ops[i]? = some o) (hop : o.op = .load ty (.tmp a))
    (hH : heapAt T AN i p = some H) (hl : aLoadVar K.P H ty (t.e a) = some t.v) : stable K ops T AN (i, p) = true := by
  unfold stable
  simp only [h0, ho, hH]
  split
  · simp only [evPR, hop, aPure, aRead, opv_tmp, hl, hs]
  · rfl
end

/-- Between numbers. -/
theorem OpW_convint {K : Ctx} {s d : TypeId} {k : IntKind} {ds : TypeDesc} (hs : K.P.underlying s = some ds) (hd : K.P.underlying d = some (.int k)) {x : Operand} {e : Env} {A : AHeap} {Q : Value → AHeap → Prop} :
    OpW K (.convert s d x) e A Q ↔ okOpd x = true ∧ Out (match opv e x with | .int _ n => some (.int k (k.wrap n)) | _ => none) fun v => Q v A := by
  have h2 : aRead K.P A (.convert s d x) (opv e) = none := by
    simp only [aRead, hs, hd, aUnsafe]
  have h3 : aEff K.P A (.convert s d x) (opv e) = none := by
    simp only [aEff, aStrBytes, hs, hd]
  rw [OpW_pure' rfl h2 h3]
  refine and_congr (by simp [Op.operands]) ?_
  simp only [aPure, aConvert, hs, hd]
  cases opv e x <;> exact Iff.rfl
end Go.Sh

/- Shadow, part 21: rows of data, variables of their own, what a piece of code leaves as it was. -/
namespace Go.Sh
open Go

/-- A row of data: nobody writes into it any more; it may have been grown beyond. -/
def Dat (A : AHeap) (b : Nat) (el : TypeId) (cells : List Value) : Prop := b < A.next ∧ ∃ r : Row, A.get b = some (.row r) ∧ r.x = false ∧ r.st ≠ 0 ∧ r.elem = el ∧ r.cells = cells
/-- A variable of its own. -/
def Box (A : AHeap) (b : Nat) (el : TypeId) (cells : List Value) : Prop := b < A.next ∧ A.get b = some (.row ⟨cells, el, true, 3, [], false⟩)
/-- A row that its owner may grow. -/
def App (A : AHeap) (b : Nat) (el : TypeId) (cells : List Value) : Prop := b < A.next ∧ ∃ ch fz, A.get b = some (.row ⟨cells, el, false, 3, ch, fz⟩)

theorem App.dat {A : AHeap} {b : Nat} {el : TypeId} {cells : List Value} (h : App A b el cells) : Dat A b el cells :=
  let ⟨h1, ch, fz, h2⟩ := h; ⟨h1, _, h2, rfl, by simp, rfl, rfl⟩

/-- What is written stays within W; data stays as it is. -/
structure Fr (W : Nat → Prop) (A A' : AHeap) : Prop where
  next : A.next ≤ A'.next
  same : ∀ b, b < A.next → ¬ W b → A'.get b = A.get b
  dat : ∀ b el cells, Dat A b el cells → Dat A' b el cells

abbrev Ext (A A' : AHeap) : Prop := Fr (fun _ => False) A A'

theorem Fr.refl (W : Nat → Prop) (A : AHeap) : Fr W A A := ⟨Nat.le_refl _, fun _ _ _ => rfl, fun _ _ _ h => h⟩
theorem Fr.trans {W W' : Nat → Prop} {A B C : AHeap} (h : Fr W A B) (k : Fr W' B C) (hw : ∀ b, b < A.next → W' b → W b) : Fr W A C :=
  ⟨Nat.le_trans h.next k.next, fun b hb hn => by rw [k.same b (Nat.lt_of_lt_of_le hb h.next) fun hc => hn (hw b hb hc), h.same b hb hn], fun b el cs hd => k.dat b el cs (h.dat b el cs hd)⟩
theorem Fr.weaken {W W' : Nat → Prop} {A B : AHeap} (h : Fr W A B) (hw : ∀ b, b < A.next → W b → W' b) : Fr W' A B :=
  ⟨h.next, fun b hb hn => h.same b hb fun hc => hn (hw b hb hc), h.dat⟩
theorem Ext.trans {A B C : AHeap} (h : Ext A B) (k : Ext B C) : Ext A C := Fr.trans h k fun _ _ hc => hc
theorem Ext.fr {W : Nat → Prop} {A B : AHeap} (h : Ext A B) : Fr W A B := h.weaken fun _ _ hc => hc.elim
theorem Fr.box {W : Nat → Prop} {A A' : AHeap} (h : Fr W A A') {b : Nat} {el : TypeId} {cells : List Value} (hb : Box A b el cells) (hn : ¬ W b) : Box A' b el cells :=
  ⟨Nat.lt_of_lt_of_le hb.1 h.next, by rw [h.same b hb.1 hn]; exact hb.2⟩
theorem Fr.app {W : Nat → Prop} {A A' : AHeap} (h : Fr W A A') {b : Nat} {el : TypeId} {cells : List Value} (hb : App A b el cells) (hn : ¬ W b) : App A' b el cells :=
  ⟨Nat.lt_of_lt_of_le hb.1 h.next, by rw [h.same b hb.1 hn]; exact hb.2⟩
theorem Fr.loop {W : Nat → Prop} {A A' : AHeap} (h : Fr W A A') {l : Nat} (hl : l < A.next) (hn : ¬ W l) : getLoopA A' l = getLoopA A l := by
  unfold getLoopA; rw [h.same l hl hn]

/-- A heap turned at single blocks: what has to be seen of each. -/
theorem Fr.of {W : Nat → Prop} {A A' : AHeap} (hn : A.next ≤ A'.next) (h : ∀ b, b < A.next → A'.get b = A.get b ∨ (W b ∧ ∀ r : Row, A.get b = some (.row r) → r.x = false → r.st ≠ 0 →
    ∃ r' : Row, A'.get b = some (.row r') ∧ r'.x = false ∧ r'.st ≠ 0 ∧ r'.elem = r.elem ∧ r'.cells = r.cells)) : Fr W A A' := by
  refine ⟨hn, fun b hb hw => (h b hb).resolve_right fun hc => hw hc.1, ?_⟩
  rintro b el cells ⟨hb, r, h1, h2, h3, h4, h5⟩
  refine ⟨Nat.lt_of_lt_of_le hb hn, ?_⟩
  rcases h b hb with h0 | ⟨_, h0⟩
  · exact ⟨r, by rw [h0]; exact h1, h2, h3, h4, h5⟩
  · obtain ⟨r', k1, k2, k3, k4, k5⟩ := h0 r h1 h2 h3
    exact ⟨r', k1, k2, k3, k4.trans h4, k5.trans h5⟩

/-- New blocks alone. -/
theorem Ext.alloc (A : AHeap) (o : AObj) : Ext A (A.alloc o) := by
  refine Fr.of (by simp) fun b hb => .inl ?_
  rw [AHeap.get_alloc, if_neg (by omega)]

theorem Fr.setBox {A : AHeap} {b : Nat} {el : TypeId} {cells : List Value} (hb : Box A b el cells) (o : AObj) : Fr (fun j => j = b) A (A.set b o) := by
  refine Fr.of (by simp) fun j hj => ?_
  rw [AHeap.get_set]
  by_cases hc : j = b
  · refine .inr ⟨hc, fun r hr hx => ?_⟩
    subst hc
    rw [hb.2] at hr
    cases hr
    cases hx
  · exact .inl (if_neg hc)

theorem Fr.setLoop {A : AHeap} {b : Nat} {lo : ALoop} (hb : getLoopA A b = some lo) (o : AObj) : Fr (fun j => j = b) A (A.set b o) := by
  refine Fr.of (by simp) fun j hj => ?_
  rw [AHeap.get_set]
  by_cases hc : j = b
  · refine .inr ⟨hc, fun r hr hx => ?_⟩
    subst hc
    rw [getLoopA_get hb] at hr
    cases hr
  · exact .inl (if_neg hc)

/-! ### Slices -/

/-- A slice without elements, wherever it points: nil, or one whose address is of no use. -/
def Void (v : Value) : Prop := v = .slice none 0 0 ∨ ∃ b o k, v = .slice (some ⟨b, o, some k⟩) 0 0
theorem Void.nil : Void (.slice none 0 0) := .inl rfl
theorem Void.at {v : Value} (h : Void v) : ∃ o, v = .slice o 0 0 := by
  rcases h with h | ⟨b, o, k, h⟩
  · exact ⟨_, h⟩
  · exact ⟨_, h⟩

/-- A slice of so many elements, of sz cells each; xs: their cells. -/
def Elems (A : AHeap) (el sz : Nat) (v : Value) (n : Nat) (cells : List Value) : Prop :=
  cells.length = n * sz ∧ ((Void v ∧ n = 0) ∨ ∃ b, v = .slice (some ⟨b, 0, none⟩) n n ∧ Dat A b el cells)

theorem Elems.dk {A A' : AHeap} (h : ∀ b el cells, Dat A b el cells → Dat A' b el cells) {el sz n : Nat} {v : Value} {cells : List Value} (he : Elems A el sz v n cells) : Elems A' el sz v n cells :=
  ⟨he.1, he.2.imp id fun ⟨b, h1, h2⟩ => ⟨b, h1, h _ _ _ h2⟩⟩
theorem Elems.fr {W : Nat → Prop} {A A' : AHeap} (h : Fr W A A') {el sz n : Nat} {v : Value} {cells : List Value} (he : Elems A el sz v n cells) : Elems A' el sz v n cells := by
  refine ⟨he.1, he.2.imp id ?_⟩
  rintro ⟨b, h1, h2⟩
  exact ⟨b, h1, h.dat _ _ _ h2⟩

theorem Dat.arow {A : AHeap} {b : Nat} {el : TypeId} {cells : List Value} (h : Dat A b el cells) : ∃ r, arow A b = some r ∧ r.cells = cells ∧ r.elem = el ∧ r.x = false := by
  obtain ⟨_, r, h1, h2, h3, h4, h5⟩ := h
  exact ⟨r, by simp [Sh.arow, h1, h3], h5, h4, h2⟩
theorem Box.arow {A : AHeap} {b : Nat} {el : TypeId} {cells : List Value} (h : Box A b el cells) : arow A b = some ⟨cells, el, true, 3, [], false⟩ := by
  simp [Sh.arow, h.2]

/-- A load of one cell out of data. -/
theorem Dat.load {P : Program} {A : AHeap} {b o : Nat} {el t : TypeId} {cells : List Value} (h : Dat A b el cells) {d : TypeDesc} (ht : P.underlying t = some d) (hd : isAggD d = false) {v : Value} (hv : cells[o]? = some v) :
    aLoadVar P A t (.pointer (some ⟨b, o, none⟩)) = some v := by
  obtain ⟨r, h1, h2, _⟩ := h.arow
  simp [aLoadVar, ht, hd, h1, h2, hv]
theorem Box.load {P : Program} {A : AHeap} {b o : Nat} {el t : TypeId} {cells : List Value} (h : Box A b el cells) {d : TypeDesc} (ht : P.underlying t = some d) (hd : isAggD d = false) {v : Value} (hv : cells[o]? = some v) :
    aLoadVar P A t (.pointer (some ⟨b, o, none⟩)) = some v := by
  simp [aLoadVar, ht, hd, h.arow, hv]
theorem acells_of {A : AHeap} {b o n : Nat} {r : Row} (h : arow A b = some r) (hl : o + n ≤ r.cells.length) : acells A b o n = some ((r.cells.drop o).take n) := by
  simp [acells, h, hl]
theorem Dat.loadAgg {P : Program} {A : AHeap} {b o s : Nat} {el t : TypeId} {cells : List Value} (h : Dat A b el cells) {d : TypeDesc} (ht : P.underlying t = some d) (hd : isAggD d = true) (hs : tsize P t = some s)
    (hl : o + s ≤ cells.length) : aLoadVar P A t (.pointer (some ⟨b, o, none⟩)) = some (.agg ((cells.drop o).take s).toArray) := by
  obtain ⟨r, h1, h2, _⟩ := h.arow
  subst h2
  simp [aLoadVar, ht, hd, hs, acells_of h1 hl]
theorem Box.loadAgg {P : Program} {A : AHeap} {b o s : Nat} {el t : TypeId} {cells : List Value} (h : Box A b el cells) {d : TypeDesc} (ht : P.underlying t = some d) (hd : isAggD d = true) (hs : tsize P t = some s)
    (hl : o + s ≤ cells.length) : aLoadVar P A t (.pointer (some ⟨b, o, none⟩)) = some (.agg ((cells.drop o).take s).toArray) := by
  simp [aLoadVar, ht, hd, hs, acells_of h.arow hl]

/-! ### Operations that turn memory -/
section
variable {K : Ctx} {e : Env} {A : AHeap} {Q : Value → AHeap → Prop}

theorem box_new (A : AHeap) (t : TypeId) (cs : List Value) : Ext A (A.alloc (.row ⟨cs, t, true, 3, [], false⟩)) ∧ Box (A.alloc (.row ⟨cs, t, true, 3, [], false⟩)) A.next t cs :=
  ⟨Ext.alloc _ _, by simp, by rw [AHeap.get_alloc, if_pos rfl]⟩

theorem OpW_box_of {t s : Nat} {x : Operand} (hs : tsize K.P t = some s) (hok : okOpd x = true)
    (h : ∀ b A', b = A.next → A'.next = b + 1 → Ext A A' → Box A' b t (opv e x).cells.toList → Q (.pointer (some ⟨b, 0, none⟩)) A') : OpW K (.box t x) e A Q := by
  rw [OpW_box]
  refine ⟨hok, _, by simp only [aNew, hs]; rfl, ?_⟩
  obtain ⟨h1, h2⟩ := box_new A t (opv e x).cells.toList
  exact h _ _ rfl rfl h1 h2

theorem OpW_alloc_of {t s : Nat} {z : Value} (hs : tsize K.P t = some s) (hz : tzero K.P t = some z) (hsim : z.cells.toList.all simple = true)
    (h : ∀ b A', b = A.next → A'.next = b + 1 → Ext A A' → Box A' b t z.cells.toList → Q (.pointer (some ⟨b, 0, none⟩)) A') : OpW K (.alloc t) e A Q := by
  rw [OpW_alloc]
  refine ⟨z, hz, _, by simp only [hsim, if_true, aNew, hs]; rfl, ?_⟩
  obtain ⟨h1, h2⟩ := box_new A t z.cells.toList
  exact h _ _ rfl rfl h1 h2

theorem kill_nil (A : AHeap) : A.kill [] = A := rfl

theorem OpW_store_of {t b o : Nat} {el : TypeId} {cells : List Value} {a x : Operand} (hb : Box A b el cells) (hok : okOpd a = true ∧ okOpd x = true) (ha : opv e a = .pointer (some ⟨b, o, none⟩))
    (hs : tsize K.P t = some (opv e x).cells.size) (hf : o + (opv e x).cells.toList.length ≤ cells.length) (h1 : (opv e x).cells.toList.all one = true)
    (h : ∀ A', A'.next = A.next → Fr (fun j => j = b) A A' → Box A' b el (lputs cells o (opv e x).cells.toList) → Q undef A') : OpW K (.store t a x) e A Q := by
  rw [OpW_store]
  refine ⟨hok, A.set b (.row ⟨lputs cells o (opv e x).cells.toList, el, true, 3, [], false⟩), ?_, ?_⟩
  · simp only [aStoreVar, ha, hs, if_true, aputRow, hb.arow]
    rw [if_pos ⟨trivial, hf, h1⟩]
    rfl
  · refine h _ rfl (Fr.setBox hb _) ⟨hb.1, by rw [AHeap.get_set, if_pos rfl]⟩

theorem OpW_buildSlice_of {t n s : Nat} {el : TypeId} {z : Value} {cs : List Value} {parts : Array (Nat × Operand)} (ht : K.P.underlying t = some (.slice el)) (hs : tsize K.P el = some s) (hz : tzero K.P el = some z)
    (hn : n * s ≤ 2 ^ 24) (hsim : (zeros z (n * s)).all simple = true) (hok : (Op.buildSlice t n parts).operands.toList.all okOpd = true)
    (hf : afill (fun i => some (i * s, s)) (zeros z (n * s)) (parts.toList.map fun (i, x) => (i, opv e x)) = some cs)
    (h : ∀ b A', b = A.next → A'.next = b + 1 → Ext A A' → Box A' b el cs → Q (.slice (some ⟨b, 0, none⟩) n n) A') : OpW K (.buildSlice t n parts) e A Q := by
  rw [OpW_buildSlice]
  refine ⟨hok, _, by simp only [aBuildSlice, ht, hs, hz, hn, hsim, and_self, if_true, hf]; rfl, ?_⟩
  obtain ⟨h1, h2⟩ := box_new A el cs
  exact h _ _ rfl rfl h1 h2

/-- A slice that its owner grows: nothing yet, or a row of his own. -/
def Acc (A : AHeap) (el sz : Nat) (v : Value) (n : Nat) (cells : List Value) : Prop :=
  cells.length = n * sz ∧ ((v = .slice none 0 0 ∧ n = 0) ∨ ∃ b, v = .slice (some ⟨b, 0, none⟩) n n ∧ App A b el cells)

theorem Acc.elems {A : AHeap} {el sz n : Nat} {v : Value} {cells : List Value} (h : Acc A el sz v n cells) : Elems A el sz v n cells :=
  ⟨h.1, h.2.imp (fun e => ⟨.inl e.1, e.2⟩) fun ⟨b, h1, h2⟩ => ⟨b, h1, h2.dat⟩⟩

/-- The block of a slice. -/
def blockOf : Value → Nat → Prop
  | .slice (some a) _ _, b => a.block = b
  | _, _ => False

theorem Acc.fr {W : Nat → Prop} {A A' : AHeap} (h : Fr W A A') {el sz n : Nat} {v : Value} {cells : List Value} (ha : Acc A el sz v n cells) (hw : ∀ b, blockOf v b → ¬ W b) : Acc A' el sz v n cells :=
  ⟨ha.1, ha.2.imp id fun ⟨b, h1, h2⟩ => ⟨b, h1, h.app h2 (hw b (by rw [h1]; rfl))⟩⟩

theorem OpW_append_of {t tx el sz by' n k : Nat} {s x : Operand} {cells new : List Value} {z : Value} (hok : okOpd s = true ∧ okOpd x = true) (ht : K.P.underlying t = some (.slice el))
    (hx : srcKind (K.P.underlying tx) = true) (hsz : tsize K.P el = some sz) (hby : tbytes K.P el = some by') (hz : tzero K.P el = some z) (hsrc : aSrc A sz (opv e x) = some (k, new)) (hnew : new.length = k * sz ∧ new.all one = true)
    (hk : 0 < k) (hc : 0 < sz ∧ z.cells.size = sz ∧ 0 < by' ∧ (n + k) * by' ≤ 140737488355328) (ha : Acc A el sz (opv e s) n cells)
    (h : ∀ b A', b = A.next → A'.next = b + 1 → Fr (blockOf (opv e s)) A A' → Acc A' el sz (.slice (some ⟨b, 0, none⟩) (n + k) (n + k)) (n + k) (cells ++ new) → Q (.slice (some ⟨b, 0, none⟩) (n + k) (n + k)) A') :
    OpW K (.call { callee := .builtin .append, args := #[s, x], argTypes := #[t, tx] }) e A Q := by
  rw [OpW_append]
  refine ⟨hok, ?_⟩
  obtain ⟨hlen, hs⟩ := ha
  have hlen' : (cells ++ new).length = (n + k) * sz := by rw [List.length_append, hlen, hnew.1, Nat.add_mul]
  rcases hs with ⟨hs, rfl⟩ | ⟨b, hs, hb⟩
  · have hcs : cells = [] := List.eq_nil_of_length_eq_zero (by omega)
    subst hcs
    refine ⟨(.slice (some ⟨A.next, 0, none⟩) (0 + k) (0 + k), A.alloc (.row ⟨new, el, false, 3, [], false⟩)), ?_, ?_⟩
    · rw [hs]
      simp only [aAppend, hx, if_true, ht, hsz, hby, hz, hsrc]
      rw [if_pos hnew, if_neg (by omega), if_pos hc]
      rfl
    · refine h _ _ rfl rfl (Ext.alloc _ _).fr ⟨hlen', .inr ⟨_, rfl, by simp, [], false, by rw [AHeap.get_alloc, if_pos rfl]; rfl⟩⟩
  · obtain ⟨hlt, ch, fz, hg⟩ := hb
    have hrow : arow A b = some ⟨cells, el, false, 3, ch, fz⟩ := by simp [Sh.arow, hg]
    refine ⟨(.slice (some ⟨A.next, 0, none⟩) (n + k) (n + k), (A.set b (.row ⟨cells, el, false, 1, ch, fz⟩)).alloc (.row ⟨cells ++ new, el, false, 3, b :: ch, fz⟩)), ?_, ?_⟩
    · rw [hs]
      simp only [aAppend, hx, if_true, ht, hsz, hby, hz, hsrc]
      rw [if_pos hnew, if_neg (by omega), if_pos hc]
      simp [aAppOut, hrow, hlen]
    · refine h _ _ rfl rfl ?_ ⟨hlen', .inr ⟨_, rfl, by simp, b :: ch, fz, by rw [AHeap.get_alloc, AHeap.next_set, if_pos rfl]⟩⟩
      refine Fr.of (by simp) fun j hj => ?_
      rw [AHeap.get_alloc, AHeap.next_set, if_neg (by omega), AHeap.get_set]
      by_cases hjb : j = b
      · subst hjb
        refine .inr ⟨by rw [hs]; rfl, fun r hr _ _ => ?_⟩
        rw [hg] at hr
        cases hr
        exact ⟨_, if_pos rfl, rfl, by simp, rfl, rfl⟩
      · exact .inl (if_neg hjb)
end
end Go.Sh

/- Shadow, part 23: functions that hand over items one by one, and ranges over them. -/
namespace Go.Sh
open Go

/-- What stays: blocks below the base and those of W; data. -/
structure Keep (base : Nat) (W : Nat → Prop) (A A' : AHeap) : Prop where
  next : A.next ≤ A'.next
  same : ∀ b, b < A.next → (b < base ∨ W b) → A'.get b = A.get b
  dat : ∀ b el cells, Dat A b el cells → Dat A' b el cells

theorem Fr.keep {G W : Nat → Prop} {base : Nat} {A A' : AHeap} (h : Fr G A A') (hg : ∀ b, b < A.next → G b → base ≤ b ∧ ¬ W b) : Keep base W A A' :=
  ⟨h.next, fun b hb hw => h.same b hb fun hc => hw.elim (fun h1 => by have := (hg b hb hc).1; omega) (hg b hb hc).2, h.dat⟩
theorem Keep.low {base base' : Nat} {W W' : Nat → Prop} {A A' : AHeap} (h : Keep base W A A') (hb : base' ≤ base) (hw : ∀ b, W' b → b < base ∨ W b) : Keep base' W' A A' :=
  ⟨h.next, fun b hlt hc => h.same b hlt (hc.elim (fun h1 => .inl (by omega)) (hw b)), h.dat⟩

theorem Keep.box {base : Nat} {W : Nat → Prop} {A A' : AHeap} (h : Keep base W A A') {b : Nat} {el : TypeId} {cells : List Value} (hb : Box A b el cells) (hw : b < base ∨ W b) : Box A' b el cells :=
  ⟨Nat.lt_of_lt_of_le hb.1 h.next, by rw [h.same b hb.1 hw]; exact hb.2⟩
theorem Keep.app {base : Nat} {W : Nat → Prop} {A A' : AHeap} (h : Keep base W A A') {b : Nat} {el : TypeId} {cells : List Value} (hb : App A b el cells) (hw : b < base ∨ W b) : App A' b el cells :=
  ⟨Nat.lt_of_lt_of_le hb.1 h.next, by rw [h.same b hb.1 hw]; exact hb.2⟩
theorem Keep.acc {base : Nat} {W : Nat → Prop} {A A' : AHeap} (h : Keep base W A A') {el sz n : Nat} {v : Value} {cells : List Value} (ha : Acc A el sz v n cells) (hw : ∀ b, blockOf v b → b < base ∨ W b) : Acc A' el sz v n cells :=
  ⟨ha.1, ha.2.imp id fun ⟨b, h1, h2⟩ => ⟨b, h1, h.app h2 (hw b (by rw [h1]; rfl))⟩⟩
theorem Keep.elems {base : Nat} {W : Nat → Prop} {A A' : AHeap} (h : Keep base W A A') {el sz n : Nat} {v : Value} {cells : List Value} (he : Elems A el sz v n cells) : Elems A' el sz v n cells :=
  ⟨he.1, he.2.imp id fun ⟨b, h1, h2⟩ => ⟨b, h1, h.dat _ _ _ h2⟩⟩
theorem Keep.loop {base : Nat} {W : Nat → Prop} {A A' : AHeap} (h : Keep base W A A') {l : Nat} (hl : l < A.next) (hw : l < base ∨ W l) : getLoopA A' l = getLoopA A l := by
  unfold getLoopA; rw [h.same l hl hw]

/-- The rounds of a loop, as the function that hands over the items sees them. R: what it hands over in round i; Rd: variables that it reads; I: what holds ahead of round i; S: what holds when a round has said 'no more'. -/
structure Rounds (K : Ctx) (l N : Nat) (R : Nat → Array Value → AHeap → Prop) (base : Nat) (Rd : Nat → Prop) (I : Nat → (Nat → Prop) → AHeap → Prop) (S : (Nat → Prop) → AHeap → Prop) : Prop where
  round : ∀ i W A xs, i < N → I i W A → base ≤ A.next → (∀ b, W b → b < A.next ∧ ¬ Rd b) → R i xs A → Rnd K l xs A fun v A' =>
    ∃ W', Fr W A A' ∧ (∀ b, W' b → b < A'.next ∧ (W b ∨ A.next ≤ b)) ∧ ((v = .bool true ∧ I (i + 1) W' A') ∨ (v = .bool false ∧ S W' A'))
  stab : ∀ i W A A', I i W A → Keep base W A A' → I i W A'
  stabS : ∀ W A A', S W A → Keep base W A A' → S W A'

/-- A function that hands over N items, from this memory on. -/
def IterAt (K : Ctx) (g : FuncId) (fs cs : Array Value) (A1 : AHeap) (N : Nat) (R : Nat → Array Value → AHeap → Prop) (Rd : Nat → Prop) : Prop :=
  ∀ l I S W1 Q, Rounds K l N R A1.next Rd I S → I 0 W1 A1 → (∀ b, W1 b → b < A1.next ∧ ¬ Rd b) →
    (∀ v A' W', Fr W1 A1 A' → (∀ b, W' b → b < A'.next ∧ (W1 b ∨ A1.next ≤ b)) → (I N W' A' ∨ S W' A') → Q v A') →
    Cal K g (fs ++ #[.func (.yield l) #[] #[]] ++ cs) A1 Q

/-- What such a function rests upon stays. -/
structure KeepR (Rd : Nat → Prop) (A A1 : AHeap) : Prop where
  next : A.next ≤ A1.next
  same : ∀ b, Rd b → A1.get b = A.get b
  dat : ∀ b el cells, Dat A b el cells → Dat A1 b el cells

def ItV (K : Ctx) (A : AHeap) (fv : Value) (N : Nat) (R : Nat → Array Value → AHeap → Prop) (Rd : Nat → Prop) : Prop :=
  (∀ b, Rd b → b < A.next) ∧ ∃ g fs cs, fv = .func (.func g) fs cs ∧ ∀ A1, KeepR Rd A A1 → IterAt K g fs cs A1 N R Rd

theorem Fr.keepR {W Rd : Nat → Prop} {A A1 : AHeap} (h : Fr W A A1) (hr : ∀ b, Rd b → b < A.next ∧ ¬ W b) : KeepR Rd A A1 := ⟨h.next, fun b hb => h.same b (hr b hb).1 (hr b hb).2, h.dat⟩
theorem KeepR.trans {Rd : Nat → Prop} {A B C : AHeap} (h : KeepR Rd A B) (k : KeepR Rd B C) : KeepR Rd A C := ⟨Nat.le_trans h.next k.next, fun b hb => by rw [k.same b hb, h.same b hb], fun b el cs hd => k.dat _ _ _ (h.dat _ _ _ hd)⟩
theorem ItV.fr {K : Ctx} {W : Nat → Prop} {A A1 : AHeap} {fv : Value} {N : Nat} {R : Nat → Array Value → AHeap → Prop} {Rd : Nat → Prop} (h : Fr W A A1) (hi : ItV K A fv N R Rd) (hr : ∀ b, Rd b → ¬ W b) : ItV K A1 fv N R Rd := by
  obtain ⟨h0, g, fs, cs, h1, h2⟩ := hi
  exact ⟨fun b hb => Nat.lt_of_lt_of_le (h0 b hb) h.next, g, fs, cs, h1, fun A2 k => h2 A2 ((h.keepR fun b hb => ⟨h0 b hb, hr b hb⟩).trans k)⟩

/-- A range over such a function. J: what holds ahead of round i; JS: what holds when a round was left by such an exit. -/
theorem range_of {K : Ctx} {f : Operand} {ps : Array Tmp} {assign body : Code} {nt : Nat} {e : Env} {A : AHeap} {Q : AExit → Env → AHeap → Prop} {fv : Value} {N : Nat} {R : Nat → Array Value → AHeap → Prop} {Rd : Nat → Prop}
    (hok : okOpd f = true) (hit : ItV K A fv N R Rd) (hf : opv e f = fv) (J : Nat → (Nat → Prop) → AHeap → Prop) (JS : AExit → (Nat → Prop) → AHeap → Prop) (W0 : Nat → Prop)
    (h0 : ∀ A', Fr (fun _ => False) A A' → J 0 W0 A') (hW0 : ∀ b, W0 b → b < A.next ∧ ¬ Rd b)
    (stab : ∀ i W B B', J i W B → Keep A.next W B B' → J i W B') (stabS : ∀ x W B B', JS x W B → Keep A.next W B B' → JS x W B')
    (round : ∀ i W B xs, i < N → J i W B → A.next < B.next → (∀ b, W b → b < B.next ∧ ¬ Rd b ∧ b ≠ A.next ∧ (W0 b ∨ A.next < b)) → R i xs B → arow B A.next = none → xs.size = ps.size ∧ ∃ e1, bindAll nt e ps.toList xs.toList = some e1 ∧
      Cod K assign nt e1 B fun x e2 B2 => x = .normal ∧ Ext B B2 ∧ ∀ B3, B3.next = B2.next → Fr (fun j => j = A.next) B2 B3 → Cod K body nt e2 B3 fun x _ B4 =>
        Fr (fun b => W b ∨ B.next ≤ b) B3 B4 ∧ (x = .normal → J (i + 1) (fun b => W b ∨ (B.next ≤ b ∧ b < B4.next)) B4) ∧ (x ≠ .normal → JS x (fun b => W b ∨ (B.next ≤ b ∧ b < B4.next)) B4))
    (hQ : ∀ W B, A.next < B.next → Fr W0 A B → (∀ b, W b → b < B.next ∧ (W0 b ∨ A.next < b)) → J N W B → Q .normal e B)
    (hQS : ∀ x W B, x ≠ .normal → A.next < B.next → Fr W0 A B → (∀ b, W b → b < B.next ∧ (W0 b ∨ A.next < b)) → JS x W B → Q x e B) : Cod K (.rangeFunc f ps assign body) nt e A Q := by
  obtain ⟨hRd, g, fs, cs, hfv, hAt⟩ := hit
  refine Cod_rangeFunc hok (hf.trans hfv) ?_
  let l := A.next
  let lo0 : ALoop := ⟨.ready, none, e, nt, ps, assign, body⟩
  have hA1n : (A.alloc (.loop lo0)).next = l + 1 := rfl
  have hext : Ext A (A.alloc (.loop lo0)) := Ext.alloc _ _
  have hl1 : getLoopA (A.alloc (.loop lo0)) l = some lo0 := by unfold getLoopA; rw [AHeap.get_alloc, if_pos rfl]
  -- W without the record
  let I : Nat → (Nat → Prop) → AHeap → Prop := fun i Wf B => ∃ W, (∀ b, Wf b ↔ W b ∨ b = l) ∧ (∀ b, W b → b < B.next ∧ ¬ Rd b ∧ b ≠ l ∧ (W0 b ∨ l < b)) ∧ l < B.next ∧ J i W B ∧ getLoopA B l = some lo0
  let S : (Nat → Prop) → AHeap → Prop := fun Wf B => ∃ W x, (∀ b, Wf b ↔ W b ∨ b = l) ∧ (∀ b, W b → b < B.next ∧ ¬ Rd b ∧ b ≠ l ∧ (W0 b ∨ l < b)) ∧ l < B.next ∧ x ≠ .normal ∧ JS x W B ∧
    ∃ st, st ≠ .busy ∧ getLoopA B l = some { lo0 with state := st, pending := x.jump }
  have hlRd : ¬ Rd l := fun h => by have := hRd l h; omega
  have key : ∀ i Wf B B', I i Wf B → Keep (l + 1) Wf B B' → I i Wf B' := by
    rintro i Wf B B' ⟨W, h1, h2, h3, h4, h5⟩ hk
    refine ⟨W, h1, fun b hb => ⟨Nat.lt_of_lt_of_le (h2 b hb).1 hk.next, (h2 b hb).2⟩, Nat.lt_of_lt_of_le h3 hk.next, stab i W B B' h4 (hk.low (Nat.le_succ _) fun b hb => .inr ((h1 b).2 (.inl hb))), ?_⟩
    rw [hk.loop h3 (.inl (Nat.lt_succ_self _))]; exact h5
  refine hAt _ (hext.keepR fun b hb => ⟨hRd b hb, fun h => h⟩) l I S (fun b => W0 b ∨ b = l) _ ⟨?_, key, ?_⟩ ?_ ?_ ?_
  · -- a round
    rintro i Wf B xs hi ⟨W, h1, h2, h3, h4, h5⟩ hbase hWf hR
    obtain ⟨hsz, e1, hb, hc⟩ := round i W B xs hi h4 h3 h2 hR (by unfold Sh.arow; rw [getLoopA_get h5])
    refine Rnd_of h5 hsz hb (hc.mono ?_)
    rintro x e2 B2 ⟨rfl, hE, hbody⟩
    have hl2 : getLoopA B2 l = some lo0 := by rw [hE.loop h3 fun h => h]; exact h5
    have hset := Fr.setLoop hl2 (.loop { lo0 with state := .busy })
    refine ⟨lo0, hl2, rfl, (hbody (B2.set l (.loop { lo0 with state := .busy })) rfl hset).mono ?_⟩
    rintro x e4 B4 ⟨hF, hJ, hJS⟩
    have hl3 : getLoopA (B2.set l (.loop { lo0 with state := .busy })) l = some { lo0 with state := .busy } := by unfold getLoopA; rw [AHeap.get_set, if_pos rfl]
    have hlW : ¬ W l := fun h => (h2 l h).2.2.1 rfl
    have hlt2 : l < B2.next := Nat.lt_of_lt_of_le h3 hE.next
    have hl4 : getLoopA B4 l = some { lo0 with state := .busy } := by
      rw [hF.loop (by exact hlt2) (fun h => h.elim hlW fun h => by omega)]; exact hl3
    have hset4 := Fr.setLoop hl4 (.loop { ({ lo0 with state := .busy } : ALoop) with state := if x.jump.isNone then .ready else .done, pending := x.jump })
    refine ⟨_, hl4, ?_⟩
    let W' : Nat → Prop := fun b => W b ∨ (B.next ≤ b ∧ b < B4.next)
    have hB24 : B2.next ≤ B4.next := hF.next
    have hW'l : ∀ b, b = l → ¬ W' b := by
      rintro b rfl (h | h)
      · exact hlW h
      · omega
    have hkeep : Keep l W' B4 (B4.set l (.loop { ({ lo0 with state := .busy } : ALoop) with state := if x.jump.isNone then .ready else .done, pending := x.jump })) :=
      hset4.keep fun b _ hb => ⟨Nat.le_of_eq hb.symm, hW'l b hb⟩
    have hlast : getLoopA (B4.set l (.loop { ({ lo0 with state := .busy } : ALoop) with state := if x.jump.isNone then .ready else .done, pending := x.jump })) l =
        some { lo0 with state := if x.jump.isNone then .ready else .done, pending := x.jump } := by unfold getLoopA; rw [AHeap.get_set, if_pos rfl]
    have hWfr : ∀ b, W' b → b < B4.next ∧ ¬ Rd b ∧ b ≠ l ∧ (W0 b ∨ l < b) := by
      rintro b (hb | ⟨hb1, hb2⟩)
      · exact ⟨Nat.lt_of_lt_of_le (h2 b hb).1 (Nat.le_trans hE.next hB24), (h2 b hb).2⟩
      · exact ⟨hb2, fun h => by have := hRd b h; omega, by omega, .inr (by omega)⟩
    refine ⟨fun b => W' b ∨ b = l, ?_, ?_, ?_⟩
    · refine Fr.trans (W := Wf) (W' := fun j => j = l) (Fr.trans (W := Wf) (W' := fun b => W b ∨ B.next ≤ b) (Fr.trans (W := Wf) (W' := fun j => j = l) hE.fr hset ?_) hF ?_) hset4 ?_
      · intro b _ hb; exact (h1 b).2 (.inr hb)
      · intro b hb hc; exact (h1 b).2 (.inl (hc.resolve_right (by omega)))
      · intro b _ hb; exact (h1 b).2 (.inr hb)
    · rintro b (hb | rfl)
      · exact ⟨(hWfr b hb).1, hb.elim (fun h => .inl ((h1 b).2 (.inl h))) fun h => .inr h.1⟩
      · exact ⟨by show l < B4.next; omega, .inl ((h1 _).2 (.inr rfl))⟩
    · cases x with
      | normal =>
        refine .inl ⟨rfl, W', fun b => Iff.rfl, hWfr, by show l < B4.next; omega, stab _ _ _ _ (hJ rfl) hkeep, hlast⟩
      | ret => exact .inr ⟨rfl, W', .ret, fun b => Iff.rfl, hWfr, by show l < B4.next; omega, (by simp), stabS _ _ _ _ (hJS (by simp)) hkeep, _, (by simp [AExit.jump]), hlast⟩
      | exit id => exact .inr ⟨rfl, W', .exit id, fun b => Iff.rfl, hWfr, by show l < B4.next; omega, (by simp), stabS _ _ _ _ (hJS (by simp)) hkeep, _, (by simp [AExit.jump]), hlast⟩
  · rintro Wf B B' ⟨W, x, h1, h2, h3, hx, h4, st, hst, h5⟩ hk
    refine ⟨W, x, h1, fun b hb => ⟨Nat.lt_of_lt_of_le (h2 b hb).1 hk.next, (h2 b hb).2⟩, Nat.lt_of_lt_of_le h3 hk.next, hx, stabS x W B B' h4 (hk.low (Nat.le_succ _) fun b hb => .inr ((h1 b).2 (.inl hb))), st, hst, ?_⟩
    rw [hk.loop h3 (.inl (Nat.lt_succ_self _))]; exact h5
  · exact ⟨W0, fun b => Iff.rfl, fun b hb => ⟨by have := (hW0 b hb).1; rw [hA1n]; omega, (hW0 b hb).2, by have := (hW0 b hb).1; omega, .inl hb⟩, by rw [hA1n]; omega, h0 _ hext, hl1⟩
  · rintro b (hb | rfl)
    · exact ⟨by have := (hW0 b hb).1; rw [hA1n]; omega, (hW0 b hb).2⟩
    · exact ⟨by rw [hA1n]; omega, hlRd⟩
  · intro v B Wf hF hWf hIS
    have hFW : Fr (fun b => W0 b ∨ b = l) A B := Fr.trans hext.fr hF fun b _ h => h
    have hFA : Fr W0 A B := hFW.weaken fun b hb h => h.resolve_right (by omega)
    have hnext : l < B.next := by have := hF.next; rw [hA1n] at this; omega
    rcases hIS with ⟨W, h1, h2, h3, h4, h5⟩ | ⟨W, x, h1, h2, h3, hx, h4, st, hst, h5⟩
    · refine ⟨lo0, h5, (by simp [lo0]), ?_⟩
      have hset := Fr.setLoop h5 (.loop { lo0 with state := .exhausted })
      have hk : Keep l W B (B.set l (.loop { lo0 with state := .exhausted })) := hset.keep fun b _ hb => ⟨Nat.le_of_eq hb.symm, fun h => (h2 b h).2.2.1 hb⟩
      exact hQ W (B.set l (.loop { lo0 with state := .exhausted })) hnext (Fr.trans hFA hset fun b hb h => by omega) (fun b hb => ⟨(h2 b hb).1, (h2 b hb).2.2.2⟩) (stab _ _ _ _ h4 hk)
    · refine ⟨_, h5, hst, ?_⟩
      have hset := Fr.setLoop h5 (.loop { ({ lo0 with state := st, pending := x.jump } : ALoop) with state := .exhausted })
      have hk : Keep l W B (B.set l (.loop { ({ lo0 with state := st, pending := x.jump } : ALoop) with state := .exhausted })) := hset.keep fun b _ hb => ⟨Nat.le_of_eq hb.symm, fun h => (h2 b h).2.2.1 hb⟩
      have hfin := hQS x W (B.set l (.loop { ({ lo0 with state := st, pending := x.jump } : ALoop) with state := .exhausted })) hx hnext (Fr.trans hFA hset fun b hb h => by omega) (fun b hb => ⟨(h2 b hb).1, (h2 b hb).2.2.2⟩) (stabS _ _ _ _ h4 hk)
      cases x with
      | normal => exact absurd rfl hx
      | ret => exact hfin
      | exit id => exact hfin
end Go.Sh

/- Shadow, part 25: short names of the rewriting laws. -/
namespace Go.Sh
open Go

theorem zaa : type_of% @Cod_seq := @Cod_seq
theorem zab : type_of% @Cod_region := @Cod_region
theorem zac : type_of% @Ops_cons := @Ops_cons
theorem zad : type_of% @Ops_guard := @Ops_guard
theorem zae : type_of% @Ops_nil := @Ops_nil
theorem zaf : type_of% @OpW_move := @OpW_move
theorem zag : type_of% @OpW_assign := @OpW_assign
theorem zah : type_of% @OpW_len := @OpW_len
theorem zai : type_of% @OpW_bin := @OpW_bin
theorem zaj : type_of% @OpW_un := @OpW_un
theorem zak : type_of% @OpW_pick := @OpW_pick
theorem zal : type_of% @OpW_nilCheck := @OpW_nilCheck
theorem zam : type_of% @OpW_indexAddr := @OpW_indexAddr
theorem zan : type_of% @OpW_index := @OpW_index
theorem zao : type_of% @OpW_fieldAddr := @OpW_fieldAddr
theorem zap : type_of% @OpW_field := @OpW_field
theorem zaq : type_of% @OpW_load := @OpW_load
theorem zar : type_of% @OpW_mkFv := @OpW_mkFv
theorem zas : type_of% @OpW_mkI := @OpW_mkI
theorem zat : type_of% @OpW_extract := @OpW_extract
theorem zau : type_of% @OpW_buildv := @OpW_buildv
theorem zav : type_of% @OpW_callv := @OpW_callv
theorem zaw : type_of% @List.all_cons := @List.all_cons
theorem zax : type_of% @List.all_nil := @List.all_nil
theorem zay : type_of% @Bool.and_eq_true := @Bool.and_eq_true
theorem zaz : type_of% @Bool.and_self := @Bool.and_self
theorem zba : type_of% @and_self := @and_self
theorem zbb : type_of% @Bool.not_true := @Bool.not_true
theorem zbc : type_of% @Bool.not_false := @Bool.not_false
theorem zbd : type_of% @CalV_func := @CalV_func
theorem zbe : type_of% @CalV_yield := @CalV_yield
theorem zbf : type_of% @Array.append_empty := @Array.append_empty
theorem zbg : type_of% @Array.empty_append := @Array.empty_append
theorem zbh : type_of% @List.append_toArray := @List.append_toArray
theorem zbi : type_of% @List.cons_append := @List.cons_append
theorem zbj : type_of% @List.nil_append := @List.nil_append
theorem zbk : type_of% @List.append_nil := @List.append_nil
theorem zbl : type_of% @okOpd_tmp := @okOpd_tmp
theorem zbm : type_of% @okOpd_const := @okOpd_const
theorem zbn : type_of% @okOpd_func := @okOpd_func
theorem zbo : type_of% @PutW_some := @PutW_some
theorem zbp : type_of% @PutW_none := @PutW_none
theorem zbq : type_of% @Seq_normal := @Seq_normal
theorem zbr : type_of% @Seq_ret := @Seq_ret
theorem zbs : type_of% @Seq_exit := @Seq_exit
theorem zbt : type_of% @Blk_normal := @Blk_normal
theorem zbu : type_of% @Blk_ret := @Blk_ret
theorem zbv : type_of% @Blk_exit := @Blk_exit
theorem zbw : type_of% @Lps_normal := @Lps_normal
theorem zbx : type_of% @Lps_ret := @Lps_ret
theorem zby : type_of% @Lps_exit := @Lps_exit
theorem zbz : type_of% @Ret_ret := @Ret_ret
theorem zca : type_of% @Ret_normal := @Ret_normal
theorem zcb : type_of% @aResults_nil := @aResults_nil
theorem zcc : type_of% @aResults_tmp := @aResults_tmp
theorem zcd : type_of% @oneOr_one := @oneOr_one
theorem zce : type_of% @oneOr_nil := @oneOr_nil
theorem zcf : type_of% @oneOr_two := @oneOr_two
theorem zcg : type_of% @opv_tmp := @opv_tmp
theorem zch : type_of% @opv_const := @opv_const
theorem zci : type_of% @opv_func := @opv_func
theorem zcj : type_of% @put_at := @put_at
theorem zck : type_of% @argEnv_at := @argEnv_at
theorem zcl : type_of% @Array.getD_eq_getD_getElem? := @Array.getD_eq_getD_getElem?
theorem zcm : type_of% @List.getElem?_toArray := @List.getElem?_toArray
theorem zcn : type_of% @List.getElem?_cons_zero := @List.getElem?_cons_zero
theorem zco : type_of% @List.getElem?_cons_succ := @List.getElem?_cons_succ
theorem zcp : type_of% @List.getElem?_nil := @List.getElem?_nil
theorem zcq : type_of% @Option.getD_some := @Option.getD_some
theorem zcr : type_of% @Option.getD_none := @Option.getD_none
theorem zcs : type_of% @true_and := @true_and
theorem zct : type_of% @and_true := @and_true
theorem zcu : type_of% @Out_some := @Out_some
theorem zcv : type_of% @Out_guard := @Out_guard
theorem zcw : type_of% @Out_guard' := @Out_guard'
theorem zcx : type_of% @Out_map := @Out_map
theorem zcy : type_of% @Cod_block := @Cod_block
theorem zcz : type_of% @Cod_loop := @Cod_loop
theorem zda : type_of% @Cod_way := @Cod_way
theorem zdb : type_of% @Cod_skip := @Cod_skip
theorem zdc : type_of% @Cod_exit := @Cod_exit
theorem zdd : type_of% @Cod_ret := @Cod_ret
theorem zde : type_of% @Way_true := @Way_true
theorem zdf : type_of% @Way_false := @Way_false
theorem zdg : type_of% @Grd_true := @Grd_true
theorem zdh : type_of% @Grd_false := @Grd_false
theorem zdi : type_of% @decide_true := @decide_true
theorem zdj : type_of% @decide_false := @decide_false
theorem zdk : type_of% @Option.some.injEq := @Option.some.injEq
theorem zdl : type_of% @Bool.not_eq_false := @Bool.not_eq_false
theorem zdm : type_of% @isConst_tmp := @isConst_tmp
theorem zdn : type_of% @isConst_const := @isConst_const
theorem zdo : type_of% @Option.map_some := @Option.map_some
theorem zdp : type_of% @Option.map_none := @Option.map_none
theorem zdq : type_of% @Bool.or_false := @Bool.or_false
theorem zdr : type_of% @Bool.or_true := @Bool.or_true
theorem zds : type_of% @Bool.false_eq_true := @Bool.false_eq_true
theorem zdt : type_of% @Bool.not_eq_true := @Bool.not_eq_true
theorem zdu : type_of% @List.map_toArray := @List.map_toArray
theorem zdv : type_of% @List.map_cons := @List.map_cons
theorem zdw : type_of% @List.map_nil := @List.map_nil
theorem zdx : type_of% @yieldedA_eq := @yieldedA_eq
theorem zdy : type_of% @asB_bool := @asB_bool
theorem zdz : type_of% @asB_undef := @asB_undef
theorem zea : type_of% @LpQ_ret := @LpQ_ret
theorem zeb : type_of% @LpQ_exit := @LpQ_exit
theorem zec : type_of% @Option.bind_some := @Option.bind_some
theorem zed : type_of% @Option.bind_none := @Option.bind_none
theorem zee : type_of% @decide_eq_true_eq := @decide_eq_true_eq
theorem zef : type_of% @decide_eq_false_iff_not := @decide_eq_false_iff_not
theorem zeg : type_of% @Int.ofNat_lt := @Int.ofNat_lt
theorem zeh : type_of% @not_false_eq_true := @not_false_eq_true
theorem zei : type_of% @not_true_eq_false := @not_true_eq_false
theorem zej : type_of% @aBin_add := @aBin_add
theorem zek : type_of% @aBin_sub := @aBin_sub
theorem zel : type_of% @aBin_mul := @aBin_mul
theorem zem : type_of% @aBin_rem := @aBin_rem
theorem zen : type_of% @aBin_eql := @aBin_eql
theorem zeo : type_of% @aBin_neq := @aBin_neq
theorem zep : type_of% @aBin_lss := @aBin_lss
theorem zeq : type_of% @aBin_leq := @aBin_leq
theorem zer : type_of% @aBin_gtr := @aBin_gtr
theorem zes : type_of% @aBin_geq := @aBin_geq
theorem zet : type_of% @Int.toNat_natCast := @Int.toNat_natCast
theorem zeu : type_of% @Nat.mul_one := @Nat.mul_one
theorem zev : type_of% @Nat.zero_add := @Nat.zero_add
theorem zew : type_of% @Int.natCast_nonneg := @Int.natCast_nonneg
theorem zex : type_of% @Int.natCast_pos := @Int.natCast_pos
theorem zey : type_of% @Nat.add_zero := @Nat.add_zero
theorem zez : type_of% @Option.isNone_none := @Option.isNone_none
theorem zfa : type_of% @Option.isNone_some := @Option.isNone_some
theorem zfb : type_of% @Option.isSome_none := @Option.isSome_none
theorem zfc : type_of% @Option.isSome_some := @Option.isSome_some
theorem zfd : type_of% @ne_eq := @ne_eq
end Go.Sh

/- Shadow, part 26: bits, bytes, numbers as bytes. -/
namespace Go.Sh
open Go

theorem wrap_u64 {x : Int} (h : 0 ≤ x ∧ x < 18446744073709551616) : IntKind.u64.wrap x = x := by
  obtain ⟨h1, h2⟩ := h
  simp [IntKind.wrap, IntKind.signed, IntKind.bits]
  omega
theorem wrap_u8 (x : Int) : IntKind.u8.wrap x = x % 256 := by
  simp [IntKind.wrap, IntKind.signed, IntKind.bits]
theorem wrap_u64' (x : Int) : IntKind.u64.wrap x = x % 18446744073709551616 := by
  simp [IntKind.wrap, IntKind.signed, IntKind.bits]

theorem bits_or {a b w : Nat} (ha : a < 2 ^ w) (hb : b * 2 ^ w < 18446744073709551616) (hw : a < 18446744073709551616) :
    IntKind.u64.wrap ((BitVec.ofInt IntKind.u64.bits (a : Int) ||| BitVec.ofInt IntKind.u64.bits ((b * 2 ^ w : Nat) : Int)).toNat : Int) = ((a + b * 2 ^ w : Nat) : Int) := by
  have h1 : (BitVec.ofInt 64 (a : Int) ||| BitVec.ofInt 64 ((b * 2 ^ w : Nat) : Int)).toNat = a + b * 2 ^ w := by
    rw [BitVec.ofInt_natCast, BitVec.ofInt_natCast, BitVec.toNat_or, BitVec.toNat_ofNat, BitVec.toNat_ofNat, Nat.mod_eq_of_lt hw, Nat.mod_eq_of_lt hb, Nat.or_comm, Nat.mul_comm, ← Nat.two_pow_add_eq_or_of_lt ha, Nat.add_comm]
  show IntKind.u64.wrap ((BitVec.ofInt 64 (a : Int) ||| BitVec.ofInt 64 ((b * 2 ^ w : Nat) : Int)).toNat : Int) = _
  rw [h1]
  refine wrap_u64 ⟨by omega, ?_⟩
  have : a + b * 2 ^ w < 18446744073709551616 := by
    rw [Nat.add_comm, Nat.mul_comm, Nat.two_pow_add_eq_or_of_lt ha]
    rw [Nat.mul_comm] at hb
    exact Nat.or_lt_two_pow (n := 64) hb hw
  omega

set_option maxRecDepth 100000 in
theorem bits_low : ∀ b : Fin 256, (BitVec.ofInt 8 (b.val : Int) &&& BitVec.ofInt 8 127).toNat = b.val % 128 := by decide +kernel
set_option maxRecDepth 100000 in
theorem bits_high : ∀ b : Fin 256, (BitVec.ofInt 8 (b.val : Int) ||| BitVec.ofInt 8 128).toNat = b.val % 128 + 128 := by decide +kernel

/-- A number with its sign as a number: n · 2, and turned below 0. -/
def zigN (n : Int) : Int := if 0 ≤ n then 2 * n else -2 * n - 1
def zagN (u : Int) : Int := if u % 2 = 0 then u / 2 else - (u / 2) - 1
theorem zig_zag {u : Int} (h : 0 ≤ u) : zigN (zagN u) = u := by
  unfold zigN zagN
  split <;> split <;> omega
theorem zag_zig (n : Int) : zagN (zigN n) = n := by
  unfold zigN zagN
  split <;> split <;> omega

theorem xor_zero64 (x : BitVec 64) : x ^^^ 0 = x := by simp
theorem xor_ones64 (x : BitVec 64) : x ^^^ BitVec.ofInt 64 (-1) = ~~~ x := by
  rw [show BitVec.ofInt 64 (-1) = BitVec.allOnes 64 from rfl, BitVec.xor_allOnes]


/-! ### Bytes of a string -/
def bl (s : ByteArray) : List UInt8 := s.data.toList
theorem bl_len (s : ByteArray) : s.size = (bl s).length := by
  show s.data.size = s.data.toList.length
  exact Array.length_toList.symm
theorem bl_get (s : ByteArray) (i : Nat) : s[i]? = (bl s)[i]? := by
  by_cases h : i < s.size
  · rw [getElem?_pos s i h, List.getElem?_eq_getElem (by rw [← bl_len]; exact h)]
    rfl
  · rw [getElem?_neg s i h, List.getElem?_eq_none (by rw [← bl_len]; omega)]
theorem bl_mk (l : List UInt8) : bl ⟨l.toArray⟩ = l := by simp [bl]
theorem bl_ext {s t : ByteArray} (h : bl s = bl t) : s = t := by
  obtain ⟨⟨a⟩⟩ := s
  obtain ⟨⟨b⟩⟩ := t
  simp only [bl] at h
  rw [h]
theorem bl_extract (s : ByteArray) (l h : Nat) : bl (s.extract l h) = ((bl s).take h).drop l := by
  unfold bl
  rw [ByteArray.data_extract, Array.toList_extract, List.extract_eq_drop_take']

/-! ### Numbers as bytes -/
def uintL (n : Nat) : List UInt8 := if h : n < 128 then [UInt8.ofNat n] else UInt8.ofNat (n % 128 + 128) :: uintL (n / 128)
termination_by n
decreasing_by omega

/-- One number out of bytes, from its w-th byte on: what it is, how many bytes, which error. -/
def rdU : Nat → Nat → List UInt8 → Nat × Nat × Nat
  | _, _, [] => (0, 0, 2)
  | w, n, b :: s =>
    if (w = 9 ∧ 1 < b.toNat) ∨ (0 < w ∧ b.toNat = 0) then (0, 0, 4)
    else if b.toNat < 128 then (n + b.toNat * 2 ^ (7 * w), w + 1, 0)
    else rdU (w + 1) (n + b.toNat % 128 * 2 ^ (7 * w)) s

theorem ofNat_toNat (b : UInt8) : UInt8.ofNat b.toNat = b := by simp

theorem rdU_canon : ∀ (s : List UInt8) (w n m k : Nat), w ≤ 9 → n < 2 ^ (7 * w) → rdU w n s = (m, k, 0) →
    ∃ q, w + 1 ≤ k ∧ k - w ≤ s.length ∧ s.take (k - w) = uintL q ∧ m = n + q * 2 ^ (7 * w) ∧ (0 < w → 0 < q) ∧ m < 18446744073709551616
  | [], w, n, m, k, _, _, h => by simp [rdU] at h
  | b :: s, w, n, m, k, hw, hn, h => by
    rw [rdU] at h
    have hb := b.toNat_lt
    split at h
    · simp at h
    · rename_i hc
      have hc1 : w = 9 → b.toNat ≤ 1 := fun e => by
        rcases Nat.lt_or_ge 1 b.toNat with h1 | h1
        · exact absurd (.inl ⟨e, h1⟩) hc
        · exact h1
      have hc2 : 0 < w → 0 < b.toNat := fun e => by
        rcases Nat.eq_zero_or_pos b.toNat with h1 | h1
        · exact absurd (.inr ⟨e, h1⟩) hc
        · exact h1
      split at h
      · rename_i hlt
        simp only [Prod.mk.injEq, and_true] at h
        obtain ⟨rfl, rfl⟩ := h
        refine ⟨b.toNat, by omega, by simp, ?_, rfl, hc2, ?_⟩
        · rw [show w + 1 - w = 1 by omega, List.take_succ_cons, List.take_zero, uintL, dif_pos hlt, ofNat_toNat]
        · rcases Nat.lt_or_ge w 9 with h9 | h9
          · have h1 : 2 ^ (7 * w) ≤ 2 ^ 56 := Nat.pow_le_pow_right (by omega) (by omega)
            have h2 : b.toNat * 2 ^ (7 * w) ≤ 127 * 2 ^ (7 * w) := Nat.mul_le_mul_right _ (by omega)
            omega
          · have e9 : w = 9 := by omega
            subst e9
            have := hc1 rfl
            have h2 : b.toNat * 2 ^ (7 * 9) ≤ 1 * 2 ^ (7 * 9) := Nat.mul_le_mul_right _ (by omega)
            omega
      · rename_i hge
        have h9 : w < 9 := by
          rcases Nat.lt_or_ge w 9 with h1 | h1
          · exact h1
          · have := hc1 (by omega); omega
        have hpow : 2 ^ (7 * (w + 1)) = 128 * 2 ^ (7 * w) := by rw [show 7 * (w + 1) = 7 * w + 7 by omega, Nat.pow_add]; omega
        have hn' : n + b.toNat % 128 * 2 ^ (7 * w) < 2 ^ (7 * (w + 1)) := by
          have h2 : b.toNat % 128 * 2 ^ (7 * w) ≤ 127 * 2 ^ (7 * w) := Nat.mul_le_mul_right _ (by omega)
          omega
        obtain ⟨q, g1, g2, g3, g4, g5, g6⟩ := rdU_canon s (w + 1) _ m k (by omega) hn' h
        have hq := g5 (by omega)
        refine ⟨b.toNat % 128 + 128 * q, by omega, by simp; omega, ?_, ?_, fun _ => by omega, g6⟩
        · rw [show k - w = (k - (w + 1)) + 1 by omega, List.take_succ_cons, g3]
          conv => rhs; rw [uintL]
          rw [dif_neg (by omega)]
          congr 1
          · rw [show (b.toNat % 128 + 128 * q) % 128 + 128 = b.toNat by omega, ofNat_toNat]
          · congr 1; omega
        · rw [g4, hpow, Nat.add_mul, Nat.mul_comm 128 (2 ^ (7 * w)), Nat.mul_comm 128 q, Nat.mul_assoc q, Nat.mul_comm 128]
          exact Nat.add_assoc _ _ _

end Go.Sh

/- Shadow, part 27: lists of posts out of bytes, and as bytes: what is taken is the one form. -/
namespace Go.Sh
open Go

/-- Places out of bytes: error, what is left, places. -/
def pF : Nat → Nat → Nat → Nat → List UInt8 → List Int → Nat × List UInt8 × List Int
  | 0, _, _, _, s, acc => (99, s, acc)
  | f + 1, k, n, ahead, s, acc =>
    if k < n then
      if (rdU 0 0 s).2.2 = 0 then
        if (0 < (rdU 0 0 s).1 ∨ k = 0) ∧ (rdU 0 0 s).1 ≤ 9223372036854775807 - ahead then
          pF f (k + 1) n (ahead + (rdU 0 0 s).1) (s.drop (rdU 0 0 s).2.1) (acc ++ [((ahead + (rdU 0 0 s).1 : Nat) : Int)])
        else (4, s.drop (rdU 0 0 s).2.1, acc)
      else ((rdU 0 0 s).2.2, s, acc)
    else (0, s, acc)

/-- Posts out of bytes. -/
def eF : Nat → Nat → Nat → Int → List UInt8 → List (Int × List Int) → Nat × List UInt8 × List (Int × List Int)
  | 0, _, _, _, s, acc => (99, s, acc)
  | f + 1, i, n, doc, s, acc =>
    if i < n then
      if (rdU 0 0 s).2.2 = 0 then
        if i = 0 ∨ (0 < (rdU 0 0 s).1 ∧ ((rdU 0 0 s).1 : Int) ≤ 9223372036854775807 - doc) then
          if (rdU 0 0 (s.drop (rdU 0 0 s).2.1)).2.2 = 0 then
            if (pF ((s.drop (rdU 0 0 s).2.1).drop (rdU 0 0 (s.drop (rdU 0 0 s).2.1)).2.1).length.succ 0 (rdU 0 0 (s.drop (rdU 0 0 s).2.1)).1 0 ((s.drop (rdU 0 0 s).2.1).drop (rdU 0 0 (s.drop (rdU 0 0 s).2.1)).2.1) []).1 = 0 then
              eF f (i + 1) n (if i = 0 then zagN (rdU 0 0 s).1 else doc + (rdU 0 0 s).1)
                (pF ((s.drop (rdU 0 0 s).2.1).drop (rdU 0 0 (s.drop (rdU 0 0 s).2.1)).2.1).length.succ 0 (rdU 0 0 (s.drop (rdU 0 0 s).2.1)).1 0 ((s.drop (rdU 0 0 s).2.1).drop (rdU 0 0 (s.drop (rdU 0 0 s).2.1)).2.1) []).2.1
                (acc ++ [(if i = 0 then zagN (rdU 0 0 s).1 else doc + (rdU 0 0 s).1, (pF ((s.drop (rdU 0 0 s).2.1).drop (rdU 0 0 (s.drop (rdU 0 0 s).2.1)).2.1).length.succ 0 (rdU 0 0 (s.drop (rdU 0 0 s).2.1)).1 0 ((s.drop (rdU 0 0 s).2.1).drop (rdU 0 0 (s.drop (rdU 0 0 s).2.1)).2.1) []).2.2)])
            else ((pF ((s.drop (rdU 0 0 s).2.1).drop (rdU 0 0 (s.drop (rdU 0 0 s).2.1)).2.1).length.succ 0 (rdU 0 0 (s.drop (rdU 0 0 s).2.1)).1 0 ((s.drop (rdU 0 0 s).2.1).drop (rdU 0 0 (s.drop (rdU 0 0 s).2.1)).2.1) []).1, s, acc)
          else ((rdU 0 0 (s.drop (rdU 0 0 s).2.1)).2.2, s, acc)
        else (4, s, acc)
      else ((rdU 0 0 s).2.2, s, acc)
    else (0, s, acc)

def aF (s : List UInt8) : Nat × List (Int × List Int) :=
  if (rdU 0 0 s).2.2 = 0 then
    if (eF s.length.succ 0 (rdU 0 0 s).1 0 (s.drop (rdU 0 0 s).2.1) []).1 = 0 then
      (if (eF s.length.succ 0 (rdU 0 0 s).1 0 (s.drop (rdU 0 0 s).2.1) []).2.1 = [] then 0 else 3, (eF s.length.succ 0 (rdU 0 0 s).1 0 (s.drop (rdU 0 0 s).2.1) []).2.2)
    else ((eF s.length.succ 0 (rdU 0 0 s).1 0 (s.drop (rdU 0 0 s).2.1) []).1, [])
  else ((rdU 0 0 s).2.2, [])

/-! ### As bytes -/
def encP : Int → List Int → List UInt8
  | _, [] => []
  | a, x :: l => uintL (x - a).toNat ++ encP x l
def encD : Bool → Int → List (Int × List Int) → List UInt8
  | _, _, [] => []
  | b, d, p :: l => uintL (if b then (zigN p.1).toNat else (p.1 - d).toNat) ++ (uintL p.2.length ++ (encP 0 p.2 ++ encD false p.1 l))

def upFrom (a : Int) : List Int → Prop
  | [] => True
  | x :: l => a < x ∧ x ≤ 9223372036854775807 ∧ upFrom x l
def placesUp : List Int → Prop
  | [] => True
  | x :: l => 0 ≤ x ∧ x ≤ 9223372036854775807 ∧ upFrom x l
theorem upFrom_all : ∀ (l : List Int) (a : Int), upFrom a l → (∀ x ∈ l, a < x ∧ x ≤ 9223372036854775807) ∧ l.Pairwise fun p q => p < q
  | [], a, _ => ⟨fun x hx => (by cases hx), List.Pairwise.nil⟩
  | y :: l, a, ⟨h1, h2, h3⟩ => by
    obtain ⟨k1, k2⟩ := upFrom_all l y h3
    refine ⟨fun x hx => ?_, List.pairwise_cons.2 ⟨fun x hx => (k1 x hx).1, k2⟩⟩
    rcases List.mem_cons.1 hx with rfl | hx
    · exact ⟨h1, h2⟩
    · have := k1 x hx; exact ⟨by omega, this.2⟩
theorem placesUp_all {l : List Int} (h : placesUp l) : (∀ x ∈ l, 0 ≤ x ∧ x ≤ 9223372036854775807) ∧ l.Pairwise fun p q => p < q := by
  cases l with
  | nil => exact ⟨fun x hx => (by cases hx), List.Pairwise.nil⟩
  | cons y l =>
    obtain ⟨h1, h2, h3⟩ := h
    obtain ⟨k1, k2⟩ := upFrom_all l y h3
    refine ⟨fun x hx => ?_, List.pairwise_cons.2 ⟨fun x hx => (k1 x hx).1, k2⟩⟩
    rcases List.mem_cons.1 hx with rfl | hx
    · exact ⟨h1, h2⟩
    · have := k1 x hx; exact ⟨by omega, this.2⟩

theorem trip1 {β γ : Type} {a : Nat × β × γ} (h : a.1 = 0) : a = (0, a.2.1, a.2.2) := by
  obtain ⟨x, y, z⟩ := a
  simp only at h
  rw [h]
theorem trip3 {α β : Type} {a : α × β × Nat} (h : a.2.2 = 0) : a = (a.1, a.2.1, 0) := by
  obtain ⟨x, y, z⟩ := a
  simp only at h
  rw [h]

theorem rdU_one {s : List UInt8} (h : (rdU 0 0 s).2.2 = 0) : s = uintL (rdU 0 0 s).1 ++ s.drop (rdU 0 0 s).2.1 ∧ (s.drop (rdU 0 0 s).2.1).length < s.length ∧ (rdU 0 0 s).1 < 18446744073709551616 ∧ 0 < (rdU 0 0 s).2.1 ∧ (rdU 0 0 s).2.1 ≤ s.length := by
  obtain ⟨q, h1, h2, h3, h4, _, h6⟩ := rdU_canon s 0 0 (rdU 0 0 s).1 (rdU 0 0 s).2.1 (by omega) (by simp) (trip3 h)
  simp only [Nat.sub_zero, Nat.mul_zero, Nat.pow_zero, Nat.mul_one, Nat.zero_add] at h1 h2 h3 h4
  refine ⟨?_, by rw [List.length_drop]; omega, h6, by omega, h2⟩
  rw [h4, ← h3, List.take_append_drop]

theorem pF_canon : ∀ (f k n ahead : Nat) (s : List UInt8) (acc : List Int) (rest : List UInt8) (L : List Int), ahead ≤ 9223372036854775807 → pF f k n ahead s acc = (0, rest, L) →
    ∃ l : List Int, L = acc ++ l ∧ l.length = n - k ∧ s = encP ahead l ++ rest ∧ (0 < k → upFrom ahead l) ∧ (k = 0 → ahead = 0 → placesUp l)
  | 0, k, n, ahead, s, acc, rest, L, _, h => by simp [pF] at h
  | f + 1, k, n, ahead, s, acc, rest, L, ha, h => by
    rw [pF] at h
    split at h
    · rename_i hk
      split at h
      · rename_i he
        split at h
        · rename_i hc
          obtain ⟨l, h1, h2, h3, h4, _⟩ := pF_canon f (k + 1) n _ _ _ rest L (by omega) h
          obtain ⟨g1, _, _, _⟩ := rdU_one he
          have hup := h4 (by omega)
          refine ⟨((ahead + (rdU 0 0 s).1 : Nat) : Int) :: l, by rw [h1, List.append_assoc]; rfl, by simp; omega, ?_, fun hk0 => ⟨by omega, by omega, hup⟩, fun hk0 h0 => ⟨by omega, by omega, hup⟩⟩
          rw [encP, List.append_assoc, ← h3, show (((ahead + (rdU 0 0 s).1 : Nat) : Int) - ahead).toNat = (rdU 0 0 s).1 by omega]
          exact g1
        · simp at h
      · simp only [Prod.mk.injEq] at h
        rename_i he
        exact absurd h.1 he
    · rename_i hk
      simp only [Prod.mk.injEq, true_and] at h
      obtain ⟨rfl, rfl⟩ := h
      exact ⟨[], by simp, by simp; omega, rfl, fun _ => trivial, fun _ _ => trivial⟩

/-- Documents rising, places likewise, all in their bounds. -/
def docsUp : Bool → Int → List (Int × List Int) → Prop
  | _, _, [] => True
  | b, d, p :: l => (b = false → d < p.1) ∧ -9223372036854775808 ≤ p.1 ∧ p.1 ≤ 9223372036854775807 ∧ placesUp p.2 ∧ docsUp false p.1 l

theorem eF_canon : ∀ (f i n : Nat) (doc : Int) (s : List UInt8) (acc : List (Int × List Int)) (rest : List UInt8) (L : List (Int × List Int)), (-9223372036854775808 ≤ doc ∧ doc ≤ 9223372036854775807) → eF f i n doc s acc = (0, rest, L) →
    ∃ l : List (Int × List Int), L = acc ++ l ∧ l.length = n - i ∧ s = encD (decide (i = 0)) doc l ++ rest ∧ docsUp (decide (i = 0)) doc l
  | 0, i, n, doc, s, acc, rest, L, _, h => by simp [eF] at h
  | f + 1, i, n, doc, s, acc, rest, L, hd, h => by
    rw [eF] at h
    split at h
    · split at h
      · rename_i he
        split at h
        · rename_i hc
          split at h
          · rename_i he1
            split at h
            · rename_i hp
              obtain ⟨g1, _, g3, _⟩ := rdU_one he
              obtain ⟨k1, _, k3, _⟩ := rdU_one he1
              have hzag : -9223372036854775808 ≤ zagN (rdU 0 0 s).1 ∧ zagN (rdU 0 0 s).1 ≤ 9223372036854775807 := by unfold zagN; split <;> omega
              have hzz := zig_zag (u := (rdU 0 0 s).1) (by omega)
              generalize rdU 0 0 s = r at *
              generalize s.drop r.2.1 = s1 at *
              generalize rdU 0 0 s1 = r1 at *
              generalize s1.drop r1.2.1 = s2 at *
              have hpc := pF_canon s2.length.succ 0 r1.1 0 s2 []
              generalize pF s2.length.succ 0 r1.1 0 s2 [] = p at *
              obtain ⟨l2, j1, j2, j3, _, j5⟩ := hpc p.2.1 p.2.2 (by omega) (trip1 hp)
              have j6 := j5 rfl rfl
              simp only [List.nil_append, Nat.sub_zero] at j1 j2
              obtain ⟨l, m1, m2, m3, m4⟩ := eF_canon f (i + 1) n _ _ _ rest L (by split <;> omega) h
              have hi1 : decide (i + 1 = 0) = false := decide_eq_false (by omega)
              rw [hi1] at m3 m4
              refine ⟨(if i = 0 then zagN r.1 else doc + r.1, p.2.2) :: l, by rw [m1, List.append_assoc]; rfl, by simp; omega, ?_, ?_⟩
              · rw [encD]
                simp only [List.append_assoc]
                rw [← m3, j1, ← show s2 = encP 0 l2 ++ p.2.1 from j3, j2, ← k1]
                have : (if decide (i = 0) = true then (zigN (if i = 0 then zagN r.1 else doc + r.1)).toNat else ((if i = 0 then zagN r.1 else doc + r.1) - doc).toNat) = r.1 := by
                  by_cases h0 : i = 0
                  · simp only [h0, decide_true, if_true]; rw [hzz]; omega
                  · simp only [h0, decide_false, if_false, Bool.false_eq_true]; omega
                rw [this]
                exact g1
              · refine ⟨fun h0 => ?_, ?_, ?_, by rw [j1]; exact j6, m4⟩
                · have h0' : ¬ i = 0 := by simpa using h0
                  simp only [if_neg h0']
                  omega
                · simp only; split <;> omega
                · simp only; split <;> omega
            · rename_i hp; simp only [Prod.mk.injEq] at h; exact absurd h.1 hp
          · rename_i hp; simp only [Prod.mk.injEq] at h; exact absurd h.1 hp
        · simp at h
      · rename_i hp; simp only [Prod.mk.injEq] at h; exact absurd h.1 hp
    · simp only [Prod.mk.injEq, true_and] at h
      obtain ⟨rfl, rfl⟩ := h
      exact ⟨[], by simp, by simp; omega, rfl, trivial⟩

theorem docsUp_all : ∀ (l : List (Int × List Int)) (b : Bool) (d : Int), docsUp b d l → (∀ p ∈ l, (b = false → d < p.1) ∧ -9223372036854775808 ≤ p.1 ∧ p.1 ≤ 9223372036854775807 ∧ placesUp p.2) ∧ l.Pairwise fun p q => p.1 < q.1
  | [], b, d, _ => ⟨fun x hx => (by cases hx), List.Pairwise.nil⟩
  | y :: l, b, d, ⟨h1, h2, h3, h4, h5⟩ => by
    obtain ⟨k1, k2⟩ := docsUp_all l false y.1 h5
    refine ⟨fun x hx => ?_, List.pairwise_cons.2 ⟨fun x hx => (k1 x hx).1 rfl, k2⟩⟩
    rcases List.mem_cons.1 hx with rfl | hx
    · exact ⟨h1, h2, h3, h4⟩
    · have := k1 x hx
      exact ⟨fun hb => by have := h1 hb; have := (k1 x hx).1 rfl; omega, this.2⟩

def encL (l : List (Int × List Int)) : List UInt8 := uintL l.length ++ encD true 0 l

/-- What is taken is the one form. -/
theorem aF_canon {s : List UInt8} {l : List (Int × List Int)} (h : aF s = (0, l)) : s = encL l ∧ docsUp true 0 l := by
  unfold aF at h
  split at h
  · rename_i he
    obtain ⟨g1, _⟩ := rdU_one he
    split at h
    · rename_i hq
      simp only [Prod.mk.injEq] at h
      obtain ⟨h1, h2⟩ := h
      obtain ⟨l', m1, m2, m3, m4⟩ := eF_canon s.length.succ 0 (rdU 0 0 s).1 0 (s.drop (rdU 0 0 s).2.1) [] _ _ (by omega) (trip1 hq)
      simp only [List.nil_append, Nat.sub_zero, decide_true] at m1 m2 m3 m4
      rw [h2] at m1
      subst m1
      split at h1
      · rename_i hr
        rw [hr, List.append_nil] at m3
        refine ⟨?_, m4⟩
        unfold encL
        rw [m2, ← m3]
        exact g1
      · cases h1
    · rename_i hp; simp only [Prod.mk.injEq] at h; exact absurd h.1 hp
  · rename_i hp; simp only [Prod.mk.injEq] at h; exact absurd h.1 hp
end Go.Sh

/- Shadow, part 30: what is encoded is read as it was; cut short it is not taken. -/
namespace Go.Sh
open Go

/-- What a list of places comes to: error, what is left, places. -/
def plOut (s : List UInt8) : Nat × List UInt8 × List Int :=
  if (rdU 0 0 s).2.2 = 0 then pF (s.drop (rdU 0 0 s).2.1).length.succ 0 (rdU 0 0 s).1 0 (s.drop (rdU 0 0 s).2.1) [] else ((rdU 0 0 s).2.2, s, [])

theorem eF_step (f i n : Nat) (doc : Int) (s : List UInt8) (acc : List (Int × List Int)) : eF (f + 1) i n doc s acc =
    if i < n then
      if (rdU 0 0 s).2.2 = 0 then
        if i = 0 ∨ (0 < (rdU 0 0 s).1 ∧ ((rdU 0 0 s).1 : Int) ≤ 9223372036854775807 - doc) then
          if (plOut (s.drop (rdU 0 0 s).2.1)).1 = 0 then
            eF f (i + 1) n (if i = 0 then zagN (rdU 0 0 s).1 else doc + (rdU 0 0 s).1) (plOut (s.drop (rdU 0 0 s).2.1)).2.1 (acc ++ [(if i = 0 then zagN (rdU 0 0 s).1 else doc + (rdU 0 0 s).1, (plOut (s.drop (rdU 0 0 s).2.1)).2.2)])
          else ((plOut (s.drop (rdU 0 0 s).2.1)).1, s, acc)
        else (4, s, acc)
      else ((rdU 0 0 s).2.2, s, acc)
    else (0, s, acc) := by
  rw [eF]
  by_cases h : (rdU 0 0 (s.drop (rdU 0 0 s).2.1)).2.2 = 0
  · have : plOut (s.drop (rdU 0 0 s).2.1) = pF ((s.drop (rdU 0 0 s).2.1).drop (rdU 0 0 (s.drop (rdU 0 0 s).2.1)).2.1).length.succ 0 (rdU 0 0 (s.drop (rdU 0 0 s).2.1)).1 0 ((s.drop (rdU 0 0 s).2.1).drop (rdU 0 0 (s.drop (rdU 0 0 s).2.1)).2.1) [] := by unfold plOut; rw [if_pos h]
    rw [this]
    simp only [if_pos h]
  · have : plOut (s.drop (rdU 0 0 s).2.1) = ((rdU 0 0 (s.drop (rdU 0 0 s).2.1)).2.2, s.drop (rdU 0 0 s).2.1, []) := by unfold plOut; rw [if_neg h]
    rw [this]
    simp only [if_neg h]

theorem pF_le : ∀ (f k n ahead : Nat) (s : List UInt8) (acc : List Int), (pF f k n ahead s acc).2.1.length ≤ s.length
  | 0, _, _, _, s, acc => Nat.le_refl _
  | f + 1, k, n, ahead, s, acc => by
    rw [pF]
    split
    · split
      · split
        · exact Nat.le_trans (pF_le f _ _ _ _ _) (by rw [List.length_drop]; omega)
        · show (s.drop _).length ≤ _; rw [List.length_drop]; omega
      · exact Nat.le_refl _
    · exact Nat.le_refl _
theorem plOut_le (s : List UInt8) : (plOut s).2.1.length ≤ s.length := by
  unfold plOut
  split
  · exact Nat.le_trans (pF_le _ _ _ _ _ _) (by rw [List.length_drop]; omega)
  · exact Nat.le_refl _


/-! ### A number that was laid -/
theorem uintL_pos (n : Nat) : 0 < (uintL n).length := by
  rw [uintL]
  split <;> simp

theorem rdU_enc : ∀ (n w acc : Nat) (t : List UInt8), w ≤ 9 → (0 < w → 0 < n) → n * 2 ^ (7 * w) < 18446744073709551616 → rdU w acc (uintL n ++ t) = (acc + n * 2 ^ (7 * w), w + (uintL n).length, 0) := by
  intro n
  induction n using Nat.strongRecOn with
  | ind n ih =>
    intro w acc t hw h0 hb
    rw [uintL]
    split
    · rename_i hlt
      have hbt : (UInt8.ofNat n).toNat = n := by simp; omega
      rw [List.cons_append, rdU, hbt, if_neg, if_pos hlt]
      · rfl
      · rintro (⟨h1, h2⟩ | ⟨h1, h2⟩)
        · subst h1
          have : 2 * 2 ^ (7 * 9) ≤ n * 2 ^ (7 * 9) := Nat.mul_le_mul_right _ (by omega)
          omega
        · have := h0 h1; omega
    · rename_i hge
      have hbt : (UInt8.ofNat (n % 128 + 128)).toNat = n % 128 + 128 := by simp; omega
      have hw9 : w < 9 := by
        rcases Nat.lt_or_ge w 9 with h | h
        · exact h
        · have e9 : w = 9 := by omega
          subst e9
          have : 128 * 2 ^ (7 * 9) ≤ n * 2 ^ (7 * 9) := Nat.mul_le_mul_right _ (by omega)
          omega
      have hpow : 2 ^ (7 * (w + 1)) = 128 * 2 ^ (7 * w) := by rw [show 7 * (w + 1) = 7 * w + 7 by omega, Nat.pow_add]; omega
      have hsplit : n % 128 * 2 ^ (7 * w) + n / 128 * 2 ^ (7 * (w + 1)) = n * 2 ^ (7 * w) := by
        rw [hpow, ← Nat.mul_assoc, ← Nat.add_mul]
        congr 1
        omega
      rw [List.cons_append, rdU, hbt, if_neg (by omega), if_neg (by omega), ih (n / 128) (by omega) (w + 1) _ t (by omega) (fun _ => by omega) (by omega), List.length_cons]
      rw [show (n % 128 + 128) % 128 = n % 128 by omega]
      simp only [Prod.mk.injEq, and_true]
      omega
theorem rdU_enc0 {n : Nat} (hn : n < 18446744073709551616) (t : List UInt8) : rdU 0 0 (uintL n ++ t) = (n, (uintL n).length, 0) := by
  have := rdU_enc n 0 0 t (by omega) (by omega) (by simpa using hn)
  simpa using this
theorem rdU_cut : ∀ (n w acc m : Nat), w ≤ 9 → (0 < w → 0 < n) → n * 2 ^ (7 * w) < 18446744073709551616 → m < (uintL n).length → rdU w acc ((uintL n).take m) = (0, 0, 2) := by
  intro n
  induction n using Nat.strongRecOn with
  | ind n ih =>
    intro w acc m hw h0 hb hm
    cases m with
    | zero => rfl
    | succ m =>
      rw [uintL] at hm ⊢
      split at hm
      · simp at hm
      · rename_i hge
        rw [dif_neg hge]
        have hbt : (UInt8.ofNat (n % 128 + 128)).toNat = n % 128 + 128 := by simp; omega
        have hw9 : w < 9 := by
          rcases Nat.lt_or_ge w 9 with h | h
          · exact h
          · have e9 : w = 9 := by omega
            subst e9
            have : 128 * 2 ^ (7 * 9) ≤ n * 2 ^ (7 * 9) := Nat.mul_le_mul_right _ (by omega)
            omega
        have hpow : 2 ^ (7 * (w + 1)) = 128 * 2 ^ (7 * w) := by rw [show 7 * (w + 1) = 7 * w + 7 by omega, Nat.pow_add]; omega
        have hsplit : n % 128 * 2 ^ (7 * w) + n / 128 * 2 ^ (7 * (w + 1)) = n * 2 ^ (7 * w) := by
          rw [hpow, ← Nat.mul_assoc, ← Nat.add_mul]
          congr 1
          omega
        rw [List.take_succ_cons, rdU, hbt, if_neg (by omega), if_neg (by omega)]
        exact ih (n / 128) (by omega) (w + 1) _ m (by omega) (fun _ => by omega) (by omega) (by simpa using hm)
theorem rdU_cut0 {n : Nat} (hn : n < 18446744073709551616) {m : Nat} (hm : m < (uintL n).length) : rdU 0 0 ((uintL n).take m) = (0, 0, 2) :=
  rdU_cut n 0 0 m (by omega) (by omega) (by simpa using hn) hm

/-- A beginning of a number and what follows: the number whole, or cut. -/
theorem take_two (u r : List UInt8) (m : Nat) : (m < u.length ∧ (u ++ r).take m = u.take m) ∨ (u.length ≤ m ∧ (u ++ r).take m = u ++ r.take (m - u.length)) := by
  rcases Nat.lt_or_ge m u.length with h | h
  · exact .inl ⟨h, List.take_append_of_le_length (by omega)⟩
  · refine .inr ⟨h, ?_⟩
    rw [List.take_append, List.take_of_length_le h]

def upAt (k ahead : Nat) (l : List Int) : Prop := (0 < k ∧ upFrom ahead l) ∨ (k = 0 ∧ ahead = 0 ∧ placesUp l)
theorem upAt_cons {k ahead : Nat} {x : Int} {l : List Int} (h : upAt k ahead (x :: l)) : (ahead : Int) ≤ x ∧ x ≤ 9223372036854775807 ∧ ((ahead : Int) < x ∨ k = 0) ∧ upAt (k + 1) x.toNat l := by
  rcases h with ⟨h1, h2, h3, h4⟩ | ⟨h1, h2, h3, h4, h5⟩
  · refine ⟨by omega, h3, .inl h2, .inl ⟨by omega, ?_⟩⟩
    rw [show ((x.toNat : Nat) : Int) = x by omega]
    exact h4
  · refine ⟨by omega, h4, .inr h1, .inl ⟨by omega, ?_⟩⟩
    rw [show ((x.toNat : Nat) : Int) = x by omega]
    exact h5

theorem pF_enc : ∀ (l : List Int) (f k n ahead : Nat) (t : List UInt8) (acc : List Int), l.length < f → n = k + l.length → upAt k ahead l → pF f k n ahead (encP ahead l ++ t) acc = (0, t, acc ++ l)
  | [], f, k, n, ahead, t, acc, hf, hn, _ => by
    obtain ⟨f, rfl⟩ : ∃ f', f = f' + 1 := ⟨f - 1, by simp at hf; omega⟩
    rw [pF, if_neg (by simp at hn; omega), encP, List.append_nil]
    rfl
  | x :: l, f, k, n, ahead, t, acc, hf, hn, hu => by
    obtain ⟨f, rfl⟩ : ∃ f', f = f' + 1 := ⟨f - 1, by simp at hf; omega⟩
    simp only [List.length_cons] at hf hn
    obtain ⟨u1, u2, u3, u4⟩ := upAt_cons hu
    have hr : rdU 0 0 (encP ahead (x :: l) ++ t) = ((x - ahead).toNat, (uintL (x - ahead).toNat).length, 0) := by
      rw [encP, List.append_assoc, rdU_enc0 (by omega)]
    rw [pF, if_pos (by omega), hr]
    simp only [if_true]
    rw [if_pos ⟨by omega, by omega⟩]
    have hd : (encP ahead (x :: l) ++ t).drop (uintL (x - ahead).toNat).length = encP x l ++ t := by
      rw [encP, List.append_assoc, List.drop_left]
    have hx : ahead + (x - ahead).toNat = x.toNat := by omega
    rw [hd, hx, show ((x.toNat : Nat) : Int) = x by omega]
    have := pF_enc l f (k + 1) n x.toNat t (acc ++ [x]) (by omega) (by omega) u4
    rw [show ((x.toNat : Nat) : Int) = x by omega] at this
    rw [this, List.append_assoc]
    rfl

theorem pF_cut : ∀ (l : List Int) (f k n ahead m : Nat) (acc : List Int), m < f → n = k + l.length → upAt k ahead l → m < (encP ahead l).length → (pF f k n ahead ((encP ahead l).take m) acc).1 = 2
  | [], f, k, n, ahead, m, acc, hf, hn, _, hm => by simp [encP] at hm
  | x :: l, f, k, n, ahead, m, acc, hf, hn, hu, hm => by
    obtain ⟨f, rfl⟩ : ∃ f', f = f' + 1 := ⟨f - 1, by omega⟩
    simp only [List.length_cons] at hn
    have hup := uintL_pos (x - ahead).toNat
    obtain ⟨u1, u2, u3, u4⟩ := upAt_cons hu
    rw [encP] at hm ⊢
    rcases take_two (uintL (x - ahead).toNat) (encP x l) m with ⟨h1, h2⟩ | ⟨h1, h2⟩
    · rw [h2, pF, if_pos (by omega), rdU_cut0 (by omega) h1]
      rfl
    · rw [h2, pF, if_pos (by omega), rdU_enc0 (by omega)]
      simp only [if_true]
      rw [if_pos ⟨by omega, by omega⟩, List.drop_left]
      have hx : ahead + (x - ahead).toNat = x.toNat := by omega
      rw [hx]
      have := pF_cut l f (k + 1) n x.toNat (m - (uintL (x - ahead).toNat).length) (acc ++ [((x.toNat : Nat) : Int)]) (by omega) (by omega) u4
      rw [show ((x.toNat : Nat) : Int) = x by omega] at this ⊢
      rw [List.length_append] at hm
      exact this (by omega)

theorem encP_len : ∀ (l : List Int) (a : Int), l.length ≤ (encP a l).length
  | [], a => Nat.le_refl _
  | x :: l, a => by
    rw [encP, List.length_append, List.length_cons]
    have := encP_len l x
    have := uintL_pos (x - a).toNat
    omega

theorem plOut_enc {l : List Int} (hl : l.length < 18446744073709551616) (hu : placesUp l) (t : List UInt8) : plOut (uintL l.length ++ (encP 0 l ++ t)) = (0, t, l) := by
  unfold plOut
  rw [rdU_enc0 hl]
  simp only [if_true]
  rw [List.drop_left]
  have := pF_enc l (encP 0 l ++ t).length.succ 0 l.length 0 t [] (by have := encP_len l 0; rw [List.length_append]; omega) (by omega) (.inr ⟨rfl, rfl, hu⟩)
  simpa using this
theorem plOut_cut {l : List Int} (hl : l.length < 18446744073709551616) (hu : placesUp l) {m : Nat} (hm : m < (uintL l.length ++ encP 0 l).length) : (plOut ((uintL l.length ++ encP 0 l).take m)).1 = 2 := by
  unfold plOut
  rcases take_two (uintL l.length) (encP 0 l) m with ⟨h1, h2⟩ | ⟨h1, h2⟩
  · rw [h2, rdU_cut0 hl h1]
    rfl
  · rw [h2, rdU_enc0 hl]
    simp only [if_true]
    rw [List.drop_left]
    rw [List.length_append] at hm
    have hm2 : m - (uintL l.length).length < (encP 0 l).length := by omega
    have := pF_cut l ((encP 0 l).take (m - (uintL l.length).length)).length.succ 0 l.length 0 (m - (uintL l.length).length) [] (by rw [List.length_take]; omega) (by omega) (.inr ⟨rfl, rfl, hu⟩) hm2
    exact this

/-! ### Lists of posts -/
def docsAt (i : Nat) (d : Int) (l : List (Int × List Int)) : Prop := docsUp (decide (i = 0)) d l ∧ (0 < i → -9223372036854775808 ≤ d ∧ d ≤ 9223372036854775807) ∧ ∀ p ∈ l, p.2.length < 18446744073709551616
def num (i : Nat) (d : Int) (p : Int × List Int) : Nat := if decide (i = 0) = true then (zigN p.1).toNat else (p.1 - d).toNat
theorem docsAt_cons {i : Nat} {d : Int} {p : Int × List Int} {l : List (Int × List Int)} (h : docsAt i d (p :: l)) : num i d p < 18446744073709551616 ∧ (i = 0 ∨ (0 < num i d p ∧ (num i d p : Int) ≤ 9223372036854775807 - d)) ∧
    (if i = 0 then zagN (num i d p) else d + num i d p) = p.1 ∧ placesUp p.2 ∧ p.2.length < 18446744073709551616 ∧ docsAt (i + 1) p.1 l := by
  obtain ⟨⟨h1, h2, h3, h4, h5⟩, h6, h7⟩ := h
  have hz := zag_zig p.1
  have hzn : 0 ≤ zigN p.1 ∧ zigN p.1 < 18446744073709551616 := by unfold zigN; split <;> omega
  unfold num
  have hi1 : decide (i + 1 = 0) = false := decide_eq_false (by omega)
  refine ⟨?_, ?_, ?_, h4, h7 p List.mem_cons_self, ⟨by rw [hi1]; exact h5, fun _ => ⟨h2, h3⟩, fun q hq => h7 q (List.mem_cons_of_mem _ hq)⟩⟩
  · by_cases hi : i = 0
    · simp only [hi, decide_true, if_true]; omega
    · have := h6 (by omega)
      simp only [hi, decide_false, Bool.false_eq_true, if_false]; omega
  · by_cases hi : i = 0
    · exact .inl hi
    · have := h6 (by omega)
      have := h1 (decide_eq_false hi)
      simp only [hi, decide_false, Bool.false_eq_true, if_false]
      right; omega
  · by_cases hi : i = 0
    · simp only [hi, decide_true, if_true]
      rw [show (((zigN p.1).toNat : Nat) : Int) = zigN p.1 by omega, hz]
    · have := h1 (decide_eq_false hi)
      simp only [hi, decide_false, Bool.false_eq_true, if_false]; omega

theorem eF_enc : ∀ (l : List (Int × List Int)) (f i n : Nat) (d : Int) (t : List UInt8) (acc : List (Int × List Int)), l.length < f → n = i + l.length → docsAt i d l → eF f i n d (encD (decide (i = 0)) d l ++ t) acc = (0, t, acc ++ l)
  | [], f, i, n, d, t, acc, hf, hn, _ => by
    obtain ⟨f, rfl⟩ : ∃ f', f = f' + 1 := ⟨f - 1, by simp at hf; omega⟩
    rw [eF_step, if_neg (by simp at hn; omega), encD, List.append_nil]
    rfl
  | p :: l, f, i, n, d, t, acc, hf, hn, hu => by
    obtain ⟨f, rfl⟩ : ∃ f', f = f' + 1 := ⟨f - 1, by simp at hf; omega⟩
    simp only [List.length_cons] at hf hn
    obtain ⟨u1, u2, u3, u4, u5, u6⟩ := docsAt_cons hu
    have he : encD (decide (i = 0)) d (p :: l) ++ t = uintL (num i d p) ++ (uintL p.2.length ++ (encP 0 p.2 ++ (encD false p.1 l ++ t))) := by
      rw [encD]; simp only [List.append_assoc]; rfl
    have hi1 : decide (i + 1 = 0) = false := decide_eq_false (by omega)
    rw [he, eF_step, if_pos (by omega), rdU_enc0 u1]
    simp only [if_true]
    rw [if_pos u2, List.drop_left, plOut_enc u5 u4]
    simp only [if_true]
    rw [u3]
    have := eF_enc l f (i + 1) n p.1 t (acc ++ [(p.1, p.2)]) (by omega) (by omega) u6
    rw [hi1] at this
    rw [this, List.append_assoc]
    rfl

theorem eF_cut : ∀ (l : List (Int × List Int)) (f i n m : Nat) (d : Int) (acc : List (Int × List Int)), m < f → n = i + l.length → docsAt i d l → m < (encD (decide (i = 0)) d l).length → (eF f i n d ((encD (decide (i = 0)) d l).take m) acc).1 = 2
  | [], f, i, n, m, d, acc, hf, hn, _, hm => by simp [encD] at hm
  | p :: l, f, i, n, m, d, acc, hf, hn, hu, hm => by
    obtain ⟨f, rfl⟩ : ∃ f', f = f' + 1 := ⟨f - 1, by omega⟩
    simp only [List.length_cons] at hn
    obtain ⟨u1, u2, u3, u4, u5, u6⟩ := docsAt_cons hu
    have he : encD (decide (i = 0)) d (p :: l) = uintL (num i d p) ++ ((uintL p.2.length ++ encP 0 p.2) ++ encD false p.1 l) := by
      rw [encD]; simp only [List.append_assoc]; rfl
    have hi1 : decide (i + 1 = 0) = false := decide_eq_false (by omega)
    have hup := uintL_pos (num i d p)
    rw [he] at hm ⊢
    rw [List.length_append] at hm
    rcases take_two (uintL (num i d p)) ((uintL p.2.length ++ encP 0 p.2) ++ encD false p.1 l) m with ⟨h1, h2⟩ | ⟨h1, h2⟩
    · rw [h2, eF_step, if_pos (by omega), rdU_cut0 u1 h1]
      rfl
    · rw [h2, eF_step, if_pos (by omega), rdU_enc0 u1]
      simp only [if_true]
      rw [if_pos u2, List.drop_left]
      rcases take_two (uintL p.2.length ++ encP 0 p.2) (encD false p.1 l) (m - (uintL (num i d p)).length) with ⟨k1, k2⟩ | ⟨k1, k2⟩
      · rw [k2]
        have := plOut_cut u5 u4 k1
        rw [if_neg (by rw [this]; omega)]
        exact this
      · rw [k2, List.append_assoc, plOut_enc u5 u4]
        simp only [if_true]
        rw [u3]
        rw [List.length_append] at hm
        have := eF_cut l f (i + 1) n (m - (uintL (num i d p)).length - (uintL p.2.length ++ encP 0 p.2).length) p.1 (acc ++ [(p.1, p.2)]) (by omega) (by omega) u6
        rw [hi1] at this
        exact this (by omega)

theorem encD_len : ∀ (l : List (Int × List Int)) (b : Bool) (d : Int), l.length ≤ (encD b d l).length
  | [], b, d => Nat.le_refl _
  | p :: l, b, d => by
    rw [encD]
    simp only [List.length_append, List.length_cons]
    have := encD_len l false p.1
    have := uintL_pos p.2.length
    omega

/-- What is encoded is read as it was; with a byte more, it is too long. -/
theorem aF_enc {l : List (Int × List Int)} (h : docsAt 0 0 l) (hl : l.length < 18446744073709551616) (t : List UInt8) : aF (encL l ++ t) = (if t = [] then 0 else 3, l) := by
  have he : encL l ++ t = uintL l.length ++ (encD true 0 l ++ t) := by unfold encL; rw [List.append_assoc]
  unfold aF
  rw [he, rdU_enc0 hl]
  simp only [if_true]
  rw [List.drop_left]
  have := eF_enc l (uintL l.length ++ (encD true 0 l ++ t)).length.succ 0 l.length 0 t [] (by have := encD_len l true 0; simp only [List.length_append]; omega) (by omega) h
  simp only [decide_true, List.nil_append] at this
  rw [this]
  simp only [if_true]
theorem aF_cut {l : List (Int × List Int)} (h : docsAt 0 0 l) (hl : l.length < 18446744073709551616) {m : Nat} (hm : m < (encL l).length) : (aF ((encL l).take m)).1 = 2 := by
  unfold encL at hm ⊢
  unfold aF
  rcases take_two (uintL l.length) (encD true 0 l) m with ⟨h1, h2⟩ | ⟨h1, h2⟩
  · rw [h2, rdU_cut0 hl h1]
    rfl
  · rw [h2, rdU_enc0 hl]
    simp only [if_true]
    rw [List.drop_left]
    rw [List.length_append] at hm
    have hup := uintL_pos l.length
    have := eF_cut l (uintL l.length ++ (encD true 0 l).take (m - (uintL l.length).length)).length.succ 0 l.length (m - (uintL l.length).length) 0 [] (by simp only [List.length_append, List.length_take]; omega) (by omega) h
    simp only [decide_true] at this
    have h3 := this (by omega)
    rw [if_neg (by rw [h3]; omega)]
    exact h3
end Go.Sh

/- Shadow, part 28: strings cut, bytes made strings, builders; whatever else comes by its value. -/
namespace Go.Sh
open Go

theorem toList_loop (s : ByteArray) : ∀ (k i : Nat) (r : List UInt8), s.size - i = k → ByteArray.toList.loop s i r = r.reverse ++ (bl s).drop i
  | 0, i, r, h => by
    rw [ByteArray.toList.loop, if_neg (by omega), List.drop_of_length_le (by rw [← bl_len]; omega), List.append_nil]
  | k + 1, i, r, h => by
    have hi : i < s.size := by omega
    have hg : s.get! i = (bl s)[i]'(by rw [← bl_len]; exact hi) := by
      show s.data[i]! = _
      rw [getElem!_pos s.data i hi]
      rfl
    rw [ByteArray.toList.loop, if_pos hi, toList_loop s k (i + 1) _ (by omega), hg, List.reverse_cons, List.append_assoc, List.drop_eq_getElem_cons (i := i) (l := bl s) (by rw [← bl_len]; exact hi)]
    rfl
theorem toList_bl (s : ByteArray) : s.toList = bl s := by
  unfold ByteArray.toList
  rw [toList_loop s s.size 0 [] (by omega)]
  simp

section
variable {K : Ctx} {e : Env} {A : AHeap} {Q : Value → AHeap → Prop}

theorem OpW_by {o : Op} {v : Value} {A' : AHeap} (h : isCallV o = false) (hok : o.operands.toList.all okOpd = true) (hv : evB K.P o (opv e) A = some (v, A')) (hq : Q v A') : OpW K o e A Q :=
  (OpW_b h).2 ⟨hok, v, A', hv, hq⟩

theorem evB_read {P : Program} {o : Op} {ρ : Operand → Value} {v : Value} (h1 : aPure P o ρ = none) (h2 : aRead P A o ρ = some v) : evB P o ρ A = some (v, A) := by simp [evB, h1, h2]
theorem evB_pure {P : Program} {o : Op} {ρ : Operand → Value} {v : Value} (h1 : aPure P o ρ = some v) : evB P o ρ A = some (v, A) := by simp [evB, h1]
theorem evB_eff {P : Program} {o : Op} {ρ : Operand → Value} {p : Value × AHeap} (h1 : aPure P o ρ = none) (h2 : aRead P A o ρ = none) (h3 : aEff P A o ρ = some p) : evB P o ρ A = some p := by simp [evB, h1, h2, h3]

theorem OpW_sliceStr {t : TypeId} (ht : K.P.underlying t = some .string) {x : Operand} {lo hi : Option Operand} {s : ByteArray} {l h : Nat} (hok : (Op.slice t x lo hi none).operands.toList.all okOpd = true) (hx : opv e x = .string s)
    (hb : aBounds s.size s.size (lo.map (opv e)) (hi.map (opv e)) = some (l, h)) (hq : Q (.string (s.extract l h)) A) : OpW K (.slice t x lo hi none) e A Q :=
  OpW_by rfl hok (evB_pure (by simp only [aPure, ht, hx, hb])) hq

/-- Cells that are bytes. -/
def u8s (l : List UInt8) : List Value := l.map fun b => .int .u8 b.toNat
theorem aBytes_u8s (l : List UInt8) : aBytes (u8s l) = some l := by
  induction l with
  | nil => rfl
  | cons b l ih =>
    unfold u8s at ih ⊢
    rw [List.map_cons, aBytes, ih]
    simp
theorem u8s_len (l : List UInt8) : (u8s l).length = l.length := by simp [u8s]
theorem u8s_append (l m : List UInt8) : u8s (l ++ m) = u8s l ++ u8s m := by simp [u8s]
theorem u8s_one (l : List UInt8) : (u8s l).all one = true := by
  induction l with
  | nil => rfl
  | cons b l ih => unfold u8s at ih ⊢; rw [List.map_cons, List.all_cons, ih]; rfl
theorem strCells_u8s (s : ByteArray) : strCells s = u8s (bl s) := rfl

/-- A part of an array behind a pointer, made a string. -/
theorem OpW_sliceArr {t el n i : Nat} (ht : K.P.underlying t = some (.array n el)) (hs : tsize K.P el = some 1) {x : Operand} {b : Nat} {h m : Operand} {k k' : IntKind} (hok : (Op.slice t x none (some h) (some m)).operands.toList.all okOpd = true)
    (hx : opv e x = .pointer (some ⟨b, 0, none⟩)) (hh : opv e h = .int k i) (hm : opv e m = .int k' i) (hi : 0 < i ∧ i ≤ n) (hq : Q (.slice (some ⟨b, 0, none⟩) i i) A) : OpW K (.slice t x none (some h) (some m)) e A Q := by
  refine OpW_by rfl hok (evB_read ?_ ?_) hq
  · simp only [aPure]
  · have h1 : (0 : Int) ≤ (i : Int) ∧ (i : Int) ≤ (n : Int) := by omega
    simp only [aRead, aSlice, ht, hx, hs, Option.map_some, Option.map_none, hh, hm, h1, and_self, if_true, aBounds, Int.toNat_natCast]
    have h2 : (i : Int) ≤ ((i : Nat) : Int) := Int.le_refl _
    simp [Int.natCast_nonneg]

theorem OpW_bytesStr {s d el : TypeId} (hs : K.P.underlying s = some (.slice el)) (hd : K.P.underlying d = some .string) (he : K.P.underlying el = some (.int .u8)) {x : Operand} {b n c : Nat} {l : List UInt8} (hok : okOpd x = true)
    (hx : opv e x = .slice (some ⟨b, 0, none⟩) n c) (hc : acells A b 0 n = some (u8s l)) (hq : Q (.string ⟨l.toArray⟩) A) : OpW K (.convert s d x) e A Q := by
  refine OpW_by rfl (by simpa [Op.operands] using hok) (evB_read ?_ ?_) hq
  · simp only [aPure, aConvert, hs, hd, hx]
  · simp only [aRead, hs, hd, he, hx, aBytesToString, hc, aBytes_u8s, Option.map_some]
    rfl
end
end Go.Sh

/- Shadow, part 29: rows that no string was made of; pointers turned to unsafe ones and back; a string out of a row. -/
namespace Go.Sh
open Go
set_option linter.unusedSimpArgs false

/-- A row that its owner may grow, and of which no string was made. -/
def App0 (A : AHeap) (b : Nat) (el : TypeId) (cells : List Value) : Prop := b < A.next ∧ ∃ ch, A.get b = some (.row ⟨cells, el, false, 3, ch, false⟩)
def Acc0 (A : AHeap) (el : TypeId) (v : Value) (n : Nat) (cells : List Value) : Prop :=
  cells.length = n ∧ ((v = .slice none 0 0 ∧ n = 0) ∨ ∃ b, v = .slice (some ⟨b, 0, none⟩) n n ∧ App0 A b el cells)
theorem Fr.app0 {W : Nat → Prop} {A A' : AHeap} (h : Fr W A A') {b : Nat} {el : TypeId} {cells : List Value} (hb : App0 A b el cells) (hn : ¬ W b) : App0 A' b el cells :=
  ⟨Nat.lt_of_lt_of_le hb.1 h.next, by rw [h.same b hb.1 hn]; exact hb.2⟩
theorem Acc0.fr {W : Nat → Prop} {A A' : AHeap} (h : Fr W A A') {el n : Nat} {v : Value} {cells : List Value} (ha : Acc0 A el v n cells) (hw : ∀ b, blockOf v b → ¬ W b) : Acc0 A' el v n cells :=
  ⟨ha.1, ha.2.imp id fun ⟨b, h1, h2⟩ => ⟨b, h1, h.app0 h2 (hw b (by rw [h1]; rfl))⟩⟩
theorem Acc0.form {A : AHeap} {el n : Nat} {v : Value} {cells : List Value} (h : Acc0 A el v n cells) : ∃ o, v = .slice o n n := by
  rcases h.2 with ⟨h1, h2⟩ | ⟨b, h1, _⟩
  · exact ⟨none, by rw [h1, h2]⟩
  · exact ⟨_, h1⟩

section
variable {K : Ctx} {e : Env} {A : AHeap} {Q : Value → AHeap → Prop}

theorem OpW_append_of0 {t tx el by' n k : Nat} {s x : Operand} {cells new : List Value} {z : Value} (hok : okOpd s = true ∧ okOpd x = true) (ht : K.P.underlying t = some (.slice el))
    (hx : srcKind (K.P.underlying tx) = true) (hsz : tsize K.P el = some 1) (hby : tbytes K.P el = some by') (hz : tzero K.P el = some z) (hsrc : aSrc A 1 (opv e x) = some (k, new)) (hnew : new.length = k * 1 ∧ new.all one = true)
    (hk : 0 < k) (hc : z.cells.size = 1 ∧ 0 < by' ∧ (n + k) * by' ≤ 140737488355328) (ha : Acc0 A el (opv e s) n cells)
    (h : ∀ b A', b = A.next → A'.next = b + 1 → Fr (blockOf (opv e s)) A A' → Acc0 A' el (.slice (some ⟨b, 0, none⟩) (n + k) (n + k)) (n + k) (cells ++ new) → Q (.slice (some ⟨b, 0, none⟩) (n + k) (n + k)) A') :
    OpW K (.call { callee := .builtin .append, args := #[s, x], argTypes := #[t, tx] }) e A Q := by
  rw [OpW_append]
  refine ⟨hok, ?_⟩
  obtain ⟨hlen, hs⟩ := ha
  have hlen' : (cells ++ new).length = n + k := by rw [List.length_append, hlen, hnew.1]; omega
  have hc' : 0 < 1 ∧ z.cells.size = 1 ∧ 0 < by' ∧ (n + k) * by' ≤ 140737488355328 := ⟨by omega, hc⟩
  rcases hs with ⟨hs, rfl⟩ | ⟨b, hs, hb⟩
  · have hcs : cells = [] := List.eq_nil_of_length_eq_zero hlen
    subst hcs
    refine ⟨(.slice (some ⟨A.next, 0, none⟩) (0 + k) (0 + k), A.alloc (.row ⟨new, el, false, 3, [], false⟩)), ?_, ?_⟩
    · rw [hs]
      simp only [aAppend, hx, if_true, ht, hsz, hby, hz, hsrc]
      rw [if_pos hnew, if_neg (by omega), if_pos hc']
      rfl
    · refine h _ _ rfl rfl (Ext.alloc _ _).fr ⟨hlen', .inr ⟨_, rfl, by simp, [], by rw [AHeap.get_alloc, if_pos rfl]; rfl⟩⟩
  · obtain ⟨hlt, ch, hg⟩ := hb
    have hrow : arow A b = some ⟨cells, el, false, 3, ch, false⟩ := by simp [Sh.arow, hg]
    refine ⟨(.slice (some ⟨A.next, 0, none⟩) (n + k) (n + k), (A.set b (.row ⟨cells, el, false, 1, ch, false⟩)).alloc (.row ⟨cells ++ new, el, false, 3, b :: ch, false⟩)), ?_, ?_⟩
    · rw [hs]
      simp only [aAppend, hx, if_true, ht, hsz, hby, hz, hsrc]
      rw [if_pos hnew, if_neg (by omega), if_pos hc']
      simp [aAppOut, hrow, hlen]
    · refine h _ _ rfl rfl ?_ ⟨hlen', .inr ⟨_, rfl, by simp, b :: ch, by rw [AHeap.get_alloc, AHeap.next_set, if_pos rfl]⟩⟩
      refine Fr.of (by simp) fun j hj => ?_
      rw [AHeap.get_alloc, AHeap.next_set, if_neg (by omega), AHeap.get_set]
      by_cases hjb : j = b
      · subst hjb
        refine .inr ⟨by rw [hs]; rfl, fun r hr _ _ => ?_⟩
        rw [hg] at hr
        cases hr
        exact ⟨_, if_pos rfl, rfl, by simp, rfl, rfl⟩
      · exact .inl (if_neg hjb)

theorem OpW_toUnsafe {s d t : TypeId} {n : Nat} (hs : K.P.underlying s = some (.pointer t)) (hd : K.P.underlying d = some .unsafePointer) (ht : tsize K.P t = some (n + 1)) {x : Operand} {b : Nat} {el : TypeId} {cells : List Value} (hok : okOpd x = true)
    (hx : opv e x = .pointer (some ⟨b, 0, none⟩)) (hb : Box A b el cells) (hc : 0 < cells.length) (hq : Q (.pointer (some ⟨b, 0, none⟩)) A) : OpW K (.convert s d x) e A Q := by
  refine OpW_by rfl (by simpa [Op.operands] using hok) (evB_read ?_ ?_) hq
  · simp only [aPure, aConvert, hs, hd, hx]
  · simp only [aRead, hs, hd, hx, aUnsafe, hb.arow, ht, hc, if_true]
theorem OpW_fromUnsafe {s d u : TypeId} {n : Nat} (hs : K.P.underlying s = some .unsafePointer) (hd : K.P.underlying d = some (.pointer u)) (hu : tsize K.P u = some (n + 1)) {x : Operand} {b : Nat} {cells : List Value} (hok : okOpd x = true)
    (hx : opv e x = .pointer (some ⟨b, 0, none⟩)) (hb : Box A b u cells) (hc : cells.length = n + 1) (hq : Q (.pointer (some ⟨b, 0, none⟩)) A) : OpW K (.convert s d x) e A Q := by
  refine OpW_by rfl (by simpa [Op.operands] using hok) (evB_read ?_ ?_) hq
  · simp only [aPure, aConvert, hs, hd, hx]
  · simp only [aRead, hs, hd, hx, aUnsafe, hb.arow, hu, hc, and_self, if_true]

theorem aBin_ptr_self {P : Program} {t el : TypeId} {n : Nat} {c : Bool} (ht : P.underlying t = some (.pointer el)) (hs : tsize P el = some (n + 1)) (b : Nat) : aBin P .neq t c (.pointer (some ⟨b, 0, none⟩)) (.pointer (some ⟨b, 0, none⟩)) = some (.bool false) := by
  simp [aBin, isNilIface, aEq, aEq0, ht, hs]

theorem OpW_sliceData {tys : Array TypeId} {x : Operand} {a : Addr} {n c : Nat} (hok : okOpd x = true) (hx : opv e x = .slice (some a) n (c + 1)) (hq : Q (.pointer (some a)) A) :
    OpW K (.call { callee := .builtin .unsafeSliceData, args := #[x], argTypes := tys }) e A Q := by
  refine OpW_by rfl (by simpa [Op.operands, Call.operands] using hok) (evB_pure ?_) hq
  simp [aPure, aPureCall, hx]

theorem OpW_strOf {pt it el : TypeId} (hp : K.P.underlying pt = some (.pointer el)) (hs : tsize K.P el = some 1) {x y : Operand} {b n : Nat} {l : List UInt8} (hok : okOpd x = true ∧ okOpd y = true) (hx : opv e x = .pointer (some ⟨b, 0, none⟩))
    (hy : opv e y = .int .i64 n) (hn : n = l.length ∧ 0 < n ∧ n < 9223372036854775808) (hb : App0 A b el (u8s l)) (hq : ∀ A', A'.next = A.next → Fr (fun j => j = b) A A' → Q (.string ⟨l.toArray⟩) A') :
    OpW K (.call { callee := .builtin .unsafeString, args := #[x, y], argTypes := #[pt, it] }) e A Q := by
  obtain ⟨hlt, ch, hg⟩ := hb
  have hrow : arow A b = some ⟨u8s l, el, false, 3, ch, false⟩ := by simp [Sh.arow, hg]
  obtain ⟨h1, h2, h3⟩ := hn
  have hcells : acells A b 0 n = some (u8s l) := by
    rw [acells_of hrow (by simp [u8s]; omega)]
    rw [List.drop_zero, List.take_of_length_le (by simp [u8s]; omega)]
  refine OpW_by (v := .string ⟨l.toArray⟩) (A' := A.set b (.row ⟨u8s l, el, false, 2, ch, false⟩)) rfl (by simp [Op.operands, Call.operands, hok]) (evB_eff ?_ ?_ ?_) (hq _ rfl ?_)
  · simp [aPure, aPureCall]
  · simp [aRead]
  · simp only [aEff]
    have hk0 : ¬ ((n : Int) = 0) := by omega
    have hcond : 0 < (n : Int) ∧ (n : Int) ≤ 9223372036854775807 := by omega
    simp only [Array.toList_map, List.map_cons, List.map_nil, aUnsafeString, hx, hy, if_neg hk0, hp, hrow, hcond, hs, Int.toNat_natCast, hcells, aBytes_u8s, Option.map_some]
    simp
  · refine Fr.of (by simp) fun j hj => ?_
    rw [AHeap.get_set]
    by_cases hjb : j = b
    · subst hjb
      refine .inr ⟨rfl, fun r hr _ _ => ?_⟩
      rw [hg] at hr
      cases hr
      exact ⟨_, if_pos rfl, rfl, by simp, rfl, rfl⟩
    · exact .inl (if_neg hjb)
end
end Go.Sh

/- Shadow, part 35: lists of posts in order are what the reader takes; how long an encoding is. -/
namespace Go.Sh

theorem uintL_le : ∀ (k n : Nat), n < 2 ^ (7 * k) → 0 < k → (uintL n).length ≤ k
  | 0, _, _, h => absurd h (by omega)
  | k + 1, n, h, _ => by
    rw [uintL]
    by_cases hn : n < 128
    · rw [dif_pos hn]; simp
    · rw [dif_neg hn]
      have hk : 0 < k := by
        rcases Nat.eq_zero_or_pos k with h0 | h0
        · subst h0; simp at h; omega
        · exact h0
      have he : 2 ^ (7 * (k + 1)) = 2 ^ (7 * k) * 128 := by rw [show 7 * (k + 1) = 7 * k + 7 by omega, Nat.pow_add]
      have := uintL_le k (n / 128) (by rw [he] at h; exact Nat.div_lt_of_lt_mul (by rw [Nat.mul_comm]; exact h)) hk
      simp only [List.length_cons]; omega
theorem uintL_10 {n : Nat} (h : n < 18446744073709551616) : (uintL n).length ≤ 10 := uintL_le 10 n (Nat.lt_of_lt_of_le h (by decide)) (by omega)

theorem upFrom_of : ∀ (l : List Int) (a : Int), (∀ x ∈ l, a < x ∧ x ≤ 9223372036854775807) → l.Pairwise (fun p q => p < q) → upFrom a l
  | [], _, _, _ => trivial
  | x :: l, a, h, hp => by
    obtain ⟨h1, h2⟩ := List.pairwise_cons.1 hp
    exact ⟨(h x List.mem_cons_self).1, (h x List.mem_cons_self).2, upFrom_of l x (fun y hy => ⟨h1 y hy, (h y (List.mem_cons_of_mem _ hy)).2⟩) h2⟩
theorem placesUp_of {l : List Int} (h : ∀ x ∈ l, 0 ≤ x ∧ x ≤ 9223372036854775807) (hp : l.Pairwise fun p q => p < q) : placesUp l := by
  cases l with
  | nil => trivial
  | cons x l =>
    obtain ⟨h1, h2⟩ := List.pairwise_cons.1 hp
    exact ⟨(h x List.mem_cons_self).1, (h x List.mem_cons_self).2, upFrom_of l x (fun y hy => ⟨h1 y hy, (h y (List.mem_cons_of_mem _ hy)).2⟩) h2⟩
theorem docsUp_of : ∀ (l : List (Int × List Int)) (b : Bool) (d : Int), (∀ p ∈ l, (b = false → d < p.1) ∧ -9223372036854775808 ≤ p.1 ∧ p.1 ≤ 9223372036854775807 ∧ placesUp p.2) → l.Pairwise (fun p q => p.1 < q.1) → docsUp b d l
  | [], _, _, _, _ => trivial
  | p :: l, b, d, h, hp => by
    obtain ⟨h1, h2⟩ := List.pairwise_cons.1 hp
    obtain ⟨k1, k2, k3, k4⟩ := h p List.mem_cons_self
    exact ⟨k1, k2, k3, k4, docsUp_of l false p.1 (fun q hq => ⟨fun _ => h1 q hq, (h q (List.mem_cons_of_mem _ hq)).2⟩) h2⟩

theorem encP_10 : ∀ (l : List Int) (a : Int), 0 ≤ a → upFrom a l → (encP a l).length ≤ 10 * l.length
  | [], _, _, _ => Nat.le_refl _
  | x :: l, a, ha, ⟨h1, h2, h3⟩ => by
    have := encP_10 l x (by omega) h3
    have := uintL_10 (n := (x - a).toNat) (by omega)
    rw [encP, List.length_append, List.length_cons]; omega
theorem encP_10' {l : List Int} (h : placesUp l) : (encP 0 l).length ≤ 10 * l.length := by
  cases l with
  | nil => exact Nat.le_refl _
  | cons x l =>
    obtain ⟨h1, h2, h3⟩ := h
    have := encP_10 l x h1 h3
    have := uintL_10 (n := (x - 0).toNat) (by omega)
    rw [encP, List.length_append, List.length_cons]; omega
theorem encD_10 (N : Nat) (hN : N < 18446744073709551616) : ∀ (l : List (Int × List Int)) (b : Bool) (d : Int), -9223372036854775808 ≤ d → docsUp b d l → (∀ p ∈ l, p.2.length ≤ N) → (encD b d l).length ≤ (20 + 10 * N) * l.length
  | [], _, _, _, _, _ => Nat.zero_le _
  | p :: l, b, d, hd, ⟨h1, h2, h3, h4, h5⟩, hN2 => by
    have ih := encD_10 N hN l false p.1 h2 h5 fun q hq => hN2 q (List.mem_cons_of_mem _ hq)
    have hz : 0 ≤ zigN p.1 ∧ zigN p.1 < 18446744073709551616 := by unfold zigN; split <;> omega
    have k1 := uintL_10 (n := if b then (zigN p.1).toNat else (p.1 - d).toNat) (by
      cases b with
      | true => simp only [if_true]; omega
      | false => have := h1 rfl; simp only [Bool.false_eq_true, if_false]; omega)
    have hp := hN2 p List.mem_cons_self
    have k2 := uintL_10 (n := p.2.length) (by omega)
    have k3 := encP_10' h4
    rw [encD]
    simp only [List.length_append, List.length_cons, Nat.mul_add, Nat.mul_one]
    omega
/-- At most 300 posts with at most 300 places. -/
theorem encL_300 {l : List (Int × List Int)} (h : docsUp true 0 l) (hl : l.length ≤ 300) (hp : ∀ p ∈ l, p.2.length ≤ 300) : (encL l).length ≤ 1000000 := by
  have k1 := uintL_10 (n := l.length) (by omega)
  have k2 := encD_10 300 (by omega) l true 0 (by omega) h hp
  have : (20 + 10 * 300) * l.length ≤ 3020 * 300 := Nat.mul_le_mul_left _ hl
  unfold encL
  rw [List.length_append]
  omega
end Go.Sh

/- Shadow, part 23: contracts from nothing: what gives its argument back; closed calls. -/
namespace Go.Sh
open Go

theorem says_back {P : Program} {g : FuncId} {fn : Func} (hf : P.funcs[g]? = some fn) (hname : (fn.name == "runtime.NumGoroutine") = false) (hb : fn.body.isNone = true) (hn : Extern.findNext fn = none)
    (he : Extern.find fn = some Extern.AbiNoEscape.same) {m : Map} {A : AHeap} {W : World} {args args' : Array Value} (hS : Sim P m A W) (ha : ARel m args args') (hs : args.size = 1) :
    PrimSays P m A W A (args.getD 0 undef) g args' := by
  have h1 := ha.size
  have h2 : args[0]? = some (args.getD 0 undef) := by simp [Array.getD, hs]
  have h3 : args'[0]? = some (args'.getD 0 undef) := by simp [Array.getD, ← h1, hs]
  refine .inl ⟨args'.getD 0 undef, m, W, ?_, ha.at 0 _ _ h2 h3, hS, Step.refl m A W⟩
  obtain ⟨x, hx⟩ : ∃ x, args' = #[x] := by
    obtain ⟨l⟩ := args'
    match l, h1 with
    | [], h => simp [hs] at h
    | [x], _ => exact ⟨x, rfl⟩
    | _ :: _ :: _, h => simp [hs] at h
  subst hx
  rw [run_callFunc_extern hf hname hb hn he]
  rfl

def A00 : AHeap := ⟨.nil, 0⟩
theorem get_A00 (b : Nat) : A00.get b = none := rfl
theorem sim_A00 (P : Program) {W : World} (hf : FixW W) : Sim P (fun _ => none) A00 W :=
  ⟨⟨(by intro b en h; cases h), (by intro b en h; cases h), (by intro b en r h; cases h), (by intro b en l h; cases h), (by intro b en o b' en' o' h; cases h)⟩, fun x hx => ⟨hf x hx, (by intro b en o h; cases h)⟩⟩

theorem says_closed {K0 : Ctx} (hK0 : CtxOK K0) {n : Nat} {g : FuncId} {A1 : AHeap} {b : Bool} (h : (rec K0 n).call g #[] A00 = some (.bool b, A1)) {m : Map} {A : AHeap} {W : World} (hS : Sim K0.P m A W) :
    PrimSays K0.P m A W A (.bool b) g #[] := by
  obtain ⟨h1, h2⟩ := (recOK_all hK0 n).call g #[] A00 _ A1 h (fun _ => none) #[] W (sim_A00 _ hS.fix.w) ⟨rfl, fun i v v' hv => by simp at hv⟩
  refine .inr ⟨h1, h2.mono ?_⟩
  rintro en w' ⟨v', m', rfl, hv, _, hst⟩
  cases hv
  have hg : ∀ c, c < W.heap.size → w'.heap[c]? = W.heap[c]? := fun c hc => hst.frame c hc fun b en o h => (by cases h)
  refine ⟨.bool b, m, rfl, .bool b, ?_, ?_⟩
  · refine ⟨⟨hS.dom, fun b en hb => Nat.lt_of_lt_of_le (hS.lt b en hb) hst.size, fun b en r hb hr h0 => ?_, fun b en l hb hl => ?_, hS.own⟩, fun x hx => ⟨by rw [cell_of_heap (hg _ (cell_lt (hS.fix x hx).1))]; exact (hS.fix x hx).1, (hS.fix x hx).2⟩⟩
    · obtain ⟨cs, fr, ⟨te, k1, hte⟩, k2⟩ := hS.row b en r hb hr h0
      exact ⟨cs, fr, ⟨te, by rw [hg _ (hS.lt b en hb)]; exact k1, hte⟩, k2⟩
    · obtain ⟨lo, k1, k2⟩ := hS.loop b en l hb hl
      exact ⟨lo, by rw [hg _ (hS.lt b en hb)]; exact k1, k2⟩
  · exact ⟨Map.le.refl m, Nat.le_refl _, hst.size, hst.tape, hst.os, hst.output, fun c hc _ => hg c hc, fun b en hb _ => ⟨b, en, hb, rfl⟩, fun b en o hb ho hw _ => ⟨b, en, o, hb, ho, hw, rfl⟩, hst.loops⟩
end Go.Sh

/- Shadow, part 24: what comes in: slices that are read alone; from an abstract call to the machine's. -/
namespace Go.Sh
open Go

/-- A memory that nobody may write. -/
structure Base (P : Program) (m : Map) (A : AHeap) (W : World) : Prop where
  sim : Sim P m A W
  ro : ∀ b o, A.get b = some o → o.writable = false

theorem Base.empty (P : Program) {W : World} (hf : FixW W) : Base P (fun _ => none) A00 W := ⟨sim_A00 P hf, by intro b o h; cases h⟩

/-- A row of the machine's memory, to be read. -/
theorem Base.add {P : Program} {m : Map} {A : AHeap} {W : World} (h : Base P m A W) {c d s : Nat} {cs : Array Value} {t : TypeId} {fr : Nat × Nat} {xs : List Value} {el : TypeId} (hW : W.heap[c]? = some (.cells cs t fr))
    (hs : (P.info? el).map (·.size) = some s) (hfit : d + xs.length ≤ cs.size) (hr : ∀ (i : Nat) (v : Value), xs[i]? = some v → ∃ v', cs[d + i]? = some v' ∧ VRel m v v') :
    ∃ A' en, A' = A.alloc (.row ⟨xs, el, false, 1, [], false⟩) ∧ en = (⟨c, d, xs.length, cs.size, s, false⟩ : Ent) ∧ Base P (m.ext A.next en) A' W ∧ m.le (m.ext A.next en) ∧ Ext A A' ∧ Dat A' A.next el xs := by
  have hnone : m A.next = none := by
    cases hm : m A.next with
    | none => rfl
    | some en => have := h.sim.dom _ _ hm; omega
  have hle := Map.le_ext m A.next (⟨c, d, xs.length, cs.size, s, false⟩ : Ent) hnone
  have hext : ∀ b en, (m.ext A.next (⟨c, d, xs.length, cs.size, s, false⟩ : Ent)) b = some en → (b = A.next ∧ en = ⟨c, d, xs.length, cs.size, s, false⟩) ∨ (b ≠ A.next ∧ m b = some en) := by
    intro b en hb
    unfold Map.ext at hb
    by_cases hc : b = A.next
    · rw [if_pos hc] at hb; cases hb; exact .inl ⟨hc, rfl⟩
    · rw [if_neg hc] at hb; exact .inr ⟨hc, hb⟩
  refine ⟨_, _, rfl, rfl, ⟨⟨⟨?_, ?_, ?_, ?_, ?_⟩, ?_⟩, ?_⟩, hle, Ext.alloc _ _, by simp, ⟨xs, el, false, 1, [], false⟩, by rw [AHeap.get_alloc, if_pos rfl], rfl, by simp, rfl, rfl⟩
  · intro b en hb
    rcases hext b en hb with ⟨rfl, rfl⟩ | ⟨_, hm⟩
    · simp
    · have := h.sim.dom b en hm; simp; omega
  · intro b en hb
    rcases hext b en hb with ⟨rfl, rfl⟩ | ⟨_, hm⟩
    · exact lt_of_get hW
    · exact h.sim.lt b en hm
  · intro b en r hb hg hst
    rw [AHeap.get_alloc] at hg
    rcases hext b en hb with ⟨rfl, rfl⟩ | ⟨hne, hm⟩
    · rw [if_pos rfl] at hg
      simp only [Option.some.injEq, AObj.row.injEq] at hg
      subst hg
      refine ⟨cs, fr, ⟨t, hW, fun e => by simp at e⟩, ⟨rfl, rfl, hfit, hs, rfl, ?_, fun e => by simp at e, fun e => by simp at e, fun e => by simp at e, fun e => by simp at e⟩⟩
      intro i v hv
      obtain ⟨v', h1, h2⟩ := hr i v hv
      exact ⟨v', h1, h2.mono hle⟩
    · rw [if_neg hne] at hg
      obtain ⟨cs', fr', k1, k2⟩ := h.sim.row b en r hm hg hst
      exact ⟨cs', fr', k1, k2.mono hle⟩
  · intro b en l hb hg
    rw [AHeap.get_alloc] at hg
    rcases hext b en hb with ⟨rfl, rfl⟩ | ⟨hne, hm⟩
    · rw [if_pos rfl] at hg; simp at hg
    · rw [if_neg hne] at hg
      have := h.ro _ _ hg
      simp [AObj.writable] at this
  · intro b en o b' en' o' hb hg hw
    rw [AHeap.get_alloc] at hg
    by_cases hc : b = A.next
    · rw [if_pos hc] at hg; simp only [Option.some.injEq] at hg; subst hg; simp [AObj.writable] at hw
    · rw [if_neg hc] at hg
      rw [h.ro _ _ hg] at hw
      cases hw
  · intro x hx
    refine ⟨(h.sim.fix x hx).1, fun b en o hb hg hw => ?_⟩
    rw [AHeap.get_alloc] at hg
    by_cases hc : b = A.next
    · rw [if_pos hc] at hg; simp only [Option.some.injEq] at hg; subst hg; simp [AObj.writable] at hw
    · rw [if_neg hc] at hg
      rw [h.ro _ _ hg] at hw
      cases hw
  · intro b o hg
    rw [AHeap.get_alloc] at hg
    by_cases hc : b = A.next
    · rw [if_pos hc] at hg; simp only [Option.some.injEq] at hg; subst hg; simp [AObj.writable]
    · rw [if_neg hc] at hg; exact h.ro _ _ hg

/-- A cell of the machine's memory: its block. -/
theorem block_of_cell {W : World} {a : Addr} {v : Value} (h : W.cell? a = some v) : ∃ cs t fr, W.heap[a.block]? = some (.cells cs t fr) ∧ a.spot = none ∧ cs[a.off]? = some v := by
  unfold World.cell? at h
  split at h
  · rename_i cs t fr hW
    split at h
    · cases h
    · rename_i hs
      exact ⟨cs, t, fr, hW, by simpa using hs, h⟩
  · cases h

theorem cell_of_add {W : World} {a : Addr} {cs : Array Value} {t : TypeId} {fr : Nat × Nat} (hW : W.heap[a.block]? = some (.cells cs t fr)) {i : Nat} {v : Value} (h : W.cell? (a.add i) = some v) : cs[a.off + i]? = some v := by
  have hb : (a.add i).block = a.block := by unfold Addr.add; split <;> rfl
  have ho : (a.add i).off = a.off + i := by
    unfold Addr.add
    split
    · rename_i h0; rw [h0]; rfl
    · rfl
  obtain ⟨cs', t', fr', h1, _, h3⟩ := block_of_cell h
  rw [hb, hW] at h1
  simp only [Option.some.injEq, Obj.cells.injEq] at h1
  rw [h1.1, ← ho]
  exact h3

/-- A slice that comes in, as one that is read: n of its elements' cells by what they stand for. -/
theorem Base.slice {P : Program} {m : Map} {A : AHeap} {W : World} (h : Base P m A W) {el : TypeId} {s : Nat} (hs : (P.info? el).map (·.size) = some s) (hs0 : 0 < s) {a : Addr} {len cap : Nat} (hlc : len ≤ cap) {ys : Nat → Value}
    (hc : ∀ i, i < cap * s → W.cell? (a.add i) = some (ys i)) {xs : List Value} (hx : xs.length = len * s) (hr : ∀ (i : Nat) (v : Value), xs[i]? = some v → VRel m v (ys i)) :
    ∃ m' A' v, Base P m' A' W ∧ m.le m' ∧ Ext A A' ∧ VRel m' v (.slice (some a) len cap) ∧ Elems A' el s v len xs := by
  rcases Nat.eq_zero_or_pos cap with h0 | h0
  · have hl0 : len = 0 := by omega
    subst h0; subst hl0
    refine ⟨m, A, .slice (some ⟨0, 0, some 0⟩) 0 0, h, Map.le.refl m, Fr.refl _ _, .dead 0 0 0 a, ?_, .inl ⟨.inr ⟨0, 0, 0, rfl⟩, rfl⟩⟩
    simpa using hx
  · have hcs0 : 0 < cap * s := Nat.mul_pos h0 hs0
    obtain ⟨cs, t, fr, hW, hspot, _⟩ := block_of_cell (hc 0 hcs0)
    have e0 : a.add 0 = a := rfl
    rw [e0] at hW hspot
    have hall : ∀ i, i < cap * s → cs[a.off + i]? = some (ys i) := fun i hi => cell_of_add hW (hc i hi)
    have hend : a.off + cap * s ≤ cs.size := by
      have := hall (cap * s - 1) (by omega)
      have := (Array.getElem?_eq_some_iff.1 this).1
      omega
    have hle : len * s ≤ cap * s := Nat.mul_le_mul_right s hlc
    obtain ⟨A', en, hA', hen, hB, hm, hE, hD⟩ := h.add (el := el) (d := a.off) (xs := xs) hW hs (by omega) fun i v hv => by
      have hi : i < xs.length := by
        rcases Nat.lt_or_ge i xs.length with hl | hl
        · exact hl
        · rw [List.getElem?_eq_none hl] at hv; cases hv
      exact ⟨ys i, hall i (by omega), hr i v hv⟩
    refine ⟨_, A', .slice (some ⟨A.next, 0, none⟩) len len, hB, hm, hE, ?_, hx, .inr ⟨A.next, rfl, hD⟩⟩
    have ha : a = ⟨en.c, en.d + 0, none⟩ := by
      subst hen
      obtain ⟨b, o, sp⟩ := a
      simp only at hspot
      rw [hspot]
      rfl
    have hself : (m.ext A.next en) A.next = some en := by unfold Map.ext; rw [if_pos rfl]
    rw [ha]
    refine .slice hself (.inr ?_)
    subst hen
    exact ⟨rfl, by simp [hx], hs0, hlc, by simpa using hend⟩

/-- From an abstract call to the machine's. -/
theorem calls_of {K : Ctx} (hK : CtxOK K) {m : Map} {A : AHeap} {W : World} (hB : Base K.P m A W) {g : FuncId} {args args' : Array Value} (ha : ARel m args args')
    (h : Cal K g args A fun v _ => v = .bool true) : Calls K.P g args' W fun e W' => e = .returned (.bool true) ∧ RowKit.Below W.heap.size W W' := by
  obtain ⟨n, v, A', hc, rfl⟩ := h
  have h2 := ((recOK_all hK n).call g args A _ A' hc m args' W hB.sim ha).2
  have h3 : CallsIn Fence.wide 0 K.P g args' W (CallPost K.P m A W A' (.bool true)) := h2
  have h4 := callsIn_wide.1 h3
  refine h4.mono ?_
  rintro e W' ⟨v', m', rfl, hv, hS, hst⟩
  cases hv
  exact ⟨rfl, hst.os, hst.tape, hst.output, hst.size, fun k hk => hst.frame k hk fun b en o _ _ hg => hB.ro b o hg⟩
end Go.Sh

