/- Shadow, part 17: the machine, whole. -/
import Derived.Test.YteoefjahcbfpeaaShP
import Derived.Conc.MuLone
namespace Go.Sh
open Go

section
variable {K : Ctx} {r : Rec}

theorem exit'_normal (x : AExit) : x.exit' = .normal ↔ x = .normal := by cases x <;> simp [AExit.exit']

theorem run_enterLoop_inner {P : Program} {w : World} {l : Nat} {lo : Loop} (h : w.heap[l]? = some (.loop lo)) (fn : FuncId) (tmps : Array Value) (ps : Array Tmp) (assign body : Code) :
    (Instr.enterLoop fn tmps ps assign body (some l)).run P w =
      .ok (w.heap.size, []) (w.alloc (.loop { state := .ready, pending := none, fn, tmps, params := ps, assign, body, defers := lo.defers })) := by
  unfold Instr.enterLoop
  simp only [Sem.run_bind, run_newObj_alloc, run_getLoop h, Result.andThen, Sem.run_pure]

theorem sim_getLoop {m : Map} {A : AHeap} {W : World} (hS : Sim K.P m A W) {l : Nat} {lo : ALoop} (h : getLoopA A l = some lo) {en : Ent} (hm : m l = some en) : LoopRel m lo en W := by
  unfold getLoopA at h
  split at h
  · rename_i lo' hg
    simp only [Option.some.injEq] at h
    subst h
    exact hS.loop l en _ hm hg
  · cases h

theorem getLoopA_get {A : AHeap} {l : Nat} {lo : ALoop} (h : getLoopA A l = some lo) : A.get l = some (.loop lo) := by
  unfold getLoopA at h
  split at h
  · rename_i lo' hg; simp only [Option.some.injEq] at h; subst h; exact hg
  · cases h

/-- A loop's record turns. -/
theorem sim_setLoop {m : Map} {A : AHeap} {W : World} (hS : Sim K.P m A W) {l : Nat} {lo : ALoop} (h : getLoopA A l = some lo) {en : Ent} (hm : m l = some en) {lc : Loop} (hc : W.heap[en.c]? = some (.loop lc))
    {lo' : ALoop} {lc' : Loop} (hr : lc'.state = lo'.state ∧ lc'.pending = lo'.pending ∧ lc'.params = lo'.params ∧ lc'.assign = lo'.assign ∧ lc'.body = lo'.body ∧ ERel m lo'.nt lo'.env lc'.tmps) :
    Sim K.P m (A.set l (.loop lo')) (W.putObj en.c (.loop lc')) ∧ Step m A W m (A.set l (.loop lo')) (W.putObj en.c (.loop lc')) := by
  have hput : W.putObj en.c (.loop lc') = putB W en.c (.loop lc') := rfl
  rw [hput]
  refine hS.write (o := .loop lo) (o' := .loop lo') hm (getLoopA_get h) rfl ?_ rfl ?_ ?_ ?_
  · intro j
    rw [AHeap.get_set]
    split
    · rfl
    · rw [if_neg (by simp [AObj.chain])]
  · intro r hr'; cases hr'
  · intro l' hl'
    simp only [AObj.loop.injEq] at hl'
    subst hl'
    refine ⟨lc', ?_, hr⟩
    rw [← hput]
    exact World.putObj_heap_same (lt_of_get hc)
  · intro _ _; exact ⟨lc', rfl⟩

theorem ERel.bind {m : Map} : ∀ (ps : List Tmp) (vs vs' : List Value) (nt : Nat) (e e1 : Env) (tmps : Array Value), ps.length = vs.length → LRel m vs vs' → ERel m nt e tmps → bindAll nt e ps vs = some e1 →
    ERel m nt e1 ((ps.zip vs').foldl (fun tmps (t, a) => tmps.setIfInBounds t a) tmps) := by
  intro ps
  induction ps with
  | nil =>
    intro vs vs' nt e e1 tmps _ _ he h
    simp only [bindAll, Option.some.injEq] at h
    subst h
    simpa using he
  | cons p ps ih =>
    intro vs vs' nt e e1 tmps hl hv he h
    cases vs with
    | nil => simp at hl
    | cons v vs =>
      cases vs' with
      | nil => have := hv.1; simp at this
      | cons v' vs' =>
        simp only [bindAll] at h
        split at h
        · rename_i hp
          have h0 : VRel m v v' := hv.2 0 v v' rfl rfl
          have h1 : LRel m vs vs' := ⟨by simpa using hv.1, fun i x y hx hy => hv.2 (i + 1) x y (by simpa using hx) (by simpa using hy)⟩
          have h2 := ERel.put (a := { tmps := tmps, defers := [] }) (d := some p) he h0 (e' := e.put p v) (by simp [putD, hp])
          exact ih vs vs' nt _ e1 _ (by simpa using hl) h1 h2 h
        · cases h

theorem Post.map {P : Program} {lo : Nat} {m : Map} {A : AHeap} {W : World} {rd : Option Nat} {nt : Nat} {x : AExit} {e' : Env} {A' : AHeap} {ex : Exit} {a' : Act} {w' : World}
    (hp : Post P lo m A W rd nt x e' A' ex a' w') : ex = x.exit' ∧ ∃ m', St P lo m' nt e' A' a' w' rd ∧ Step m A W m' A' w' := hp

theorem step_loop (hr : RecOK K r) : ∀ c nt e A x e' A', (stepRec K r).loop c nt e A = some (x, e', A') → ∀ lo m a W rd, St K.P lo m nt e A a W rd → LoopFrom (FW rd) K.P c (Post K.P lo m A W rd nt x e' A') a W := by
  intro c nt e A x e' A' h lo m a W rd hst
  simp only [stepRec] at h
  refine loop_round ?_
  split at h
  · rename_i e1 A1 h1
    refine wpIn_mono (hr.code c nt e A _ e1 A1 h1 lo m a W rd hst) ?_
    rintro ex a1 w1 ⟨rfl, m1, h2, h3⟩
    exact LoopFrom.mono (hr.loop c nt e1 A1 x e' A' h lo m1 a1 w1 rd h2) fun _ _ _ => Post.weaken h3
  · rename_i y hy
    refine wpIn_mono (hr.code c nt e A x e' A' h lo m a W rd hst) ?_
    rintro ex a1 w1 hp
    have hx : x ≠ .normal := by
      rintro rfl
      exact hy _ _ h
    obtain ⟨rfl, m1, h2, h3⟩ := hp
    cases x with
    | normal => exact absurd rfl hx
    | ret => exact ⟨rfl, m1, h2, h3⟩
    | exit id => exact ⟨rfl, m1, h2, h3⟩

theorem step_call (hK : CtxOK K) (hr : RecOK K r) : ∀ g args A v A', (stepRec K r).call g args A = some (v, A') → ∀ m args' W, Sim K.P m A W → ARel m args args' →
    (callFunc g args').run K.P W = .ok (.enter g args') W ∧ CallsIn (FW none) 0 K.P g args' W (CallPost K.P m A W A' v) := by
  intro g args A v A' h m args' W hS ha
  simp only [stepRec] at h
  split at h
  · rename_i fn hfn
    obtain ⟨hf, hname⟩ := hK.funcs g fn hfn
    split at h
    · rename_i c hb
      split at h
      · rename_i hsz
        refine ⟨MuLone.run_callFunc_enter hf hname hb args' W, ?_⟩
        have hst : St K.P W.heap.size m fn.ntmps (fun t => args.getD t undef) A { tmps := args' ++ Array.replicate (fn.ntmps - args'.size) undef, defers := [] } W none := by
          refine ⟨hS, ⟨by simp; have := ha.size; omega, fun t => ?_⟩, trivial, (fun l hl => by cases hl), Nat.le_refl _⟩
          simp only [Array.getD_eq_getD_getElem?]
          by_cases ht : t < args.size
          · rw [Array.getElem?_append_left (by rw [← ha.size]; exact ht)]
            rw [Array.getElem?_eq_getElem ht, Array.getElem?_eq_getElem (by rw [← ha.size]; exact ht)]
            exact ha.at t _ _ (Array.getElem?_eq_getElem ht) (Array.getElem?_eq_getElem (by rw [← ha.size]; exact ht))
          · rw [Array.getElem?_eq_none (by omega), Array.getElem?_append_right (by rw [← ha.size]; omega)]
            simp only [Option.getD_none, Array.getElem?_replicate]
            split <;> exact undef_rel m
        refine callsIn_of_wp_marks hf hb (FW_fn _ _) ?_ rfl
        split at h
        · cases h
        · rename_i x e' A1 hx hrun
          simp only [Option.map_eq_some_iff, Prod.mk.injEq] at h
          obtain ⟨vs, hvs, rfl, rfl⟩ := h
          refine wpIn_mono (hr.code c _ _ _ _ _ _ hrun W.heap.size m _ W none hst) ?_
          rintro ex a1 w1 ⟨rfl, m1, h2, h3⟩
          have hl : LeavesInM (FW none) 0 K.P fn a1.tmps (CallPost K.P m A W A1 (oneOr vs)) a1.defers .returning w1 :=
            leaves_marks h2.env hvs (fun v' w' k1 k2 k3 => ⟨v', m1, rfl, k1, k2, k3⟩) a1.defers w1 h2.sim h3 h2.marks
          cases x with
          | normal => exact hl
          | ret => exact hl
          | exit id => exact (hx id rfl).elim
        · cases h
      · cases h
    · cases h
  · cases h

theorem step_round (hr : RecOK K r) : ∀ l args A v A', (stepRec K r).round l args A = some (v, A') → ∀ m args' W en, Sim K.P m A W → ARel m args args' → m l = some en →
    ∃ f tmps assign body, (Instr.yield en.c args').run K.P W = .ok (.round en.c f tmps assign body) W ∧ RoundIn (FW none) 0 K.P en.c f tmps assign body W (CallPost K.P m A W A' v) := by
  intro l args A v A' h m args' W en hS ha hl
  simp only [stepRec] at h
  split at h
  · rename_i lo hlo
    obtain ⟨lc, hc, hst, hpe, hps, has, hbo, henv⟩ := sim_getLoop hS hlo hl
    split at h
    · rename_i hsz
      split at h
      · rename_i e1 he1
        split at h
        · rename_i e2 A2 hrun2
          split at h
          · rename_i lo2 hlo2
            split at h
            · rename_i hready
              split at h
              · rename_i x e4 A4 hrun4
                split at h
                · rename_i lo4 hlo4
                  simp only [Option.some.injEq, Prod.mk.injEq] at h
                  obtain ⟨rfl, rfl⟩ := h
                  have hy := run_yield (P := K.P) hc (args := args') (by rw [hps, ← ha.size]; exact hsz)
                  refine ⟨_, _, _, _, hy, ?_⟩
                  refine roundIn_of_wpIn (FW_fn _ _) ?_
                  have e0 : ERel m lo.nt e1 ((lc.params.zip args').foldl (fun tmps (t, a) => tmps.setIfInBounds t a) lc.tmps) := by
                    rw [hps, ← Array.foldl_toList, Array.toList_zip]
                    exact ERel.bind _ _ _ _ _ _ _ (by simpa using hsz.symm) ha henv he1
                  have st0 : St K.P W.heap.size m lo.nt e1 A { tmps := (lc.params.zip args').foldl (fun tmps (t, a) => tmps.setIfInBounds t a) lc.tmps, defers := [] } W (some en.c) :=
                    ⟨hS, e0, trivial, (fun l' hl' => by cases hl'; exact ⟨lc, hc⟩), Nat.le_refl _⟩
                  rw [has, hbo]
                  refine wpIn_mono (hr.code _ _ _ _ _ _ _ hrun2 W.heap.size m _ W (some en.c) st0) ?_
                  rintro ex a1 w1 ⟨rfl, m1, h2, h3⟩
                  have hl1 := h3.mono _ _ hl
                  obtain ⟨lc1, hc1, hst1, hpe1, hps1, has1, hbo1, henv1⟩ := sim_getLoop h2.sim hlo2 hl1
                  refine ⟨w1.putObj en.c (.loop { lc1 with state := .busy }), run_beginRound hc1 (by rw [hst1]; exact hready), ?_⟩
                  obtain ⟨k1, k2⟩ := sim_setLoop h2.sim hlo2 hl1 hc1 (lo' := { lo2 with state := .busy }) (lc' := { lc1 with state := .busy }) ⟨rfl, hpe1, hps1, has1, hbo1, henv1⟩
                  have st1 : St K.P W.heap.size m1 lo.nt e2 (A2.set l (.loop { lo2 with state := .busy })) a1 (w1.putObj en.c (.loop { lc1 with state := .busy })) (some en.c) :=
                    ⟨k1, h2.env, h2.marks.step k2, h2.rd.step k2, Nat.le_trans h2.low k2.size⟩
                  refine wpIn_mono (hr.code _ _ _ _ _ _ _ hrun4 W.heap.size m1 a1 _ (some en.c) st1) ?_
                  rintro ex a5 w5 ⟨rfl, m5, h5, h6⟩
                  have hl5 := h6.mono _ _ hl1
                  obtain ⟨lc5, hc5, hst5, hpe5, hps5, has5, hbo5, henv5⟩ := sim_getLoop h5.sim hlo4 hl5
                  obtain ⟨j1, j2⟩ := sim_setLoop h5.sim hlo4 hl5 hc5 (lo' := { lo4 with state := if x.jump.isNone then .ready else .done, pending := x.jump })
                    (lc' := { lc5 with state := if x.jump.isNone then .ready else .done, pending := x.jump }) ⟨rfl, rfl, hps5, has5, hbo5, henv5⟩
                  have hend := run_endRound (P := K.P) x.jump hc5
                  have hfin : CallPost K.P m A W (A4.set l (.loop { lo4 with state := if x.jump.isNone then .ready else .done, pending := x.jump })) (.bool x.jump.isNone) (.returned (.bool x.jump.isNone))
                      (w5.putObj en.c (.loop { lc5 with state := if x.jump.isNone then .ready else .done, pending := x.jump })) :=
                    ⟨_, m5, rfl, .bool _, j1, ((h3.trans k2).trans h6).trans j2⟩
                  cases x with
                  | normal => exact ⟨_, _, hend, hfin⟩
                  | ret => exact ⟨_, _, hend, hfin⟩
                  | exit id => exact ⟨_, _, hend, hfin⟩
                · cases h
              · cases h
            · cases h
          · cases h
        · cases h
      · cases h
    · cases h
  · cases h

/-- What a region that draws its order comes to. -/
def DrawOK (K : Ctx) (r : Rec) : Prop := ∀ ops nt e A e' A', evDraw K r ops nt e A = some (e', A') → ∀ (id lo : Nat) (m : Map) (a : Act) (W : World) (rd : Option Nat) (Q : Exit → Act → World → Prop), St K.P lo m nt e A a W rd →
  (∀ m' a' W', St K.P lo m' nt e' A' a' W' rd → Step m A W m' A' W' → Q .normal a' W') → (Code.region id ops true).wpIn (FW rd) 0 K.P Q a W

theorem sim_rangeFunc (hr : RecOK K r) {f : Operand} {ps : Array Tmp} {assign body : Code} {nt : Nat} {e : Env} {A : AHeap} {x : AExit} {e' : Env} {A' : AHeap}
    (h : (stepRec K r).code (.rangeFunc f ps assign body) nt e A = some (x, e', A')) {lo : Nat} {m : Map} {a : Act} {W : World} {rd : Option Nat} (hst : St K.P lo m nt e A a W rd) :
    (Code.rangeFunc f ps assign body).wpIn (FW rd) 0 K.P (Post K.P lo m A W rd nt x e' A') a W := by
  simp only [stepRec] at h
  split at h
  · rename_i hok
    split at h
    · rename_i g first captured hfv
      split at h
      · rename_i v2 A2 hcall
        split at h
        · rename_i lo2 hlo2
          split at h
          · cases h
          · rename_i hbusy
            have hv := hst.env.opv hok
            rw [hfv] at hv
            generalize hfc : a.eval f = fv' at hv
            cases hv with
            | func hfn hn hs hn' hs' =>
              cases hfn
              rename_i fs' cs'
              refine wpIn_rangeFunc fun fn _ => ?_
              -- the record is laid
              have hlay : ∃ (l : Nat) (mark : List Deferred) (w1 : World) (m1 : Map) (en : Ent), (Instr.enterLoop fn a.tmps ps assign body (FW rd).round).run K.P W = .ok (l, mark) w1 ∧ m1 A.next = some en ∧ en.c = l ∧
                  Sim K.P m1 (A.alloc (.loop ⟨.ready, none, e, nt, ps, assign, body⟩)) w1 ∧ Step m A W m1 (A.alloc (.loop ⟨.ready, none, e, nt, ps, assign, body⟩)) w1 ∧ Marks lo m1 w1 (mark ++ a.defers) := by
                cases rd with
                | some l0 =>
                  obtain ⟨lc, hlc⟩ := hst.rd l0 rfl
                  obtain ⟨k1, k2⟩ := hst.sim.newLoop (l := ⟨.ready, none, e, nt, ps, assign, body⟩) (lo := { state := .ready, pending := none, fn, tmps := a.tmps, params := ps, assign, body, defers := lc.defers }) rfl rfl rfl rfl rfl hst.env
                  exact ⟨_, _, _, _, ⟨W.heap.size, 0, 0, 0, 0, true⟩, run_enterLoop_inner hlc fn a.tmps ps assign body, by simp [Map.ext], rfl, k1, k2, hst.marks.step k2⟩
                | none =>
                  obtain ⟨j1, j2⟩ := hst.sim.beside (.deferred (some []))
                  obtain ⟨k1, k2⟩ := j1.newLoop (l := ⟨.ready, none, e, nt, ps, assign, body⟩) (lo := { state := .ready, pending := none, fn, tmps := a.tmps, params := ps, assign, body, defers := W.heap.size }) rfl rfl rfl rfl rfl hst.env
                  refine ⟨_, _, _, _, ⟨(W.alloc (.deferred (some []))).heap.size, 0, 0, 0, 0, true⟩, run_enterLoop_outer fn a.tmps ps assign body, by simp [Map.ext], World.size_alloc _ _, k1, j2.trans k2, ?_⟩
                  have hfree : Free m W.heap.size := fun b en hb hc => by have := hst.sim.lt b en hb; omega
                  have hm : Marks lo m (W.alloc (.deferred (some []))) ({ target := .collected W.heap.size, args := #[] } :: a.defers) := by
                    refine ⟨⟨W.heap.size, rfl, World.alloc_heap_new _ _, hfree, hst.low, ?_⟩, hst.marks.step j2⟩
                    intro d' hd' ht
                    have : ∀ (ds : List Deferred), Marks lo m W ds → d' ∈ ds → False := by
                      intro ds
                      induction ds with
                      | nil => intro _ hd; simp at hd
                      | cons d ds ih =>
                        rintro ⟨⟨D, h1, h2, _⟩, hr⟩ hd
                        rcases List.mem_cons.1 hd with rfl | hd
                        · rw [ht] at h1
                          simp only [Target.collected.injEq] at h1
                          have := lt_of_get h2
                          omega
                        · exact ih hr hd
                    exact this _ hst.marks hd'
                  exact hm.step k2
              obtain ⟨l, mark, w1, m1, en, h1, h2, h3, h4, h5, h6⟩ := hlay
              subst h3
              have hres : (resolve a.eval (rangeCall f en.c) 0).run K.P w1 = .ok { target := .fn (.func g) cs', args := fs' ++ #[.func (.yield en.c) #[] #[]] } w1 := by
                have := run_resolve_value (P := K.P) (W := w1) (ρ := a.eval) (f := f) (xs := #[.const (.func (.yield en.c) #[] #[])]) (tys := #[]) (ty := 0) hfc
                simpa [rangeCall, Act.eval] using this
              have hargs : ARel m1 (first ++ #[.func (.yield A.next) #[] #[]] ++ captured) (fs' ++ #[.func (.yield en.c) #[] #[]] ++ cs') := by
                refine (((ARel.of hn hs).mono h5.mono).append ?_).append ((ARel.of hn' hs').mono h5.mono)
                exact LRel.cons (.func (.yield h2) rfl (fun i v v' h => by simp at h) rfl (fun i v v' h => by simp at h)) (LRel.nil _)
              obtain ⟨c1, c2⟩ := hr.call g _ _ _ _ hcall m1 _ w1 h4 hargs
              refine ⟨en.c, mark, w1, _, w1, g, _, w1, h1, hres, fun _ _ => trivial, c1, fun h => by simp [FW, Fence.wide] at h, ?_⟩
              have c3 : CallsIn (FW rd) 0 K.P g (fs' ++ #[.func (.yield en.c) #[] #[]] ++ cs') w1 (CallPost K.P m1 _ w1 A2 v2) := c2
              refine c3.mono ?_
              rintro en3 w3 ⟨v3, m3, rfl, _, k1, k2⟩
              have hl3 := k2.mono _ _ h2
              obtain ⟨lc, hc, hst3, hpe3, hps3, has3, hbo3, henv3⟩ := sim_getLoop k1 hlo2 hl3
              have hend := run_endLoop (P := K.P) hc (by rw [hst3]; exact hbusy)
              obtain ⟨j1, j2⟩ := sim_setLoop k1 hlo2 hl3 hc (lo' := { lo2 with state := .exhausted }) (lc' := { lc with state := .exhausted }) ⟨rfl, hpe3, hps3, has3, hbo3, henv3⟩
              have hall := (h5.trans k2).trans j2
              have hfin : ∀ (x : AExit), St K.P lo m3 nt e (A2.set A.next (.loop { lo2 with state := .exhausted })) { a with defers := mark ++ a.defers } (w3.putObj en.c (.loop { lc with state := .exhausted })) rd :=
                fun _ => ⟨j1, hst.env.mono hall.mono, (h6.step k2).step j2, hst.rd.step hall, Nat.le_trans hst.low hall.size⟩
              clear j1 j2
              generalize A2.set A.next (.loop { lo2 with state := .exhausted }) = A3 at hfin hall h
              generalize w3.putObj en.c (.loop { lc with state := .exhausted }) = W3 at hfin hall hend
              refine ⟨lc.pending, W3, hend, ?_⟩
              rw [hpe3]
              split at h
              · rename_i hp
                simp only [Option.some.injEq, Prod.mk.injEq] at h
                obtain ⟨rfl, rfl, rfl⟩ := h
                rw [hp]
                exact ⟨rfl, m3, hfin .normal, hall⟩
              · rename_i hp
                simp only [Option.some.injEq, Prod.mk.injEq] at h
                obtain ⟨rfl, rfl, rfl⟩ := h
                rw [hp]
                exact wpIn_ret ⟨rfl, m3, hfin .ret, hall⟩
              · rename_i id hp
                simp only [Option.some.injEq, Prod.mk.injEq] at h
                obtain ⟨rfl, rfl, rfl⟩ := h
                rw [hp]
                exact wpIn_exit ⟨rfl, m3, hfin .ret, hall⟩
              · cases h
        · cases h
      · cases h
    · cases h
  · cases h

theorem step_code (hK : CtxOK K) (hr : RecOK K r) (hd : DrawOK K r) : ∀ c nt e A x e' A', (stepRec K r).code c nt e A = some (x, e', A') → ∀ lo m a W rd, St K.P lo m nt e A a W rd →
    c.wpIn (FW rd) 0 K.P (Post K.P lo m A W rd nt x e' A') a W := by
  intro c nt e A x e' A' h lo m a W rd hst
  cases c with
  | rangeFunc f ps assign body => exact sim_rangeFunc hr h hst
  | skip =>
    simp only [stepRec, Option.some.injEq, Prod.mk.injEq] at h
    obtain ⟨rfl, rfl, rfl⟩ := h
    exact wpIn_skip ⟨rfl, m, hst, Step.refl _ _ _⟩
  | region id ops draw =>
    simp only [stepRec] at h
    split at h
    · rename_i e1 A1 h1
      simp only [Option.some.injEq, Prod.mk.injEq] at h
      obtain ⟨rfl, rfl, rfl⟩ := h
      cases draw with
      | true => exact hd ops nt e A _ _ (by simpa using h1) id lo m a W rd _ hst fun m' a' W' k1 k2 => ⟨rfl, m', k1, k2⟩
      | false => exact wpIn_region_list (sim_ops hK hr ops.toList e A _ _ (by simpa using h1) lo m a W hst fun m' a' W' k1 k2 => ⟨rfl, m', k1, k2⟩)
    · cases h
  | seq c1 c2 =>
    simp only [stepRec] at h
    refine wpIn_seq ?_
    split at h
    · rename_i e1 A1 h1
      refine wpIn_mono (hr.code c1 nt e A _ e1 A1 h1 lo m a W rd hst) ?_
      rintro ex a1 w1 ⟨rfl, m1, h2, h3⟩
      exact wpIn_mono (hr.code c2 nt e1 A1 x e' A' h lo m1 a1 w1 rd h2) fun _ _ _ => Post.weaken h3
    · rename_i y hy
      refine wpIn_mono (hr.code c1 nt e A x e' A' h lo m a W rd hst) ?_
      rintro ex a1 w1 ⟨rfl, m1, h2, h3⟩
      cases x with
      | normal => exact (hy _ _ h).elim
      | ret => exact ⟨rfl, m1, h2, h3⟩
      | exit id => exact ⟨rfl, m1, h2, h3⟩
  | cond o c1 c2 =>
    simp only [stepRec] at h
    split at h
    · rename_i hok
      have hv := hst.env.opv hok
      split at h
      · rename_i hb
        rw [hb] at hv
        generalize hfc : a.eval o = fv' at hv
        cases hv
        exact wpIn_cond_true hfc (hr.code c1 nt e A x e' A' h lo m a W rd hst)
      · rename_i hb
        rw [hb] at hv
        generalize hfc : a.eval o = fv' at hv
        cases hv
        exact wpIn_cond_false hfc (hr.code c2 nt e A x e' A' h lo m a W rd hst)
      · cases h
    · cases h
  | block id body =>
    simp only [stepRec] at h
    refine wpIn_block ?_
    split at h
    · rename_i id' e1 A1 h1
      refine wpIn_mono (hr.code body nt e A _ e1 A1 h1 lo m a W rd hst) ?_
      rintro ex a1 w1 ⟨rfl, m1, h2, h3⟩
      simp only [AExit.exit', Exit.inBlock]
      split at h
      · rename_i hid
        rw [if_pos hid]
        simp only [Option.some.injEq, Prod.mk.injEq] at h
        obtain ⟨rfl, rfl, rfl⟩ := h
        exact ⟨rfl, m1, h2, h3⟩
      · rename_i hid
        rw [if_neg hid]
        simp only [Option.some.injEq, Prod.mk.injEq] at h
        obtain ⟨rfl, rfl, rfl⟩ := h
        exact ⟨rfl, m1, h2, h3⟩
    · rename_i y hy
      refine wpIn_mono (hr.code body nt e A x e' A' h lo m a W rd hst) ?_
      rintro ex a1 w1 ⟨rfl, m1, h2, h3⟩
      cases x with
      | normal => exact ⟨rfl, m1, h2, h3⟩
      | ret => exact ⟨rfl, m1, h2, h3⟩
      | exit id => exact (hy _ _ _ h).elim
  | loop body =>
    simp only [stepRec] at h
    exact loop_start (hr.loop body nt e A x e' A' h lo m a W rd hst)
  | exit id =>
    simp only [stepRec, Option.some.injEq, Prod.mk.injEq] at h
    obtain ⟨rfl, rfl, rfl⟩ := h
    exact wpIn_exit ⟨rfl, m, hst, Step.refl _ _ _⟩
  | ret =>
    simp only [stepRec, Option.some.injEq, Prod.mk.injEq] at h
    obtain ⟨rfl, rfl, rfl⟩ := h
    exact wpIn_ret ⟨rfl, m, hst, Step.refl _ _ _⟩
  | scope _ => simp [stepRec] at h
  | label _ => simp [stepRec] at h
  | goto _ => simp [stepRec] at h
  | refuse _ => simp [stepRec] at h

theorem recOK (hK : CtxOK K) (hd : ∀ r, RecOK K r → DrawOK K r) : ∀ n, RecOK K (rec K n)
  | 0 => ⟨fun _ _ _ _ _ _ _ h => by simp [rec] at h, fun _ _ _ _ _ _ _ h => by simp [rec] at h, fun _ _ _ _ _ h => by simp [rec] at h, fun _ _ _ _ _ h => by simp [rec] at h⟩
  | n + 1 =>
    have ih := recOK hK hd n
    ⟨step_code hK ih (hd _ ih), step_loop ih, step_call hK ih, step_round ih⟩

/-- **The abstract machine's word holds of the model.** -/
theorem recOK_all (hK : CtxOK K) (n : Nat) : RecOK K (rec K n) :=
  recOK hK (fun _ hr _ _ _ _ _ _ h id lo m a W rd Q hst hQ => sim_draw hK hr h id lo m a W rd Q hst hQ) n
end
end Go.Sh
