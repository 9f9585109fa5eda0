/- Shadow, part 16: code, calls and rounds of the abstract machine, and of the model. -/
import Derived.Test.YteoefjahcbfpeaaShO
import Derived.RangeFuncRecord
namespace Go.Sh
open Go

section
variable {K : Ctx} {r : Rec}

theorem loop_start {F : Fence} {P : Program} {c : Code} {Q : Exit → Act → World → Prop} {a : Act} {w : World} (h : LoopFrom F P c Q a w) : (Code.loop c).wpIn F 0 P Q a w := by
  intro b k cs hro hb hr
  obtain ⟨e, a', w', hq, harr⟩ := h b k cs hro hb hr
  exact ⟨e, a', w', hq, .of_steps (.one (fenced_calm hb hr rfl) stepR_loop) harr⟩

theorem loop_round {F : Fence} {P : Program} {c : Code} {Q : Exit → Act → World → Prop} {a : Act} {w : World} (h : c.wpIn F 0 P (Exit.then (LoopFrom F P c Q) Q) a w) : LoopFrom F P c Q a w := by
  intro b k cs hro hb hr
  obtain ⟨e, a₁, w₁, hq, harr⟩ := h b (.inLoop c :: k) cs hro hb hr
  cases e with
  | normal =>
    obtain ⟨e₂, a₂, w₂, hq₂, harr₂⟩ := hq b k cs hro hb hr
    exact ⟨e₂, a₂, w₂, hq₂, .of_steps (StepsIn.trans harr (.one (fenced_calm hb hr rfl) stepR_inLoop)) harr₂⟩
  | exit id => exact ⟨_, a₁, w₁, hq, .pass (x := .inLoop c) rfl (fun _ _ => .inl (by simp)) harr⟩
  | goto l => exact ⟨_, a₁, w₁, hq, .pass (x := .inLoop c) rfl (fun _ _ => .inl (by simp)) harr⟩
  | ret => exact ⟨_, a₁, w₁, hq, .pass (x := .inLoop c) rfl (fun _ _ => .inl (by simp)) harr⟩
  | panic ch => exact ⟨_, a₁, w₁, hq, .pass (x := .inLoop c) rfl (fun _ _ => .inl (by simp)) harr⟩
  | outgrown => exact ⟨_, a₁, w₁, hq, .pass (x := .inLoop c) rfl (fun _ _ => .inl (by simp)) harr⟩

theorem Post.weaken {P : Program} {lo : Nat} {m m1 : Map} {A A1 : AHeap} {W W1 : World} {rd : Option Nat} {nt : Nat} {x : AExit} {e' : Env} {A' : AHeap} (h : Step m A W m1 A1 W1) {ex : Exit} {a' : Act} {w' : World}
    (hp : Post P lo m1 A1 W1 rd nt x e' A' ex a' w') : Post P lo m A W rd nt x e' A' ex a' w' := by
  obtain ⟨h1, m', h2, h3⟩ := hp
  exact ⟨h1, m', h2, h.trans h3⟩

theorem LoopFrom.mono {F : Fence} {P : Program} {c : Code} {Q Q' : Exit → Act → World → Prop} {a : Act} {w : World} (h : LoopFrom F P c Q a w) (hq : ∀ e a w, Q e a w → Q' e a w) : LoopFrom F P c Q' a w :=
  fun b k cs hro hb hr => let ⟨e, a', w', q, x⟩ := h b k cs hro hb hr; ⟨e, a', w', hq _ _ _ q, x⟩

/-! ### Ends of calls -/

theorem run_mapM_arr {P : Program} {W : World} {m : Map} {A : AHeap} {e : Env} {g : ResultVar → Sem Value} : ∀ (rs : List ResultVar) (vs : List Value), aResults K A e rs = some vs →
    (∀ x v, aResult K A e x = some v → ∃ v', (g x).run P W = .ok v' W ∧ VRel m v v') → ∃ vs', (rs.mapM g).run P W = .ok vs' W ∧ LRel m vs vs' := by
  intro rs
  induction rs with
  | nil =>
    intro vs h _
    simp only [aResults, Option.some.injEq] at h
    subst h
    exact ⟨[], rfl, LRel.nil m⟩
  | cons x rs ih =>
    intro vs h hg
    simp only [aResults] at h
    split at h
    · rename_i v vs1 hv hvs
      simp only [Option.some.injEq] at h
      subst h
      obtain ⟨vs', h1, h2⟩ := ih vs1 hvs hg
      obtain ⟨v', hv1, hv2⟩ := hg x v hv
      refine ⟨v' :: vs', ?_, LRel.cons hv2 h2⟩
      rw [List.mapM_cons, Sem.run_bind, hv1]
      simp only [Result.andThen, Sem.run_bind, h1, Sem.run_pure]
    · cases h

theorem oneOr_rel {m : Map} {vs vs' : List Value} (h : LRel m vs vs') : VRel m (oneOr vs) (if hs : vs'.toArray.size = 1 then vs'.toArray[0] else .tuple vs'.toArray) := by
  cases vs with
  | nil =>
    have : vs' = [] := by have := h.1; simp at this; exact List.eq_nil_of_length_eq_zero this.symm
    subst this
    exact VRel.ofTuple h
  | cons v vs =>
    cases vs with
    | nil =>
      cases vs' with
      | nil => have := h.1; simp at this
      | cons v' vs' =>
        cases vs' with
        | nil => exact h.2 0 v v' rfl rfl
        | cons _ _ => have := h.1; simp at this
    | cons u vs =>
      cases vs' with
      | nil => have := h.1; simp at this
      | cons v' vs' =>
        cases vs' with
        | nil => have := h.1; simp at this
        | cons u' vs' =>
          rw [dif_neg (by simp)]
          exact VRel.ofTuple h

theorem sim_results {m : Map} {nt : Nat} {e : Env} {tmps : Array Value} {A : AHeap} {W : World} {fn : Func} {vs : List Value} (hS : Sim K.P m A W) (he : ERel m nt e tmps)
    (h : aResults K A e fn.results.toList = some vs) : ∃ v', (results fn tmps).run K.P W = .ok v' W ∧ VRel m (oneOr vs) v' := by
  unfold results
  have key := run_mapM_arr (P := K.P) (W := W) (m := m) (g := fun | .tmp t => pure (tmps.getD t undef) | .cell a t => do loadVar t (← asAddr (tmps.getD a undef))) fn.results.toList vs h ?_
  · obtain ⟨vs', h1, h2⟩ := key
    refine ⟨_, ?_, oneOr_rel h2⟩
    rw [Sem.run_bind]
    have h3 : ∀ (arr : Array ResultVar) (g : ResultVar → Sem Value), (arr.toList.mapM g).run K.P W = .ok vs' W → (arr.mapM g).run K.P W = .ok vs'.toArray W := by
      intro arr g hg
      obtain ⟨l⟩ := arr
      rw [List.mapM_toArray, map_eq_pure_bind, Sem.run_bind, hg]
      rfl
    exact (congrArg (fun r => Result.andThen r (fun (a : Array Value) w' => (pure (if h : a.size = 1 then a[0] else Value.tuple a) : Sem Value).run K.P w')) (h3 _ _ h1)).trans rfl
  · intro x v hv
    cases x with
    | tmp t =>
      simp only [aResult, Option.some.injEq] at hv
      subst hv
      exact ⟨_, rfl, he.val t⟩
    | cell a t =>
      simp only [aResult] at hv
      obtain ⟨v', h3, h4⟩ := sim_loadVar hv hS (he.val a)
      refine ⟨v', ?_, h4⟩
      have hp : ∃ ad, tmps.getD a undef = .pointer (some ad) := by
        have := he.val a
        unfold aLoadVar at hv
        split at hv
        · rename_i d b o hd hpe
          rw [hpe] at this
          generalize tmps.getD a undef = u at this
          cases this
          exact ⟨_, rfl⟩
        · cases hv
      obtain ⟨ad, hp⟩ := hp
      show (do loadVar t (← asAddr (tmps.getD a undef)) : Sem Value).run K.P W = _
      rw [hp] at h3 ⊢
      simpa [Instr.loadAt, Instr.sureAddr, asAddr, Sem.run_bind, Result.andThen] using h3

theorem Free.put {P : Program} {m : Map} {A : AHeap} {W : World} (h : Sim P m A W) {D : Nat} (hf : Free m D) (o : Obj) : Sim P m A (W.putObj D o) := by
  have hold : ∀ b en, m b = some en → (W.putObj D o).heap[en.c]? = W.heap[en.c]? := fun b en hb => World.putObj_heap_other (hf b en hb)
  refine ⟨h.dom, fun b en hb => by rw [World.putObj_size]; exact h.lt b en hb, ?_, ?_, h.own⟩
  · intro b en r hb hr hst
    obtain ⟨cs, fr, ⟨te, hW, hte⟩, k⟩ := h.row b en r hb hr hst
    exact ⟨cs, fr, ⟨te, by rw [hold b en hb]; exact hW, hte⟩, k⟩
  · intro b en l hb hr
    obtain ⟨lo, h1, h2, h3, h4, h5, h6, h7⟩ := h.loop b en l hb hr
    exact ⟨lo, by rw [hold b en hb]; exact h1, h2, h3, h4, h5, h6, h7⟩

theorem Step.put {m0 m : Map} {A0 A : AHeap} {W0 W : World} (h : Step m0 A0 W0 m A W) {D : Nat} (hD : W0.heap.size ≤ D) (o : Obj) : Step m0 A0 W0 m A (W.putObj D o) := by
  refine ⟨h.mono, h.next, by rw [World.putObj_size]; exact h.size, h.tape, h.os, h.output, ?_, h.rng, h.wr, ?_⟩
  · intro c hc hw
    rw [World.putObj_heap_other (by omega)]
    exact h.frame c hc hw
  · intro c lo hc
    rw [World.putObj_heap_other (by have := lt_of_get hc; omega)]
    exact h.loops c lo hc

theorem Marks.put {lo : Nat} {m : Map} {W : World} {D : Nat} {o : Obj} : ∀ {ds : List Deferred}, (∀ d' ∈ ds, d'.target ≠ .collected D) → Marks lo m W ds → Marks lo m (W.putObj D o) ds
  | [], _, _ => trivial
  | d :: ds, hn, ⟨⟨E, h1, h2, h3, h4, h5⟩, hr⟩ => by
    have hne : E ≠ D := fun e => hn d (by simp) (by rw [h1, e])
    exact ⟨⟨E, h1, by rw [World.putObj_heap_other hne]; exact h2, h3, h4, h5⟩, hr.put (fun d' hd' => hn d' (by simp [hd']))⟩

/-- The marks are taken, one by one; nothing else turns. -/
theorem leaves_marks {m : Map} {A A0 : AHeap} {fn : Func} {tmps : Array Value} {R : Ending → World → Prop} {m0 : Map} {W0 : World} {nt : Nat} {e : Env} {vs : List Value} (he : ERel m nt e tmps)
    (h : aResults K A e fn.results.toList = some vs)
    (hR : ∀ v' w', VRel m (oneOr vs) v' → Sim K.P m A w' → Step m0 A0 W0 m A w' → R (.returned v') w') : ∀ (ds : List Deferred) (W : World), Sim K.P m A W → Step m0 A0 W0 m A W → Marks W0.heap.size m W ds →
    LeavesInM (FW none) 0 K.P fn tmps R ds .returning W := by
  intro ds
  induction ds with
  | nil =>
    intro W hS hst _
    obtain ⟨v', h1, h2⟩ := sim_results hS he h
    exact ⟨v', h1, hR v' W h2 hS hst⟩
  | cons d ds ih =>
    intro W hS hst hm
    obtain ⟨⟨D, h1, h2, h3, h4, h5⟩, hm⟩ := hm
    refine ⟨(by intro e; cases e), .inl ⟨D, W.putObj D (.deferred none), h1, run_takeDeferred h2, ih _ (Free.put hS h3 _) (hst.put h4 _) (hm.put h5)⟩⟩
end
end Go.Sh
