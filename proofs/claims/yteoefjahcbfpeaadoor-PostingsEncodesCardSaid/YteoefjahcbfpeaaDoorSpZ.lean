/- The closed test of the chapter, run by the kernel; the context is sound. -/
import Derived.Test.YteoefjahcbfpeaaDoorShV
import Derived.Test.YteoefjahcbfpeaaDoorSkC
import Derived.KernelRfl
import Derived.Test.YteoefjahcbfpeaaDoorEah
import Derived.Conc.MuLone
namespace Go.Sh
open Go Go.Proofs

def same0 : Value → Value → Bool
  | .bool a, .bool b => a == b
  | .int k a, .int l b => decide (k = l) && decide (a = b)
  | .pointer none, .pointer none => true
  | .pointer (some ⟨b, o, none⟩), .pointer (some ⟨b', o', none⟩) => b == b' && o == o'
  | .slice none l c, .slice none l' c' => l == l' && c == c'
  | .slice (some ⟨b, o, none⟩) l c, .slice (some ⟨b', o', none⟩) l' c' => b == b' && o == o' && l == l' && c == c'
  | _, _ => false
theorem same0_eq : ∀ a b : Value, same0 a b = true → a = b := by
  intro a b h
  unfold same0 at h
  split at h <;> simp_all

noncomputable def prim0 (g : FuncId) (xs : Array Value) (A : AHeap) : Option (Value × AHeap) :=
  if g = 68 then (if xs.size = 1 then some (xs.getD 0 undef, A) else none) else none
noncomputable def K0 : Ctx where
  P := Tryd.prog
  funcs := walked
  prim := prim0
  same := same0

theorem K0_P : K0.P = Tryd.prog := rfl
theorem K0_funcs : K0.funcs = walked := by delta K0; with_reducible rfl
theorem Kt_funcs : Kt.funcs = walked := by delta Kt; with_reducible rfl
theorem walked_ok (g : FuncId) (fn : Func) (h : walked g = some fn) : Tryd.prog.funcs[g]? = some fn ∧ (fn.name == "runtime.NumGoroutine") = false := by
  unfold walked at h
  split at h
  · rename_i fn' hf
    split at h
    · rename_i hc
      simp only [Option.some.injEq] at h
      subst h
      simp only [Bool.and_eq_true,Bool.not_eq_true'] at hc
      exact ⟨hf, hc.2⟩
    · cases h
  · cases h

theorem follows_ok : Tryd.prog.follows .mixedOrders = true := by kernel_rfl
theorem noescape_says {m : Map} {A : AHeap} {W : World} {xs args' : Array Value} (hS : Sim Tryd.prog m A W) (ha : ARel m xs args') (hs : xs.size = 1) : PrimSays Tryd.prog m A W A (xs.getD 0 undef) 68 args' :=
  says_back Tryd.func68 (by kernel_rfl) (by kernel_rfl) (by kernel_rfl) (by kernel_rfl) hS ha hs

theorem iface_rel {m : Map} {t : TypeId} {x v' : Value} (h : VRel m (.iface t x) v') : ∃ y, v' = .iface t y ∧ VRel m x y := by
  cases h with
  | iface _ h => exact ⟨_, rfl, h⟩
theorem is_enter (xs : Array Value) (W : World) : (callFunc 50 xs).run Tryd.prog W = .ok (.enter 50 xs) W := by
  obtain ⟨c, hc⟩ : ∃ c, Tryd.f50.body = some c := Option.isSome_iff_exists.1 (by kernel_rfl)
  exact MuLone.run_callFunc_enter Tryd.func50 (by kernel_rfl) hc _ _
theorem as_enter (xs : Array Value) (W : World) : (callFunc 41 xs).run Tryd.prog W = .ok (.enter 41 xs) W := by
  obtain ⟨c, hc⟩ : ∃ c, Tryd.f41.body = some c := Option.isSome_iff_exists.1 (by kernel_rfl)
  exact MuLone.run_callFunc_enter Tryd.func41 (by kernel_rfl) hc _ _
theorem ptr_rel {m : Map} {b o : Nat} {v' : Value} (h : VRel m (.pointer (some ⟨b, o, none⟩)) v') : ∃ b' o', v' = .pointer (some ⟨b', o', none⟩) := by
  cases h with
  | ptr h => exact ⟨_, _, rfl⟩
theorem FW_wide : FW none = Fence.wide := rfl
theorem two_rel {m : Map} {a b : Value} {args' : Array Value} (ha : ARel m #[a, b] args') : ∃ a' b', args' = #[a', b'] ∧ VRel m a a' ∧ VRel m b b' := by
  have h1 := ha.size
  obtain ⟨l⟩ := args'
  match l, h1 with
  | [], h => simp at h
  | [x], h => simp at h
  | [x, y], _ => exact ⟨x, y, rfl, ha.at 0 _ _ (by simp) (by simp), ha.at 1 _ _ (by simp) (by simp)⟩
  | _ :: _ :: _ :: _, h => simp at h
set_option maxRecDepth 100000 in
theorem is_says {m : Map} {A A' : AHeap} {W : World} {xs args' : Array Value} {v : Value} (hS : Sim Tryd.prog m A W) (ha : ARel m xs args') (h : isPrim xs A = some (v, A')) : PrimSays Tryd.prog m A W A' v 50 args' := by
  unfold isPrim at h
  split at h
  · rename_i t a u b hl
    have hx : xs = #[.iface t (.int .i64 a), .iface u (.int .i64 b)] := by cases xs; simpa using hl
    subst hx
    split at h
    · rename_i hc
      obtain ⟨rfl, rfl⟩ := hc
      cases h
      obtain ⟨x, y, rfl, h1, h2⟩ := two_rel ha
      obtain ⟨x, rfl, h3⟩ := iface_rel h1
      obtain ⟨y, rfl, h4⟩ := iface_rel h2
      cases h3
      cases h4
      refine .inr ⟨is_enter _ _, ?_⟩
      have hw := callsIn_wide (n := 0).2 (is_nums a b W)
      rw [FW_wide]
      refine hw.mono ?_
      rintro e W' ⟨rfl, rfl⟩
      exact ⟨_, m, rfl, .bool _, hS, Step.refl m A W'⟩
    · cases h
  · cases h
set_option maxRecDepth 100000 in
theorem as_says {m : Map} {A A' : AHeap} {W : World} {xs args' : Array Value} {v : Value} (hS : Sim Tryd.prog m A W) (ha : ARel m xs args') (h : asPrim xs A = some (v, A')) : PrimSays Tryd.prog m A W A' v 41 args' := by
  unfold asPrim at h
  split at h
  · rename_i t k u b o hl
    have hx : xs = #[.iface t (.int .i64 k), .iface u (.pointer (some ⟨b, o, none⟩))] := by cases xs; simpa using hl
    subst hx
    split at h
    · rename_i hc
      obtain ⟨rfl, rfl⟩ := hc
      cases h
      obtain ⟨x, y, rfl, h1, h2⟩ := two_rel ha
      obtain ⟨x, rfl, h3⟩ := iface_rel h1
      obtain ⟨y, rfl, h4⟩ := iface_rel h2
      cases h3
      obtain ⟨pb, po, rfl⟩ := ptr_rel h4
      refine .inr ⟨as_enter _ _, ?_⟩
      have hg := hS.fix.w _ (List.mem_singleton.2 rfl)
      have hw := callsIn_wide (n := 0).2 (as_miss k ⟨pb, po, none⟩ W hg)
      rw [FW_wide]
      refine hw.mono ?_
      rintro e W' ⟨rfl, o1, o2, o3, rfl⟩
      obtain ⟨hS1, t1⟩ := hS.beside o1
      obtain ⟨hS2, t2⟩ := hS1.beside o2
      obtain ⟨hS3, t3⟩ := hS2.beside o3
      exact ⟨_, m, rfl, .bool _, hS3, (t1.trans t2).trans t3⟩
    · cases h
  · cases h

set_option maxRecDepth 100000 in
theorem fault_rel {m : Map} {n l a : Int} {v' : Value} (h : VRel m (.agg #[.int .i64 n, .int .i64 l, .int .i64 a]) v') : v' = faultV n l a := by
  cases h with
  | @agg cs cs' hn hs =>
    obtain ⟨l'⟩ := cs'
    match l', hn with
    | [], h => simp at h
    | [x], h => simp at h
    | [x, y], h => simp at h
    | [x, y, z], _ =>
      have h0 := hs 0 _ _ rfl rfl
      have h1 := hs 1 _ _ rfl rfl
      have h2 := hs 2 _ _ rfl rfl
      cases h0
      cases h1
      cases h2
      rfl
    | _ :: _ :: _ :: _ :: _, h => simp at h
set_option maxRecDepth 100000 in
theorem isF_says {m : Map} {A A' : AHeap} {W : World} {xs args' : Array Value} {v : Value} (hS : Sim Tryd.prog m A W) (ha : ARel m xs args') (h : isPrimF xs A = some (v, A')) : PrimSays Tryd.prog m A W A' v 50 args' := by
  unfold isPrimF at h
  split at h
  · rename_i t n l a u b hl
    have hx : xs = #[.iface t (.agg #[.int .i64 n, .int .i64 l, .int .i64 a]), .iface u (.int .i64 b)] := by cases xs; simpa using hl
    subst hx
    split at h
    · rename_i hc
      obtain ⟨rfl, rfl⟩ := hc
      cases h
      obtain ⟨x, y, rfl, h1, h2⟩ := two_rel ha
      obtain ⟨x, rfl, h3⟩ := iface_rel h1
      obtain ⟨y, rfl, h4⟩ := iface_rel h2
      obtain rfl := fault_rel h3
      cases h4
      refine .inr ⟨is_enter _ _, ?_⟩
      have hw := callsIn_wide (n := 0).2 (is_fault n l a b W)
      rw [FW_wide]
      refine hw.mono ?_
      rintro e W' ⟨rfl, o, rfl⟩
      obtain ⟨hS1, t1⟩ := hS.beside o
      exact ⟨_, m, rfl, .bool _, hS1, t1⟩
    · cases h
  · cases h
set_option maxRecDepth 100000 in
theorem asF_says {m : Map} {A A' : AHeap} {W : World} {xs args' : Array Value} {v : Value} (hS : Sim Tryd.prog m A W) (ha : ARel m xs args') (h : asPrimF xs A = some (v, A')) : PrimSays Tryd.prog m A W A' v 41 args' := by
  unfold asPrimF at h
  split at h
  · rename_i t n l a u b o hl
    have hx : xs = #[.iface t (.agg #[.int .i64 n, .int .i64 l, .int .i64 a]), .iface u (.pointer (some ⟨b, o, none⟩))] := by cases xs; simpa using hl
    subst hx
    split at h
    · rename_i hc
      obtain ⟨rfl, rfl⟩ := hc
      rw [Option.map_eq_some_iff] at h
      obtain ⟨A1, hst, h⟩ := h
      cases h
      obtain ⟨x, y, rfl, h1, h2⟩ := two_rel ha
      obtain ⟨x, rfl, h3⟩ := iface_rel h1
      obtain ⟨y, rfl, h4⟩ := iface_rel h2
      have h3' := h3
      obtain rfl := fault_rel h3
      obtain ⟨pb, po, rfl⟩ := ptr_rel h4
      refine .inr ⟨as_enter _ _, ?_⟩
      have hg := hS.fix.w _ (List.mem_singleton.2 rfl)
      obtain ⟨hS1, t1⟩ := hS.beside (hC1 ⟨pb, po, none⟩)
      obtain ⟨hS2, t2⟩ := hS1.beside (hC2 W)
      obtain ⟨hS3, t3⟩ := hS2.beside (hC2 W)
      obtain ⟨hS4, t4⟩ := hS3.beside (hC4 n l a)
      obtain ⟨W', hr, hS5, t5⟩ := sim_storeVar hst hS4 h4 h3'
      have hr' : (storeVar 49 ⟨pb, po, none⟩ (faultV n l a)).run Tryd.prog ((((W.alloc (hC1 ⟨pb, po, none⟩)).alloc (hC2 W)).alloc (hC2 W)).alloc (hC4 n l a)) = .ok () W' := by
        have hr2 := hr
        simp only [Instr.storeAt,Instr.sureAddr,Sem.run_bind,Sem.run_pure,Result.andThen] at hr2
        exact hr2
      have hw := callsIn_wide (n := 0).2 (as_hit n l a ⟨pb, po, none⟩ W W' hg hr')
      rw [FW_wide]
      refine hw.mono ?_
      rintro e W'' ⟨rfl, rfl⟩
      exact ⟨_, m, rfl, .bool _, hS5, (((t1.trans t2).trans t3).trans t4).trans t5⟩
    · cases h
  · cases h

theorem K0_ok : CtxOK K0 where
  same := same0_eq
  follows := follows_ok
  funcs := fun g fn h => by rw [K0_P]; rw [K0_funcs] at h; exact walked_ok g fn h
  prim := by
    intro g xs A v A' h m args' W hS ha
    change prim0 g xs A = some (v, A') at h
    unfold prim0 at h
    split at h
    · rename_i hg
      subst hg
      split at h
      · rename_i hs
        cases h
        exact noescape_says hS ha hs
      · cases h
    · cases h

theorem works_true : ((rec K0 200).call 11 #[] A00).map (·.1) = some (.bool true) := by kernel_rfl

theorem Kt_ok : CtxOK Kt where
  same := fun a b h => @of_decide_eq_true _ (Classical.propDecidable _) h
  follows := follows_ok
  funcs := fun g fn h => by rw [Kt_P]; rw [Kt_funcs] at h; exact walked_ok g fn h
  prim := by
    intro g xs A v A' h m args' W hS ha
    change prims g xs A = some (v, A') at h
    unfold prims at h
    split at h
    · rename_i hg
      subst hg
      split at h
      · rename_i hs
        cases h
        exact noescape_says hS ha hs
      · cases h
    · split at h
      · rename_i hg
        subst hg
        split at h
        · rename_i hs
          cases h
          have hw := works_true
          cases hc : (rec K0 200).call 11 #[] A00 with
          | none => rw [hc] at hw; cases hw
          | some p =>
            obtain ⟨u, A1⟩ := p
            rw [hc] at hw
            simp only [Option.map_some,Option.some.injEq] at hw
            subst hw
            have h0 : args' = #[] := by
              have := ha.size
              rw [hs] at this
              exact Array.eq_empty_of_size_eq_zero this.symm
            subst h0
            exact says_closed K0_ok hc hS
        · cases h
      · split at h
        · rename_i hg
          subst hg
          split at h
          · rename_i r hr
            cases h
            exact is_says hS ha hr
          · exact isF_says hS ha h
        · split at h
          · rename_i hg
            subst hg
            split at h
            · rename_i r hr
              cases h
              exact as_says hS ha hr
            · exact asF_says hS ha h
          · cases h
end Go.Sh
