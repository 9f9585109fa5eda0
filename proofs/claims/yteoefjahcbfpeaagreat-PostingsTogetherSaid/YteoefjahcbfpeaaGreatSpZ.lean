/- The closed test of the chapter, run by the kernel; the context is sound. -/
import Derived.Test.YteoefjahcbfpeaaGreatShV
import Derived.Test.YteoefjahcbfpeaaGreatSkC
import Derived.KernelRfl
namespace Go.Sh
open Go Go.Proofs

def same0 : Value → Value → Bool
  | .bool a, .bool b => a == b
  | .int k a, .int l b => decide (k = l) && decide (a = b)
  | .pointer none, .pointer none => true
  | .pointer (some ⟨b, o, none⟩), .pointer (some ⟨b', o', none⟩) => b == b' && o == o'
  | .slice none l c, .slice none l' c' => l == l' && c == c'
  | .slice (some ⟨b, o, none⟩) l c, .slice (some ⟨b', o', none⟩) l' c' => b == b' && o == o' && l == l' && c == c'
  | _, _ => false
theorem same0_eq : ∀ a b : Value, same0 a b = true → a = b := by
  intro a b h
  unfold same0 at h
  split at h <;> simp_all

noncomputable def prim0 (g : FuncId) (xs : Array Value) (A : AHeap) : Option (Value × AHeap) :=
  if g = 119 then (if xs.size = 1 then some (xs.getD 0 undef, A) else none) else none
noncomputable def K0 : Ctx where
  P := Tryz.prog
  funcs := walked
  prim := prim0
  same := same0

theorem K0_P : K0.P = Tryz.prog := rfl
theorem K0_funcs : K0.funcs = walked := by delta K0; with_reducible rfl
theorem Kt_funcs : Kt.funcs = walked := by delta Kt; with_reducible rfl
theorem walked_ok (g : FuncId) (fn : Func) (h : walked g = some fn) : Tryz.prog.funcs[g]? = some fn ∧ (fn.name == "runtime.NumGoroutine") = false := by
  unfold walked at h
  split at h
  · rename_i fn' hf
    split at h
    · rename_i hc
      simp only [Option.some.injEq] at h
      subst h
      simp only [Bool.and_eq_true,Bool.not_eq_true'] at hc
      exact ⟨hf, hc.2⟩
    · cases h
  · cases h

theorem follows_ok : Tryz.prog.follows .mixedOrders = true := by kernel_rfl
theorem noescape_says {m : Map} {A : AHeap} {W : World} {xs args' : Array Value} (hS : Sim Tryz.prog m A W) (ha : ARel m xs args') (hs : xs.size = 1) : PrimSays Tryz.prog m A W A (xs.getD 0 undef) 119 args' :=
  says_back Tryz.func119 (by kernel_rfl) (by kernel_rfl) (by kernel_rfl) (by kernel_rfl) hS ha hs


theorem K0_ok : CtxOK K0 where
  same := same0_eq
  follows := follows_ok
  funcs := fun g fn h => by rw [K0_P]; rw [K0_funcs] at h; exact walked_ok g fn h
  prim := by
    intro g xs A v A' h m args' W hS ha
    change prim0 g xs A = some (v, A') at h
    unfold prim0 at h
    split at h
    · rename_i hg
      subst hg
      split at h
      · rename_i hs
        cases h
        exact noescape_says hS ha hs
      · cases h
    · cases h

theorem works_true : ((rec K0 200).call 18 #[] A00).map (·.1) = some (.bool true) := by kernel_rfl

theorem Kt_ok : CtxOK Kt where
  same := fun a b h => @of_decide_eq_true _ (Classical.propDecidable _) h
  follows := follows_ok
  funcs := fun g fn h => by rw [Kt_P]; rw [Kt_funcs] at h; exact walked_ok g fn h
  prim := by
    intro g xs A v A' h m args' W hS ha
    change prims g xs A = some (v, A') at h
    unfold prims at h
    split at h
    · rename_i hg
      subst hg
      split at h
      · rename_i hs
        cases h
        exact noescape_says hS ha hs
      · cases h
    · split at h
      · rename_i hg
        subst hg
        split at h
        · rename_i hs
          cases h
          have hw := works_true
          cases hc : (rec K0 200).call 18 #[] A00 with
          | none => rw [hc] at hw; cases hw
          | some p =>
            obtain ⟨u, A1⟩ := p
            rw [hc] at hw
            simp only [Option.map_some,Option.some.injEq] at hw
            subst hw
            have h0 : args' = #[] := by
              have := ha.size
              rw [hs] at this
              exact Array.eq_empty_of_size_eq_zero this.symm
            subst h0
            exact says_closed K0_ok hc hS
        · cases h
      · cases h
end Go.Sh
