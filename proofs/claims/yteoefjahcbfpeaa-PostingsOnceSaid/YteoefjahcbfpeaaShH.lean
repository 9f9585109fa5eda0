/- Shadow, part 8: operations that look at no memory stand to the model's as they must. -/
import Derived.Test.YteoefjahcbfpeaaShG
namespace Go.Sh
open Go

section
variable {P : Program} {m : Map}

theorem ARel.map {ρ ρ' : Operand → Value} {xs : Array Operand} (h : ∀ x ∈ xs.toList, VRel m (ρ x) (ρ' x)) : ARel m (xs.map ρ) (xs.map ρ') := by
  refine ARel.of (by simp) fun i v v' hv hv' => ?_
  rw [Array.getElem?_map] at hv hv'
  cases hx : xs[i]? with
  | none => rw [hx] at hv; simp at hv
  | some x =>
    rw [hx] at hv hv'
    simp at hv hv'
    subst hv; subst hv'
    exact h x (by simpa using Array.mem_of_getElem? hx)

theorem sim_parts {ρ ρ' : Operand → Value} {parts : Array (Nat × Operand)} (h : ∀ x ∈ (parts.toList.map (·.2)), VRel m (ρ x) (ρ' x)) :
    (parts.toList.map fun (i, x) => (i, ρ x)).map (·.1) = (parts.toList.map fun (i, x) => (i, ρ' x)).map (·.1) ∧
    LRel m ((parts.toList.map fun (i, x) => (i, ρ x)).map (·.2)) ((parts.toList.map fun (i, x) => (i, ρ' x)).map (·.2)) := by
  refine ⟨by simp, by simp, fun i v v' hv hv' => ?_⟩
  simp only [List.map_map, List.getElem?_map] at hv hv'
  cases hx : parts.toList[i]? with
  | none => rw [hx] at hv; simp at hv
  | some x =>
    rw [hx] at hv hv'
    simp at hv hv'
    subst hv; subst hv'
    exact h x.2 (List.mem_map.2 ⟨x, List.mem_of_getElem? hx, rfl⟩)

theorem parts_toArray {ρ : Operand → Value} (parts : Array (Nat × Operand)) : parts.map (fun (i, x) => (i, ρ x)) = (parts.toList.map fun (i, x) => (i, ρ x)).toArray := by
  apply Array.ext'
  simp

theorem sim_un {op : UnOp} {x x' v : Value} (h : aUn op x = some v) (hx : VRel m x x') : ∃ v', (∀ W, (Op.unary op x').run P W = .ok v' W) ∧ VRel m v v' := by
  unfold aUn at h
  split at h
  · cases hx; simp only [Option.some.injEq] at h; subst h; exact ⟨_, fun W => rfl, .int _ _⟩
  · cases hx; simp only [Option.some.injEq] at h; subst h; exact ⟨_, fun W => rfl, .int _ _⟩
  · cases hx; simp only [Option.some.injEq] at h; subst h; exact ⟨_, fun W => rfl, .bool _⟩
  · cases h

theorem sim_convert {s d : TypeId} {x x' v : Value} (h : aConvert P s d x = some v) (hx : VRel m x x') : ∃ v', (∀ W, (convert s d x').run P W = .ok v' W) ∧ VRel m v v' := by
  unfold aConvert at h
  split at h
  · rename_i u1 k k' n hs hd
    cases hx; simp only [Option.some.injEq] at h; subst h
    refine ⟨_, fun W => ?_, .int _ _⟩
    simp [convert, Sem.run_bind, run_underlying hs, run_underlying hd, Result.andThen, Conv.intToInt]
  · rename_i u1 b hs hd
    cases hx; simp only [Option.some.injEq] at h; subst h
    refine ⟨_, fun W => ?_, .string _⟩
    simp [convert, Sem.run_bind, run_underlying hs, run_underlying hd, Result.andThen]
  · cases h

theorem sim_len {t : TypeId} {x x' v : Value} {tys : Array TypeId} (ht : tys[0]? = some t) (h : aLen P t x = some v) (hx : VRel m x x') (ty : TypeId) : ∃ v', (∀ W, (Builtin.len_ tys ty #[x']).run P W = .ok v' W) ∧ VRel m v v' := by
  unfold aLen at h
  split at h
  · rename_i s hu
    cases hx; simp only [Option.some.injEq] at h; subst h
    refine ⟨_, fun W => ?_, .int _ _⟩
    simp [Builtin.len_, ht, Sem.run_bind, run_underlying hu, Result.andThen, goInt]
  · rename_i e a n c hu
    simp only [Option.some.injEq] at h; subst h
    cases hx with
    | nils => exact ⟨_, fun W => by simp [Builtin.len_, ht, Sem.run_bind, run_underlying hu, Result.andThen, goInt], .int _ _⟩
    | slice => exact ⟨_, fun W => by simp [Builtin.len_, ht, Sem.run_bind, run_underlying hu, Result.andThen, goInt], .int _ _⟩
    | dead => exact ⟨_, fun W => by simp [Builtin.len_, ht, Sem.run_bind, run_underlying hu, Result.andThen, goInt], .int _ _⟩
  · rename_i n e hu
    simp only [Option.some.injEq] at h; subst h
    refine ⟨_, fun W => ?_, .int _ _⟩
    simp [Builtin.len_, ht, Sem.run_bind, run_underlying hu, Result.andThen, goInt]
  · cases h

theorem sim_sliceBound {x : Value} {y : Nat} {code : BoundsCode} {k : IntKind} {i : Int} (hx : x = .int k i) (h : 0 ≤ i ∧ i ≤ y) {W : World} :
    (Instr.sliceBound x y code).run P W = .ok i.toNat W := by
  subst hx
  simp [Instr.sliceBound, asIntOf, h]

theorem VRel.opt_int {a a' : Option Value} (h : (a = none ∧ a' = none) ∨ ∃ v v', a = some v ∧ a' = some v' ∧ VRel m v v') :
    (∀ k i, a = some (.int k i) → a' = some (.int k i)) ∧ (a = none → a' = none) := by
  rcases h with ⟨rfl, rfl⟩ | ⟨v, v', rfl, rfl, hr⟩
  · exact ⟨fun _ _ e => (by cases e), fun _ => rfl⟩
  · refine ⟨fun k i e => ?_, fun e => (by cases e)⟩
    simp at e
    subst e
    cases hr
    rfl

/-- Bounds without a third index: at whatever capacity at least as great (isSlice or not). -/
theorem sim_bounds {len cap cap' : Nat} {lo hi lo' hi' : Option Value} {l h : Nat} (isS : Bool) (e : aBounds len cap lo hi = some (l, h))
    (h1 : (∀ k i, lo = some (.int k i) → lo' = some (.int k i)) ∧ (lo = none → lo' = none)) (h2 : (∀ k i, hi = some (.int k i) → hi' = some (.int k i)) ∧ (hi = none → hi' = none))
    (hc : cap ≤ cap') {W : World} : (Instr.sliceBounds isS len cap' lo' hi' none).run P W = .ok (l, h, cap') W ∧ l ≤ h ∧ (hi = none → h = len) ∧ (hi ≠ none → h ≤ cap) := by
  unfold aBounds at e
  cases hi with
  | none =>
    rw [h2.2 rfl]
    simp only at e
    cases lo with
    | none =>
      rw [h1.2 rfl]
      simp only [Option.some.injEq, Prod.mk.injEq] at e
      obtain ⟨rfl, rfl⟩ := e
      exact ⟨by simp [Instr.sliceBounds], Nat.zero_le _, fun _ => rfl, fun e => absurd rfl e⟩
    | some v =>
      cases v with
      | int k i =>
        rw [h1.1 k i rfl]
        simp only at e
        split at e
        · rename_i hi1
          simp only [Option.some.injEq, Prod.mk.injEq] at e
          obtain ⟨rfl, rfl⟩ := e
          refine ⟨?_, by omega, fun _ => rfl, fun e => absurd rfl e⟩
          simp [Instr.sliceBounds, Result.andThen, sim_sliceBound rfl hi1]
        · cases e
      | _ => simp at e
  | some u =>
    cases u with
    | int k2 i2 =>
      rw [h2.1 k2 i2 rfl]
      simp only at e
      split at e
      · cases e
      · rename_i hh hq
        split at hq
        · rename_i hi2
          simp only [Option.some.injEq] at hq
          subst hq
          have hi2' : 0 ≤ i2 ∧ i2 ≤ (cap' : Int) := ⟨hi2.1, by omega⟩
          cases lo with
          | none =>
            rw [h1.2 rfl]
            simp only [Option.some.injEq, Prod.mk.injEq] at e
            obtain ⟨rfl, rfl⟩ := e
            refine ⟨?_, Nat.zero_le _, fun e => (by cases e), fun _ => by omega⟩
            simp [Instr.sliceBounds, Result.andThen, sim_sliceBound rfl hi2']
          | some v =>
            cases v with
            | int k i =>
              rw [h1.1 k i rfl]
              simp only at e
              split at e
              · rename_i hi1
                simp only [Option.some.injEq, Prod.mk.injEq] at e
                obtain ⟨rfl, rfl⟩ := e
                refine ⟨?_, by omega, fun e => (by cases e), fun _ => by omega⟩
                simp [Instr.sliceBounds, Result.andThen, sim_sliceBound rfl hi2', sim_sliceBound rfl hi1]
              · cases e
            | _ => simp at e
        · cases hq
    | _ => simp at e

theorem sim_typeAssert {x x' v : Value} {xt asserted : TypeId} {ok : Bool} (h : aTypeAssert P x asserted ok = some v) (hx : VRel m x x') :
    ∃ v', (∀ W, (Instr.typeAssert x' xt asserted ok).run P W = .ok v' W) ∧ VRel m v v' := by
  have hh : ∀ {u u' w : Value}, VRel m u u' → (some (if ok then Value.tuple #[u, .bool true] else u) = some w) →
      ∃ w', (if ok then Value.tuple #[u', .bool true] else u') = w' ∧ VRel m w w' := by
    intro u u' w hu he
    simp only [Option.some.injEq] at he
    subst he
    refine ⟨_, rfl, ?_⟩
    cases ok
    · exact hu
    · exact VRel.ofTuple (LRel.cons hu (LRel.cons (.bool true) (LRel.nil m)))
  have hf : ∀ {w : Value}, (if ok then (match tzero P asserted with | some z => if flat z then some (Value.tuple #[z, .bool false]) else none | none => none) else none) = some w →
      ok = true ∧ ∃ z, tzero P asserted = some z ∧ w = Value.tuple #[z, .bool false] ∧ VRel m w w := by
    intro w he
    cases ok
    · simp at he
    · simp only [if_true] at he
      split at he
      · rename_i z hz
        split at he
        · rename_i hfl
          simp only [Option.some.injEq] at he
          subst he
          exact ⟨rfl, z, hz, rfl, VRel.ofTuple (LRel.cons (VRel.flat hfl) (LRel.cons (.bool false) (LRel.nil m)))⟩
        · cases he
      · cases he
  unfold aTypeAssert at h
  simp only at h
  split at h
  · rename_i want hu
    obtain ⟨rfl, z, hz, rfl, hr⟩ := hf h
    cases hx
    exact ⟨_, fun W => by simp [Instr.typeAssert, Sem.run_bind, run_underlying hu, Result.andThen, run_zeroValue hz], hr⟩
  · rename_i want t u hu
    cases hx with
    | iface t hu' =>
      split at h
      · rename_i i hi
        split at h
        · rename_i hm
          obtain ⟨w', he, hr⟩ := hh (VRel.iface t hu') h
          refine ⟨w', fun W => ?_, hr⟩
          rw [← he]
          simp [Instr.typeAssert, Sem.run_bind, run_underlying hu, Result.andThen, run_typeInfo hi, hm]
        · rename_i s hm
          obtain ⟨rfl, z, hz, rfl, hr⟩ := hf h
          exact ⟨_, fun W => by simp [Instr.typeAssert, Sem.run_bind, run_underlying hu, Result.andThen, run_typeInfo hi, hm, run_zeroValue hz], hr⟩
      · cases h
  · rename_i d hd hu
    obtain ⟨rfl, z, hz, rfl, hr⟩ := hf h
    cases hx
    refine ⟨_, fun W => ?_, hr⟩
    cases d with
    | interface ms => exact absurd rfl (hd ms)
    | _ => simp [Instr.typeAssert, Sem.run_bind, run_underlying hu, Result.andThen, run_zeroValue hz]
  · rename_i d t u hd hu
    cases hx with
    | iface t hu' =>
      split at h
      · rename_i e
        subst e
        obtain ⟨w', he, hr⟩ := hh hu' h
        refine ⟨w', fun W => ?_, hr⟩
        rw [← he]
        cases d with
        | interface ms => exact absurd rfl (hd ms)
        | _ => simp [Instr.typeAssert, Sem.run_bind, run_underlying hu, Result.andThen]
      · rename_i e
        obtain ⟨rfl, z, hz, rfl, hr⟩ := hf h
        refine ⟨_, fun W => ?_, hr⟩
        cases d with
        | interface ms => exact absurd rfl (hd ms)
        | _ => simp [Instr.typeAssert, Sem.run_bind, run_underlying hu, Result.andThen, run_zeroValue hz, e]
  · cases h
end
end Go.Sh
