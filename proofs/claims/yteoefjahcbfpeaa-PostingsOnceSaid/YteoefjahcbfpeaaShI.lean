/- Shadow, part 9: sim_pure: whatever operation that looks at no memory. -/
import Derived.Test.YteoefjahcbfpeaaShH
namespace Go.Sh
open Go

section
variable {P : Program} {m : Map}

theorem lrel_one {x : Value} {l : List Value} (h : LRel m [x] l) : ∃ x', l = [x'] ∧ VRel m x x' := by
  have hlen := h.1
  cases l with
  | nil => simp at hlen
  | cons a l =>
    simp at hlen
    subst hlen
    exact ⟨a, rfl, h.2 0 x a rfl rfl⟩

theorem lrel_two {x y : Value} {l : List Value} (h : LRel m [x, y] l) : ∃ x' y', l = [x', y'] ∧ VRel m x x' ∧ VRel m y y' := by
  have hlen := h.1
  cases l with
  | nil => simp at hlen
  | cons a l =>
    cases l with
    | nil => simp at hlen
    | cons b l =>
      simp at hlen
      subst hlen
      exact ⟨a, b, rfl, h.2 0 x a rfl rfl, h.2 1 y b rfl rfl⟩

theorem sim_optMap {ρ ρ' : Operand → Value} {x : Option Operand} (h : ∀ y ∈ x.toArray.toList, VRel m (ρ y) (ρ' y)) :
    (x.map ρ = none ∧ x.map ρ' = none) ∨ ∃ v v', x.map ρ = some v ∧ x.map ρ' = some v' ∧ VRel m v v' := by
  cases x with
  | none => exact .inl ⟨rfl, rfl⟩
  | some y => exact .inr ⟨_, _, rfl, rfl, h y (by simp)⟩

theorem sim_pure {o : Oper} {ρ ρ' : Operand → Value} {v : Value} (h : aPure P o.op ρ = some v) (hr : Rels m ρ ρ' o.op) :
    ∃ v', (∀ W, (execOp ρ' o).run P W = .ok (.value v') W) ∧ VRel m v v' := by
  obtain ⟨dst, op, ty, pos, after, guard⟩ := o
  simp only at h hr
  cases op with
  | move x =>
    simp only [aPure, Option.some.injEq] at h
    subst h
    exact ⟨ρ' x, fun W => rfl, hr x (by simp [Op.operands])⟩
  | assign x =>
    simp only [aPure, Option.some.injEq] at h
    subst h
    exact ⟨ρ' x, fun W => rfl, hr x (by simp [Op.operands])⟩
  | pick c a b =>
    simp only [aPure] at h
    have h1 := hr c (by simp [Op.operands])
    split at h
    · rename_i t hc
      rw [hc] at h1
      simp only [Option.some.injEq] at h
      subst h
      generalize hc' : ρ' c = c' at h1
      cases h1
      refine ⟨if t then ρ' a else ρ' b, fun W => ?_, ?_⟩
      · simp [execOp, hc', asBool]
      · cases t
        · exact hr b (by simp [Op.operands])
        · exact hr a (by simp [Op.operands])
    · cases h
  | build t parts =>
    simp only [aPure] at h
    obtain ⟨h1, h2⟩ := sim_parts (ρ := ρ) (ρ' := ρ') (m := m) (parts := parts) (fun x hx => hr x (by simpa [Op.operands] using hx))
    obtain ⟨v', hv, hrel⟩ := sim_build h h1 h2
    refine ⟨v', fun W => ?_, hrel⟩
    simp only [execOp]
    rw [parts_toArray]
    exact run_v (hv W)
  | nilCheck x =>
    simp only [aPure] at h
    have h1 := hr x (by simp [Op.operands])
    split at h
    · rename_i a ha
      rw [ha] at h1
      simp only [Option.some.injEq] at h; subst h
      generalize hx' : ρ' x = x' at h1
      cases h1 with
      | ptr hb => exact ⟨_, fun W => by simp [execOp, hx'], .ptr hb⟩
    · rename_i f fs cs ha
      rw [ha] at h1
      simp only [Option.some.injEq] at h; subst h
      generalize hx' : ρ' x = x' at h1
      cases h1 with
      | func hf hn hs hn' hs' =>
        cases hf
        exact ⟨_, fun W => by simp [execOp, hx'], .func (.func f) hn hs hn' hs'⟩
    · rename_i t u ha
      rw [ha] at h1
      simp only [Option.some.injEq] at h; subst h
      generalize hx' : ρ' x = x' at h1
      cases h1 with
      | iface t hu => exact ⟨_, fun W => by simp [execOp, hx'], .iface t hu⟩
    · cases h
  | binOp op t x y yt =>
    simp only [aPure] at h
    have hx := hr x (by simp [Op.operands])
    have hy := hr y (by simp [Op.operands])
    obtain ⟨v', hv, hrel⟩ := sim_bin hx hy h
    exact ⟨v', fun W => run_v (hv W), hrel⟩
  | unOp op t x =>
    simp only [aPure] at h
    obtain ⟨v', hv, hrel⟩ := sim_un h (hr x (by simp [Op.operands]))
    exact ⟨v', fun W => run_v (hv W), hrel⟩
  | convert s d x =>
    simp only [aPure] at h
    obtain ⟨v', hv, hrel⟩ := sim_convert h (hr x (by simp [Op.operands]))
    exact ⟨v', fun W => run_v (hv W), hrel⟩
  | makeInterface t x =>
    simp only [aPure] at h
    split at h
    · cases h
    · rename_i d hd hu
      simp only [Option.some.injEq] at h; subst h
      refine ⟨.iface t (ρ' x), fun W => ?_, .iface t (hr x (by simp [Op.operands]))⟩
      refine run_v ?_
      cases d with
      | interface ms => exact absurd rfl (hd ms)
      | _ => simp [Instr.makeInterface, Sem.run_bind, run_underlying hu, Result.andThen]
    · cases h
  | makeFunc fn first captured =>
    cases fn with
    | func f =>
      simp only [aPure, Option.some.injEq] at h; subst h
      have h1 : ARel m (first.map ρ) (first.map ρ') := ARel.map fun x hx => hr x (by simp [Op.operands]; exact .inl (by simpa using hx))
      have h2 : ARel m (captured.map ρ) (captured.map ρ') := ARel.map fun x hx => hr x (by simp [Op.operands]; exact .inr (by simpa using hx))
      exact ⟨_, fun W => rfl, .func (.func f) h1.size h1.at h2.size h2.at⟩
    | _ => simp [aPure] at h
  | fieldAddr s x f =>
    simp only [aPure] at h
    have h1 := hr x (by simp [Op.operands])
    split at h
    · rename_i fields b o hu hx
      rw [hx] at h1
      split at h
      · rename_i fd hf
        split at h
        · rename_i sz hs
          simp only [Option.some.injEq] at h; subst h
          generalize hx' : ρ' x = x' at h1
          cases h1 with
          | ptr hb =>
            refine ⟨_, fun W => run_v ?_, by simpa [Nat.add_assoc] using VRel.ptr (o := o + fd.offset) hb⟩
            simp [hx', Instr.fieldAt, Sem.run_bind, run_underlying hu, Result.andThen, hf, Instr.sureAddr, fieldPlace, run_sizeOf hs, add_none, Nat.add_assoc]
        · cases h
      · cases h
    · cases h
  | field t x f =>
    simp only [aPure] at h
    have h1 := hr x (by simp [Op.operands])
    split at h
    · rename_i fields cs hu hx
      rw [hx] at h1
      split at h
      · rename_i fd hf
        obtain ⟨cs', hx', hrel⟩ := h1.toAgg
        obtain ⟨v', hv, hr'⟩ := sim_part h hrel
        refine ⟨v', fun W => run_v ?_, hr'⟩
        simp [hx', Instr.field, Sem.run_bind, run_underlying hu, Result.andThen, hf, asAgg, hv]
      · cases h
    · cases h
  | indexAddr t x ix =>
    simp only [aPure] at h
    have h1 := hr x (by simp [Op.operands])
    have h2 := hr ix (by simp [Op.operands])
    split at h
    · rename_i el b o len cap k i hu hx hi
      rw [hx] at h1
      rw [hi] at h2
      generalize hx' : ρ' x = x' at h1
      generalize hi' : ρ' ix = i' at h2
      cases h2
      split at h
      · rename_i s hs
        split at h
        · rename_i hlt
          simp only [Option.some.injEq] at h; subst h
          cases h1 with
          | slice hb hc =>
            refine ⟨_, fun W => run_v ?_, by simpa [Nat.add_assoc] using VRel.ptr (o := o + i.toNat * s) hb⟩
            simp [hx', hi', Instr.indexAt, asIntOf, Sem.run_bind, run_underlying hu, Result.andThen, hlt, run_sizeOf hs, add_none, Nat.add_assoc]
        · cases h
      · cases h
    · rename_i len el b o k i hu hx hi
      rw [hx] at h1
      rw [hi] at h2
      generalize hx' : ρ' x = x' at h1
      generalize hi' : ρ' ix = i' at h2
      cases h2
      split at h
      · rename_i s hs
        split at h
        · rename_i hlt
          simp only [Option.some.injEq] at h; subst h
          cases h1 with
          | ptr hb =>
            refine ⟨_, fun W => run_v ?_, by simpa [Nat.add_assoc] using VRel.ptr (o := o + i.toNat * s) hb⟩
            simp [hx', hi', Instr.indexAt, asIntOf, Sem.run_bind, run_underlying hu, Result.andThen, hlt, run_sizeOf hs, add_none, Instr.sureAddr, Nat.add_assoc]
        · cases h
      · cases h
    · cases h
  | index t x ix =>
    simp only [aPure] at h
    have h1 := hr x (by simp [Op.operands])
    have h2 := hr ix (by simp [Op.operands])
    split at h
    · rename_i s k i hu hx hi
      rw [hx] at h1
      rw [hi] at h2
      generalize hx' : ρ' x = x' at h1
      generalize hi' : ρ' ix = i' at h2
      cases h1; cases h2
      split at h
      · rename_i hlt
        split at h
        · rename_i c hc
          simp only [Option.some.injEq] at h; subst h
          refine ⟨_, fun W => run_v ?_, .int _ _⟩
          simp [hx', hi', Instr.index, asIntOf, Sem.run_bind, run_underlying hu, Result.andThen, hlt, hc]
        · cases h
      · cases h
    · rename_i len el cs k i hu hx hi
      rw [hx] at h1
      rw [hi] at h2
      obtain ⟨cs', hx', hrel⟩ := h1.toAgg
      generalize hi' : ρ' ix = i' at h2
      cases h2
      split at h
      · rename_i s hs
        split at h
        · rename_i hlt
          obtain ⟨v', hv, hr'⟩ := sim_part h hrel
          refine ⟨v', fun W => run_v ?_, hr'⟩
          simp [hx', hi', Instr.index, asIntOf, Sem.run_bind, run_underlying hu, Result.andThen, hlt, run_sizeOf hs, hv]
        · cases h
      · cases h
    · cases h
  | slice t x lo hi mx =>
    cases mx with
    | some y => simp [aPure] at h
    | none =>
      simp only [aPure] at h
      have h1 := hr x (by simp [Op.operands])
      have hlo := sim_optMap (m := m) (ρ := ρ) (ρ' := ρ') (x := lo) fun y hy => hr y (by simp [Op.operands] at hy ⊢; exact .inr (.inl hy))
      have hhi := sim_optMap (m := m) (ρ := ρ) (ρ' := ρ') (x := hi) fun y hy => hr y (by simp [Op.operands] at hy ⊢; exact .inr (.inr hy))
      split at h
      · rename_i s hu hx
        rw [hx] at h1
        generalize hx' : ρ' x = x' at h1
        cases h1
        split at h
        · rename_i l hh hb
          simp only [Option.some.injEq] at h; subst h
          refine ⟨_, fun W => run_v ?_, .string _⟩
          obtain ⟨hrun, _⟩ := sim_bounds (W := W) (P := P) false hb (VRel.opt_int hlo) (VRel.opt_int hhi) (Nat.le_refl _)
          simp [hx', Instr.sliceAt, Instr.slice, Sem.run_bind, run_underlying hu, Result.andThen, hrun]
        · cases h
      · cases h
  | typeAssert x xt asserted ok =>
    simp only [aPure] at h
    obtain ⟨v', hv, hrel⟩ := sim_typeAssert (xt := xt) h (hr x (by simp [Op.operands]))
    exact ⟨v', fun W => run_v (hv W), hrel⟩
  | extract t i =>
    simp only [aPure] at h
    have h1 := hr t (by simp [Op.operands])
    split at h
    · rename_i vs hx
      rw [hx] at h1
      obtain ⟨vs', hx', hrel⟩ := h1.toTuple
      obtain ⟨v', hv, hr'⟩ := hrel.get h
      refine ⟨v', fun W => run_v ?_, hr'⟩
      simp [hx', Instr.extract, hv]
    · cases h
  | call c =>
    obtain ⟨callee, args, tys⟩ := c
    cases callee with
    | value f => simp [aPure] at h
    | invoke r n => simp [aPure] at h
    | builtin b =>
      simp only [aPure] at h
      have hl : ARel m (args.map ρ) (args.map ρ') := ARel.map fun x hx => hr x (by simpa [Op.operands, Call.operands] using hx)
      have hex : ∀ W, (execOp ρ' { dst := dst, op := .call ⟨.builtin b, args, tys⟩, type := ty, pos := pos, after := after, guard := guard }).run P W =
          (builtin b tys ty (args.map fun | .const _ => true | _ => false) (args.map ρ')).run P W := by
        intro W
        simp only [execOp, resolve, Sem.run_bind, Sem.run_pure, Result.andThen, invoke]
        rfl
      unfold aPureCall at h
      split at h
      · rename_i x hxs
        split at h
        · rename_i t ht
          have hl' : LRel m [x] (args.map ρ').toList := by
            have : (args.map ρ).toList = [x] := by simpa using hxs
            rw [← this]; exact hl
          obtain ⟨x', he, hx⟩ := lrel_one hl'
          obtain ⟨v', hv, hrel⟩ := sim_len ht h hx ty
          refine ⟨v', fun W => ?_, hrel⟩
          have he' : args.map ρ' = #[x'] := by apply Array.ext'; simpa using he
          rw [hex, he']
          exact run_v (hv W)
        · cases h
      · rename_i l c hxs
        simp only [Option.some.injEq] at h; subst h
        have hl' : LRel m [.slice none l c] (args.map ρ').toList := by
          have : (args.map ρ).toList = [.slice none l c] := by simpa using hxs
          rw [← this]; exact hl
        obtain ⟨x', he, hx⟩ := lrel_one hl'
        have he' : args.map ρ' = #[x'] := by apply Array.ext'; simpa using he
        cases hx
        refine ⟨.pointer none, fun W => ?_, .nilp⟩
        rw [hex, he']
        exact run_v rfl
      · rename_i a l c hxs
        simp only [Option.some.injEq] at h; subst h
        have hl' : LRel m [.slice (some a) l (c + 1)] (args.map ρ').toList := by
          have : (args.map ρ).toList = [.slice (some a) l (c + 1)] := by simpa using hxs
          rw [← this]; exact hl
        obtain ⟨x', he, hx⟩ := lrel_one hl'
        have he' : args.map ρ' = #[x'] := by apply Array.ext'; simpa using he
        cases hx with
        | slice hb hc =>
          rename_i cap' en
          have hc0 : cap' ≠ 0 := by omega
          refine ⟨_, fun W => ?_, .ptr hb⟩
          rw [hex, he']
          refine run_v ?_
          have e : ∀ a : Addr, Builtin.unsafeSliceData_ tys ty #[.slice (some a) l cap'] = if cap' ≠ 0 then pure (.pointer (some a)) else (do
              if (← viewAt a.block).isSome then pure (.pointer (some a)) else pure (.pointer (some ⟨← newObj (.view a (← elemOf ty)), 0, none⟩))) := fun _ => rfl
          rw [e, if_pos hc0]
          rfl
      · cases h
  | _ => simp [aPure] at h
end
end Go.Sh
