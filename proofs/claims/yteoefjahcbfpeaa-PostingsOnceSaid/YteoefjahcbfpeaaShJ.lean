/- Shadow, part 10: operations that read memory. -/
import Derived.Test.YteoefjahcbfpeaaShI
import Derived.Laws.BytesArg
namespace Go.Sh
open Go

def tbytes (P : Program) (t : TypeId) : Option Nat := (P.info? t).map (·.bytes)

def aLoadVar (P : Program) (A : AHeap) (t : TypeId) (x : Value) : Option Value :=
  match P.underlying t, x with
  | some d, .pointer (some ⟨b, o, none⟩) =>
    if isAggD d then
      match tsize P t with
      | some s => (acells A b o s).map fun xs => .agg xs.toArray
      | none => none
    else
      match arow A b with
      | some r => r.cells[o]?
      | none => none
  | _, _ => none

/-- A slice of a slice, or of an array behind a pointer. -/
def aSlice (P : Program) (A : AHeap) (t : TypeId) (x : Value) (lo hi mx : Option Value) : Option Value :=
  match P.underlying t, x with
  | some (.slice el), .slice none len cap =>
    match mx, tsize P el, aBounds len cap lo hi with
    | none, some _, some (l, h) => some (.slice none (h - l) (cap - l))
    | _, _, _ => none
  | some (.slice el), .slice (some ⟨b, o, none⟩) len cap =>
    match mx, tsize P el, arow A b, aBounds len cap lo hi with
    | none, some s, some r, some (l, h) =>
      if l = 0 then some (.slice (some ⟨b, o, none⟩) h cap)
      else if l < cap ∧ (r.x = true ∨ tsize P r.elem = some s) then some (.slice (some ⟨b, o + l * s, none⟩) (h - l) (cap - l))
      else none
    | _, _, _, _ => none
  | some (.array n el), .pointer (some ⟨b, o, none⟩) =>
    match mx, tsize P el with
    | none, some s =>
      match aBounds n n lo hi with
      | some (l, h) => some (.slice (some ⟨b, if n = l then o else o + l * s, none⟩) (h - l) (n - l))
      | none => none
    | some (.int _ i), some s =>
      if 0 ≤ i ∧ i ≤ n then
        match hi, aBounds n i.toNat lo hi with
        | some _, some (l, h) => some (.slice (some ⟨b, if i.toNat = l then o else o + l * s, none⟩) (h - l) (i.toNat - l))
        | _, _ => none
      else none
    | _, _ => none
  | _, _ => none

def aBytes : List Value → Option (List UInt8)
  | [] => some []
  | .int .u8 n :: vs => (aBytes vs).map (UInt8.ofNat n.toNat :: ·)
  | _ :: _ => none

def aBytesToString (A : AHeap) (x : Value) : Option Value :=
  match x with
  | .slice none _ _ => some (.string .empty)
  | .slice (some ⟨b, o, none⟩) len _ =>
    match acells A b o len with
    | some xs => (aBytes xs).map fun l => .string ⟨l.toArray⟩
    | none => none
  | _ => none

/-- pointer to unsafe.Pointer and back, at a variable of its own. -/
def aUnsafe (P : Program) (A : AHeap) (src dst : TypeId) (x : Value) : Option Value :=
  match P.underlying src, P.underlying dst, x with
  | some (.pointer t), some .unsafePointer, .pointer (some ⟨b, o, none⟩) =>
    match arow A b, tsize P t with
    | some r, some (_ + 1) => if o < r.cells.length then some (.pointer (some ⟨b, o, none⟩)) else none
    | _, _ => none
  | some .unsafePointer, some (.pointer u), .pointer (some ⟨b, 0, none⟩) =>
    match arow A b, tsize P u with
    | some r, some (s + 1) => if r.x = true ∧ r.elem = u ∧ r.cells.length = s + 1 then some (.pointer (some ⟨b, 0, none⟩)) else none
    | _, _ => none
  | _, _, _ => none

/-- An operation that reads memory, and turns none. -/
def aRead (P : Program) (A : AHeap) (o : Op) (ρ : Operand → Value) : Option Value :=
  match o with
  | .load t a => aLoadVar P A t (ρ a)
  | .slice t x lo hi mx => aSlice P A t (ρ x) (lo.map ρ) (hi.map ρ) (mx.map ρ)
  | .convert s d x =>
    match P.underlying s, P.underlying d with
    | some (.slice e), some .string => if P.underlying e matches some (.int .u8) then aBytesToString A (ρ x) else none
    | _, _ => aUnsafe P A s d (ρ x)
  | _ => none

section
variable {P : Program} {m : Map} {A : AHeap} {W : World}

theorem sim_loadVar {t : TypeId} {x x' v : Value} (h : aLoadVar P A t x = some v) (hS : Sim P m A W) (hx : VRel m x x') :
    ∃ v', (Instr.loadAt t x').run P W = .ok v' W ∧ VRel m v v' := by
  unfold aLoadVar at h
  split at h
  · rename_i d b o hu
    cases hx with
    | ptr hb =>
      split at h
      · rename_i hag
        split at h
        · rename_i s hs
          simp only [Option.map_eq_some_iff] at h
          obtain ⟨xs, hxs, rfl⟩ := h
          obtain ⟨ys, hy, hrel⟩ := hS.loadCells hb hxs
          refine ⟨.agg ys.toArray, ?_, VRel.ofAgg (by simpa [ARel] using hrel)⟩
          simp [Instr.loadAt, Instr.sureAddr, loadVar, Sem.run_bind, run_isAgg hu, hag, run_sizeOf hs, Result.andThen, hy]
        · cases h
      · rename_i hag
        split at h
        · rename_i r hr
          obtain ⟨v', hv, hrel⟩ := hS.load hb hr h
          refine ⟨v', ?_, hrel⟩
          simp [Instr.loadAt, Instr.sureAddr, loadVar, Sem.run_bind, run_isAgg hu, hag, Result.andThen, run_load hv]
        · cases h
  · cases h

theorem VRel.add {b o l : Nat} {en : Ent} (h : m b = some en) (c : Bool) :
    VRel m (.pointer (some ⟨b, if c then o else o + l, none⟩)) (.pointer (some ⟨en.c, if c then en.d + o else en.d + o + l, none⟩)) := by
  cases c
  · simpa [Nat.add_assoc] using VRel.ptr (o := o + l) h
  · exact VRel.ptr h

theorem sim_bounds3 {len cap : Nat} {lo lo' : Option Value} {u : Value} {hi' : Option Value} {l h : Nat} (isS : Bool) {k : IntKind} {i : Int} {n : Nat}
    (e : aBounds n i.toNat lo (some u) = some (l, h))
    (h1 : (∀ k i, lo = some (.int k i) → lo' = some (.int k i)) ∧ (lo = none → lo' = none)) (h2 : (∀ k i, some u = some (.int k i) → hi' = some (.int k i)) ∧ (some u = none → hi' = none))
    (hc : 0 ≤ i ∧ i ≤ (cap : Int)) {W : World} : (Instr.sliceBounds isS len cap lo' hi' (some (.int k i))).run P W = .ok (l, h, i.toNat) W := by
  unfold aBounds at e
  cases u with
  | int k2 i2 =>
    rw [h2.1 k2 i2 rfl]
    simp only at e
    split at e
    · cases e
    · rename_i hh hq
      split at hq
      · rename_i hi2
        simp only [Option.some.injEq] at hq
        subst hq
        cases lo with
        | none =>
          rw [h1.2 rfl]
          simp only [Option.some.injEq, Prod.mk.injEq] at e
          obtain ⟨rfl, rfl⟩ := e
          simp [Instr.sliceBounds, Sem.run_bind, Result.andThen, sim_sliceBound rfl hi2, sim_sliceBound rfl hc]
        | some v =>
          cases v with
          | int k i =>
            rw [h1.1 k i rfl]
            simp only at e
            split at e
            · rename_i hi1
              simp only [Option.some.injEq, Prod.mk.injEq] at e
              obtain ⟨rfl, rfl⟩ := e
              simp [Instr.sliceBounds, Sem.run_bind, Result.andThen, sim_sliceBound rfl hi2, sim_sliceBound rfl hi1, sim_sliceBound rfl hc]
            · cases e
          | _ => simp at e
      · cases hq
  | _ => simp at e

theorem sim_slice {t : TypeId} {x x' v : Value} {lo hi mx lo' hi' mx' : Option Value} (h : aSlice P A t x lo hi mx = some v) (hS : Sim P m A W) (hx : VRel m x x')
    (hlo : (lo = none ∧ lo' = none) ∨ ∃ v v', lo = some v ∧ lo' = some v' ∧ VRel m v v') (hhi : (hi = none ∧ hi' = none) ∨ ∃ v v', hi = some v ∧ hi' = some v' ∧ VRel m v v')
    (hmx : (mx = none ∧ mx' = none) ∨ ∃ v v', mx = some v ∧ mx' = some v' ∧ VRel m v v') :
    ∃ v', (Instr.sliceAt t x' lo' hi' mx').run P W = .ok v' W ∧ VRel m v v' := by
  have hlo := VRel.opt_int hlo
  have hhi' := VRel.opt_int hhi
  have hmx' := VRel.opt_int hmx
  unfold aSlice at h
  split at h
  · rename_i el len cap hu
    split at h
    · rename_i s l hh hs hb
      rw [hmx'.2 rfl]
      simp only [Option.some.injEq] at h; subst h
      cases hx
      obtain ⟨hrun, hlh, hn, hc⟩ := sim_bounds (W := W) (P := P) true hb hlo hhi' (Nat.le_refl _)
      refine ⟨.slice none (hh - l) (cap - l), ?_, .nils _ _⟩
      simp [Instr.sliceAt, Instr.slice, Sem.run_bind, run_underlying hu, Result.andThen, hrun, run_sizeOf hs]
    · cases h
  · rename_i el b o len cap hu
    split at h
    · rename_i s r l hh hs hr hb
      rw [hmx'.2 rfl]
      cases hx with
      | slice hm hc =>
        rename_i cap' en
        have hle : cap ≤ cap' := by rcases hc with e | ⟨_, _, _, e, _⟩ <;> omega
        obtain ⟨hrun, hlh, _, _⟩ := sim_bounds (W := W) (P := P) true hb hlo hhi' hle
        have hrun2 : (Instr.sliceAt t (.slice (some ⟨en.c, en.d + o, none⟩) len cap') lo' hi' none).run P W =
            .ok (.slice (if cap' = l then some ⟨en.c, en.d + o, none⟩ else some ⟨en.c, en.d + o + l * s, none⟩) (hh - l) (cap' - l)) W := by
          simp [Instr.sliceAt, Instr.slice, Sem.run_bind, run_underlying hu, Result.andThen, hrun, run_sizeOf hs, add_none]
        split at h
        · rename_i h0
          simp only [Option.some.injEq] at h; subst h
          subst h0
          refine ⟨_, hrun2, ?_⟩
          simpa using VRel.slice (len := hh) hm hc
        · rename_i h0
          split at h
          · rename_i h1
            simp only [Option.some.injEq] at h; subst h
            refine ⟨_, hrun2, ?_⟩
            rw [if_neg (by omega)]
            have he : en.d + o + l * s = en.d + (o + l * s) := by omega
            rw [he]
            refine VRel.slice hm ?_
            rcases hc with e | ⟨e1, e2, e3, e4, e5⟩
            · exact .inl (by omega)
            · refine .inr ⟨e1, ?_, e3, by omega, ?_⟩
              all_goals
                obtain ⟨hg, hst⟩ := arow_some hr
                obtain ⟨cs, fr, ⟨te, hW, hte⟩, k⟩ := hS.row b en r hm hg hst
                have hs' : s = en.s := by
                  rcases h1.2 with e | e
                  · rw [k.x, e] at e1; cases e1
                  · have := k.s
                    unfold tsize at e
                    rw [e] at this; simpa using this
                subst hs'
              · rw [Nat.sub_mul]
                have := Nat.mul_le_mul_right en.s (Nat.le_of_lt h1.1)
                omega
              · rw [Nat.sub_mul]
                have := Nat.mul_le_mul_right en.s (Nat.le_trans (Nat.le_of_lt h1.1) hle)
                omega
          · cases h
    · cases h
  · rename_i n el b o hu
    split at h
    · rename_i s hs
      rw [hmx'.2 rfl]
      split at h
      · rename_i l hh hb
        simp only [Option.some.injEq] at h; subst h
        cases hx with
        | ptr hm =>
          rename_i en
          obtain ⟨hrun, hlh, _, _⟩ := sim_bounds (W := W) (P := P) false hb hlo hhi' (Nat.le_refl _)
          refine ⟨.slice (some ⟨en.c, en.d + (if n = l then o else o + l * s), none⟩) (hh - l) (n - l), ?_, .slice hm (.inl rfl)⟩
          by_cases e : n = l
          · subst e
            simp [Instr.sliceAt, Instr.sureAddr, Sem.run_bind, run_underlying hu, Result.andThen, hrun, run_sizeOf hs]
          · simp [Instr.sliceAt, Instr.sureAddr, Sem.run_bind, run_underlying hu, Result.andThen, hrun, run_sizeOf hs, e, add_none, Nat.add_assoc]
      · cases h
    · rename_i k i s hs
      rw [hmx'.1 k i rfl]
      split at h
      · rename_i hin
        split at h
        · rename_i y l hh hb
          simp only [Option.some.injEq] at h; subst h
          cases hx with
          | ptr hm =>
            rename_i en
            have hrun := sim_bounds3 (W := W) (P := P) false (len := n) hb hlo hhi' (k := k) hin
            refine ⟨.slice (some ⟨en.c, en.d + (if i.toNat = l then o else o + l * s), none⟩) (hh - l) (i.toNat - l), ?_, .slice hm (.inl rfl)⟩
            by_cases e : i.toNat = l
            · subst e
              simp [Instr.sliceAt, Instr.sureAddr, Sem.run_bind, run_underlying hu, Result.andThen, hrun, run_sizeOf hs]
            · simp [Instr.sliceAt, Instr.sureAddr, Sem.run_bind, run_underlying hu, Result.andThen, hrun, run_sizeOf hs, e, add_none, Nat.add_assoc]
        · cases h
      · cases h
    · cases h
  · cases h

/-! ### Bytes -/

theorem aBytes_ints : ∀ {xs : List Value} {l : List UInt8}, aBytes xs = some l → ∃ ns : List Int, xs = ns.map (Value.int .u8) ∧ l = ns.map fun n => UInt8.ofNat n.toNat := by
  intro xs
  induction xs with
  | nil => intro l h; simp only [aBytes, Option.some.injEq] at h; subst h; exact ⟨[], rfl, rfl⟩
  | cons v vs ih =>
    intro l h
    cases v with
    | int k n =>
      cases k <;> simp only [aBytes, reduceCtorEq] at h
      simp only [Option.map_eq_some_iff] at h
      obtain ⟨l', hl', rfl⟩ := h
      obtain ⟨ns, rfl, rfl⟩ := ih hl'
      exact ⟨n :: ns, rfl, rfl⟩
    | _ => simp [aBytes] at h

theorem LRel.ints {k : IntKind} : ∀ {ns : List Int} {ys : List Value}, LRel m (ns.map (Value.int k)) ys → ys = ns.map (Value.int k) := by
  intro ns
  induction ns with
  | nil => intro ys h; have := h.1; simp at this; exact List.eq_nil_of_length_eq_zero this.symm
  | cons n ns ih =>
    intro ys hr
    cases ys with
    | nil => have := hr.1; simp at this
    | cons y ys =>
      have h0 : VRel m (.int k n) y := hr.2 0 _ _ rfl rfl
      cases h0
      rw [List.map_cons, ← ih ⟨by have := hr.1; simpa using this, fun i x y hx hy => hr.2 (i + 1) x y (by simpa using hx) (by simpa using hy)⟩]

theorem sim_bytesToString {x x' v : Value} (h : aBytesToString A x = some v) (hS : Sim P m A W) (hx : VRel m x x') :
    ∃ v', (Conv.bytesToString x').run P W = .ok v' W ∧ VRel m v v' := by
  unfold aBytesToString at h
  split at h
  · simp only [Option.some.injEq] at h; subst h
    cases hx
    exact ⟨_, rfl, .string _⟩
  · rename_i b o len cap
    cases hx with
    | slice hb hc =>
      split at h
      · rename_i xs hxs
        simp only [Option.map_eq_some_iff] at h
        obtain ⟨l, hl, rfl⟩ := h
        obtain ⟨ns, rfl, rfl⟩ := aBytes_ints hl
        obtain ⟨ys, hy, hrel⟩ := hS.loadCells hb hxs
        rw [hrel.ints] at hy
        refine ⟨_, ?_, .string _⟩
        rw [run_bytesToString W _ _ _ ns hy, foldl_push_bytes]
        have he0 : ByteArray.empty.data = #[] := rfl
        rw [he0]
        simp
      · cases h
  · cases h

theorem run_shape {c : Nat} {cs : Array Value} {el : TypeId} {fr : Nat × Nat} (h : W.heap[c]? = some (.cells cs el fr)) : (shape c).run P W = .ok (some (el, cs.size)) W := by
  simp [shape, Sem.run, World.shape?, h]

theorem run_viewAt {c : Nat} {cs : Array Value} {el : TypeId} {fr : Nat × Nat} (h : W.heap[c]? = some (.cells cs el fr)) : (viewAt c).run P W = .ok none W := by
  simp [viewAt, Sem.run_bind, run_shape h, Result.andThen]

theorem rowAt_here {fits : TypeId → Bool} {d : Nat} {e : TypeId} {count off n s : Nat} (hs : P.cellsOf e = s) (h0 : 0 < s) (h1 : off % s = 0) (h2 : off / s + n ≤ count) (hf : fits e = true) :
    rowAt P fits (d + 1) e count off n = true := by
  unfold rowAt
  simp [hs, h1, h2, hf]
  omega

theorem liesAt_here {d : Nat} {e : TypeId} {count off n s : Nat} (hs : P.cellsOf e = s) (h0 : 0 < s) (h1 : off % s = 0) (h2 : off / s + n ≤ count) :
    liesAt P (d + 1) e count off e n = true := by
  have hd : P.depth = (2 * (P.types.size + Made.depth) + 1) + 1 := rfl
  unfold liesAt
  rw [hd, rowAt_here hs h0 h1 h2 (by unfold sameLayout; simp)]
  rfl

theorem cellsOf_of {t : TypeId} {s : Nat} (h : tsize P t = some s) : P.cellsOf t = s := by
  unfold tsize at h
  unfold Program.cellsOf
  rw [h]; rfl

theorem run_program : (program).run P W = .ok P W := rfl

theorem run_variablesAt {c o : Nat} {cs : Array Value} {el u : TypeId} {fr : Nat × Nat} {n : Nat} (h : W.heap[c]? = some (.cells cs el fr)) (hl : liesAt P P.depth el (cs.size / P.cellsOf el) o u n = true) :
    (variablesAt ⟨c, o, none⟩ u n).run P W = .ok true W := by
  simp only [variablesAt, Sem.run_bind, run_program, run_shape h, Result.andThen, hl]
  rfl

theorem sim_unsafe {s d : TypeId} {x x' v : Value} (h : aUnsafe P A s d x = some v) (hS : Sim P m A W) (hx : VRel m x x') :
    ∃ v', (convert s d x').run P W = .ok v' W ∧ VRel m v v' := by
  unfold aUnsafe at h
  split at h
  · rename_i t b o hs hd
    cases hx with
    | ptr hb =>
      rename_i en
      split at h
      · rename_i r n hr ht
        split at h
        · rename_i ho
          simp only [Option.some.injEq] at h; subst h
          obtain ⟨hg, hst⟩ := arow_some hr
          obtain ⟨cs, fr, ⟨te, hW, hte⟩, k⟩ := hS.row _ _ _ hb hg hst
          refine ⟨_, ?_, .ptr hb⟩
          have hlen := k.len
          have hfit := k.fit
          have hsz := k.size
          have hnot : ¬ cs.size ≤ en.d + o := by omega
          simp [convert, Sem.run_bind, run_underlying hs, run_underlying hd, Result.andThen, Conv.unsafePointer, Conv.seenAt, run_viewAt hW, cellsIn, run_shape hW, hnot, run_sizeOf ht]
        · cases h
      · cases h
  · rename_i u b hs hd
    cases hx with
    | ptr hb =>
      rename_i en
      split at h
      · rename_i r n hr ht
        split at h
        · rename_i hc
          obtain ⟨h1, h2, h3⟩ := hc
          simp only [Option.some.injEq] at h; subst h
          obtain ⟨hg, hst⟩ := arow_some hr
          obtain ⟨cs, fr, ⟨te, hW, hte⟩, k⟩ := hS.row _ _ _ hb hg hst
          have hlen := k.len
          obtain rfl := hte (.inr h1)
          obtain ⟨hd0, he⟩ := k.xd h1
          have hsz := k.size
          refine ⟨_, ?_, .ptr hb⟩
          have hco := cellsOf_of ht
          have hl : liesAt P P.depth r.elem (cs.size / P.cellsOf r.elem) (en.d + 0) u 1 = true := by
            rw [h2, hco]
            have hd : P.depth = (2 * (P.types.size + Made.depth) + 1) + 1 := rfl
            rw [hd]
            refine liesAt_here hco (by omega) (by simp [hd0]) ?_
            rw [hd0]
            have : cs.size = n + 1 := by omega
            rw [this]
            simp
          simp only [Nat.add_zero] at hl
          have hv := run_variablesAt (P := P) (u := u) (n := 1) hW hl
          simp [convert, Sem.run_bind, run_underlying hs, run_underlying hd, Result.andThen, Conv.unsafePointer, Conv.seenAt, run_viewAt hW, hv, run_sizeOf ht]
        · cases h
      · cases h
  · cases h

theorem aBytes_slice {x v : Value} (h : aBytesToString A x = some v) : ∃ a l c, x = .slice a l c := by
  unfold aBytesToString at h
  split at h
  · exact ⟨_, _, _, rfl⟩
  · exact ⟨_, _, _, rfl⟩
  · cases h

theorem sim_read {o : Oper} {ρ ρ' : Operand → Value} {v : Value} (h : aRead P A o.op ρ = some v) (hS : Sim P m A W) (hr : Rels m ρ ρ' o.op) :
    ∃ v', (execOp ρ' o).run P W = .ok (.value v') W ∧ VRel m v v' := by
  obtain ⟨dst, op, ty, pos, after, guard⟩ := o
  simp only at h hr
  cases op with
  | load t a =>
    simp only [aRead] at h
    obtain ⟨v', hv, hrel⟩ := sim_loadVar h hS (hr a (by simp [Op.operands]))
    exact ⟨v', run_v hv, hrel⟩
  | slice t x lo hi mx =>
    simp only [aRead] at h
    have h1 := hr x (by simp [Op.operands])
    have hlo := sim_optMap (m := m) (ρ := ρ) (ρ' := ρ') (x := lo) fun y hy => hr y (by simp [Op.operands] at hy ⊢; exact .inr (.inl hy))
    have hhi := sim_optMap (m := m) (ρ := ρ) (ρ' := ρ') (x := hi) fun y hy => hr y (by simp [Op.operands] at hy ⊢; exact .inr (.inr (.inl hy)))
    have hmx := sim_optMap (m := m) (ρ := ρ) (ρ' := ρ') (x := mx) fun y hy => hr y (by simp [Op.operands] at hy ⊢; exact .inr (.inr (.inr hy)))
    obtain ⟨v', hv, hrel⟩ := sim_slice h hS h1 hlo hhi hmx
    exact ⟨v', run_v hv, hrel⟩
  | convert s d x =>
    simp only [aRead] at h
    have h1 := hr x (by simp [Op.operands])
    split at h
    · rename_i e hs hd
      split at h
      · rename_i he
        obtain ⟨v', hv, hrel⟩ := sim_bytesToString h hS h1
        refine ⟨v', run_v ?_, hrel⟩
        have he' : P.underlying e = some (.int .u8) := by
          cases hu : P.underlying e with
          | none => rw [hu] at he; simp at he
          | some d =>
            rw [hu] at he
            cases d with
            | int k => cases k <;> first | rfl | simp at he
            | _ => simp at he
        have hsl : ∃ a l c, ρ' x = .slice a l c := by
          obtain ⟨a, l, c, e⟩ := aBytes_slice h
          rw [e] at h1
          generalize ρ' x = y' at h1
          cases h1 <;> exact ⟨_, _, _, rfl⟩
        obtain ⟨a, l, c, hx⟩ := hsl
        rw [hx] at hv ⊢
        rw [run_convert_bytes_string W s d e a l c hs he' hd]
        exact hv
      · cases h
    · obtain ⟨v', hv, hrel⟩ := sim_unsafe h hS h1
      exact ⟨v', run_v hv, hrel⟩
  | _ => simp [aRead] at h
end
end Go.Sh
