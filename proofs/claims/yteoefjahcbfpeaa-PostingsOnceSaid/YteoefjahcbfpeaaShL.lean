/- Shadow, part 12: strings made into bytes and back; the operations that turn memory, all of them. -/
import Derived.Test.YteoefjahcbfpeaaShK
import Derived.Laws.IdiomStrings
import Derived.Lib.UnsafeStr
namespace Go.Sh
open Go

def isU8 : Option TypeDesc → Bool
  | some (.int .u8) => true
  | _ => false

def aStrBytes (P : Program) (A : AHeap) (src dst : TypeId) (x : Value) : Option (Value × AHeap) :=
  match P.underlying src, P.underlying dst, x with
  | some .string, some (.slice e), .string s =>
    if isU8 (P.underlying e) = true ∧ tsize P e = some 1 then
      some (.slice (some ⟨A.next, 0, none⟩) s.size s.size, A.alloc (.row ⟨strCells s, e, false, 3, [], true⟩))
    else none
  | _, _, _ => none

def aUnsafeString (P : Program) (A : AHeap) (tys : List TypeId) (x n : Value) : Option (Value × AHeap) :=
  match tys, x, n with
  | [pt, _], .pointer p, .int .i64 k =>
    if k = 0 then some (.string .empty, A)
    else match p, P.underlying pt with
    | some ⟨b, o, none⟩, some (.pointer e) =>
      match arow A b with
      | some r =>
        if 0 < k ∧ k ≤ 9223372036854775807 ∧ 2 ≤ r.st ∧ r.st ≤ 3 ∧ r.fz = false ∧ r.elem = e ∧ tsize P e = some 1 then
          match acells A b o k.toNat with
          | some xs => (aBytes xs).map fun l => (.string ⟨l.toArray⟩, A.set b (.row { r with st := 2 }))
          | none => none
        else none
      | none => none
    | _, _ => none
  | _, _, _ => none

/-- An operation that makes or turns memory, and is no call. -/
def aEff (P : Program) (A : AHeap) (o : Op) (ρ : Operand → Value) : Option (Value × AHeap) :=
  match o with
  | .alloc el => match tzero P el with
    | some z => if z.cells.toList.all simple then aNew P A el z else none
    | none => none
  | .box el x => aNew P A el (ρ x)
  | .buildSlice t n parts => aBuildSlice P A t n (parts.toList.map fun (i, x) => (i, ρ x))
  | .store t a x => (aStoreVar P A t (ρ a) (ρ x)).map fun A' => (undef, A')
  | .convert s d x => aStrBytes P A s d (ρ x)
  | .call { callee := .builtin b, args := xs, argTypes := tys } =>
    match b, xs.toList.map ρ with
    | .append, [s, x] => aAppend P A tys.toList s x
    | .unsafeString, [x, n] => aUnsafeString P A tys.toList x n
    | _, _ => none
  | _ => none

section
variable {P : Program} {m : Map} {A A' : AHeap} {W : World}

theorem u8_of {d : Option TypeDesc} (h : isU8 d = true) : d = some (.int .u8) := by
  unfold isU8 at h
  split at h
  · rfl
  · cases h

theorem sim_strBytes {s d : TypeId} {x x' v : Value} (h : aStrBytes P A s d x = some (v, A')) (hS : Sim P m A W) (hx : VRel m x x') :
    Came P m A W A' v ((convert s d x').run P W) := by
  unfold aStrBytes at h
  split at h
  · rename_i e str hs hd
    cases hx
    split at h
    · rename_i hc
      obtain ⟨he, h1⟩ := hc
      have he := u8_of he
      simp only [Option.some.injEq, Prod.mk.injEq] at h
      obtain ⟨rfl, rfl⟩ := h
      have hcap : str.size ≤ grownCap W str.size 0 e := by simp [grownCap, Question.cut]
      have hlen : (strCells str).length = str.size := by simp [strCells]
      have hrow : bytesRow str (grownCap W str.size 0 e) = (strCells str ++ List.replicate (grownCap W str.size 0 e - str.size) (Value.int .u8 0)).toArray := by
        apply Array.ext'
        simp [bytesRow, strCells]
      have hrs : (bytesRow str (grownCap W str.size 0 e)).size = str.size + (grownCap W str.size 0 e - str.size) := by
        rw [hrow]; simp [hlen]
      have hsim : LRel m (strCells str) (strCells str) := LRel.simple (by
        simp only [strCells, List.all_map, List.all_eq_true]
        intro b _
        rfl)
      obtain ⟨g1, g2⟩ := (hS.drew (W.drawn + 1)).newRow (xs := strCells str) (ys := strCells str) (zs := List.replicate (grownCap W str.size 0 e - str.size) (.int .u8 0)) (el := e) false 3 [] true
        ((bytesRow str (grownCap W str.size 0 e)).size, (bytesRow str (grownCap W str.size 0 e)).size + 1) h1 hsim
        (by intro i hi; rw [hrs]; simp [hlen] at hi ⊢; omega) (fun e => by cases e) (fun e => by cases e)
      refine ⟨.slice (some ⟨W.heap.size, 0, none⟩) str.size (grownCap W str.size 0 e), _, _, ?_, ?_, g1, ((Step.refl m A W).drew _).trans g2⟩
      · rw [run_bytes_of_string W s d e str hs hd he, ← hrow]
        rfl
      · refine VRel.slice (o := 0) (ext_new (m := m) (A := A)) (.inr ⟨rfl, by simp [hlen], by simp, hcap, ?_⟩)
        simp [hlen]
        omega
    · cases h
  · cases h

theorem run_loadBytes_ints {c p : Nat} {cs : Array Value} {el : TypeId} {fr : Nat × Nat} (h : W.heap[c]? = some (.cells cs el fr)) : ∀ (ns : List Int) (i : Nat) (acc : ByteArray),
    (∀ j n, ns[j]? = some n → cs[p + i + j]? = some (.int .u8 n)) →
    (loadBytes ⟨c, p + i, none⟩ acc ns.length).run P W = .ok ⟨acc.data ++ (ns.map fun n => UInt8.ofNat n.toNat).toArray⟩ W := by
  intro ns
  induction ns with
  | nil => intro i acc _; simp [loadBytes]
  | cons n ns ih =>
    intro i acc hc
    have h0 : W.cell? ⟨c, p + i, none⟩ = some (.int .u8 n) := by rw [cell_of h]; exact hc 0 n rfl
    have ih' := ih (i + 1) (acc.push n.toNat.toUInt8) (fun j y hy => by
      have := hc (j + 1) y (by simpa using hy)
      rw [← this]; congr 1; omega)
    simp only [List.length_cons, loadBytes, Sem.run_bind, run_load h0, Result.andThen, add_none]
    rw [Nat.add_assoc, ih']
    congr 1
    apply ByteArray.ext
    simp [ByteArray.push]

theorem sim_unsafeString {tys : Array TypeId} {x n x' n' v : Value} (ty : TypeId) (h : aUnsafeString P A tys.toList x n = some (v, A')) (hS : Sim P m A W) (hx : VRel m x x') (hn : VRel m n n') :
    Came P m A W A' v ((Builtin.unsafeString_ tys ty #[x', n']).run P W) := by
  unfold aUnsafeString at h
  split at h
  · rename_i pt it p k htys
    rw [tys_two htys]
    cases hn
    split at h
    · rename_i hk
      subst hk
      simp only [Option.some.injEq, Prod.mk.injEq] at h
      obtain ⟨rfl, rfl⟩ := h
      refine ⟨.string .empty, m, W, ?_, .string _, hS, Step.refl _ _ _⟩
      cases hx <;> exact Lib.run_unsafeString_none W pt it ty _
    · rename_i hk
      split at h
      · rename_i b o e hp
        cases hx with
        | ptr hm =>
          rename_i en
          split at h
          · rename_i r hr
            split at h
            · rename_i hc
              obtain ⟨c1, c2, c3, c4, c5, c6, c7⟩ := hc
              split at h
              · rename_i xs hxs
                simp only [Option.map_eq_some_iff] at h
                obtain ⟨l, hl, he⟩ := h
                simp only [Prod.mk.injEq] at he
                obtain ⟨rfl, rfl⟩ := he
                obtain ⟨ns, hns, hl'⟩ := aBytes_ints hl
                obtain ⟨r', hr', hle, hx2⟩ := acells_some hxs
                rw [hr] at hr'; cases hr'
                obtain ⟨hg, hst0⟩ := arow_some hr
                obtain ⟨cs, fr, ⟨te, hW, hte⟩, kk⟩ := hS.row b en r hm hg hst0
                have hlen := kk.len
                have hkf := kk.fit
                have hks := kk.size
                have hnl : ns.length = k.toNat := by
                  have : xs.length = ns.length := by rw [hns]; simp
                  rw [← this, hx2]; simp; omega
                have hcells : ∀ j n, ns[j]? = some n → cs[en.d + o + 0 + j]? = some (.int .u8 n) := by
                  intro j n hj
                  have hxj : xs[j]? = some (.int .u8 n) := by rw [hns]; simp [hj]
                  rw [hx2, List.getElem?_take] at hxj
                  split at hxj
                  · rw [List.getElem?_drop] at hxj
                    obtain ⟨v', hv', hrel⟩ := kk.cells _ _ hxj
                    cases hrel
                    rw [← hv']; congr 1; omega
                  · cases hxj
                have hlb := run_loadBytes_ints (P := P) (p := en.d + o) hW ns 0 .empty hcells
                rw [hnl] at hlb
                obtain ⟨f1, f2⟩ := hS.freeze (o := o) (n := k.toNat) hm hg c3 c4 c5 (by omega) hle
                refine ⟨.string ⟨l.toArray⟩, m, _, ?_, .string _, f1, f2⟩
                have hco := cellsOf_of c7
                obtain rfl := hte (.inl c3)
                have hlies : liesAt P P.depth r.elem (cs.size / P.cellsOf r.elem) (en.d + o) e k.toNat = true := by
                  rw [c6, hco]
                  have hd : P.depth = (2 * (P.types.size + Made.depth) + 1) + 1 := rfl
                  rw [hd]
                  exact liesAt_here hco (by omega) (by omega) (by simp; omega)
                have hdef : Builtin.unsafeString_ #[pt, it] ty #[.pointer (some ⟨en.c, en.d + o, none⟩), .int .i64 k] =
                    (do
                      let n ← asInt (.int .i64 k)
                      if n < 0 then runtimePanic (.error "unsafe.String: len out of range")
                      if n > IntKind.i64.max then unsupported (.unsafePointer "String: a length above the largest int")
                      if n = 0 then pure (.string .empty)
                      else if ← variablesAt ⟨en.c, en.d + o, none⟩ (← elemOf pt) n.toNat then do
                        let s ← loadBytes ⟨en.c, en.d + o, none⟩ .empty n.toNat
                        freeze ⟨en.c, en.d + o, none⟩ n.toNat
                        pure (.string s)
                      else unsupported (.unsafePointer "String: not so many bytes at ptr")) := rfl
                rw [hdef]
                have hmax : IntKind.i64.max = 9223372036854775807 := rfl
                have h63' : ¬ (9223372036854775807 : Int) < k := by omega
                have hneg : ¬ k < 0 := by omega
                simp only [Nat.add_zero] at hlb
                have hv := run_variablesAt (P := P) (u := e) (n := k.toNat) hW hlies
                simp [asInt, asIntOf, hmax, h63', hneg, hk, elemOf, run_underlying hp, hv, hlb, hl']
              · cases h
            · cases h
          · cases h
      · cases h
  · cases h

/-- What such an operation hands on. -/
def NextIs (m : Map) (v : Value) (nx : Next) : Prop := (∃ v', nx = .value v' ∧ VRel m v v') ∨ (nx = .skip ∧ v = undef)

theorem Came.next {v : Value} {s : Sem Value} (h : Came P m A W A' v (s.run P W)) :
    ∃ nx m' W', (do pure (.value (← s)) : Sem Next).run P W = .ok nx W' ∧ NextIs m' v nx ∧ Sim P m' A' W' ∧ Step m A W m' A' W' := by
  obtain ⟨v', m', W', h1, h2, h3, h4⟩ := h
  exact ⟨.value v', m', W', run_v h1, .inl ⟨v', rfl, h2⟩, h3, h4⟩

theorem sim_eff {o : Oper} {ρ ρ' : Operand → Value} {v : Value} (h : aEff P A o.op ρ = some (v, A')) (hS : Sim P m A W) (hr : Rels m ρ ρ' o.op) :
    ∃ nx m' W', (execOp ρ' o).run P W = .ok nx W' ∧ NextIs m' v nx ∧ Sim P m' A' W' ∧ Step m A W m' A' W' := by
  obtain ⟨dst, op, ty, pos, after, guard⟩ := o
  simp only at h hr
  cases op with
  | alloc el =>
    simp only [aEff] at h
    split at h
    · rename_i z hz
      split at h
      · rename_i hs
        exact (sim_alloc hz hs h hS).next
      · cases h
    · cases h
  | box el x =>
    simp only [aEff] at h
    exact (sim_new h hS (hr x (by simp [Op.operands]))).next
  | buildSlice t n parts =>
    simp only [aEff] at h
    obtain ⟨h1, h2⟩ := sim_parts (ρ := ρ) (ρ' := ρ') (m := m) (parts := parts) (fun x hx => hr x (by simpa [Op.operands] using hx))
    have := (sim_buildSlice h hS h1 h2).next
    simp only [execOp]
    rw [parts_toArray]
    exact this
  | store t a x =>
    simp only [aEff, Option.map_eq_some_iff] at h
    obtain ⟨A1, hA1, e⟩ := h
    simp only [Prod.mk.injEq] at e
    obtain ⟨rfl, rfl⟩ := e
    obtain ⟨W', hrun, h1, h2⟩ := sim_storeVar hA1 hS (hr a (by simp [Op.operands])) (hr x (by simp [Op.operands]))
    refine ⟨.skip, m, W', ?_, .inr ⟨rfl, rfl⟩, h1, h2⟩
    simp [execOp, hrun, Result.andThen]
  | convert s d x =>
    simp only [aEff] at h
    exact (sim_strBytes h hS (hr x (by simp [Op.operands]))).next
  | call c =>
    obtain ⟨callee, args, tys⟩ := c
    cases callee with
    | value f => simp [aEff] at h
    | invoke r n => simp [aEff] at h
    | builtin b =>
      simp only [aEff] at h
      have hl : ARel m (args.map ρ) (args.map ρ') := ARel.map fun x hx => hr x (by simpa [Op.operands, Call.operands] using hx)
      have hex : ∀ W, (execOp ρ' { dst := dst, op := .call ⟨.builtin b, args, tys⟩, type := ty, pos := pos, after := after, guard := guard }).run P W =
          (builtin b tys ty (args.map fun | .const _ => true | _ => false) (args.map ρ')).run P W := by
        intro W
        simp only [execOp, resolve, Sem.run_bind, Sem.run_pure, Result.andThen, invoke]
        rfl
      split at h
      · rename_i s x hxs
        have hl' : LRel m [s, x] (args.map ρ').toList := by
          have : (args.map ρ).toList = [s, x] := by simpa using hxs
          rw [← this]; exact hl
        obtain ⟨s', x', he, hs, hx⟩ := lrel_two hl'
        have he' : args.map ρ' = #[s', x'] := by apply Array.ext'; simpa using he
        rw [hex, he']
        exact (sim_append ty h hS hs hx).next
      · rename_i s x hxs
        have hl' : LRel m [s, x] (args.map ρ').toList := by
          have : (args.map ρ).toList = [s, x] := by simpa using hxs
          rw [← this]; exact hl
        obtain ⟨s', x', he, hs, hx⟩ := lrel_two hl'
        have he' : args.map ρ' = #[s', x'] := by apply Array.ext'; simpa using he
        rw [hex, he']
        exact (sim_unsafeString ty h hS hs hx).next
      · cases h
  | _ => simp [aEff] at h
end
end Go.Sh
