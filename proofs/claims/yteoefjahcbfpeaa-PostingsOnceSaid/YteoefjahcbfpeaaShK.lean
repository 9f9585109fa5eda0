/- Shadow, part 11: operations that make or turn memory. -/
import Derived.Test.YteoefjahcbfpeaaShJ
import Derived.Deep.AppendSrc
namespace Go.Sh
open Go

/-- A new variable. -/
def aNew (P : Program) (A : AHeap) (el : TypeId) (v : Value) : Option (Value × AHeap) :=
  match tsize P el with
  | some _ => some (.pointer (some ⟨A.next, 0, none⟩), A.alloc (.row ⟨v.cells.toList, el, true, 3, [], false⟩))
  | none => none

def zeros (z : Value) (n : Nat) : List Value := (List.range n).map fun i => z.cells[i % z.cells.size]!

def aBuildSlice (P : Program) (A : AHeap) (t : TypeId) (n : Nat) (parts : List (Nat × Value)) : Option (Value × AHeap) :=
  match P.underlying t with
  | some (.slice el) =>
    match tsize P el, tzero P el with
    | some s, some z =>
      if n * s ≤ 2 ^ 24 ∧ (zeros z (n * s)).all simple = true then
        match afill (fun i => some (i * s, s)) (zeros z (n * s)) parts with
        | some cs => some (.slice (some ⟨A.next, 0, none⟩) n n, A.alloc (.row ⟨cs, el, true, 3, [], false⟩))
        | none => none
      else none
    | _, _ => none
  | _ => none

def aStoreVar (P : Program) (A : AHeap) (t : TypeId) (x v : Value) : Option AHeap :=
  match x with
  | .pointer (some ⟨b, o, none⟩) => if tsize P t = some v.cells.size then aputRow A b o v.cells.toList else none
  | _ => none

def strCells (s : ByteArray) : List Value := s.data.toList.map fun b => .int .u8 b.toNat

def aSrc (A : AHeap) (sz : Nat) (x : Value) : Option (Nat × List Value) :=
  match x with
  | .slice none 0 _ => some (0, [])
  | .slice (some ⟨b, o, none⟩) n _ => (acells A b o (n * sz)).map fun xs => (n, xs)
  | .string s => some (s.size, strCells s)
  | _ => none

/-- append where there is room for certain. -/
def aAppIn (A : AHeap) (sz : Nat) (base : Option Addr) (len cap need : Nat) (new : List Value) : Option (Value × AHeap) :=
  match base with
  | some ⟨b, o, none⟩ =>
    match aputRow A b (o + len * sz) new with
    | some A' => some (.slice (some ⟨b, o, none⟩) need cap, A')
    | none => none
  | none => if new.isEmpty then some (.slice none need cap, A) else none
  | _ => none

/-- append where there may be no room. -/
def aAppOut (A : AHeap) (el sz : Nat) (base : Option Addr) (len cap need : Nat) (new : List Value) : Option (Value × AHeap) :=
  match base with
  | none => if len = 0 then some (.slice (some ⟨A.next, 0, none⟩) need need, A.alloc (.row ⟨new, el, false, 3, [], false⟩)) else none
  | some ⟨b, o, none⟩ =>
    match arow A b with
    | some r =>
      if r.x = true ∨ (r.elem = el ∧ o + cap * sz ≠ r.cells.length) then
        if o + len * sz ≤ r.cells.length then
          some (.slice (some ⟨A.next, 0, none⟩) need need, A.alloc (.row ⟨(r.cells.drop o).take (len * sz) ++ new, el, false, 3, [], false⟩))
        else none
      else if len = cap ∧ r.elem = el ∧ 2 ≤ r.st ∧ r.st ≤ 3 then
        some (.slice (some ⟨A.next, 0, none⟩) need need, (A.set b (.row { r with st := 1 })).alloc (.row ⟨r.cells.drop o ++ new, el, false, r.st, b :: r.chain, r.fz⟩))
      else none
    | none => none
  | _ => none

def srcKind : Option TypeDesc → Bool
  | some (.slice _) => true
  | some .string => true
  | _ => false

def aAppend (P : Program) (A : AHeap) (tys : List TypeId) (s x : Value) : Option (Value × AHeap) :=
  match tys, s with
  | [t, tx], .slice base len cap =>
    if srcKind (P.underlying tx) then
      match P.underlying t with
      | some (.slice el) =>
        match tsize P el, tbytes P el, tzero P el with
        | some sz, some by', some z =>
          match aSrc A sz x with
          | some (n, new) =>
            if new.length = n * sz ∧ new.all one = true then
              if len + n ≤ cap then aAppIn A sz base len cap (len + n) new
              else if 0 < sz ∧ z.cells.size = sz ∧ 0 < by' ∧ (len + n) * by' ≤ 140737488355328 then aAppOut A el sz base len cap (len + n) new
              else none
            else none
          | none => none
        | _, _, _ => none
      | _ => none
    else none
  | _, _ => none

section
variable {P : Program} {m : Map} {A A' : AHeap} {W : World}

/-- What an operation that turns memory has come to. -/
def Came (P : Program) (m : Map) (A : AHeap) (W : World) (A' : AHeap) (v : Value) (r : Result Value) : Prop :=
  ∃ v' m' W', r = .ok v' W' ∧ VRel m' v v' ∧ Sim P m' A' W' ∧ Step m A W m' A' W'

theorem run_newObj (o : Obj) : (newObj o).run P W = .ok W.heap.size (W.alloc o) := rfl

theorem ext_new {en : Ent} : (m.ext A.next en) A.next = some en := by simp [Map.ext]

theorem sim_new {el : TypeId} {x x' v : Value} (h : aNew P A el x = some (v, A')) (hS : Sim P m A W) (hx : VRel m x x') :
    Came P m A W A' v ((Instr.box el x').run P W) := by
  unfold aNew at h
  split at h
  · rename_i s hs
    simp only [Option.some.injEq, Prod.mk.injEq] at h
    obtain ⟨rfl, rfl⟩ := h
    obtain ⟨h1, h2⟩ := hS.newRow (xs := x.cells.toList) (ys := x'.cells.toList) (zs := []) (el := el) true 3 [] false (0, 0) hs hx.cells (by intro i _; simp) (fun _ => rfl) (fun _ => rfl)
    refine ⟨.pointer (some ⟨W.heap.size, 0, none⟩), _, _, ?_, ?_, h1, h2⟩
    · simp [Instr.box, newVar, newRow, Result.andThen]
    · simpa using VRel.ptr (o := 0) (ext_new (m := m) (A := A))
  · cases h

theorem sim_alloc {el : TypeId} {z v : Value} (hz : tzero P el = some z) (hsim : z.cells.toList.all simple = true) (h : aNew P A el z = some (v, A')) (hS : Sim P m A W) :
    Came P m A W A' v ((Instr.alloc el true (.tuple #[])).run P W) := by
  unfold aNew at h
  split at h
  · rename_i s hs
    simp only [Option.some.injEq, Prod.mk.injEq] at h
    obtain ⟨rfl, rfl⟩ := h
    obtain ⟨h1, h2⟩ := hS.newRow (xs := z.cells.toList) (ys := z.cells.toList) (zs := []) (el := el) true 3 [] false (0, 0) hs (LRel.simple hsim) (by intro i _; simp) (fun _ => rfl) (fun _ => rfl)
    refine ⟨.pointer (some ⟨W.heap.size, 0, none⟩), _, _, ?_, ?_, h1, h2⟩
    · simp [Instr.alloc, newVar, newRow, Sem.run_bind, Result.andThen, run_zeroValue hz]
    · simpa using VRel.ptr (o := 0) (ext_new (m := m) (A := A))
  · cases h

theorem zeros_eq (z : Value) (n : Nat) : ((Array.range n).map (z.cells[· % z.cells.size]!)) = (zeros z n).toArray := by
  apply Array.ext'
  simp [zeros, Array.toList_range]

theorem sim_buildSlice {t : TypeId} {n : Nat} {parts parts' : List (Nat × Value)} {v : Value} (h : aBuildSlice P A t n parts = some (v, A')) (hS : Sim P m A W)
    (h1 : parts.map (·.1) = parts'.map (·.1)) (h2 : LRel m (parts.map (·.2)) (parts'.map (·.2))) :
    Came P m A W A' v ((Instr.buildSlice t n parts'.toArray).run P W) := by
  unfold aBuildSlice at h
  split at h
  · rename_i el hu
    split at h
    · rename_i s z hs hz
      split at h
      · rename_i hc
        split at h
        · rename_i cs hcs
          simp only [Option.some.injEq, Prod.mk.injEq] at h
          obtain ⟨rfl, rfl⟩ := h
          obtain ⟨out', ho, hrel⟩ := sim_fill parts parts' _ cs _ h1 h2 (LRel.simple hc.2) hcs
          obtain ⟨g1, g2⟩ := hS.newRow (xs := cs) (ys := out') (zs := []) (el := el) true 3 [] false (0, 0) hs hrel (by intro i _; simp) (fun _ => rfl) (fun _ => rfl)
          refine ⟨.slice (some ⟨W.heap.size, 0, none⟩) n n, _, _, ?_, ?_, g1, g2⟩
          · have hle : ¬ n * s > 2 ^ 24 := by have := hc.1; omega
            simp only [Instr.buildSlice, Sem.run_bind, run_underlying hu, run_sizeOf hs, Result.andThen, hle, if_false]
            by_cases h0 : n * s = 0
            · rw [h0] at ho
              have ho' : Instr.fill (fun i => some (i * s, s)) #[] parts' = some out'.toArray := by simpa [zeros] using ho
              simp only [h0, if_true, Sem.run_bind, Sem.run_pure, Result.andThen]
              rw [show ((Array.range 0).map ((#[] : Array Value)[· % (#[] : Array Value).size]!)) = #[] from by apply Array.ext'; rw [Array.toList_map, Array.toList_range]; rfl, ho']
              simp [newRow, Result.andThen]
            · simp only [h0, if_false, Sem.run_bind, run_zeroValue hz, Result.andThen, Sem.run_pure]
              rw [zeros_eq]
              simp [ho, newRow, Result.andThen]
          · simpa using VRel.slice (o := 0) (len := n) (cap := n) (ext_new (m := m) (A := A)) (.inl rfl)
        · cases h
      · cases h
    · cases h
  · cases h

theorem sim_storeVar {t : TypeId} {x v x' v' : Value} (h : aStoreVar P A t x v = some A') (hS : Sim P m A W) (hx : VRel m x x') (hv : VRel m v v') :
    ∃ W', (Instr.storeAt t x' v').run P W = .ok () W' ∧ Sim P m A' W' ∧ Step m A W m A' W' := by
  unfold aStoreVar at h
  split at h
  · rename_i b o
    cases hx with
    | ptr hb =>
      split at h
      · rename_i hs
        obtain ⟨W', hr, h1, h2⟩ := hS.storeCells hb hv.cells h
        refine ⟨W', ?_, h1, h2⟩
        have hsz : v'.cells.size = v.cells.size := hv.cells.size.symm
        simp [Instr.storeAt, Instr.sureAddr, storeVar, Sem.run_bind, run_sizeOf hs, Result.andThen, hsz, hr]
      · cases h
  · cases h

/-! ### append -/

theorem Sim.loadCellsD (h : Sim P m A W) {b o n : Nat} {en : Ent} {xs : List Value} (hb : m b = some en) (hx : acells A b o n = some xs) :
    ∃ ys : List Value, (Go.loadCells ⟨en.c, en.d + o, none⟩ n).run P W = .ok ys.toArray W ∧ (Go.loadCells ⟨en.c, en.d + o, none⟩ n).run P W.drew = .ok ys.toArray W.drew ∧ LRel m xs ys := by
  obtain ⟨r, hr, hn, rfl⟩ := acells_some hx
  obtain ⟨hg, hst⟩ := arow_some hr
  obtain ⟨cs, fr, ⟨te, hW, hte⟩, k⟩ := h.row b en r hb hg hst
  have hlen := k.len
  have hfit := k.fit
  have hsz := k.size
  refine ⟨(cs.toList.drop (en.d + o)).take n, run_loadCells hW n (by omega), run_loadCells (W := W.drew) hW n (by omega), ?_⟩
  rw [← take_drop_in cs.toList en.d en.n o n (by omega)]
  exact (k.lrel.drop o).take n

theorem VRel.srcs {x x' : Value} {sz n : Nat} {new : List Value} (h : aSrc A sz x = some (n, new)) (hS : Sim P m A W) (hx : VRel m x x') :
    (∀ W' : World, (Builtin.lenOf x').run P W' = .ok n W') ∧ ∃ new' : List Value, (Builtin.firstCells sz n x').run P W = .ok new'.toArray W ∧
      (Builtin.firstCells sz n x').run P W.drew = .ok new'.toArray W.drew ∧ LRel m new new' := by
  unfold aSrc at h
  split at h
  · simp only [Option.some.injEq, Prod.mk.injEq] at h
    obtain ⟨rfl, rfl⟩ := h
    cases hx
    exact ⟨fun _ => rfl, [], rfl, rfl, LRel.nil m⟩
  · rename_i b o k c
    simp only [Option.map_eq_some_iff] at h
    obtain ⟨xs, hxs, e⟩ := h
    simp only [Prod.mk.injEq] at e
    obtain ⟨rfl, rfl⟩ := e
    cases hx with
    | slice hb hc =>
      obtain ⟨ys, hy, hy', hrel⟩ := hS.loadCellsD hb hxs
      exact ⟨fun _ => rfl, ys, hy, hy', hrel⟩
  · rename_i s
    simp only [Option.some.injEq, Prod.mk.injEq] at h
    obtain ⟨rfl, rfl⟩ := h
    cases hx
    have key : ∀ W' : World, (Builtin.firstCells sz s.size (.string s)).run P W' = .ok (strCells s).toArray W' := by
      intro W'
      have : (s.extract 0 s.size).data.map (fun b => Value.int .u8 b.toNat) = (strCells s).toArray := by
        apply Array.ext'
        have he : s.extract 0 s.size = s := by
          have := ByteArray.extract_zero_size (b := s)
          exact this
        rw [he]
        simp [strCells]
      simp only [Builtin.firstCells, this]
      rfl
    refine ⟨fun _ => rfl, strCells s, key W, key _, ?_⟩
    · refine LRel.simple ?_
      simp only [strCells, List.all_map, List.all_eq_true]
      intro b _
      rfl
  · cases h

theorem zeroCells_size (z : Array Value) (n : Nat) : (Builtin.zeroCells z n).size = n * z.size := by simp [Builtin.zeroCells]

theorem info_of {t : TypeId} {s : Nat} (h : tsize P t = some s) : ∃ i, P.info? t = some i ∧ i.size = s := by
  unfold tsize at h
  cases hi : P.info? t with
  | none => rw [hi] at h; cases h
  | some i => rw [hi] at h; exact ⟨i, rfl, by simpa using h⟩

theorem srcKind_of {d : Option TypeDesc} (h : srcKind d = true) : (∃ e', d = some (.slice e')) ∨ d = some .string := by
  cases d with
  | none => simp [srcKind] at h
  | some d => cases d <;> first | exact .inl ⟨_, rfl⟩ | exact .inr rfl | simp [srcKind] at h

theorem oneCell'_of {v : Value} (h : one v = true) : v.oneCell' = true := by cases v <;> first | rfl | simp [one] at h

theorem LRel.ones {a b : List Value} (h : LRel m a b) (h1 : a.all one = true) : ∀ v ∈ b, one v = true := by
  intro v hv
  obtain ⟨i, hi, rfl⟩ := List.getElem_of_mem hv
  obtain ⟨u, hu, hrel⟩ := h.get' (List.getElem?_eq_getElem hi)
  rw [hrel.one]
  exact (List.all_eq_true.1 h1) u (List.mem_of_getElem? hu)

/-- append with room: the cells are stored. -/
theorem run_append_in {t tx ty el : Nat} {i : TypeInfo} (ht : P.underlying t = some (.slice el)) (hi : P.info? el = some i) {c p : Nat} {len cap n : Nat} {x : Value} {new : List Value}
    (hs : Src P i.size tx x n new W) (hroom : len + n ≤ cap) {W' : World} (hst : (storeCells ⟨c, p + len * i.size, none⟩ new).run P W = .ok () W') :
    (Builtin.append_ #[t, tx] ty #[.slice (some ⟨c, p, none⟩) len cap, x]).run P W = .ok (.slice (some ⟨c, p, none⟩) (len + n) cap) W' := by
  rcases hs.kind with ⟨e', hk⟩ | hk <;> simp [Builtin.append_, run_underlying ht, run_underlying hk, sizeOf, typeInfo, hi, hs.len, hroom, hs.cells, add_none, hst]

theorem run_append_in_nil {t tx ty el : Nat} {i : TypeInfo} (ht : P.underlying t = some (.slice el)) (hi : P.info? el = some i) {len cap n : Nat} {x : Value} {new : List Value}
    (hs : Src P i.size tx x n new W) (hroom : len + n ≤ cap) :
    (Builtin.append_ #[t, tx] ty #[.slice none len cap, x]).run P W = .ok (.slice none (len + n) cap) W := by
  rcases hs.kind with ⟨e', hk⟩ | hk <;> simp [Builtin.append_, run_underlying ht, run_underlying hk, sizeOf, typeInfo, hi, hs.len, hroom, hs.cells]

theorem sim_appIn {t tx ty el sz : Nat} {i : TypeInfo} (ht : P.underlying t = some (.slice el)) (hi : P.info? el = some i) (hsz : i.size = sz) {base : Option Addr} {len cap n : Nat} {v s' x' : Value} {new new' : List Value}
    (h : aAppIn A sz base len cap (len + n) new = some (v, A')) (hS : Sim P m A W) (hb : VRel m (.slice base len cap) s') (hl : LRel m new new')
    (hs : Src P sz tx x' n new' W) (hroom : len + n ≤ cap) : Came P m A W A' v ((Builtin.append_ #[t, tx] ty #[s', x']).run P W) := by
  subst hsz
  unfold aAppIn at h
  split at h
  · rename_i b o
    split at h
    · rename_i A1 hA1
      simp only [Option.some.injEq, Prod.mk.injEq] at h
      obtain ⟨rfl, rfl⟩ := h
      cases hb with
      | slice hm hc =>
        rename_i cap' en
        have hle : cap ≤ cap' := by rcases hc with e | ⟨_, _, _, e, _⟩ <;> omega
        obtain ⟨W', hr, h1, h2⟩ := hS.storeCells hm hl hA1
        refine ⟨_, m, W', run_append_in ht hi hs (by omega) (by simpa [Nat.add_assoc] using hr), ?_, h1, h2⟩
        exact .slice hm hc
    · cases h
  · split at h
    · simp only [Option.some.injEq, Prod.mk.injEq] at h
      obtain ⟨rfl, rfl⟩ := h
      cases hb
      exact ⟨_, m, W, run_append_in_nil ht hi hs hroom, .nils _ _, hS, Step.refl _ _ _⟩
    · cases h
  · cases h

theorem sim_appOut {t tx ty el sz by' : Nat} {i : TypeInfo} {z : Value} (ht : P.underlying t = some (.slice el)) (hi : P.info? el = some i) (hsz : i.size = sz) (hby : i.bytes = by') (hz : i.zero = some z)
    {base : Option Addr} {len cap n : Nat} {v s' x' : Value} {new new' : List Value}
    (h : aAppOut A el sz base len cap (len + n) new = some (v, A')) (hS : Sim P m A W) (hb : VRel m (.slice base len cap) s') (hl : LRel m new new')
    (hsrc : Src P sz tx x' n new' W) (hnew : new.length = n * sz) (hroom : ¬ len + n ≤ cap) (h0 : 0 < sz) (hzs : z.cells.size = sz) (hb0 : 0 < by') (hfit : (len + n) * by' ≤ 140737488355328) :
    Came P m A W A' v ((Builtin.append_ #[t, tx] ty #[s', x']).run P W) := by
  subst hsz; subst hby
  have hsize : tsize P el = some i.size := by simp [tsize, hi]
  have h63 : ((len + n : Nat) : Int) ≤ 9223372036854775807 := by
    have := Nat.le_mul_of_pos_right (len + n) hb0
    omega
  -- a new row, whatever stood before
  have grow : ∀ (base' : Option Addr) (cap' : Nat) (olds olds' : List Value) (A1 : AHeap) (st : Nat) (ch : List Nat) (fz : Bool), cap' < len + n →
      (Builtin.firstCells i.size len (.slice base' len cap')).run P W.drew = .ok olds'.toArray W.drew → LRel m olds olds' → olds.length = len * i.size → Sim P m A1 W → Step m A W m A1 W →
      Came P m A W (A1.alloc (.row ⟨olds ++ new, el, false, st, ch, fz⟩)) (.slice (some ⟨A1.next, 0, none⟩) (len + n) (len + n)) ((Builtin.append_ #[t, tx] ty #[.slice base' len cap', x']).run P W) := by
    intro base' cap' olds olds' A1 st ch fz hlt hold hlo hol hS1 hst1
    have hfit' := growslice_fits hlt hfit
    have hrun := run_append_grow_src W t tx ty el i z ht hi hz base' len cap' olds' hold x' n new' hsrc hlt h63 hfit'
    have hcap : len + n ≤ grownCap W (len + n) cap' el := by simp [grownCap, Question.cut]
    have hlrel : LRel m (olds ++ new) (olds' ++ new') := hlo.append hl
    have hS2 : Sim P m A1 W.drew := hS1.drew _
    obtain ⟨g1, g2⟩ := hS2.newRow (xs := olds ++ new) (ys := olds' ++ new') (zs := (Builtin.zeroCells z.cells (grownCap W (len + n) cap' el - (len + n))).toList) (el := el)
      false st ch fz (0, 0) hsize hlrel (by intro j _; simp) (fun _ => rfl) (fun e => by cases e)
    refine ⟨.slice (some ⟨W.heap.size, 0, none⟩) (len + n) (grownCap W (len + n) cap' el), _, _, ?_, ?_, g1, (hst1.drew _).trans g2⟩
    · rw [hrun]
      congr 2
      apply congrArg (fun c => Obj.cells c el)
      apply Array.ext'
      simp
    · refine (VRel.slice (o := 0) (len := len + n) (cap := len + n) (ext_new (m := m) (A := A1)) (.inr ⟨rfl, ?_, h0, hcap, ?_⟩))
      · simp [hol, hnew, Nat.add_mul]
      · simp only [Array.length_toList, zeroCells_size, hzs, List.length_append, hol, hnew]
        rw [Nat.sub_mul, Nat.add_mul]
        have := Nat.mul_le_mul_right i.size hcap
        rw [Nat.add_mul] at this
        omega
  unfold aAppOut at h
  split at h
  · split at h
    · rename_i hlen0
      simp only [Option.some.injEq, Prod.mk.injEq] at h
      obtain ⟨rfl, rfl⟩ := h
      cases hb
      subst hlen0
      have := grow none cap [] [] A 3 [] false (by omega) rfl (LRel.nil m) (by simp) hS (Step.refl _ _ _)
      simpa using this
    · cases h
  · rename_i b o
    cases hb with
    | slice hm hc =>
      rename_i cap' en
      split at h
      · rename_i r hr
        obtain ⟨hg, hst0⟩ := arow_some hr
        obtain ⟨cs, fr, ⟨te, hW, hte⟩, k⟩ := hS.row b en r hm hg hst0
        have hlen := k.len
        have hkf := k.fit
        have hks := k.size
        have hacells : ∀ k', o + k' ≤ r.cells.length → acells A b o k' = some ((r.cells.drop o).take k') := by
          intro k' hk'
          unfold acells
          rw [hr]
          simp [hk']
        split at h
        · rename_i hcert
          split at h
          · rename_i hle
            simp only [Option.some.injEq, Prod.mk.injEq] at h
            obtain ⟨rfl, rfl⟩ := h
            -- the capacity is known
            have hcap : cap' = cap := by
              rcases hc with e | ⟨e1, e2, e3, e4, e5⟩
              · exact e
              · exfalso
                rcases hcert with e | ⟨e, e'⟩
                · rw [k.x, e] at e1; cases e1
                · have hs := k.s
                  rw [e] at hs
                  rw [show (P.info? el).map (·.size) = some i.size from hsize] at hs
                  simp at hs
                  rw [← hs] at e2
                  omega
            subst hcap
            obtain ⟨ys, hy, hrel⟩ := (hS.drew (W.drawn + 1)).loadCells hm (hacells (len * i.size) hle)
            exact grow _ cap' _ ys A 3 [] false (by omega) hy hrel (by simp; omega) hS (Step.refl _ _ _)
          · cases h
        · rename_i hcert
          split at h
          · rename_i hall
            obtain ⟨e1, e2, e3, e4⟩ := hall
            simp only [Option.some.injEq, Prod.mk.injEq] at h
            obtain ⟨rfl, rfl⟩ := h
            subst e1
            have hx : r.x = false := by
              cases hx : r.x with
              | false => rfl
              | true => exact absurd (.inl hx) hcert
            have hend : o + len * i.size = r.cells.length := by
              rcases Nat.decEq (o + len * i.size) r.cells.length with hne | he
              · exact absurd (.inr ⟨e2, hne⟩) hcert
              · exact he
            have hs : en.s = i.size := by
              have := k.s
              rw [e2] at this
              rw [show (P.info? el).map (·.size) = some i.size from hsize] at this
              simpa using this.symm
            have htake : (r.cells.drop o).take (len * i.size) = r.cells.drop o := List.take_of_length_le (by simp; omega)
            by_cases hfitc : len + n ≤ cap'
            · -- in place
              have hc2 : en.x = false ∧ o + len * en.s = en.n ∧ 0 < en.s ∧ len ≤ cap' ∧ en.d + o + cap' * en.s ≤ en.e := by
                rcases hc with e | e
                · omega
                · exact e
              obtain ⟨c1, c2, c3, c4, c5⟩ := hc2
              rw [hs] at c2 c5
              have hll := hl.1
              have hmul := Nat.mul_le_mul_right i.size hfitc
              rw [Nat.add_mul] at hmul
              have hfit2 : en.d + en.n + new.length ≤ en.e := by omega
              obtain rfl := hte (.inl e3)
              obtain ⟨g1, g2⟩ := hS.growIn hm hg e3 hx hW k (o := o) (by omega) hl hfit2
              have hst := run_storeCells (P := P) (c := en.c) (p := en.d + en.n) new' 0 W cs hW (by omega)
                (fun j a1 a2 => k.ap e3 hx j (by omega) (by omega)) (fun u hu => by
                  have := hsrc.one u hu
                  cases u <;> first | rfl | simp [Value.oneCell'] at this)
              have hpos : en.d + o + len * i.size = en.d + en.n := by omega
              refine ⟨.slice (some ⟨en.c, en.d + o, none⟩) (len + n) cap', _, _, run_append_in ht hi hsrc hfitc (by rw [hpos]; simpa using hst), ?_, by rw [← e2]; exact g1, by rw [← e2]; exact g2⟩
              refine VRel.slice (o := 0) (en := ⟨en.c, en.d + o, en.n - o + new.length, en.e, en.s, false⟩) (by simp [Map.ext]) (.inr ⟨rfl, ?_, by omega, hfitc, ?_⟩)
              · simp only [hs, Nat.add_mul, hnew]; omega
              · simp only [hs]; omega
            · obtain ⟨w1, w2⟩ := hS.weaken hm hg (st := 1) (by omega) (by omega) e4
              obtain ⟨ys, hy, hrel⟩ := (hS.drew (W.drawn + 1)).loadCells hm (hacells (len * i.size) (by omega))
              rw [htake] at hrel
              exact grow _ cap' _ ys _ r.st (b :: r.chain) r.fz (by omega) hy hrel (by simp; omega) w1 w2
          · cases h
      · cases h
  · cases h

theorem tys_two {tys : Array TypeId} {t tx : TypeId} (h : tys.toList = [t, tx]) : tys = #[t, tx] := by apply Array.ext'; simpa using h

theorem sim_append {tys : Array TypeId} {s x s' x' v : Value} (ty : TypeId) (h : aAppend P A tys.toList s x = some (v, A')) (hS : Sim P m A W) (hs : VRel m s s') (hx : VRel m x x') :
    Came P m A W A' v ((Builtin.append_ tys ty #[s', x']).run P W) := by
  unfold aAppend at h
  split at h
  · rename_i t tx base len cap htys
    rw [tys_two htys]
    split at h
    · rename_i hk
      split at h
      · rename_i el hu
        split at h
        · rename_i sz by' z hsz hby hz
          obtain ⟨i, hi, hisz⟩ := info_of hsz
          have hib : i.bytes = by' := by simpa [tbytes, hi] using hby
          have hiz : i.zero = some z := by simpa [tzero, hi] using hz
          split at h
          · rename_i n new hsrc
            split at h
            · rename_i hc1
              obtain ⟨hlen, new', hf, hf2, hrel⟩ := VRel.srcs hsrc hS hx
              have hS' : Src P sz tx x' n new' W := ⟨srcKind_of hk, hlen, hf, hf2, by rw [← hrel.1]; exact hc1.1, fun u hu => oneCell'_of (hrel.ones hc1.2 u hu)⟩
              split at h
              · rename_i hroom
                exact sim_appIn hu hi hisz h hS hs hrel hS' hroom
              · rename_i hroom
                split at h
                · rename_i hc2
                  exact sim_appOut hu hi hisz hib hiz h hS hs hrel hS' hc1.1 hroom hc2.1 hc2.2.1 hc2.2.2.1 hc2.2.2.2
                · cases h
            · cases h
          · cases h
        · cases h
      · cases h
    · cases h
  · cases h
end
end Go.Sh
