/- Shadow, part 7: operations that look at no memory, all of them. -/
import Derived.Test.YteoefjahcbfpeaaShF
namespace Go.Sh
open Go

def aUn (op : UnOp) (x : Value) : Option Value :=
  match op, x with
  | .neg, .int k n => some (.int k (k.wrap (0 - n)))
  | .xor, .int k n => some (.int k (k.wrap (BitVec.ofInt k.bits (if k.signed then -1 else k.max) ^^^ BitVec.ofInt k.bits n).toNat))
  | .not, .bool b => some (.bool !b)
  | _, _ => none

def aPart (P : Program) (t : TypeId) (cs : Array Value) (off : Nat) : Option Value :=
  match P.underlying t with
  | some d =>
    if isAggD d then
      match tsize P t with
      | some s => if off + s ≤ cs.size then some (.agg (cs.extract off (off + s))) else none
      | none => none
    else cs[off]?
  | none => none

def afill (place : Nat → Option (Nat × Nat)) (cells : List Value) : List (Nat × Value) → Option (List Value)
  | [] => some cells
  | (i, v) :: rest =>
    match place i with
    | none => none
    | some (off, size) => if v.cells.size = size ∧ off + v.cells.size ≤ cells.length then afill place (lputs cells off v.cells.toList) rest else none

def aPlaces (P : Program) : List Field → Option (List (Nat × Nat))
  | [] => some []
  | f :: fs =>
    match tsize P f.type, aPlaces P fs with
    | some s, some r => some ((f.offset, s) :: r)
    | _, _ => none

def aBuild (P : Program) (t : TypeId) (parts : List (Nat × Value)) : Option Value :=
  match P.underlying t, tzero P t with
  | some (.struct fields), some z =>
    if z.cells.toList.all simple then
      match aPlaces P fields.toList with
      | some pl => (afill (fun i => pl[i]?) z.cells.toList parts).map fun cs => .agg cs.toArray
      | none => none
    else none
  | some (.array _ el), some z =>
    if z.cells.toList.all simple then
      match tsize P el with
      | some s => (afill (fun i => some (i * s, s)) z.cells.toList parts).map fun cs => .agg cs.toArray
      | none => none
    else none
  | _, _ => none

def aConvert (P : Program) (src dst : TypeId) (x : Value) : Option Value :=
  match P.underlying src, P.underlying dst, x with
  | some _, some (.int k), .int _ n => some (.int k (k.wrap n))
  | some _, some .string, .string s => some (.string s)
  | _, _, _ => none

def aLen (P : Program) (t : TypeId) (x : Value) : Option Value :=
  match P.underlying t, x with
  | some .string, .string s => some (goInt s.size)
  | some (.slice _), .slice _ n _ => some (goInt n)
  | some (.array n _), _ => some (goInt n)
  | _, _ => none

/-- The low and the high bound of a slice expression without a third index. -/
def aBounds (len cap : Nat) (lo hi : Option Value) : Option (Nat × Nat) :=
  let h := match hi with
    | some (.int _ i) => if 0 ≤ i ∧ i ≤ cap then some i.toNat else none
    | some _ => none
    | none => some len
  match h with
  | none => none
  | some h =>
    match lo with
    | some (.int _ i) => if 0 ≤ i ∧ i ≤ h then some (i.toNat, h) else none
    | some _ => none
    | none => some (0, h)

def aTypeAssert (P : Program) (x : Value) (asserted : TypeId) (ok : Bool) : Option Value :=
  let holds (v : Value) : Option Value := some (if ok then .tuple #[v, .bool true] else v)
  let fails : Option Value := if ok then (match tzero P asserted with | some z => if flat z then some (.tuple #[z, .bool false]) else none | none => none) else none
  match P.underlying asserted, x with
  | some (.interface _), .nilIface => fails
  | some (.interface want), .iface t v =>
    match P.info? t with
    | some i => (match Instr.missingMethod want i.methods with | none => holds (.iface t v) | some _ => fails)
    | none => none
  | some _, .nilIface => fails
  | some _, .iface t v => if t = asserted then holds v else fails
  | _, _ => none

def aPureCall (P : Program) (b : Builtin) (tys : Array TypeId) (xs : List Value) : Option Value :=
  match b, xs with
  | .len, [x] => (match tys[0]? with | some t => aLen P t x | none => none)
  | .unsafeSliceData, [.slice none _ _] => some (.pointer none)
  | .unsafeSliceData, [.slice (some a) _ (_ + 1)] => some (.pointer (some a))
  | _, _ => none

/-- An operation that looks at no memory, and turns none. -/
def aPure (P : Program) (o : Op) (ρ : Operand → Value) : Option Value :=
  match o with
  | .move x => some (ρ x)
  | .assign x => some (ρ x)
  | .pick c a b => match ρ c with
    | .bool t => some (if t then ρ a else ρ b)
    | _ => none
  | .build t parts => aBuild P t (parts.toList.map fun (i, x) => (i, ρ x))
  | .nilCheck x => match ρ x with
    | .pointer (some a) => some (.pointer (some a))
    | .func (.func f) fs cs => some (.func (.func f) fs cs)
    | .iface t v => some (.iface t v)
    | _ => none
  | .binOp op t x y _ => aBin P op t (isConst x || isConst y) (ρ x) (ρ y)
  | .unOp op _ x => aUn op (ρ x)
  | .convert s d x => aConvert P s d (ρ x)
  | .makeInterface t x => match P.underlying t with
    | some (.interface _) => none
    | some _ => some (.iface t (ρ x))
    | none => none
  | .makeFunc (.func f) first captured => some (.func (.func f) (first.map ρ) (captured.map ρ))
  | .fieldAddr s x f => match P.underlying s, ρ x with
    | some (.struct fields), .pointer (some ⟨b, o, none⟩) => match fields[f]? with
      | some fd => (match tsize P fd.type with | some (_ + 1) => some (.pointer (some ⟨b, o + fd.offset, none⟩)) | _ => none)
      | none => none
    | _, _ => none
  | .field t x f => match P.underlying t, ρ x with
    | some (.struct fields), .agg cs => match fields[f]? with
      | some fd => aPart P fd.type cs fd.offset
      | none => none
    | _, _ => none
  | .indexAddr t x ix => match P.underlying t, ρ x, ρ ix with
    | some (.slice el), .slice (some ⟨b, o, none⟩) len _, .int _ i =>
      (match tsize P el with | some s => if 0 ≤ i ∧ i < len then some (.pointer (some ⟨b, o + i.toNat * s, none⟩)) else none | none => none)
    | some (.array len el), .pointer (some ⟨b, o, none⟩), .int _ i =>
      (match tsize P el with | some s => if 0 ≤ i ∧ i < len then some (.pointer (some ⟨b, o + i.toNat * s, none⟩)) else none | none => none)
    | _, _, _ => none
  | .index t x ix => match P.underlying t, ρ x, ρ ix with
    | some .string, .string s, .int _ i => if 0 ≤ i then (match s[i.toNat]? with | some b => some (.int .u8 b.toNat) | none => none) else none
    | some (.array len el), .agg cs, .int _ i =>
      (match tsize P el with | some s => if 0 ≤ i ∧ i < len then aPart P el cs (i.toNat * s) else none | none => none)
    | _, _, _ => none
  | .slice t x lo hi none => match P.underlying t, ρ x with
    | some .string, .string s => match aBounds s.size s.size (lo.map ρ) (hi.map ρ) with
      | some (l, h) => some (.string (s.extract l h))
      | none => none
    | _, _ => none
  | .typeAssert x _ asserted ok => aTypeAssert P (ρ x) asserted ok
  | .extract t i => match ρ t with
    | .tuple vs => vs[i]?
    | _ => none
  | .call { callee := .builtin b, args := xs, argTypes := tys } => aPureCall P b tys (xs.toList.map ρ)
  | _ => none

section
variable {P : Program} {m : Map}

/-- What the relation of the operands says of one of them. -/
abbrev Rels (m : Map) (ρ ρ' : Operand → Value) (o : Op) : Prop := ∀ x ∈ o.operands.toList, VRel m (ρ x) (ρ' x)

theorem run_v {s : Sem Value} {v : Value} {W W' : World} (h : s.run P W = .ok v W') : (do pure (.value (← s)) : Sem Next).run P W = .ok (.value v) W' := by
  rw [Sem.run_bind, h]; rfl

theorem ARel.get {a b : Array Value} (h : ARel m a b) {i : Nat} {v : Value} (hv : a[i]? = some v) : ∃ v', b[i]? = some v' ∧ VRel m v v' := by
  obtain ⟨v', h1, h2⟩ := LRel.get h (i := i) (v := v) (by simpa using hv)
  exact ⟨v', by simpa using h1, h2⟩

theorem ARel.extract {a b : Array Value} (h : ARel m a b) (i j : Nat) : ARel m (a.extract i j) (b.extract i j) := by
  refine ARel.of (by simp [h.size]) fun k v v' hv hv' => ?_
  rw [Array.getElem?_extract] at hv hv'
  rw [h.size] at hv
  split at hv
  · rename_i hk
    rw [if_pos hk] at hv'
    exact h.at _ _ _ hv hv'
  · cases hv

theorem sim_part {t : TypeId} {cs cs' : Array Value} {off : Nat} {v : Value} (h : aPart P t cs off = some v) (hr : ARel m cs cs') :
    ∃ v', (∀ W, (part t cs' off).run P W = .ok v' W) ∧ VRel m v v' := by
  unfold aPart at h
  split at h
  · rename_i d hd
    split at h
    · rename_i hag
      split at h
      · rename_i s hs
        split at h
        · simp at h
          subst h
          refine ⟨.agg (cs'.extract off (off + s)), fun W => ?_, VRel.ofAgg (hr.extract _ _)⟩
          simp [part, Sem.run_bind, run_isAgg hd, Result.andThen, hag, run_sizeOf hs]
        · cases h
      · cases h
    · rename_i hag
      obtain ⟨v', hv', hrel⟩ := hr.get h
      refine ⟨v', fun W => ?_, hrel⟩
      simp [part, Sem.run_bind, run_isAgg hd, Result.andThen, hag, hv']
  · cases h

/-! ### build -/

theorem lputs_toArray : ∀ (vs : List Value) (cs : List Value) (p : Nat), (lputs cs p vs).toArray = aputs cs.toArray p vs
  | [], _, _ => rfl
  | v :: vs, cs, p => by simp [lputs, aputs, lputs_toArray vs]

theorem LRel.set {a b : List Value} (h : LRel m a b) {v v' : Value} (hv : VRel m v v') (i : Nat) : LRel m (a.set i v) (b.set i v') := by
  refine ⟨by simp [h.1], fun j x y hx hy => ?_⟩
  rw [List.getElem?_set] at hx hy
  rw [h.1] at hx
  split at hx
  · rename_i hij
    rw [if_pos hij] at hy
    split at hx
    · rename_i hl
      rw [if_pos hl] at hy
      cases hx; cases hy; exact hv
    · cases hx
  · rename_i hij
    rw [if_neg hij] at hy
    exact h.2 j x y hx hy

theorem LRel.lputs {vs vs' : List Value} : ∀ {a b : List Value} {p : Nat}, LRel m a b → LRel m vs vs' → LRel m (Sh.lputs a p vs) (Sh.lputs b p vs') := by
  induction vs generalizing vs' with
  | nil =>
    intro a b p h hv
    have : vs' = [] := by have := hv.1; simp at this; exact List.eq_nil_of_length_eq_zero this.symm
    subst this
    exact h
  | cons v vs ih =>
    intro a b p h hv
    cases vs' with
    | nil => have := hv.1; simp at this
    | cons v' vs' =>
      have h1 : VRel m v v' := hv.2 0 v v' rfl rfl
      have h2 : LRel m vs vs' := ⟨by have := hv.1; simpa using this, fun i x y hx hy => hv.2 (i + 1) x y (by simpa using hx) (by simpa using hy)⟩
      exact ih (h.set h1 p) h2

theorem foldl_aputs : ∀ (vs : List Value) (k : Nat) (cs : Array Value) (off : Nat),
    (vs.zipIdx k).foldl (fun cs (x : Value × Nat) => cs.setIfInBounds (off + x.2) x.1) cs = aputs cs (off + k) vs
  | [], _, _, _ => rfl
  | v :: vs, k, cs, off => by
    simp only [List.zipIdx_cons, List.foldl_cons]
    rw [foldl_aputs vs (k + 1)]
    rfl

theorem sim_fill {place : Nat → Option (Nat × Nat)} : ∀ (parts : List (Nat × Value)) (parts' : List (Nat × Value)) (cells out : List Value) (cells' : List Value),
    parts.map (·.1) = parts'.map (·.1) → LRel m (parts.map (·.2)) (parts'.map (·.2)) → LRel m cells cells' → afill place cells parts = some out →
    ∃ out' : List Value, Instr.fill place cells'.toArray parts' = some out'.toArray ∧ LRel m out out' := by
  intro parts
  induction parts with
  | nil =>
    intro parts' cells out cells' h1 _ h3 h
    have : parts' = [] := by simpa using h1.symm
    subst this
    simp only [afill, Option.some.injEq] at h
    subst h
    exact ⟨cells', rfl, h3⟩
  | cons p rest ih =>
    intro parts' cells out cells' h1 h2 h3 h
    obtain ⟨i, v⟩ := p
    cases parts' with
    | nil => simp at h1
    | cons p' rest' =>
      obtain ⟨i', v'⟩ := p'
      simp only [List.map_cons, List.cons.injEq] at h1
      obtain ⟨e, h1⟩ := h1
      subst e
      have hv : VRel m v v' := h2.2 0 v v' rfl rfl
      have h2' : LRel m (rest.map (·.2)) (rest'.map (·.2)) := ⟨by have := h2.1; simpa using this, fun j x y hx hy => h2.2 (j + 1) x y (by simpa using hx) (by simpa using hy)⟩
      simp only [afill] at h
      split at h
      · cases h
      · rename_i off size hp
        split at h
        · rename_i hc
          have hsz : v'.cells.size = v.cells.size := (hv.cells.size).symm
          obtain ⟨out', ho, hrel⟩ := ih rest' (lputs cells off v.cells.toList) out (lputs cells' off v'.cells.toList) h1 h2' (h3.lputs hv.cells) h
          refine ⟨out', ?_, hrel⟩
          simp only [Instr.fill, hp]
          have hl := h3.1
          rw [if_neg (by simp [hsz]; omega)]
          have : (v'.cells.zipIdx.foldl (fun cs (x : Value × Nat) => cs.setIfInBounds (off + x.2) x.1) cells'.toArray) = (lputs cells' off v'.cells.toList).toArray := by
            rw [lputs_toArray]
            have := foldl_aputs v'.cells.toList 0 cells'.toArray off
            rw [Nat.add_zero] at this
            rw [← this, ← Array.foldl_toList]
            simp
          rw [← ho]
          congr 1
        · cases h

theorem run_places {W : World} : ∀ (fs : List Field) (pl : List (Nat × Nat)), aPlaces P fs = some pl →
    (fs.mapM fun f => do pure (f.offset, ← sizeOf f.type) : Sem (List (Nat × Nat))).run P W = .ok pl W := by
  intro fs
  induction fs with
  | nil => intro pl h; simp only [aPlaces, Option.some.injEq] at h; subst h; rfl
  | cons f fs ih =>
    intro pl h
    simp only [aPlaces] at h
    split at h
    · rename_i s r hs hr
      simp only [Option.some.injEq] at h
      subst h
      have := ih r hr
      rw [List.mapM_cons]
      simp only [Sem.run_bind, run_sizeOf hs, Result.andThen, Sem.run_pure, this]
    · cases h

theorem run_places_arr {W : World} (fs : Array Field) {pl : List (Nat × Nat)} (h : aPlaces P fs.toList = some pl) :
    (fs.mapM fun f => do pure (f.offset, ← sizeOf f.type) : Sem (Array (Nat × Nat))).run P W = .ok pl.toArray W := by
  obtain ⟨l⟩ := fs
  rw [List.mapM_toArray]
  have := run_places (W := W) l pl h
  rw [map_eq_pure_bind, Sem.run_bind, this]
  rfl

theorem sim_build {t : TypeId} {parts parts' : List (Nat × Value)} {v : Value} (h : aBuild P t parts = some v)
    (h1 : parts.map (·.1) = parts'.map (·.1)) (h2 : LRel m (parts.map (·.2)) (parts'.map (·.2))) :
    ∃ v', (∀ W, (Instr.build t parts'.toArray).run P W = .ok v' W) ∧ VRel m v v' := by
  unfold aBuild at h
  split at h
  · rename_i fields z hu hz
    split at h
    · rename_i hsim
      split at h
      · rename_i pl hpl
        simp only [Option.map_eq_some_iff] at h
        obtain ⟨out, hout, rfl⟩ := h
        obtain ⟨out', ho, hrel⟩ := sim_fill parts parts' z.cells.toList out z.cells.toList h1 h2 (LRel.simple hsim) hout
        refine ⟨.agg out'.toArray, fun W => ?_, VRel.ofAgg (by simpa [ARel] using hrel)⟩
        have ho' : Instr.fill (fun i => pl.toArray[i]?) z.cells parts' = some out'.toArray := by simpa using ho
        simp only [Instr.build, Sem.run_bind, run_zeroValue hz, Result.andThen, run_underlying hu]
        rw [run_places_arr fields hpl]
        simp only [ho']
        rfl
      · cases h
    · cases h
  · rename_i n el z hu hz
    split at h
    · rename_i hsim
      split at h
      · rename_i s hs
        simp only [Option.map_eq_some_iff] at h
        obtain ⟨out, hout, rfl⟩ := h
        obtain ⟨out', ho, hrel⟩ := sim_fill parts parts' z.cells.toList out z.cells.toList h1 h2 (LRel.simple hsim) hout
        refine ⟨.agg out'.toArray, fun W => ?_, VRel.ofAgg (by simpa [ARel] using hrel)⟩
        have ho' : Instr.fill (fun i => some (i * s, s)) z.cells parts' = some out'.toArray := by simpa using ho
        simp only [Instr.build, Sem.run_bind, run_zeroValue hz, Result.andThen, run_underlying hu, run_sizeOf hs]
        simp only [ho']
        rfl
      · cases h
    · cases h
  · cases h
end
end Go.Sh
