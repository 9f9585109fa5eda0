/- Shadow, part 20: single operations, in a form that rewrites. -/
import Derived.Test.YteoefjahcbfpeaaShS
namespace Go.Sh
open Go

/-- There is an answer, and of it holds .. -/
def Out {α : Type} (o : Option α) (Q : α → Prop) (_ : Hold Q := ()) : Prop := ∃ v, o = some v ∧ Q v

section
variable {α β : Type}
theorem Out_some {v : α} {Q : α → Prop} : Out (some v) Q ↔ Q v := ⟨fun ⟨_, h, q⟩ => by cases h; exact q, fun q => ⟨v, rfl, q⟩⟩
theorem Out_none {Q : α → Prop} : Out none Q ↔ False := ⟨fun ⟨_, h, _⟩ => (by cases h), False.elim⟩
theorem Out_map {o : Option α} {f : α → β} {Q : β → Prop} : Out (o.map f) Q ↔ Out o fun a => Q (f a) := by
  cases o with
  | none => simp [Out]
  | some a => simp [Out]
theorem Out_guard {c : Prop} [Decidable c] {o : Option α} {Q : α → Prop} : Out (if c then o else none) Q ↔ c ∧ Out o Q := by
  by_cases h : c
  · simp [h]
  · simp [h, Out]
theorem Out_guard' {c : Prop} [Decidable c] {o : Option α} {Q : α → Prop} : Out (if c then none else o) Q ↔ ¬ c ∧ Out o Q := by
  by_cases h : c
  · simp [h, Out]
  · simp [h]
theorem Out_of {o : Option α} {Q : α → Prop} {v : α} (h : o = some v) (q : Q v) : Out o Q := ⟨v, h, q⟩
end

section
variable {K : Ctx}
theorem Ret_ret {rs : List ResultVar} {Q : Value → AHeap → Prop} {e : Env} {A : AHeap} : Ret K rs Q () .ret e A ↔ Out (aResults K A e rs) fun vs => Q (oneOr vs) A := Iff.rfl
theorem Ret_normal {rs : List ResultVar} {Q : Value → AHeap → Prop} {e : Env} {A : AHeap} : Ret K rs Q () .normal e A ↔ Out (aResults K A e rs) fun vs => Q (oneOr vs) A := Iff.rfl
theorem aResults_nil {A : AHeap} {e : Env} : aResults K A e [] = some [] := rfl
theorem aResults_tmp {A : AHeap} {e : Env} {t : Tmp} {rs : List ResultVar} : aResults K A e (.tmp t :: rs) = (aResults K A e rs).map (e t :: ·) := by
  simp only [aResults, aResult]; cases aResults K A e rs <;> rfl
theorem aResults_cell {A : AHeap} {e : Env} {a : Tmp} {t : TypeId} {rs : List ResultVar} {v : Value} (h : aLoadVar K.P A t (e a) = some v) : aResults K A e (.cell a t :: rs) = (aResults K A e rs).map (v :: ·) := by
  simp only [aResults, aResult, h]; cases aResults K A e rs <;> rfl
theorem oneOr_one {v : Value} : oneOr [v] = v := rfl
theorem oneOr_nil : oneOr [] = .tuple #[] := rfl
theorem oneOr_two {u v : Value} : oneOr [u, v] = .tuple #[u, v] := rfl

/-! ### Conditions -/

/-- Which way. -/
def Way (v : Value) (p q : Prop) (_ : Hold p := ()) (_ : Hold q := ()) : Prop := (v = .bool true ∧ p) ∨ (v = .bool false ∧ q)
theorem Way_true {p q : Prop} : Way (.bool true) p q ↔ p := by simp [Way]
theorem Way_false {p q : Prop} : Way (.bool false) p q ↔ q := by simp [Way]
theorem Way_dec {c : Prop} [Decidable c] {p q : Prop} : Way (.bool (decide c)) p q ↔ (c → p) ∧ (¬ c → q) := by
  by_cases h : c <;> simp [Way, h]
theorem Way_bool {b : Bool} {p q : Prop} : Way (.bool b) p q ↔ (b = true → p) ∧ (b = false → q) := by
  cases b <;> simp [Way]
theorem Grd_true {p q : Prop} : Grd True p q ↔ p := by simp [Grd]
theorem Grd_false {p q : Prop} : Grd False p q ↔ q := by simp [Grd]
theorem Grd_of {c p q : Prop} (h : c → p) (k : ¬ c → q) : Grd c p q := by
  by_cases hc : c
  · exact .inl ⟨hc, h hc⟩
  · exact .inr ⟨hc, k hc⟩
theorem Way_of {c : Prop} [Decidable c] {p q : Prop} (h : c → p) (k : ¬ c → q) : Way (.bool (decide c)) p q := Way_dec.2 ⟨h, k⟩
theorem Way_ofB {b : Bool} {p q : Prop} (h : b = true → p) (k : b = false → q) : Way (.bool b) p q := Way_bool.2 ⟨h, k⟩
theorem Cod_way {o : Operand} {a b : Code} {nt : Nat} {e : Env} {A : AHeap} {Q : AExit → Env → AHeap → Prop} :
    Cod K (.cond o a b) nt e A Q ↔ okOpd o = true ∧ Way (opv e o) (Cod K a nt e A Q) (Cod K b nt e A Q) := Cod_cond

/-! ### Operations -/
section
variable {e : Env} {A : AHeap} {Q : Value → AHeap → Prop}

theorem OpW_evB {o : Op} (h : isCallV o = false) : OpW K o e A Q ↔ o.operands.toList.all okOpd = true ∧ Out (evB K.P o (opv e) A) fun p => Q p.1 p.2 := by
  rw [OpW_b h]
  unfold Out
  constructor
  · rintro ⟨h1, v, A', h2, h3⟩; exact ⟨h1, (v, A'), h2, h3⟩
  · rintro ⟨h1, ⟨v, A'⟩, h2, h3⟩; exact ⟨h1, v, A', h2, h3⟩

theorem OpW_pure' {o : Op} (h : isCallV o = false) (h2 : aRead K.P A o (opv e) = none) (h3 : aEff K.P A o (opv e) = none) :
    OpW K o e A Q ↔ o.operands.toList.all okOpd = true ∧ Out (aPure K.P o (opv e)) fun v => Q v A := by
  rw [OpW_evB h]
  unfold evB
  rw [h2, h3]
  cases aPure K.P o (opv e) <;> simp [Out]
theorem OpW_read' {o : Op} (h : isCallV o = false) (h2 : aPure K.P o (opv e) = none) (h3 : aEff K.P A o (opv e) = none) :
    OpW K o e A Q ↔ o.operands.toList.all okOpd = true ∧ Out (aRead K.P A o (opv e)) fun v => Q v A := by
  rw [OpW_evB h]
  unfold evB
  rw [h2, h3]
  cases aRead K.P A o (opv e) <;> simp [Out]
theorem OpW_eff' {o : Op} (h : isCallV o = false) (h2 : aPure K.P o (opv e) = none) (h3 : aRead K.P A o (opv e) = none) :
    OpW K o e A Q ↔ o.operands.toList.all okOpd = true ∧ Out (aEff K.P A o (opv e)) fun p => Q p.1 p.2 := by
  rw [OpW_evB h]
  unfold evB
  rw [h2, h3]

theorem OpW_move {x : Operand} : OpW K (.move x) e A Q ↔ okOpd x = true ∧ Q (opv e x) A := by
  rw [OpW_pure' rfl rfl rfl]; simp [Op.operands, aPure, Out]
theorem OpW_assign {x : Operand} : OpW K (.assign x) e A Q ↔ okOpd x = true ∧ Q (opv e x) A := by
  rw [OpW_pure' rfl rfl rfl]; simp [Op.operands, aPure, Out]
theorem OpW_pick {c a b : Operand} : OpW K (.pick c a b) e A Q ↔ (okOpd c = true ∧ okOpd a = true ∧ okOpd b = true) ∧
    Out (match opv e c with | .bool t => some (if t then opv e a else opv e b) | _ => none) fun v => Q v A := by
  rw [OpW_pure' rfl rfl rfl]; exact and_congr (by simp [Op.operands]) Iff.rfl
theorem OpW_nilCheck {x : Operand} : OpW K (.nilCheck x) e A Q ↔ okOpd x = true ∧ Out (match opv e x with
    | .pointer (some a) => some (.pointer (some a))
    | .func (.func f) fs cs => some (.func (.func f) fs cs)
    | .iface t v => some (.iface t v)
    | _ => none) fun v => Q v A := by
  rw [OpW_pure' rfl rfl rfl]; exact and_congr (by simp [Op.operands]) Iff.rfl
theorem OpW_bin {op : BinOp} {t s : TypeId} {x y : Operand} : OpW K (.binOp op t x y s) e A Q ↔ (okOpd x = true ∧ okOpd y = true) ∧ Out (aBin K.P op t (isConst x || isConst y) (opv e x) (opv e y)) fun v => Q v A := by
  rw [OpW_pure' rfl rfl rfl]; exact and_congr (by simp [Op.operands]) Iff.rfl
theorem OpW_un {op : UnOp} {t : TypeId} {x : Operand} : OpW K (.unOp op t x) e A Q ↔ okOpd x = true ∧ Out (aUn op (opv e x)) fun v => Q v A := by
  rw [OpW_pure' rfl rfl rfl]; exact and_congr (by simp [Op.operands]) Iff.rfl
theorem OpW_mkI {t : TypeId} {x : Operand} : OpW K (.makeInterface t x) e A Q ↔ okOpd x = true ∧ Out (match K.P.underlying t with
    | some (.interface _) => none
    | some _ => some (.iface t (opv e x))
    | none => none) fun v => Q v A := by
  rw [OpW_pure' rfl rfl rfl]; exact and_congr (by simp [Op.operands]) Iff.rfl
theorem OpW_mkF {f : FuncId} {first captured : Array Operand} : OpW K (.makeFunc (.func f) first captured) e A Q ↔ (Op.makeFunc (.func f) first captured).operands.toList.all okOpd = true ∧ Q (.func (.func f) (first.map (opv e)) (captured.map (opv e))) A := by
  rw [OpW_pure' rfl rfl rfl]; simp [aPure, Out]
theorem OpW_fieldAddr {s f : Nat} {x : Operand} : OpW K (.fieldAddr s x f) e A Q ↔ okOpd x = true ∧ Out (aPure K.P (.fieldAddr s x f) (opv e)) fun v => Q v A := by
  rw [OpW_pure' rfl rfl rfl]; simp [Op.operands]
theorem OpW_field {s f : Nat} {x : Operand} : OpW K (.field s x f) e A Q ↔ okOpd x = true ∧ Out (aPure K.P (.field s x f) (opv e)) fun v => Q v A := by
  rw [OpW_pure' rfl rfl rfl]; simp [Op.operands]
theorem OpW_indexAddr {t : Nat} {x ix : Operand} : OpW K (.indexAddr t x ix) e A Q ↔ (okOpd x = true ∧ okOpd ix = true) ∧ Out (aPure K.P (.indexAddr t x ix) (opv e)) fun v => Q v A := by
  rw [OpW_pure' rfl rfl rfl]; simp [Op.operands]
theorem OpW_index {t : Nat} {x ix : Operand} : OpW K (.index t x ix) e A Q ↔ (okOpd x = true ∧ okOpd ix = true) ∧ Out (aPure K.P (.index t x ix) (opv e)) fun v => Q v A := by
  rw [OpW_pure' rfl rfl rfl]; simp [Op.operands]
theorem OpW_extract {x : Operand} {i : Nat} : OpW K (.extract x i) e A Q ↔ okOpd x = true ∧ Out (match opv e x with | .tuple vs => vs[i]? | _ => none) fun v => Q v A := by
  rw [OpW_pure' rfl rfl rfl]; exact and_congr (by simp [Op.operands]) Iff.rfl
theorem OpW_build {t : TypeId} {parts : Array (Nat × Operand)} : OpW K (.build t parts) e A Q ↔ (Op.build t parts).operands.toList.all okOpd = true ∧ Out (aBuild K.P t (parts.toList.map fun (i, x) => (i, opv e x))) fun v => Q v A := by
  rw [OpW_pure' rfl rfl rfl]; rfl
theorem OpW_len {x : Operand} {t : TypeId} : OpW K (.call { callee := .builtin .len, args := #[x], argTypes := #[t] }) e A Q ↔ okOpd x = true ∧ Out (aLen K.P t (opv e x)) fun v => Q v A := by
  rw [OpW_pure' rfl rfl rfl]; simp [Op.operands, Call.operands, aPure, aPureCall]
theorem OpW_load {t : Nat} {a : Operand} : OpW K (.load t a) e A Q ↔ okOpd a = true ∧ Out (aLoadVar K.P A t (opv e a)) fun v => Q v A := by
  rw [OpW_read' rfl rfl rfl]; simp [Op.operands, aRead]
theorem OpW_store {t : Nat} {a x : Operand} : OpW K (.store t a x) e A Q ↔ (okOpd a = true ∧ okOpd x = true) ∧ Out (aStoreVar K.P A t (opv e a) (opv e x)) fun A' => Q undef A' := by
  rw [OpW_eff' rfl rfl rfl]; simp only [aEff, Out_map]; simp [Op.operands]
theorem OpW_box {t : Nat} {x : Operand} : OpW K (.box t x) e A Q ↔ okOpd x = true ∧ Out (aNew K.P A t (opv e x)) fun p => Q p.1 p.2 := by
  rw [OpW_eff' rfl rfl rfl]; simp [Op.operands, aEff]
theorem OpW_alloc {t : Nat} : OpW K (.alloc t) e A Q ↔ Out (tzero K.P t) fun z => Out (if z.cells.toList.all simple then aNew K.P A t z else none) fun p => Q p.1 p.2 := by
  rw [OpW_eff' rfl rfl rfl]
  simp only [aEff]
  cases tzero K.P t with
  | none => simp [Op.operands, Out]
  | some z => simp [Op.operands, Out]
theorem OpW_buildSlice {t n : Nat} {parts : Array (Nat × Operand)} : OpW K (.buildSlice t n parts) e A Q ↔ (Op.buildSlice t n parts).operands.toList.all okOpd = true ∧
    Out (aBuildSlice K.P A t n (parts.toList.map fun (i, x) => (i, opv e x))) fun p => Q p.1 p.2 := by
  rw [OpW_eff' rfl rfl rfl]; rfl
theorem OpW_append {s x : Operand} {t tx : TypeId} : OpW K (.call { callee := .builtin .append, args := #[s, x], argTypes := #[t, tx] }) e A Q ↔ (okOpd s = true ∧ okOpd x = true) ∧
    Out (aAppend K.P A [t, tx] (opv e s) (opv e x)) fun p => Q p.1 p.2 := by
  rw [OpW_eff' rfl rfl rfl]; simp [Op.operands, Call.operands, aEff]
end
end

@[simp] theorem opv_tmp (e : Env) (t : Tmp) : opv e (.tmp t) = e t := rfl
@[simp] theorem opv_const (e : Env) (v : Value) : opv e (.const v) = v := rfl
@[simp] theorem opv_func (e : Env) (f : FuncId) : opv e (.func f) = .func (.func f) #[] #[] := rfl
theorem put_at (e : Env) (d t : Nat) (v : Value) : Env.put e d v t = if t = d then v else e t := rfl
theorem argEnv_at (as : Array Value) (t : Nat) : argEnv as t = as.getD t undef := rfl
theorem okOpd_tmp (t : Tmp) : okOpd (.tmp t) = true := rfl
theorem okOpd_func (f : FuncId) : okOpd (.func f) = true := rfl
theorem okOpd_const (v : Value) : okOpd (.const v) = flat v := rfl
theorem isConst_tmp (t : Tmp) : isConst (.tmp t) = false := rfl
theorem isConst_const (v : Value) : isConst (.const v) = true := rfl

section
variable {P : Program} {t : TypeId} {c : Bool} {k : IntKind} {a b : Int}
theorem aBin_add : aBin P .add t c (.int k a) (.int k b) = some (.int k (k.wrap (a + b))) := by simp [aBin, intBin]
theorem aBin_sub : aBin P .sub t c (.int k a) (.int k b) = some (.int k (k.wrap (a - b))) := by simp [aBin, intBin]
theorem aBin_mul : aBin P .mul t c (.int k a) (.int k b) = some (.int k (k.wrap (a * b))) := by simp [aBin, intBin]
theorem aBin_rem : aBin P .rem t c (.int k a) (.int k b) = if b = 0 then none else some (.int k (a.tmod b)) := by simp [aBin, intBin]
theorem aBin_eql : aBin P .eql t c (.int k a) (.int k b) = some (.bool (decide (a = b))) := by simp [aBin, intBin]; rfl
theorem aBin_neq : aBin P .neq t c (.int k a) (.int k b) = some (.bool (decide (a ≠ b))) := by simp [aBin, intBin]; rfl
theorem aBin_lss : aBin P .lss t c (.int k a) (.int k b) = some (.bool (decide (a < b))) := by simp [aBin, intBin]
theorem aBin_leq : aBin P .leq t c (.int k a) (.int k b) = some (.bool (decide (a ≤ b))) := by simp [aBin, intBin]
theorem aBin_gtr : aBin P .gtr t c (.int k a) (.int k b) = some (.bool (decide (b < a))) := by simp [aBin, intBin]
theorem aBin_geq : aBin P .geq t c (.int k a) (.int k b) = some (.bool (decide (b ≤ a))) := by simp [aBin, intBin]
end

def asB : Value → Option Bool
  | .bool b => some b
  | _ => none
theorem asB_bool (b : Bool) : asB (.bool b) = some b := rfl
theorem asB_undef : asB undef = none := rfl
theorem yieldedA_eq (ops : Array Oper) (e : Env) (j : Nat) : yieldedA ops e j = ((ops[j]?).bind (·.dst)).bind fun d => asB (e d) := by
  unfold yieldedA
  cases (ops[j]?).bind (·.dst) with
  | none => rfl
  | some d => simp only [Option.bind_some]; cases e d <;> rfl

section
variable {K : Ctx} {e : Env} {A : AHeap} {Q : Value → AHeap → Prop}
theorem OpW_callv {f : Operand} {xs : Array Operand} {tys : Array TypeId} :
    OpW K (.call { callee := .value f, args := xs, argTypes := tys }) e A Q ↔ (okOpd f = true ∧ xs.toList.all okOpd = true) ∧ CalV K (opv e f) (xs.map (opv e)) A Q := by
  rw [OpW_call]
  refine and_congr ?_ Iff.rfl
  simp [Op.operands, Call.operands, List.all_eq_true]
end

section
variable {P : Program} {t el : TypeId} {c : Bool}
theorem aBin_nil_neq (ht : P.underlying t = some (.pointer el)) (a : Option Addr) : aBin P .neq t c (.pointer a) (.pointer none) = some (.bool a.isSome) := by
  cases a with
  | none => simp [aBin, isNilIface, aEq, aEq0, ht]
  | some a => simp [aBin, isNilIface, aEq, aEq0, ht]
theorem aBin_nil_eql (ht : P.underlying t = some (.pointer el)) (a : Option Addr) : aBin P .eql t c (.pointer a) (.pointer none) = some (.bool a.isNone) := by
  cases a with
  | none => simp [aBin, isNilIface, aEq, aEq0, ht]
  | some a => simp [aBin, isNilIface, aEq, aEq0, ht]
end

section
variable {K : Ctx} {e : Env} {A : AHeap} {Q : Value → AHeap → Prop}
theorem OpW_mkFv {f : FuncId} {first captured : Array Operand} :
    OpW K (.makeFunc (.func f) first captured) e A Q ↔ (first.toList.all okOpd = true ∧ captured.toList.all okOpd = true) ∧ Q (.func (.func f) (first.map (opv e)) (captured.map (opv e))) A := by
  rw [OpW_mkF]
  refine and_congr ?_ Iff.rfl
  simp [Op.operands]
theorem OpW_buildv {t : TypeId} {parts : Array (Nat × Operand)} :
    OpW K (.build t parts) e A Q ↔ (parts.toList.all fun p => okOpd p.2) = true ∧ Out (aBuild K.P t (parts.toList.map fun p => (p.1, opv e p.2))) fun v => Q v A := by
  rw [OpW_build]
  refine and_congr ?_ Iff.rfl
  simp [Op.operands]
end

/-! ### Regions that draw, with readings whose place is open -/
def Trc (K : Ctx) (ops : Array Oper) (nt : Nat) (rest : List Oper) (e : Env) (A : AHeap) (Q : List TI → Env → AHeap → Prop) (_ : Hold ops := ()) (_ : Hold rest := ()) (_ : Hold Q := ()) : Prop :=
  ∃ n T e' A', evTrace K (rec K n) ops nt rest e A = some (T, e', A') ∧ Q T e' A'

section
variable {K : Ctx}
theorem Trc_nil {ops : Array Oper} {nt : Nat} {e : Env} {A : AHeap} {Q : List TI → Env → AHeap → Prop} : Trc K ops nt [] e A Q ↔ Q [] e A := by
  constructor
  · rintro ⟨n, T, e', A', h, hq⟩
    simp only [evTrace, Option.some.injEq, Prod.mk.injEq] at h
    obtain ⟨rfl, rfl, rfl⟩ := h
    exact hq
  · intro h; exact ⟨0, [], e, A, rfl, h⟩

theorem Trc_cons {ops : Array Oper} {nt : Nat} {d : Option Tmp} {o : Op} {ty : TypeId} {pos : String} {after : Array Edge} {rest : List Oper} {e : Env} {A : AHeap} {Q : List TI → Env → AHeap → Prop} :
    Trc K ops nt ({ dst := d, op := o, type := ty, pos := pos, after := after, guard := none } :: rest) e A Q ↔
      OpW K o e A fun v A' => PutW nt e d v fun e' => Trc K ops nt rest e' A' fun T eN AN => Q (⟨e, A, true, v⟩ :: T) eN AN := by
  constructor
  · rintro ⟨n, T, e', A', h, hq⟩
    simp only [evTrace, evK_eq] at h
    split at h
    · split at h
      · rename_i v A1 hv
        split at h
        · rename_i e1 he1
          split at h
          · rename_i T1 eN AN ht
            simp only [Option.some.injEq, Prod.mk.injEq] at h
            obtain ⟨rfl, rfl, rfl⟩ := h
            exact ⟨n, v, A1, hv, e1, he1, n, T1, _, _, ht, hq⟩
          · cases h
        · cases h
      · cases h
    · rename_i hw; exact absurd rfl hw
  · rintro ⟨n, v, A1, hv, e1, he1, k, T, e', A', h, hq⟩
    refine ⟨max n k, _, e', A', ?_, hq⟩
    have h1 := evOp_mono (rec_le (K := K) (Nat.le_max_left n k)) hv
    have h3 := evTrace_mono (rec_le (K := K) (Nat.le_max_right n k)) _ _ _ _ h
    simp only [evTrace, evK_eq, Region.wanted, if_true, h1, he1, h3]

theorem Cod_draw_of {id : Nat} {ops : Array Oper} {nt : Nat} {e : Env} {A : AHeap} {Q : AExit → Env → AHeap → Prop} {l : List (Nat × Nat)} (hd : drawOk K.P ops = true) (hop : openPairs K.P ops = l)
    (h : Trc K ops nt ops.toList e A fun T e' A' => (∀ ip ∈ l, stable K ops T A' ip = true) ∧ Q .normal e' A') : Cod K (.region id ops true) nt e A Q := by
  obtain ⟨n, T, e', A', h1, h2, h3⟩ := h
  refine ⟨n + 1, .normal, e', A', ?_, h3⟩
  have : evDraw K (rec K n) ops nt e A = some (e', A') := by
    unfold evDraw
    rw [if_pos hd, h1]
    simp only
    rw [if_pos (by rw [hop]; exact List.all_eq_true.2 h2)]
  simp only [rec, stepRec, if_true, this]

theorem stable_load {ops : Array Oper} {T : List TI} {AN H : AHeap} {i p a : Nat} {ty : TypeId} {t : TI} {o : Oper} (hs : ∀ v, K.same v v = true) (h0 : T[i]? = some t) (ho : ops[i]? = some o) (hop : o.op = .load ty (.tmp a))
    (hH : heapAt T AN i p = some H) (hl : aLoadVar K.P H ty (t.e a) = some t.v) : stable K ops T AN (i, p) = true := by
  unfold stable
  simp only [h0, ho, hH]
  split
  · simp only [evPR, hop, aPure, aRead, opv_tmp, hl, hs]
  · rfl
end

/-- Between numbers. -/
theorem OpW_convint {K : Ctx} {s d : TypeId} {k : IntKind} {ds : TypeDesc} (hs : K.P.underlying s = some ds) (hd : K.P.underlying d = some (.int k)) {x : Operand} {e : Env} {A : AHeap} {Q : Value → AHeap → Prop} :
    OpW K (.convert s d x) e A Q ↔ okOpd x = true ∧ Out (match opv e x with | .int _ n => some (.int k (k.wrap n)) | _ => none) fun v => Q v A := by
  have h2 : aRead K.P A (.convert s d x) (opv e) = none := by
    simp only [aRead, hs, hd, aUnsafe]
  have h3 : aEff K.P A (.convert s d x) (opv e) = none := by
    simp only [aEff, aStrBytes, hs, hd]
  rw [OpW_pure' rfl h2 h3]
  refine and_congr (by simp [Op.operands]) ?_
  simp only [aPure, aConvert, hs, hd]
  cases opv e x <;> exact Iff.rfl
end Go.Sh
