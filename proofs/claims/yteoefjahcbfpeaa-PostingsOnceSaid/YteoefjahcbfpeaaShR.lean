/- Shadow, part 18: more fuel, the same answer; what is to be shown of a piece of code. -/
import Derived.Test.YteoefjahcbfpeaaShQ
namespace Go.Sh
open Go

structure Rec.le (r r' : Rec) : Prop where
  code : ∀ c nt e A x, r.code c nt e A = some x → r'.code c nt e A = some x
  loop : ∀ c nt e A x, r.loop c nt e A = some x → r'.loop c nt e A = some x
  call : ∀ g as A x, r.call g as A = some x → r'.call g as A = some x
  round : ∀ l as A x, r.round l as A = some x → r'.round l as A = some x

theorem Rec.le.refl (r : Rec) : r.le r := ⟨fun _ _ _ _ _ h => h, fun _ _ _ _ _ h => h, fun _ _ _ _ h => h, fun _ _ _ _ h => h⟩
theorem Rec.le.trans {a b c : Rec} (h : a.le b) (k : b.le c) : a.le c :=
  ⟨fun _ _ _ _ _ x => k.code _ _ _ _ _ (h.code _ _ _ _ _ x), fun _ _ _ _ _ x => k.loop _ _ _ _ _ (h.loop _ _ _ _ _ x), fun _ _ _ _ x => k.call _ _ _ _ (h.call _ _ _ _ x), fun _ _ _ _ x => k.round _ _ _ _ (h.round _ _ _ _ x)⟩

section
variable {K : Ctx} {r r' : Rec}

theorem callF_mono (h : r.le r') {g : FuncId} {as : Array Value} {A : AHeap} {x : Value × AHeap} (hx : callF K r g as A = some x) : callF K r' g as A = some x := by
  unfold callF at hx ⊢
  split at hx
  · exact hx
  · exact h.call _ _ _ _ hx

theorem callV_mono (h : r.le r') {fv : Value} {as : Array Value} {A : AHeap} {x : Value × AHeap} (hx : callV K r fv as A = some x) : callV K r' fv as A = some x := by
  unfold callV at hx ⊢
  split at hx
  · exact callF_mono h hx
  · exact h.round _ _ _ _ hx
  · cases hx

theorem evOp_mono (h : r.le r') {o : Op} {e : Env} {A : AHeap} {x : Value × AHeap} (hx : evOp K r o e A = some x) : evOp K r' o e A = some x := by
  unfold evOp at hx ⊢
  split at hx
  · rename_i hok
    rw [if_pos hok]
    split at hx
    · exact callV_mono h hx
    · exact hx
  · cases hx

theorem evOps_mono (h : r.le r') {ops : Array Oper} {nt : Nat} : ∀ (rest : List Oper) (e : Env) (A : AHeap) (x : Env × AHeap), evOps K r ops nt rest e A = some x → evOps K r' ops nt rest e A = some x := by
  intro rest
  induction rest with
  | nil => intro e A x hx; exact hx
  | cons o rest ih =>
    intro e A x hx
    simp only [evOps] at hx ⊢
    split at hx
    · rename_i hw
      rw [if_pos hw]
      split at hx
      · rename_i v A1 hv
        rw [evOp_mono h hv]
        simp only
        split at hx
        · rename_i e1 he; exact ih e1 A1 x hx
        · cases hx
      · cases hx
    · rename_i hw
      rw [if_neg hw]
      split at hx
      · rename_i e1 he; exact ih e1 A x hx
      · cases hx

theorem evK_mono (h : r.le r') {o : Op} {e : Env} {A : AHeap} {x : Value × AHeap} (hx : evK K r o e A = some x) : evK K r' o e A = some x := by
  unfold evK at hx ⊢
  split at hx
  · rename_i hk; rw [if_pos hk]; exact evOp_mono h hx
  · rename_i hk; rw [if_neg hk]; exact hx

theorem evTrace_mono (h : r.le r') {ops : Array Oper} {nt : Nat} : ∀ (rest : List Oper) (e : Env) (A : AHeap) (x : List TI × Env × AHeap), evTrace K r ops nt rest e A = some x → evTrace K r' ops nt rest e A = some x := by
  intro rest
  induction rest with
  | nil => intro e A x hx; exact hx
  | cons o rest ih =>
    intro e A x hx
    simp only [evTrace] at hx ⊢
    split at hx
    · rename_i hw
      rw [if_pos hw]
      split at hx
      · rename_i v A1 hv
        rw [evK_mono h hv]
        simp only
        split at hx
        · rename_i e1 he
          split at hx
          · rename_i T eN AN ht
            rw [ih e1 A1 _ ht]; exact hx
          · cases hx
        · cases hx
      · cases hx
    · rename_i hw
      rw [if_neg hw]
      split at hx
      · rename_i e1 he
        split at hx
        · rename_i T eN AN ht
          rw [ih e1 A _ ht]; exact hx
        · cases hx
      · cases hx

theorem evDraw_mono (h : r.le r') {ops : Array Oper} {nt : Nat} {e : Env} {A : AHeap} {x : Env × AHeap} (hx : evDraw K r ops nt e A = some x) : evDraw K r' ops nt e A = some x := by
  unfold evDraw at hx ⊢
  split at hx
  · rename_i hd
    rw [if_pos hd]
    split at hx
    · rename_i T eN AN ht
      rw [evTrace_mono h _ _ _ _ ht]; exact hx
    · cases hx
  · cases hx

theorem stepRec_mono (h : r.le r') : (stepRec K r).le (stepRec K r') := by
  refine ⟨?_, ?_, ?_, ?_⟩
  · intro c nt e A x hx
    cases c with
    | region id ops draw =>
      simp only [stepRec] at hx ⊢
      cases draw with
      | true =>
        simp only [if_true] at hx ⊢
        split at hx
        · rename_i e1 A1 h1; rw [evDraw_mono h h1]; exact hx
        · cases hx
      | false =>
        simp only [Bool.false_eq_true, if_false] at hx ⊢
        split at hx
        · rename_i e1 A1 h1; rw [evOps_mono h _ _ _ _ h1]; exact hx
        · cases hx
    | seq a b =>
      simp only [stepRec] at hx ⊢
      split at hx
      · rename_i e1 A1 h1
        rw [h.code _ _ _ _ _ h1]
        exact h.code _ _ _ _ _ hx
      · rename_i y hy
        rw [h.code _ _ _ _ _ hx]
        split
        · rename_i e1 A1 h1
          rw [← hx] at h1
          exact (hy _ _ h1).elim
        · rfl
    | cond o a b =>
      simp only [stepRec] at hx ⊢
      split at hx
      · rename_i hok
        rw [if_pos hok]
        split at hx
        · exact h.code _ _ _ _ _ hx
        · exact h.code _ _ _ _ _ hx
        · cases hx
      · cases hx
    | block id body =>
      simp only [stepRec] at hx ⊢
      split at hx
      · rename_i id' e1 A1 h1
        rw [h.code _ _ _ _ _ h1]
        exact hx
      · rename_i y hy
        rw [h.code _ _ _ _ _ hx]
        split
        · rename_i id' e1 A1 h1
          rw [← hx] at h1
          exact (hy _ _ _ h1).elim
        · rfl
    | loop body => exact h.loop _ _ _ _ _ hx
    | rangeFunc f ps assign body =>
      simp only [stepRec] at hx ⊢
      split at hx
      · rename_i hok
        rw [if_pos hok]
        split at hx
        · rename_i g first captured hf
          split at hx
          · rename_i v A2 hc
            rw [h.call _ _ _ _ hc]
            exact hx
          · cases hx
        · cases hx
      · cases hx
    | _ => exact hx
  · intro c nt e A x hx
    simp only [stepRec] at hx ⊢
    split at hx
    · rename_i e1 A1 h1
      rw [h.code _ _ _ _ _ h1]
      exact h.loop _ _ _ _ _ hx
    · rename_i y hy
      rw [h.code _ _ _ _ _ hx]
      split
      · rename_i e1 A1 h1
        rw [← hx] at h1
        exact (hy _ _ h1).elim
      · rfl
  · intro g as A x hx
    simp only [stepRec] at hx ⊢
    split at hx
    · rename_i fn hf
      split at hx
      · rename_i c hb
        split at hx
        · rename_i hs
          rw [if_pos hs]
          split at hx
          · cases hx
          · rename_i x' e1 A1 hne h1
            rw [h.code _ _ _ _ _ h1]
            split
            · rename_i id e2 A2 heq
              simp only [Option.some.injEq, Prod.mk.injEq] at heq
              obtain ⟨rfl, -, -⟩ := heq
              exact (hne _ rfl).elim
            · rename_i heq
              simp only [Option.some.injEq, Prod.mk.injEq] at heq
              obtain ⟨-, rfl, rfl⟩ := heq
              exact hx
            · rename_i heq; cases heq
          · cases hx
        · cases hx
      · cases hx
    · cases hx
  · intro l as A x hx
    simp only [stepRec] at hx ⊢
    split at hx
    · rename_i lo hlo
      split at hx
      · rename_i hs
        rw [if_pos hs]
        split at hx
        · rename_i e1 he1
          split at hx
          · rename_i e2 A2 h2
            rw [h.code _ _ _ _ _ h2]
            simp only
            split at hx
            · rename_i lo2 hlo2
              split at hx
              · rename_i hst
                rw [if_pos hst]
                split at hx
                · rename_i y e4 A4 h4
                  rw [h.code _ _ _ _ _ h4]
                  exact hx
                · cases hx
              · cases hx
            · cases hx
          · cases hx
        · cases hx
      · cases hx
    · cases hx

theorem rec_succ : ∀ n, (rec K n).le (rec K (n + 1))
  | 0 => ⟨fun _ _ _ _ _ h => by simp [rec] at h, fun _ _ _ _ _ h => by simp [rec] at h, fun _ _ _ _ h => by simp [rec] at h, fun _ _ _ _ h => by simp [rec] at h⟩
  | n + 1 => stepRec_mono (rec_succ n)

theorem rec_le {n k : Nat} (h : n ≤ k) : (rec K n).le (rec K k) := by
  induction k with
  | zero => have : n = 0 := by omega
            subst this; exact Rec.le.refl _
  | succ k ih =>
    by_cases hk : n = k + 1
    · subst hk; exact Rec.le.refl _
    · exact (ih (by omega)).trans (rec_succ k)
end

/-! ### What is to be shown -/

/-- A mark: the rewriter leaves alone what it is a mark of. -/
def Hold {α : Sort _} (_ : α) : Type := Unit

def Cod (K : Ctx) (c : Code) (nt : Nat) (e : Env) (A : AHeap) (Q : AExit → Env → AHeap → Prop) (_ : Hold c := ()) (_ : Hold Q := ()) : Prop := ∃ n x e' A', (rec K n).code c nt e A = some (x, e', A') ∧ Q x e' A'
def Lop (K : Ctx) (c : Code) (nt : Nat) (e : Env) (A : AHeap) (Q : AExit → Env → AHeap → Prop) (_ : Hold c := ()) (_ : Hold Q := ()) : Prop := ∃ n x e' A', (rec K n).loop c nt e A = some (x, e', A') ∧ Q x e' A'
def Cal (K : Ctx) (g : FuncId) (as : Array Value) (A : AHeap) (Q : Value → AHeap → Prop) (_ : Hold Q := ()) : Prop := ∃ n v A', (rec K n).call g as A = some (v, A') ∧ Q v A'
/-- A call, by a contract or walked. -/
def CalF (K : Ctx) (g : FuncId) (as : Array Value) (A : AHeap) (Q : Value → AHeap → Prop) (_ : Hold Q := ()) : Prop := ∃ n v A', callF K (rec K n) g as A = some (v, A') ∧ Q v A'
def CalV (K : Ctx) (fv : Value) (as : Array Value) (A : AHeap) (Q : Value → AHeap → Prop) (_ : Hold Q := ()) : Prop := ∃ n v A', callV K (rec K n) fv as A = some (v, A') ∧ Q v A'
def Rnd (K : Ctx) (l : Nat) (as : Array Value) (A : AHeap) (Q : Value → AHeap → Prop) (_ : Hold Q := ()) : Prop := ∃ n v A', (rec K n).round l as A = some (v, A') ∧ Q v A'
def OpW (K : Ctx) (o : Op) (e : Env) (A : AHeap) (Q : Value → AHeap → Prop) (_ : Hold Q := ()) : Prop := ∃ n v A', evOp K (rec K n) o e A = some (v, A') ∧ Q v A'
def Ops (K : Ctx) (ops : Array Oper) (nt : Nat) (rest : List Oper) (e : Env) (A : AHeap) (Q : Env → AHeap → Prop) (_ : Hold ops := ()) (_ : Hold rest := ()) (_ : Hold Q := ()) : Prop := ∃ n e' A', evOps K (rec K n) ops nt rest e A = some (e', A') ∧ Q e' A'
def PutW (nt : Nat) (e : Env) (d : Option Tmp) (v : Value) (Q : Env → Prop) (_ : Hold e := ()) (_ : Hold Q := ()) : Prop := ∃ e', putD nt e d v = some e' ∧ Q e'

section
variable {K : Ctx}

theorem Cod.mono {c : Code} {nt : Nat} {e : Env} {A : AHeap} {Q Q' : AExit → Env → AHeap → Prop} (h : Cod K c nt e A Q) (hq : ∀ x e' A', Q x e' A' → Q' x e' A') : Cod K c nt e A Q' :=
  let ⟨n, x, e', A', a, b⟩ := h; ⟨n, x, e', A', a, hq _ _ _ b⟩
theorem Lop.mono {c : Code} {nt : Nat} {e : Env} {A : AHeap} {Q Q' : AExit → Env → AHeap → Prop} (h : Lop K c nt e A Q) (hq : ∀ x e' A', Q x e' A' → Q' x e' A') : Lop K c nt e A Q' :=
  let ⟨n, x, e', A', a, b⟩ := h; ⟨n, x, e', A', a, hq _ _ _ b⟩
theorem Cal.mono {g : FuncId} {as : Array Value} {A : AHeap} {Q Q' : Value → AHeap → Prop} (h : Cal K g as A Q) (hq : ∀ v A', Q v A' → Q' v A') : Cal K g as A Q' :=
  let ⟨n, v, A', a, b⟩ := h; ⟨n, v, A', a, hq _ _ b⟩
theorem CalF.mono {g : FuncId} {as : Array Value} {A : AHeap} {Q Q' : Value → AHeap → Prop} (h : CalF K g as A Q) (hq : ∀ v A', Q v A' → Q' v A') : CalF K g as A Q' :=
  let ⟨n, v, A', a, b⟩ := h; ⟨n, v, A', a, hq _ _ b⟩
theorem CalV.mono {g : Value} {as : Array Value} {A : AHeap} {Q Q' : Value → AHeap → Prop} (h : CalV K g as A Q) (hq : ∀ v A', Q v A' → Q' v A') : CalV K g as A Q' :=
  let ⟨n, v, A', a, b⟩ := h; ⟨n, v, A', a, hq _ _ b⟩
theorem Rnd.mono {g : Nat} {as : Array Value} {A : AHeap} {Q Q' : Value → AHeap → Prop} (h : Rnd K g as A Q) (hq : ∀ v A', Q v A' → Q' v A') : Rnd K g as A Q' :=
  let ⟨n, v, A', a, b⟩ := h; ⟨n, v, A', a, hq _ _ b⟩

theorem Cod_skip {nt : Nat} {e : Env} {A : AHeap} {Q : AExit → Env → AHeap → Prop} : Cod K .skip nt e A Q ↔ Q .normal e A := by
  constructor
  · rintro ⟨n, x, e', A', h, hq⟩
    cases n with
    | zero => simp [rec] at h
    | succ n => simp only [rec, stepRec, Option.some.injEq, Prod.mk.injEq] at h; obtain ⟨rfl, rfl, rfl⟩ := h; exact hq
  · intro h; exact ⟨1, .normal, e, A, rfl, h⟩
theorem Cod_ret {nt : Nat} {e : Env} {A : AHeap} {Q : AExit → Env → AHeap → Prop} : Cod K .ret nt e A Q ↔ Q .ret e A := by
  constructor
  · rintro ⟨n, x, e', A', h, hq⟩
    cases n with
    | zero => simp [rec] at h
    | succ n => simp only [rec, stepRec, Option.some.injEq, Prod.mk.injEq] at h; obtain ⟨rfl, rfl, rfl⟩ := h; exact hq
  · intro h; exact ⟨1, .ret, e, A, rfl, h⟩
theorem Cod_exit {id nt : Nat} {e : Env} {A : AHeap} {Q : AExit → Env → AHeap → Prop} : Cod K (.exit id) nt e A Q ↔ Q (.exit id) e A := by
  constructor
  · rintro ⟨n, x, e', A', h, hq⟩
    cases n with
    | zero => simp [rec] at h
    | succ n => simp only [rec, stepRec, Option.some.injEq, Prod.mk.injEq] at h; obtain ⟨rfl, rfl, rfl⟩ := h; exact hq
  · intro h; exact ⟨1, .exit id, e, A, rfl, h⟩

/-- On behind a piece that ends. -/
def Seq (K : Ctx) (b : Code) (nt : Nat) (Q : AExit → Env → AHeap → Prop) (_ : Hold b := ()) (_ : Hold Q := ()) : AExit → Env → AHeap → Prop
  | .normal, e, A => Cod K b nt e A Q
  | x, e, A => Q x e A
@[simp] theorem Seq_normal {b : Code} {nt : Nat} {e : Env} {A : AHeap} {Q : AExit → Env → AHeap → Prop} : Seq K b nt Q () () .normal e A = Cod K b nt e A Q := rfl
@[simp] theorem Seq_ret {b : Code} {nt : Nat} {e : Env} {A : AHeap} {Q : AExit → Env → AHeap → Prop} : Seq K b nt Q () () .ret e A = Q .ret e A := rfl
@[simp] theorem Seq_exit {b : Code} {nt id : Nat} {e : Env} {A : AHeap} {Q : AExit → Env → AHeap → Prop} : Seq K b nt Q () () (.exit id) e A = Q (.exit id) e A := rfl

theorem Cod_seq {a b : Code} {nt : Nat} {e : Env} {A : AHeap} {Q : AExit → Env → AHeap → Prop} : Cod K (.seq a b) nt e A Q ↔ Cod K a nt e A (Seq K b nt Q) := by
  constructor
  · rintro ⟨n, x, e', A', h, hq⟩
    cases n with
    | zero => simp [rec] at h
    | succ n =>
      simp only [rec, stepRec] at h
      split at h
      · rename_i e1 A1 h1
        exact ⟨n, _, _, _, h1, n, x, e', A', h, hq⟩
      · rename_i y hy
        refine ⟨n, _, _, _, h, ?_⟩
        cases x with
        | normal => exact (hy _ _ h).elim
        | ret => exact hq
        | exit id => exact hq
  · rintro ⟨n, x, e1, A1, h, hq⟩
    cases x with
    | normal =>
      obtain ⟨k, x, e', A', h2, hq⟩ := hq
      refine ⟨max n k + 1, x, e', A', ?_, hq⟩
      have h1 := (rec_le (K := K) (Nat.le_max_left n k)).code _ _ _ _ _ h
      have h3 := (rec_le (K := K) (Nat.le_max_right n k)).code _ _ _ _ _ h2
      simp only [rec, stepRec, h1, h3]
    | ret => exact ⟨n + 1, _, _, _, by simp only [rec, stepRec, h], hq⟩
    | exit id => exact ⟨n + 1, _, _, _, by simp only [rec, stepRec, h], hq⟩

theorem Cod_cond {o : Operand} {a b : Code} {nt : Nat} {e : Env} {A : AHeap} {Q : AExit → Env → AHeap → Prop} :
    Cod K (.cond o a b) nt e A Q ↔ okOpd o = true ∧ ((opv e o = .bool true ∧ Cod K a nt e A Q) ∨ (opv e o = .bool false ∧ Cod K b nt e A Q)) := by
  constructor
  · rintro ⟨n, x, e', A', h, hq⟩
    cases n with
    | zero => simp [rec] at h
    | succ n =>
      simp only [rec, stepRec] at h
      split at h
      · rename_i hok
        refine ⟨hok, ?_⟩
        split at h
        · rename_i hb; exact .inl ⟨hb, n, x, e', A', h, hq⟩
        · rename_i hb; exact .inr ⟨hb, n, x, e', A', h, hq⟩
        · cases h
      · cases h
  · rintro ⟨hok, ⟨hb, n, x, e', A', h, hq⟩ | ⟨hb, n, x, e', A', h, hq⟩⟩
    · exact ⟨n + 1, x, e', A', by simp only [rec, stepRec, hok, hb, if_true, h], hq⟩
    · exact ⟨n + 1, x, e', A', by simp only [rec, stepRec, hok, hb, if_true, h], hq⟩

/-- Behind a block. -/
def Blk (id : Nat) (Q : AExit → Env → AHeap → Prop) (_ : Hold Q := ()) : AExit → Env → AHeap → Prop
  | .exit id', e, A => if id' = id then Q .normal e A else Q (.exit id') e A
  | x, e, A => Q x e A
@[simp] theorem Blk_normal {id : Nat} {e : Env} {A : AHeap} {Q : AExit → Env → AHeap → Prop} : Blk id Q () .normal e A = Q .normal e A := rfl
@[simp] theorem Blk_ret {id : Nat} {e : Env} {A : AHeap} {Q : AExit → Env → AHeap → Prop} : Blk id Q () .ret e A = Q .ret e A := rfl
@[simp] theorem Blk_exit {id id' : Nat} {e : Env} {A : AHeap} {Q : AExit → Env → AHeap → Prop} : Blk id Q () (.exit id') e A = if id' = id then Q .normal e A else Q (.exit id') e A := rfl

theorem Cod_block {id : Nat} {b : Code} {nt : Nat} {e : Env} {A : AHeap} {Q : AExit → Env → AHeap → Prop} : Cod K (.block id b) nt e A Q ↔ Cod K b nt e A (Blk id Q) := by
  constructor
  · rintro ⟨n, x, e', A', h, hq⟩
    cases n with
    | zero => simp [rec] at h
    | succ n =>
      simp only [rec, stepRec] at h
      split at h
      · rename_i id' e1 A1 h1
        refine ⟨n, _, _, _, h1, ?_⟩
        simp only [Blk_exit]
        split at h
        · rename_i hid; simp only [Option.some.injEq, Prod.mk.injEq] at h; obtain ⟨rfl, rfl, rfl⟩ := h; rw [if_pos hid]; exact hq
        · rename_i hid; simp only [Option.some.injEq, Prod.mk.injEq] at h; obtain ⟨rfl, rfl, rfl⟩ := h; rw [if_neg hid]; exact hq
      · rename_i y hy
        refine ⟨n, _, _, _, h, ?_⟩
        cases x with
        | normal => exact hq
        | ret => exact hq
        | exit id' => exact (hy _ _ _ h).elim
  · rintro ⟨n, x, e', A', h, hq⟩
    cases x with
    | normal => exact ⟨n + 1, _, _, _, by simp only [rec, stepRec, h], hq⟩
    | ret => exact ⟨n + 1, _, _, _, by simp only [rec, stepRec, h], hq⟩
    | exit id' =>
      simp only [Blk_exit] at hq
      split at hq
      · rename_i hid; exact ⟨n + 1, .normal, e', A', by simp only [rec, stepRec, h, hid, if_true], hq⟩
      · rename_i hid; exact ⟨n + 1, .exit id', e', A', by simp only [rec, stepRec, h, hid, if_false], hq⟩

theorem Cod_loop {b : Code} {nt : Nat} {e : Env} {A : AHeap} {Q : AExit → Env → AHeap → Prop} : Cod K (.loop b) nt e A Q ↔ Lop K b nt e A Q := by
  constructor
  · rintro ⟨n, x, e', A', h, hq⟩
    cases n with
    | zero => simp [rec] at h
    | succ n => exact ⟨n, x, e', A', h, hq⟩
  · rintro ⟨n, x, e', A', h, hq⟩; exact ⟨n + 1, x, e', A', h, hq⟩

/-- Round the loop again. -/
def Lps (K : Ctx) (b : Code) (nt : Nat) (Q : AExit → Env → AHeap → Prop) (_ : Hold b := ()) (_ : Hold Q := ()) : AExit → Env → AHeap → Prop
  | .normal, e, A => Lop K b nt e A Q
  | x, e, A => Q x e A
@[simp] theorem Lps_normal {b : Code} {nt : Nat} {e : Env} {A : AHeap} {Q : AExit → Env → AHeap → Prop} : Lps K b nt Q () () .normal e A = Lop K b nt e A Q := rfl
@[simp] theorem Lps_ret {b : Code} {nt : Nat} {e : Env} {A : AHeap} {Q : AExit → Env → AHeap → Prop} : Lps K b nt Q () () .ret e A = Q .ret e A := rfl
@[simp] theorem Lps_exit {b : Code} {nt id : Nat} {e : Env} {A : AHeap} {Q : AExit → Env → AHeap → Prop} : Lps K b nt Q () () (.exit id) e A = Q (.exit id) e A := rfl

theorem Lop_round {b : Code} {nt : Nat} {e : Env} {A : AHeap} {Q : AExit → Env → AHeap → Prop} (h : Cod K b nt e A (Lps K b nt Q)) : Lop K b nt e A Q := by
  obtain ⟨n, x, e1, A1, h, hq⟩ := h
  cases x with
  | normal =>
    obtain ⟨k, x, e', A', h2, hq⟩ := hq
    refine ⟨max n k + 1, x, e', A', ?_, hq⟩
    have h1 := (rec_le (K := K) (Nat.le_max_left n k)).code _ _ _ _ _ h
    have h3 := (rec_le (K := K) (Nat.le_max_right n k)).loop _ _ _ _ _ h2
    simp only [rec, stepRec, h1, h3]
  | ret => exact ⟨n + 1, _, _, _, by simp only [rec, stepRec, h], hq⟩
  | exit id => exact ⟨n + 1, _, _, _, by simp only [rec, stepRec, h], hq⟩

/-- Behind a loop's round. -/
def LpQ (I : Nat → Env → AHeap → Prop) (k : Nat) (Q : AExit → Env → AHeap → Prop) (_ : Hold I := ()) (_ : Hold Q := ()) : AExit → Env → AHeap → Prop
  | .normal, e, A => ∃ k' < k, I k' e A
  | x, e, A => Q x e A
theorem LpQ_ret {I : Nat → Env → AHeap → Prop} {k : Nat} {Q : AExit → Env → AHeap → Prop} {e : Env} {A : AHeap} : LpQ I k Q () () .ret e A = Q .ret e A := rfl
theorem LpQ_exit {I : Nat → Env → AHeap → Prop} {k id : Nat} {Q : AExit → Env → AHeap → Prop} {e : Env} {A : AHeap} : LpQ I k Q () () (.exit id) e A = Q (.exit id) e A := rfl

/-- A loop by what holds ahead of each round, and how many rounds are left at most. -/
theorem Lop_inv {b : Code} {nt : Nat} {Q : AExit → Env → AHeap → Prop} (I : Nat → Env → AHeap → Prop) (h : ∀ k e A, I k e A → Cod K b nt e A (LpQ I k Q)) :
    ∀ k e A, I k e A → Lop K b nt e A Q := by
  intro k
  induction k using Nat.strongRecOn with
  | ind k ih =>
    intro e A hI
    refine Lop_round ((h k e A hI).mono fun x e' A' hx => ?_)
    cases x with
    | normal => obtain ⟨k', hk, hI'⟩ := hx; exact ih k' hk e' A' hI'
    | ret => exact hx
    | exit id => exact hx

/-! ### Regions -/

theorem Ops_nil {ops : Array Oper} {nt : Nat} {e : Env} {A : AHeap} {Q : Env → AHeap → Prop} : Ops K ops nt [] e A Q ↔ Q e A := by
  constructor
  · rintro ⟨n, e', A', h, hq⟩
    simp only [evOps, Option.some.injEq, Prod.mk.injEq] at h
    obtain ⟨rfl, rfl⟩ := h
    exact hq
  · intro h; exact ⟨0, e, A, rfl, h⟩

theorem Ops_cons {ops : Array Oper} {nt : Nat} {d : Option Tmp} {o : Op} {ty : TypeId} {pos : String} {after : Array Edge} {rest : List Oper} {e : Env} {A : AHeap} {Q : Env → AHeap → Prop} :
    Ops K ops nt ({ dst := d, op := o, type := ty, pos := pos, after := after, guard := none } :: rest) e A Q ↔ OpW K o e A fun v A' => PutW nt e d v fun e' => Ops K ops nt rest e' A' Q := by
  constructor
  · rintro ⟨n, e', A', h, hq⟩
    simp only [evOps] at h
    split at h
    · split at h
      · rename_i v A1 hv
        split at h
        · rename_i e1 he1
          exact ⟨n, v, A1, hv, e1, he1, n, e', A', h, hq⟩
        · cases h
      · cases h
    · rename_i hw; exact absurd rfl hw
  · rintro ⟨n, v, A1, hv, e1, he1, k, e', A', h, hq⟩
    refine ⟨max n k, e', A', ?_, hq⟩
    have h1 := evOp_mono (rec_le (K := K) (Nat.le_max_left n k)) hv
    have h3 := evOps_mono (rec_le (K := K) (Nat.le_max_right n k)) _ _ _ _ h
    simp only [evOps, Region.wanted, if_true, h1, he1, h3]

/-- Of two ways the one that the condition says. -/
def Grd (c p q : Prop) (_ : Hold p := ()) (_ : Hold q := ()) : Prop := (c ∧ p) ∨ (¬ c ∧ q)

theorem Ops_guard {ops : Array Oper} {nt j : Nat} {want : Bool} {d : Option Tmp} {o : Op} {ty : TypeId} {pos : String} {after : Array Edge} {rest : List Oper} {e : Env} {A : AHeap} {Q : Env → AHeap → Prop} :
    Ops K ops nt ({ dst := d, op := o, type := ty, pos := pos, after := after, guard := some (j, want) } :: rest) e A Q ↔
      Grd (yieldedA ops e j = some want) (OpW K o e A fun v A' => PutW nt e d v fun e' => Ops K ops nt rest e' A' Q) (PutW nt e d undef fun e' => Ops K ops nt rest e' A Q) := by
  have hG : ∀ (c p q : Prop) [Decidable c], Grd c p q ↔ if c then p else q := by
    intro c p q _
    by_cases h : c <;> simp [Grd, h]
  rw [hG]
  constructor
  · rintro ⟨n, e', A', h, hq⟩
    simp only [evOps] at h
    split at h
    · rename_i hw
      simp only [Region.wanted, beq_iff_eq] at hw
      rw [if_pos hw]
      split at h
      · rename_i v A1 hv
        split at h
        · rename_i e1 he1
          exact ⟨n, v, A1, hv, e1, he1, n, e', A', h, hq⟩
        · cases h
      · cases h
    · rename_i hw
      simp only [Region.wanted, beq_iff_eq] at hw
      rw [if_neg hw]
      split at h
      · rename_i e1 he1
        exact ⟨e1, he1, n, e', A', h, hq⟩
      · cases h
  · intro h
    split at h
    · rename_i hw
      obtain ⟨n, v, A1, hv, e1, he1, k, e', A', h, hq⟩ := h
      refine ⟨max n k, e', A', ?_, hq⟩
      have h1 := evOp_mono (rec_le (K := K) (Nat.le_max_left n k)) hv
      have h3 := evOps_mono (rec_le (K := K) (Nat.le_max_right n k)) _ _ _ _ h
      simp only [evOps, Region.wanted, hw, beq_self_eq_true, if_true, h1, he1, h3]
    · rename_i hw
      obtain ⟨e1, he1, n, e', A', h, hq⟩ := h
      refine ⟨n, e', A', ?_, hq⟩
      have : (yieldedA ops e j == some want) = false := by simpa using hw
      simp only [evOps, Region.wanted, this, Bool.false_eq_true, if_false, he1, h]

theorem Cod_region {id : Nat} {ops : Array Oper} {nt : Nat} {e : Env} {A : AHeap} {Q : AExit → Env → AHeap → Prop} : Cod K (.region id ops false) nt e A Q ↔ Ops K ops nt ops.toList e A (Q .normal) := by
  constructor
  · rintro ⟨n, x, e', A', h, hq⟩
    cases n with
    | zero => simp [rec] at h
    | succ n =>
      simp only [rec, stepRec, Bool.false_eq_true, if_false] at h
      split at h
      · rename_i e1 A1 h1
        simp only [Option.some.injEq, Prod.mk.injEq] at h
        obtain ⟨rfl, rfl, rfl⟩ := h
        exact ⟨n, _, _, h1, hq⟩
      · cases h
  · rintro ⟨n, e', A', h, hq⟩
    exact ⟨n + 1, .normal, e', A', by simp only [rec, stepRec, Bool.false_eq_true, if_false, h], hq⟩

theorem PutW_some {nt : Nat} {e : Env} {d : Tmp} {v : Value} {Q : Env → Prop} : PutW nt e (some d) v Q ↔ d < nt ∧ Q (e.put d v) := by
  unfold PutW putD
  constructor
  · rintro ⟨e', h, hq⟩
    simp only at h
    split at h
    · rename_i hd; simp only [Option.some.injEq] at h; subst h; exact ⟨hd, hq⟩
    · cases h
  · rintro ⟨hd, hq⟩; exact ⟨_, if_pos hd, hq⟩
theorem PutW_none {nt : Nat} {e : Env} {v : Value} {Q : Env → Prop} : PutW nt e none v Q ↔ Q e := by
  unfold PutW putD
  constructor
  · rintro ⟨e', h, hq⟩; simp only [Option.some.injEq] at h; subst h; exact hq
  · intro hq; exact ⟨_, rfl, hq⟩
end
end Go.Sh
