/- Shadow, part 6: operations that look at no memory. -/
import Derived.Test.YteoefjahcbfpeaaShE
namespace Go.Sh
open Go

def tsize (P : Program) (t : TypeId) : Option Nat := (P.info? t).map (·.size)
def tzero (P : Program) (t : TypeId) : Option Value := (P.info? t).bind (·.zero)
def isAggD : TypeDesc → Bool
  | .struct _ => true
  | .array _ _ => true
  | _ => false

section
variable {P : Program} {W : World}
theorem run_typeInfo {t : TypeId} {i : TypeInfo} (h : P.info? t = some i) : (typeInfo t).run P W = .ok i W := by
  simp [typeInfo, program, Sem.run, h, bind, pure, Sem.bind]
theorem run_sizeOf {t : TypeId} {s : Nat} (h : tsize P t = some s) : (sizeOf t).run P W = .ok s W := by
  unfold tsize at h
  cases hi : P.info? t with
  | none => rw [hi] at h; cases h
  | some i =>
    rw [hi] at h; simp at h
    simp [sizeOf, run_typeInfo hi, Result.andThen, h]
theorem run_zeroValue {t : TypeId} {z : Value} (h : tzero P t = some z) : (zeroValue t).run P W = .ok z W := by
  unfold tzero at h
  cases hi : P.info? t with
  | none => rw [hi] at h; cases h
  | some i =>
    rw [hi] at h; simp at h
    simp [zeroValue, Sem.run_bind, run_typeInfo hi, Result.andThen, h]
theorem run_isAgg {t : TypeId} {d : TypeDesc} (h : P.underlying t = some d) : (isAgg t).run P W = .ok (isAggD d) W := by
  simp only [isAgg, Sem.run_bind, run_underlying h, Result.andThen]
  cases d <;> rfl
end

/-- Values that hold no address. -/
def simple : Value → Bool
  | .bool _ => true
  | .int _ _ => true
  | .float _ _ => true
  | .string _ => true
  | .pointer none => true
  | .slice none _ _ => true
  | .map none => true
  | .nilFunc => true
  | .nilIface => true
  | _ => false
theorem VRel.simple {m : Map} {v : Value} (h : Sh.simple v = true) : VRel m v v := by
  cases v with
  | bool b => exact .bool b
  | int k n => exact .int k n
  | float k n => exact .float k n
  | string s => exact .string s
  | pointer a => cases a with
    | none => exact .nilp
    | some a => simp [Sh.simple] at h
  | slice a l c => cases a with
    | none => exact .nils l c
    | some a => simp [Sh.simple] at h
  | map r => cases r with
    | none => exact .nilm
    | some a => simp [Sh.simple] at h
  | nilFunc => exact .nilFunc
  | nilIface => exact .nilIface
  | _ => simp [Sh.simple] at h

def flat : Value → Bool
  | .agg cs => cs.toList.all Sh.simple
  | .tuple cs => cs.toList.all Sh.simple
  | .func (.func _) fs cs => fs.toList.isEmpty && cs.toList.isEmpty
  | .iface _ v => Sh.simple v
  | v => Sh.simple v

theorem LRel.simple {m : Map} {l : List Value} (h : l.all Sh.simple = true) : LRel m l l := by
  refine ⟨rfl, fun i v v' hv hv' => ?_⟩
  rw [hv] at hv'; cases hv'
  exact VRel.simple ((List.all_eq_true.1 h) v (List.mem_of_getElem? hv))
theorem VRel.flat {m : Map} {v : Value} (h : Sh.flat v = true) : VRel m v v := by
  cases v with
  | agg cs => exact VRel.ofAgg (LRel.simple h)
  | tuple cs => exact VRel.ofTuple (LRel.simple h)
  | iface t v => exact .iface t (VRel.simple h)
  | func fn fs cs =>
    cases fn with
    | func f =>
      simp [Sh.flat] at h
      obtain ⟨h1, h2⟩ := h
      subst h1; subst h2
      exact .func (.func f) rfl (fun i v v' hv => by simp at hv) rfl (fun i v v' hv => by simp at hv)
    | _ => simp [Sh.flat, Sh.simple] at h
  | _ => exact VRel.simple h

/-! ### Numbers, strings, comparisons -/

def intBin (op : BinOp) (k : IntKind) (a b : Int) : Option Value :=
  match op with
  | .add => some (.int k (k.wrap (a + b)))
  | .sub => some (.int k (k.wrap (a - b)))
  | .mul => some (.int k (k.wrap (a * b)))
  | .quo => if b = 0 then none else some (.int k (k.wrap (a.tdiv b)))
  | .rem => if b = 0 then none else some (.int k (a.tmod b))
  | .and => some (.int k (k.wrap (BitVec.ofInt k.bits a &&& BitVec.ofInt k.bits b).toNat))
  | .or => some (.int k (k.wrap (BitVec.ofInt k.bits a ||| BitVec.ofInt k.bits b).toNat))
  | .xor => some (.int k (k.wrap (BitVec.ofInt k.bits a ^^^ BitVec.ofInt k.bits b).toNat))
  | .andNot => some (.int k (k.wrap (BitVec.ofInt k.bits a &&& ~~~BitVec.ofInt k.bits b).toNat))
  | .eql => some (.bool (a == b))
  | .neq => some (.bool (a != b))
  | .lss => some (.bool (decide (a < b)))
  | .leq => some (.bool (decide (a ≤ b)))
  | .gtr => some (.bool (decide (a > b)))
  | .geq => some (.bool (decide (a ≥ b)))
  | _ => none

def intShift (op : BinOp) (k : IntKind) (a b : Int) : Option Value :=
  if b < 0 then none else
  match op with
  | .shl => some (.int k (k.wrap (a * 2 ^ (min b.toNat k.bits))))
  | .shr => some (.int k (a.fdiv (2 ^ (min b.toNat k.bits))))
  | _ => none

def strBin (op : BinOp) (x y : ByteArray) : Option Value :=
  match op with
  | .add => if ((x.size + y.size : Nat) : Int) > IntKind.i64.max then none else some (.string (x ++ y))
  | .eql => some (.bool (x.toList == y.toList))
  | .neq => some (.bool !(x.toList == y.toList))
  | .lss => some (.bool (Op.bytesLess x.toList y.toList))
  | .leq => some (.bool (Op.bytesLess x.toList y.toList || x.toList == y.toList))
  | .gtr => some (.bool !(Op.bytesLess x.toList y.toList || x.toList == y.toList))
  | .geq => some (.bool !(Op.bytesLess x.toList y.toList))
  | _ => none

/-- '==' but for interface values of one type. -/
def aEq0 (P : Program) (t : TypeId) (x y : Value) : Option Bool :=
  match P.underlying t, x, y with
  | some .bool, .bool a, .bool b => some (a == b)
  | some (.int _), .int k a, .int k' b => if k = k' then some (a == b) else none
  | some .string, .string a, .string b => some (a == b)
  | some (.pointer _), .pointer none, .pointer b => some b.isNone
  | some (.pointer _), .pointer (some _), .pointer none => some false
  | some (.pointer el), .pointer (some ⟨b, o, none⟩), .pointer (some ⟨b', o', none⟩) =>
    match tsize P el with
    | some (_ + 1) => if b = b' then some (o == o') else none
    | _ => none
  | some (.interface _), .nilIface, .nilIface => some true
  | some (.interface _), .nilIface, .iface _ _ => some false
  | some (.interface _), .iface _ _, .nilIface => some false
  | some (.slice _), .slice none _ _, .slice b _ _ => some b.isNone
  | some (.slice _), .slice (some _) _ _, .slice none _ _ => some false
  | some (.map _ _), .map none, .map b => some b.isNone
  | some (.map _ _), .map (some _), .map none => some false
  | some (.func _ _ _), .nilFunc, .nilFunc => some true
  | some (.func _ _ _), .nilFunc, .func _ _ _ => some false
  | some (.func _ _ _), .func _ _ _, .nilFunc => some false
  | _, _, _ => none

def aEq (P : Program) (t : TypeId) (x y : Value) : Option Bool :=
  match P.underlying t, x, y with
  | some (.interface _), .iface tx vx, .iface ty vy =>
    if tx = ty then
      match P.info? tx with
      | some i => if i.comparable then aEq0 P tx vx vy else none
      | none => none
    else some false
  | _, _, _ => aEq0 P t x y

def isNilIface : Value → Bool
  | .nilIface => true
  | _ => false
def isAggV : Value → Bool
  | .agg _ => true
  | _ => false
def isConst : Operand → Bool
  | .const _ => true
  | _ => false

def aBin (P : Program) (op : BinOp) (t : TypeId) (cst : Bool) (x y : Value) : Option Value :=
  match x, y with
  | .int k a, .int k' b =>
    match op with
    | .shl => intShift .shl k a b
    | .shr => intShift .shr k a b
    | op => if k = k' then intBin op k a b else none
  | .string a, .string b => strBin op a b
  | x, y =>
    match op with
    | .eql => if isNilIface x && isNilIface y && !cst then none else (aEq P t x y).map .bool
    | .neq => if isNilIface x && isNilIface y && !cst then none else (aEq P t x y).map fun b => .bool !b
    | _ => none

section
variable {P : Program} {m : Map} {W : World}

theorem run_pureS {α : Type} (a : α) : (Sem.pure a : Sem α).run P W = .ok a W := rfl

theorem run_intBin {op : BinOp} {k : IntKind} {a b : Int} {v : Value} (hs : op ≠ .shl) (hs' : op ≠ .shr) (h : intBin op k a b = some v) (t : TypeId) :
    (binOp op t (.int k a) (.int k b)).run P W = .ok v W := by
  cases op <;> simp only [intBin, reduceCtorEq, Option.some.injEq] at h <;> try contradiction
  all_goals first
    | (subst h; simp [binOp, Op.intArith, Op.intBits, Op.intCmp]; done)
    | skip
  all_goals
    split at h
    · cases h
    · rename_i hb
      simp at h
      subst h
      simp [binOp, Op.intDiv, hb]

theorem run_intShift {op : BinOp} {k k' : IntKind} {a b : Int} {v : Value} (h : intShift op k a b = some v) (t : TypeId) :
    (binOp op t (.int k a) (.int k' b)).run P W = .ok v W := by
  unfold intShift at h
  split at h
  · cases h
  · rename_i hb
    cases op <;> simp only [reduceCtorEq, Option.some.injEq] at h
    all_goals (subst h; simp [binOp, Op.shift, hb])

theorem run_strBin {op : BinOp} {a b : ByteArray} {v : Value} (h : strBin op a b = some v) (t : TypeId) :
    (binOp op t (.string a) (.string b)).run P W = .ok v W := by
  cases op <;> simp only [strBin, reduceCtorEq, Option.some.injEq] at h
  all_goals first
    | (subst h; simp [binOp, Op.stringOp]; done)
    | skip
  split at h
  · cases h
  · rename_i hb
    simp at h
    subst h
    have hb' : ¬ IntKind.i64.max < ((a.size + b.size : Nat) : Int) := hb
    simp only [binOp, Op.stringOp, gt_iff_lt, hb', if_false]
    rfl

theorem VRel.isNilIface {v v' : Value} (h : VRel m v v') : Sh.isNilIface v' = Sh.isNilIface v := by cases h <;> rfl

theorem sim_eq0 {t : TypeId} {x y x' y' : Value} {r : Bool} (hx : VRel m x x') (hy : VRel m y y') (h : aEq0 P t x y = some r) (d : Nat) :
    (Op.equalIn (d + 1) t x' y').run P W = .ok r W := by
  unfold aEq0 at h
  split at h
  all_goals first
    | contradiction
    | skip
  all_goals
    rename_i hu
    rw [Op.equalIn, Sem.run_bind, run_underlying hu]
    simp only [Result.andThen]
  · cases hx; cases hy; simp at h; subst h; rfl
  · cases hx; cases hy
    split at h
    · rename_i hk; simp at h; subst h; simp [hk]
    · cases h
  · cases hx; cases hy; simp at h; subst h; rfl
  · cases hx; cases hy <;> (simp at h; subst h; rfl)
  · cases hx; cases hy; simp at h; subst h; rfl
  · split at h
    · rename_i s hs
      split at h
      · rename_i hb
        subst hb
        simp at h
        subst h
        cases hx with
        | ptr h1 =>
          cases hy with
          | ptr h2 =>
            rw [h1] at h2; cases h2
            have e : ∀ a b c : Nat, ((⟨c, a, none⟩ : Addr) == ⟨c, b, none⟩) = (a == b) := by
              intro a b c
              rw [Bool.eq_iff_iff]
              simp
            simp [run_sizeOf hs, Result.andThen, sameAddr, e]
            rw [Bool.eq_iff_iff]
            simp
      · cases h
    · cases h
  · cases hx <;> cases hy <;> (simp at h; subst h; rfl)
  · cases hx <;> cases hy <;> (simp at h; subst h; rfl)
  · cases hx <;> cases hy <;> (simp at h; subst h; rfl)
  · cases hx; cases hy <;> (simp at h; subst h; rfl)
  · cases hx <;> cases hy <;> (simp at h; subst h; rfl)
  · cases hx <;> cases hy <;> (simp at h; subst h; rfl)
  · cases hx <;> cases hy <;> (simp at h; subst h; rfl)
  · cases hx <;> cases hy <;> (simp at h; subst h; rfl)
  · cases hx <;> cases hy <;> (simp at h; subst h; rfl)

theorem sim_eq {t : TypeId} {x y x' y' : Value} {r : Bool} (hx : VRel m x x') (hy : VRel m y y') (h : aEq P t x y = some r) :
    (Op.equal t x' y').run P W = .ok r W := by
  have hd : Op.maxDepth = 9998 + 1 + 1 := rfl
  unfold aEq at h
  split at h
  · rename_i hu
    rw [Op.equal, hd, Op.equalIn, Sem.run_bind, run_underlying hu]
    simp only [Result.andThen]
    cases hx with
    | iface tx hx =>
      cases hy with
      | iface ty hy =>
        split at h
        · rename_i e
          subst e
          split at h
          · rename_i i hi
            split at h
            · rename_i hc
              simp [Sem.run_bind, run_typeInfo hi, Result.andThen, hc, sim_eq0 hx hy h]
            · cases h
          · cases h
        · rename_i e
          simp at h
          subst h
          simp [e]
  · rw [Op.equal, hd]
    exact sim_eq0 hx hy h (9998 + 1)

/-- '==', '!=': the guard lets it by. -/
theorem run_eqGuard {op : BinOp} {t : TypeId} {x y : Operand} {a b : Value} (h1 : (isNilIface a && isNilIface b && !(isConst x || isConst y)) = false) (h2 : isAggV a = false) :
    (eqGuard op t x y a b).run P W = .ok () W := by
  cases a with
  | agg cs => simp [isAggV] at h2
  | nilIface =>
    cases b with
    | nilIface =>
      cases x <;> cases y <;> first | (simp [isNilIface, isConst] at h1; done) | (cases op <;> rfl)
    | _ => cases op <;> rfl
  | _ => cases op <;> rfl

theorem VRel.notAgg {v v' : Value} (h : VRel m v v') : isAggV v' = isAggV v := by cases h <;> rfl

theorem aEq_notAgg {t : TypeId} {x y : Value} {r : Bool} (h : aEq P t x y = some r) : isAggV x = false := by
  cases x with
  | agg cs =>
    unfold aEq at h
    split at h
    · cases ‹Value.agg cs = _›
    · unfold aEq0 at h
      split at h <;> first | contradiction | (cases ‹Value.agg cs = _›)
  | _ => rfl

def bothNum : Value → Value → Bool
  | .int _ _, .int _ _ => true
  | .string _, .string _ => true
  | .float _ _, .float _ _ => true
  | _, _ => false

theorem binOp_eql {t : TypeId} {a b : Value} {m : Map} {a' b' : Value} (ha : VRel m a a') (hb : VRel m b b') (h : bothNum a b = false) :
    binOp .eql t a' b' = (do pure (.bool (← Op.equal t a' b'))) ∧ binOp .neq t a' b' = (do pure (.bool (!(← Op.equal t a' b')))) := by
  cases ha <;> cases hb <;> first | exact ⟨rfl, rfl⟩ | (simp [bothNum] at h)

theorem aEq_notNum {t : TypeId} {x y : Value} {r : Bool} (h : aEq P t x y = some r) (h1 : ∀ k a k' b, x = .int k a → y = .int k' b → False) (h2 : ∀ a b, x = .string a → y = .string b → False) :
    bothNum x y = false := by
  cases x <;> cases y <;> first | rfl | exact (h1 _ _ _ _ rfl rfl).elim | exact (h2 _ _ rfl rfl).elim | skip
  exfalso
  unfold aEq at h
  split at h
  · contradiction
  · unfold aEq0 at h
    split at h <;> contradiction

theorem sim_bin {op : BinOp} {t : TypeId} {x y : Operand} {a b a' b' v : Value} (ha : VRel m a a') (hb : VRel m b b') (h : aBin P op t (isConst x || isConst y) a b = some v) :
    ∃ v', (∀ W, (do eqGuard op t x y a' b'; binOp op t a' b' : Sem Value).run P W = .ok v' W) ∧ VRel m v v' := by
  unfold aBin at h
  split at h
  · -- two numbers
    rename_i k a k' b
    cases ha; cases hb
    have hg : ∀ W, (eqGuard op t x y (.int k a) (.int k' b)).run P W = .ok () W := fun W => run_eqGuard rfl rfl
    refine ⟨v, fun W => ?_, ?_⟩
    · rw [Sem.run_bind, hg]
      simp only [Result.andThen]
      split at h
      · exact run_intShift h t
      · exact run_intShift h t
      · rename_i h1 h2
        split at h
        · rename_i hk
          subst hk
          exact run_intBin h1 h2 h t
        · cases h
    · have hs : simple v = true := by
        split at h
        · unfold intShift at h; split at h <;> simp at h; subst h; rfl
        · unfold intShift at h; split at h <;> simp at h; subst h; rfl
        · split at h
          · unfold intBin at h; split at h <;> (try split at h) <;> simp at h <;> (subst h; rfl)
          · cases h
      exact VRel.simple hs
  · rename_i a b
    cases ha; cases hb
    have hg : ∀ W, (eqGuard op t x y (.string a) (.string b)).run P W = .ok () W := fun W => run_eqGuard rfl rfl
    refine ⟨v, fun W => ?_, ?_⟩
    · rw [Sem.run_bind, hg]
      exact run_strBin h t
    · have hs : simple v = true := by
        unfold strBin at h; split at h <;> (try split at h) <;> simp at h <;> (subst h; rfl)
      exact VRel.simple hs
  · split at h
    · split at h
      · cases h
      · rename_i h1 h2 _ hn
        simp only [Option.map_eq_some_iff] at h
        obtain ⟨r, hr, rfl⟩ := h
        have hg : ∀ W, (eqGuard .eql t x y a' b').run P W = .ok () W := by
          intro W
          refine run_eqGuard ?_ ?_
          · rw [ha.isNilIface, hb.isNilIface]; simpa using hn
          · rw [ha.notAgg]; exact aEq_notAgg hr
        refine ⟨.bool r, fun W => ?_, .bool r⟩
        rw [Sem.run_bind, hg]
        simp only [Result.andThen]
        rw [(binOp_eql ha hb (aEq_notNum hr h1 h2)).1, Sem.run_bind, sim_eq ha hb hr]
        rfl
    · split at h
      · cases h
      · rename_i h1 h2 _ hn
        simp only [Option.map_eq_some_iff] at h
        obtain ⟨r, hr, rfl⟩ := h
        have hg : ∀ W, (eqGuard .neq t x y a' b').run P W = .ok () W := by
          intro W
          refine run_eqGuard ?_ ?_
          · rw [ha.isNilIface, hb.isNilIface]; simpa using hn
          · rw [ha.notAgg]; exact aEq_notAgg hr
        refine ⟨.bool !r, fun W => ?_, .bool _⟩
        rw [Sem.run_bind, hg]
        simp only [Result.andThen]
        rw [(binOp_eql ha hb (aEq_notNum hr h1 h2)).2, Sem.run_bind, sim_eq ha hb hr]
        rfl
    · cases h
end
end Go.Sh
