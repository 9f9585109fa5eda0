/- Shadow, part 13: the abstract machine. -/
import Derived.Test.YteoefjahcbfpeaaShL
namespace Go.Sh
open Go

inductive AExit where
  | normal
  | ret
  | exit (id : Nat)
  deriving DecidableEq

abbrev Env := Nat → Value
def Env.put (e : Env) (d : Nat) (v : Value) : Env := fun t => if t = d then v else e t

def opv (e : Env) : Operand → Value
  | .tmp t => e t
  | .const v => v
  | .global g => .pointer (some ⟨g, 0, none⟩)
  | .func f => .func (.func f) #[] #[]

def okOpd : Operand → Bool
  | .tmp _ => true
  | .const v => flat v
  | .global _ => false
  | .func _ => true

abbrev Res := Option (AExit × Env × AHeap)

/-- What the machine calls upon, one round of fuel less. -/
structure Rec where
  code : Code → Nat → Env → AHeap → Res
  loop : Code → Nat → Env → AHeap → Res
  call : FuncId → Array Value → AHeap → Option (Value × AHeap)
  round : Nat → Array Value → AHeap → Option (Value × AHeap)

/-- The program; the functions that are walked; functions that are taken by a contract. -/
structure Ctx where
  P : Program
  funcs : FuncId → Option Func
  prim : FuncId → Array Value → AHeap → Option (Value × AHeap)
  same : Value → Value → Bool

section
variable (K : Ctx) (r : Rec)

def callF (g : FuncId) (args : Array Value) (A : AHeap) : Option (Value × AHeap) :=
  match K.prim g args A with
  | some x => some x
  | none => r.call g args A

def callV (fv : Value) (args : Array Value) (A : AHeap) : Option (Value × AHeap) :=
  match fv with
  | .func (.func g) first captured => callF K r g (first ++ args ++ captured) A
  | .func (.yield l) first _ => r.round l (first ++ args) A
  | _ => none

/-- One operation, but for its guard. -/
def evOp (o : Op) (e : Env) (A : AHeap) : Option (Value × AHeap) :=
  if o.operands.toList.all okOpd then
    match o with
    | .call { callee := .value f, args := xs, argTypes := _ } => callV K r (opv e f) (xs.map (opv e)) A
    | o =>
      match aPure K.P o (opv e) with
      | some v => some (v, A)
      | none =>
        match aRead K.P A o (opv e) with
        | some v => some (v, A)
        | none => aEff K.P A o (opv e)
  else none

def yieldedA (ops : Array Oper) (e : Env) (j : Nat) : Option Bool :=
  match (ops[j]?).bind (·.dst) with
  | some d => (match e d with | .bool b => some b | _ => none)
  | none => none

def putD (nt : Nat) (e : Env) (d : Option Tmp) (v : Value) : Option Env :=
  match d with
  | some d => if d < nt then some (e.put d v) else none
  | none => some e

/-- The operations of a region, one behind the other. -/
def evOps (ops : Array Oper) (nt : Nat) : List Oper → Env → AHeap → Option (Env × AHeap)
  | [], e, A => some (e, A)
  | o :: rest, e, A =>
    if Region.wanted o (yieldedA ops e) then
      match evOp K r o.op e A with
      | some (v, A') =>
        match putD nt e o.dst v with
        | some e' => evOps ops nt rest e' A'
        | none => none
      | none => none
    else
      match putD nt e o.dst undef with
      | some e' => evOps ops nt rest e' A
      | none => none

/-! ### A region that draws its order -/

/-- 1: looks at no memory; 2: reads it; 3: whatever else. -/
def kindS (P : Program) (o : Op) : Nat :=
  match o with
  | .move _ | .assign _ | .pick .. | .build .. | .nilCheck _ | .binOp .. | .unOp .. | .makeInterface .. | .makeFunc .. | .fieldAddr .. | .field .. | .indexAddr .. | .index ..
  | .typeAssert .. | .extract .. => 1
  | .load .. | .slice .. => 2
  | .convert _ d _ => if P.underlying d matches some (.slice _) then 3 else 2
  | .call { callee := .builtin .len, .. } => 1
  | .call { callee := .builtin .unsafeSliceData, .. } => 1
  | _ => 3

/-- Which operations must go ahead, as a number's bits. -/
def ancs (ops : List Oper) : List Nat :=
  ops.foldl (fun acc o => acc ++ [o.after.toList.foldl (fun s (ed : Edge) => if Region.binds .any ed then s ||| 2 ^ ed.on ||| acc.getD ed.on 0 else s) 0]) []

def isAnc (an : List Nat) (j i : Nat) : Bool := (an.getD i 0).testBit j

def namesOf (ops : Array Oper) (o : Oper) : List Tmp :=
  o.dst.toList ++ (o.op.operands.toList.filterMap fun | .tmp t => some t | _ => none) ++ (match o.guard with | some (j, _) => ((ops[j]?).bind (·.dst)).toList | none => [])

/-- Two operations of which one writes what the other one names go in the order of the text; so do two that turn memory; the edges go backwards. -/
def drawOk (P : Program) (ops : Array Oper) : Bool :=
  let an := ancs ops.toList
  (ops.toList.zipIdx.all fun (oj, j) => oj.after.toList.all (fun ed => !Region.binds .any ed || decide (ed.on < j)) &&
    (ops.toList.zipIdx.all fun (oi, i) => decide (j ≤ i) || isAnc an i j ||
      (!(oi.dst.toList.any (namesOf ops oj).contains) && !(oj.dst.toList.any (namesOf ops oi).contains) && !(kindS P oi.op == 3 && kindS P oj.op == 3))))

/-- The pairs (a read i, an operation p that turns memory) whose order is open. -/
def openPairs (P : Program) (ops : Array Oper) : List (Nat × Nat) :=
  let an := ancs ops.toList
  ops.toList.zipIdx.flatMap fun (oi, i) => if kindS P oi.op == 2 then
    ops.toList.zipIdx.filterMap fun (op, p) => if kindS P op.op == 3 && !isAnc an p i && !isAnc an i p then some (i, p) else none
    else []

def evPR (P : Program) (o : Op) (e : Env) (A : AHeap) : Option Value :=
  match aPure P o (opv e) with
  | some v => some v
  | none => aRead P A o (opv e)

def evK (o : Op) (e : Env) (A : AHeap) : Option (Value × AHeap) :=
  if kindS K.P o = 3 then evOp K r o e A
  else if o.operands.toList.all okOpd then
    if kindS K.P o = 1 then (match aPure K.P o (opv e) with | some v => some (v, A) | none => none)
    else (match evPR K.P o e A with | some v => some (v, A) | none => none)
  else none

structure TI where
  e : Env
  A : AHeap
  w : Bool
  v : Value

def evTrace (ops : Array Oper) (nt : Nat) : List Oper → Env → AHeap → Option (List TI × Env × AHeap)
  | [], e, A => some ([], e, A)
  | o :: rest, e, A =>
    if Region.wanted o (yieldedA ops e) then
      match evK K r o.op e A with
      | some (v, A') =>
        match putD nt e o.dst v with
        | some e' =>
          match evTrace ops nt rest e' A' with
          | some (T, eN, AN) => some (⟨e, A, true, v⟩ :: T, eN, AN)
          | none => none
        | none => none
      | none => none
    else
      match putD nt e o.dst undef with
      | some e' =>
        match evTrace ops nt rest e' A with
        | some (T, eN, AN) => some (⟨e, A, false, undef⟩ :: T, eN, AN)
        | none => none
      | none => none

def heapAt (T : List TI) (AN : AHeap) (i q : Nat) : Option AHeap :=
  if q < i then (match T[q]? with | some u => some u.A | none => none) else (match T[q + 1]? with | some u => some u.A | none => some AN)

def stable (ops : Array Oper) (T : List TI) (AN : AHeap) (ip : Nat × Nat) : Bool :=
  match T[ip.1]?, ops[ip.1]? with
  | some t, some o =>
    if t.w then
      match heapAt T AN ip.1 ip.2 with
      | some H => (match evPR K.P o.op t.e H with | some v => K.same v t.v | none => false)
      | none => false
    else true
  | _, _ => false

def evDraw (ops : Array Oper) (nt : Nat) (e : Env) (A : AHeap) : Option (Env × AHeap) :=
  if drawOk K.P ops then
    match evTrace K r ops nt ops.toList e A with
    | some (T, eN, AN) => if (openPairs K.P ops).all (stable K ops T AN) then some (eN, AN) else none
    | none => none
  else none

/-! ### Code -/

def aResult (A : AHeap) (e : Env) : ResultVar → Option Value
  | .tmp t => some (e t)
  | .cell a t => aLoadVar K.P A t (e a)

def aResults (A : AHeap) (e : Env) : List ResultVar → Option (List Value)
  | [] => some []
  | x :: xs =>
    match aResult K A e x, aResults A e xs with
    | some v, some vs => some (v :: vs)
    | _, _ => none

def oneOr : List Value → Value
  | [v] => v
  | vs => .tuple vs.toArray

def bindAll (nt : Nat) (e : Env) : List Tmp → List Value → Option Env
  | [], _ => some e
  | t :: ts, v :: vs => if t < nt then bindAll nt (e.put t v) ts vs else none
  | _ :: _, [] => none

def AExit.jump : AExit → Option Code
  | .normal => none
  | .ret => some .ret
  | .exit id => some (.exit id)

def getLoopA (A : AHeap) (l : Nat) : Option ALoop :=
  match A.get l with
  | some (.loop lo) => some lo
  | _ => none

def stepRec : Rec where
  code := fun c nt e A =>
    match c with
    | .skip => some (.normal, e, A)
    | .region _ ops draw =>
      match (if draw then evDraw K r ops nt e A else evOps K r ops nt ops.toList e A) with
      | some (e', A') => some (.normal, e', A')
      | none => none
    | .seq a b =>
      match r.code a nt e A with
      | some (.normal, e', A') => r.code b nt e' A'
      | x => x
    | .cond c a b =>
      if okOpd c then
        match opv e c with
        | .bool true => r.code a nt e A
        | .bool false => r.code b nt e A
        | _ => none
      else none
    | .block id body =>
      match r.code body nt e A with
      | some (.exit id', e', A') => if id' = id then some (.normal, e', A') else some (.exit id', e', A')
      | x => x
    | .loop body => r.loop body nt e A
    | .rangeFunc f ps assign body =>
      if okOpd f then
        match opv e f with
        | .func (.func g) first captured =>
          match r.call g (first ++ #[.func (.yield A.next) #[] #[]] ++ captured) (A.alloc (.loop ⟨.ready, none, e, nt, ps, assign, body⟩)) with
          | some (_, A2) =>
            match getLoopA A2 A.next with
            | some lo =>
              if lo.state = .busy then none
              else
                let A3 := A2.set A.next (.loop { lo with state := .exhausted })
                match lo.pending with
                | none => some (.normal, e, A3)
                | some .ret => some (.ret, e, A3)
                | some (.exit id) => some (.exit id, e, A3)
                | _ => none
            | none => none
          | none => none
        | _ => none
      else none
    | .exit id => some (.exit id, e, A)
    | .ret => some (.ret, e, A)
    | _ => none
  loop := fun c nt e A =>
    match r.code c nt e A with
    | some (.normal, e', A') => r.loop c nt e' A'
    | x => x
  call := fun g args A =>
    match K.funcs g with
    | some fn =>
      match fn.body with
      | some c =>
        if args.size ≤ fn.ntmps then
          match r.code c fn.ntmps (fun t => args.getD t undef) A with
          | some (.exit _, _, _) => none
          | some (_, e', A') => (aResults K A' e' fn.results.toList).map fun vs => (oneOr vs, A')
          | none => none
        else none
      | none => none
    | none => none
  round := fun l args A =>
    match getLoopA A l with
    | some lo =>
      if args.size = lo.params.size then
        match bindAll lo.nt lo.env lo.params.toList args.toList with
        | some e1 =>
          match r.code lo.assign lo.nt e1 A with
          | some (.normal, e2, A2) =>
            match getLoopA A2 l with
            | some lo2 =>
              if lo2.state = .ready then
                match r.code lo.body lo.nt e2 (A2.set l (.loop { lo2 with state := .busy })) with
                | some (x, _, A4) =>
                  match getLoopA A4 l with
                  | some lo4 => some (.bool x.jump.isNone, A4.set l (.loop { lo4 with state := if x.jump.isNone then .ready else .done, pending := x.jump }))
                  | none => none
                | none => none
              else none
            | none => none
          | _ => none
        | none => none
      else none
    | none => none
end

def rec (K : Ctx) : Nat → Rec
  | 0 => ⟨fun _ _ _ _ => none, fun _ _ _ _ => none, fun _ _ _ => none, fun _ _ _ => none⟩
  | n + 1 => stepRec K (rec K n)
end Go.Sh
