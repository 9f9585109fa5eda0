/- errors.As where the error is a fault and the target a fault's variable: true, the variable written; four blocks of its own. -/
import Derived.Test.YteoefjahcbfpeaaDoorEas
import Derived.Test.YteoefjahcbfpeaaDoorErf
import Derived.Lib.ReflectliteSwap
namespace Go.Sh
open Go Go.Proofs Go.RowKit Go.Extern.Stop Go.Stop Go.Extern

theorem handleF : True := trivial
theorem typeOfF (v : Value) (w : World) : (Extern.ReflectliteType.typeOf #[.iface 49 v]).run Tryd.prog w = .ok (.iface 126 (.agg #[.pointer (some ⟨1, 49, none⟩)])) w := by kernel_rfl
theorem callAssignF (w : World) : (callFunc 112 #[.agg #[.pointer (some ⟨1, 49, none⟩)], .iface 126 (.agg #[.pointer (some ⟨1, 49, none⟩)])]).run Tryd.prog w = .ok (.value (.bool true)) w := by
  rw [@run_callFunc_extern Tryd.prog 112 _ (ReflectliteType.relation "AssignableTo" ReflectliteType.assignableTo) Tryd.func112 (by kernel_rfl) (by kernel_rfl) (by kernel_rfl) (by kernel_rfl)]
  kernel_rfl
theorem valueOfFault (n l a : Int) (w : World) : (ReflectliteValue.unpack (.iface 49 (faultV n l a))).run Tryd.prog w
    = .ok (.agg #[.pointer (some ⟨1, 49, none⟩), .pointer (some ⟨w.heap.size, 0, none⟩), .int .u64 153]) (w.alloc (.cells #[.int .i64 n, .int .i64 l, .int .i64 a] 49)) := by kernel_rfl
theorem mkF (p : Addr) (w : World) : (ReflectliteValue.mk 49 p ReflectliteValue.flagAddr).run Tryd.prog w = .ok (.agg #[.pointer (some ⟨1, 49, none⟩), .pointer (some p), .int .u64 409]) w := by kernel_rfl
theorem elemTF (w : World) : (Rtype.elem? 73).run Tryd.prog w = .ok (some 49) w := by kernel_rfl
theorem elemF (a p : Addr) (W : World) (ha : W.cell? a = some (.pointer (some p))) :
    (ReflectliteValue.method (ReflectliteValue.valueError "reflectlite.Value.Elem" 0) ReflectliteValue.elem #[.agg #[.pointer (some ⟨1, 73, none⟩), .pointer (some a), .int .u64 150]]).run Tryd.prog W = .ok (.agg #[.pointer (some ⟨1, 49, none⟩), .pointer (some p), .int .u64 409]) W := by
  rw [rlm]
  simp only [Sem.run_bind,partsF,Result.andThen]
  simp [ReflectliteValue.elem, loadVar, isAgg, underlying, Tryd.underlying73, ha, Result.andThen, elemTF, mkF]
theorem partsG (a : Addr) (w : World) : (ReflectliteValue.parts (.agg #[.pointer (some ⟨1, 49, none⟩), .pointer (some a), .int .u64 409])).run Tryd.prog w = .ok (some (49, a, 409)) w := by kernel_rfl
theorem partsH (a : Addr) (w : World) : (ReflectliteValue.parts (.agg #[.pointer (some ⟨1, 49, none⟩), .pointer (some a), .int .u64 153])).run Tryd.prog w = .ok (some (49, a, 153)) w := by kernel_rfl
theorem dirF (w : World) : (Rtype.directlyAssignable 49 49).run Tryd.prog w = .ok true w := by kernel_rfl
theorem set_eq (v x : Value) : ReflectliteValue.set #[v, x] = (do
    let (some (dst, a, fl), some (src, b, _)) := (← ReflectliteValue.parts v, ← ReflectliteValue.parts x)
      | unsupported (.noEntry "extern/(internal/reflectlite.Value).Set.zeroValue")
    if fl / ReflectliteValue.flagAddr % 2 == 0 then unsupported (.noEntry "extern/(internal/reflectlite.Value).Set.unaddressable")
    let val ← loadVar src b
    if ← Rtype.directlyAssignable dst src then storeVar dst a val
    else if ← Rtype.implements dst src then
      if (← Rtype.kind src) == 20 then
        match val with
        | .nilIface => unsupported (.noEntry "extern/reflectlite: a nil value of one interface type handed on as a value of another")
        | _ => storeVar dst a val
      else storeVar dst a (.iface src val)
    else panicString ("reflectlite.Set: value of type " ++ (← Rtype.spelt src) ++ " is not assignable to type " ++ (← Rtype.spelt dst))
    pure (.tuple #[])) := rfl
theorem setF (t b : Addr) (v : Value) (w w' : World) (hl : (loadVar 49 b).run Tryd.prog w = .ok v w) (hs : (storeVar 49 t v).run Tryd.prog w = .ok () w') :
    (ReflectliteValue.set #[.agg #[.pointer (some ⟨1, 49, none⟩), .pointer (some t), .int .u64 409], .agg #[.pointer (some ⟨1, 49, none⟩), .pointer (some b), .int .u64 153]]).run Tryd.prog w = .ok (.tuple #[]) w' := by
  rw [set_eq]
  simp [Sem.run_bind, partsG, partsH, Result.andThen, hl, dirF, hs, ReflectliteValue.flagAddr]

theorem infoF : Tryd.prog.info? 49 = some ((Tryd.prog.info? 49).getD default) := by kernel_rfl
theorem aggF (w : World) : (isAgg 49).run Tryd.prog w = .ok true w := by kernel_rfl
abbrev hC1 (t : Addr) : Obj := .cells #[.pointer (some t)] 73
abbrev hC2 (w : World) : Obj := .cells #[.pointer (some ⟨1, 73, none⟩), .pointer (some ⟨w.heap.size, 0, none⟩), .int .u64 150] 103
abbrev hC4 (n l a : Int) : Obj := .cells #[.int .i64 n, .int .i64 l, .int .i64 a] 49
set_option maxRecDepth 100000 in
set_option maxHeartbeats 8000000 in
theorem as_hit (n l a : Int) (t : Addr) (w w' : World) (hg : w.cell? ⟨0, 0, none⟩ = some (.iface 126 (.agg #[.pointer (some ⟨1, 26, none⟩)])))
    (hs : (storeVar 49 t (faultV n l a)).run Tryd.prog ((((w.alloc (hC1 t)).alloc (hC2 w)).alloc (hC2 w)).alloc (hC4 n l a)) = .ok () w') :
    Calls Tryd.prog 41 #[.iface 49 (faultV n l a), .iface 73 (.pointer (some t))] w fun ev w'' => ev = .returned (.bool true) ∧ w'' = w' := by
  have h6 := @run_callFunc_extern Tryd.prog 63 _ (fun args => ReflectliteValue.unpack (args.getD 0 (.tuple #[]))) Tryd.func63 (by kernel_rfl) (by kernel_rfl) (by kernel_rfl) (by kernel_rfl)
  have h7 := @run_callFunc_extern Tryd.prog 64 _ (ReflectliteValue.methodAny (ReflectliteValue.valueError "reflectlite.Value.Type" 0) (fun t _ _ _ => ReflectliteType.toType t)) Tryd.func64 (by kernel_rfl) (by kernel_rfl) (by kernel_rfl) (by kernel_rfl)
  have h8 := @run_callFunc_extern Tryd.prog 65 _ (ReflectliteValue.method (ReflectliteValue.valueError "reflectlite.Value.IsNil" 0) ReflectliteValue.isNil) Tryd.func65 (by kernel_rfl) (by kernel_rfl) (by kernel_rfl) (by kernel_rfl)
  have h9 := @run_callFunc_extern Tryd.prog 79 _ (ReflectliteValue.method (ReflectliteValue.valueError "reflectlite.Value.Elem" 0) ReflectliteValue.elem) Tryd.func79 (by kernel_rfl) (by kernel_rfl) (by kernel_rfl) (by kernel_rfl)
  have h11 := @run_callFunc_extern Tryd.prog 80 _ ReflectliteValue.set Tryd.func80 (by kernel_rfl) (by kernel_rfl) (by kernel_rfl) (by kernel_rfl)
  have h10 := @run_callFunc_extern Tryd.prog 70 _ ReflectliteType.typeOf Tryd.func70 (by kernel_rfl) (by kernel_rfl) (by kernel_rfl) (by kernel_rfl)
  have tO := typeOfF (faultV n l a)
  have mA := methodAssignableTo
  have aE := callAssignF
  have f6 := valueOfF
  have f6' := valueOfFault n l a
  have f7 := typeF
  have mK := methodKind
  have mE := methodElem
  have mI := methodImplements
  have kP := callKindP
  have kS := callKindS
  have eF := callElem
  have iF := callImplements
  have n8 := isNilF ⟨w.heap.size, 0, none⟩ t ((w.alloc (.cells #[.pointer (some t)] 73)).alloc (.cells #[.pointer (some ⟨1, 73, none⟩), .pointer (some ⟨w.heap.size, 0, none⟩), .int .u64 150] 103)) (by simp)
  have n9 := elemF ⟨w.heap.size, 0, none⟩ t (((w.alloc (.cells #[.pointer (some t)] 73)).alloc (.cells #[.pointer (some ⟨1, 73, none⟩), .pointer (some ⟨w.heap.size, 0, none⟩), .int .u64 150] 103)).alloc (.cells #[.pointer (some ⟨1, 73, none⟩), .pointer (some ⟨w.heap.size, 0, none⟩), .int .u64 150] 103)) (by rw [World.cell?_alloc_lt _ _ ⟨w.heap.size, 0, none⟩ (by simp; omega)]; simp)
  have hlt : 0 < w.heap.size := by
    rcases Nat.eq_zero_or_pos w.heap.size with h0 | h
    · simp [World.cell?, h0] at hg
    · exact h
  have hg2 : ((w.alloc (.cells #[.pointer (some t)] 73)).alloc (.cells #[.pointer (some ⟨1, 73, none⟩), .pointer (some ⟨w.heap.size, 0, none⟩), .int .u64 150] 103)).cell? ⟨0, 0, none⟩ = some (.iface 126 (.agg #[.pointer (some ⟨1, 26, none⟩)])) := by
    rw [World.cell?_alloc_lt _ _ ⟨0, 0, none⟩ (by simp), World.cell?_alloc_lt _ _ ⟨0, 0, none⟩ hlt]; exact hg
  have hh : ((((w.alloc (hC1 t)).alloc (hC2 w)).alloc (hC2 w)).alloc (hC4 n l a)).heap[w.heap.size + 1 + 1 + 1]? = some (hC4 n l a) := by
    have e : w.heap.size + 1 + 1 + 1 = (((w.alloc (hC1 t)).alloc (hC2 w)).alloc (hC2 w)).heap.size := by simp
    rw [e]
    exact Array.getElem?_push_size
  have hl : (loadVar 49 ⟨w.heap.size + 1 + 1 + 1, 0, none⟩).run Tryd.prog ((((w.alloc (hC1 t)).alloc (hC2 w)).alloc (hC2 w)).alloc (hC4 n l a)) = .ok (faultV n l a) ((((w.alloc (hC1 t)).alloc (hC2 w)).alloc (hC2 w)).alloc (hC4 n l a)) := by
    exact Lib.rl_loadVar_cells (P := Tryd.prog) 49 _ infoF aggF _ 0 [.int .i64 n, .int .i64 l, .int .i64 a] rfl _ fun k v hk => by
      match k, hk with
      | 0, hk => cases hk; unfold World.cell?; simp only [Nat.zero_add]; rw [hh]; rfl
      | 1, hk => cases hk; unfold World.cell?; simp only [Nat.zero_add]; rw [hh]; rfl
      | 2, hk => cases hk; unfold World.cell?; simp only [Nat.zero_add]; rw [hh]; rfl
      | k + 3, hk => simp at hk
  have n11 := setF t _ _ _ w' hl hs
  go_enter Tryd.func41, Tryd.ntmps41
  go_wp2
  refine wp_loop_rounds 1 ?_
  rw [rounds_succ]
  go_wp2
  go_ret
  exact ⟨rfl, rfl⟩
end Go.Sh
