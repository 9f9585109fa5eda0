/- errors.Is and errors.As at the errors of this seat, by Go's own text. -/
import Derived.Test.YteoefjahcbfpeaaDoorProg
import Derived.WalkKit
import Derived.LaidEql
import Derived.Lib.IfaceEq
import Derived.Stop.Asserts
import Derived.RowKitTokens
namespace Go.Sh
open Go Go.Proofs Go.RowKit Go.Extern.Stop Go.Stop Go.Extern

theorem ngl : Tryd.prog.globals.size = 1 := by kernel_rfl
theorem typeOfE (v : Value) (w : World) : (Extern.ReflectliteType.typeOf #[.iface 47 v]).run Tryd.prog w = .ok (.iface 126 (.agg #[.pointer (some ⟨1, 47, none⟩)])) w := by kernel_rfl
theorem comparableE (w : World) : ((Extern.ReflectliteType.method fun t => do Go.Extern.Rtype.noPackHeld "Comparable" t; pure (.bool (← typeInfo t).comparable)) #[.agg #[.pointer (some ⟨1, 47, none⟩)]]).run Tryd.prog w = .ok (.bool true) w := by kernel_rfl
theorem callComparable (w : World) : (callFunc 113 #[.agg #[.pointer (some ⟨1, 47, none⟩)]]).run Tryd.prog w = .ok (.value (.bool true)) w := by
  rw [@run_callFunc_extern Tryd.prog 113 _ (Extern.ReflectliteType.method fun t => do Go.Extern.Rtype.noPackHeld "Comparable" t; pure (.bool (← typeInfo t).comparable)) Tryd.func113 (by kernel_rfl) (by kernel_rfl) (by kernel_rfl) (by kernel_rfl), comparableE]
  rfl
theorem methodComparable (v : Value) (w : World) : (Go.method 281 126 v "Comparable").run Tryd.prog w = .ok (113, v) w := by kernel_rfl
theorem compE : (Tryd.prog.info? 47).map (·.comparable) = some true := by kernel_rfl
theorem noIsE (v : Value) (xT : TypeId) (w : World) : (Instr.typeAssert (.iface 47 v) xT 138 true).run Tryd.prog w = .ok (.tuple #[.nilIface, .bool false]) w := run_typeAssert_lacksB Tryd.underlying138 (by kernel_rfl) (by kernel_rfl) v xT w
theorem noUnwrapE (v : Value) (xT : TypeId) (w : World) : (Instr.typeAssert (.iface 47 v) xT 133 true).run Tryd.prog w = .ok (.tuple #[.nilIface, .bool false]) w := run_typeAssert_lacksB Tryd.underlying133 (by kernel_rfl) (by kernel_rfl) v xT w
theorem noUnwrapsE (v : Value) (xT : TypeId) (w : World) : (Instr.typeAssert (.iface 47 v) xT 135 true).run Tryd.prog w = .ok (.tuple #[.nilIface, .bool false]) w := run_typeAssert_lacksB Tryd.underlying135 (by kernel_rfl) (by kernel_rfl) v xT w
theorem noAsE (v : Value) (xT : TypeId) (w : World) : (Instr.typeAssert (.iface 47 v) xT 130 true).run Tryd.prog w = .ok (.tuple #[.nilIface, .bool false]) w := run_typeAssert_lacksB Tryd.underlying130 (by kernel_rfl) (by kernel_rfl) v xT w

/-- errors.Is of two numbers. -/
theorem is_nums (a b : Int) (w : World) :
    Calls Tryd.prog 50 #[.iface 47 (.int .i64 a), .iface 47 (.int .i64 b)] w fun e w' => e = .returned (.bool (a == b)) ∧ w' = w := by
  have h8 := @run_callFunc_extern Tryd.prog 70 _ Extern.ReflectliteType.typeOf Tryd.func70 (by kernel_rfl) (by kernel_rfl) (by kernel_rfl) (by kernel_rfl)
  have hC := callComparable
  have tT := typeOfE
  have mR := methodComparable
  have nE := noIsE
  have uE := noUnwrapE
  have vE := noUnwrapsE
  have heq := Go.Lib.run_eql_iface_int (P := Tryd.prog) (k := .i64) w a b Tryd.underlying26 compE Tryd.underlying47
  go_enter Tryd.func50, Tryd.ntmps50
  go_wp2
  refine wp_loop_rounds 1 ?_
  rw [rounds_succ]
  by_cases h : a = b
  · subst h
    simp only [beq_self_eq_true] at heq
    go_wp2
    go_ret
    exact ⟨by simp, rfl⟩
  · have hb : (a == b) = false := by simpa using h
    rw [hb] at heq
    go_wp2
    go_ret
    exact ⟨by rw [hb]; rfl, rfl⟩
end Go.Sh
