/- errors.Is where the error is a fault: what it wraps. -/
import Derived.Test.YteoefjahcbfpeaaDoorErs
namespace Go.Sh
open Go Go.Proofs Go.RowKit Go.Extern.Stop Go.Stop Go.Extern

abbrev faultV (n l a : Int) : Value := .agg #[.int .i64 n, .int .i64 l, .int .i64 a]
theorem noIsF (v : Value) (xT : TypeId) (w : World) : (Instr.typeAssert (.iface 49 v) xT 138 true).run Tryd.prog w = .ok (.tuple #[.nilIface, .bool false]) w := run_typeAssert_lacksB Tryd.underlying138 (by kernel_rfl) (by kernel_rfl) v xT w
theorem unwrapF (v : Value) (xT : TypeId) (w : World) : (Instr.typeAssert (.iface 49 v) xT 133 true).run Tryd.prog w = .ok (.tuple #[.iface 49 v, .bool true]) w := run_typeAssert_hasB Tryd.underlying133 (by kernel_rfl) v xT w
theorem eqlFE (n l a b : Int) (w : World) : (binOp .eql 26 (.iface 49 (faultV n l a)) (.iface 47 (.int .i64 b))).run Tryd.prog w = .ok (.bool false) w := by kernel_rfl
theorem methodUnwrap (v : Value) (w : World) : (Go.method 281 49 v "Unwrap").run Tryd.prog w = .ok (106, v) w := by kernel_rfl
theorem eqlEN (a : Int) (w : World) : (binOp .eql 26 (.iface 47 (.int .i64 a)) .nilIface).run Tryd.prog w = .ok (.bool false) w := by kernel_rfl

/-- errors.Is of a fault and a number. -/
theorem is_fault (n l a b : Int) (w : World) :
    Calls Tryd.prog 50 #[.iface 49 (faultV n l a), .iface 47 (.int .i64 b)] w fun e w' => e = .returned (.bool (n == b)) ∧ ∃ o, w' = w.alloc o := by
  have h8 := @run_callFunc_extern Tryd.prog 70 _ Extern.ReflectliteType.typeOf Tryd.func70 (by kernel_rfl) (by kernel_rfl) (by kernel_rfl) (by kernel_rfl)
  have hC := callComparable
  have tT := typeOfE
  have mR := methodComparable
  have nE := noIsE
  have uE := noUnwrapE
  have vE := noUnwrapsE
  have nF := noIsF
  have uF := unwrapF
  have eF := eqlFE n l a b
  have mU := methodUnwrap
  have eN := eqlEN n
  have heq := fun w => Go.Lib.run_eql_iface_int (P := Tryd.prog) (k := .i64) w n b Tryd.underlying26 compE Tryd.underlying47
  go_enter Tryd.func50, Tryd.ntmps50
  go_wp2
  refine wp_loop_rounds 2 ?_
  rw [rounds_succ]
  by_cases h : n = b
  · subst h
    simp only [beq_self_eq_true] at heq
    go_wp2
    rw [rounds_succ]
    go_wp2
    go_ret
    exact ⟨by simp, _, rfl⟩
  · have hb : (n == b) = false := by simpa using h
    rw [hb] at heq
    go_wp2
    rw [rounds_succ]
    go_wp2
    go_ret
    exact ⟨by rw [hb]; rfl, _, rfl⟩
end Go.Sh
