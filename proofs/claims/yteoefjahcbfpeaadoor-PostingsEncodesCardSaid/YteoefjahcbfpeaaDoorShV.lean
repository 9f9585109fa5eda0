/- Shadow, part 22: this seat's context; lists of numbers, lists of posts. -/
import Derived.Test.YteoefjahcbfpeaaDoorSkC
import Derived.Test.YteoefjahcbfpeaaDoorProg
import Derived.KernelRfl
namespace Go.Sh
open Go Go.Proofs
set_option linter.unusedSimpArgs false

/-- The functions that are walked. -/
noncomputable def walked (g : FuncId) : Option Func := match Tryd.prog.funcs[g]? with
  | some fn => if fn.body.isSome && !(fn.name == "runtime.NumGoroutine") then some fn else none
  | none => none

/-- errors.Is of two numbers; errors.As of a number at a fault's variable. -/
def isPrim (xs : Array Value) (A : AHeap) : Option (Value × AHeap) :=
  match xs.toList with
  | [.iface t (.int .i64 a), .iface u (.int .i64 b)] => if t = 47 ∧ u = 47 then some (.bool (a == b), A) else none
  | _ => none
def asPrim (xs : Array Value) (A : AHeap) : Option (Value × AHeap) :=
  match xs.toList with
  | [.iface t (.int .i64 _), .iface u (.pointer (some ⟨_, _, none⟩))] => if t = 47 ∧ u = 73 then some (.bool false, A) else none
  | _ => none
/-- The same of a fault. -/
def isPrimF (xs : Array Value) (A : AHeap) : Option (Value × AHeap) :=
  match xs.toList with
  | [.iface t (.agg ⟨[.int .i64 n, .int .i64 _, .int .i64 _]⟩), .iface u (.int .i64 b)] => if t = 49 ∧ u = 47 then some (.bool (n == b), A) else none
  | _ => none
noncomputable def asPrimF (xs : Array Value) (A : AHeap) : Option (Value × AHeap) :=
  match xs.toList with
  | [.iface t (.agg ⟨[.int .i64 n, .int .i64 l, .int .i64 a]⟩), .iface u (.pointer (some ⟨b, o, none⟩))] => if t = 49 ∧ u = 73 then
      (aStoreVar Tryd.prog A 49 (.pointer (some ⟨b, o, none⟩)) (.agg #[.int .i64 n, .int .i64 l, .int .i64 a])).map fun A' => (.bool true, A') else none
  | _ => none
/-- Contracts that are proved from nothing: the closed test; what has no body. -/
noncomputable def prims (g : FuncId) (xs : Array Value) (A : AHeap) : Option (Value × AHeap) :=
  if g = 68 then (if xs.size = 1 then some (xs.getD 0 undef, A) else none)
  else if g = 11 then (if xs.size = 0 then some (.bool true, A) else none)
  else if g = 50 then (match isPrim xs A with | some r => some r | none => isPrimF xs A)
  else if g = 41 then (match asPrim xs A with | some r => some r | none => asPrimF xs A)
  else none
/-- A function that is walked. -/
abbrev NotPrim (g : FuncId) : Prop := g ≠ 68 ∧ g ≠ 11
  ∧ g ≠ 50 ∧ g ≠ 41

noncomputable def Kt : Ctx where
  P := Tryd.prog
  funcs := walked
  prim := prims
  same := fun a b => @decide (a = b) (Classical.propDecidable _)

theorem Kt_P : Kt.P = Tryd.prog := rfl
theorem Kt_prim {g : FuncId} (h : NotPrim g) (xs : Array Value) (A : AHeap) : Kt.prim g xs A = none := by
  show prims g xs A = none
  simp [prims, h]

/-! ### Types by short names -/
theorem ya : type_of% Tryd.underlying3 := Tryd.underlying3
theorem yb : type_of% Tryd.underlying2 := Tryd.underlying2
theorem yc : type_of% Tryd.underlying4 := Tryd.underlying4
theorem yd : type_of% Tryd.underlying42 := Tryd.underlying42
theorem ye : type_of% Tryd.underlying44 := Tryd.underlying44
theorem yf : type_of% Tryd.underlying22 := Tryd.underlying22
theorem yg : type_of% Tryd.underlying117 := Tryd.underlying117
theorem yh : type_of% Tryd.underlying118 := Tryd.underlying118
theorem yi : type_of% Tryd.underlying148 := Tryd.underlying148
theorem yj : type_of% Tryd.underlying87 := Tryd.underlying87
theorem yk : type_of% Tryd.underlying151 := Tryd.underlying151
theorem yl : type_of% Tryd.underlying85 := Tryd.underlying85
theorem ym : type_of% Tryd.underlying149 := Tryd.underlying149
/-! ### Types -/
theorem ts_int : tsize Tryd.prog 3 = some 1 := by kernel_rfl
theorem ts_int64 : tsize Tryd.prog 2 = some 1 := by kernel_rfl
theorem ts_bool : tsize Tryd.prog 4 = some 1 := by kernel_rfl
theorem ts_ints : tsize Tryd.prog 42 = some 1 := by kernel_rfl
theorem ts_post : tsize Tryd.prog 44 = some 2 := by kernel_rfl
theorem ts_posts : tsize Tryd.prog 22 = some 1 := by kernel_rfl

/-! ### Numbers -/
def inI64 (x : Int) : Prop := -9223372036854775808 ≤ x ∧ x < 9223372036854775808
def ints (l : List Int) : List Value := l.map (.int .i64)
def Ints (A : AHeap) (v : Value) (l : List Int) : Prop := ElemsC A 3 1 v l.length (ints l) ∧ (∀ x ∈ l, inI64 x) ∧ (l.length : Int) < 9223372036854775808

theorem Ints.dk {A A' : AHeap} (h : ∀ b el cells, Dat A b el cells → Dat A' b el cells) {v : Value} {l : List Int} (hv : Ints A v l) : Ints A' v l := ⟨hv.1.dk h, hv.2⟩
theorem Ints.fr {W : Nat → Prop} {A A' : AHeap} (h : Fr W A A') {v : Value} {l : List Int} (hv : Ints A v l) : Ints A' v l := ⟨hv.1.fr h, hv.2⟩
theorem Ints.opened {A : AHeap} {v : Value} {l : List Int} (h : Ints A v l) : ∃ o c, v = .slice o l.length c ∧ (∀ i < l.length, ∃ b, o = some ⟨b, 0, none⟩ ∧ DatP A b 3 (ints l)) ∧ (∀ x ∈ l, inI64 x) ∧ (l.length : Int) < 9223372036854775808 := by
  obtain ⟨⟨_, h1⟩, h2, h3⟩ := h
  rcases h1 with ⟨hv, h1⟩ | ⟨b, c, rfl, _, h1⟩
  · obtain ⟨o, rfl⟩ := hv.at
    exact ⟨o, 0, by rw [h1], fun i hi => by omega, h2, h3⟩
  · exact ⟨_, c, rfl, fun i _ => ⟨b, rfl, h1⟩, h2, h3⟩
theorem ints_get {l : List Int} {i : Nat} (h : i < l.length) : (ints l)[i]? = some (.int .i64 l[i]) := by simp [ints, h]
theorem DatP.int {A : AHeap} {b i : Nat} {el : TypeId} {l : List Int} (h : DatP A b el (ints l)) (hi : i < l.length) : aLoadVar Tryd.prog A 3 (.pointer (some ⟨b, i, none⟩)) = some (.int .i64 l[i]) :=
  h.load Tryd.underlying3 rfl (ints_get hi)

theorem wrap_i64 {x : Int} (h : -9223372036854775808 ≤ x ∧ x < 9223372036854775808) : IntKind.i64.wrap x = x := by
  obtain ⟨h1, h2⟩ := h
  simp [IntKind.wrap, IntKind.signed, IntKind.bits]
  split <;> omega

/-! ### Posts -/
abbrev PostL := Int × List Int
def postCells (l : List PostL) (vs : List Value) : List Value := (l.zip vs).flatMap fun x => [.int .i64 x.1.1, x.2]
def PostsAs (A : AHeap) (v : Value) (l : List PostL) (vs : List Value) : Prop :=
  vs.length = l.length ∧ ElemsC A 44 2 v l.length (postCells l vs) ∧ (∀ (i : Nat) (h : i < l.length) (h' : i < vs.length), Ints A vs[i] l[i].2 ∧ inI64 l[i].1) ∧ (l.length : Int) < 9223372036854775808
def Posts (A : AHeap) (v : Value) (l : List PostL) : Prop := ∃ vs, PostsAs A v l vs

theorem Posts.dk {A A' : AHeap} (h : ∀ b el cells, Dat A b el cells → Dat A' b el cells) {v : Value} {l : List PostL} (hv : Posts A v l) : Posts A' v l :=
  let ⟨vs, h1, h2, h3, h4⟩ := hv; ⟨vs, h1, h2.dk h, fun i hi hi' => ⟨(h3 i hi hi').1.dk h, (h3 i hi hi').2⟩, h4⟩
theorem Posts.fr {W : Nat → Prop} {A A' : AHeap} (h : Fr W A A') {v : Value} {l : List PostL} (hv : Posts A v l) : Posts A' v l :=
  let ⟨vs, h1, h2, h3, h4⟩ := hv; ⟨vs, h1, h2.fr h, fun i hi hi' => ⟨(h3 i hi hi').1.fr h, (h3 i hi hi').2⟩, h4⟩

theorem postCells_get : ∀ (l : List PostL) (vs : List Value) (i : Nat) (h : i < l.length) (h' : i < vs.length), ((postCells l vs).drop (i * 2)).take 2 = [.int .i64 l[i].1, vs[i]] ∧ i * 2 + 2 ≤ (postCells l vs).length
  | [], _, _, h, _ => by simp at h
  | _ :: _, [], _, _, h' => by simp at h'
  | p :: l, u :: vs, 0, _, _ => by simp [postCells]
  | p :: l, u :: vs, i + 1, h, h' => by
    have ih := postCells_get l vs i (by simpa using h) (by simpa using h')
    have e : postCells (p :: l) (u :: vs) = [.int .i64 p.1, u] ++ postCells l vs := by simp [postCells]
    rw [e]
    refine ⟨?_, by simp only [List.length_append,List.length_cons,List.length_nil]; omega⟩
    rw [show (i + 1) * 2 = 2 + i * 2 by omega, List.drop_append, List.drop_of_length_le (by simp)]
    simpa using ih.1

theorem Posts.opened {A : AHeap} {v : Value} {l : List PostL} (h : Posts A v l) : ∃ o c, v = .slice o l.length c ∧ (l.length : Int) < 9223372036854775808 ∧
    (∀ i, (h : i < l.length) → ∃ b u, o = some ⟨b, 0, none⟩ ∧ aLoadVar Tryd.prog A 44 (.pointer (some ⟨b, i * 2, none⟩)) = some (.agg #[.int .i64 l[i].1, u]) ∧
      aLoadVar Tryd.prog A 2 (.pointer (some ⟨b, i * 2, none⟩)) = some (.int .i64 l[i].1) ∧ aLoadVar Tryd.prog A 42 (.pointer (some ⟨b, i * 2 + 1, none⟩)) = some u ∧ Ints A u l[i].2 ∧ inI64 l[i].1) := by
  obtain ⟨vs, h0, ⟨_, h1⟩, h2, h3⟩ := h
  rcases h1 with ⟨hv, h1⟩ | ⟨b, c, rfl, _, h1⟩
  · obtain ⟨o, rfl⟩ := hv.at
    exact ⟨o, 0, by rw [h1], h3, fun i hi => by omega⟩
  · refine ⟨_, c, rfl, h3, fun i hi => ?_⟩
    have hi' : i < vs.length := by omega
    obtain ⟨g1, g2⟩ := postCells_get l vs i hi hi'
    have k1 : (postCells l vs)[i * 2]? = some (.int .i64 l[i].1) := by
      have : (((postCells l vs).drop (i * 2)).take 2)[0]? = some (.int .i64 l[i].1) := by rw [g1]; rfl
      simpa using this
    have k2 : (postCells l vs)[i * 2 + 1]? = some vs[i] := by
      have : (((postCells l vs).drop (i * 2)).take 2)[1]? = some vs[i] := by rw [g1]; rfl
      simpa using this
    refine ⟨b, vs[i], rfl, ?_, h1.load Tryd.underlying2 rfl k1, h1.load Tryd.underlying42 rfl k2, h2 i hi hi'⟩
    rw [h1.loadAgg Tryd.underlying44 rfl ts_post g2, g1]
end Go.Sh
